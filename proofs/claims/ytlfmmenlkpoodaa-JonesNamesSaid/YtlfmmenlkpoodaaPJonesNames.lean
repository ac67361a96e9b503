/- The plain law of JonesNames: the limits and errors, reckoned. -/
import Derived.Test.YtlfmmenlkpoodaaC0
set_option linter.unusedVariables false
set_option maxRecDepth 100000
namespace Go.Proofs.Ytlfmmenlkpoodaa.M
open Go.GW Go.Proofs
theorem names_c : law33_JonesNames.f_c = some true := by kernel_rfl
theorem jonesNames_law : law33_JonesNames.f = some true := law33_JonesNames.f_le _ names_c
end Go.Proofs.Ytlfmmenlkpoodaa.M
