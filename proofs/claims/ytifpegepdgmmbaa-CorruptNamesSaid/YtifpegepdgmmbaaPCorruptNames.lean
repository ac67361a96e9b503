/- The plain law of CorruptNames: the limits and errors, reckoned. -/
import Derived.Test.YtifpegepdgmmbaaC0
set_option linter.unusedVariables false
set_option maxRecDepth 100000
namespace Go.Proofs.Ytifpegepdgmmbaa.M
open Go.GW Go.Proofs
theorem names_c : law35_CorruptNames.f_c = some true := by kernel_rfl
theorem corruptNames_law : law35_CorruptNames.f = some true := law35_CorruptNames.f_le _ names_c
end Go.Proofs.Ytifpegepdgmmbaa.M
