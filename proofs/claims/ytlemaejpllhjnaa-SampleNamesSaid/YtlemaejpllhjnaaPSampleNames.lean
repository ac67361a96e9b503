/- The plain law of SampleNames: the limits and errors, reckoned. -/
import Derived.Test.YtlemaejpllhjnaaC0
set_option linter.unusedVariables false
set_option maxRecDepth 100000
namespace Go.Proofs.Ytlemaejpllhjnaa.M
open Go.GW Go.Proofs
theorem names_c : law13_SampleNames.f_c = some true := by kernel_rfl
theorem sampleNames_law : law13_SampleNames.f = some true := law13_SampleNames.f_le _ names_c
end Go.Proofs.Ytlemaejpllhjnaa.M
