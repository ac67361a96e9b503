/- The plain law of JonesReckons: the models of the program and of the reference come to the same answers. -/
import Derived.Test.YtlfmmenlkpoodaaPCxInv
set_option linter.unusedVariables false
namespace Go.Proofs.Ytlfmmenlkpoodaa.M
open Go.GW Go.Proofs
theorem jonesReckons_law (x0 : (A4 Cx)) (k0 : (ok_Cx x0.e0) ∧ (ok_Cx x0.e1) ∧ (ok_Cx x0.e2) ∧ (ok_Cx x0.e3)) (x1 : (A4 Cx)) (k1 : (ok_Cx x1.e0) ∧ (ok_Cx x1.e1) ∧ (ok_Cx x1.e2) ∧ (ok_Cx x1.e3)) : law33_JonesReckons.f x0 x1 = some true := by
  unfold law33_JonesReckons.f
  simp only [jones_mul_eq, ref_mulJ_eq, jones_Adj_eq, ref_Adj_eq, jones_det_eq, ref_det_eq, jones_tr_eq, ref_tr_eq, jones_inv_eq, ref_inv_eq, Option.bind_some, decide_true, if_true]
end Go.Proofs.Ytlfmmenlkpoodaa.M
