/- The order of accum's runs: by their begin. -/
import Derived.Test.YtiepcikippcfaaaM0
set_option linter.unusedVariables false
namespace Go.Proofs.Ytiepcikippcfaaa.M
open Go.GW Go.Proofs
theorem cmpM_accum_join_1 : CmpM pc_accum_join_1 accum_join_1.f cf_accum_join_1 := by
  refine ⟨fun x y _ _ => ?_, fun x _ => ?_, fun x y z _ _ _ => ?_, fun x y z _ _ _ => ?_⟩
  · simp only [accum_join_1.f, cmp_Compare__int.f, cmp_isNaN__int.f, cf_accum_join_1, decide_true, Bool.not_true, Option.bind_some, Bool.false_eq_true, if_false, decide_eq_true_eq]
    split
    · rfl
    · split <;> rfl
  · simp [cf_accum_join_1]
  · unfold cf_accum_join_1; split <;> split <;> split <;> (try split) <;> (try split) <;> (try split) <;> omega
  · unfold cf_accum_join_1; split <;> split <;> split <;> (try split) <;> (try split) <;> (try split) <;> omega
end Go.Proofs.Ytiepcikippcfaaa.M
