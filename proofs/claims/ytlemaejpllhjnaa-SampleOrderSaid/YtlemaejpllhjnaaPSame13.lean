/- Comparing lists: what the reference comes to. -/
import Derived.Test.YtlemaejpllhjnaaPSamp
set_option linter.unusedVariables false
set_option linter.unusedSimpArgs false
set_option maxRecDepth 100000
namespace Go.Proofs.Ytlemaejpllhjnaa.M
open Go.GW Go.Proofs
theorem findSome_none {α β : Type} (l : List α) : l.findSome? (fun _ => (none : Option β)) = none := List.findSome?_eq_none_iff.2 fun _ _ => rfl
theorem same_self (s : List Int) (hl : s.length ≤ 300) : ref13_Same.f s s = some true := by
  unfold ref13_Same.f
  simp only [decide_true, Bool.not_true, Bool.false_eq_true, if_false]
  rw [iter_find s (fun i => i) (fun _ => (none : Option Bool)) ()]
  · rw [findSome_none]; simp [fin, ref13_Same.k2]
  · intro i hi
    unfold ref13_Same.s1
    simp only [decide_eq_true_eq, if_pos (show (i : Int) < (s.length : Int) by omega), if_pos (show (0 : Int) ≤ i ∧ (i : Int) < (s.length : Int) by omega)]
    rw [w64_id (by omega) (by omega)]
    simp
  · simp [ref13_Same.s1]
end Go.Proofs.Ytlemaejpllhjnaa.M
