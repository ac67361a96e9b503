/- Streams of samples: both checks (the part of PSampleTells that stands alone). -/
import Derived.Test.YtlemaejpllhjnaaM0
import Derived.Test.YtlemaejpllhjnaaGp1
set_option linter.unusedVariables false
set_option linter.unusedSimpArgs false
set_option maxRecDepth 100000
namespace Go.Proofs.Ytlemaejpllhjnaa.M
open Go.GW Go.Proofs

def dig (x : Int) : Int := if x = 0 then 0 else if x = -3 then 1 else if x = -1 then 2 else if x = 1 then 3 else if x = 3 then 4 else -1

theorem samp_digit (x : Int) : sample_digit.f x = some (dig x) := by
  simp only [sample_digit.f, slices_Index__int_int.f]
  rw [iter_findIdx [0, (-3), (-1), 1, 3] (fun i => i) (fun y => decide (x = y)) ()]
  · unfold dig
    by_cases h0 : x = 0
    · subst h0; rfl
    by_cases h1 : x = -3
    · subst h1; rfl
    by_cases h2 : x = -1
    · subst h2; rfl
    by_cases h3 : x = 1
    · subst h3; rfl
    by_cases h4 : x = 3
    · subst h4; rfl
    simp [h0, h1, h2, h3, h4, fin, slices_Index__int_int.k2]
  · intro i hi
    unfold slices_Index__int_int.s1
    rw [ix_at hi]
    have h1 : (i : Int) < (([0, (-3), (-1), 1, 3] : List Int).length : Int) := by omega
    have hl : ([0, (-3), (-1), 1, 3] : List Int).length = 5 := rfl
    simp only [decide_eq_true_eq, if_pos h1, if_pos (show (0 : Int) ≤ i ∧ (i : Int) < (([0, (-3), (-1), 1, 3] : List Int).length : Int) by omega)]
    rw [w64_id (by omega) (by omega)]
    split <;> rfl
  · rfl

theorem dig_range (x : Int) : -1 ≤ dig x ∧ dig x ≤ 4 := by unfold dig; repeat' split
                                                           all_goals omega
def bad (s : List Int) : Bool := s.any fun x => decide (dig x < 0)
def chk (s : List Int) : Int := if 256 < s.length then 4 else if bad s then 8 else 0

theorem samp_check (s : List Int) : sample_Check.f s = some (chk s) := by
  unfold sample_Check.f chk
  by_cases hl : 256 < s.length
  · have h : (256 : Int) < s.length := by omega
    simp [h, hl]
  · have h : ¬ (256 : Int) < s.length := by omega
    simp only [h, hl, decide_false, Bool.false_eq_true, if_false]
    unfold slices_ContainsFunc__int_int__sample_Check_1.f slices_IndexFunc__int_int__sample_Check_1.f
    rw [iter_findIdx s (fun i => i) (fun x => decide (dig x < 0)) ()]
    · unfold bad
      by_cases hb : s.any (fun x => decide (dig x < 0)) = true
      · simp only [if_pos hb, fin, Option.bind_some]
        have : (0 : Int) ≤ ((List.findIdx (fun x => decide (dig x < 0)) s : Nat) : Int) := by omega
        simp [this]
      · simp only [if_neg hb, fin, Option.bind_some, slices_IndexFunc__int_int__sample_Check_1.k2]
        simp
    · intro i hi
      unfold slices_IndexFunc__int_int__sample_Check_1.s1 sample_Check_1.f
      rw [ix_at hi, samp_digit]
      simp only [decide_eq_true_eq, if_pos (show (i : Int) < (s.length : Int) by omega), if_pos (show (0 : Int) ≤ i ∧ (i : Int) < (s.length : Int) by omega), Option.bind_some]
      rw [w64_id (by omega) (by omega)]
      split <;> rfl
    · simp [slices_IndexFunc__int_int__sample_Check_1.s1]

theorem chk_ok {s : List Int} (h : chk s = 0) : s.length ≤ 256 ∧ ∀ x ∈ s, 0 ≤ dig x := by
  unfold chk at h
  split at h
  · cases h
  · split at h
    · cases h
    · rename_i h1 h2
      refine ⟨by omega, fun x hx => ?_⟩
      unfold bad at h2
      simp at h2
      exact h2 x hx

end Go.Proofs.Ytlemaejpllhjnaa.M
