/- Lists of the worker: blocks are counted, a block's samples. -/
import Derived.Test.YtafploedondfpaaPSum
import Derived.Test.YtafploedondfpaaGw18
set_option linter.unusedVariables false
set_option linter.unusedSimpArgs false
namespace Go.Proofs.Ytafploedondfpaa.M
open Go.GW Go.Proofs
theorem lt_ceil {L S n : Nat} (hS : 1 ≤ S) : n < (L + S - 1) / S ↔ n * S < L := by
  have h : n + 1 ≤ (L + S - 1) / S ↔ (n + 1) * S ≤ L + S - 1 := Nat.le_div_iff_mul_le hS
  rw [Nat.add_mul, Nat.one_mul] at h
  omega
theorem div_eq {k S b : Nat} (hS : 1 ≤ S) : k / S = b ↔ b * S ≤ k ∧ k < (b + 1) * S := by
  have h1 : b ≤ k / S ↔ b * S ≤ k := Nat.le_div_iff_mul_le hS
  have h2 : k / S < b + 1 ↔ k < (b + 1) * S := Nat.div_lt_iff_lt_mul hS
  omega
/-- The samples of a block, and nothing else. -/
def ownL (X : List Int) (S b : Nat) : List Int := (List.range X.length).map fun k => if k / S = b then X.getD k 0 else 0
theorem length_ownL (X : List Int) (S b : Nat) : (ownL X S b).length = X.length := by simp [ownL]
theorem cut_rest (X : List Int) (a : Nat) (h : a ≤ X.length) : cpy (List.replicate X.length 0) a (X.length - a) (X.drop a) = List.replicate a 0 ++ X.drop a := by
  unfold cpy
  have h1 : min (X.drop a).length (X.length - a) = X.length - a := by rw [List.length_drop]; omega
  have h2 : (X.drop a).take (X.length - a) = X.drop a := List.take_of_length_le (by rw [List.length_drop]; omega)
  rw [h1, h2, show a + (X.length - a) = X.length by omega, List.take_replicate, List.drop_replicate]
  simp [Nat.min_eq_left h]
theorem cut_first (x : List Int) (a : Nat) (h : a ≤ x.length) : cpy (List.replicate x.length 0) 0 a x = x.take a ++ List.replicate (x.length - a) 0 := by
  unfold cpy
  have h1 : min x.length a = a := by omega
  rw [h1, Nat.zero_add, List.drop_replicate]
  simp
theorem part_own (X : List Int) (S b : Nat) (hS : 1 ≤ S) (hb : b * S < X.length) :
    (List.replicate (b * S) 0 ++ X.drop (b * S)).take (min X.length ((b + 1) * S)) ++ List.replicate (X.length - min X.length ((b + 1) * S)) 0 = ownL X S b := by
  apply List.ext_getElem?
  intro k
  have hd := div_eq (k := k) (S := S) (b := b) hS
  have hm : (b + 1) * S = b * S + S := by rw [Nat.add_mul, Nat.one_mul]
  rw [hm] at hd ⊢
  simp only [ownL, List.getElem?_append, List.getElem?_take, List.getElem?_map, List.getElem?_range, List.length_take, List.length_append, List.length_replicate, List.length_drop, List.getElem?_replicate, List.getElem?_drop]
  generalize b * S = c at *
  by_cases hk : k < X.length
  · have hx : X[k]? = some X[k] := List.getElem?_eq_getElem hk
    by_cases h1 : k < min X.length (c + S)
    · rw [if_pos (by omega), if_pos h1]
      by_cases h2 : k < c
      · rw [if_pos h2, if_pos h2]
        simp [hk, show ¬ k / S = b by omega]
      · rw [if_neg h2, show c + (k - c) = k by omega, hx]
        simp [hk, show k / S = b by omega]
    · rw [if_neg (by omega), if_pos (by omega)]
      simp [hk, show ¬ k / S = b by omega]
  · rw [if_neg (by omega), if_neg (by omega)]
    simp [hk]
end Go.Proofs.Ytafploedondfpaa.M
