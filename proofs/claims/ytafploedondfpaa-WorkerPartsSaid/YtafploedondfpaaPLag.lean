/- Lags: what both of the program's and the reference's loops sum. -/
import Derived.Test.YtafploedondfpaaPSum
import Derived.Test.YtafploedondfpaaM0
set_option linter.unusedVariables false
set_option linter.unusedSimpArgs false
namespace Go.Proofs.Ytafploedondfpaa.M
open Go.GW Go.Proofs
def tabL {α : Type} (n : Nat) (f : Nat → α) : List α := (List.range n).map f
theorem length_tabL {α : Type} (n : Nat) (f : Nat → α) : (tabL n f).length = n := by simp [tabL]
theorem ix_tabL {α : Type} [Inhabited α] {n : Nat} (f : Nat → α) {j : Nat} (h : j < n) : ix (tabL n f) (j : Int) = f j := by
  simp [ix, tabL, List.getD_eq_getElem?_getD, List.getElem?_map, List.getElem?_range, h]
theorem tabL_congr {α : Type} {n : Nat} {f g : Nat → α} (h : ∀ d, d < n → f d = g d) : tabL n f = tabL n g := by
  unfold tabL
  exact List.map_congr_left fun d hd => h d (List.mem_range.1 hd)
theorem tabL_set {α : Type} (n : Nat) (f : Nat → α) (j : Nat) (v : α) : (tabL n f).set j v = tabL n (fun d => if d = j then v else f d) := by
  apply List.ext_getElem?
  intro k
  simp only [tabL, List.getElem?_set, List.getElem?_map, List.getElem?_range, List.length_map, List.length_range]
  by_cases hk : k < n
  · by_cases hj : j = k
    · subst hj; simp [hk]
    · simp [hk, hj, show ¬ k = j from fun h => hj h.symm]
  · by_cases hj : j = k
    · subst hj; simp [hk]
    · simp [hk, hj]
theorem replicate_tabL {α : Type} (n : Nat) (v : α) : List.replicate n v = tabL n (fun _ => v) := by
  apply List.ext_getElem?
  intro k
  simp only [tabL, List.getElem?_replicate, List.getElem?_map, List.getElem?_range]
  by_cases hk : k < n <;> simp [hk]
/-- The product that counts for the lag l at place i. -/
def lagT (x y : List Int) (l : Int) (i : Nat) : Int := if 0 ≤ (i : Int) + l ∧ (i : Int) + l < (y.length : Int) then ix x (i : Int) * ix y ((i : Int) + l) else 0
def nz (p : Int) : Int := if p = 0 then 0 else 1
def lagS (x y : List Int) (m : Nat) : List Lag := tabL (2 * m + 1) fun d => ⟨sumN (lagT x y ((d : Int) - m)) x.length, sumN (fun i => nz (lagT x y ((d : Int) - m) i)) x.length⟩
/-- The samples are small. -/
def Small (x : List Int) : Prop := ∀ i : Int, -3 ≤ ix x i ∧ ix x i ≤ 3
theorem mul_small {a b : Int} (ha : -3 ≤ a ∧ a ≤ 3) (hb : -3 ≤ b ∧ b ≤ 3) : -9 ≤ a * b ∧ a * b ≤ 9 := by
  have h1 : (a * b).natAbs ≤ 3 * 3 := by
    rw [Int.natAbs_mul]
    exact Nat.mul_le_mul (by omega) (by omega)
  omega
theorem lagT_small {x y : List Int} (hx : Small x) (hy : Small y) (l : Int) (i : Nat) : -9 ≤ lagT x y l i ∧ lagT x y l i ≤ 9 := by
  unfold lagT
  split
  · exact mul_small (hx _) (hy _)
  · omega
theorem nz_small (p : Int) : -1 ≤ nz p ∧ nz p ≤ 1 := by unfold nz; split <;> omega
/-! ### The reference's loops -/
def refE (x y : List Int) (m : Nat) (i k : Nat) (d : Nat) : Lag :=
  ⟨sumN (lagT x y ((d : Int) - m)) i + sumN (fun k' => if (k' : Int) = (i : Int) + ((d : Int) - m) then ix x (i : Int) * ix y (k' : Int) else 0) k,
   sumN (fun i => nz (lagT x y ((d : Int) - m) i)) i + sumN (fun k' => if (k' : Int) = (i : Int) + ((d : Int) - m) then nz (ix x (i : Int) * ix y (k' : Int)) else 0) k⟩
def refAt (x y : List Int) (m : Nat) (i k : Nat) : List Lag := tabL (2 * m + 1) (refE x y m i k)
theorem nz_zero : nz 0 = 0 := rfl
theorem refE_row (x y : List Int) (m i d : Nat) : refE x y m i y.length d = refE x y m (i + 1) 0 d := by
  unfold refE
  have h1 := sumN_pick (g := fun k' => ix x (i : Int) * ix y (k' : Int)) ((i : Int) + ((d : Int) - m)) y.length
  have h2 := sumN_pick (g := fun k' => nz (ix x (i : Int) * ix y (k' : Int))) ((i : Int) + ((d : Int) - m)) y.length
  rw [h1, h2]
  simp only [sumN]
  unfold lagT
  by_cases h : 0 ≤ (i : Int) + ((d : Int) - m) ∧ (i : Int) + ((d : Int) - m) < (y.length : Int)
  · simp only [if_pos h, Int.toNat_of_nonneg h.1, Int.add_zero]
  · simp only [if_neg h, nz_zero, Int.add_zero]
theorem refAt_row (x y : List Int) (m i : Nat) : refAt x y m i y.length = refAt x y m (i + 1) 0 := tabL_congr fun d _ => refE_row x y m i d
theorem refAt_skip {x y : List Int} {m i k : Nat} (h : (k : Int) - i < -(m : Int) ∨ (m : Int) < (k : Int) - i ∨ ix x (i : Int) = 0 ∨ ix y (k : Int) = 0) : refAt x y m i (k + 1) = refAt x y m i k := by
  refine tabL_congr fun d hd => ?_
  unfold refE
  simp only [sumN]
  by_cases he : (k : Int) = (i : Int) + ((d : Int) - m)
  · have hz : ix x (i : Int) * ix y (k : Int) = 0 := by
      rcases h with h | h | h | h
      · omega
      · omega
      · rw [h, Int.zero_mul]
      · rw [h, Int.mul_zero]
    simp only [if_pos he, hz, nz_zero, Int.add_zero]
  · simp only [if_neg he, Int.add_zero]
theorem refAt_step {x y : List Int} {m i k j : Nat} (hj : (j : Int) = (k : Int) - i + m) (hx : ¬ ix x (i : Int) = 0) (hy : ¬ ix y (k : Int) = 0) :
    (refAt x y m i k).set j ⟨(refE x y m i k j).Sum + ix x (i : Int) * ix y (k : Int), (refE x y m i k j).N + 1⟩ = refAt x y m i (k + 1) := by
  unfold refAt
  rw [tabL_set]
  refine tabL_congr fun d hd => ?_
  have hp : ¬ ix x (i : Int) * ix y (k : Int) = 0 := fun h => by rcases Int.mul_eq_zero.1 h with h | h; exact hx h; exact hy h
  have hn : nz (ix x (i : Int) * ix y (k : Int)) = 1 := if_neg hp
  by_cases he : d = j
  · subst he
    rw [if_pos rfl]
    unfold refE
    simp only [sumN, if_pos (show (k : Int) = (i : Int) + ((d : Int) - m) by omega), hn, Int.add_assoc]
  · rw [if_neg he]
    unfold refE
    simp only [sumN, if_neg (show ¬ (k : Int) = (i : Int) + ((d : Int) - m) by omega), Int.add_zero]
theorem refAt_00 (x y : List Int) (m : Nat) : refAt x y m 0 0 = List.replicate (2 * m + 1) ⟨0, 0⟩ := by
  rw [replicate_tabL]
  rfl
theorem refAt_end (x y : List Int) (m : Nat) : refAt x y m x.length 0 = lagS x y m := by
  unfold refAt lagS
  refine tabL_congr fun d _ => ?_
  unfold refE
  simp only [sumN, Int.add_zero]
theorem refE_small {x y : List Int} (hx : Small x) (hy : Small y) {m i k d : Nat} (hi : i ≤ 256) (hk : k ≤ 256) : -9000 ≤ (refE x y m i k d).Sum ∧ (refE x y m i k d).Sum ≤ 9000 ∧ -9000 ≤ (refE x y m i k d).N ∧ (refE x y m i k d).N ≤ 9000 := by
  unfold refE
  have h1 := sumN_bound (f := lagT x y ((d : Int) - m)) (b := 9) (n := i) fun j _ => lagT_small hx hy _ j
  have h2 := sumN_bound (f := fun k' => if (k' : Int) = (i : Int) + ((d : Int) - m) then ix x (i : Int) * ix y (k' : Int) else 0) (b := 9) (n := k) fun j _ => by
    split
    · exact mul_small (hx _) (hy _)
    · omega
  have h3 := sumN_bound (f := fun i => nz (lagT x y ((d : Int) - m) i)) (b := 1) (n := i) fun j _ => nz_small _
  have h4 := sumN_bound (f := fun k' => if (k' : Int) = (i : Int) + ((d : Int) - m) then nz (ix x (i : Int) * ix y (k' : Int)) else 0) (b := 1) (n := k) fun j _ => by
    split
    · exact nz_small _
    · omega
  simp only
  omega

/-! ### The program's loops -/
def impE (x y : List Int) (m : Nat) (a k : Nat) (d : Nat) : Lag :=
  if d < a then ⟨sumN (lagT x y ((d : Int) - m)) x.length, sumN (fun i => nz (lagT x y ((d : Int) - m) i)) x.length⟩
  else if d = a then ⟨sumN (lagT x y ((a : Int) - m)) k, sumN (fun i => nz (lagT x y ((a : Int) - m) i)) k⟩ else ⟨0, 0⟩
def impAt (x y : List Int) (m : Nat) (a k : Nat) : List Lag := tabL (2 * m + 1) (impE x y m a k)
theorem impAt_row (x y : List Int) (m a : Nat) : impAt x y m a x.length = impAt x y m (a + 1) 0 := by
  refine tabL_congr fun d _ => ?_
  unfold impE
  by_cases h1 : d < a
  · rw [if_pos h1, if_pos (by omega)]
  · rw [if_neg h1]
    by_cases h2 : d = a
    · subst h2
      rw [if_pos rfl, if_pos (by omega)]
    · rw [if_neg h2, if_neg (by omega)]
      by_cases h3 : d = a + 1
      · rw [if_pos h3]; rfl
      · rw [if_neg h3]
theorem impAt_skip {x y : List Int} {m a k : Nat} (h : lagT x y ((a : Int) - m) k = 0) : impAt x y m a (k + 1) = impAt x y m a k := by
  refine tabL_congr fun d _ => ?_
  unfold impE
  simp only [sumN, h, nz_zero, Int.add_zero]
theorem impE_at (x y : List Int) (m a k : Nat) : impE x y m a k a = ⟨sumN (lagT x y ((a : Int) - m)) k, sumN (fun i => nz (lagT x y ((a : Int) - m) i)) k⟩ := by
  unfold impE
  rw [if_neg (by omega), if_pos rfl]
theorem impAt_step {x y : List Int} {m a k : Nat} (h : ¬ lagT x y ((a : Int) - m) k = 0) :
    (impAt x y m a k).set a ⟨(impE x y m a k a).Sum + lagT x y ((a : Int) - m) k, (impE x y m a k a).N + 1⟩ = impAt x y m a (k + 1) := by
  unfold impAt
  rw [tabL_set]
  refine tabL_congr fun d _ => ?_
  have hn : nz (lagT x y ((a : Int) - m) k) = 1 := if_neg h
  by_cases he : d = a
  · subst he
    rw [if_pos rfl, impE_at, impE_at]
    simp only [sumN, hn]
  · rw [if_neg he]
    unfold impE
    simp only [if_neg he]
theorem impAt_00 (x y : List Int) (m : Nat) : impAt x y m 0 0 = List.replicate (2 * m + 1) ⟨0, 0⟩ := by
  rw [replicate_tabL]
  refine tabL_congr fun d _ => ?_
  unfold impE
  rw [if_neg (by omega)]
  split <;> rfl
theorem impAt_end (x y : List Int) (m : Nat) : impAt x y m (2 * m + 1) 0 = lagS x y m := by
  unfold impAt lagS
  refine tabL_congr fun d hd => ?_
  unfold impE
  rw [if_pos hd]
theorem impE_small {x y : List Int} (hx : Small x) (hy : Small y) {m a k : Nat} (hk : k ≤ 256) : -9000 ≤ (impE x y m a k a).Sum ∧ (impE x y m a k a).Sum ≤ 9000 ∧ -9000 ≤ (impE x y m a k a).N ∧ (impE x y m a k a).N ≤ 9000 := by
  rw [impE_at]
  have h1 := sumN_bound (f := lagT x y ((a : Int) - m)) (b := 9) (n := k) fun j _ => lagT_small hx hy _ j
  have h3 := sumN_bound (f := fun i => nz (lagT x y ((a : Int) - m) i)) (b := 1) (n := k) fun j _ => nz_small _
  simp only
  omega
end Go.Proofs.Ytafploedondfpaa.M
