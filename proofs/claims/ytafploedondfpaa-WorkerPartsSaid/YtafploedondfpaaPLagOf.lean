/- The lags of two streams: the program's and the reference's loops end in one list. -/
import Derived.Test.YtafploedondfpaaPLag
import Derived.Test.YtafploedondfpaaPSamp
set_option linter.unusedVariables false
set_option linter.unusedSimpArgs false
set_option maxRecDepth 100000
namespace Go.Proofs.Ytafploedondfpaa.M
open Go.GW Go.Proofs
theorem dig_small {x : Int} (h : 0 ≤ dig x) : -3 ≤ x ∧ x ≤ 3 := by
  unfold dig at h
  repeat' split at h
  all_goals omega
theorem small_of {s : List Int} (h : chk s = 0) : Small s := by
  intro i
  obtain ⟨_, h2⟩ := chk_ok h
  unfold ix
  rw [List.getD_eq_getElem?_getD]
  cases hg : s[i.toNat]? with
  | none => exact ⟨by decide, by decide⟩
  | some v => exact dig_small (h2 v (List.mem_of_getElem? hg))
theorem ix_set {xs : List Lag} {a : Nat} (h : a < xs.length) (v : Lag) : ix (xs.set a v) (a : Int) = v := by
  simp [ix, List.getD_eq_getElem?_getD, List.getElem?_set, h]
theorem imp_len (x y : List Int) (m a k : Nat) : (impAt x y m a k).length = 2 * m + 1 := length_tabL _ _
theorem ref_len (x y : List Int) (m i k : Nat) : (refAt x y m i k).length = 2 * m + 1 := length_tabL _ _
theorem w2m {m : Nat} (hm : m ≤ 255) : w64 (w64 (2 * (m : Int)) + 1) = ((2 * m + 1 : Nat) : Int) := by
  rw [w64_id (x := 2 * (m : Int)) (by omega) (by omega), w64_id (by omega) (by omega)]
  push_cast
  rfl

/-! ### The program -/
theorem lag_step {x y : List Int} {m a k : Nat} (hx : chk x = 0) (hy : chk y = 0) (hm : m ≤ 255) (ha : a < 2 * m + 1) (hk : k < x.length) :
    lag_Of.s55 x y (a : Int) ((a : Int) - m) (impAt x y m a k) (k : Int) = some (.next (impAt x y m a (k + 1), ((k + 1 : Nat) : Int))) := by
  obtain ⟨lx, _⟩ := chk_ok hx
  obtain ⟨ly, _⟩ := chk_ok hy
  have sx := small_of hx
  have sy := small_of hy
  have hk' : (k : Int) < (x.length : Int) := by omega
  have wk : w64 ((k : Int) + 1) = ((k + 1 : Nat) : Int) := by rw [w64_id (by omega) (by omega)]; push_cast; rfl
  have wl : w64 ((k : Int) + ((a : Int) - m)) = (k : Int) + ((a : Int) - m) := w64_id (by omega) (by omega)
  have hskip : lagT x y ((a : Int) - m) k = 0 → lag_Of.k58 (k : Int) (impAt x y m a k) = some (.next (impAt x y m a (k + 1), ((k + 1 : Nat) : Int))) := by
    intro h
    unfold lag_Of.k58
    rw [wk, impAt_skip h]
  unfold lag_Of.s55
  rw [decide_eq_true hk', if_pos rfl, wl]
  by_cases h1 : (k : Int) + ((a : Int) - m) < 0
  · rw [decide_eq_true h1, if_pos rfl]
    unfold lag_Of.k59
    rw [if_pos rfl]
    exact hskip (if_neg (by omega))
  rw [decide_eq_false h1, if_neg Bool.false_ne_true]
  by_cases h2 : (y.length : Int) ≤ (k : Int) + ((a : Int) - m)
  · rw [decide_eq_true h2]
    unfold lag_Of.k59
    rw [if_pos rfl]
    exact hskip (if_neg (by omega))
  rw [decide_eq_false h2]
  unfold lag_Of.k59
  have hp : ix x (k : Int) * ix y ((k : Int) + ((a : Int) - m)) = lagT x y ((a : Int) - m) k := (if_pos ⟨by omega, by omega⟩).symm
  have hps := lagT_small sx sy ((a : Int) - m) k
  rw [if_neg Bool.false_ne_true, if_pos ⟨by omega, hk'⟩, wl, if_pos ⟨by omega, by omega⟩, hp, w64_id (x := lagT x y ((a : Int) - m) k) (by omega) (by omega)]
  by_cases h3 : lagT x y ((a : Int) - m) k = 0
  · simp only [lt', h3, decide_true, Bool.not_true, Bool.false_eq_true, if_false]
    exact hskip h3
  · have e1 : ix (impAt x y m a k) (a : Int) = impE x y m a k a := ix_tabL _ ha
    have es := impE_small sx sy (m := m) (a := a) (k := k) (by omega)
    simp only [lt', h3, decide_false, Bool.not_false, if_true]
    rw [if_pos ⟨by omega, by rw [imp_len]; omega⟩, Int.toNat_natCast, e1, w64_id (x := (impE x y m a k a).Sum + lagT x y ((a : Int) - m) k) (by omega) (by omega), if_pos ⟨by omega, by rw [List.length_set, imp_len]; omega⟩, ix_set (by rw [imp_len]; exact ha), List.set_set]
    dsimp only
    rw [w64_id (x := (impE x y m a k a).N + 1) (by omega) (by omega), impAt_step h3]
    unfold lag_Of.k58
    rw [wk]
theorem lag_inner {x y : List Int} {m a : Nat} (hx : chk x = 0) (hy : chk y = 0) (hm : m ≤ 255) (ha : a < 2 * m + 1) : ∀ (r k : Nat), k + r = x.length →
    iter (fun (s : (List Lag) × Int) => lag_Of.s55 x y (a : Int) ((a : Int) - m) s.1 s.2) (impAt x y m a k, (k : Int)) = some (.brk (impAt x y m (a + 1) 0))
  | 0, k, h => by
    have hk : ¬ (k : Int) < (x.length : Int) := by omega
    rw [iter_brk (t := impAt x y m a k) (by show lag_Of.s55 x y (a : Int) ((a : Int) - m) (impAt x y m a k) (k : Int) = _; unfold lag_Of.s55; rw [decide_eq_false hk, if_neg Bool.false_ne_true]), show k = x.length by omega, impAt_row]
  | r + 1, k, h => by
    rw [iter_next (s' := (impAt x y m a (k + 1), ((k + 1 : Nat) : Int))) (lag_step hx hy hm ha (by omega))]
    exact lag_inner hx hy hm ha r (k + 1) (by omega)
theorem lag_row {x y : List Int} {m a : Nat} (hx : chk x = 0) (hy : chk y = 0) (hm : m ≤ 255) (ha : a < 2 * m + 1) :
    lag_Of.s44 x y (m : Int) (impAt x y m a 0) (a : Int) = some (.next (impAt x y m (a + 1) 0, ((a + 1 : Nat) : Int))) := by
  have wa : w64 ((a : Int) + 1) = ((a + 1 : Nat) : Int) := by rw [w64_id (by omega) (by omega)]; push_cast; rfl
  have wl : w64 ((a : Int) - m) = (a : Int) - m := w64_id (by omega) (by omega)
  have hi := lag_inner hx hy hm ha x.length 0 (by omega)
  unfold lag_Of.s44
  rw [w2m hm, Int.toNat_natCast, List.length_replicate, decide_eq_true (show (a : Int) < ((2 * m + 1 : Nat) : Int) by omega), if_pos rfl, wl]
  simp only [lt']
  refine (congrArg (fun o => Option.bind o _) hi).trans ?_
  show lag_Of.k56 (a : Int) (impAt x y m (a + 1) 0) = _
  unfold lag_Of.k56
  rw [wa]
theorem lag_outer {x y : List Int} {m : Nat} (hx : chk x = 0) (hy : chk y = 0) (hm : m ≤ 255) : ∀ (r a : Nat), a + r = 2 * m + 1 →
    iter (fun (s : (List Lag) × Int) => lag_Of.s44 x y (m : Int) s.1 s.2) (impAt x y m a 0, (a : Int)) = some (.brk (lagS x y m))
  | 0, a, h => by
    rw [iter_brk (t := impAt x y m a 0) (by show lag_Of.s44 x y (m : Int) (impAt x y m a 0) (a : Int) = _; unfold lag_Of.s44; rw [w2m hm, Int.toNat_natCast, List.length_replicate, decide_eq_false (show ¬ (a : Int) < ((2 * m + 1 : Nat) : Int) by omega), if_neg Bool.false_ne_true]), show a = 2 * m + 1 by omega, impAt_end]
  | r + 1, a, h => by
    rw [iter_next (s' := (impAt x y m (a + 1) 0, ((a + 1 : Nat) : Int))) (lag_row hx hy hm (by omega))]
    exact lag_outer hx hy hm r (a + 1) (by omega)
theorem lag_of_ok {x y : List Int} {m : Nat} (hx : chk x = 0) (hy : chk y = 0) (hm : m ≤ 255) : lag_Of.f x y (m : Int) = some (lagS x y m, 0) := by
  have ho := lag_outer hx hy hm (2 * m + 1) 0 (by omega)
  rw [impAt_00] at ho
  unfold lag_Of.f
  rw [samp_check, Option.bind_some, hx, samp_check, Option.bind_some, hy, if_neg (by decide), if_neg (by decide), decide_eq_false (by omega), if_neg Bool.false_ne_true, decide_eq_false (by omega)]
  unfold lag_Of.k1
  rw [if_neg Bool.false_ne_true, w2m hm, if_pos ⟨by omega, by omega, by omega⟩, Int.toNat_natCast]
  refine (congrArg (fun o => Option.bind o _) ho).trans ?_
  rfl

/-! ### The reference -/
theorem ref_step {x y : List Int} {m i k : Nat} (hx : chk x = 0) (hy : chk y = 0) (hm : m ≤ 255) (hi : i < x.length) (hk : k < y.length) :
    ref16_Of.s55 x y (m : Int) (i : Int) (refAt x y m i k) (k : Int) = some (.next (refAt x y m i (k + 1), ((k + 1 : Nat) : Int))) := by
  obtain ⟨lx, _⟩ := chk_ok hx
  obtain ⟨ly, _⟩ := chk_ok hy
  have sx := small_of hx
  have sy := small_of hy
  have hk' : (k : Int) < (y.length : Int) := by omega
  have hi' : (i : Int) < (x.length : Int) := by omega
  have wk : w64 ((k : Int) + 1) = ((k + 1 : Nat) : Int) := by rw [w64_id (by omega) (by omega)]; push_cast; rfl
  have wl : w64 ((k : Int) - i) = (k : Int) - i := w64_id (by omega) (by omega)
  have wm : w64 (0 - (m : Int)) = 0 - (m : Int) := w64_id (by omega) (by omega)
  have hskip : ((k : Int) - i < -(m : Int) ∨ (m : Int) < (k : Int) - i ∨ ix x (i : Int) = 0 ∨ ix y (k : Int) = 0) → ref16_Of.k58 (k : Int) (refAt x y m i k) = some (.next (refAt x y m i (k + 1), ((k + 1 : Nat) : Int))) := by
    intro h
    unfold ref16_Of.k58
    simp only [lt']
    rw [wk, refAt_skip h]
  unfold ref16_Of.s55
  rw [decide_eq_true hk', if_pos rfl, wl, wm]
  simp only [lt']
  by_cases h1 : (k : Int) - i < 0 - (m : Int)
  · rw [decide_eq_true h1, if_pos rfl]
    unfold ref16_Of.k59
    rw [if_pos rfl]
    exact hskip (.inl (by omega))
  rw [decide_eq_false h1, if_neg Bool.false_ne_true]
  by_cases h2 : (m : Int) < (k : Int) - i
  · rw [decide_eq_true h2, if_pos rfl]
    unfold ref16_Of.k59
    rw [if_pos rfl]
    exact hskip (.inr (.inl h2))
  rw [decide_eq_false h2, if_neg Bool.false_ne_true, if_pos ⟨by omega, hi'⟩]
  by_cases h3 : ix x (i : Int) = 0
  · rw [decide_eq_true h3, if_pos rfl]
    unfold ref16_Of.k59
    rw [if_pos rfl]
    exact hskip (.inr (.inr (.inl h3)))
  rw [decide_eq_false h3, if_neg Bool.false_ne_true, if_pos ⟨by omega, hk'⟩]
  by_cases h4 : ix y (k : Int) = 0
  · rw [decide_eq_true h4]
    unfold ref16_Of.k59
    rw [if_pos rfl]
    exact hskip (.inr (.inr (.inr h4)))
  rw [decide_eq_false h4]
  unfold ref16_Of.k59
  obtain ⟨j, hj⟩ : ∃ j : Nat, (k : Int) - i + m = (j : Int) := ⟨((k : Int) - i + m).toNat, by omega⟩
  have hj2 : j < 2 * m + 1 := by omega
  have wj : w64 ((k : Int) - i + m) = (j : Int) := by rw [hj]; exact w64_id (by omega) (by omega)
  have hp := mul_small (sx (i : Int)) (sy (k : Int))
  have e1 : ix (refAt x y m i k) (j : Int) = refE x y m i k j := ix_tabL _ hj2
  have es := refE_small sx sy (m := m) (i := i) (k := k) (d := j) (by omega) (by omega)
  rw [if_neg Bool.false_ne_true, wj, if_pos ⟨by omega, by rw [ref_len]; omega⟩, if_pos ⟨by omega, hi'⟩, if_pos ⟨by omega, hk'⟩]
  simp only [lt']
  rw [Int.toNat_natCast, e1, w64_id (x := ix x (i : Int) * ix y (k : Int)) (by omega) (by omega), w64_id (x := (refE x y m i k j).Sum + ix x (i : Int) * ix y (k : Int)) (by omega) (by omega), if_pos ⟨by omega, by rw [List.length_set, ref_len]; omega⟩, ix_set (by rw [ref_len]; exact hj2), List.set_set]
  dsimp only
  rw [w64_id (x := (refE x y m i k j).N + 1) (by omega) (by omega), refAt_step (by omega) h3 h4]
  unfold ref16_Of.k58
  simp only [lt']
  rw [wk]
theorem ref_inner {x y : List Int} {m i : Nat} (hx : chk x = 0) (hy : chk y = 0) (hm : m ≤ 255) (hi : i < x.length) : ∀ (r k : Nat), k + r = y.length →
    iter (fun (s : (List Lag) × Int) => ref16_Of.s55 x y (m : Int) (i : Int) s.1 s.2) (refAt x y m i k, (k : Int)) = some (.brk (refAt x y m (i + 1) 0))
  | 0, k, h => by
    have hk : ¬ (k : Int) < (y.length : Int) := by omega
    rw [iter_brk (t := refAt x y m i k) (by show ref16_Of.s55 x y (m : Int) (i : Int) (refAt x y m i k) (k : Int) = _; unfold ref16_Of.s55; rw [decide_eq_false hk, if_neg Bool.false_ne_true]), show k = y.length by omega, refAt_row]
  | r + 1, k, h => by
    rw [iter_next (s' := (refAt x y m i (k + 1), ((k + 1 : Nat) : Int))) (ref_step hx hy hm hi (by omega))]
    exact ref_inner hx hy hm hi r (k + 1) (by omega)
theorem ref_row {x y : List Int} {m i : Nat} (hx : chk x = 0) (hy : chk y = 0) (hm : m ≤ 255) (hi : i < x.length) :
    ref16_Of.s44 x y (m : Int) (refAt x y m i 0) (i : Int) = some (.next (refAt x y m (i + 1) 0, ((i + 1 : Nat) : Int))) := by
  obtain ⟨lx, _⟩ := chk_ok hx
  have wa : w64 ((i : Int) + 1) = ((i + 1 : Nat) : Int) := by rw [w64_id (by omega) (by omega)]; push_cast; rfl
  have hn := ref_inner hx hy hm hi y.length 0 (by omega)
  unfold ref16_Of.s44
  rw [decide_eq_true (show (i : Int) < (x.length : Int) by omega), if_pos rfl]
  refine (congrArg (fun o => Option.bind o _) hn).trans ?_
  show ref16_Of.k56 (i : Int) (refAt x y m (i + 1) 0) = _
  unfold ref16_Of.k56
  rw [wa]
theorem ref_outer {x y : List Int} {m : Nat} (hx : chk x = 0) (hy : chk y = 0) (hm : m ≤ 255) : ∀ (r i : Nat), i + r = x.length →
    iter (fun (s : (List Lag) × Int) => ref16_Of.s44 x y (m : Int) s.1 s.2) (refAt x y m i 0, (i : Int)) = some (.brk (lagS x y m))
  | 0, i, h => by
    rw [iter_brk (t := refAt x y m i 0) (by show ref16_Of.s44 x y (m : Int) (refAt x y m i 0) (i : Int) = _; unfold ref16_Of.s44; rw [decide_eq_false (show ¬ (i : Int) < (x.length : Int) by omega), if_neg Bool.false_ne_true]), show i = x.length by omega, refAt_end]
  | r + 1, i, h => by
    rw [iter_next (s' := (refAt x y m (i + 1) 0, ((i + 1 : Nat) : Int))) (ref_row hx hy hm (by omega))]
    exact ref_outer hx hy hm r (i + 1) (by omega)
theorem ref_of_ok {x y : List Int} {m : Nat} (hx : chk x = 0) (hy : chk y = 0) (hm : m ≤ 255) : ref16_Of.f x y (m : Int) = some (lagS x y m, 0) := by
  have ho := ref_outer hx hy hm x.length 0 (by omega)
  rw [refAt_00] at ho
  unfold ref16_Of.f
  rw [ref_check, Option.bind_some, hx, if_neg (by decide), ref_check, Option.bind_some, hy, if_neg (by decide), decide_eq_false (by omega), if_neg Bool.false_ne_true, decide_eq_false (by omega)]
  unfold ref16_Of.k1
  rw [if_neg Bool.false_ne_true, w2m hm, if_pos ⟨by omega, by omega, by omega⟩, Int.toNat_natCast]
  refine (congrArg (fun o => Option.bind o _) ho).trans ?_
  rfl
end Go.Proofs.Ytafploedondfpaa.M
