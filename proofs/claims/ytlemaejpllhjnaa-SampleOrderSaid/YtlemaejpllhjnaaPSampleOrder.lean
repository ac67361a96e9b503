/- The plain law of SampleOrder: greater thresholds, signs, opposite levels. -/
import Derived.Test.YtlemaejpllhjnaaPTake
import Derived.Test.YtlemaejpllhjnaaPSame13
import Derived.Test.YtlemaejpllhjnaaC0
set_option linter.unusedVariables false
set_option linter.unusedSimpArgs false
set_option maxRecDepth 100000
namespace Go.Proofs.Ytlemaejpllhjnaa.M
open Go.GW Go.Proofs

theorem alive_c : law13_alive.f_c = some true := by kernel_rfl
theorem alive_law : law13_alive.f = some true := law13_alive.f_le _ alive_c

theorem sg_tk (t x : Int) : sg (tk t x) = if x < 0 then -1 else 1 := by
  unfold sg tk
  repeat' split
  all_goals decide
theorem sg_sg (x : Int) : sg (if x < 0 then -1 else 1) = if x < 0 then -1 else 1 := by
  split <;> decide
theorem tk_neg {t x : Int} (ht : 1 ≤ t) (hx : x ≠ 0) : tk t (-x) = - tk t x := by
  unfold tk
  repeat' split
  all_goals omega
theorem tk_zero {t : Int} (ht : 1 ≤ t) : tk t 0 = 1 := by
  unfold tk
  rw [if_neg (by omega), if_pos (by omega)]
theorem tk_mono {t u x : Int} (h : t ≤ u) : ¬ tk t x * tk u x < tk u x * tk u x := by
  unfold tk
  repeat' split
  all_goals omega
theorem tk_range (t x : Int) : -3 ≤ tk t x ∧ tk t x ≤ 3 := by
  unfold tk
  repeat' split
  all_goals omega

theorem sampleOrder_law (x0 : (List Int)) (k0 : ∀ y ∈ x0, okInt .i64 y) (x1 : Int) (k1 : okInt .i64 x1) (x2 : Int) (k2 : okInt .i64 x2) : law13_SampleOrder.f x0 x1 x2 = some true := by
  unfold law13_SampleOrder.f ref13_Long.f
  rw [alive_law]
  have b1 := okInt_i64 k1; have b2 := okInt_i64 k2
  have hk1 : law13_SampleOrder.k1 x0 x1 x2 true true = some true := by unfold law13_SampleOrder.k1; simp
  simp only [Option.bind_some]
  by_cases h0 : (300 : Int) < x0.length
  · simp only [h0, decide_true, if_true, hk1]
  simp only [h0, decide_false, Bool.false_eq_true, if_false]
  rw [ref_levels]
  simp only [Option.bind_some]
  by_cases hc : ¬ lchk x0 = 0
  · simp only [hc, decide_false, Bool.not_false, if_true, hk1]
  replace hc := Classical.not_not.1 hc
  simp only [hc, decide_true, Bool.not_true, Bool.false_eq_true, if_false]
  by_cases h1 : x1 < 1
  · simp only [h1, decide_true, if_true, hk1]
  simp only [h1, decide_false, Bool.false_eq_true, if_false]
  by_cases h2 : x2 < 0
  · simp only [h2, decide_true, if_true, hk1]
  simp only [h2, decide_false, Bool.false_eq_true, if_false]
  have hle : 1 ≤ x1 := by omega
  by_cases h3 : w64 (1000000 - x1) < x2
  · simp only [h3, decide_true, if_true, hk1]
  simp only [h3, decide_false, Bool.false_eq_true, if_false]
  rw [w64_id (by omega) (by omega)] at h3
  obtain ⟨hl, hb⟩ := lchk_ok hc
  unfold law13_SampleOrder.k1
  simp only [Bool.false_eq_true, if_false]
  have hsum : w64 (x1 + x2) = x1 + x2 := w64_id (by omega) (by omega)
  have ht1 : takes x0 x1 = (x0.map (tk x1), 0) := by unfold takes; rw [if_pos hc, if_neg (by omega)]
  have ht2 : takes x0 (x1 + x2) = (x0.map (tk (x1 + x2)), 0) := by unfold takes; rw [if_pos hc, if_neg (by omega)]
  have hg : ∀ t, chk (x0.map (tk t)) = 0 := fun t => chk_good (by simp; omega) (by
    intro x hx
    obtain ⟨y, _, rfl⟩ := List.mem_map.1 hx
    exact tk_dig _ _)
  have hs : ∀ t, sgn (x0.map (tk t)) = (x0.map (fun x => if x < 0 then -1 else 1), 0) := by
    intro t
    unfold sgn
    rw [if_pos (hg t), List.map_map]
    congr 1
    apply List.map_congr_left
    intro x _
    exact sg_tk t x
  have hs2 : sgn (x0.map (fun x => if x < 0 then (-1 : Int) else 1)) = (x0.map (fun x => if x < 0 then -1 else 1), 0) := by
    unfold sgn
    rw [if_pos (chk_good (by simp; omega) (by
      intro x hx
      obtain ⟨y, _, rfl⟩ := List.mem_map.1 hx
      split <;> decide)), List.map_map]
    congr 1
    apply List.map_congr_left
    intro x _
    exact sg_sg x
  rw [samp_take, hsum, samp_take, ht1, ht2]
  simp only [Option.bind_some]
  rw [samp_sign, samp_sign, hs, hs]
  simp only [Option.bind_some]
  rw [samp_sign, hs2]
  simp only [Option.bind_some, decide_true, Bool.not_true, Bool.false_eq_true, if_false, List.length_map]
  rw [same_self _ (by simp; omega)]
  simp only [Option.bind_some, Bool.not_true, Bool.false_eq_true, if_false]
  unfold law13_SampleOrder.k2
  simp only [Bool.false_eq_true, if_false]
  rw [iter_foldl x0 (fun b i => (b, i)) (fun b x => b ++ [-x]) id (fun i b => b.length = i) [] rfl]
  · rw [fold_app]
    simp only [Option.bind_some, fin, id, List.nil_append]
    unfold law13_SampleOrder.k4
    have hcn : lchk (x0.map (fun x => -x)) = 0 := by
      unfold lchk
      rw [if_neg (by simp; omega), if_neg]
      simp only [List.any_eq_true, not_exists, not_and]
      intro x hx
      obtain ⟨y, hy, rfl⟩ := List.mem_map.1 hx
      have := hb y hy
      unfold lbad
      simp only [decide_eq_true_eq]
      omega
    have ht3 : takes (x0.map (fun x => -x)) x1 = (x0.map (fun x => tk x1 (-x)), 0) := by unfold takes; rw [if_pos hcn, if_neg (by omega), List.map_map]; rfl
    rw [samp_take, ht3]
    simp only [Option.bind_some, decide_true, Bool.not_true, Bool.false_eq_true, if_false, List.length_map]
    unfold law13_SampleOrder.k5
    simp only [Bool.false_eq_true, if_false]
    rw [iter_find x0 (fun i => i) (fun _ => (none : Option Bool)) ()]
    · rw [findSome_none]; simp [fin, law13_SampleOrder.k10]
    · intro i hi
      unfold law13_SampleOrder.s9 law13_SampleOrder.k11
      simp only []
      have hi2 : i < (x0.map (fun x => tk x1 (-x))).length := by simp; omega
      have hi3 : i < (x0.map (tk x1)).length := by simp; omega
      rw [ix_at hi, ix_at hi2, ix_at hi3]
      have hr := tk_range x1 x0[i]
      simp only [decide_eq_true_eq, List.getElem_map, List.length_map, if_pos (show (i : Int) < (x0.length : Int) by omega), if_pos (show (0 : Int) ≤ i ∧ (i : Int) < (x0.length : Int) by omega)]
      rw [w64_id (x := (i : Int) + 1) (by omega) (by omega), w64_id (x := 0 - tk x1 x0[i]) (by omega) (by omega)]
      by_cases hz : x0[i] = 0
      · rw [hz, show (-0 : Int) = 0 by rfl, tk_zero hle]
        simp
      · rw [tk_neg hle hz]
        simp [hz]
    · simp [law13_SampleOrder.s9]
  · intro b i hi hbl
    refine ⟨?_, by simp [hbl]⟩
    have hx := hb x0[i] (List.getElem_mem hi)
    unfold law13_SampleOrder.s3
    simp only []
    have hi2 : i < (x0.map (tk (x1 + x2))).length := by simp; omega
    have hi3 : i < (x0.map (tk x1)).length := by simp; omega
    rw [ix_at hi, ix_at hi2, ix_at hi3]
    have hr := tk_range x1 x0[i]; have hr2 := tk_range (x1 + x2) x0[i]
    have hm := tk_mono (t := x1) (u := x1 + x2) (x := x0[i]) (by omega)
    have hp : -9 ≤ tk x1 x0[i] * tk (x1 + x2) x0[i] ∧ tk x1 x0[i] * tk (x1 + x2) x0[i] ≤ 9 := by
      unfold tk
      repeat' split
      all_goals omega
    have hp2 : -9 ≤ tk (x1 + x2) x0[i] * tk (x1 + x2) x0[i] ∧ tk (x1 + x2) x0[i] * tk (x1 + x2) x0[i] ≤ 9 := by
      unfold tk
      repeat' split
      all_goals omega
    simp only [decide_eq_true_eq, List.getElem_map, List.length_map, if_pos (show (i : Int) < (x0.length : Int) by omega), if_pos (show (0 : Int) ≤ i ∧ (i : Int) < (x0.length : Int) by omega)]
    rw [w64_id (x := tk x1 x0[i] * tk (x1 + x2) x0[i]) (by omega) (by omega), w64_id (x := tk (x1 + x2) x0[i] * tk (x1 + x2) x0[i]) (by omega) (by omega), if_neg hm, w64_id (x := 0 - x0[i]) (by omega) (by omega), w64_id (x := (i : Int) + 1) (by omega) (by omega)]
    rw [if_pos (by simp; omega), Int.zero_sub]
  · intro b _
    simp [law13_SampleOrder.s3]
end Go.Proofs.Ytlemaejpllhjnaa.M
