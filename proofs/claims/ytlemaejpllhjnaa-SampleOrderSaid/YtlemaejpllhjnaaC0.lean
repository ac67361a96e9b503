import Derived.Test.YtlemaejpllhjnaaGc
import Derived.Test.YtlemaejpllhjnaaM0
set_option linter.unusedVariables false
set_option linter.unusedSimpArgs false
set_option maxRecDepth 100000
set_option maxHeartbeats 8000000
namespace Go.Proofs.Ytlemaejpllhjnaa.M
open Go.GW Go.Proofs

def law13_given.f_c : Option (List Int) :=
  some ([5, (-20), 0, 9] : List Int)
theorem law13_given.f_le : LE' (law13_given.f_c) (law13_given.f) := by
  unfold law13_given.f_c law13_given.f
  repeat' with_reducible first | exact LE'.refl (some _) | exact LE'.refl none | refine LE'.ite ?_ ?_ | refine LE'.bind ?_ (fun _ => ?_) | refine LE'.lt (fun _ => ?_) | refine LE'.fin (fun _ => ?_) | refine LE'.iter (fun _ => ?_)
def sample_check_1.f_c (x1 : Int) : Option Bool :=
  (if (decide (x1 < (-1000000))) = true then some true else some (decide (1000000 < x1)))
theorem sample_check_1.f_le (x1 : Int) : LE' (sample_check_1.f_c x1) (sample_check_1.f x1) := by
  unfold sample_check_1.f_c sample_check_1.f
  repeat' with_reducible first | exact LE'.refl (some _) | exact LE'.refl none | refine LE'.ite ?_ ?_ | refine LE'.bind ?_ (fun _ => ?_) | refine LE'.lt (fun _ => ?_) | refine LE'.fin (fun _ => ?_) | refine LE'.iter (fun _ => ?_)
def slices_IndexFunc__int_int__sample_check_1.s1_c (s1 : (List Int)) (x23 : Int) : Option (St Int Unit Int) :=
  (if (decide (x23 < (s1.length : Int))) = true then (if 0 ≤ x23 ∧ x23 < (s1.length : Int) then ((sample_check_1.f_c (ix s1 x23)).bind fun t37 => (if t37 = true then some (.ret x23) else some (.next (w64 (x23 + 1))))) else none) else some (.brk ()))
theorem slices_IndexFunc__int_int__sample_check_1.s1_le (s1 : (List Int)) (x23 : Int) : LE' (slices_IndexFunc__int_int__sample_check_1.s1_c s1 x23) (slices_IndexFunc__int_int__sample_check_1.s1 s1 x23) := by
  unfold slices_IndexFunc__int_int__sample_check_1.s1_c slices_IndexFunc__int_int__sample_check_1.s1
  repeat' with_reducible first | exact LE'.refl (some _) | exact LE'.refl none | exact sample_check_1.f_le _ | refine LE'.ite ?_ ?_ | refine LE'.bind ?_ (fun _ => ?_) | refine LE'.lt (fun _ => ?_) | refine LE'.fin (fun _ => ?_) | refine LE'.iter (fun _ => ?_)
def slices_IndexFunc__int_int__sample_check_1.k2_c : Option Int :=
  some (-1)
theorem slices_IndexFunc__int_int__sample_check_1.k2_le : LE' (slices_IndexFunc__int_int__sample_check_1.k2_c) (slices_IndexFunc__int_int__sample_check_1.k2) := by
  unfold slices_IndexFunc__int_int__sample_check_1.k2_c slices_IndexFunc__int_int__sample_check_1.k2
  repeat' with_reducible first | exact LE'.refl (some _) | exact LE'.refl none | refine LE'.ite ?_ ?_ | refine LE'.bind ?_ (fun _ => ?_) | refine LE'.lt (fun _ => ?_) | refine LE'.fin (fun _ => ?_) | refine LE'.iter (fun _ => ?_)
def slices_IndexFunc__int_int__sample_check_1.f_c (s1 : (List Int)) : Option Int :=
  ((iterF (fun (s : Int) => slices_IndexFunc__int_int__sample_check_1.s1_c s1 s) 0).bind fun o1 => fin o1 (fun (t : Unit) => slices_IndexFunc__int_int__sample_check_1.k2_c))
theorem slices_IndexFunc__int_int__sample_check_1.f_le (s1 : (List Int)) : LE' (slices_IndexFunc__int_int__sample_check_1.f_c s1) (slices_IndexFunc__int_int__sample_check_1.f s1) := by
  unfold slices_IndexFunc__int_int__sample_check_1.f_c slices_IndexFunc__int_int__sample_check_1.f
  repeat' with_reducible first | exact LE'.refl (some _) | exact LE'.refl none | exact slices_IndexFunc__int_int__sample_check_1.s1_le _ _ | exact slices_IndexFunc__int_int__sample_check_1.k2_le | refine LE'.ite ?_ ?_ | refine LE'.bind ?_ (fun _ => ?_) | refine LE'.lt (fun _ => ?_) | refine LE'.fin (fun _ => ?_) | refine LE'.iter (fun _ => ?_)
def slices_ContainsFunc__int_int__sample_check_1.f_c (s1 : (List Int)) : Option Bool :=
  ((slices_IndexFunc__int_int__sample_check_1.f_c s1).bind fun t5 => some (decide (0 ≤ t5)))
theorem slices_ContainsFunc__int_int__sample_check_1.f_le (s1 : (List Int)) : LE' (slices_ContainsFunc__int_int__sample_check_1.f_c s1) (slices_ContainsFunc__int_int__sample_check_1.f s1) := by
  unfold slices_ContainsFunc__int_int__sample_check_1.f_c slices_ContainsFunc__int_int__sample_check_1.f
  repeat' with_reducible first | exact LE'.refl (some _) | exact LE'.refl none | exact slices_IndexFunc__int_int__sample_check_1.f_le _ | refine LE'.ite ?_ ?_ | refine LE'.bind ?_ (fun _ => ?_) | refine LE'.lt (fun _ => ?_) | refine LE'.fin (fun _ => ?_) | refine LE'.iter (fun _ => ?_)
def sample_check.f_c (levels1 : (List Int)) : Option Int :=
  (if (decide (256 < (levels1.length : Int))) = true then some 4 else ((slices_ContainsFunc__int_int__sample_check_1.f_c levels1).bind fun t6 => (if t6 = true then some 8 else some 0)))
theorem sample_check.f_le (levels1 : (List Int)) : LE' (sample_check.f_c levels1) (sample_check.f levels1) := by
  unfold sample_check.f_c sample_check.f
  repeat' with_reducible first | exact LE'.refl (some _) | exact LE'.refl none | exact slices_ContainsFunc__int_int__sample_check_1.f_le _ | refine LE'.ite ?_ ?_ | refine LE'.bind ?_ (fun _ => ?_) | refine LE'.lt (fun _ => ?_) | refine LE'.fin (fun _ => ?_) | refine LE'.iter (fun _ => ?_)
def sample_Take.k11_c (out60 : List Int) (x67 : Int) (y97 : Int) : Option (St ((List Int) × Int) (List Int) ((List Int) × Int)) :=
  (if out60.length + ([y97] : List Int).length ≤ 17592186044416 then some (.next ((out60 ++ ([y97] : List Int)), w64 (x67 + 1))) else none)
theorem sample_Take.k11_le (out60 : List Int) (x67 : Int) (y97 : Int) : LE' (sample_Take.k11_c out60 x67 y97) (sample_Take.k11 out60 x67 y97) := by
  unfold sample_Take.k11_c sample_Take.k11
  repeat' with_reducible first | exact LE'.refl (some _) | exact LE'.refl none | refine LE'.ite ?_ ?_ | refine LE'.bind ?_ (fun _ => ?_) | refine LE'.lt (fun _ => ?_) | refine LE'.fin (fun _ => ?_) | refine LE'.iter (fun _ => ?_)
def sample_Take.k10_c (out60 : List Int) (x67 : Int) (x93 : Int) (y95 : Int) : Option (St ((List Int) × Int) (List Int) ((List Int) × Int)) :=
  (if (decide (x93 < 0)) = true then sample_Take.k11_c out60 x67 (w64 (0 - y95)) else sample_Take.k11_c out60 x67 y95)
theorem sample_Take.k10_le (out60 : List Int) (x67 : Int) (x93 : Int) (y95 : Int) : LE' (sample_Take.k10_c out60 x67 x93 y95) (sample_Take.k10 out60 x67 x93 y95) := by
  unfold sample_Take.k10_c sample_Take.k10
  repeat' with_reducible first | exact LE'.refl (some _) | exact LE'.refl none | exact sample_Take.k11_le _ _ _ | refine LE'.ite ?_ ?_ | refine LE'.bind ?_ (fun _ => ?_) | refine LE'.lt (fun _ => ?_) | refine LE'.fin (fun _ => ?_) | refine LE'.iter (fun _ => ?_)
def sample_Take.s8_c (levels1 : (List Int)) (threshold5 : Int) (out60 : List Int) (x67 : Int) : Option (St ((List Int) × Int) (List Int) ((List Int) × Int)) :=
  (if (decide (x67 < (levels1.length : Int))) = true then (if 0 ≤ x67 ∧ x67 < (levels1.length : Int) then lt' ((ix levels1 x67)) fun x93 => (if (decide (gmax x93 (w64 (0 - x93)) < threshold5)) = true then sample_Take.k10_c out60 x67 x93 1 else sample_Take.k10_c out60 x67 x93 3) else none) else some (.brk out60))
theorem sample_Take.s8_le (levels1 : (List Int)) (threshold5 : Int) (out60 : List Int) (x67 : Int) : LE' (sample_Take.s8_c levels1 threshold5 out60 x67) (sample_Take.s8 levels1 threshold5 out60 x67) := by
  unfold sample_Take.s8_c sample_Take.s8
  repeat' with_reducible first | exact LE'.refl (some _) | exact LE'.refl none | exact sample_Take.k10_le _ _ _ _ | refine LE'.ite ?_ ?_ | refine LE'.bind ?_ (fun _ => ?_) | refine LE'.lt (fun _ => ?_) | refine LE'.fin (fun _ => ?_) | refine LE'.iter (fun _ => ?_)
def sample_Take.k9_c (out84 : List Int) : Option ((List Int) × Int) :=
  some (out84, 0)
theorem sample_Take.k9_le (out84 : List Int) : LE' (sample_Take.k9_c out84) (sample_Take.k9 out84) := by
  unfold sample_Take.k9_c sample_Take.k9
  repeat' with_reducible first | exact LE'.refl (some _) | exact LE'.refl none | refine LE'.ite ?_ ?_ | refine LE'.bind ?_ (fun _ => ?_) | refine LE'.lt (fun _ => ?_) | refine LE'.fin (fun _ => ?_) | refine LE'.iter (fun _ => ?_)
def sample_Take.k1_c (levels1 : (List Int)) (threshold5 : Int) (x10 : Bool) : Option ((List Int) × Int) :=
  (if x10 = true then some ([], 2) else ((iterF (fun (s : ((List Int) × Int)) => sample_Take.s8_c levels1 threshold5 s.1 s.2) ([], 0)).bind fun o1 => fin o1 (fun (t : List Int) => sample_Take.k9_c t)))
theorem sample_Take.k1_le (levels1 : (List Int)) (threshold5 : Int) (x10 : Bool) : LE' (sample_Take.k1_c levels1 threshold5 x10) (sample_Take.k1 levels1 threshold5 x10) := by
  unfold sample_Take.k1_c sample_Take.k1
  repeat' with_reducible first | exact LE'.refl (some _) | exact LE'.refl none | exact sample_Take.s8_le _ _ _ _ | exact sample_Take.k9_le _ | refine LE'.ite ?_ ?_ | refine LE'.bind ?_ (fun _ => ?_) | refine LE'.lt (fun _ => ?_) | refine LE'.fin (fun _ => ?_) | refine LE'.iter (fun _ => ?_)
def sample_Take.f_c (levels1 : (List Int)) (threshold5 : Int) : Option ((List Int) × Int) :=
  ((sample_check.f_c levels1).bind fun t6 => (if (!decide (t6 = 0)) = true then some ([], t6) else (if (decide (threshold5 < 1)) = true then sample_Take.k1_c levels1 threshold5 true else sample_Take.k1_c levels1 threshold5 (decide (1000000 < threshold5)))))
theorem sample_Take.f_le (levels1 : (List Int)) (threshold5 : Int) : LE' (sample_Take.f_c levels1 threshold5) (sample_Take.f levels1 threshold5) := by
  unfold sample_Take.f_c sample_Take.f
  repeat' with_reducible first | exact LE'.refl (some _) | exact LE'.refl none | exact sample_check.f_le _ | exact sample_Take.k1_le _ _ _ | refine LE'.ite ?_ ?_ | refine LE'.bind ?_ (fun _ => ?_) | refine LE'.lt (fun _ => ?_) | refine LE'.fin (fun _ => ?_) | refine LE'.iter (fun _ => ?_)
def slices_Index__int_int.s1_c (s1 : (List Int)) (v5 : Int) (x20 : Int) : Option (St Int Unit Int) :=
  (if (decide (x20 < (s1.length : Int))) = true then (if 0 ≤ x20 ∧ x20 < (s1.length : Int) then (if (decide (v5 = (ix s1 x20))) = true then some (.ret x20) else some (.next (w64 (x20 + 1)))) else none) else some (.brk ()))
theorem slices_Index__int_int.s1_le (s1 : (List Int)) (v5 : Int) (x20 : Int) : LE' (slices_Index__int_int.s1_c s1 v5 x20) (slices_Index__int_int.s1 s1 v5 x20) := by
  unfold slices_Index__int_int.s1_c slices_Index__int_int.s1
  repeat' with_reducible first | exact LE'.refl (some _) | exact LE'.refl none | refine LE'.ite ?_ ?_ | refine LE'.bind ?_ (fun _ => ?_) | refine LE'.lt (fun _ => ?_) | refine LE'.fin (fun _ => ?_) | refine LE'.iter (fun _ => ?_)
def slices_Index__int_int.k2_c : Option Int :=
  some (-1)
theorem slices_Index__int_int.k2_le : LE' (slices_Index__int_int.k2_c) (slices_Index__int_int.k2) := by
  unfold slices_Index__int_int.k2_c slices_Index__int_int.k2
  repeat' with_reducible first | exact LE'.refl (some _) | exact LE'.refl none | refine LE'.ite ?_ ?_ | refine LE'.bind ?_ (fun _ => ?_) | refine LE'.lt (fun _ => ?_) | refine LE'.fin (fun _ => ?_) | refine LE'.iter (fun _ => ?_)
def slices_Index__int_int.f_c (s1 : (List Int)) (v5 : Int) : Option Int :=
  ((iterF (fun (s : Int) => slices_Index__int_int.s1_c s1 v5 s) 0).bind fun o1 => fin o1 (fun (t : Unit) => slices_Index__int_int.k2_c))
theorem slices_Index__int_int.f_le (s1 : (List Int)) (v5 : Int) : LE' (slices_Index__int_int.f_c s1 v5) (slices_Index__int_int.f s1 v5) := by
  unfold slices_Index__int_int.f_c slices_Index__int_int.f
  repeat' with_reducible first | exact LE'.refl (some _) | exact LE'.refl none | exact slices_Index__int_int.s1_le _ _ _ | exact slices_Index__int_int.k2_le | refine LE'.ite ?_ ?_ | refine LE'.bind ?_ (fun _ => ?_) | refine LE'.lt (fun _ => ?_) | refine LE'.fin (fun _ => ?_) | refine LE'.iter (fun _ => ?_)
def sample_digit.f_c (x1 : Int) : Option Int :=
  ((slices_Index__int_int.f_c ([0, (-3), (-1), 1, 3] : List Int) x1).bind fun t3 => some t3)
theorem sample_digit.f_le (x1 : Int) : LE' (sample_digit.f_c x1) (sample_digit.f x1) := by
  unfold sample_digit.f_c sample_digit.f
  repeat' with_reducible first | exact LE'.refl (some _) | exact LE'.refl none | exact slices_Index__int_int.f_le _ _ | refine LE'.ite ?_ ?_ | refine LE'.bind ?_ (fun _ => ?_) | refine LE'.lt (fun _ => ?_) | refine LE'.fin (fun _ => ?_) | refine LE'.iter (fun _ => ?_)
def sample_Check_1.f_c (x1 : Int) : Option Bool :=
  ((sample_digit.f_c x1).bind fun t2 => some (decide (t2 < 0)))
theorem sample_Check_1.f_le (x1 : Int) : LE' (sample_Check_1.f_c x1) (sample_Check_1.f x1) := by
  unfold sample_Check_1.f_c sample_Check_1.f
  repeat' with_reducible first | exact LE'.refl (some _) | exact LE'.refl none | exact sample_digit.f_le _ | refine LE'.ite ?_ ?_ | refine LE'.bind ?_ (fun _ => ?_) | refine LE'.lt (fun _ => ?_) | refine LE'.fin (fun _ => ?_) | refine LE'.iter (fun _ => ?_)
def slices_IndexFunc__int_int__sample_Check_1.s1_c (s1 : (List Int)) (x23 : Int) : Option (St Int Unit Int) :=
  (if (decide (x23 < (s1.length : Int))) = true then (if 0 ≤ x23 ∧ x23 < (s1.length : Int) then ((sample_Check_1.f_c (ix s1 x23)).bind fun t37 => (if t37 = true then some (.ret x23) else some (.next (w64 (x23 + 1))))) else none) else some (.brk ()))
theorem slices_IndexFunc__int_int__sample_Check_1.s1_le (s1 : (List Int)) (x23 : Int) : LE' (slices_IndexFunc__int_int__sample_Check_1.s1_c s1 x23) (slices_IndexFunc__int_int__sample_Check_1.s1 s1 x23) := by
  unfold slices_IndexFunc__int_int__sample_Check_1.s1_c slices_IndexFunc__int_int__sample_Check_1.s1
  repeat' with_reducible first | exact LE'.refl (some _) | exact LE'.refl none | exact sample_Check_1.f_le _ | refine LE'.ite ?_ ?_ | refine LE'.bind ?_ (fun _ => ?_) | refine LE'.lt (fun _ => ?_) | refine LE'.fin (fun _ => ?_) | refine LE'.iter (fun _ => ?_)
def slices_IndexFunc__int_int__sample_Check_1.k2_c : Option Int :=
  some (-1)
theorem slices_IndexFunc__int_int__sample_Check_1.k2_le : LE' (slices_IndexFunc__int_int__sample_Check_1.k2_c) (slices_IndexFunc__int_int__sample_Check_1.k2) := by
  unfold slices_IndexFunc__int_int__sample_Check_1.k2_c slices_IndexFunc__int_int__sample_Check_1.k2
  repeat' with_reducible first | exact LE'.refl (some _) | exact LE'.refl none | refine LE'.ite ?_ ?_ | refine LE'.bind ?_ (fun _ => ?_) | refine LE'.lt (fun _ => ?_) | refine LE'.fin (fun _ => ?_) | refine LE'.iter (fun _ => ?_)
def slices_IndexFunc__int_int__sample_Check_1.f_c (s1 : (List Int)) : Option Int :=
  ((iterF (fun (s : Int) => slices_IndexFunc__int_int__sample_Check_1.s1_c s1 s) 0).bind fun o1 => fin o1 (fun (t : Unit) => slices_IndexFunc__int_int__sample_Check_1.k2_c))
theorem slices_IndexFunc__int_int__sample_Check_1.f_le (s1 : (List Int)) : LE' (slices_IndexFunc__int_int__sample_Check_1.f_c s1) (slices_IndexFunc__int_int__sample_Check_1.f s1) := by
  unfold slices_IndexFunc__int_int__sample_Check_1.f_c slices_IndexFunc__int_int__sample_Check_1.f
  repeat' with_reducible first | exact LE'.refl (some _) | exact LE'.refl none | exact slices_IndexFunc__int_int__sample_Check_1.s1_le _ _ | exact slices_IndexFunc__int_int__sample_Check_1.k2_le | refine LE'.ite ?_ ?_ | refine LE'.bind ?_ (fun _ => ?_) | refine LE'.lt (fun _ => ?_) | refine LE'.fin (fun _ => ?_) | refine LE'.iter (fun _ => ?_)
def slices_ContainsFunc__int_int__sample_Check_1.f_c (s1 : (List Int)) : Option Bool :=
  ((slices_IndexFunc__int_int__sample_Check_1.f_c s1).bind fun t5 => some (decide (0 ≤ t5)))
theorem slices_ContainsFunc__int_int__sample_Check_1.f_le (s1 : (List Int)) : LE' (slices_ContainsFunc__int_int__sample_Check_1.f_c s1) (slices_ContainsFunc__int_int__sample_Check_1.f s1) := by
  unfold slices_ContainsFunc__int_int__sample_Check_1.f_c slices_ContainsFunc__int_int__sample_Check_1.f
  repeat' with_reducible first | exact LE'.refl (some _) | exact LE'.refl none | exact slices_IndexFunc__int_int__sample_Check_1.f_le _ | refine LE'.ite ?_ ?_ | refine LE'.bind ?_ (fun _ => ?_) | refine LE'.lt (fun _ => ?_) | refine LE'.fin (fun _ => ?_) | refine LE'.iter (fun _ => ?_)
def sample_Check.f_c (s1 : (List Int)) : Option Int :=
  (if (decide (256 < (s1.length : Int))) = true then some 4 else ((slices_ContainsFunc__int_int__sample_Check_1.f_c s1).bind fun t6 => (if t6 = true then some 8 else some 0)))
theorem sample_Check.f_le (s1 : (List Int)) : LE' (sample_Check.f_c s1) (sample_Check.f s1) := by
  unfold sample_Check.f_c sample_Check.f
  repeat' with_reducible first | exact LE'.refl (some _) | exact LE'.refl none | exact slices_ContainsFunc__int_int__sample_Check_1.f_le _ | refine LE'.ite ?_ ?_ | refine LE'.bind ?_ (fun _ => ?_) | refine LE'.lt (fun _ => ?_) | refine LE'.fin (fun _ => ?_) | refine LE'.iter (fun _ => ?_)
def slices_Chunk__int_int.f_c (s1 : (List Int)) (n5 : Int) : Option ((List Int) × Int) :=
  (if (decide (n5 < 1)) = true then none else some (s1, n5))
theorem slices_Chunk__int_int.f_le (s1 : (List Int)) (n5 : Int) : LE' (slices_Chunk__int_int.f_c s1 n5) (slices_Chunk__int_int.f s1 n5) := by
  unfold slices_Chunk__int_int.f_c slices_Chunk__int_int.f
  repeat' with_reducible first | exact LE'.refl (some _) | exact LE'.refl none | refine LE'.ite ?_ ?_ | refine LE'.bind ?_ (fun _ => ?_) | refine LE'.lt (fun _ => ?_) | refine LE'.fin (fun _ => ?_) | refine LE'.iter (fun _ => ?_)
def sample_Pack.y1.s1_c (x122 : (List Int)) (b146 : Int) (i147 : Int) : Option (St (Int × Int) Int (Int × (List Int))) :=
  (if (decide (0 ≤ i147)) = true then (if 0 ≤ i147 ∧ i147 < (x122.length : Int) then ((sample_digit.f_c (ix x122 i147)).bind fun t166 => lt' (w64 ((w64 (5 * b146)) + t166)) fun b168 => some (.next (b168, w64 (i147 - 1)))) else none) else some (.brk b146))
theorem sample_Pack.y1.s1_le (x122 : (List Int)) (b146 : Int) (i147 : Int) : LE' (sample_Pack.y1.s1_c x122 b146 i147) (sample_Pack.y1.s1 x122 b146 i147) := by
  unfold sample_Pack.y1.s1_c sample_Pack.y1.s1
  repeat' with_reducible first | exact LE'.refl (some _) | exact LE'.refl none | exact sample_digit.f_le _ | refine LE'.ite ?_ ?_ | refine LE'.bind ?_ (fun _ => ?_) | refine LE'.lt (fun _ => ?_) | refine LE'.fin (fun _ => ?_) | refine LE'.iter (fun _ => ?_)
def sample_Pack.y1.k2_c (out66 : List Int) (b156 : Int) : Option (Int × (List Int)) :=
  (if out66.length + ([(wu8 b156)] : List Int).length ≤ 140737488355328 then some (0, (out66 ++ ([(wu8 b156)] : List Int))) else none)
theorem sample_Pack.y1.k2_le (out66 : List Int) (b156 : Int) : LE' (sample_Pack.y1.k2_c out66 b156) (sample_Pack.y1.k2 out66 b156) := by
  unfold sample_Pack.y1.k2_c sample_Pack.y1.k2
  repeat' with_reducible first | exact LE'.refl (some _) | exact LE'.refl none | refine LE'.ite ?_ ?_ | refine LE'.bind ?_ (fun _ => ?_) | refine LE'.lt (fun _ => ?_) | refine LE'.fin (fun _ => ?_) | refine LE'.iter (fun _ => ?_)
def sample_Pack.y1_c (out66 : List Int) (x122 : (List Int)) : Option (Int × (List Int)) :=
  lt' (w64 ((x122.length : Int) - 1)) fun i126 => ((iterF (fun (s : (Int × Int)) => sample_Pack.y1.s1_c x122 s.1 s.2) (0, i126)).bind fun o1 => fin o1 (fun (t : Int) => sample_Pack.y1.k2_c out66 t))
theorem sample_Pack.y1_le (out66 : List Int) (x122 : (List Int)) : LE' (sample_Pack.y1_c out66 x122) (sample_Pack.y1 out66 x122) := by
  unfold sample_Pack.y1_c sample_Pack.y1
  repeat' with_reducible first | exact LE'.refl (some _) | exact LE'.refl none | exact sample_Pack.y1.s1_le _ _ _ | exact sample_Pack.y1.k2_le _ _ | refine LE'.ite ?_ ?_ | refine LE'.bind ?_ (fun _ => ?_) | refine LE'.lt (fun _ => ?_) | refine LE'.fin (fun _ => ?_) | refine LE'.iter (fun _ => ?_)
def slices_Chunk__int_int_1__sample_Pack_y1.s1_c (v170 : (List Int)) (v175 : Int) (i213 : Int) (v214 : List Int) : Option (St (Int × (List Int)) (List Int) (Int × (List Int))) :=
  (if (decide (i213 < (v170.length : Int))) = true then (if 0 ≤ i213 ∧ i213 ≤ (v170.length : Int) then (if 0 ≤ w64 (i213 + (gmin v175 (((v170.take v170.length).drop i213.toNat).length : Int))) ∧ w64 (i213 + (gmin v175 (((v170.take v170.length).drop i213.toNat).length : Int))) ≤ (v170.length : Int) ∧ 0 ≤ w64 (i213 + (gmin v175 (((v170.take v170.length).drop i213.toNat).length : Int))) ∧ w64 (i213 + (gmin v175 (((v170.take v170.length).drop i213.toNat).length : Int))) ≤ w64 (i213 + (gmin v175 (((v170.take v170.length).drop i213.toNat).length : Int))) ∧ 0 ≤ i213 ∧ i213 ≤ w64 (i213 + (gmin v175 (((v170.take v170.length).drop i213.toNat).length : Int))) then ((sample_Pack.y1_c v214 ((v170.take ((w64 (i213 + (gmin v175 (((v170.take v170.length).drop i213.toNat).length : Int)))).toNat)).drop i213.toNat)).bind fun t1252 => (if (decide (t1252.1 = 0)) = true then lt' (w64 (i213 + v175)) fun i1258 => some (.next (i1258, t1252.2)) else some (.ret (t1252.1, t1252.2)))) else none) else none) else some (.brk v214))
theorem slices_Chunk__int_int_1__sample_Pack_y1.s1_le (v170 : (List Int)) (v175 : Int) (i213 : Int) (v214 : List Int) : LE' (slices_Chunk__int_int_1__sample_Pack_y1.s1_c v170 v175 i213 v214) (slices_Chunk__int_int_1__sample_Pack_y1.s1 v170 v175 i213 v214) := by
  unfold slices_Chunk__int_int_1__sample_Pack_y1.s1_c slices_Chunk__int_int_1__sample_Pack_y1.s1
  repeat' with_reducible first | exact LE'.refl (some _) | exact LE'.refl none | exact sample_Pack.y1_le _ _ | refine LE'.ite ?_ ?_ | refine LE'.bind ?_ (fun _ => ?_) | refine LE'.lt (fun _ => ?_) | refine LE'.fin (fun _ => ?_) | refine LE'.iter (fun _ => ?_)
def slices_Chunk__int_int_1__sample_Pack_y1.k2_c (v231 : List Int) : Option (Int × (List Int)) :=
  some (0, v231)
theorem slices_Chunk__int_int_1__sample_Pack_y1.k2_le (v231 : List Int) : LE' (slices_Chunk__int_int_1__sample_Pack_y1.k2_c v231) (slices_Chunk__int_int_1__sample_Pack_y1.k2 v231) := by
  unfold slices_Chunk__int_int_1__sample_Pack_y1.k2_c slices_Chunk__int_int_1__sample_Pack_y1.k2
  repeat' with_reducible first | exact LE'.refl (some _) | exact LE'.refl none | refine LE'.ite ?_ ?_ | refine LE'.bind ?_ (fun _ => ?_) | refine LE'.lt (fun _ => ?_) | refine LE'.fin (fun _ => ?_) | refine LE'.iter (fun _ => ?_)
def slices_Chunk__int_int_1__sample_Pack_y1.f_c (out66 : List Int) (v170 : (List Int)) (v175 : Int) : Option (Int × (List Int)) :=
  ((iterF (fun (s : (Int × (List Int))) => slices_Chunk__int_int_1__sample_Pack_y1.s1_c v170 v175 s.1 s.2) (0, out66)).bind fun o1 => fin o1 (fun (t : List Int) => slices_Chunk__int_int_1__sample_Pack_y1.k2_c t))
theorem slices_Chunk__int_int_1__sample_Pack_y1.f_le (out66 : List Int) (v170 : (List Int)) (v175 : Int) : LE' (slices_Chunk__int_int_1__sample_Pack_y1.f_c out66 v170 v175) (slices_Chunk__int_int_1__sample_Pack_y1.f out66 v170 v175) := by
  unfold slices_Chunk__int_int_1__sample_Pack_y1.f_c slices_Chunk__int_int_1__sample_Pack_y1.f
  repeat' with_reducible first | exact LE'.refl (some _) | exact LE'.refl none | exact slices_Chunk__int_int_1__sample_Pack_y1.s1_le _ _ _ _ | exact slices_Chunk__int_int_1__sample_Pack_y1.k2_le _ | refine LE'.ite ?_ ?_ | refine LE'.bind ?_ (fun _ => ?_) | refine LE'.lt (fun _ => ?_) | refine LE'.fin (fun _ => ?_) | refine LE'.iter (fun _ => ?_)
def sample_Pack.f_c (s1 : (List Int)) : Option ((List Int) × Int) :=
  ((sample_Check.f_c s1).bind fun t5 => (if (!decide (t5 = 0)) = true then some ([], t5) else ((slices_Chunk__int_int.f_c s1 3).bind fun t9 => ((slices_Chunk__int_int_1__sample_Pack_y1.f_c ([] : List Int) t9.1 t9.2).bind fun t170 => (if t170.1 = 0 then some (t170.2, 0) else none)))))
theorem sample_Pack.f_le (s1 : (List Int)) : LE' (sample_Pack.f_c s1) (sample_Pack.f s1) := by
  unfold sample_Pack.f_c sample_Pack.f
  repeat' with_reducible first | exact LE'.refl (some _) | exact LE'.refl none | exact sample_Check.f_le _ | exact slices_Chunk__int_int.f_le _ _ | exact slices_Chunk__int_int_1__sample_Pack_y1.f_le _ _ _ | refine LE'.ite ?_ ?_ | refine LE'.bind ?_ (fun _ => ?_) | refine LE'.lt (fun _ => ?_) | refine LE'.fin (fun _ => ?_) | refine LE'.iter (fun _ => ?_)
def frac_abs.f_c (n1 : Int) : Option Int :=
  (if (decide (n1 < 0)) = true then some (wu64 (0 - wu64 n1)) else some (wu64 n1))
theorem frac_abs.f_le (n1 : Int) : LE' (frac_abs.f_c n1) (frac_abs.f n1) := by
  unfold frac_abs.f_c frac_abs.f
  repeat' with_reducible first | exact LE'.refl (some _) | exact LE'.refl none | refine LE'.ite ?_ ?_ | refine LE'.bind ?_ (fun _ => ?_) | refine LE'.lt (fun _ => ?_) | refine LE'.fin (fun _ => ?_) | refine LE'.iter (fun _ => ?_)
def frac_gcd.s1_c (a11 : Int) (b12 : Int) : Option (St (Int × Int) Int Int) :=
  (if (decide (0 < b12)) = true then (if ¬ b12 = 0 then lt' (Int.tmod a11 b12) fun b19 => some (.next (b12, b19)) else none) else some (.brk a11))
theorem frac_gcd.s1_le (a11 : Int) (b12 : Int) : LE' (frac_gcd.s1_c a11 b12) (frac_gcd.s1 a11 b12) := by
  unfold frac_gcd.s1_c frac_gcd.s1
  repeat' with_reducible first | exact LE'.refl (some _) | exact LE'.refl none | refine LE'.ite ?_ ?_ | refine LE'.bind ?_ (fun _ => ?_) | refine LE'.lt (fun _ => ?_) | refine LE'.fin (fun _ => ?_) | refine LE'.iter (fun _ => ?_)
def frac_gcd.k2_c (a16 : Int) : Option Int :=
  some a16
theorem frac_gcd.k2_le (a16 : Int) : LE' (frac_gcd.k2_c a16) (frac_gcd.k2 a16) := by
  unfold frac_gcd.k2_c frac_gcd.k2
  repeat' with_reducible first | exact LE'.refl (some _) | exact LE'.refl none | refine LE'.ite ?_ ?_ | refine LE'.bind ?_ (fun _ => ?_) | refine LE'.lt (fun _ => ?_) | refine LE'.fin (fun _ => ?_) | refine LE'.iter (fun _ => ?_)
def frac_gcd.f_c (a1 : Int) (b2 : Int) : Option Int :=
  ((iterF (fun (s : (Int × Int)) => frac_gcd.s1_c s.1 s.2) (a1, b2)).bind fun o1 => fin o1 (fun (t : Int) => frac_gcd.k2_c t))
theorem frac_gcd.f_le (a1 : Int) (b2 : Int) : LE' (frac_gcd.f_c a1 b2) (frac_gcd.f a1 b2) := by
  unfold frac_gcd.f_c frac_gcd.f
  repeat' with_reducible first | exact LE'.refl (some _) | exact LE'.refl none | exact frac_gcd.s1_le _ _ | exact frac_gcd.k2_le _ | refine LE'.ite ?_ ?_ | refine LE'.bind ?_ (fun _ => ?_) | refine LE'.lt (fun _ => ?_) | refine LE'.fin (fun _ => ?_) | refine LE'.iter (fun _ => ?_)
def frac_Check.k1_c (x12 : Bool) : Option Int :=
  (if x12 = true then some 8 else some 0)
theorem frac_Check.k1_le (x12 : Bool) : LE' (frac_Check.k1_c x12) (frac_Check.k1 x12) := by
  unfold frac_Check.k1_c frac_Check.k1
  repeat' with_reducible first | exact LE'.refl (some _) | exact LE'.refl none | refine LE'.ite ?_ ?_ | refine LE'.bind ?_ (fun _ => ?_) | refine LE'.lt (fun _ => ?_) | refine LE'.fin (fun _ => ?_) | refine LE'.iter (fun _ => ?_)
def frac_Check.f_c (a1 : Frac) : Option Int :=
  (if (decide (a1.Den < 1)) = true then frac_Check.k1_c true else (if (decide (1000000000000000000 < wu64 a1.Den)) = true then frac_Check.k1_c true else ((frac_abs.f_c a1.Num).bind fun t16 => (if (decide (1000000000000000000 < t16)) = true then frac_Check.k1_c true else ((frac_abs.f_c a1.Num).bind fun t19 => ((frac_gcd.f_c t19 (wu64 a1.Den)).bind fun t21 => frac_Check.k1_c (decide (1 < t21))))))))
theorem frac_Check.f_le (a1 : Frac) : LE' (frac_Check.f_c a1) (frac_Check.f a1) := by
  unfold frac_Check.f_c frac_Check.f
  repeat' with_reducible first | exact LE'.refl (some _) | exact LE'.refl none | exact frac_Check.k1_le _ | exact frac_abs.f_le _ | exact frac_gcd.f_le _ _ | refine LE'.ite ?_ ?_ | refine LE'.bind ?_ (fun _ => ?_) | refine LE'.lt (fun _ => ?_) | refine LE'.fin (fun _ => ?_) | refine LE'.iter (fun _ => ?_)
def frac_made.k2_c (a10 : Frac) : Option (Frac × Int) :=
  some (a10, 0)
theorem frac_made.k2_le (a10 : Frac) : LE' (frac_made.k2_c a10) (frac_made.k2 a10) := by
  unfold frac_made.k2_c frac_made.k2
  repeat' with_reducible first | exact LE'.refl (some _) | exact LE'.refl none | refine LE'.ite ?_ ?_ | refine LE'.bind ?_ (fun _ => ?_) | refine LE'.lt (fun _ => ?_) | refine LE'.fin (fun _ => ?_) | refine LE'.iter (fun _ => ?_)
def frac_made.k1_c (minus1 : Bool) (num2 : Int) (den3 : Int) (x6 : Bool) : Option (Frac × Int) :=
  (if x6 = true then some ((⟨0, 0⟩ : Frac), 16) else (if minus1 = true then frac_made.k2_c (⟨(w64 (0 - w64 num2)), (w64 den3)⟩ : Frac) else frac_made.k2_c (⟨(w64 num2), (w64 den3)⟩ : Frac)))
theorem frac_made.k1_le (minus1 : Bool) (num2 : Int) (den3 : Int) (x6 : Bool) : LE' (frac_made.k1_c minus1 num2 den3 x6) (frac_made.k1 minus1 num2 den3 x6) := by
  unfold frac_made.k1_c frac_made.k1
  repeat' with_reducible first | exact LE'.refl (some _) | exact LE'.refl none | exact frac_made.k2_le _ | refine LE'.ite ?_ ?_ | refine LE'.bind ?_ (fun _ => ?_) | refine LE'.lt (fun _ => ?_) | refine LE'.fin (fun _ => ?_) | refine LE'.iter (fun _ => ?_)
def frac_made.f_c (minus1 : Bool) (num2 : Int) (den3 : Int) : Option (Frac × Int) :=
  (if (decide (1000000000000000000 < num2)) = true then frac_made.k1_c minus1 num2 den3 true else frac_made.k1_c minus1 num2 den3 (decide (1000000000000000000 < den3)))
theorem frac_made.f_le (minus1 : Bool) (num2 : Int) (den3 : Int) : LE' (frac_made.f_c minus1 num2 den3) (frac_made.f minus1 num2 den3) := by
  unfold frac_made.f_c frac_made.f
  repeat' with_reducible first | exact LE'.refl (some _) | exact LE'.refl none | exact frac_made.k1_le _ _ _ _ | refine LE'.ite ?_ ?_ | refine LE'.bind ?_ (fun _ => ?_) | refine LE'.lt (fun _ => ?_) | refine LE'.fin (fun _ => ?_) | refine LE'.iter (fun _ => ?_)
def frac_Make.f_c (num1 : Int) (den2 : Int) : Option (Frac × Int) :=
  (if (decide (den2 = 0)) = true then some ((⟨0, 0⟩ : Frac), 18) else ((frac_abs.f_c num1).bind fun t5 => ((frac_abs.f_c den2).bind fun t7 => ((frac_gcd.f_c t5 t7).bind fun t9 => (if ¬ t9 = 0 then (if ¬ t9 = 0 then ((frac_made.f_c (!((decide (num1 < 0)) == (decide (den2 < 0)))) (wu64 (Int.tdiv t5 t9)) (wu64 (Int.tdiv t7 t9))).bind fun t13 => some (t13.1, t13.2)) else none) else none)))))
theorem frac_Make.f_le (num1 : Int) (den2 : Int) : LE' (frac_Make.f_c num1 den2) (frac_Make.f num1 den2) := by
  unfold frac_Make.f_c frac_Make.f
  repeat' with_reducible first | exact LE'.refl (some _) | exact LE'.refl none | exact frac_abs.f_le _ | exact frac_gcd.f_le _ _ | exact frac_made.f_le _ _ _ | refine LE'.ite ?_ ?_ | refine LE'.bind ?_ (fun _ => ?_) | refine LE'.lt (fun _ => ?_) | refine LE'.fin (fun _ => ?_) | refine LE'.iter (fun _ => ?_)
def cmp_Or__api_Errno.s1_c (vals1 : (List Int)) (x19 : Int) : Option (St Int Unit Int) :=
  (if (decide (x19 < (vals1.length : Int))) = true then (if 0 ≤ x19 ∧ x19 < (vals1.length : Int) then (if (!decide ((ix vals1 x19) = 0)) = true then some (.ret (ix vals1 x19)) else some (.next (w64 (x19 + 1)))) else none) else some (.brk ()))
theorem cmp_Or__api_Errno.s1_le (vals1 : (List Int)) (x19 : Int) : LE' (cmp_Or__api_Errno.s1_c vals1 x19) (cmp_Or__api_Errno.s1 vals1 x19) := by
  unfold cmp_Or__api_Errno.s1_c cmp_Or__api_Errno.s1
  repeat' with_reducible first | exact LE'.refl (some _) | exact LE'.refl none | refine LE'.ite ?_ ?_ | refine LE'.bind ?_ (fun _ => ?_) | refine LE'.lt (fun _ => ?_) | refine LE'.fin (fun _ => ?_) | refine LE'.iter (fun _ => ?_)
def cmp_Or__api_Errno.k2_c : Option Int :=
  some 0
theorem cmp_Or__api_Errno.k2_le : LE' (cmp_Or__api_Errno.k2_c) (cmp_Or__api_Errno.k2) := by
  unfold cmp_Or__api_Errno.k2_c cmp_Or__api_Errno.k2
  repeat' with_reducible first | exact LE'.refl (some _) | exact LE'.refl none | refine LE'.ite ?_ ?_ | refine LE'.bind ?_ (fun _ => ?_) | refine LE'.lt (fun _ => ?_) | refine LE'.fin (fun _ => ?_) | refine LE'.iter (fun _ => ?_)
def cmp_Or__api_Errno.f_c (vals1 : (List Int)) : Option Int :=
  ((iterF (fun (s : Int) => cmp_Or__api_Errno.s1_c vals1 s) 0).bind fun o1 => fin o1 (fun (t : Unit) => cmp_Or__api_Errno.k2_c))
theorem cmp_Or__api_Errno.f_le (vals1 : (List Int)) : LE' (cmp_Or__api_Errno.f_c vals1) (cmp_Or__api_Errno.f vals1) := by
  unfold cmp_Or__api_Errno.f_c cmp_Or__api_Errno.f
  repeat' with_reducible first | exact LE'.refl (some _) | exact LE'.refl none | exact cmp_Or__api_Errno.s1_le _ _ | exact cmp_Or__api_Errno.k2_le | refine LE'.ite ?_ ?_ | refine LE'.bind ?_ (fun _ => ?_) | refine LE'.lt (fun _ => ?_) | refine LE'.fin (fun _ => ?_) | refine LE'.iter (fun _ => ?_)
def frac_both.f_c (a1 : Frac) (b2 : Frac) : Option Int :=
  ((frac_Check.f_c a1).bind fun t5 => ((frac_Check.f_c b2).bind fun t7 => ((cmp_Or__api_Errno.f_c ([t5, t7] : List Int)).bind fun t10 => some t10)))
theorem frac_both.f_le (a1 : Frac) (b2 : Frac) : LE' (frac_both.f_c a1 b2) (frac_both.f a1 b2) := by
  unfold frac_both.f_c frac_both.f
  repeat' with_reducible first | exact LE'.refl (some _) | exact LE'.refl none | exact frac_Check.f_le _ | exact cmp_Or__api_Errno.f_le _ | refine LE'.ite ?_ ?_ | refine LE'.bind ?_ (fun _ => ?_) | refine LE'.lt (fun _ => ?_) | refine LE'.fin (fun _ => ?_) | refine LE'.iter (fun _ => ?_)
def math_bits_Mul64.f_c (x1 : Int) (y2 : Int) : Option (Int × Int) :=
  lt' (gand .u64 x1 4294967295) fun x3 => lt' (gshr .u64 x1 32) fun x4 => lt' (gand .u64 y2 4294967295) fun y5 => lt' (gshr .u64 y2 32) fun y6 => lt' (wu64 ((wu64 (x4 * y5)) + (gshr .u64 (wu64 (x3 * y5)) 32))) fun t7 => lt' (gand .u64 t7 4294967295) fun w8 => lt' (gshr .u64 t7 32) fun w9 => lt' (wu64 (w8 + (wu64 (x3 * y6)))) fun w10 => lt' (wu64 ((wu64 ((wu64 (x4 * y6)) + w9)) + (gshr .u64 w10 32))) fun hi11 => some (hi11, (wu64 (x1 * y2)))
theorem math_bits_Mul64.f_le (x1 : Int) (y2 : Int) : LE' (math_bits_Mul64.f_c x1 y2) (math_bits_Mul64.f x1 y2) := by
  unfold math_bits_Mul64.f_c math_bits_Mul64.f
  repeat' with_reducible first | exact LE'.refl (some _) | exact LE'.refl none | refine LE'.ite ?_ ?_ | refine LE'.bind ?_ (fun _ => ?_) | refine LE'.lt (fun _ => ?_) | refine LE'.fin (fun _ => ?_) | refine LE'.iter (fun _ => ?_)
def frac_mul.f_c (a1 : Int) (b2 : Int) : Option Wide :=
  ((math_bits_Mul64.f_c a1 b2).bind fun t4 => some (⟨t4.1, t4.2⟩ : Wide))
theorem frac_mul.f_le (a1 : Int) (b2 : Int) : LE' (frac_mul.f_c a1 b2) (frac_mul.f a1 b2) := by
  unfold frac_mul.f_c frac_mul.f
  repeat' with_reducible first | exact LE'.refl (some _) | exact LE'.refl none | exact math_bits_Mul64.f_le _ _ | refine LE'.ite ?_ ?_ | refine LE'.bind ?_ (fun _ => ?_) | refine LE'.lt (fun _ => ?_) | refine LE'.fin (fun _ => ?_) | refine LE'.iter (fun _ => ?_)
def cmp_isNaN__uint64.f_c (x1 : Int) : Option Bool :=
  some (!decide (x1 = x1))
theorem cmp_isNaN__uint64.f_le (x1 : Int) : LE' (cmp_isNaN__uint64.f_c x1) (cmp_isNaN__uint64.f x1) := by
  unfold cmp_isNaN__uint64.f_c cmp_isNaN__uint64.f
  repeat' with_reducible first | exact LE'.refl (some _) | exact LE'.refl none | refine LE'.ite ?_ ?_ | refine LE'.bind ?_ (fun _ => ?_) | refine LE'.lt (fun _ => ?_) | refine LE'.fin (fun _ => ?_) | refine LE'.iter (fun _ => ?_)
def cmp_Compare__uint64.f_c (x1 : Int) (y2 : Int) : Option Int :=
  ((cmp_isNaN__uint64.f_c x1).bind fun t3 => ((cmp_isNaN__uint64.f_c y2).bind fun t5 => (if t3 = true then (if t5 = true then some 0 else some (-1)) else (if t5 = true then some 1 else (if (decide (x1 < y2)) = true then some (-1) else (if (decide (y2 < x1)) = true then some 1 else some 0))))))
theorem cmp_Compare__uint64.f_le (x1 : Int) (y2 : Int) : LE' (cmp_Compare__uint64.f_c x1 y2) (cmp_Compare__uint64.f x1 y2) := by
  unfold cmp_Compare__uint64.f_c cmp_Compare__uint64.f
  repeat' with_reducible first | exact LE'.refl (some _) | exact LE'.refl none | exact cmp_isNaN__uint64.f_le _ | refine LE'.ite ?_ ?_ | refine LE'.bind ?_ (fun _ => ?_) | refine LE'.lt (fun _ => ?_) | refine LE'.fin (fun _ => ?_) | refine LE'.iter (fun _ => ?_)
def cmp_Or__int.s1_c (vals1 : (List Int)) (x19 : Int) : Option (St Int Unit Int) :=
  (if (decide (x19 < (vals1.length : Int))) = true then (if 0 ≤ x19 ∧ x19 < (vals1.length : Int) then (if (!decide ((ix vals1 x19) = 0)) = true then some (.ret (ix vals1 x19)) else some (.next (w64 (x19 + 1)))) else none) else some (.brk ()))
theorem cmp_Or__int.s1_le (vals1 : (List Int)) (x19 : Int) : LE' (cmp_Or__int.s1_c vals1 x19) (cmp_Or__int.s1 vals1 x19) := by
  unfold cmp_Or__int.s1_c cmp_Or__int.s1
  repeat' with_reducible first | exact LE'.refl (some _) | exact LE'.refl none | refine LE'.ite ?_ ?_ | refine LE'.bind ?_ (fun _ => ?_) | refine LE'.lt (fun _ => ?_) | refine LE'.fin (fun _ => ?_) | refine LE'.iter (fun _ => ?_)
def cmp_Or__int.k2_c : Option Int :=
  some 0
theorem cmp_Or__int.k2_le : LE' (cmp_Or__int.k2_c) (cmp_Or__int.k2) := by
  unfold cmp_Or__int.k2_c cmp_Or__int.k2
  repeat' with_reducible first | exact LE'.refl (some _) | exact LE'.refl none | refine LE'.ite ?_ ?_ | refine LE'.bind ?_ (fun _ => ?_) | refine LE'.lt (fun _ => ?_) | refine LE'.fin (fun _ => ?_) | refine LE'.iter (fun _ => ?_)
def cmp_Or__int.f_c (vals1 : (List Int)) : Option Int :=
  ((iterF (fun (s : Int) => cmp_Or__int.s1_c vals1 s) 0).bind fun o1 => fin o1 (fun (t : Unit) => cmp_Or__int.k2_c))
theorem cmp_Or__int.f_le (vals1 : (List Int)) : LE' (cmp_Or__int.f_c vals1) (cmp_Or__int.f vals1) := by
  unfold cmp_Or__int.f_c cmp_Or__int.f
  repeat' with_reducible first | exact LE'.refl (some _) | exact LE'.refl none | exact cmp_Or__int.s1_le _ _ | exact cmp_Or__int.k2_le | refine LE'.ite ?_ ?_ | refine LE'.bind ?_ (fun _ => ?_) | refine LE'.lt (fun _ => ?_) | refine LE'.fin (fun _ => ?_) | refine LE'.iter (fun _ => ?_)
def frac_wide_cmp.f_c (w1 : Wide) (v2 : Wide) : Option Int :=
  ((cmp_Compare__uint64.f_c w1.hi v2.hi).bind fun t5 => ((cmp_Compare__uint64.f_c w1.lo v2.lo).bind fun t7 => ((cmp_Or__int.f_c ([t5, t7] : List Int)).bind fun t10 => some t10)))
theorem frac_wide_cmp.f_le (w1 : Wide) (v2 : Wide) : LE' (frac_wide_cmp.f_c w1 v2) (frac_wide_cmp.f w1 v2) := by
  unfold frac_wide_cmp.f_c frac_wide_cmp.f
  repeat' with_reducible first | exact LE'.refl (some _) | exact LE'.refl none | exact cmp_Compare__uint64.f_le _ _ | exact cmp_Or__int.f_le _ | refine LE'.ite ?_ ?_ | refine LE'.bind ?_ (fun _ => ?_) | refine LE'.lt (fun _ => ?_) | refine LE'.fin (fun _ => ?_) | refine LE'.iter (fun _ => ?_)
def cmp_isNaN__int64.f_c (x1 : Int) : Option Bool :=
  some (!decide (x1 = x1))
theorem cmp_isNaN__int64.f_le (x1 : Int) : LE' (cmp_isNaN__int64.f_c x1) (cmp_isNaN__int64.f x1) := by
  unfold cmp_isNaN__int64.f_c cmp_isNaN__int64.f
  repeat' with_reducible first | exact LE'.refl (some _) | exact LE'.refl none | refine LE'.ite ?_ ?_ | refine LE'.bind ?_ (fun _ => ?_) | refine LE'.lt (fun _ => ?_) | refine LE'.fin (fun _ => ?_) | refine LE'.iter (fun _ => ?_)
def cmp_Compare__int64.f_c (x1 : Int) (y2 : Int) : Option Int :=
  ((cmp_isNaN__int64.f_c x1).bind fun t3 => ((cmp_isNaN__int64.f_c y2).bind fun t5 => (if t3 = true then (if t5 = true then some 0 else some (-1)) else (if t5 = true then some 1 else (if (decide (x1 < y2)) = true then some (-1) else (if (decide (y2 < x1)) = true then some 1 else some 0))))))
theorem cmp_Compare__int64.f_le (x1 : Int) (y2 : Int) : LE' (cmp_Compare__int64.f_c x1 y2) (cmp_Compare__int64.f x1 y2) := by
  unfold cmp_Compare__int64.f_c cmp_Compare__int64.f
  repeat' with_reducible first | exact LE'.refl (some _) | exact LE'.refl none | exact cmp_isNaN__int64.f_le _ | refine LE'.ite ?_ ?_ | refine LE'.bind ?_ (fun _ => ?_) | refine LE'.lt (fun _ => ?_) | refine LE'.fin (fun _ => ?_) | refine LE'.iter (fun _ => ?_)
def frac_Cmp.k2_c (a1 : Frac) (b2 : Frac) (t16 : Int) (x22 : Bool) : Option (Int × Int) :=
  (if x22 = true then ((cmp_Compare__int64.f_c a1.Num b2.Num).bind fun t24 => some (t24, 0)) else some (t16, 0))
theorem frac_Cmp.k2_le (a1 : Frac) (b2 : Frac) (t16 : Int) (x22 : Bool) : LE' (frac_Cmp.k2_c a1 b2 t16 x22) (frac_Cmp.k2 a1 b2 t16 x22) := by
  unfold frac_Cmp.k2_c frac_Cmp.k2
  repeat' with_reducible first | exact LE'.refl (some _) | exact LE'.refl none | exact cmp_Compare__int64.f_le _ _ | refine LE'.ite ?_ ?_ | refine LE'.bind ?_ (fun _ => ?_) | refine LE'.lt (fun _ => ?_) | refine LE'.fin (fun _ => ?_) | refine LE'.iter (fun _ => ?_)
def frac_Cmp.k1_c (a1 : Frac) (b2 : Frac) (t16 : Int) (x19 : Bool) : Option (Int × Int) :=
  (if x19 = true then some ((w64 (0 - t16)), 0) else (if (decide (a1.Num < 0)) = true then frac_Cmp.k2_c a1 b2 t16 true else frac_Cmp.k2_c a1 b2 t16 (decide (b2.Num < 0))))
theorem frac_Cmp.k1_le (a1 : Frac) (b2 : Frac) (t16 : Int) (x19 : Bool) : LE' (frac_Cmp.k1_c a1 b2 t16 x19) (frac_Cmp.k1 a1 b2 t16 x19) := by
  unfold frac_Cmp.k1_c frac_Cmp.k1
  repeat' with_reducible first | exact LE'.refl (some _) | exact LE'.refl none | exact frac_Cmp.k2_le _ _ _ _ | refine LE'.ite ?_ ?_ | refine LE'.bind ?_ (fun _ => ?_) | refine LE'.lt (fun _ => ?_) | refine LE'.fin (fun _ => ?_) | refine LE'.iter (fun _ => ?_)
def frac_Cmp.f_c (a1 : Frac) (b2 : Frac) : Option (Int × Int) :=
  ((frac_both.f_c a1 b2).bind fun t5 => (if (!decide (t5 = 0)) = true then some (0, t5) else ((frac_abs.f_c a1.Num).bind fun t8 => ((frac_mul.f_c t8 (wu64 b2.Den)).bind fun t10 => ((frac_abs.f_c b2.Num).bind fun t12 => ((frac_mul.f_c t12 (wu64 a1.Den)).bind fun t14 => ((frac_wide_cmp.f_c t10 t14).bind fun t16 => (if (decide (a1.Num < 0)) = true then frac_Cmp.k1_c a1 b2 t16 (decide (b2.Num < 0)) else frac_Cmp.k1_c a1 b2 t16 false))))))))
theorem frac_Cmp.f_le (a1 : Frac) (b2 : Frac) : LE' (frac_Cmp.f_c a1 b2) (frac_Cmp.f a1 b2) := by
  unfold frac_Cmp.f_c frac_Cmp.f
  repeat' with_reducible first | exact LE'.refl (some _) | exact LE'.refl none | exact frac_both.f_le _ _ | exact frac_abs.f_le _ | exact frac_mul.f_le _ _ | exact frac_wide_cmp.f_le _ _ | exact frac_Cmp.k1_le _ _ _ _ | refine LE'.ite ?_ ?_ | refine LE'.bind ?_ (fun _ => ?_) | refine LE'.lt (fun _ => ?_) | refine LE'.fin (fun _ => ?_) | refine LE'.iter (fun _ => ?_)
def sample_less.f_c (a1 : Frac) (b2 : Frac) : Option Bool :=
  ((frac_Cmp.f_c a1 b2).bind fun t5 => some (decide (t5.1 < 0)))
theorem sample_less.f_le (a1 : Frac) (b2 : Frac) : LE' (sample_less.f_c a1 b2) (sample_less.f a1 b2) := by
  unfold sample_less.f_c sample_less.f
  repeat' with_reducible first | exact LE'.refl (some _) | exact LE'.refl none | exact frac_Cmp.f_le _ _ | refine LE'.ite ?_ ?_ | refine LE'.bind ?_ (fun _ => ?_) | refine LE'.lt (fun _ => ?_) | refine LE'.fin (fun _ => ?_) | refine LE'.iter (fun _ => ?_)
def sample_Threshold.s4_c (part5 : Frac) (n67 : Int) (need85 : Int) : Option (St Int Int (Int × Int)) :=
  (if (decide (need85 < n67)) = true then ((frac_Make.f_c need85 n67).bind fun t103 => ((sample_less.f_c t103.1 part5).bind fun t106 => (if (!t106) = true then some (.brk need85) else lt' (w64 (need85 + 1)) fun need109 => some (.next need109)))) else some (.brk need85))
theorem sample_Threshold.s4_le (part5 : Frac) (n67 : Int) (need85 : Int) : LE' (sample_Threshold.s4_c part5 n67 need85) (sample_Threshold.s4 part5 n67 need85) := by
  unfold sample_Threshold.s4_c sample_Threshold.s4
  repeat' with_reducible first | exact LE'.refl (some _) | exact LE'.refl none | exact frac_Make.f_le _ _ | exact sample_less.f_le _ _ | refine LE'.ite ?_ ?_ | refine LE'.bind ?_ (fun _ => ?_) | refine LE'.lt (fun _ => ?_) | refine LE'.fin (fun _ => ?_) | refine LE'.iter (fun _ => ?_)
def sample_Threshold.k5_c (l65 : List Int) (need94 : Int) : Option (Int × Int) :=
  (if (decide (need94 = 0)) = true then some (1, 0) else (if 0 ≤ w64 (need94 - 1) ∧ w64 (need94 - 1) < (l65.length : Int) then lt' (w64 ((ix l65 (w64 (need94 - 1))) + 1)) fun t100 => (if (decide (t100 ≤ 1000000)) = true then some (t100, 0) else some (0, 6)) else none))
theorem sample_Threshold.k5_le (l65 : List Int) (need94 : Int) : LE' (sample_Threshold.k5_c l65 need94) (sample_Threshold.k5 l65 need94) := by
  unfold sample_Threshold.k5_c sample_Threshold.k5
  repeat' with_reducible first | exact LE'.refl (some _) | exact LE'.refl none | refine LE'.ite ?_ ?_ | refine LE'.bind ?_ (fun _ => ?_) | refine LE'.lt (fun _ => ?_) | refine LE'.fin (fun _ => ?_) | refine LE'.iter (fun _ => ?_)
def sample_Threshold.s2_c (levels1 : (List Int)) (sizes46 : List Int) (x50 : Int) : Option (St ((List Int) × Int) (List Int) (Int × Int)) :=
  (if (decide (x50 < (levels1.length : Int))) = true then (if 0 ≤ x50 ∧ x50 < (levels1.length : Int) then lt' ((ix levels1 x50)) fun x115 => (if sizes46.length + ([(gmax x115 (w64 (0 - x115)))] : List Int).length ≤ 17592186044416 then some (.next ((sizes46 ++ ([(gmax x115 (w64 (0 - x115)))] : List Int)), w64 (x50 + 1))) else none) else none) else some (.brk sizes46))
theorem sample_Threshold.s2_le (levels1 : (List Int)) (sizes46 : List Int) (x50 : Int) : LE' (sample_Threshold.s2_c levels1 sizes46 x50) (sample_Threshold.s2 levels1 sizes46 x50) := by
  unfold sample_Threshold.s2_c sample_Threshold.s2
  repeat' with_reducible first | exact LE'.refl (some _) | exact LE'.refl none | refine LE'.ite ?_ ?_ | refine LE'.bind ?_ (fun _ => ?_) | refine LE'.lt (fun _ => ?_) | refine LE'.fin (fun _ => ?_) | refine LE'.iter (fun _ => ?_)
def sample_Threshold.k3_c (part5 : Frac) (sizes61 : List Int) : Option (Int × Int) :=
  (if sizes61.length ≤ 4611686018427387903 then lt' (sortI sizes61) fun l65 => lt' ((l65.length : Int)) fun n67 => ((iterF (fun (s : Int) => sample_Threshold.s4_c part5 n67 s) 0).bind fun o1 => fin o1 (fun (t : Int) => sample_Threshold.k5_c l65 t)) else none)
theorem sample_Threshold.k3_le (part5 : Frac) (sizes61 : List Int) : LE' (sample_Threshold.k3_c part5 sizes61) (sample_Threshold.k3 part5 sizes61) := by
  unfold sample_Threshold.k3_c sample_Threshold.k3
  repeat' with_reducible first | exact LE'.refl (some _) | exact LE'.refl none | exact sample_Threshold.s4_le _ _ _ | exact sample_Threshold.k5_le _ _ | refine LE'.ite ?_ ?_ | refine LE'.bind ?_ (fun _ => ?_) | refine LE'.lt (fun _ => ?_) | refine LE'.fin (fun _ => ?_) | refine LE'.iter (fun _ => ?_)
def sample_Threshold.k1_c (levels1 : (List Int)) (part5 : Frac) (x14 : Bool) : Option (Int × Int) :=
  (if x14 = true then some (0, 8) else ((iterF (fun (s : ((List Int) × Int)) => sample_Threshold.s2_c levels1 s.1 s.2) ([], 0)).bind fun o1 => fin o1 (fun (t : List Int) => sample_Threshold.k3_c part5 t)))
theorem sample_Threshold.k1_le (levels1 : (List Int)) (part5 : Frac) (x14 : Bool) : LE' (sample_Threshold.k1_c levels1 part5 x14) (sample_Threshold.k1 levels1 part5 x14) := by
  unfold sample_Threshold.k1_c sample_Threshold.k1
  repeat' with_reducible first | exact LE'.refl (some _) | exact LE'.refl none | exact sample_Threshold.s2_le _ _ _ | exact sample_Threshold.k3_le _ _ | refine LE'.ite ?_ ?_ | refine LE'.bind ?_ (fun _ => ?_) | refine LE'.lt (fun _ => ?_) | refine LE'.fin (fun _ => ?_) | refine LE'.iter (fun _ => ?_)
def sample_Threshold.f_c (levels1 : (List Int)) (part5 : Frac) : Option (Int × Int) :=
  ((sample_check.f_c levels1).bind fun t7 => (if (!decide (t7 = 0)) = true then some (0, t7) else ((frac_Check.f_c part5).bind fun t120 => (if (!decide (t120 = 0)) = true then sample_Threshold.k1_c levels1 part5 true else (if (decide (part5.Num < 0)) = true then sample_Threshold.k1_c levels1 part5 true else sample_Threshold.k1_c levels1 part5 (decide (part5.Den < part5.Num)))))))
theorem sample_Threshold.f_le (levels1 : (List Int)) (part5 : Frac) : LE' (sample_Threshold.f_c levels1 part5) (sample_Threshold.f levels1 part5) := by
  unfold sample_Threshold.f_c sample_Threshold.f
  repeat' with_reducible first | exact LE'.refl (some _) | exact LE'.refl none | exact sample_check.f_le _ | exact frac_Check.f_le _ | exact sample_Threshold.k1_le _ _ _ | refine LE'.ite ?_ ?_ | refine LE'.bind ?_ (fun _ => ?_) | refine LE'.lt (fun _ => ?_) | refine LE'.fin (fun _ => ?_) | refine LE'.iter (fun _ => ?_)
def ref13_Same.s1_c (a1 : (List Int)) (b5 : (List Int)) (i32 : Int) : Option (St Int Unit Bool) :=
  (if (decide (i32 < (a1.length : Int))) = true then (if 0 ≤ i32 ∧ i32 < (a1.length : Int) then (if 0 ≤ i32 ∧ i32 < (b5.length : Int) then (if (!decide ((ix a1 i32) = (ix b5 i32))) = true then some (.ret false) else some (.next (w64 (i32 + 1)))) else none) else none) else some (.brk ()))
theorem ref13_Same.s1_le (a1 : (List Int)) (b5 : (List Int)) (i32 : Int) : LE' (ref13_Same.s1_c a1 b5 i32) (ref13_Same.s1 a1 b5 i32) := by
  unfold ref13_Same.s1_c ref13_Same.s1
  repeat' with_reducible first | exact LE'.refl (some _) | exact LE'.refl none | refine LE'.ite ?_ ?_ | refine LE'.bind ?_ (fun _ => ?_) | refine LE'.lt (fun _ => ?_) | refine LE'.fin (fun _ => ?_) | refine LE'.iter (fun _ => ?_)
def ref13_Same.k2_c : Option Bool :=
  some true
theorem ref13_Same.k2_le : LE' (ref13_Same.k2_c) (ref13_Same.k2) := by
  unfold ref13_Same.k2_c ref13_Same.k2
  repeat' with_reducible first | exact LE'.refl (some _) | exact LE'.refl none | refine LE'.ite ?_ ?_ | refine LE'.bind ?_ (fun _ => ?_) | refine LE'.lt (fun _ => ?_) | refine LE'.fin (fun _ => ?_) | refine LE'.iter (fun _ => ?_)
def ref13_Same.f_c (a1 : (List Int)) (b5 : (List Int)) : Option Bool :=
  (if (!decide ((a1.length : Int) = (b5.length : Int))) = true then some false else ((iterF (fun (s : Int) => ref13_Same.s1_c a1 b5 s) 0).bind fun o1 => fin o1 (fun (t : Unit) => ref13_Same.k2_c)))
theorem ref13_Same.f_le (a1 : (List Int)) (b5 : (List Int)) : LE' (ref13_Same.f_c a1 b5) (ref13_Same.f a1 b5) := by
  unfold ref13_Same.f_c ref13_Same.f
  repeat' with_reducible first | exact LE'.refl (some _) | exact LE'.refl none | exact ref13_Same.s1_le _ _ _ | exact ref13_Same.k2_le | refine LE'.ite ?_ ?_ | refine LE'.bind ?_ (fun _ => ?_) | refine LE'.lt (fun _ => ?_) | refine LE'.fin (fun _ => ?_) | refine LE'.iter (fun _ => ?_)
def ref13_SameBytes.s1_c (a1 : (List Int)) (b5 : (List Int)) (i32 : Int) : Option (St Int Unit Bool) :=
  (if (decide (i32 < (a1.length : Int))) = true then (if 0 ≤ i32 ∧ i32 < (a1.length : Int) then (if 0 ≤ i32 ∧ i32 < (b5.length : Int) then (if (!decide ((ix a1 i32) = (ix b5 i32))) = true then some (.ret false) else some (.next (w64 (i32 + 1)))) else none) else none) else some (.brk ()))
theorem ref13_SameBytes.s1_le (a1 : (List Int)) (b5 : (List Int)) (i32 : Int) : LE' (ref13_SameBytes.s1_c a1 b5 i32) (ref13_SameBytes.s1 a1 b5 i32) := by
  unfold ref13_SameBytes.s1_c ref13_SameBytes.s1
  repeat' with_reducible first | exact LE'.refl (some _) | exact LE'.refl none | refine LE'.ite ?_ ?_ | refine LE'.bind ?_ (fun _ => ?_) | refine LE'.lt (fun _ => ?_) | refine LE'.fin (fun _ => ?_) | refine LE'.iter (fun _ => ?_)
def ref13_SameBytes.k2_c : Option Bool :=
  some true
theorem ref13_SameBytes.k2_le : LE' (ref13_SameBytes.k2_c) (ref13_SameBytes.k2) := by
  unfold ref13_SameBytes.k2_c ref13_SameBytes.k2
  repeat' with_reducible first | exact LE'.refl (some _) | exact LE'.refl none | refine LE'.ite ?_ ?_ | refine LE'.bind ?_ (fun _ => ?_) | refine LE'.lt (fun _ => ?_) | refine LE'.fin (fun _ => ?_) | refine LE'.iter (fun _ => ?_)
def ref13_SameBytes.f_c (a1 : (List Int)) (b5 : (List Int)) : Option Bool :=
  (if (!decide ((a1.length : Int) = (b5.length : Int))) = true then some false else ((iterF (fun (s : Int) => ref13_SameBytes.s1_c a1 b5 s) 0).bind fun o1 => fin o1 (fun (t : Unit) => ref13_SameBytes.k2_c)))
theorem ref13_SameBytes.f_le (a1 : (List Int)) (b5 : (List Int)) : LE' (ref13_SameBytes.f_c a1 b5) (ref13_SameBytes.f a1 b5) := by
  unfold ref13_SameBytes.f_c ref13_SameBytes.f
  repeat' with_reducible first | exact LE'.refl (some _) | exact LE'.refl none | exact ref13_SameBytes.s1_le _ _ _ | exact ref13_SameBytes.k2_le | refine LE'.ite ?_ ?_ | refine LE'.bind ?_ (fun _ => ?_) | refine LE'.lt (fun _ => ?_) | refine LE'.fin (fun _ => ?_) | refine LE'.iter (fun _ => ?_)
def law13_alive.f_c : Option Bool :=
  ((law13_given.f_c).bind fun t1 => ((sample_Take.f_c t1 10).bind fun t6 => ((sample_Pack.f_c t6.1).bind fun t11 => ((law13_given.f_c).bind fun t16 => ((sample_Threshold.f_c t16 (⟨1, 2⟩ : Frac)).bind fun t21 => ((law13_given.f_c).bind fun t23 => ((sample_Threshold.f_c t23 (⟨3, 4⟩ : Frac)).bind fun t28 => (if (decide (t6.2 = 0)) = true then ((ref13_Same.f_c t6.1 ([1, (-3), 1, 1] : List Int)).bind fun t32 => (if t32 = true then (if (decide (t11.2 = 0)) = true then ((ref13_SameBytes.f_c t11.1 ([83, 3] : List Int)).bind fun t37 => (if t37 = true then (if (decide (t21.2 = 0)) = true then (if (decide (t21.1 = 6)) = true then (if (decide (t28.2 = 0)) = true then some (decide (t28.1 = 10)) else some false) else some false) else some false) else some false)) else some false) else some false)) else some false))))))))
theorem law13_alive.f_le : LE' (law13_alive.f_c) (law13_alive.f) := by
  unfold law13_alive.f_c law13_alive.f
  repeat' with_reducible first | exact LE'.refl (some _) | exact LE'.refl none | exact law13_given.f_le | exact sample_Take.f_le _ _ | exact sample_Pack.f_le _ | exact sample_Threshold.f_le _ _ | exact ref13_Same.f_le _ _ | exact ref13_SameBytes.f_le _ _ | refine LE'.ite ?_ ?_ | refine LE'.bind ?_ (fun _ => ?_) | refine LE'.lt (fun _ => ?_) | refine LE'.fin (fun _ => ?_) | refine LE'.iter (fun _ => ?_)

end Go.Proofs.Ytlemaejpllhjnaa.M
