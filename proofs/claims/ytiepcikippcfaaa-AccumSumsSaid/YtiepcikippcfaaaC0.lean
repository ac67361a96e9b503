import Derived.Test.YtiepcikippcfaaaGc
import Derived.Test.YtiepcikippcfaaaM0
import Derived.Test.YtiepcikippcfaaaPCmpAccum
set_option linter.unusedVariables false
set_option linter.unusedSimpArgs false
set_option maxRecDepth 100000
set_option maxHeartbeats 8000000
namespace Go.Proofs.Ytiepcikippcfaaa.M
open Go.GW Go.Proofs

theorem le_sortF_accum_join_1 (xs : List Gap) : LE' (sortF_c pc_accum_join_1 cf_accum_join_1 xs) (sortF pc_accum_join_1 cf_accum_join_1 xs) := fun _ h => sortF_le cmpM_accum_join_1 h
def accum_New.k1_c (most1 : Int) (x4 : Bool) : Option (Acc × Int) :=
  (if x4 = true then some ((⟨[], [], []⟩ : Acc), 2) else lt' (w64 ((w64 (2 * most1)) + 1)) fun n6 => (if 0 ≤ n6 ∧ n6 ≤ n6 ∧ n6 ≤ 17592186044416 then (if 0 ≤ n6 ∧ n6 ≤ n6 ∧ n6 ≤ 17592186044416 then some ((⟨(List.replicate n6.toNat ((⟨0, 0⟩ : Count) : Count)), (List.replicate n6.toNat ((⟨0, 0⟩ : Count) : Count)), []⟩ : Acc), 0) else none) else none))
theorem accum_New.k1_le (most1 : Int) (x4 : Bool) : LE' (accum_New.k1_c most1 x4) (accum_New.k1 most1 x4) := by
  unfold accum_New.k1_c accum_New.k1
  repeat' with_reducible first | exact LE'.refl (some _) | exact LE'.refl none | refine LE'.ite ?_ ?_ | refine LE'.bind ?_ (fun _ => ?_) | refine LE'.lt (fun _ => ?_) | refine LE'.fin (fun _ => ?_) | refine LE'.iter (fun _ => ?_)
def accum_New.f_c (most1 : Int) : Option (Acc × Int) :=
  (if (decide (most1 < 0)) = true then accum_New.k1_c most1 true else accum_New.k1_c most1 (decide (255 < most1)))
theorem accum_New.f_le (most1 : Int) : LE' (accum_New.f_c most1) (accum_New.f most1) := by
  unfold accum_New.f_c accum_New.f
  repeat' with_reducible first | exact LE'.refl (some _) | exact LE'.refl none | exact accum_New.k1_le _ _ | refine LE'.ite ?_ ?_ | refine LE'.bind ?_ (fun _ => ?_) | refine LE'.lt (fun _ => ?_) | refine LE'.fin (fun _ => ?_) | refine LE'.iter (fun _ => ?_)
def accum_wide_valid.f_c (w1 : Wide) : Option Bool :=
  (if (decide (0 ≤ w1.Count.Lo)) = true then (if (decide (w1.Count.Lo < 1000000000)) = true then (if (decide ((-1000000000) ≤ w1.Count.Hi)) = true then some (decide (w1.Count.Hi < 1000000000)) else some false) else some false) else some false)
theorem accum_wide_valid.f_le (w1 : Wide) : LE' (accum_wide_valid.f_c w1) (accum_wide_valid.f w1) := by
  unfold accum_wide_valid.f_c accum_wide_valid.f
  repeat' with_reducible first | exact LE'.refl (some _) | exact LE'.refl none | refine LE'.ite ?_ ?_ | refine LE'.bind ?_ (fun _ => ?_) | refine LE'.lt (fun _ => ?_) | refine LE'.fin (fun _ => ?_) | refine LE'.iter (fun _ => ?_)
def accum_Check_1.f_c (c1 : Count) (v2 : Int) : Option Bool :=
  ((accum_wide_valid.f_c (⟨c1⟩ : Wide)).bind fun t5 => (if (!t5) = true then some true else some (decide (c1.Hi < v2))))
theorem accum_Check_1.f_le (c1 : Count) (v2 : Int) : LE' (accum_Check_1.f_c c1 v2) (accum_Check_1.f c1 v2) := by
  unfold accum_Check_1.f_c accum_Check_1.f
  repeat' with_reducible first | exact LE'.refl (some _) | exact LE'.refl none | exact accum_wide_valid.f_le _ | refine LE'.ite ?_ ?_ | refine LE'.bind ?_ (fun _ => ?_) | refine LE'.lt (fun _ => ?_) | refine LE'.fin (fun _ => ?_) | refine LE'.iter (fun _ => ?_)
def slices_IndexFunc__api_Count_api_Count__accum_Check_1.s1_c (s1 : (List Count)) (v5 : Int) (x25 : Int) : Option (St Int Unit Int) :=
  (if (decide (x25 < (s1.length : Int))) = true then (if 0 ≤ x25 ∧ x25 < (s1.length : Int) then ((accum_Check_1.f_c (ix s1 x25) v5).bind fun t39 => (if t39 = true then some (.ret x25) else some (.next (w64 (x25 + 1))))) else none) else some (.brk ()))
theorem slices_IndexFunc__api_Count_api_Count__accum_Check_1.s1_le (s1 : (List Count)) (v5 : Int) (x25 : Int) : LE' (slices_IndexFunc__api_Count_api_Count__accum_Check_1.s1_c s1 v5 x25) (slices_IndexFunc__api_Count_api_Count__accum_Check_1.s1 s1 v5 x25) := by
  unfold slices_IndexFunc__api_Count_api_Count__accum_Check_1.s1_c slices_IndexFunc__api_Count_api_Count__accum_Check_1.s1
  repeat' with_reducible first | exact LE'.refl (some _) | exact LE'.refl none | exact accum_Check_1.f_le _ _ | refine LE'.ite ?_ ?_ | refine LE'.bind ?_ (fun _ => ?_) | refine LE'.lt (fun _ => ?_) | refine LE'.fin (fun _ => ?_) | refine LE'.iter (fun _ => ?_)
def slices_IndexFunc__api_Count_api_Count__accum_Check_1.k2_c : Option Int :=
  some (-1)
theorem slices_IndexFunc__api_Count_api_Count__accum_Check_1.k2_le : LE' (slices_IndexFunc__api_Count_api_Count__accum_Check_1.k2_c) (slices_IndexFunc__api_Count_api_Count__accum_Check_1.k2) := by
  unfold slices_IndexFunc__api_Count_api_Count__accum_Check_1.k2_c slices_IndexFunc__api_Count_api_Count__accum_Check_1.k2
  repeat' with_reducible first | exact LE'.refl (some _) | exact LE'.refl none | refine LE'.ite ?_ ?_ | refine LE'.bind ?_ (fun _ => ?_) | refine LE'.lt (fun _ => ?_) | refine LE'.fin (fun _ => ?_) | refine LE'.iter (fun _ => ?_)
def slices_IndexFunc__api_Count_api_Count__accum_Check_1.f_c (s1 : (List Count)) (v5 : Int) : Option Int :=
  ((iterF (fun (s : Int) => slices_IndexFunc__api_Count_api_Count__accum_Check_1.s1_c s1 v5 s) 0).bind fun o1 => fin o1 (fun (t : Unit) => slices_IndexFunc__api_Count_api_Count__accum_Check_1.k2_c))
theorem slices_IndexFunc__api_Count_api_Count__accum_Check_1.f_le (s1 : (List Count)) (v5 : Int) : LE' (slices_IndexFunc__api_Count_api_Count__accum_Check_1.f_c s1 v5) (slices_IndexFunc__api_Count_api_Count__accum_Check_1.f s1 v5) := by
  unfold slices_IndexFunc__api_Count_api_Count__accum_Check_1.f_c slices_IndexFunc__api_Count_api_Count__accum_Check_1.f
  repeat' with_reducible first | exact LE'.refl (some _) | exact LE'.refl none | exact slices_IndexFunc__api_Count_api_Count__accum_Check_1.s1_le _ _ _ | exact slices_IndexFunc__api_Count_api_Count__accum_Check_1.k2_le | refine LE'.ite ?_ ?_ | refine LE'.bind ?_ (fun _ => ?_) | refine LE'.lt (fun _ => ?_) | refine LE'.fin (fun _ => ?_) | refine LE'.iter (fun _ => ?_)
def slices_ContainsFunc__api_Count_api_Count__accum_Check_1.f_c (s1 : (List Count)) (v5 : Int) : Option Bool :=
  ((slices_IndexFunc__api_Count_api_Count__accum_Check_1.f_c s1 v5).bind fun t7 => some (decide (0 ≤ t7)))
theorem slices_ContainsFunc__api_Count_api_Count__accum_Check_1.f_le (s1 : (List Count)) (v5 : Int) : LE' (slices_ContainsFunc__api_Count_api_Count__accum_Check_1.f_c s1 v5) (slices_ContainsFunc__api_Count_api_Count__accum_Check_1.f s1 v5) := by
  unfold slices_ContainsFunc__api_Count_api_Count__accum_Check_1.f_c slices_ContainsFunc__api_Count_api_Count__accum_Check_1.f
  repeat' with_reducible first | exact LE'.refl (some _) | exact LE'.refl none | exact slices_IndexFunc__api_Count_api_Count__accum_Check_1.f_le _ _ | refine LE'.ite ?_ ?_ | refine LE'.bind ?_ (fun _ => ?_) | refine LE'.lt (fun _ => ?_) | refine LE'.fin (fun _ => ?_) | refine LE'.iter (fun _ => ?_)
def accum_runs.k6_c (l1 : (List Gap)) (x49 : Int) (x74 : Bool) : Option (St (Int × Int) Unit Bool) :=
  (if x74 = true then some (.ret false) else lt' (w64 ((w64 (((ix l1 x49).At) + ((ix l1 x49).Many))) + 1)) fun free76 => some (.next (free76, w64 (x49 + 1))))
theorem accum_runs.k6_le (l1 : (List Gap)) (x49 : Int) (x74 : Bool) : LE' (accum_runs.k6_c l1 x49 x74) (accum_runs.k6 l1 x49 x74) := by
  unfold accum_runs.k6_c accum_runs.k6
  repeat' with_reducible first | exact LE'.refl (some _) | exact LE'.refl none | refine LE'.ite ?_ ?_ | refine LE'.bind ?_ (fun _ => ?_) | refine LE'.lt (fun _ => ?_) | refine LE'.fin (fun _ => ?_) | refine LE'.iter (fun _ => ?_)
def accum_runs.s4_c (l1 : (List Gap)) (free45 : Int) (x49 : Int) : Option (St (Int × Int) Unit Bool) :=
  (if (decide (x49 < (l1.length : Int))) = true then (if 0 ≤ x49 ∧ x49 < (l1.length : Int) then (if (decide ((ix l1 x49).At < free45)) = true then accum_runs.k6_c l1 x49 true else (if (decide ((ix l1 x49).Many < 1)) = true then accum_runs.k6_c l1 x49 true else (if (decide (1000000000 < (ix l1 x49).At)) = true then accum_runs.k6_c l1 x49 true else accum_runs.k6_c l1 x49 (decide (w64 (1000000000 - ((ix l1 x49).At)) < (ix l1 x49).Many))))) else none) else some (.brk ()))
theorem accum_runs.s4_le (l1 : (List Gap)) (free45 : Int) (x49 : Int) : LE' (accum_runs.s4_c l1 free45 x49) (accum_runs.s4 l1 free45 x49) := by
  unfold accum_runs.s4_c accum_runs.s4
  repeat' with_reducible first | exact LE'.refl (some _) | exact LE'.refl none | exact accum_runs.k6_le _ _ _ | refine LE'.ite ?_ ?_ | refine LE'.bind ?_ (fun _ => ?_) | refine LE'.lt (fun _ => ?_) | refine LE'.fin (fun _ => ?_) | refine LE'.iter (fun _ => ?_)
def accum_runs.k5_c : Option Bool :=
  some true
theorem accum_runs.k5_le : LE' (accum_runs.k5_c) (accum_runs.k5) := by
  unfold accum_runs.k5_c accum_runs.k5
  repeat' with_reducible first | exact LE'.refl (some _) | exact LE'.refl none | refine LE'.ite ?_ ?_ | refine LE'.bind ?_ (fun _ => ?_) | refine LE'.lt (fun _ => ?_) | refine LE'.fin (fun _ => ?_) | refine LE'.iter (fun _ => ?_)
def accum_runs.f_c (l1 : (List Gap)) : Option Bool :=
  ((iterF (fun (s : (Int × Int)) => accum_runs.s4_c l1 s.1 s.2) (0, 0)).bind fun o1 => fin o1 (fun (t : Unit) => accum_runs.k5_c))
theorem accum_runs.f_le (l1 : (List Gap)) : LE' (accum_runs.f_c l1) (accum_runs.f l1) := by
  unfold accum_runs.f_c accum_runs.f
  repeat' with_reducible first | exact LE'.refl (some _) | exact LE'.refl none | exact accum_runs.s4_le _ _ _ | exact accum_runs.k5_le | refine LE'.ite ?_ ?_ | refine LE'.bind ?_ (fun _ => ?_) | refine LE'.lt (fun _ => ?_) | refine LE'.fin (fun _ => ?_) | refine LE'.iter (fun _ => ?_)
def accum_Check.k2_c (a1 : Acc) (x24 : Bool) : Option Int :=
  (if x24 = true then some 8 else ((slices_ContainsFunc__api_Count_api_Count__accum_Check_1.f_c a1.Ns 0).bind fun t26 => (if t26 = true then some 8 else some 0)))
theorem accum_Check.k2_le (a1 : Acc) (x24 : Bool) : LE' (accum_Check.k2_c a1 x24) (accum_Check.k2 a1 x24) := by
  unfold accum_Check.k2_c accum_Check.k2
  repeat' with_reducible first | exact LE'.refl (some _) | exact LE'.refl none | exact slices_ContainsFunc__api_Count_api_Count__accum_Check_1.f_le _ _ | refine LE'.ite ?_ ?_ | refine LE'.bind ?_ (fun _ => ?_) | refine LE'.lt (fun _ => ?_) | refine LE'.fin (fun _ => ?_) | refine LE'.iter (fun _ => ?_)
def accum_Check.k1_c (a1 : Acc) (x14 : Bool) : Option Int :=
  (if x14 = true then some 4 else (if (decide (Int.tmod (a1.Sums.length : Int) 2 = 0)) = true then accum_Check.k2_c a1 true else (if (!decide ((a1.Ns.length : Int) = (a1.Sums.length : Int))) = true then accum_Check.k2_c a1 true else ((slices_ContainsFunc__api_Count_api_Count__accum_Check_1.f_c a1.Sums (-1000000000)).bind fun t31 => (if t31 = true then accum_Check.k2_c a1 true else ((accum_runs.f_c a1.Spans).bind fun t34 => accum_Check.k2_c a1 (!t34)))))))
theorem accum_Check.k1_le (a1 : Acc) (x14 : Bool) : LE' (accum_Check.k1_c a1 x14) (accum_Check.k1 a1 x14) := by
  unfold accum_Check.k1_c accum_Check.k1
  repeat' with_reducible first | exact LE'.refl (some _) | exact LE'.refl none | exact accum_Check.k2_le _ _ | exact slices_ContainsFunc__api_Count_api_Count__accum_Check_1.f_le _ _ | exact accum_runs.f_le _ | refine LE'.ite ?_ ?_ | refine LE'.bind ?_ (fun _ => ?_) | refine LE'.lt (fun _ => ?_) | refine LE'.fin (fun _ => ?_) | refine LE'.iter (fun _ => ?_)
def accum_Check.f_c (a1 : Acc) : Option Int :=
  (if (decide (511 < (a1.Sums.length : Int))) = true then accum_Check.k1_c a1 true else (if (decide (511 < (a1.Ns.length : Int))) = true then accum_Check.k1_c a1 true else accum_Check.k1_c a1 (decide (64 < (a1.Spans.length : Int)))))
theorem accum_Check.f_le (a1 : Acc) : LE' (accum_Check.f_c a1) (accum_Check.f a1) := by
  unfold accum_Check.f_c accum_Check.f
  repeat' with_reducible first | exact LE'.refl (some _) | exact LE'.refl none | exact accum_Check.k1_le _ _ | refine LE'.ite ?_ ?_ | refine LE'.bind ?_ (fun _ => ?_) | refine LE'.lt (fun _ => ?_) | refine LE'.fin (fun _ => ?_) | refine LE'.iter (fun _ => ?_)
def lag_Check_1.f_c (x1 : Lag) : Option Bool :=
  (if (decide (x1.N < 0)) = true then some true else (if (decide (256 < x1.N)) = true then some true else (if (decide (w64 (9 * x1.N) < x1.Sum)) = true then some true else (if (decide (x1.Sum < w64 ((-9) * x1.N))) = true then some true else some (!decide (Int.tmod (w64 (x1.Sum - x1.N)) 2 = 0))))))
theorem lag_Check_1.f_le (x1 : Lag) : LE' (lag_Check_1.f_c x1) (lag_Check_1.f x1) := by
  unfold lag_Check_1.f_c lag_Check_1.f
  repeat' with_reducible first | exact LE'.refl (some _) | exact LE'.refl none | refine LE'.ite ?_ ?_ | refine LE'.bind ?_ (fun _ => ?_) | refine LE'.lt (fun _ => ?_) | refine LE'.fin (fun _ => ?_) | refine LE'.iter (fun _ => ?_)
def slices_IndexFunc__api_Lag_api_Lag__lag_Check_1.s1_c (s1 : (List Lag)) (x23 : Int) : Option (St Int Unit Int) :=
  (if (decide (x23 < (s1.length : Int))) = true then (if 0 ≤ x23 ∧ x23 < (s1.length : Int) then ((lag_Check_1.f_c (ix s1 x23)).bind fun t37 => (if t37 = true then some (.ret x23) else some (.next (w64 (x23 + 1))))) else none) else some (.brk ()))
theorem slices_IndexFunc__api_Lag_api_Lag__lag_Check_1.s1_le (s1 : (List Lag)) (x23 : Int) : LE' (slices_IndexFunc__api_Lag_api_Lag__lag_Check_1.s1_c s1 x23) (slices_IndexFunc__api_Lag_api_Lag__lag_Check_1.s1 s1 x23) := by
  unfold slices_IndexFunc__api_Lag_api_Lag__lag_Check_1.s1_c slices_IndexFunc__api_Lag_api_Lag__lag_Check_1.s1
  repeat' with_reducible first | exact LE'.refl (some _) | exact LE'.refl none | exact lag_Check_1.f_le _ | refine LE'.ite ?_ ?_ | refine LE'.bind ?_ (fun _ => ?_) | refine LE'.lt (fun _ => ?_) | refine LE'.fin (fun _ => ?_) | refine LE'.iter (fun _ => ?_)
def slices_IndexFunc__api_Lag_api_Lag__lag_Check_1.k2_c : Option Int :=
  some (-1)
theorem slices_IndexFunc__api_Lag_api_Lag__lag_Check_1.k2_le : LE' (slices_IndexFunc__api_Lag_api_Lag__lag_Check_1.k2_c) (slices_IndexFunc__api_Lag_api_Lag__lag_Check_1.k2) := by
  unfold slices_IndexFunc__api_Lag_api_Lag__lag_Check_1.k2_c slices_IndexFunc__api_Lag_api_Lag__lag_Check_1.k2
  repeat' with_reducible first | exact LE'.refl (some _) | exact LE'.refl none | refine LE'.ite ?_ ?_ | refine LE'.bind ?_ (fun _ => ?_) | refine LE'.lt (fun _ => ?_) | refine LE'.fin (fun _ => ?_) | refine LE'.iter (fun _ => ?_)
def slices_IndexFunc__api_Lag_api_Lag__lag_Check_1.f_c (s1 : (List Lag)) : Option Int :=
  ((iterF (fun (s : Int) => slices_IndexFunc__api_Lag_api_Lag__lag_Check_1.s1_c s1 s) 0).bind fun o1 => fin o1 (fun (t : Unit) => slices_IndexFunc__api_Lag_api_Lag__lag_Check_1.k2_c))
theorem slices_IndexFunc__api_Lag_api_Lag__lag_Check_1.f_le (s1 : (List Lag)) : LE' (slices_IndexFunc__api_Lag_api_Lag__lag_Check_1.f_c s1) (slices_IndexFunc__api_Lag_api_Lag__lag_Check_1.f s1) := by
  unfold slices_IndexFunc__api_Lag_api_Lag__lag_Check_1.f_c slices_IndexFunc__api_Lag_api_Lag__lag_Check_1.f
  repeat' with_reducible first | exact LE'.refl (some _) | exact LE'.refl none | exact slices_IndexFunc__api_Lag_api_Lag__lag_Check_1.s1_le _ _ | exact slices_IndexFunc__api_Lag_api_Lag__lag_Check_1.k2_le | refine LE'.ite ?_ ?_ | refine LE'.bind ?_ (fun _ => ?_) | refine LE'.lt (fun _ => ?_) | refine LE'.fin (fun _ => ?_) | refine LE'.iter (fun _ => ?_)
def slices_ContainsFunc__api_Lag_api_Lag__lag_Check_1.f_c (s1 : (List Lag)) : Option Bool :=
  ((slices_IndexFunc__api_Lag_api_Lag__lag_Check_1.f_c s1).bind fun t5 => some (decide (0 ≤ t5)))
theorem slices_ContainsFunc__api_Lag_api_Lag__lag_Check_1.f_le (s1 : (List Lag)) : LE' (slices_ContainsFunc__api_Lag_api_Lag__lag_Check_1.f_c s1) (slices_ContainsFunc__api_Lag_api_Lag__lag_Check_1.f s1) := by
  unfold slices_ContainsFunc__api_Lag_api_Lag__lag_Check_1.f_c slices_ContainsFunc__api_Lag_api_Lag__lag_Check_1.f
  repeat' with_reducible first | exact LE'.refl (some _) | exact LE'.refl none | exact slices_IndexFunc__api_Lag_api_Lag__lag_Check_1.f_le _ | refine LE'.ite ?_ ?_ | refine LE'.bind ?_ (fun _ => ?_) | refine LE'.lt (fun _ => ?_) | refine LE'.fin (fun _ => ?_) | refine LE'.iter (fun _ => ?_)
def lag_Check.k1_c (x9 : Bool) : Option Int :=
  (if x9 = true then some 8 else some 0)
theorem lag_Check.k1_le (x9 : Bool) : LE' (lag_Check.k1_c x9) (lag_Check.k1 x9) := by
  unfold lag_Check.k1_c lag_Check.k1
  repeat' with_reducible first | exact LE'.refl (some _) | exact LE'.refl none | refine LE'.ite ?_ ?_ | refine LE'.bind ?_ (fun _ => ?_) | refine LE'.lt (fun _ => ?_) | refine LE'.fin (fun _ => ?_) | refine LE'.iter (fun _ => ?_)
def lag_Check.f_c (l1 : (List Lag)) : Option Int :=
  (if (decide (511 < (l1.length : Int))) = true then some 4 else (if (decide (Int.tmod (l1.length : Int) 2 = 0)) = true then lag_Check.k1_c true else ((slices_ContainsFunc__api_Lag_api_Lag__lag_Check_1.f_c l1).bind fun t12 => lag_Check.k1_c t12)))
theorem lag_Check.f_le (l1 : (List Lag)) : LE' (lag_Check.f_c l1) (lag_Check.f l1) := by
  unfold lag_Check.f_c lag_Check.f
  repeat' with_reducible first | exact LE'.refl (some _) | exact LE'.refl none | exact lag_Check.k1_le _ | exact slices_ContainsFunc__api_Lag_api_Lag__lag_Check_1.f_le _ | refine LE'.ite ?_ ?_ | refine LE'.bind ?_ (fun _ => ?_) | refine LE'.lt (fun _ => ?_) | refine LE'.fin (fun _ => ?_) | refine LE'.iter (fun _ => ?_)
def accum_of.k1_c (hi7 : Int) (lo8 : Int) : Option Wide :=
  some (⟨(⟨hi7, lo8⟩ : Count)⟩ : Wide)
theorem accum_of.k1_le (hi7 : Int) (lo8 : Int) : LE' (accum_of.k1_c hi7 lo8) (accum_of.k1 hi7 lo8) := by
  unfold accum_of.k1_c accum_of.k1
  repeat' with_reducible first | exact LE'.refl (some _) | exact LE'.refl none | refine LE'.ite ?_ ?_ | refine LE'.bind ?_ (fun _ => ?_) | refine LE'.lt (fun _ => ?_) | refine LE'.fin (fun _ => ?_) | refine LE'.iter (fun _ => ?_)
def accum_of.f_c (n1 : Int) : Option Wide :=
  lt' (w64 (Int.tdiv n1 1000000000)) fun hi3 => lt' (Int.tmod n1 1000000000) fun lo4 => (if (decide (lo4 < 0)) = true then lt' (w64 (lo4 + 1000000000)) fun lo10 => accum_of.k1_c (w64 (hi3 - 1)) lo10 else accum_of.k1_c hi3 lo4)
theorem accum_of.f_le (n1 : Int) : LE' (accum_of.f_c n1) (accum_of.f n1) := by
  unfold accum_of.f_c accum_of.f
  repeat' with_reducible first | exact LE'.refl (some _) | exact LE'.refl none | exact accum_of.k1_le _ _ | refine LE'.ite ?_ ?_ | refine LE'.bind ?_ (fun _ => ?_) | refine LE'.lt (fun _ => ?_) | refine LE'.fin (fun _ => ?_) | refine LE'.iter (fun _ => ?_)
def slices_Grow__api_Gap_api_Gap__nil.f_c (n1 : Int) : Option (List Gap) :=
  (if (decide (n1 < 0)) = true then none else (if (decide (0 < w64 (n1 - 0))) = true then (if 1 ≤ w64 (n1 - 0) ∧ w64 (n1 - 0) ≤ 8796093022208 then (if (0 : Int) ≤ 0 ∧ 0 ≤ ((List.replicate (w64 (n1 - 0)).toNat ((⟨0, 0⟩ : Gap) : Gap)).length : Int) then some ((List.replicate (w64 (n1 - 0)).toNat ((⟨0, 0⟩ : Gap) : Gap)).take (0 : Int).toNat) else none) else none) else some []))
theorem slices_Grow__api_Gap_api_Gap__nil.f_le (n1 : Int) : LE' (slices_Grow__api_Gap_api_Gap__nil.f_c n1) (slices_Grow__api_Gap_api_Gap__nil.f n1) := by
  unfold slices_Grow__api_Gap_api_Gap__nil.f_c slices_Grow__api_Gap_api_Gap__nil.f
  repeat' with_reducible first | exact LE'.refl (some _) | exact LE'.refl none | refine LE'.ite ?_ ?_ | refine LE'.bind ?_ (fun _ => ?_) | refine LE'.lt (fun _ => ?_) | refine LE'.fin (fun _ => ?_) | refine LE'.iter (fun _ => ?_)
def slices_Concat__api_Gap_api_Gap.s3_c (slices1 : (List (List Gap))) (newslice106 : List Gap) (x110 : Int) : Option (St ((List Gap) × Int) (List Gap) (List Gap)) :=
  (if (decide (x110 < (slices1.length : Int))) = true then (if 0 ≤ x110 ∧ x110 < (slices1.length : Int) then (if newslice106.length + (ix slices1 x110).length ≤ 8796093022208 then some (.next ((newslice106 ++ (ix slices1 x110)), w64 (x110 + 1))) else none) else none) else some (.brk newslice106))
theorem slices_Concat__api_Gap_api_Gap.s3_le (slices1 : (List (List Gap))) (newslice106 : List Gap) (x110 : Int) : LE' (slices_Concat__api_Gap_api_Gap.s3_c slices1 newslice106 x110) (slices_Concat__api_Gap_api_Gap.s3 slices1 newslice106 x110) := by
  unfold slices_Concat__api_Gap_api_Gap.s3_c slices_Concat__api_Gap_api_Gap.s3
  repeat' with_reducible first | exact LE'.refl (some _) | exact LE'.refl none | refine LE'.ite ?_ ?_ | refine LE'.bind ?_ (fun _ => ?_) | refine LE'.lt (fun _ => ?_) | refine LE'.fin (fun _ => ?_) | refine LE'.iter (fun _ => ?_)
def slices_Concat__api_Gap_api_Gap.k4_c (newslice122 : List Gap) : Option (List Gap) :=
  some newslice122
theorem slices_Concat__api_Gap_api_Gap.k4_le (newslice122 : List Gap) : LE' (slices_Concat__api_Gap_api_Gap.k4_c newslice122) (slices_Concat__api_Gap_api_Gap.k4 newslice122) := by
  unfold slices_Concat__api_Gap_api_Gap.k4_c slices_Concat__api_Gap_api_Gap.k4
  repeat' with_reducible first | exact LE'.refl (some _) | exact LE'.refl none | refine LE'.ite ?_ ?_ | refine LE'.bind ?_ (fun _ => ?_) | refine LE'.lt (fun _ => ?_) | refine LE'.fin (fun _ => ?_) | refine LE'.iter (fun _ => ?_)
def slices_Concat__api_Gap_api_Gap.s1_c (slices1 : (List (List Gap))) (size47 : Int) (x48 : Int) : Option (St (Int × Int) Int (List Gap)) :=
  (if (decide (x48 < (slices1.length : Int))) = true then (if 0 ≤ x48 ∧ x48 < (slices1.length : Int) then lt' (w64 (size47 + ((ix slices1 x48).length : Int))) fun size154 => (if (decide (size154 < 0)) = true then none else some (.next (size154, w64 (x48 + 1)))) else none) else some (.brk size47))
theorem slices_Concat__api_Gap_api_Gap.s1_le (slices1 : (List (List Gap))) (size47 : Int) (x48 : Int) : LE' (slices_Concat__api_Gap_api_Gap.s1_c slices1 size47 x48) (slices_Concat__api_Gap_api_Gap.s1 slices1 size47 x48) := by
  unfold slices_Concat__api_Gap_api_Gap.s1_c slices_Concat__api_Gap_api_Gap.s1
  repeat' with_reducible first | exact LE'.refl (some _) | exact LE'.refl none | refine LE'.ite ?_ ?_ | refine LE'.bind ?_ (fun _ => ?_) | refine LE'.lt (fun _ => ?_) | refine LE'.fin (fun _ => ?_) | refine LE'.iter (fun _ => ?_)
def slices_Concat__api_Gap_api_Gap.k2_c (slices1 : (List (List Gap))) (size68 : Int) : Option (List Gap) :=
  ((slices_Grow__api_Gap_api_Gap__nil.f_c size68).bind fun t69 => ((iterF (fun (s : ((List Gap) × Int)) => slices_Concat__api_Gap_api_Gap.s3_c slices1 s.1 s.2) (t69, 0)).bind fun o1 => fin o1 (fun (t : List Gap) => slices_Concat__api_Gap_api_Gap.k4_c t)))
theorem slices_Concat__api_Gap_api_Gap.k2_le (slices1 : (List (List Gap))) (size68 : Int) : LE' (slices_Concat__api_Gap_api_Gap.k2_c slices1 size68) (slices_Concat__api_Gap_api_Gap.k2 slices1 size68) := by
  unfold slices_Concat__api_Gap_api_Gap.k2_c slices_Concat__api_Gap_api_Gap.k2
  repeat' with_reducible first | exact LE'.refl (some _) | exact LE'.refl none | exact slices_Grow__api_Gap_api_Gap__nil.f_le _ | exact slices_Concat__api_Gap_api_Gap.s3_le _ _ _ | exact slices_Concat__api_Gap_api_Gap.k4_le _ | refine LE'.ite ?_ ?_ | refine LE'.bind ?_ (fun _ => ?_) | refine LE'.lt (fun _ => ?_) | refine LE'.fin (fun _ => ?_) | refine LE'.iter (fun _ => ?_)
def slices_Concat__api_Gap_api_Gap.f_c (slices1 : (List (List Gap))) : Option (List Gap) :=
  ((iterF (fun (s : (Int × Int)) => slices_Concat__api_Gap_api_Gap.s1_c slices1 s.1 s.2) (0, 0)).bind fun o1 => fin o1 (fun (t : Int) => slices_Concat__api_Gap_api_Gap.k2_c slices1 t))
theorem slices_Concat__api_Gap_api_Gap.f_le (slices1 : (List (List Gap))) : LE' (slices_Concat__api_Gap_api_Gap.f_c slices1) (slices_Concat__api_Gap_api_Gap.f slices1) := by
  unfold slices_Concat__api_Gap_api_Gap.f_c slices_Concat__api_Gap_api_Gap.f
  repeat' with_reducible first | exact LE'.refl (some _) | exact LE'.refl none | exact slices_Concat__api_Gap_api_Gap.s1_le _ _ _ | exact slices_Concat__api_Gap_api_Gap.k2_le _ _ | refine LE'.ite ?_ ?_ | refine LE'.bind ?_ (fun _ => ?_) | refine LE'.lt (fun _ => ?_) | refine LE'.fin (fun _ => ?_) | refine LE'.iter (fun _ => ?_)
def accum_join.k13_c (x274 : Int) (out432 : List Gap) : Option (St ((List Gap) × Int) (List Gap) ((List Gap) × Int)) :=
  some (.next (out432, w64 (x274 + 1)))
theorem accum_join.k13_le (x274 : Int) (out432 : List Gap) : LE' (accum_join.k13_c x274 out432) (accum_join.k13 x274 out432) := by
  unfold accum_join.k13_c accum_join.k13
  repeat' with_reducible first | exact LE'.refl (some _) | exact LE'.refl none | refine LE'.ite ?_ ?_ | refine LE'.bind ?_ (fun _ => ?_) | refine LE'.lt (fun _ => ?_) | refine LE'.fin (fun _ => ?_) | refine LE'.iter (fun _ => ?_)
def accum_join.k14_c (l15 : List Gap) (out267 : List Gap) (x274 : Int) (n444 : Int) (x454 : Bool) : Option (St ((List Gap) × Int) (List Gap) ((List Gap) × Int)) :=
  (if x454 = true then (if out267.length + ([(ix l15 x274)] : List Gap).length ≤ 8796093022208 then accum_join.k13_c x274 (out267 ++ ([(ix l15 x274)] : List Gap)) else none) else (if 0 ≤ w64 (n444 - 1) ∧ w64 (n444 - 1) < (out267.length : Int) then (if (decide ((ix l15 x274).At < w64 (((ix out267 (w64 (n444 - 1))).At) + ((ix out267 (w64 (n444 - 1))).Many)))) = true then some (.ret ([], 14)) else lt' (out267.set (w64 (n444 - 1)).toNat (⟨((ix out267 (w64 (n444 - 1))).At), (w64 (((ix out267 (w64 (n444 - 1))).Many) + ((ix l15 x274).Many)))⟩ : Gap)) fun l477 => accum_join.k13_c x274 l477) else none))
theorem accum_join.k14_le (l15 : List Gap) (out267 : List Gap) (x274 : Int) (n444 : Int) (x454 : Bool) : LE' (accum_join.k14_c l15 out267 x274 n444 x454) (accum_join.k14 l15 out267 x274 n444 x454) := by
  unfold accum_join.k14_c accum_join.k14
  repeat' with_reducible first | exact LE'.refl (some _) | exact LE'.refl none | exact accum_join.k13_le _ _ | refine LE'.ite ?_ ?_ | refine LE'.bind ?_ (fun _ => ?_) | refine LE'.lt (fun _ => ?_) | refine LE'.fin (fun _ => ?_) | refine LE'.iter (fun _ => ?_)
def accum_join.s10_c (l15 : List Gap) (out267 : List Gap) (x274 : Int) : Option (St ((List Gap) × Int) (List Gap) ((List Gap) × Int)) :=
  (if (decide (x274 < (l15.length : Int))) = true then (if 0 ≤ x274 ∧ x274 < (l15.length : Int) then lt' ((out267.length : Int)) fun n444 => (if (decide (n444 = 0)) = true then accum_join.k14_c l15 out267 x274 n444 true else (if 0 ≤ w64 (n444 - 1) ∧ w64 (n444 - 1) < (out267.length : Int) then accum_join.k14_c l15 out267 x274 n444 (decide (w64 (((ix out267 (w64 (n444 - 1))).At) + ((ix out267 (w64 (n444 - 1))).Many)) < (ix l15 x274).At)) else none)) else none) else some (.brk out267))
theorem accum_join.s10_le (l15 : List Gap) (out267 : List Gap) (x274 : Int) : LE' (accum_join.s10_c l15 out267 x274) (accum_join.s10 l15 out267 x274) := by
  unfold accum_join.s10_c accum_join.s10
  repeat' with_reducible first | exact LE'.refl (some _) | exact LE'.refl none | exact accum_join.k14_le _ _ _ _ _ | refine LE'.ite ?_ ?_ | refine LE'.bind ?_ (fun _ => ?_) | refine LE'.lt (fun _ => ?_) | refine LE'.fin (fun _ => ?_) | refine LE'.iter (fun _ => ?_)
def accum_join.k11_c (out379 : List Gap) : Option ((List Gap) × Int) :=
  some (out379, 0)
theorem accum_join.k11_le (out379 : List Gap) : LE' (accum_join.k11_c out379) (accum_join.k11 out379) := by
  unfold accum_join.k11_c accum_join.k11
  repeat' with_reducible first | exact LE'.refl (some _) | exact LE'.refl none | refine LE'.ite ?_ ?_ | refine LE'.bind ?_ (fun _ => ?_) | refine LE'.lt (fun _ => ?_) | refine LE'.fin (fun _ => ?_) | refine LE'.iter (fun _ => ?_)
def accum_join.f_c (a1 : (List Gap)) (b5 : (List Gap)) : Option ((List Gap) × Int) :=
  ((slices_Concat__api_Gap_api_Gap.f_c ([a1, b5] : List (List Gap))).bind fun t10 => (if t10.length ≤ 4611686018427387903 then ((sortF_c pc_accum_join_1 cf_accum_join_1 t10).bind fun l15 => ((iterF (fun (s : ((List Gap) × Int)) => accum_join.s10_c l15 s.1 s.2) ([], 0)).bind fun o1 => fin o1 (fun (t : List Gap) => accum_join.k11_c t))) else none))
theorem accum_join.f_le (a1 : (List Gap)) (b5 : (List Gap)) : LE' (accum_join.f_c a1 b5) (accum_join.f a1 b5) := by
  unfold accum_join.f_c accum_join.f
  repeat' with_reducible first | exact LE'.refl (some _) | exact LE'.refl none | exact slices_Concat__api_Gap_api_Gap.f_le _ | exact accum_join.s10_le _ _ _ | exact accum_join.k11_le _ | exact le_sortF_accum_join_1 _ | refine LE'.ite ?_ ?_ | refine LE'.bind ?_ (fun _ => ?_) | refine LE'.lt (fun _ => ?_) | refine LE'.fin (fun _ => ?_) | refine LE'.iter (fun _ => ?_)
def accum_wide_plus.k1_c (w7 : Wide) : Option Wide :=
  some w7
theorem accum_wide_plus.k1_le (w7 : Wide) : LE' (accum_wide_plus.k1_c w7) (accum_wide_plus.k1 w7) := by
  unfold accum_wide_plus.k1_c accum_wide_plus.k1
  repeat' with_reducible first | exact LE'.refl (some _) | exact LE'.refl none | exact le_sortF_accum_join_1 _ | refine LE'.ite ?_ ?_ | refine LE'.bind ?_ (fun _ => ?_) | refine LE'.lt (fun _ => ?_) | refine LE'.fin (fun _ => ?_) | refine LE'.iter (fun _ => ?_)
def accum_wide_plus.f_c (w1 : Wide) (v2 : Wide) : Option Wide :=
  (if (decide (1000000000 ≤ w64 (w1.Count.Lo + v2.Count.Lo))) = true then accum_wide_plus.k1_c (⟨(⟨(w64 ((w64 (w1.Count.Hi + v2.Count.Hi)) + 1)), (w64 ((w64 (w1.Count.Lo + v2.Count.Lo)) - 1000000000))⟩ : Count)⟩ : Wide) else accum_wide_plus.k1_c (⟨(⟨(w64 (w1.Count.Hi + v2.Count.Hi)), (w64 (w1.Count.Lo + v2.Count.Lo))⟩ : Count)⟩ : Wide))
theorem accum_wide_plus.f_le (w1 : Wide) (v2 : Wide) : LE' (accum_wide_plus.f_c w1 v2) (accum_wide_plus.f w1 v2) := by
  unfold accum_wide_plus.f_c accum_wide_plus.f
  repeat' with_reducible first | exact LE'.refl (some _) | exact LE'.refl none | exact accum_wide_plus.k1_le _ | exact le_sortF_accum_join_1 _ | refine LE'.ite ?_ ?_ | refine LE'.bind ?_ (fun _ => ?_) | refine LE'.lt (fun _ => ?_) | refine LE'.fin (fun _ => ?_) | refine LE'.iter (fun _ => ?_)
def accum_sum.s1_c (a1 : (List Count)) (b5 : (List Count)) (out60 : List Count) (x64 : Int) : Option (St ((List Count) × Int) (List Count) ((List Count) × Bool)) :=
  (if (decide (x64 < (a1.length : Int))) = true then (if 0 ≤ x64 ∧ x64 < (a1.length : Int) then (if 0 ≤ x64 ∧ x64 < (b5.length : Int) then ((accum_wide_plus.f_c (⟨(ix a1 x64)⟩ : Wide) (⟨(ix b5 x64)⟩ : Wide)).bind fun t99 => ((accum_wide_valid.f_c t99).bind fun t102 => (if (!t102) = true then some (.ret ([], false)) else (if out60.length + ([t99.Count] : List Count).length ≤ 8796093022208 then some (.next ((out60 ++ ([t99.Count] : List Count)), w64 (x64 + 1))) else none)))) else none) else none) else some (.brk out60))
theorem accum_sum.s1_le (a1 : (List Count)) (b5 : (List Count)) (out60 : List Count) (x64 : Int) : LE' (accum_sum.s1_c a1 b5 out60 x64) (accum_sum.s1 a1 b5 out60 x64) := by
  unfold accum_sum.s1_c accum_sum.s1
  repeat' with_reducible first | exact LE'.refl (some _) | exact LE'.refl none | exact accum_wide_plus.f_le _ _ | exact accum_wide_valid.f_le _ | exact le_sortF_accum_join_1 _ | refine LE'.ite ?_ ?_ | refine LE'.bind ?_ (fun _ => ?_) | refine LE'.lt (fun _ => ?_) | refine LE'.fin (fun _ => ?_) | refine LE'.iter (fun _ => ?_)
def accum_sum.k2_c (out85 : List Count) : Option ((List Count) × Bool) :=
  some (out85, true)
theorem accum_sum.k2_le (out85 : List Count) : LE' (accum_sum.k2_c out85) (accum_sum.k2 out85) := by
  unfold accum_sum.k2_c accum_sum.k2
  repeat' with_reducible first | exact LE'.refl (some _) | exact LE'.refl none | exact le_sortF_accum_join_1 _ | refine LE'.ite ?_ ?_ | refine LE'.bind ?_ (fun _ => ?_) | refine LE'.lt (fun _ => ?_) | refine LE'.fin (fun _ => ?_) | refine LE'.iter (fun _ => ?_)
def accum_sum.f_c (a1 : (List Count)) (b5 : (List Count)) : Option ((List Count) × Bool) :=
  ((iterF (fun (s : ((List Count) × Int)) => accum_sum.s1_c a1 b5 s.1 s.2) ([], 0)).bind fun o1 => fin o1 (fun (t : List Count) => accum_sum.k2_c t))
theorem accum_sum.f_le (a1 : (List Count)) (b5 : (List Count)) : LE' (accum_sum.f_c a1 b5) (accum_sum.f a1 b5) := by
  unfold accum_sum.f_c accum_sum.f
  repeat' with_reducible first | exact LE'.refl (some _) | exact LE'.refl none | exact accum_sum.s1_le _ _ _ _ | exact accum_sum.k2_le _ | exact le_sortF_accum_join_1 _ | refine LE'.ite ?_ ?_ | refine LE'.bind ?_ (fun _ => ?_) | refine LE'.lt (fun _ => ?_) | refine LE'.fin (fun _ => ?_) | refine LE'.iter (fun _ => ?_)
def accum_merge.k1_c (t24 : (List Gap) × Int) (t30 : (List Count) × Bool) (t35 : (List Count) × Bool) (x41 : Bool) : Option (Acc × Int) :=
  (if x41 = true then some ((⟨[], [], []⟩ : Acc), 16) else (if (decide (64 < (t24.1.length : Int))) = true then some ((⟨[], [], []⟩ : Acc), 4) else some ((⟨t30.1, t35.1, t24.1⟩ : Acc), 0)))
theorem accum_merge.k1_le (t24 : (List Gap) × Int) (t30 : (List Count) × Bool) (t35 : (List Count) × Bool) (x41 : Bool) : LE' (accum_merge.k1_c t24 t30 t35 x41) (accum_merge.k1 t24 t30 t35 x41) := by
  unfold accum_merge.k1_c accum_merge.k1
  repeat' with_reducible first | exact LE'.refl (some _) | exact LE'.refl none | exact le_sortF_accum_join_1 _ | refine LE'.ite ?_ ?_ | refine LE'.bind ?_ (fun _ => ?_) | refine LE'.lt (fun _ => ?_) | refine LE'.fin (fun _ => ?_) | refine LE'.iter (fun _ => ?_)
def accum_merge.f_c (a1 : Acc) (b11 : Acc) : Option (Acc × Int) :=
  ((accum_join.f_c a1.Spans b11.Spans).bind fun t24 => (if (!decide (t24.2 = 0)) = true then some ((⟨[], [], []⟩ : Acc), t24.2) else ((accum_sum.f_c a1.Sums b11.Sums).bind fun t30 => ((accum_sum.f_c a1.Ns b11.Ns).bind fun t35 => (if (!t30.2) = true then accum_merge.k1_c t24 t30 t35 true else accum_merge.k1_c t24 t30 t35 (!t35.2))))))
theorem accum_merge.f_le (a1 : Acc) (b11 : Acc) : LE' (accum_merge.f_c a1 b11) (accum_merge.f a1 b11) := by
  unfold accum_merge.f_c accum_merge.f
  repeat' with_reducible first | exact LE'.refl (some _) | exact LE'.refl none | exact accum_join.f_le _ _ | exact accum_sum.f_le _ _ | exact accum_merge.k1_le _ _ _ _ | exact le_sortF_accum_join_1 _ | refine LE'.ite ?_ ?_ | refine LE'.bind ?_ (fun _ => ?_) | refine LE'.lt (fun _ => ?_) | refine LE'.fin (fun _ => ?_) | refine LE'.iter (fun _ => ?_)
def accum_Add.s2_c (l11 : (List Lag)) (b89 : List Count) (b93 : List Count) (x97 : Int) : Option (St ((List Count) × (List Count) × Int) ((List Count) × (List Count)) (Acc × Int)) :=
  (if (decide (x97 < (l11.length : Int))) = true then (if 0 ≤ x97 ∧ x97 < (l11.length : Int) then ((accum_of.f_c ((ix l11 x97).Sum)).bind fun t141 => (if b89.length + ([t141.Count] : List Count).length ≤ 8796093022208 then ((accum_of.f_c ((ix l11 x97).N)).bind fun t1147 => (if b93.length + ([t1147.Count] : List Count).length ≤ 8796093022208 then some (.next ((b89 ++ ([t141.Count] : List Count)), (b93 ++ ([t1147.Count] : List Count)), w64 (x97 + 1))) else none)) else none)) else none) else some (.brk (b89, b93)))
theorem accum_Add.s2_le (l11 : (List Lag)) (b89 : List Count) (b93 : List Count) (x97 : Int) : LE' (accum_Add.s2_c l11 b89 b93 x97) (accum_Add.s2 l11 b89 b93 x97) := by
  unfold accum_Add.s2_c accum_Add.s2
  repeat' with_reducible first | exact LE'.refl (some _) | exact LE'.refl none | exact accum_of.f_le _ | exact le_sortF_accum_join_1 _ | refine LE'.ite ?_ ?_ | refine LE'.bind ?_ (fun _ => ?_) | refine LE'.lt (fun _ => ?_) | refine LE'.fin (fun _ => ?_) | refine LE'.iter (fun _ => ?_)
def accum_Add.k3_c (a1 : Acc) (at15 : Int) (many16 : Int) (b116 : List Count) (b120 : List Count) : Option (Acc × Int) :=
  ((accum_merge.f_c a1 (⟨b116, b120, ([(⟨at15, many16⟩ : Gap)] : List Gap)⟩ : Acc)).bind fun t124 => some (t124.1, t124.2))
theorem accum_Add.k3_le (a1 : Acc) (at15 : Int) (many16 : Int) (b116 : List Count) (b120 : List Count) : LE' (accum_Add.k3_c a1 at15 many16 b116 b120) (accum_Add.k3 a1 at15 many16 b116 b120) := by
  unfold accum_Add.k3_c accum_Add.k3
  repeat' with_reducible first | exact LE'.refl (some _) | exact LE'.refl none | exact accum_merge.f_le _ _ | exact le_sortF_accum_join_1 _ | refine LE'.ite ?_ ?_ | refine LE'.bind ?_ (fun _ => ?_) | refine LE'.lt (fun _ => ?_) | refine LE'.fin (fun _ => ?_) | refine LE'.iter (fun _ => ?_)
def accum_Add.k1_c (a1 : Acc) (l11 : (List Lag)) (at15 : Int) (many16 : Int) (x29 : Bool) : Option (Acc × Int) :=
  (if x29 = true then some ((⟨[], [], []⟩ : Acc), 2) else ((iterF (fun (s : ((List Count) × (List Count) × Int)) => accum_Add.s2_c l11 s.1 s.2.1 s.2.2) ([], [], 0)).bind fun o1 => fin o1 (fun (t : ((List Count) × (List Count))) => accum_Add.k3_c a1 at15 many16 t.1 t.2)))
theorem accum_Add.k1_le (a1 : Acc) (l11 : (List Lag)) (at15 : Int) (many16 : Int) (x29 : Bool) : LE' (accum_Add.k1_c a1 l11 at15 many16 x29) (accum_Add.k1 a1 l11 at15 many16 x29) := by
  unfold accum_Add.k1_c accum_Add.k1
  repeat' with_reducible first | exact LE'.refl (some _) | exact LE'.refl none | exact accum_Add.s2_le _ _ _ _ | exact accum_Add.k3_le _ _ _ _ _ | exact le_sortF_accum_join_1 _ | refine LE'.ite ?_ ?_ | refine LE'.bind ?_ (fun _ => ?_) | refine LE'.lt (fun _ => ?_) | refine LE'.fin (fun _ => ?_) | refine LE'.iter (fun _ => ?_)
def accum_Add.f_c (a1 : Acc) (l11 : (List Lag)) (at15 : Int) (many16 : Int) : Option (Acc × Int) :=
  ((accum_Check.f_c a1).bind fun t19 => (if (!decide (t19 = 0)) = true then some ((⟨[], [], []⟩ : Acc), t19) else ((lag_Check.f_c l11).bind fun t22 => (if (!decide (t22 = 0)) = true then some ((⟨[], [], []⟩ : Acc), t22) else (if (!decide ((l11.length : Int) = (a1.Sums.length : Int))) = true then accum_Add.k1_c a1 l11 at15 many16 true else (if (decide (many16 < 1)) = true then accum_Add.k1_c a1 l11 at15 many16 true else (if (decide (256 < many16)) = true then accum_Add.k1_c a1 l11 at15 many16 true else (if (decide (at15 < 0)) = true then accum_Add.k1_c a1 l11 at15 many16 true else accum_Add.k1_c a1 l11 at15 many16 (decide (w64 (1000000000 - many16) < at15))))))))))
theorem accum_Add.f_le (a1 : Acc) (l11 : (List Lag)) (at15 : Int) (many16 : Int) : LE' (accum_Add.f_c a1 l11 at15 many16) (accum_Add.f a1 l11 at15 many16) := by
  unfold accum_Add.f_c accum_Add.f
  repeat' with_reducible first | exact LE'.refl (some _) | exact LE'.refl none | exact accum_Check.f_le _ | exact lag_Check.f_le _ | exact accum_Add.k1_le _ _ _ _ _ | exact le_sortF_accum_join_1 _ | refine LE'.ite ?_ ?_ | refine LE'.bind ?_ (fun _ => ?_) | refine LE'.lt (fun _ => ?_) | refine LE'.fin (fun _ => ?_) | refine LE'.iter (fun _ => ?_)
def accum_wide_value.f_c (w1 : Wide) : Option Int :=
  some (w64 ((w64 (w1.Count.Hi * 1000000000)) + w1.Count.Lo))
theorem accum_wide_value.f_le (w1 : Wide) : LE' (accum_wide_value.f_c w1) (accum_wide_value.f w1) := by
  unfold accum_wide_value.f_c accum_wide_value.f
  repeat' with_reducible first | exact LE'.refl (some _) | exact LE'.refl none | exact le_sortF_accum_join_1 _ | refine LE'.ite ?_ ?_ | refine LE'.bind ?_ (fun _ => ?_) | refine LE'.lt (fun _ => ?_) | refine LE'.fin (fun _ => ?_) | refine LE'.iter (fun _ => ?_)
def accum_Value.k1_c (a1 : Acc) (lag11 : Int) (most16 : Int) (x18 : Bool) : Option (Int × Int × Int) :=
  (if x18 = true then some (0, 0, 2) else (if 0 ≤ w64 (lag11 + most16) ∧ w64 (lag11 + most16) < (a1.Sums.length : Int) then ((accum_wide_value.f_c (⟨(ix a1.Sums (w64 (lag11 + most16)))⟩ : Wide)).bind fun t24 => (if 0 ≤ w64 (lag11 + most16) ∧ w64 (lag11 + most16) < (a1.Ns.length : Int) then ((accum_wide_value.f_c (⟨(ix a1.Ns (w64 (lag11 + most16)))⟩ : Wide)).bind fun t30 => some (t24, t30, 0)) else none)) else none))
theorem accum_Value.k1_le (a1 : Acc) (lag11 : Int) (most16 : Int) (x18 : Bool) : LE' (accum_Value.k1_c a1 lag11 most16 x18) (accum_Value.k1 a1 lag11 most16 x18) := by
  unfold accum_Value.k1_c accum_Value.k1
  repeat' with_reducible first | exact LE'.refl (some _) | exact LE'.refl none | exact accum_wide_value.f_le _ | exact le_sortF_accum_join_1 _ | refine LE'.ite ?_ ?_ | refine LE'.bind ?_ (fun _ => ?_) | refine LE'.lt (fun _ => ?_) | refine LE'.fin (fun _ => ?_) | refine LE'.iter (fun _ => ?_)
def accum_Value.f_c (a1 : Acc) (lag11 : Int) : Option (Int × Int × Int) :=
  ((accum_Check.f_c a1).bind fun t13 => (if (!decide (t13 = 0)) = true then some (0, 0, t13) else lt' (w64 (Int.tdiv (a1.Sums.length : Int) 2)) fun most16 => (if (decide (lag11 < w64 (0 - most16))) = true then accum_Value.k1_c a1 lag11 most16 true else accum_Value.k1_c a1 lag11 most16 (decide (most16 < lag11)))))
theorem accum_Value.f_le (a1 : Acc) (lag11 : Int) : LE' (accum_Value.f_c a1 lag11) (accum_Value.f a1 lag11) := by
  unfold accum_Value.f_c accum_Value.f
  repeat' with_reducible first | exact LE'.refl (some _) | exact LE'.refl none | exact accum_Check.f_le _ | exact accum_Value.k1_le _ _ _ _ | exact le_sortF_accum_join_1 _ | refine LE'.ite ?_ ?_ | refine LE'.bind ?_ (fun _ => ?_) | refine LE'.lt (fun _ => ?_) | refine LE'.fin (fun _ => ?_) | refine LE'.iter (fun _ => ?_)
def frac_abs.f_c (n1 : Int) : Option Int :=
  (if (decide (n1 < 0)) = true then some (wu64 (0 - wu64 n1)) else some (wu64 n1))
theorem frac_abs.f_le (n1 : Int) : LE' (frac_abs.f_c n1) (frac_abs.f n1) := by
  unfold frac_abs.f_c frac_abs.f
  repeat' with_reducible first | exact LE'.refl (some _) | exact LE'.refl none | exact le_sortF_accum_join_1 _ | refine LE'.ite ?_ ?_ | refine LE'.bind ?_ (fun _ => ?_) | refine LE'.lt (fun _ => ?_) | refine LE'.fin (fun _ => ?_) | refine LE'.iter (fun _ => ?_)
def frac_gcd.s1_c (a11 : Int) (b12 : Int) : Option (St (Int × Int) Int Int) :=
  (if (decide (0 < b12)) = true then (if ¬ b12 = 0 then lt' (Int.tmod a11 b12) fun b19 => some (.next (b12, b19)) else none) else some (.brk a11))
theorem frac_gcd.s1_le (a11 : Int) (b12 : Int) : LE' (frac_gcd.s1_c a11 b12) (frac_gcd.s1 a11 b12) := by
  unfold frac_gcd.s1_c frac_gcd.s1
  repeat' with_reducible first | exact LE'.refl (some _) | exact LE'.refl none | exact le_sortF_accum_join_1 _ | refine LE'.ite ?_ ?_ | refine LE'.bind ?_ (fun _ => ?_) | refine LE'.lt (fun _ => ?_) | refine LE'.fin (fun _ => ?_) | refine LE'.iter (fun _ => ?_)
def frac_gcd.k2_c (a16 : Int) : Option Int :=
  some a16
theorem frac_gcd.k2_le (a16 : Int) : LE' (frac_gcd.k2_c a16) (frac_gcd.k2 a16) := by
  unfold frac_gcd.k2_c frac_gcd.k2
  repeat' with_reducible first | exact LE'.refl (some _) | exact LE'.refl none | exact le_sortF_accum_join_1 _ | refine LE'.ite ?_ ?_ | refine LE'.bind ?_ (fun _ => ?_) | refine LE'.lt (fun _ => ?_) | refine LE'.fin (fun _ => ?_) | refine LE'.iter (fun _ => ?_)
def frac_gcd.f_c (a1 : Int) (b2 : Int) : Option Int :=
  ((iterF (fun (s : (Int × Int)) => frac_gcd.s1_c s.1 s.2) (a1, b2)).bind fun o1 => fin o1 (fun (t : Int) => frac_gcd.k2_c t))
theorem frac_gcd.f_le (a1 : Int) (b2 : Int) : LE' (frac_gcd.f_c a1 b2) (frac_gcd.f a1 b2) := by
  unfold frac_gcd.f_c frac_gcd.f
  repeat' with_reducible first | exact LE'.refl (some _) | exact LE'.refl none | exact frac_gcd.s1_le _ _ | exact frac_gcd.k2_le _ | exact le_sortF_accum_join_1 _ | refine LE'.ite ?_ ?_ | refine LE'.bind ?_ (fun _ => ?_) | refine LE'.lt (fun _ => ?_) | refine LE'.fin (fun _ => ?_) | refine LE'.iter (fun _ => ?_)
def frac_made.k2_c (a10 : Frac) : Option (Frac × Int) :=
  some (a10, 0)
theorem frac_made.k2_le (a10 : Frac) : LE' (frac_made.k2_c a10) (frac_made.k2 a10) := by
  unfold frac_made.k2_c frac_made.k2
  repeat' with_reducible first | exact LE'.refl (some _) | exact LE'.refl none | exact le_sortF_accum_join_1 _ | refine LE'.ite ?_ ?_ | refine LE'.bind ?_ (fun _ => ?_) | refine LE'.lt (fun _ => ?_) | refine LE'.fin (fun _ => ?_) | refine LE'.iter (fun _ => ?_)
def frac_made.k1_c (minus1 : Bool) (num2 : Int) (den3 : Int) (x6 : Bool) : Option (Frac × Int) :=
  (if x6 = true then some ((⟨0, 0⟩ : Frac), 16) else (if minus1 = true then frac_made.k2_c (⟨(w64 (0 - w64 num2)), (w64 den3)⟩ : Frac) else frac_made.k2_c (⟨(w64 num2), (w64 den3)⟩ : Frac)))
theorem frac_made.k1_le (minus1 : Bool) (num2 : Int) (den3 : Int) (x6 : Bool) : LE' (frac_made.k1_c minus1 num2 den3 x6) (frac_made.k1 minus1 num2 den3 x6) := by
  unfold frac_made.k1_c frac_made.k1
  repeat' with_reducible first | exact LE'.refl (some _) | exact LE'.refl none | exact frac_made.k2_le _ | exact le_sortF_accum_join_1 _ | refine LE'.ite ?_ ?_ | refine LE'.bind ?_ (fun _ => ?_) | refine LE'.lt (fun _ => ?_) | refine LE'.fin (fun _ => ?_) | refine LE'.iter (fun _ => ?_)
def frac_made.f_c (minus1 : Bool) (num2 : Int) (den3 : Int) : Option (Frac × Int) :=
  (if (decide (1000000000000000000 < num2)) = true then frac_made.k1_c minus1 num2 den3 true else frac_made.k1_c minus1 num2 den3 (decide (1000000000000000000 < den3)))
theorem frac_made.f_le (minus1 : Bool) (num2 : Int) (den3 : Int) : LE' (frac_made.f_c minus1 num2 den3) (frac_made.f minus1 num2 den3) := by
  unfold frac_made.f_c frac_made.f
  repeat' with_reducible first | exact LE'.refl (some _) | exact LE'.refl none | exact frac_made.k1_le _ _ _ _ | exact le_sortF_accum_join_1 _ | refine LE'.ite ?_ ?_ | refine LE'.bind ?_ (fun _ => ?_) | refine LE'.lt (fun _ => ?_) | refine LE'.fin (fun _ => ?_) | refine LE'.iter (fun _ => ?_)
def frac_Make.f_c (num1 : Int) (den2 : Int) : Option (Frac × Int) :=
  (if (decide (den2 = 0)) = true then some ((⟨0, 0⟩ : Frac), 18) else ((frac_abs.f_c num1).bind fun t5 => ((frac_abs.f_c den2).bind fun t7 => ((frac_gcd.f_c t5 t7).bind fun t9 => (if ¬ t9 = 0 then (if ¬ t9 = 0 then ((frac_made.f_c (!((decide (num1 < 0)) == (decide (den2 < 0)))) (wu64 (Int.tdiv t5 t9)) (wu64 (Int.tdiv t7 t9))).bind fun t13 => some (t13.1, t13.2)) else none) else none)))))
theorem frac_Make.f_le (num1 : Int) (den2 : Int) : LE' (frac_Make.f_c num1 den2) (frac_Make.f num1 den2) := by
  unfold frac_Make.f_c frac_Make.f
  repeat' with_reducible first | exact LE'.refl (some _) | exact LE'.refl none | exact frac_abs.f_le _ | exact frac_gcd.f_le _ _ | exact frac_made.f_le _ _ _ | exact le_sortF_accum_join_1 _ | refine LE'.ite ?_ ?_ | refine LE'.bind ?_ (fun _ => ?_) | refine LE'.lt (fun _ => ?_) | refine LE'.fin (fun _ => ?_) | refine LE'.iter (fun _ => ?_)
def accum_Mean.f_c (a1 : Acc) (lag11 : Int) : Option (Frac × Int) :=
  ((accum_Value.f_c a1 lag11).bind fun t14 => (if (!decide (t14.2.2 = 0)) = true then some ((⟨0, 0⟩ : Frac), t14.2.2) else (if (decide (t14.2.1 = 0)) = true then some ((⟨0, 0⟩ : Frac), 18) else ((frac_Make.f_c t14.1 t14.2.1).bind fun t18 => some (t18.1, t18.2)))))
theorem accum_Mean.f_le (a1 : Acc) (lag11 : Int) : LE' (accum_Mean.f_c a1 lag11) (accum_Mean.f a1 lag11) := by
  unfold accum_Mean.f_c accum_Mean.f
  repeat' with_reducible first | exact LE'.refl (some _) | exact LE'.refl none | exact accum_Value.f_le _ _ | exact frac_Make.f_le _ _ | exact le_sortF_accum_join_1 _ | refine LE'.ite ?_ ?_ | refine LE'.bind ?_ (fun _ => ?_) | refine LE'.lt (fun _ => ?_) | refine LE'.fin (fun _ => ?_) | refine LE'.iter (fun _ => ?_)
def accum_Times.s1_c (a1 : Acc) (n33 : Int) (x34 : Int) : Option (St (Int × Int) Int (Int × Int)) :=
  (if (decide (x34 < (a1.Spans.length : Int))) = true then (if 0 ≤ x34 ∧ x34 < (a1.Spans.length : Int) then lt' (w64 (n33 + ((ix a1.Spans x34).Many))) fun n49 => some (.next (n49, w64 (x34 + 1))) else none) else some (.brk n33))
theorem accum_Times.s1_le (a1 : Acc) (n33 : Int) (x34 : Int) : LE' (accum_Times.s1_c a1 n33 x34) (accum_Times.s1 a1 n33 x34) := by
  unfold accum_Times.s1_c accum_Times.s1
  repeat' with_reducible first | exact LE'.refl (some _) | exact LE'.refl none | exact le_sortF_accum_join_1 _ | refine LE'.ite ?_ ?_ | refine LE'.bind ?_ (fun _ => ?_) | refine LE'.lt (fun _ => ?_) | refine LE'.fin (fun _ => ?_) | refine LE'.iter (fun _ => ?_)
def accum_Times.k2_c (n42 : Int) : Option (Int × Int) :=
  some (n42, 0)
theorem accum_Times.k2_le (n42 : Int) : LE' (accum_Times.k2_c n42) (accum_Times.k2 n42) := by
  unfold accum_Times.k2_c accum_Times.k2
  repeat' with_reducible first | exact LE'.refl (some _) | exact LE'.refl none | exact le_sortF_accum_join_1 _ | refine LE'.ite ?_ ?_ | refine LE'.bind ?_ (fun _ => ?_) | refine LE'.lt (fun _ => ?_) | refine LE'.fin (fun _ => ?_) | refine LE'.iter (fun _ => ?_)
def accum_Times.f_c (a1 : Acc) : Option (Int × Int) :=
  ((accum_Check.f_c a1).bind fun t12 => (if (!decide (t12 = 0)) = true then some (0, t12) else ((iterF (fun (s : (Int × Int)) => accum_Times.s1_c a1 s.1 s.2) (0, 0)).bind fun o1 => fin o1 (fun (t : Int) => accum_Times.k2_c t))))
theorem accum_Times.f_le (a1 : Acc) : LE' (accum_Times.f_c a1) (accum_Times.f a1) := by
  unfold accum_Times.f_c accum_Times.f
  repeat' with_reducible first | exact LE'.refl (some _) | exact LE'.refl none | exact accum_Check.f_le _ | exact accum_Times.s1_le _ _ _ | exact accum_Times.k2_le _ | exact le_sortF_accum_join_1 _ | refine LE'.ite ?_ ?_ | refine LE'.bind ?_ (fun _ => ?_) | refine LE'.lt (fun _ => ?_) | refine LE'.fin (fun _ => ?_) | refine LE'.iter (fun _ => ?_)
def law18_alive.k1_c (t27 : Acc × Int) (t39 : Int × Int × Int) (t41 : Frac × Int) (t44 : Int × Int) (t60 : Acc × Int) (ok79 : Bool) : Option Bool :=
  (if ok79 = true then (if (decide (t39.1 = 12)) = true then (if (decide (t39.2.1 = 8)) = true then (if (decide (t41.1 = (⟨3, 2⟩ : Frac))) = true then (if (decide (t44.1 = 8)) = true then (if (decide ((t27.1.Spans.length : Int) = 1)) = true then (if (0 : Int) ≤ 0 ∧ 0 < (t27.1.Spans.length : Int) then (if (decide ((ix t27.1.Spans 0) = (⟨0, 8⟩ : Gap))) = true then (if (decide ((t60.1.Sums.length : Int) = 1)) = true then (if (0 : Int) ≤ 0 ∧ 0 < (t60.1.Sums.length : Int) then some (decide ((ix t60.1.Sums 0) = (⟨(-1), 999999999⟩ : Count))) else none) else some false) else some false) else none) else some false) else some false) else some false) else some false) else some false) else some false)
theorem law18_alive.k1_le (t27 : Acc × Int) (t39 : Int × Int × Int) (t41 : Frac × Int) (t44 : Int × Int) (t60 : Acc × Int) (ok79 : Bool) : LE' (law18_alive.k1_c t27 t39 t41 t44 t60 ok79) (law18_alive.k1 t27 t39 t41 t44 t60 ok79) := by
  unfold law18_alive.k1_c law18_alive.k1
  repeat' with_reducible first | exact LE'.refl (some _) | exact LE'.refl none | exact le_sortF_accum_join_1 _ | refine LE'.ite ?_ ?_ | refine LE'.bind ?_ (fun _ => ?_) | refine LE'.lt (fun _ => ?_) | refine LE'.fin (fun _ => ?_) | refine LE'.iter (fun _ => ?_)
def law18_alive.f_c : Option Bool :=
  ((accum_New.f_c 0).bind fun t1 => ((accum_Add.f_c t1.1 ([(⟨5, 3⟩ : Lag)] : List Lag) 0 3).bind fun t14 => ((accum_Add.f_c t14.1 ([(⟨7, 5⟩ : Lag)] : List Lag) 3 5).bind fun t27 => ((accum_Value.f_c t27.1 0).bind fun t39 => ((accum_Mean.f_c t27.1 0).bind fun t41 => ((accum_Times.f_c t27.1).bind fun t44 => ((accum_Add.f_c t27.1 ([(⟨1, 1⟩ : Lag)] : List Lag) 7 1).bind fun t47 => ((accum_Add.f_c t1.1 ([(⟨(-1), 1⟩ : Lag)] : List Lag) 0 1).bind fun t60 => (if (decide (t1.2 = 0)) = true then (if (decide (t14.2 = 0)) = true then (if (decide (t27.2 = 0)) = true then (if (decide (t39.2.2 = 0)) = true then (if (decide (t41.2 = 0)) = true then (if (decide (t44.2 = 0)) = true then (if (decide (t47.2 = 14)) = true then law18_alive.k1_c t27 t39 t41 t44 t60 (decide (t60.2 = 0)) else law18_alive.k1_c t27 t39 t41 t44 t60 false) else law18_alive.k1_c t27 t39 t41 t44 t60 false) else law18_alive.k1_c t27 t39 t41 t44 t60 false) else law18_alive.k1_c t27 t39 t41 t44 t60 false) else law18_alive.k1_c t27 t39 t41 t44 t60 false) else law18_alive.k1_c t27 t39 t41 t44 t60 false) else law18_alive.k1_c t27 t39 t41 t44 t60 false)))))))))
theorem law18_alive.f_le : LE' (law18_alive.f_c) (law18_alive.f) := by
  unfold law18_alive.f_c law18_alive.f
  repeat' with_reducible first | exact LE'.refl (some _) | exact LE'.refl none | exact accum_New.f_le _ | exact accum_Add.f_le _ _ _ _ | exact accum_Value.f_le _ _ | exact accum_Mean.f_le _ _ | exact accum_Times.f_le _ | exact law18_alive.k1_le _ _ _ _ _ _ | exact le_sortF_accum_join_1 _ | refine LE'.ite ?_ ?_ | refine LE'.bind ?_ (fun _ => ?_) | refine LE'.lt (fun _ => ?_) | refine LE'.fin (fun _ => ?_) | refine LE'.iter (fun _ => ?_)

end Go.Proofs.Ytiepcikippcfaaa.M
