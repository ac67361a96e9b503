import Derived.Test.YtifpegepdgmmbaaGc
import Derived.Test.YtifpegepdgmmbaaM0
set_option linter.unusedVariables false
set_option linter.unusedSimpArgs false
set_option maxRecDepth 100000
set_option maxHeartbeats 8000000
namespace Go.Proofs.Ytifpegepdgmmbaa.M
open Go.GW Go.Proofs

def law35_of.f_c (re1 : Int) (im2 : Int) (den3 : Int) : Option Cx :=
  some (⟨re1, im2, den3⟩ : Cx)
theorem law35_of.f_le (re1 : Int) (im2 : Int) (den3 : Int) : LE' (law35_of.f_c re1 im2 den3) (law35_of.f re1 im2 den3) := by
  unfold law35_of.f_c law35_of.f
  repeat' with_reducible first | exact LE'.refl (some _) | exact LE'.refl none | refine LE'.ite ?_ ?_ | refine LE'.bind ?_ (fun _ => ?_) | refine LE'.lt (fun _ => ?_) | refine LE'.fin (fun _ => ?_) | refine LE'.iter (fun _ => ?_)
def law35_example.f_c : Option (List Spoil) :=
  ((law35_of.f_c 3 0 1).bind fun t1 => some ([(⟨1, 2, 0, 9, t1, 0⟩ : Spoil), (⟨3, 2, 3, 9, (⟨0, 0, 0⟩ : Cx), 1⟩ : Spoil)] : List Spoil))
theorem law35_example.f_le : LE' (law35_example.f_c) (law35_example.f) := by
  unfold law35_example.f_c law35_example.f
  repeat' with_reducible first | exact LE'.refl (some _) | exact LE'.refl none | exact law35_of.f_le _ _ _ | refine LE'.ite ?_ ?_ | refine LE'.bind ?_ (fun _ => ?_) | refine LE'.lt (fun _ => ?_) | refine LE'.fin (fun _ => ?_) | refine LE'.iter (fun _ => ?_)
def cx_Check_1.f_c (n1 : Int) : Option Bool :=
  (if (decide ((-1000000000) ≤ n1)) = true then some (decide (n1 ≤ 1000000000)) else some false)
theorem cx_Check_1.f_le (n1 : Int) : LE' (cx_Check_1.f_c n1) (cx_Check_1.f n1) := by
  unfold cx_Check_1.f_c cx_Check_1.f
  repeat' with_reducible first | exact LE'.refl (some _) | exact LE'.refl none | refine LE'.ite ?_ ?_ | refine LE'.bind ?_ (fun _ => ?_) | refine LE'.lt (fun _ => ?_) | refine LE'.fin (fun _ => ?_) | refine LE'.iter (fun _ => ?_)
def cx_gcd.s9_c (g108 : Int) (n109 : Int) : Option (St (Int × Int) Int (St (Int × Int) Int Int)) :=
  (if (!decide (n109 = 0)) = true then (if ¬ n109 = 0 then lt' (Int.tmod g108 n109) fun n116 => some (.next (n109, n116)) else none) else some (.brk g108))
theorem cx_gcd.s9_le (g108 : Int) (n109 : Int) : LE' (cx_gcd.s9_c g108 n109) (cx_gcd.s9 g108 n109) := by
  unfold cx_gcd.s9_c cx_gcd.s9
  repeat' with_reducible first | exact LE'.refl (some _) | exact LE'.refl none | refine LE'.ite ?_ ?_ | refine LE'.bind ?_ (fun _ => ?_) | refine LE'.lt (fun _ => ?_) | refine LE'.fin (fun _ => ?_) | refine LE'.iter (fun _ => ?_)
def cx_gcd.k10_c (x67 : Int) (g113 : Int) : Option (St (Int × Int) Int Int) :=
  some (.next (g113, w64 (x67 + 1)))
theorem cx_gcd.k10_le (x67 : Int) (g113 : Int) : LE' (cx_gcd.k10_c x67 g113) (cx_gcd.k10 x67 g113) := by
  unfold cx_gcd.k10_c cx_gcd.k10
  repeat' with_reducible first | exact LE'.refl (some _) | exact LE'.refl none | refine LE'.ite ?_ ?_ | refine LE'.bind ?_ (fun _ => ?_) | refine LE'.lt (fun _ => ?_) | refine LE'.fin (fun _ => ?_) | refine LE'.iter (fun _ => ?_)
def cx_gcd.s7_c (l1 : (List Int)) (g63 : Int) (x67 : Int) : Option (St (Int × Int) Int Int) :=
  (if (decide (x67 < (l1.length : Int))) = true then (if 0 ≤ x67 ∧ x67 < (l1.length : Int) then ((iterF (fun (s : (Int × Int)) => cx_gcd.s9_c s.1 s.2) (g63, (ix l1 x67))).bind fun o2 => fin o2 (fun (t : Int) => cx_gcd.k10_c x67 t)) else none) else some (.brk g63))
theorem cx_gcd.s7_le (l1 : (List Int)) (g63 : Int) (x67 : Int) : LE' (cx_gcd.s7_c l1 g63 x67) (cx_gcd.s7 l1 g63 x67) := by
  unfold cx_gcd.s7_c cx_gcd.s7
  repeat' with_reducible first | exact LE'.refl (some _) | exact LE'.refl none | exact cx_gcd.s9_le _ _ | exact cx_gcd.k10_le _ _ | refine LE'.ite ?_ ?_ | refine LE'.bind ?_ (fun _ => ?_) | refine LE'.lt (fun _ => ?_) | refine LE'.fin (fun _ => ?_) | refine LE'.iter (fun _ => ?_)
def cx_gcd.k8_c (g92 : Int) : Option Int :=
  some (gmax g92 (w64 (0 - g92)))
theorem cx_gcd.k8_le (g92 : Int) : LE' (cx_gcd.k8_c g92) (cx_gcd.k8 g92) := by
  unfold cx_gcd.k8_c cx_gcd.k8
  repeat' with_reducible first | exact LE'.refl (some _) | exact LE'.refl none | refine LE'.ite ?_ ?_ | refine LE'.bind ?_ (fun _ => ?_) | refine LE'.lt (fun _ => ?_) | refine LE'.fin (fun _ => ?_) | refine LE'.iter (fun _ => ?_)
def cx_gcd.f_c (l1 : (List Int)) : Option Int :=
  ((iterF (fun (s : (Int × Int)) => cx_gcd.s7_c l1 s.1 s.2) (0, 0)).bind fun o1 => fin o1 (fun (t : Int) => cx_gcd.k8_c t))
theorem cx_gcd.f_le (l1 : (List Int)) : LE' (cx_gcd.f_c l1) (cx_gcd.f l1) := by
  unfold cx_gcd.f_c cx_gcd.f
  repeat' with_reducible first | exact LE'.refl (some _) | exact LE'.refl none | exact cx_gcd.s7_le _ _ _ | exact cx_gcd.k8_le _ | refine LE'.ite ?_ ?_ | refine LE'.bind ?_ (fun _ => ?_) | refine LE'.lt (fun _ => ?_) | refine LE'.fin (fun _ => ?_) | refine LE'.iter (fun _ => ?_)
def cx_Check.k1_c (x16 : Bool) : Option Int :=
  (if x16 = true then some 8 else some 0)
theorem cx_Check.k1_le (x16 : Bool) : LE' (cx_Check.k1_c x16) (cx_Check.k1 x16) := by
  unfold cx_Check.k1_c cx_Check.k1
  repeat' with_reducible first | exact LE'.refl (some _) | exact LE'.refl none | refine LE'.ite ?_ ?_ | refine LE'.bind ?_ (fun _ => ?_) | refine LE'.lt (fun _ => ?_) | refine LE'.fin (fun _ => ?_) | refine LE'.iter (fun _ => ?_)
def cx_Check.f_c (a1 : Cx) : Option Int :=
  (if (decide (a1.Den < 1)) = true then cx_Check.k1_c true else ((cx_Check_1.f_c a1.Re).bind fun t19 => (if (!t19) = true then cx_Check.k1_c true else ((cx_Check_1.f_c a1.Im).bind fun t22 => (if (!t22) = true then cx_Check.k1_c true else ((cx_Check_1.f_c a1.Den).bind fun t25 => (if (!t25) = true then cx_Check.k1_c true else ((cx_gcd.f_c ([a1.Re, a1.Im, a1.Den] : List Int)).bind fun t29 => cx_Check.k1_c (!decide (t29 = 1))))))))))
theorem cx_Check.f_le (a1 : Cx) : LE' (cx_Check.f_c a1) (cx_Check.f a1) := by
  unfold cx_Check.f_c cx_Check.f
  repeat' with_reducible first | exact LE'.refl (some _) | exact LE'.refl none | exact cx_Check.k1_le _ | exact cx_Check_1.f_le _ | exact cx_gcd.f_le _ | refine LE'.ite ?_ ?_ | refine LE'.bind ?_ (fun _ => ?_) | refine LE'.lt (fun _ => ?_) | refine LE'.fin (fun _ => ?_) | refine LE'.iter (fun _ => ?_)
def corrupt_valid.k2_c (x1 : Spoil) (x16 : Bool) : Option Bool :=
  (if x16 = true then (if (decide (x1.V = (⟨0, 0, 0⟩ : Cx))) = true then (if (decide (0 ≤ x1.Q)) = true then some (decide (x1.Q < 4)) else some false) else some false) else some false)
theorem corrupt_valid.k2_le (x1 : Spoil) (x16 : Bool) : LE' (corrupt_valid.k2_c x1 x16) (corrupt_valid.k2 x1 x16) := by
  unfold corrupt_valid.k2_c corrupt_valid.k2
  repeat' with_reducible first | exact LE'.refl (some _) | exact LE'.refl none | refine LE'.ite ?_ ?_ | refine LE'.bind ?_ (fun _ => ?_) | refine LE'.lt (fun _ => ?_) | refine LE'.fin (fun _ => ?_) | refine LE'.iter (fun _ => ?_)
def corrupt_valid.k1_c (x1 : Spoil) (x7 : Bool) : Option Bool :=
  (if x7 = true then some false else (if (decide (x1.Kind = 1)) = true then (if (decide (x1.Q = 0)) = true then ((cx_Check.f_c x1.V).bind fun t11 => (if (decide (t11 = 0)) = true then (if (!decide (x1.V.Re = 0)) = true then some true else some (!decide (x1.V.Im = 0))) else some false)) else some false) else (if (decide (x1.Kind = 2)) = true then corrupt_valid.k2_c x1 (decide (x1.Kind = 2)) else corrupt_valid.k2_c x1 (decide (x1.Kind = 3)))))
theorem corrupt_valid.k1_le (x1 : Spoil) (x7 : Bool) : LE' (corrupt_valid.k1_c x1 x7) (corrupt_valid.k1 x1 x7) := by
  unfold corrupt_valid.k1_c corrupt_valid.k1
  repeat' with_reducible first | exact LE'.refl (some _) | exact LE'.refl none | exact cx_Check.f_le _ | exact corrupt_valid.k2_le _ _ | refine LE'.ite ?_ ?_ | refine LE'.bind ?_ (fun _ => ?_) | refine LE'.lt (fun _ => ?_) | refine LE'.fin (fun _ => ?_) | refine LE'.iter (fun _ => ?_)
def corrupt_valid.f_c (x1 : Spoil) : Option Bool :=
  (if (decide (x1.Station < 0)) = true then corrupt_valid.k1_c x1 true else (if (decide (8 ≤ x1.Station)) = true then corrupt_valid.k1_c x1 true else (if (decide (x1.From < 0)) = true then corrupt_valid.k1_c x1 true else (if (decide (x1.To < x1.From)) = true then corrupt_valid.k1_c x1 true else corrupt_valid.k1_c x1 (decide (32 < x1.To))))))
theorem corrupt_valid.f_le (x1 : Spoil) : LE' (corrupt_valid.f_c x1) (corrupt_valid.f x1) := by
  unfold corrupt_valid.f_c corrupt_valid.f
  repeat' with_reducible first | exact LE'.refl (some _) | exact LE'.refl none | exact corrupt_valid.k1_le _ _ | refine LE'.ite ?_ ?_ | refine LE'.bind ?_ (fun _ => ?_) | refine LE'.lt (fun _ => ?_) | refine LE'.fin (fun _ => ?_) | refine LE'.iter (fun _ => ?_)
def corrupt_Table_1.f_c (x1 : Spoil) : Option Bool :=
  ((corrupt_valid.f_c x1).bind fun t3 => some (!t3))
theorem corrupt_Table_1.f_le (x1 : Spoil) : LE' (corrupt_Table_1.f_c x1) (corrupt_Table_1.f x1) := by
  unfold corrupt_Table_1.f_c corrupt_Table_1.f
  repeat' with_reducible first | exact LE'.refl (some _) | exact LE'.refl none | exact corrupt_valid.f_le _ | refine LE'.ite ?_ ?_ | refine LE'.bind ?_ (fun _ => ?_) | refine LE'.lt (fun _ => ?_) | refine LE'.fin (fun _ => ?_) | refine LE'.iter (fun _ => ?_)
def slices_IndexFunc__api_Spoil_api_Spoil__corrupt_Table_1.s1_c (s1 : (List Spoil)) (x23 : Int) : Option (St Int Unit Int) :=
  (if (decide (x23 < (s1.length : Int))) = true then (if 0 ≤ x23 ∧ x23 < (s1.length : Int) then ((corrupt_Table_1.f_c (ix s1 x23)).bind fun t37 => (if t37 = true then some (.ret x23) else some (.next (w64 (x23 + 1))))) else none) else some (.brk ()))
theorem slices_IndexFunc__api_Spoil_api_Spoil__corrupt_Table_1.s1_le (s1 : (List Spoil)) (x23 : Int) : LE' (slices_IndexFunc__api_Spoil_api_Spoil__corrupt_Table_1.s1_c s1 x23) (slices_IndexFunc__api_Spoil_api_Spoil__corrupt_Table_1.s1 s1 x23) := by
  unfold slices_IndexFunc__api_Spoil_api_Spoil__corrupt_Table_1.s1_c slices_IndexFunc__api_Spoil_api_Spoil__corrupt_Table_1.s1
  repeat' with_reducible first | exact LE'.refl (some _) | exact LE'.refl none | exact corrupt_Table_1.f_le _ | refine LE'.ite ?_ ?_ | refine LE'.bind ?_ (fun _ => ?_) | refine LE'.lt (fun _ => ?_) | refine LE'.fin (fun _ => ?_) | refine LE'.iter (fun _ => ?_)
def slices_IndexFunc__api_Spoil_api_Spoil__corrupt_Table_1.k2_c : Option Int :=
  some (-1)
theorem slices_IndexFunc__api_Spoil_api_Spoil__corrupt_Table_1.k2_le : LE' (slices_IndexFunc__api_Spoil_api_Spoil__corrupt_Table_1.k2_c) (slices_IndexFunc__api_Spoil_api_Spoil__corrupt_Table_1.k2) := by
  unfold slices_IndexFunc__api_Spoil_api_Spoil__corrupt_Table_1.k2_c slices_IndexFunc__api_Spoil_api_Spoil__corrupt_Table_1.k2
  repeat' with_reducible first | exact LE'.refl (some _) | exact LE'.refl none | refine LE'.ite ?_ ?_ | refine LE'.bind ?_ (fun _ => ?_) | refine LE'.lt (fun _ => ?_) | refine LE'.fin (fun _ => ?_) | refine LE'.iter (fun _ => ?_)
def slices_IndexFunc__api_Spoil_api_Spoil__corrupt_Table_1.f_c (s1 : (List Spoil)) : Option Int :=
  ((iterF (fun (s : Int) => slices_IndexFunc__api_Spoil_api_Spoil__corrupt_Table_1.s1_c s1 s) 0).bind fun o1 => fin o1 (fun (t : Unit) => slices_IndexFunc__api_Spoil_api_Spoil__corrupt_Table_1.k2_c))
theorem slices_IndexFunc__api_Spoil_api_Spoil__corrupt_Table_1.f_le (s1 : (List Spoil)) : LE' (slices_IndexFunc__api_Spoil_api_Spoil__corrupt_Table_1.f_c s1) (slices_IndexFunc__api_Spoil_api_Spoil__corrupt_Table_1.f s1) := by
  unfold slices_IndexFunc__api_Spoil_api_Spoil__corrupt_Table_1.f_c slices_IndexFunc__api_Spoil_api_Spoil__corrupt_Table_1.f
  repeat' with_reducible first | exact LE'.refl (some _) | exact LE'.refl none | exact slices_IndexFunc__api_Spoil_api_Spoil__corrupt_Table_1.s1_le _ _ | exact slices_IndexFunc__api_Spoil_api_Spoil__corrupt_Table_1.k2_le | refine LE'.ite ?_ ?_ | refine LE'.bind ?_ (fun _ => ?_) | refine LE'.lt (fun _ => ?_) | refine LE'.fin (fun _ => ?_) | refine LE'.iter (fun _ => ?_)
def slices_ContainsFunc__api_Spoil_api_Spoil__corrupt_Table_1.f_c (s1 : (List Spoil)) : Option Bool :=
  ((slices_IndexFunc__api_Spoil_api_Spoil__corrupt_Table_1.f_c s1).bind fun t5 => some (decide (0 ≤ t5)))
theorem slices_ContainsFunc__api_Spoil_api_Spoil__corrupt_Table_1.f_le (s1 : (List Spoil)) : LE' (slices_ContainsFunc__api_Spoil_api_Spoil__corrupt_Table_1.f_c s1) (slices_ContainsFunc__api_Spoil_api_Spoil__corrupt_Table_1.f s1) := by
  unfold slices_ContainsFunc__api_Spoil_api_Spoil__corrupt_Table_1.f_c slices_ContainsFunc__api_Spoil_api_Spoil__corrupt_Table_1.f
  repeat' with_reducible first | exact LE'.refl (some _) | exact LE'.refl none | exact slices_IndexFunc__api_Spoil_api_Spoil__corrupt_Table_1.f_le _ | refine LE'.ite ?_ ?_ | refine LE'.bind ?_ (fun _ => ?_) | refine LE'.lt (fun _ => ?_) | refine LE'.fin (fun _ => ?_) | refine LE'.iter (fun _ => ?_)
def math_bits_Mul64.f_c (x1 : Int) (y2 : Int) : Option (Int × Int) :=
  lt' (gand .u64 x1 4294967295) fun x3 => lt' (gshr .u64 x1 32) fun x4 => lt' (gand .u64 y2 4294967295) fun y5 => lt' (gshr .u64 y2 32) fun y6 => lt' (wu64 ((wu64 (x4 * y5)) + (gshr .u64 (wu64 (x3 * y5)) 32))) fun t7 => lt' (gand .u64 t7 4294967295) fun w8 => lt' (gshr .u64 t7 32) fun w9 => lt' (wu64 (w8 + (wu64 (x3 * y6)))) fun w10 => lt' (wu64 ((wu64 ((wu64 (x4 * y6)) + w9)) + (gshr .u64 w10 32))) fun hi11 => some (hi11, (wu64 (x1 * y2)))
theorem math_bits_Mul64.f_le (x1 : Int) (y2 : Int) : LE' (math_bits_Mul64.f_c x1 y2) (math_bits_Mul64.f x1 y2) := by
  unfold math_bits_Mul64.f_c math_bits_Mul64.f
  repeat' with_reducible first | exact LE'.refl (some _) | exact LE'.refl none | refine LE'.ite ?_ ?_ | refine LE'.bind ?_ (fun _ => ?_) | refine LE'.lt (fun _ => ?_) | refine LE'.fin (fun _ => ?_) | refine LE'.iter (fun _ => ?_)
def math_bits_Mul.f_c (x1 : Int) (y2 : Int) : Option (Int × Int) :=
  ((math_bits_Mul64.f_c x1 y2).bind fun t3 => some (t3.1, t3.2))
theorem math_bits_Mul.f_le (x1 : Int) (y2 : Int) : LE' (math_bits_Mul.f_c x1 y2) (math_bits_Mul.f x1 y2) := by
  unfold math_bits_Mul.f_c math_bits_Mul.f
  repeat' with_reducible first | exact LE'.refl (some _) | exact LE'.refl none | exact math_bits_Mul64.f_le _ _ | refine LE'.ite ?_ ?_ | refine LE'.bind ?_ (fun _ => ?_) | refine LE'.lt (fun _ => ?_) | refine LE'.fin (fun _ => ?_) | refine LE'.iter (fun _ => ?_)
def slices_Repeat__api_Cx_api_Cx.s3_c (newslice67 : List Cx) (n71 : Int) : Option (St ((List Cx) × Int) (List Cx) (List Cx)) :=
  (if (decide (n71 < (newslice67.length : Int))) = true then (if 0 ≤ n71 ∧ n71 ≤ (newslice67.length : Int) then (if 0 ≤ n71 ∧ n71 ≤ (newslice67.length : Int) then lt' (cpy newslice67 n71.toNat (newslice67.length - n71.toNat) ((newslice67.take n71.toNat).drop 0)) fun l102 => some (.next (l102, w64 (n71 + ((min ((newslice67.take n71.toNat).drop 0).length (newslice67.length - n71.toNat) : Nat) : Int)))) else none) else none) else some (.brk newslice67))
theorem slices_Repeat__api_Cx_api_Cx.s3_le (newslice67 : List Cx) (n71 : Int) : LE' (slices_Repeat__api_Cx_api_Cx.s3_c newslice67 n71) (slices_Repeat__api_Cx_api_Cx.s3 newslice67 n71) := by
  unfold slices_Repeat__api_Cx_api_Cx.s3_c slices_Repeat__api_Cx_api_Cx.s3
  repeat' with_reducible first | exact LE'.refl (some _) | exact LE'.refl none | refine LE'.ite ?_ ?_ | refine LE'.bind ?_ (fun _ => ?_) | refine LE'.lt (fun _ => ?_) | refine LE'.fin (fun _ => ?_) | refine LE'.iter (fun _ => ?_)
def slices_Repeat__api_Cx_api_Cx.k4_c (newslice89 : List Cx) : Option (List Cx) :=
  some newslice89
theorem slices_Repeat__api_Cx_api_Cx.k4_le (newslice89 : List Cx) : LE' (slices_Repeat__api_Cx_api_Cx.k4_c newslice89) (slices_Repeat__api_Cx_api_Cx.k4 newslice89) := by
  unfold slices_Repeat__api_Cx_api_Cx.k4_c slices_Repeat__api_Cx_api_Cx.k4
  repeat' with_reducible first | exact LE'.refl (some _) | exact LE'.refl none | refine LE'.ite ?_ ?_ | refine LE'.bind ?_ (fun _ => ?_) | refine LE'.lt (fun _ => ?_) | refine LE'.fin (fun _ => ?_) | refine LE'.iter (fun _ => ?_)
def slices_Repeat__api_Cx_api_Cx.k2_c (x1 : (List Cx)) (t8 : Int × Int) (x15 : Bool) : Option (List Cx) :=
  (if x15 = true then none else (if 0 ≤ w64 t8.2 ∧ w64 t8.2 ≤ w64 t8.2 ∧ w64 t8.2 ≤ 11728124029610 then lt' (cpy (List.replicate (w64 t8.2).toNat ((⟨0, 0, 0⟩ : Cx) : Cx)) 0 ((List.replicate (w64 t8.2).toNat ((⟨0, 0, 0⟩ : Cx) : Cx)).length - 0) x1) fun l21 => lt' (((min x1.length ((List.replicate (w64 t8.2).toNat ((⟨0, 0, 0⟩ : Cx) : Cx)).length - 0) : Nat) : Int)) fun n22 => ((iterF (fun (s : ((List Cx) × Int)) => slices_Repeat__api_Cx_api_Cx.s3_c s.1 s.2) (l21, n22)).bind fun o1 => fin o1 (fun (t : List Cx) => slices_Repeat__api_Cx_api_Cx.k4_c t)) else none))
theorem slices_Repeat__api_Cx_api_Cx.k2_le (x1 : (List Cx)) (t8 : Int × Int) (x15 : Bool) : LE' (slices_Repeat__api_Cx_api_Cx.k2_c x1 t8 x15) (slices_Repeat__api_Cx_api_Cx.k2 x1 t8 x15) := by
  unfold slices_Repeat__api_Cx_api_Cx.k2_c slices_Repeat__api_Cx_api_Cx.k2
  repeat' with_reducible first | exact LE'.refl (some _) | exact LE'.refl none | exact slices_Repeat__api_Cx_api_Cx.s3_le _ _ | exact slices_Repeat__api_Cx_api_Cx.k4_le _ | refine LE'.ite ?_ ?_ | refine LE'.bind ?_ (fun _ => ?_) | refine LE'.lt (fun _ => ?_) | refine LE'.fin (fun _ => ?_) | refine LE'.iter (fun _ => ?_)
def slices_Repeat__api_Cx_api_Cx.f_c (x1 : (List Cx)) (count5 : Int) : Option (List Cx) :=
  (if (decide (count5 < 0)) = true then none else ((math_bits_Mul.f_c (wu64 (x1.length : Int)) (wu64 count5)).bind fun t8 => (if (decide (0 < t8.1)) = true then slices_Repeat__api_Cx_api_Cx.k2_c x1 t8 true else slices_Repeat__api_Cx_api_Cx.k2_c x1 t8 (decide (9223372036854775807 < t8.2)))))
theorem slices_Repeat__api_Cx_api_Cx.f_le (x1 : (List Cx)) (count5 : Int) : LE' (slices_Repeat__api_Cx_api_Cx.f_c x1 count5) (slices_Repeat__api_Cx_api_Cx.f x1 count5) := by
  unfold slices_Repeat__api_Cx_api_Cx.f_c slices_Repeat__api_Cx_api_Cx.f
  repeat' with_reducible first | exact LE'.refl (some _) | exact LE'.refl none | exact math_bits_Mul.f_le _ _ | exact slices_Repeat__api_Cx_api_Cx.k2_le _ _ _ | refine LE'.ite ?_ ?_ | refine LE'.bind ?_ (fun _ => ?_) | refine LE'.lt (fun _ => ?_) | refine LE'.fin (fun _ => ?_) | refine LE'.iter (fun _ => ?_)
def cmp_Or__api_Errno.s1_c (vals1 : (List Int)) (x19 : Int) : Option (St Int Unit Int) :=
  (if (decide (x19 < (vals1.length : Int))) = true then (if 0 ≤ x19 ∧ x19 < (vals1.length : Int) then (if (!decide ((ix vals1 x19) = 0)) = true then some (.ret (ix vals1 x19)) else some (.next (w64 (x19 + 1)))) else none) else some (.brk ()))
theorem cmp_Or__api_Errno.s1_le (vals1 : (List Int)) (x19 : Int) : LE' (cmp_Or__api_Errno.s1_c vals1 x19) (cmp_Or__api_Errno.s1 vals1 x19) := by
  unfold cmp_Or__api_Errno.s1_c cmp_Or__api_Errno.s1
  repeat' with_reducible first | exact LE'.refl (some _) | exact LE'.refl none | refine LE'.ite ?_ ?_ | refine LE'.bind ?_ (fun _ => ?_) | refine LE'.lt (fun _ => ?_) | refine LE'.fin (fun _ => ?_) | refine LE'.iter (fun _ => ?_)
def cmp_Or__api_Errno.k2_c : Option Int :=
  some 0
theorem cmp_Or__api_Errno.k2_le : LE' (cmp_Or__api_Errno.k2_c) (cmp_Or__api_Errno.k2) := by
  unfold cmp_Or__api_Errno.k2_c cmp_Or__api_Errno.k2
  repeat' with_reducible first | exact LE'.refl (some _) | exact LE'.refl none | refine LE'.ite ?_ ?_ | refine LE'.bind ?_ (fun _ => ?_) | refine LE'.lt (fun _ => ?_) | refine LE'.fin (fun _ => ?_) | refine LE'.iter (fun _ => ?_)
def cmp_Or__api_Errno.f_c (vals1 : (List Int)) : Option Int :=
  ((iterF (fun (s : Int) => cmp_Or__api_Errno.s1_c vals1 s) 0).bind fun o1 => fin o1 (fun (t : Unit) => cmp_Or__api_Errno.k2_c))
theorem cmp_Or__api_Errno.f_le (vals1 : (List Int)) : LE' (cmp_Or__api_Errno.f_c vals1) (cmp_Or__api_Errno.f vals1) := by
  unfold cmp_Or__api_Errno.f_c cmp_Or__api_Errno.f
  repeat' with_reducible first | exact LE'.refl (some _) | exact LE'.refl none | exact cmp_Or__api_Errno.s1_le _ _ | exact cmp_Or__api_Errno.k2_le | refine LE'.ite ?_ ?_ | refine LE'.bind ?_ (fun _ => ?_) | refine LE'.lt (fun _ => ?_) | refine LE'.fin (fun _ => ?_) | refine LE'.iter (fun _ => ?_)
def cx_check.f_c (a1 : Cx) (b2 : Cx) : Option Int :=
  ((cx_Check.f_c a1).bind fun t5 => ((cx_Check.f_c b2).bind fun t7 => ((cmp_Or__api_Errno.f_c ([t5, t7] : List Int)).bind fun t10 => some t10)))
theorem cx_check.f_le (a1 : Cx) (b2 : Cx) : LE' (cx_check.f_c a1 b2) (cx_check.f a1 b2) := by
  unfold cx_check.f_c cx_check.f
  repeat' with_reducible first | exact LE'.refl (some _) | exact LE'.refl none | exact cx_Check.f_le _ | exact cmp_Or__api_Errno.f_le _ | refine LE'.ite ?_ ?_ | refine LE'.bind ?_ (fun _ => ?_) | refine LE'.lt (fun _ => ?_) | refine LE'.fin (fun _ => ?_) | refine LE'.iter (fun _ => ?_)
def cx_reduced.k1_c (re1 : Int) (im2 : Int) (den3 : Int) (g9 : Int) : Option (Cx × Int) :=
  (if ¬ g9 = 0 then (if ¬ g9 = 0 then (if ¬ g9 = 0 then ((cx_Check.f_c (⟨(w64 (Int.tdiv re1 g9)), (w64 (Int.tdiv im2 g9)), (w64 (Int.tdiv den3 g9))⟩ : Cx)).bind fun t14 => (if (!decide (t14 = 0)) = true then some ((⟨0, 0, 0⟩ : Cx), 16) else some ((⟨(w64 (Int.tdiv re1 g9)), (w64 (Int.tdiv im2 g9)), (w64 (Int.tdiv den3 g9))⟩ : Cx), 0))) else none) else none) else none)
theorem cx_reduced.k1_le (re1 : Int) (im2 : Int) (den3 : Int) (g9 : Int) : LE' (cx_reduced.k1_c re1 im2 den3 g9) (cx_reduced.k1 re1 im2 den3 g9) := by
  unfold cx_reduced.k1_c cx_reduced.k1
  repeat' with_reducible first | exact LE'.refl (some _) | exact LE'.refl none | exact cx_Check.f_le _ | refine LE'.ite ?_ ?_ | refine LE'.bind ?_ (fun _ => ?_) | refine LE'.lt (fun _ => ?_) | refine LE'.fin (fun _ => ?_) | refine LE'.iter (fun _ => ?_)
def cx_reduced.f_c (re1 : Int) (im2 : Int) (den3 : Int) : Option (Cx × Int) :=
  ((cx_gcd.f_c ([re1, im2, den3] : List Int)).bind fun t6 => (if (decide (den3 < 0)) = true then cx_reduced.k1_c re1 im2 den3 (w64 (0 - t6)) else cx_reduced.k1_c re1 im2 den3 t6))
theorem cx_reduced.f_le (re1 : Int) (im2 : Int) (den3 : Int) : LE' (cx_reduced.f_c re1 im2 den3) (cx_reduced.f re1 im2 den3) := by
  unfold cx_reduced.f_c cx_reduced.f
  repeat' with_reducible first | exact LE'.refl (some _) | exact LE'.refl none | exact cx_gcd.f_le _ | exact cx_reduced.k1_le _ _ _ _ | refine LE'.ite ?_ ?_ | refine LE'.bind ?_ (fun _ => ?_) | refine LE'.lt (fun _ => ?_) | refine LE'.fin (fun _ => ?_) | refine LE'.iter (fun _ => ?_)
def cx_Mul.f_c (a1 : Cx) (b2 : Cx) : Option (Cx × Int) :=
  ((cx_check.f_c a1 b2).bind fun t6 => (if (!decide (t6 = 0)) = true then some ((⟨0, 0, 0⟩ : Cx), t6) else ((cx_reduced.f_c (w64 ((w64 (a1.Re * b2.Re)) - (w64 (a1.Im * b2.Im)))) (w64 ((w64 (a1.Re * b2.Im)) + (w64 (a1.Im * b2.Re)))) (w64 (a1.Den * b2.Den))).bind fun t9 => some (t9.1, t9.2))))
theorem cx_Mul.f_le (a1 : Cx) (b2 : Cx) : LE' (cx_Mul.f_c a1 b2) (cx_Mul.f a1 b2) := by
  unfold cx_Mul.f_c cx_Mul.f
  repeat' with_reducible first | exact LE'.refl (some _) | exact LE'.refl none | exact cx_check.f_le _ _ | exact cx_reduced.f_le _ _ _ | refine LE'.ite ?_ ?_ | refine LE'.bind ?_ (fun _ => ?_) | refine LE'.lt (fun _ => ?_) | refine LE'.fin (fun _ => ?_) | refine LE'.iter (fun _ => ?_)
def cx_Turn.k1_c (a11 : Cx) : Option (Cx × Int) :=
  some (a11, 0)
theorem cx_Turn.k1_le (a11 : Cx) : LE' (cx_Turn.k1_c a11) (cx_Turn.k1 a11) := by
  unfold cx_Turn.k1_c cx_Turn.k1
  repeat' with_reducible first | exact LE'.refl (some _) | exact LE'.refl none | refine LE'.ite ?_ ?_ | refine LE'.bind ?_ (fun _ => ?_) | refine LE'.lt (fun _ => ?_) | refine LE'.fin (fun _ => ?_) | refine LE'.iter (fun _ => ?_)
def cx_Turn.f_c (a1 : Cx) (quarters2 : Int) : Option (Cx × Int) :=
  ((cx_Check.f_c a1).bind fun t5 => (if (!decide (t5 = 0)) = true then some ((⟨0, 0, 0⟩ : Cx), t5) else (if (decide (gand .i64 quarters2 3 = 1)) = true then cx_Turn.k1_c (⟨(w64 (0 - a1.Im)), a1.Re, a1.Den⟩ : Cx) else (if (decide (gand .i64 quarters2 3 = 2)) = true then cx_Turn.k1_c (⟨(w64 (0 - a1.Re)), (w64 (0 - a1.Im)), a1.Den⟩ : Cx) else (if (decide (gand .i64 quarters2 3 = 3)) = true then cx_Turn.k1_c (⟨a1.Im, (w64 (0 - a1.Re)), a1.Den⟩ : Cx) else cx_Turn.k1_c a1)))))
theorem cx_Turn.f_le (a1 : Cx) (quarters2 : Int) : LE' (cx_Turn.f_c a1 quarters2) (cx_Turn.f a1 quarters2) := by
  unfold cx_Turn.f_c cx_Turn.f
  repeat' with_reducible first | exact LE'.refl (some _) | exact LE'.refl none | exact cx_Check.f_le _ | exact cx_Turn.k1_le _ | refine LE'.ite ?_ ?_ | refine LE'.bind ?_ (fun _ => ?_) | refine LE'.lt (fun _ => ?_) | refine LE'.fin (fun _ => ?_) | refine LE'.iter (fun _ => ?_)
def corrupt_table.k20_c (x295 : Int) (g492 : List Cx) : Option (St ((List Cx) × Int) (List Cx) ((List Cx) × Int)) :=
  some (.next (g492, w64 (x295 + 1)))
theorem corrupt_table.k20_le (x295 : Int) (g492 : List Cx) : LE' (corrupt_table.k20_c x295 g492) (corrupt_table.k20 x295 g492) := by
  unfold corrupt_table.k20_c corrupt_table.k20
  repeat' with_reducible first | exact LE'.refl (some _) | exact LE'.refl none | refine LE'.ite ?_ ?_ | refine LE'.bind ?_ (fun _ => ?_) | refine LE'.lt (fun _ => ?_) | refine LE'.fin (fun _ => ?_) | refine LE'.iter (fun _ => ?_)
def corrupt_table.k22_c (x295 : Int) (g532 : List Cx) (e536 : Int) : Option (St ((List Cx) × Int) (List Cx) ((List Cx) × Int)) :=
  (if (!decide (e536 = 0)) = true then some (.ret ([], e536)) else corrupt_table.k20_c x295 g532)
theorem corrupt_table.k22_le (x295 : Int) (g532 : List Cx) (e536 : Int) : LE' (corrupt_table.k22_c x295 g532 e536) (corrupt_table.k22 x295 g532 e536) := by
  unfold corrupt_table.k22_c corrupt_table.k22
  repeat' with_reducible first | exact LE'.refl (some _) | exact LE'.refl none | exact corrupt_table.k20_le _ _ | refine LE'.ite ?_ ?_ | refine LE'.bind ?_ (fun _ => ?_) | refine LE'.lt (fun _ => ?_) | refine LE'.fin (fun _ => ?_) | refine LE'.iter (fun _ => ?_)
def corrupt_table.k21_c (l1 : (List Spoil)) (time5 : Int) (g288 : List Cx) (x295 : Int) (x505 : Bool) : Option (St ((List Cx) × Int) (List Cx) ((List Cx) × Int)) :=
  (if x505 = true then corrupt_table.k20_c x295 g288 else (if 0 ≤ (ix l1 x295).Station ∧ (ix l1 x295).Station < (g288.length : Int) then (if (decide ((ix l1 x295).Kind = 1)) = true then ((cx_Mul.f_c (ix g288 ((ix l1 x295).Station)) ((ix l1 x295).V)).bind fun t539 => lt' (g288.set ((ix l1 x295).Station).toNat t539.1) fun l541 => corrupt_table.k22_c x295 l541 t539.2) else (if (decide ((ix l1 x295).Kind = 2)) = true then ((cx_Turn.f_c (ix g288 ((ix l1 x295).Station)) ((ix l1 x295).Q)).bind fun t546 => lt' (g288.set ((ix l1 x295).Station).toNat t546.1) fun l548 => corrupt_table.k22_c x295 l548 t546.2) else (if (decide ((ix l1 x295).Kind = 3)) = true then ((cx_Turn.f_c (ix g288 ((ix l1 x295).Station)) (w64 (((ix l1 x295).Q) * (w64 (time5 - ((ix l1 x295).From)))))).bind fun t553 => lt' (g288.set ((ix l1 x295).Station).toNat t553.1) fun l555 => corrupt_table.k22_c x295 l555 t553.2) else corrupt_table.k22_c x295 g288 0))) else none))
theorem corrupt_table.k21_le (l1 : (List Spoil)) (time5 : Int) (g288 : List Cx) (x295 : Int) (x505 : Bool) : LE' (corrupt_table.k21_c l1 time5 g288 x295 x505) (corrupt_table.k21 l1 time5 g288 x295 x505) := by
  unfold corrupt_table.k21_c corrupt_table.k21
  repeat' with_reducible first | exact LE'.refl (some _) | exact LE'.refl none | exact corrupt_table.k20_le _ _ | exact cx_Mul.f_le _ _ | exact corrupt_table.k22_le _ _ _ | exact cx_Turn.f_le _ _ | refine LE'.ite ?_ ?_ | refine LE'.bind ?_ (fun _ => ?_) | refine LE'.lt (fun _ => ?_) | refine LE'.fin (fun _ => ?_) | refine LE'.iter (fun _ => ?_)
def corrupt_table.s16_c (l1 : (List Spoil)) (time5 : Int) (g288 : List Cx) (x295 : Int) : Option (St ((List Cx) × Int) (List Cx) ((List Cx) × Int)) :=
  (if (decide (x295 < (l1.length : Int))) = true then (if 0 ≤ x295 ∧ x295 < (l1.length : Int) then (if (decide (time5 < (ix l1 x295).From)) = true then corrupt_table.k21_c l1 time5 g288 x295 true else corrupt_table.k21_c l1 time5 g288 x295 (decide ((ix l1 x295).To ≤ time5))) else none) else some (.brk g288))
theorem corrupt_table.s16_le (l1 : (List Spoil)) (time5 : Int) (g288 : List Cx) (x295 : Int) : LE' (corrupt_table.s16_c l1 time5 g288 x295) (corrupt_table.s16 l1 time5 g288 x295) := by
  unfold corrupt_table.s16_c corrupt_table.s16
  repeat' with_reducible first | exact LE'.refl (some _) | exact LE'.refl none | exact corrupt_table.k21_le _ _ _ _ _ | refine LE'.ite ?_ ?_ | refine LE'.bind ?_ (fun _ => ?_) | refine LE'.lt (fun _ => ?_) | refine LE'.fin (fun _ => ?_) | refine LE'.iter (fun _ => ?_)
def corrupt_table.k17_c (g426 : List Cx) : Option ((List Cx) × Int) :=
  some (g426, 0)
theorem corrupt_table.k17_le (g426 : List Cx) : LE' (corrupt_table.k17_c g426) (corrupt_table.k17 g426) := by
  unfold corrupt_table.k17_c corrupt_table.k17
  repeat' with_reducible first | exact LE'.refl (some _) | exact LE'.refl none | refine LE'.ite ?_ ?_ | refine LE'.bind ?_ (fun _ => ?_) | refine LE'.lt (fun _ => ?_) | refine LE'.fin (fun _ => ?_) | refine LE'.iter (fun _ => ?_)
def corrupt_table.f_c (l1 : (List Spoil)) (time5 : Int) : Option ((List Cx) × Int) :=
  ((slices_Repeat__api_Cx_api_Cx.f_c ([(⟨1, 0, 1⟩ : Cx)] : List Cx) 8).bind fun t7 => ((iterF (fun (s : ((List Cx) × Int)) => corrupt_table.s16_c l1 time5 s.1 s.2) (t7, 0)).bind fun o1 => fin o1 (fun (t : List Cx) => corrupt_table.k17_c t)))
theorem corrupt_table.f_le (l1 : (List Spoil)) (time5 : Int) : LE' (corrupt_table.f_c l1 time5) (corrupt_table.f l1 time5) := by
  unfold corrupt_table.f_c corrupt_table.f
  repeat' with_reducible first | exact LE'.refl (some _) | exact LE'.refl none | exact slices_Repeat__api_Cx_api_Cx.f_le _ _ | exact corrupt_table.s16_le _ _ _ _ | exact corrupt_table.k17_le _ | refine LE'.ite ?_ ?_ | refine LE'.bind ?_ (fun _ => ?_) | refine LE'.lt (fun _ => ?_) | refine LE'.fin (fun _ => ?_) | refine LE'.iter (fun _ => ?_)
def corrupt_Table.k1_c (l1 : (List Spoil)) (time5 : Int) (x7 : Bool) : Option ((List Cx) × Int) :=
  (if x7 = true then some ([], 2) else (if (decide (8 < (l1.length : Int))) = true then some ([], 4) else ((slices_ContainsFunc__api_Spoil_api_Spoil__corrupt_Table_1.f_c l1).bind fun t10 => (if t10 = true then some ([], 8) else ((corrupt_table.f_c l1 time5).bind fun t13 => some (t13.1, t13.2))))))
theorem corrupt_Table.k1_le (l1 : (List Spoil)) (time5 : Int) (x7 : Bool) : LE' (corrupt_Table.k1_c l1 time5 x7) (corrupt_Table.k1 l1 time5 x7) := by
  unfold corrupt_Table.k1_c corrupt_Table.k1
  repeat' with_reducible first | exact LE'.refl (some _) | exact LE'.refl none | exact slices_ContainsFunc__api_Spoil_api_Spoil__corrupt_Table_1.f_le _ | exact corrupt_table.f_le _ _ | refine LE'.ite ?_ ?_ | refine LE'.bind ?_ (fun _ => ?_) | refine LE'.lt (fun _ => ?_) | refine LE'.fin (fun _ => ?_) | refine LE'.iter (fun _ => ?_)
def corrupt_Table.f_c (l1 : (List Spoil)) (time5 : Int) : Option ((List Cx) × Int) :=
  (if (decide (time5 < 0)) = true then corrupt_Table.k1_c l1 time5 true else corrupt_Table.k1_c l1 time5 (decide (32 ≤ time5)))
theorem corrupt_Table.f_le (l1 : (List Spoil)) (time5 : Int) : LE' (corrupt_Table.f_c l1 time5) (corrupt_Table.f l1 time5) := by
  unfold corrupt_Table.f_c corrupt_Table.f
  repeat' with_reducible first | exact LE'.refl (some _) | exact LE'.refl none | exact corrupt_Table.k1_le _ _ _ | refine LE'.ite ?_ ?_ | refine LE'.bind ?_ (fun _ => ?_) | refine LE'.lt (fun _ => ?_) | refine LE'.fin (fun _ => ?_) | refine LE'.iter (fun _ => ?_)
def ref26_One.f_c : Option Cx :=
  some (⟨1, 0, 1⟩ : Cx)
theorem ref26_One.f_le : LE' (ref26_One.f_c) (ref26_One.f) := by
  unfold ref26_One.f_c ref26_One.f
  repeat' with_reducible first | exact LE'.refl (some _) | exact LE'.refl none | refine LE'.ite ?_ ?_ | refine LE'.bind ?_ (fun _ => ?_) | refine LE'.lt (fun _ => ?_) | refine LE'.fin (fun _ => ?_) | refine LE'.iter (fun _ => ?_)
def ref25_Same.s1_c (a1 : (List Cx)) (b5 : (List Cx)) (i32 : Int) : Option (St Int Unit Bool) :=
  (if (decide (i32 < (a1.length : Int))) = true then (if 0 ≤ i32 ∧ i32 < (a1.length : Int) then (if 0 ≤ i32 ∧ i32 < (b5.length : Int) then (if (!decide ((ix a1 i32) = (ix b5 i32))) = true then some (.ret false) else some (.next (w64 (i32 + 1)))) else none) else none) else some (.brk ()))
theorem ref25_Same.s1_le (a1 : (List Cx)) (b5 : (List Cx)) (i32 : Int) : LE' (ref25_Same.s1_c a1 b5 i32) (ref25_Same.s1 a1 b5 i32) := by
  unfold ref25_Same.s1_c ref25_Same.s1
  repeat' with_reducible first | exact LE'.refl (some _) | exact LE'.refl none | refine LE'.ite ?_ ?_ | refine LE'.bind ?_ (fun _ => ?_) | refine LE'.lt (fun _ => ?_) | refine LE'.fin (fun _ => ?_) | refine LE'.iter (fun _ => ?_)
def ref25_Same.k2_c : Option Bool :=
  some true
theorem ref25_Same.k2_le : LE' (ref25_Same.k2_c) (ref25_Same.k2) := by
  unfold ref25_Same.k2_c ref25_Same.k2
  repeat' with_reducible first | exact LE'.refl (some _) | exact LE'.refl none | refine LE'.ite ?_ ?_ | refine LE'.bind ?_ (fun _ => ?_) | refine LE'.lt (fun _ => ?_) | refine LE'.fin (fun _ => ?_) | refine LE'.iter (fun _ => ?_)
def ref25_Same.f_c (a1 : (List Cx)) (b5 : (List Cx)) : Option Bool :=
  (if (!decide ((a1.length : Int) = (b5.length : Int))) = true then some false else ((iterF (fun (s : Int) => ref25_Same.s1_c a1 b5 s) 0).bind fun o1 => fin o1 (fun (t : Unit) => ref25_Same.k2_c)))
theorem ref25_Same.f_le (a1 : (List Cx)) (b5 : (List Cx)) : LE' (ref25_Same.f_c a1 b5) (ref25_Same.f a1 b5) := by
  unfold ref25_Same.f_c ref25_Same.f
  repeat' with_reducible first | exact LE'.refl (some _) | exact LE'.refl none | exact ref25_Same.s1_le _ _ _ | exact ref25_Same.k2_le | refine LE'.ite ?_ ?_ | refine LE'.bind ?_ (fun _ => ?_) | refine LE'.lt (fun _ => ?_) | refine LE'.fin (fun _ => ?_) | refine LE'.iter (fun _ => ?_)
def law35_alive.f_c : Option Bool :=
  ((law35_example.f_c).bind fun t1 => ((corrupt_Table.f_c t1 5).bind fun t6 => ((ref26_One.f_c).bind fun t11 => (if (decide (t6.2 = 0)) = true then ((law35_of.f_c (-3) 0 1).bind fun t15 => ((ref25_Same.f_c t6.1 ([t11, t11, t15, t11, t11, t11, t11, t11] : List Cx)).bind fun t18 => some t18)) else some false))))
theorem law35_alive.f_le : LE' (law35_alive.f_c) (law35_alive.f) := by
  unfold law35_alive.f_c law35_alive.f
  repeat' with_reducible first | exact LE'.refl (some _) | exact LE'.refl none | exact law35_example.f_le | exact corrupt_Table.f_le _ _ | exact ref26_One.f_le | exact law35_of.f_le _ _ _ | exact ref25_Same.f_le _ _ | refine LE'.ite ?_ ?_ | refine LE'.bind ?_ (fun _ => ?_) | refine LE'.lt (fun _ => ?_) | refine LE'.fin (fun _ => ?_) | refine LE'.iter (fun _ => ?_)

end Go.Proofs.Ytifpegepdgmmbaa.M
