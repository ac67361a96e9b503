import Derived.Test.YtlfmmenlkpoodaaGc
import Derived.Test.YtlfmmenlkpoodaaM0
set_option linter.unusedVariables false
set_option linter.unusedSimpArgs false
set_option maxRecDepth 100000
set_option maxHeartbeats 8000000
namespace Go.Proofs.Ytlfmmenlkpoodaa.M
open Go.GW Go.Proofs

def law33_of.f_c (re1 : Int) (im2 : Int) (den3 : Int) : Option Cx :=
  some (⟨re1, im2, den3⟩ : Cx)
theorem law33_of.f_le (re1 : Int) (im2 : Int) (den3 : Int) : LE' (law33_of.f_c re1 im2 den3) (law33_of.f re1 im2 den3) := by
  unfold law33_of.f_c law33_of.f
  repeat' with_reducible first | exact LE'.refl (some _) | exact LE'.refl none | refine LE'.ite ?_ ?_ | refine LE'.bind ?_ (fun _ => ?_) | refine LE'.lt (fun _ => ?_) | refine LE'.fin (fun _ => ?_) | refine LE'.iter (fun _ => ?_)
def law33_example.f_c : Option (A4 Cx) :=
  ((law33_of.f_c 1 0 1).bind fun t2 => ((law33_of.f_c 0 1 1).bind fun t4 => ((law33_of.f_c 0 0 1).bind fun t6 => ((law33_of.f_c 2 0 1).bind fun t8 => some (⟨t2, t4, t6, t8⟩ : (A4 Cx))))))
theorem law33_example.f_le : LE' (law33_example.f_c) (law33_example.f) := by
  unfold law33_example.f_c law33_example.f
  repeat' with_reducible first | exact LE'.refl (some _) | exact LE'.refl none | exact law33_of.f_le _ _ _ | refine LE'.ite ?_ ?_ | refine LE'.bind ?_ (fun _ => ?_) | refine LE'.lt (fun _ => ?_) | refine LE'.fin (fun _ => ?_) | refine LE'.iter (fun _ => ?_)
def cx_Check_1.f_c (n1 : Int) : Option Bool :=
  (if (decide ((-1000000000) ≤ n1)) = true then some (decide (n1 ≤ 1000000000)) else some false)
theorem cx_Check_1.f_le (n1 : Int) : LE' (cx_Check_1.f_c n1) (cx_Check_1.f n1) := by
  unfold cx_Check_1.f_c cx_Check_1.f
  repeat' with_reducible first | exact LE'.refl (some _) | exact LE'.refl none | refine LE'.ite ?_ ?_ | refine LE'.bind ?_ (fun _ => ?_) | refine LE'.lt (fun _ => ?_) | refine LE'.fin (fun _ => ?_) | refine LE'.iter (fun _ => ?_)
def cx_gcd.s9_c (g108 : Int) (n109 : Int) : Option (St (Int × Int) Int (St (Int × Int) Int Int)) :=
  (if (!decide (n109 = 0)) = true then (if ¬ n109 = 0 then lt' (Int.tmod g108 n109) fun n116 => some (.next (n109, n116)) else none) else some (.brk g108))
theorem cx_gcd.s9_le (g108 : Int) (n109 : Int) : LE' (cx_gcd.s9_c g108 n109) (cx_gcd.s9 g108 n109) := by
  unfold cx_gcd.s9_c cx_gcd.s9
  repeat' with_reducible first | exact LE'.refl (some _) | exact LE'.refl none | refine LE'.ite ?_ ?_ | refine LE'.bind ?_ (fun _ => ?_) | refine LE'.lt (fun _ => ?_) | refine LE'.fin (fun _ => ?_) | refine LE'.iter (fun _ => ?_)
def cx_gcd.k10_c (x67 : Int) (g113 : Int) : Option (St (Int × Int) Int Int) :=
  some (.next (g113, w64 (x67 + 1)))
theorem cx_gcd.k10_le (x67 : Int) (g113 : Int) : LE' (cx_gcd.k10_c x67 g113) (cx_gcd.k10 x67 g113) := by
  unfold cx_gcd.k10_c cx_gcd.k10
  repeat' with_reducible first | exact LE'.refl (some _) | exact LE'.refl none | refine LE'.ite ?_ ?_ | refine LE'.bind ?_ (fun _ => ?_) | refine LE'.lt (fun _ => ?_) | refine LE'.fin (fun _ => ?_) | refine LE'.iter (fun _ => ?_)
def cx_gcd.s7_c (l1 : (List Int)) (g63 : Int) (x67 : Int) : Option (St (Int × Int) Int Int) :=
  (if (decide (x67 < (l1.length : Int))) = true then (if 0 ≤ x67 ∧ x67 < (l1.length : Int) then ((iterF (fun (s : (Int × Int)) => cx_gcd.s9_c s.1 s.2) (g63, (ix l1 x67))).bind fun o2 => fin o2 (fun (t : Int) => cx_gcd.k10_c x67 t)) else none) else some (.brk g63))
theorem cx_gcd.s7_le (l1 : (List Int)) (g63 : Int) (x67 : Int) : LE' (cx_gcd.s7_c l1 g63 x67) (cx_gcd.s7 l1 g63 x67) := by
  unfold cx_gcd.s7_c cx_gcd.s7
  repeat' with_reducible first | exact LE'.refl (some _) | exact LE'.refl none | exact cx_gcd.s9_le _ _ | exact cx_gcd.k10_le _ _ | refine LE'.ite ?_ ?_ | refine LE'.bind ?_ (fun _ => ?_) | refine LE'.lt (fun _ => ?_) | refine LE'.fin (fun _ => ?_) | refine LE'.iter (fun _ => ?_)
def cx_gcd.k8_c (g92 : Int) : Option Int :=
  some (gmax g92 (w64 (0 - g92)))
theorem cx_gcd.k8_le (g92 : Int) : LE' (cx_gcd.k8_c g92) (cx_gcd.k8 g92) := by
  unfold cx_gcd.k8_c cx_gcd.k8
  repeat' with_reducible first | exact LE'.refl (some _) | exact LE'.refl none | refine LE'.ite ?_ ?_ | refine LE'.bind ?_ (fun _ => ?_) | refine LE'.lt (fun _ => ?_) | refine LE'.fin (fun _ => ?_) | refine LE'.iter (fun _ => ?_)
def cx_gcd.f_c (l1 : (List Int)) : Option Int :=
  ((iterF (fun (s : (Int × Int)) => cx_gcd.s7_c l1 s.1 s.2) (0, 0)).bind fun o1 => fin o1 (fun (t : Int) => cx_gcd.k8_c t))
theorem cx_gcd.f_le (l1 : (List Int)) : LE' (cx_gcd.f_c l1) (cx_gcd.f l1) := by
  unfold cx_gcd.f_c cx_gcd.f
  repeat' with_reducible first | exact LE'.refl (some _) | exact LE'.refl none | exact cx_gcd.s7_le _ _ _ | exact cx_gcd.k8_le _ | refine LE'.ite ?_ ?_ | refine LE'.bind ?_ (fun _ => ?_) | refine LE'.lt (fun _ => ?_) | refine LE'.fin (fun _ => ?_) | refine LE'.iter (fun _ => ?_)
def cx_Check.k1_c (x16 : Bool) : Option Int :=
  (if x16 = true then some 8 else some 0)
theorem cx_Check.k1_le (x16 : Bool) : LE' (cx_Check.k1_c x16) (cx_Check.k1 x16) := by
  unfold cx_Check.k1_c cx_Check.k1
  repeat' with_reducible first | exact LE'.refl (some _) | exact LE'.refl none | refine LE'.ite ?_ ?_ | refine LE'.bind ?_ (fun _ => ?_) | refine LE'.lt (fun _ => ?_) | refine LE'.fin (fun _ => ?_) | refine LE'.iter (fun _ => ?_)
def cx_Check.f_c (a1 : Cx) : Option Int :=
  (if (decide (a1.Den < 1)) = true then cx_Check.k1_c true else ((cx_Check_1.f_c a1.Re).bind fun t19 => (if (!t19) = true then cx_Check.k1_c true else ((cx_Check_1.f_c a1.Im).bind fun t22 => (if (!t22) = true then cx_Check.k1_c true else ((cx_Check_1.f_c a1.Den).bind fun t25 => (if (!t25) = true then cx_Check.k1_c true else ((cx_gcd.f_c ([a1.Re, a1.Im, a1.Den] : List Int)).bind fun t29 => cx_Check.k1_c (!decide (t29 = 1))))))))))
theorem cx_Check.f_le (a1 : Cx) : LE' (cx_Check.f_c a1) (cx_Check.f a1) := by
  unfold cx_Check.f_c cx_Check.f
  repeat' with_reducible first | exact LE'.refl (some _) | exact LE'.refl none | exact cx_Check.k1_le _ | exact cx_Check_1.f_le _ | exact cx_gcd.f_le _ | refine LE'.ite ?_ ?_ | refine LE'.bind ?_ (fun _ => ?_) | refine LE'.lt (fun _ => ?_) | refine LE'.fin (fun _ => ?_) | refine LE'.iter (fun _ => ?_)
def jones_valid_1.f_c (x1 : Cx) : Option Bool :=
  ((cx_Check.f_c x1).bind fun t3 => some (!decide (t3 = 0)))
theorem jones_valid_1.f_le (x1 : Cx) : LE' (jones_valid_1.f_c x1) (jones_valid_1.f x1) := by
  unfold jones_valid_1.f_c jones_valid_1.f
  repeat' with_reducible first | exact LE'.refl (some _) | exact LE'.refl none | exact cx_Check.f_le _ | refine LE'.ite ?_ ?_ | refine LE'.bind ?_ (fun _ => ?_) | refine LE'.lt (fun _ => ?_) | refine LE'.fin (fun _ => ?_) | refine LE'.iter (fun _ => ?_)
def slices_IndexFunc__api_Cx_api_Cx__jones_valid_1.s1_c (s1 : (List Cx)) (x23 : Int) : Option (St Int Unit Int) :=
  (if (decide (x23 < (s1.length : Int))) = true then (if 0 ≤ x23 ∧ x23 < (s1.length : Int) then ((jones_valid_1.f_c (ix s1 x23)).bind fun t37 => (if t37 = true then some (.ret x23) else some (.next (w64 (x23 + 1))))) else none) else some (.brk ()))
theorem slices_IndexFunc__api_Cx_api_Cx__jones_valid_1.s1_le (s1 : (List Cx)) (x23 : Int) : LE' (slices_IndexFunc__api_Cx_api_Cx__jones_valid_1.s1_c s1 x23) (slices_IndexFunc__api_Cx_api_Cx__jones_valid_1.s1 s1 x23) := by
  unfold slices_IndexFunc__api_Cx_api_Cx__jones_valid_1.s1_c slices_IndexFunc__api_Cx_api_Cx__jones_valid_1.s1
  repeat' with_reducible first | exact LE'.refl (some _) | exact LE'.refl none | exact jones_valid_1.f_le _ | refine LE'.ite ?_ ?_ | refine LE'.bind ?_ (fun _ => ?_) | refine LE'.lt (fun _ => ?_) | refine LE'.fin (fun _ => ?_) | refine LE'.iter (fun _ => ?_)
def slices_IndexFunc__api_Cx_api_Cx__jones_valid_1.k2_c : Option Int :=
  some (-1)
theorem slices_IndexFunc__api_Cx_api_Cx__jones_valid_1.k2_le : LE' (slices_IndexFunc__api_Cx_api_Cx__jones_valid_1.k2_c) (slices_IndexFunc__api_Cx_api_Cx__jones_valid_1.k2) := by
  unfold slices_IndexFunc__api_Cx_api_Cx__jones_valid_1.k2_c slices_IndexFunc__api_Cx_api_Cx__jones_valid_1.k2
  repeat' with_reducible first | exact LE'.refl (some _) | exact LE'.refl none | refine LE'.ite ?_ ?_ | refine LE'.bind ?_ (fun _ => ?_) | refine LE'.lt (fun _ => ?_) | refine LE'.fin (fun _ => ?_) | refine LE'.iter (fun _ => ?_)
def slices_IndexFunc__api_Cx_api_Cx__jones_valid_1.f_c (s1 : (List Cx)) : Option Int :=
  ((iterF (fun (s : Int) => slices_IndexFunc__api_Cx_api_Cx__jones_valid_1.s1_c s1 s) 0).bind fun o1 => fin o1 (fun (t : Unit) => slices_IndexFunc__api_Cx_api_Cx__jones_valid_1.k2_c))
theorem slices_IndexFunc__api_Cx_api_Cx__jones_valid_1.f_le (s1 : (List Cx)) : LE' (slices_IndexFunc__api_Cx_api_Cx__jones_valid_1.f_c s1) (slices_IndexFunc__api_Cx_api_Cx__jones_valid_1.f s1) := by
  unfold slices_IndexFunc__api_Cx_api_Cx__jones_valid_1.f_c slices_IndexFunc__api_Cx_api_Cx__jones_valid_1.f
  repeat' with_reducible first | exact LE'.refl (some _) | exact LE'.refl none | exact slices_IndexFunc__api_Cx_api_Cx__jones_valid_1.s1_le _ _ | exact slices_IndexFunc__api_Cx_api_Cx__jones_valid_1.k2_le | refine LE'.ite ?_ ?_ | refine LE'.bind ?_ (fun _ => ?_) | refine LE'.lt (fun _ => ?_) | refine LE'.fin (fun _ => ?_) | refine LE'.iter (fun _ => ?_)
def slices_ContainsFunc__api_Cx_api_Cx__jones_valid_1.f_c (s1 : (List Cx)) : Option Bool :=
  ((slices_IndexFunc__api_Cx_api_Cx__jones_valid_1.f_c s1).bind fun t5 => some (decide (0 ≤ t5)))
theorem slices_ContainsFunc__api_Cx_api_Cx__jones_valid_1.f_le (s1 : (List Cx)) : LE' (slices_ContainsFunc__api_Cx_api_Cx__jones_valid_1.f_c s1) (slices_ContainsFunc__api_Cx_api_Cx__jones_valid_1.f s1) := by
  unfold slices_ContainsFunc__api_Cx_api_Cx__jones_valid_1.f_c slices_ContainsFunc__api_Cx_api_Cx__jones_valid_1.f
  repeat' with_reducible first | exact LE'.refl (some _) | exact LE'.refl none | exact slices_IndexFunc__api_Cx_api_Cx__jones_valid_1.f_le _ | refine LE'.ite ?_ ?_ | refine LE'.bind ?_ (fun _ => ?_) | refine LE'.lt (fun _ => ?_) | refine LE'.fin (fun _ => ?_) | refine LE'.iter (fun _ => ?_)
def jones_valid.f_c (a1 : (A4 Cx)) : Option Bool :=
  ((slices_ContainsFunc__api_Cx_api_Cx__jones_valid_1.f_c ([a1.e0, a1.e1, a1.e2, a1.e3] : List Cx)).bind fun t4 => some (!t4))
theorem jones_valid.f_le (a1 : (A4 Cx)) : LE' (jones_valid.f_c a1) (jones_valid.f a1) := by
  unfold jones_valid.f_c jones_valid.f
  repeat' with_reducible first | exact LE'.refl (some _) | exact LE'.refl none | exact slices_ContainsFunc__api_Cx_api_Cx__jones_valid_1.f_le _ | refine LE'.ite ?_ ?_ | refine LE'.bind ?_ (fun _ => ?_) | refine LE'.lt (fun _ => ?_) | refine LE'.fin (fun _ => ?_) | refine LE'.iter (fun _ => ?_)
def cmp_Or__api_Errno.s1_c (vals1 : (List Int)) (x19 : Int) : Option (St Int Unit Int) :=
  (if (decide (x19 < (vals1.length : Int))) = true then (if 0 ≤ x19 ∧ x19 < (vals1.length : Int) then (if (!decide ((ix vals1 x19) = 0)) = true then some (.ret (ix vals1 x19)) else some (.next (w64 (x19 + 1)))) else none) else some (.brk ()))
theorem cmp_Or__api_Errno.s1_le (vals1 : (List Int)) (x19 : Int) : LE' (cmp_Or__api_Errno.s1_c vals1 x19) (cmp_Or__api_Errno.s1 vals1 x19) := by
  unfold cmp_Or__api_Errno.s1_c cmp_Or__api_Errno.s1
  repeat' with_reducible first | exact LE'.refl (some _) | exact LE'.refl none | refine LE'.ite ?_ ?_ | refine LE'.bind ?_ (fun _ => ?_) | refine LE'.lt (fun _ => ?_) | refine LE'.fin (fun _ => ?_) | refine LE'.iter (fun _ => ?_)
def cmp_Or__api_Errno.k2_c : Option Int :=
  some 0
theorem cmp_Or__api_Errno.k2_le : LE' (cmp_Or__api_Errno.k2_c) (cmp_Or__api_Errno.k2) := by
  unfold cmp_Or__api_Errno.k2_c cmp_Or__api_Errno.k2
  repeat' with_reducible first | exact LE'.refl (some _) | exact LE'.refl none | refine LE'.ite ?_ ?_ | refine LE'.bind ?_ (fun _ => ?_) | refine LE'.lt (fun _ => ?_) | refine LE'.fin (fun _ => ?_) | refine LE'.iter (fun _ => ?_)
def cmp_Or__api_Errno.f_c (vals1 : (List Int)) : Option Int :=
  ((iterF (fun (s : Int) => cmp_Or__api_Errno.s1_c vals1 s) 0).bind fun o1 => fin o1 (fun (t : Unit) => cmp_Or__api_Errno.k2_c))
theorem cmp_Or__api_Errno.f_le (vals1 : (List Int)) : LE' (cmp_Or__api_Errno.f_c vals1) (cmp_Or__api_Errno.f vals1) := by
  unfold cmp_Or__api_Errno.f_c cmp_Or__api_Errno.f
  repeat' with_reducible first | exact LE'.refl (some _) | exact LE'.refl none | exact cmp_Or__api_Errno.s1_le _ _ | exact cmp_Or__api_Errno.k2_le | refine LE'.ite ?_ ?_ | refine LE'.bind ?_ (fun _ => ?_) | refine LE'.lt (fun _ => ?_) | refine LE'.fin (fun _ => ?_) | refine LE'.iter (fun _ => ?_)
def cx_check.f_c (a1 : Cx) (b2 : Cx) : Option Int :=
  ((cx_Check.f_c a1).bind fun t5 => ((cx_Check.f_c b2).bind fun t7 => ((cmp_Or__api_Errno.f_c ([t5, t7] : List Int)).bind fun t10 => some t10)))
theorem cx_check.f_le (a1 : Cx) (b2 : Cx) : LE' (cx_check.f_c a1 b2) (cx_check.f a1 b2) := by
  unfold cx_check.f_c cx_check.f
  repeat' with_reducible first | exact LE'.refl (some _) | exact LE'.refl none | exact cx_Check.f_le _ | exact cmp_Or__api_Errno.f_le _ | refine LE'.ite ?_ ?_ | refine LE'.bind ?_ (fun _ => ?_) | refine LE'.lt (fun _ => ?_) | refine LE'.fin (fun _ => ?_) | refine LE'.iter (fun _ => ?_)
def cx_reduced.k1_c (re1 : Int) (im2 : Int) (den3 : Int) (g9 : Int) : Option (Cx × Int) :=
  (if ¬ g9 = 0 then (if ¬ g9 = 0 then (if ¬ g9 = 0 then ((cx_Check.f_c (⟨(w64 (Int.tdiv re1 g9)), (w64 (Int.tdiv im2 g9)), (w64 (Int.tdiv den3 g9))⟩ : Cx)).bind fun t14 => (if (!decide (t14 = 0)) = true then some ((⟨0, 0, 0⟩ : Cx), 16) else some ((⟨(w64 (Int.tdiv re1 g9)), (w64 (Int.tdiv im2 g9)), (w64 (Int.tdiv den3 g9))⟩ : Cx), 0))) else none) else none) else none)
theorem cx_reduced.k1_le (re1 : Int) (im2 : Int) (den3 : Int) (g9 : Int) : LE' (cx_reduced.k1_c re1 im2 den3 g9) (cx_reduced.k1 re1 im2 den3 g9) := by
  unfold cx_reduced.k1_c cx_reduced.k1
  repeat' with_reducible first | exact LE'.refl (some _) | exact LE'.refl none | exact cx_Check.f_le _ | refine LE'.ite ?_ ?_ | refine LE'.bind ?_ (fun _ => ?_) | refine LE'.lt (fun _ => ?_) | refine LE'.fin (fun _ => ?_) | refine LE'.iter (fun _ => ?_)
def cx_reduced.f_c (re1 : Int) (im2 : Int) (den3 : Int) : Option (Cx × Int) :=
  ((cx_gcd.f_c ([re1, im2, den3] : List Int)).bind fun t6 => (if (decide (den3 < 0)) = true then cx_reduced.k1_c re1 im2 den3 (w64 (0 - t6)) else cx_reduced.k1_c re1 im2 den3 t6))
theorem cx_reduced.f_le (re1 : Int) (im2 : Int) (den3 : Int) : LE' (cx_reduced.f_c re1 im2 den3) (cx_reduced.f re1 im2 den3) := by
  unfold cx_reduced.f_c cx_reduced.f
  repeat' with_reducible first | exact LE'.refl (some _) | exact LE'.refl none | exact cx_gcd.f_le _ | exact cx_reduced.k1_le _ _ _ _ | refine LE'.ite ?_ ?_ | refine LE'.bind ?_ (fun _ => ?_) | refine LE'.lt (fun _ => ?_) | refine LE'.fin (fun _ => ?_) | refine LE'.iter (fun _ => ?_)
def cx_Mul.f_c (a1 : Cx) (b2 : Cx) : Option (Cx × Int) :=
  ((cx_check.f_c a1 b2).bind fun t6 => (if (!decide (t6 = 0)) = true then some ((⟨0, 0, 0⟩ : Cx), t6) else ((cx_reduced.f_c (w64 ((w64 (a1.Re * b2.Re)) - (w64 (a1.Im * b2.Im)))) (w64 ((w64 (a1.Re * b2.Im)) + (w64 (a1.Im * b2.Re)))) (w64 (a1.Den * b2.Den))).bind fun t9 => some (t9.1, t9.2))))
theorem cx_Mul.f_le (a1 : Cx) (b2 : Cx) : LE' (cx_Mul.f_c a1 b2) (cx_Mul.f a1 b2) := by
  unfold cx_Mul.f_c cx_Mul.f
  repeat' with_reducible first | exact LE'.refl (some _) | exact LE'.refl none | exact cx_check.f_le _ _ | exact cx_reduced.f_le _ _ _ | refine LE'.ite ?_ ?_ | refine LE'.bind ?_ (fun _ => ?_) | refine LE'.lt (fun _ => ?_) | refine LE'.fin (fun _ => ?_) | refine LE'.iter (fun _ => ?_)
def cx_Sub.f_c (a1 : Cx) (b2 : Cx) : Option (Cx × Int) :=
  ((cx_check.f_c a1 b2).bind fun t6 => (if (!decide (t6 = 0)) = true then some ((⟨0, 0, 0⟩ : Cx), t6) else ((cx_reduced.f_c (w64 ((w64 (a1.Re * b2.Den)) - (w64 (b2.Re * a1.Den)))) (w64 ((w64 (a1.Im * b2.Den)) - (w64 (b2.Im * a1.Den)))) (w64 (a1.Den * b2.Den))).bind fun t9 => some (t9.1, t9.2))))
theorem cx_Sub.f_le (a1 : Cx) (b2 : Cx) : LE' (cx_Sub.f_c a1 b2) (cx_Sub.f a1 b2) := by
  unfold cx_Sub.f_c cx_Sub.f
  repeat' with_reducible first | exact LE'.refl (some _) | exact LE'.refl none | exact cx_check.f_le _ _ | exact cx_reduced.f_le _ _ _ | refine LE'.ite ?_ ?_ | refine LE'.bind ?_ (fun _ => ?_) | refine LE'.lt (fun _ => ?_) | refine LE'.fin (fun _ => ?_) | refine LE'.iter (fun _ => ?_)
def jones_Det.f_c (a1 : (A4 Cx)) : Option (Cx × Int) :=
  ((jones_valid.f_c a1).bind fun t4 => (if (!t4) = true then some ((⟨0, 0, 0⟩ : Cx), 8) else ((cx_Mul.f_c a1.e0 a1.e3).bind fun t7 => ((cx_Mul.f_c a1.e1 a1.e2).bind fun t10 => ((cmp_Or__api_Errno.f_c ([t7.2, t10.2] : List Int)).bind fun t14 => (if (!decide (t14 = 0)) = true then some ((⟨0, 0, 0⟩ : Cx), t14) else ((cx_Sub.f_c t7.1 t10.1).bind fun t17 => some (t17.1, t17.2))))))))
theorem jones_Det.f_le (a1 : (A4 Cx)) : LE' (jones_Det.f_c a1) (jones_Det.f a1) := by
  unfold jones_Det.f_c jones_Det.f
  repeat' with_reducible first | exact LE'.refl (some _) | exact LE'.refl none | exact jones_valid.f_le _ | exact cx_Mul.f_le _ _ | exact cmp_Or__api_Errno.f_le _ | exact cx_Sub.f_le _ _ | refine LE'.ite ?_ ?_ | refine LE'.bind ?_ (fun _ => ?_) | refine LE'.lt (fun _ => ?_) | refine LE'.fin (fun _ => ?_) | refine LE'.iter (fun _ => ?_)
def cx_Add.f_c (a1 : Cx) (b2 : Cx) : Option (Cx × Int) :=
  ((cx_check.f_c a1 b2).bind fun t6 => (if (!decide (t6 = 0)) = true then some ((⟨0, 0, 0⟩ : Cx), t6) else ((cx_reduced.f_c (w64 ((w64 (a1.Re * b2.Den)) + (w64 (b2.Re * a1.Den)))) (w64 ((w64 (a1.Im * b2.Den)) + (w64 (b2.Im * a1.Den)))) (w64 (a1.Den * b2.Den))).bind fun t9 => some (t9.1, t9.2))))
theorem cx_Add.f_le (a1 : Cx) (b2 : Cx) : LE' (cx_Add.f_c a1 b2) (cx_Add.f a1 b2) := by
  unfold cx_Add.f_c cx_Add.f
  repeat' with_reducible first | exact LE'.refl (some _) | exact LE'.refl none | exact cx_check.f_le _ _ | exact cx_reduced.f_le _ _ _ | refine LE'.ite ?_ ?_ | refine LE'.bind ?_ (fun _ => ?_) | refine LE'.lt (fun _ => ?_) | refine LE'.fin (fun _ => ?_) | refine LE'.iter (fun _ => ?_)
def jones_Trace.f_c (a1 : (A4 Cx)) : Option (Cx × Int) :=
  ((jones_valid.f_c a1).bind fun t4 => (if (!t4) = true then some ((⟨0, 0, 0⟩ : Cx), 8) else ((cx_Add.f_c a1.e0 a1.e3).bind fun t7 => some (t7.1, t7.2))))
theorem jones_Trace.f_le (a1 : (A4 Cx)) : LE' (jones_Trace.f_c a1) (jones_Trace.f a1) := by
  unfold jones_Trace.f_c jones_Trace.f
  repeat' with_reducible first | exact LE'.refl (some _) | exact LE'.refl none | exact jones_valid.f_le _ | exact cx_Add.f_le _ _ | refine LE'.ite ?_ ?_ | refine LE'.bind ?_ (fun _ => ?_) | refine LE'.lt (fun _ => ?_) | refine LE'.fin (fun _ => ?_) | refine LE'.iter (fun _ => ?_)
def jones_adjoint.s1_c (a14 : (A4 Cx)) (x15 : Int) : Option (St ((A4 Cx) × Int) (A4 Cx) (A4 Cx)) :=
  (if (decide (x15 < 4)) = true then (if 0 ≤ x15 ∧ x15 < 4 then (if 0 ≤ x15 ∧ x15 < 4 then lt' (A4.ofL (([a14.e0, a14.e1, a14.e2, a14.e3] : List Cx).set x15.toNat (⟨((ix ([a14.e0, a14.e1, a14.e2, a14.e3] : List Cx) x15).Re), (w64 (0 - (ix ([a14.e0, a14.e1, a14.e2, a14.e3] : List Cx) x15).Im)), ((ix ([a14.e0, a14.e1, a14.e2, a14.e3] : List Cx) x15).Den)⟩ : Cx))) fun arr28 => some (.next (arr28, w64 (x15 + 1))) else none) else none) else some (.brk a14))
theorem jones_adjoint.s1_le (a14 : (A4 Cx)) (x15 : Int) : LE' (jones_adjoint.s1_c a14 x15) (jones_adjoint.s1 a14 x15) := by
  unfold jones_adjoint.s1_c jones_adjoint.s1
  repeat' with_reducible first | exact LE'.refl (some _) | exact LE'.refl none | refine LE'.ite ?_ ?_ | refine LE'.bind ?_ (fun _ => ?_) | refine LE'.lt (fun _ => ?_) | refine LE'.fin (fun _ => ?_) | refine LE'.iter (fun _ => ?_)
def jones_adjoint.k2_c (a22 : (A4 Cx)) : Option (A4 Cx) :=
  some a22
theorem jones_adjoint.k2_le (a22 : (A4 Cx)) : LE' (jones_adjoint.k2_c a22) (jones_adjoint.k2 a22) := by
  unfold jones_adjoint.k2_c jones_adjoint.k2
  repeat' with_reducible first | exact LE'.refl (some _) | exact LE'.refl none | refine LE'.ite ?_ ?_ | refine LE'.bind ?_ (fun _ => ?_) | refine LE'.lt (fun _ => ?_) | refine LE'.fin (fun _ => ?_) | refine LE'.iter (fun _ => ?_)
def jones_adjoint.f_c (a1 : (A4 Cx)) : Option (A4 Cx) :=
  ((iterF (fun (s : ((A4 Cx) × Int)) => jones_adjoint.s1_c s.1 s.2) ((⟨a1.e0, a1.e2, a1.e1, a1.e3⟩ : (A4 Cx)), 0)).bind fun o1 => fin o1 (fun (t : (A4 Cx)) => jones_adjoint.k2_c t))
theorem jones_adjoint.f_le (a1 : (A4 Cx)) : LE' (jones_adjoint.f_c a1) (jones_adjoint.f a1) := by
  unfold jones_adjoint.f_c jones_adjoint.f
  repeat' with_reducible first | exact LE'.refl (some _) | exact LE'.refl none | exact jones_adjoint.s1_le _ _ | exact jones_adjoint.k2_le _ | refine LE'.ite ?_ ?_ | refine LE'.bind ?_ (fun _ => ?_) | refine LE'.lt (fun _ => ?_) | refine LE'.fin (fun _ => ?_) | refine LE'.iter (fun _ => ?_)
def jones_Adjoint.f_c (a1 : (A4 Cx)) : Option ((A4 Cx) × Int) :=
  ((jones_valid.f_c a1).bind fun t4 => (if (!t4) = true then some ((⟨(⟨0, 0, 0⟩ : Cx), (⟨0, 0, 0⟩ : Cx), (⟨0, 0, 0⟩ : Cx), (⟨0, 0, 0⟩ : Cx)⟩ : (A4 Cx)), 8) else ((jones_adjoint.f_c a1).bind fun t7 => some (t7, 0))))
theorem jones_Adjoint.f_le (a1 : (A4 Cx)) : LE' (jones_Adjoint.f_c a1) (jones_Adjoint.f a1) := by
  unfold jones_Adjoint.f_c jones_Adjoint.f
  repeat' with_reducible first | exact LE'.refl (some _) | exact LE'.refl none | exact jones_valid.f_le _ | exact jones_adjoint.f_le _ | refine LE'.ite ?_ ?_ | refine LE'.bind ?_ (fun _ => ?_) | refine LE'.lt (fun _ => ?_) | refine LE'.fin (fun _ => ?_) | refine LE'.iter (fun _ => ?_)
def jones_zero.f_c (a1 : Cx) : Option Bool :=
  (if (decide (a1.Re = 0)) = true then some (decide (a1.Im = 0)) else some false)
theorem jones_zero.f_le (a1 : Cx) : LE' (jones_zero.f_c a1) (jones_zero.f a1) := by
  unfold jones_zero.f_c jones_zero.f
  repeat' with_reducible first | exact LE'.refl (some _) | exact LE'.refl none | refine LE'.ite ?_ ?_ | refine LE'.bind ?_ (fun _ => ?_) | refine LE'.lt (fun _ => ?_) | refine LE'.fin (fun _ => ?_) | refine LE'.iter (fun _ => ?_)
def cx_zero.f_c (a1 : Cx) : Option Bool :=
  (if (decide (a1.Re = 0)) = true then some (decide (a1.Im = 0)) else some false)
theorem cx_zero.f_le (a1 : Cx) : LE' (cx_zero.f_c a1) (cx_zero.f a1) := by
  unfold cx_zero.f_c cx_zero.f
  repeat' with_reducible first | exact LE'.refl (some _) | exact LE'.refl none | refine LE'.ite ?_ ?_ | refine LE'.bind ?_ (fun _ => ?_) | refine LE'.lt (fun _ => ?_) | refine LE'.fin (fun _ => ?_) | refine LE'.iter (fun _ => ?_)
def cx_Div_1.f_c (n1 : Int) (times2 : Int) : Option Bool :=
  (if ¬ times2 = 0 then (if (decide (n1 ≤ w64 (Int.tdiv 1000000000 times2))) = true then (if ¬ times2 = 0 then some (decide (w64 (0 - w64 (Int.tdiv 1000000000 times2)) ≤ n1)) else none) else some false) else none)
theorem cx_Div_1.f_le (n1 : Int) (times2 : Int) : LE' (cx_Div_1.f_c n1 times2) (cx_Div_1.f n1 times2) := by
  unfold cx_Div_1.f_c cx_Div_1.f
  repeat' with_reducible first | exact LE'.refl (some _) | exact LE'.refl none | refine LE'.ite ?_ ?_ | refine LE'.bind ?_ (fun _ => ?_) | refine LE'.lt (fun _ => ?_) | refine LE'.fin (fun _ => ?_) | refine LE'.iter (fun _ => ?_)
def cx_Div.k1_c (up39 : Int) (low40 : Int) (re47 : Int) (im48 : Int) (down49 : Int) (x58 : Bool) : Option (Cx × Int) :=
  (if x58 = true then some ((⟨0, 0, 0⟩ : Cx), 16) else some ((⟨(w64 (re47 * up39)), (w64 (im48 * up39)), (w64 (low40 * down49))⟩ : Cx), 0))
theorem cx_Div.k1_le (up39 : Int) (low40 : Int) (re47 : Int) (im48 : Int) (down49 : Int) (x58 : Bool) : LE' (cx_Div.k1_c up39 low40 re47 im48 down49 x58) (cx_Div.k1 up39 low40 re47 im48 down49 x58) := by
  unfold cx_Div.k1_c cx_Div.k1
  repeat' with_reducible first | exact LE'.refl (some _) | exact LE'.refl none | refine LE'.ite ?_ ?_ | refine LE'.bind ?_ (fun _ => ?_) | refine LE'.lt (fun _ => ?_) | refine LE'.fin (fun _ => ?_) | refine LE'.iter (fun _ => ?_)
def cx_Div.f_c (a1 : Cx) (b2 : Cx) : Option (Cx × Int) :=
  ((cx_check.f_c a1 b2).bind fun t6 => (if (!decide (t6 = 0)) = true then some ((⟨0, 0, 0⟩ : Cx), t6) else ((cx_zero.f_c b2).bind fun t9 => (if t9 = true then some ((⟨0, 0, 0⟩ : Cx), 18) else ((cx_zero.f_c a1).bind fun t12 => (if t12 = true then some (a1, 0) else lt' (w64 ((w64 (a1.Re * b2.Re)) + (w64 (a1.Im * b2.Im)))) fun re15 => lt' (w64 ((w64 (a1.Im * b2.Re)) - (w64 (a1.Re * b2.Im)))) fun im16 => lt' (w64 ((w64 (b2.Re * b2.Re)) + (w64 (b2.Im * b2.Im)))) fun low17 => ((cx_gcd.f_c ([re15, im16, low17] : List Int)).bind fun t19 => (if ¬ t19 = 0 then (if ¬ t19 = 0 then (if ¬ t19 = 0 then lt' (w64 (Int.tdiv re15 t19)) fun re24 => lt' (w64 (Int.tdiv im16 t19)) fun im25 => lt' (w64 (Int.tdiv low17 t19)) fun low26 => ((cx_gcd.f_c ([b2.Den, a1.Den] : List Int)).bind fun t28 => (if ¬ t28 = 0 then (if ¬ t28 = 0 then lt' (w64 (Int.tdiv b2.Den t28)) fun up32 => lt' (w64 (Int.tdiv a1.Den t28)) fun down33 => ((cx_gcd.f_c ([up32, low26] : List Int)).bind fun t35 => (if ¬ t35 = 0 then (if ¬ t35 = 0 then lt' (w64 (Int.tdiv up32 t35)) fun up39 => lt' (w64 (Int.tdiv low26 t35)) fun low40 => ((cx_gcd.f_c ([re24, im25, down33] : List Int)).bind fun t42 => (if ¬ t42 = 0 then (if ¬ t42 = 0 then (if ¬ t42 = 0 then lt' (w64 (Int.tdiv re24 t42)) fun re47 => lt' (w64 (Int.tdiv im25 t42)) fun im48 => lt' (w64 (Int.tdiv down33 t42)) fun down49 => ((cx_Div_1.f_c re47 up39).bind fun t60 => (if (!t60) = true then cx_Div.k1_c up39 low40 re47 im48 down49 true else ((cx_Div_1.f_c im48 up39).bind fun t63 => (if (!t63) = true then cx_Div.k1_c up39 low40 re47 im48 down49 true else ((cx_Div_1.f_c low40 down49).bind fun t66 => cx_Div.k1_c up39 low40 re47 im48 down49 (!t66)))))) else none) else none) else none)) else none) else none)) else none) else none)) else none) else none) else none))))))))
theorem cx_Div.f_le (a1 : Cx) (b2 : Cx) : LE' (cx_Div.f_c a1 b2) (cx_Div.f a1 b2) := by
  unfold cx_Div.f_c cx_Div.f
  repeat' with_reducible first | exact LE'.refl (some _) | exact LE'.refl none | exact cx_check.f_le _ _ | exact cx_zero.f_le _ | exact cx_gcd.f_le _ | exact cx_Div_1.f_le _ _ | exact cx_Div.k1_le _ _ _ _ _ _ | refine LE'.ite ?_ ?_ | refine LE'.bind ?_ (fun _ => ?_) | refine LE'.lt (fun _ => ?_) | refine LE'.fin (fun _ => ?_) | refine LE'.iter (fun _ => ?_)
def jones_Inv.k10_c (t4 : Cx × Int) (x85 : Int) (out176 : (A4 Cx)) : Option (St ((A4 Cx) × Int) (A4 Cx) ((A4 Cx) × Int)) :=
  (if 0 ≤ x85 ∧ x85 < 4 then ((cx_Div.f_c (ix ([out176.e0, out176.e1, out176.e2, out176.e3] : List Cx) x85) t4.1).bind fun t179 => (if 0 ≤ x85 ∧ x85 < 4 then lt' (A4.ofL (([out176.e0, out176.e1, out176.e2, out176.e3] : List Cx).set x85.toNat t179.1)) fun arr183 => (if (!decide (t179.2 = 0)) = true then some (.ret ((⟨(⟨0, 0, 0⟩ : Cx), (⟨0, 0, 0⟩ : Cx), (⟨0, 0, 0⟩ : Cx), (⟨0, 0, 0⟩ : Cx)⟩ : (A4 Cx)), t179.2)) else some (.next (arr183, w64 (x85 + 1)))) else none)) else none)
theorem jones_Inv.k10_le (t4 : Cx × Int) (x85 : Int) (out176 : (A4 Cx)) : LE' (jones_Inv.k10_c t4 x85 out176) (jones_Inv.k10 t4 x85 out176) := by
  unfold jones_Inv.k10_c jones_Inv.k10
  repeat' with_reducible first | exact LE'.refl (some _) | exact LE'.refl none | exact cx_Div.f_le _ _ | refine LE'.ite ?_ ?_ | refine LE'.bind ?_ (fun _ => ?_) | refine LE'.lt (fun _ => ?_) | refine LE'.fin (fun _ => ?_) | refine LE'.iter (fun _ => ?_)
def jones_Inv.k11_c (t4 : Cx × Int) (out84 : (A4 Cx)) (x85 : Int) (x192 : Bool) : Option (St ((A4 Cx) × Int) (A4 Cx) ((A4 Cx) × Int)) :=
  (if x192 = true then (if 0 ≤ x85 ∧ x85 < 4 then (if 0 ≤ x85 ∧ x85 < 4 then (if 0 ≤ x85 ∧ x85 < 4 then lt' (A4.ofL (([out84.e0, out84.e1, out84.e2, out84.e3] : List Cx).set x85.toNat (⟨(w64 (0 - (ix ([out84.e0, out84.e1, out84.e2, out84.e3] : List Cx) x85).Re)), ((ix ([out84.e0, out84.e1, out84.e2, out84.e3] : List Cx) x85).Im), ((ix ([out84.e0, out84.e1, out84.e2, out84.e3] : List Cx) x85).Den)⟩ : Cx))) fun arr200 => (if 0 ≤ x85 ∧ x85 < 4 then lt' (A4.ofL (([arr200.e0, arr200.e1, arr200.e2, arr200.e3] : List Cx).set x85.toNat (⟨((ix ([arr200.e0, arr200.e1, arr200.e2, arr200.e3] : List Cx) x85).Re), (w64 (0 - (ix ([out84.e0, out84.e1, out84.e2, out84.e3] : List Cx) x85).Im)), ((ix ([arr200.e0, arr200.e1, arr200.e2, arr200.e3] : List Cx) x85).Den)⟩ : Cx))) fun arr203 => jones_Inv.k10_c t4 x85 arr203 else none) else none) else none) else none) else jones_Inv.k10_c t4 x85 out84)
theorem jones_Inv.k11_le (t4 : Cx × Int) (out84 : (A4 Cx)) (x85 : Int) (x192 : Bool) : LE' (jones_Inv.k11_c t4 out84 x85 x192) (jones_Inv.k11 t4 out84 x85 x192) := by
  unfold jones_Inv.k11_c jones_Inv.k11
  repeat' with_reducible first | exact LE'.refl (some _) | exact LE'.refl none | exact jones_Inv.k10_le _ _ _ | refine LE'.ite ?_ ?_ | refine LE'.bind ?_ (fun _ => ?_) | refine LE'.lt (fun _ => ?_) | refine LE'.fin (fun _ => ?_) | refine LE'.iter (fun _ => ?_)
def jones_Inv.s7_c (t4 : Cx × Int) (out84 : (A4 Cx)) (x85 : Int) : Option (St ((A4 Cx) × Int) (A4 Cx) ((A4 Cx) × Int)) :=
  (if (decide (x85 < 4)) = true then (if (decide (x85 = 1)) = true then jones_Inv.k11_c t4 out84 x85 true else jones_Inv.k11_c t4 out84 x85 (decide (x85 = 2))) else some (.brk out84))
theorem jones_Inv.s7_le (t4 : Cx × Int) (out84 : (A4 Cx)) (x85 : Int) : LE' (jones_Inv.s7_c t4 out84 x85) (jones_Inv.s7 t4 out84 x85) := by
  unfold jones_Inv.s7_c jones_Inv.s7
  repeat' with_reducible first | exact LE'.refl (some _) | exact LE'.refl none | exact jones_Inv.k11_le _ _ _ _ | refine LE'.ite ?_ ?_ | refine LE'.bind ?_ (fun _ => ?_) | refine LE'.lt (fun _ => ?_) | refine LE'.fin (fun _ => ?_) | refine LE'.iter (fun _ => ?_)
def jones_Inv.k8_c (out150 : (A4 Cx)) : Option ((A4 Cx) × Int) :=
  some (out150, 0)
theorem jones_Inv.k8_le (out150 : (A4 Cx)) : LE' (jones_Inv.k8_c out150) (jones_Inv.k8 out150) := by
  unfold jones_Inv.k8_c jones_Inv.k8
  repeat' with_reducible first | exact LE'.refl (some _) | exact LE'.refl none | refine LE'.ite ?_ ?_ | refine LE'.bind ?_ (fun _ => ?_) | refine LE'.lt (fun _ => ?_) | refine LE'.fin (fun _ => ?_) | refine LE'.iter (fun _ => ?_)
def jones_Inv.f_c (a1 : (A4 Cx)) : Option ((A4 Cx) × Int) :=
  ((jones_Det.f_c a1).bind fun t4 => (if (!decide (t4.2 = 0)) = true then some ((⟨(⟨0, 0, 0⟩ : Cx), (⟨0, 0, 0⟩ : Cx), (⟨0, 0, 0⟩ : Cx), (⟨0, 0, 0⟩ : Cx)⟩ : (A4 Cx)), t4.2) else ((jones_zero.f_c t4.1).bind fun t8 => (if t8 = true then some ((⟨(⟨0, 0, 0⟩ : Cx), (⟨0, 0, 0⟩ : Cx), (⟨0, 0, 0⟩ : Cx), (⟨0, 0, 0⟩ : Cx)⟩ : (A4 Cx)), 18) else ((iterF (fun (s : ((A4 Cx) × Int)) => jones_Inv.s7_c t4 s.1 s.2) ((⟨a1.e3, a1.e1, a1.e2, a1.e0⟩ : (A4 Cx)), 0)).bind fun o1 => fin o1 (fun (t : (A4 Cx)) => jones_Inv.k8_c t))))))
theorem jones_Inv.f_le (a1 : (A4 Cx)) : LE' (jones_Inv.f_c a1) (jones_Inv.f a1) := by
  unfold jones_Inv.f_c jones_Inv.f
  repeat' with_reducible first | exact LE'.refl (some _) | exact LE'.refl none | exact jones_Det.f_le _ | exact jones_zero.f_le _ | exact jones_Inv.s7_le _ _ _ | exact jones_Inv.k8_le _ | refine LE'.ite ?_ ?_ | refine LE'.bind ?_ (fun _ => ?_) | refine LE'.lt (fun _ => ?_) | refine LE'.fin (fun _ => ?_) | refine LE'.iter (fun _ => ?_)
def law33_whole.f_c (a1 : Int) (b2 : Int) (c3 : Int) (d4 : Int) : Option (A4 Cx) :=
  ((law33_of.f_c a1 0 1).bind fun t6 => ((law33_of.f_c b2 0 1).bind fun t8 => ((law33_of.f_c c3 0 1).bind fun t10 => ((law33_of.f_c d4 0 1).bind fun t12 => some (⟨t6, t8, t10, t12⟩ : (A4 Cx))))))
theorem law33_whole.f_le (a1 : Int) (b2 : Int) (c3 : Int) (d4 : Int) : LE' (law33_whole.f_c a1 b2 c3 d4) (law33_whole.f a1 b2 c3 d4) := by
  unfold law33_whole.f_c law33_whole.f
  repeat' with_reducible first | exact LE'.refl (some _) | exact LE'.refl none | exact law33_of.f_le _ _ _ | refine LE'.ite ?_ ?_ | refine LE'.bind ?_ (fun _ => ?_) | refine LE'.lt (fun _ => ?_) | refine LE'.fin (fun _ => ?_) | refine LE'.iter (fun _ => ?_)
def jones_table_1.f_c (a1 : (A4 Cx)) : Option Bool :=
  ((jones_valid.f_c a1).bind fun t3 => some (!t3))
theorem jones_table_1.f_le (a1 : (A4 Cx)) : LE' (jones_table_1.f_c a1) (jones_table_1.f a1) := by
  unfold jones_table_1.f_c jones_table_1.f
  repeat' with_reducible first | exact LE'.refl (some _) | exact LE'.refl none | exact jones_valid.f_le _ | refine LE'.ite ?_ ?_ | refine LE'.bind ?_ (fun _ => ?_) | refine LE'.lt (fun _ => ?_) | refine LE'.fin (fun _ => ?_) | refine LE'.iter (fun _ => ?_)
def slices_IndexFunc__api_Jones_api_Jones__jones_table_1.s1_c (s1 : (List (A4 Cx))) (x23 : Int) : Option (St Int Unit Int) :=
  (if (decide (x23 < (s1.length : Int))) = true then (if 0 ≤ x23 ∧ x23 < (s1.length : Int) then ((jones_table_1.f_c (ix s1 x23)).bind fun t37 => (if t37 = true then some (.ret x23) else some (.next (w64 (x23 + 1))))) else none) else some (.brk ()))
theorem slices_IndexFunc__api_Jones_api_Jones__jones_table_1.s1_le (s1 : (List (A4 Cx))) (x23 : Int) : LE' (slices_IndexFunc__api_Jones_api_Jones__jones_table_1.s1_c s1 x23) (slices_IndexFunc__api_Jones_api_Jones__jones_table_1.s1 s1 x23) := by
  unfold slices_IndexFunc__api_Jones_api_Jones__jones_table_1.s1_c slices_IndexFunc__api_Jones_api_Jones__jones_table_1.s1
  repeat' with_reducible first | exact LE'.refl (some _) | exact LE'.refl none | exact jones_table_1.f_le _ | refine LE'.ite ?_ ?_ | refine LE'.bind ?_ (fun _ => ?_) | refine LE'.lt (fun _ => ?_) | refine LE'.fin (fun _ => ?_) | refine LE'.iter (fun _ => ?_)
def slices_IndexFunc__api_Jones_api_Jones__jones_table_1.k2_c : Option Int :=
  some (-1)
theorem slices_IndexFunc__api_Jones_api_Jones__jones_table_1.k2_le : LE' (slices_IndexFunc__api_Jones_api_Jones__jones_table_1.k2_c) (slices_IndexFunc__api_Jones_api_Jones__jones_table_1.k2) := by
  unfold slices_IndexFunc__api_Jones_api_Jones__jones_table_1.k2_c slices_IndexFunc__api_Jones_api_Jones__jones_table_1.k2
  repeat' with_reducible first | exact LE'.refl (some _) | exact LE'.refl none | refine LE'.ite ?_ ?_ | refine LE'.bind ?_ (fun _ => ?_) | refine LE'.lt (fun _ => ?_) | refine LE'.fin (fun _ => ?_) | refine LE'.iter (fun _ => ?_)
def slices_IndexFunc__api_Jones_api_Jones__jones_table_1.f_c (s1 : (List (A4 Cx))) : Option Int :=
  ((iterF (fun (s : Int) => slices_IndexFunc__api_Jones_api_Jones__jones_table_1.s1_c s1 s) 0).bind fun o1 => fin o1 (fun (t : Unit) => slices_IndexFunc__api_Jones_api_Jones__jones_table_1.k2_c))
theorem slices_IndexFunc__api_Jones_api_Jones__jones_table_1.f_le (s1 : (List (A4 Cx))) : LE' (slices_IndexFunc__api_Jones_api_Jones__jones_table_1.f_c s1) (slices_IndexFunc__api_Jones_api_Jones__jones_table_1.f s1) := by
  unfold slices_IndexFunc__api_Jones_api_Jones__jones_table_1.f_c slices_IndexFunc__api_Jones_api_Jones__jones_table_1.f
  repeat' with_reducible first | exact LE'.refl (some _) | exact LE'.refl none | exact slices_IndexFunc__api_Jones_api_Jones__jones_table_1.s1_le _ _ | exact slices_IndexFunc__api_Jones_api_Jones__jones_table_1.k2_le | refine LE'.ite ?_ ?_ | refine LE'.bind ?_ (fun _ => ?_) | refine LE'.lt (fun _ => ?_) | refine LE'.fin (fun _ => ?_) | refine LE'.iter (fun _ => ?_)
def slices_ContainsFunc__api_Jones_api_Jones__jones_table_1.f_c (s1 : (List (A4 Cx))) : Option Bool :=
  ((slices_IndexFunc__api_Jones_api_Jones__jones_table_1.f_c s1).bind fun t5 => some (decide (0 ≤ t5)))
theorem slices_ContainsFunc__api_Jones_api_Jones__jones_table_1.f_le (s1 : (List (A4 Cx))) : LE' (slices_ContainsFunc__api_Jones_api_Jones__jones_table_1.f_c s1) (slices_ContainsFunc__api_Jones_api_Jones__jones_table_1.f s1) := by
  unfold slices_ContainsFunc__api_Jones_api_Jones__jones_table_1.f_c slices_ContainsFunc__api_Jones_api_Jones__jones_table_1.f
  repeat' with_reducible first | exact LE'.refl (some _) | exact LE'.refl none | exact slices_IndexFunc__api_Jones_api_Jones__jones_table_1.f_le _ | refine LE'.ite ?_ ?_ | refine LE'.bind ?_ (fun _ => ?_) | refine LE'.lt (fun _ => ?_) | refine LE'.fin (fun _ => ?_) | refine LE'.iter (fun _ => ?_)
def jones_table.s2_c (t1 : (List (A4 Cx))) (x39 : Int) : Option (St Int Unit Int) :=
  (if (decide (x39 < (t1.length : Int))) = true then (if 0 ≤ x39 ∧ x39 < (t1.length : Int) then ((jones_Det.f_c (ix t1 x39)).bind fun t59 => (if (!decide (t59.2 = 0)) = true then some (.ret t59.2) else ((jones_zero.f_c t59.1).bind fun t63 => (if t63 = true then some (.ret 18) else some (.next (w64 (x39 + 1))))))) else none) else some (.brk ()))
theorem jones_table.s2_le (t1 : (List (A4 Cx))) (x39 : Int) : LE' (jones_table.s2_c t1 x39) (jones_table.s2 t1 x39) := by
  unfold jones_table.s2_c jones_table.s2
  repeat' with_reducible first | exact LE'.refl (some _) | exact LE'.refl none | exact jones_Det.f_le _ | exact jones_zero.f_le _ | refine LE'.ite ?_ ?_ | refine LE'.bind ?_ (fun _ => ?_) | refine LE'.lt (fun _ => ?_) | refine LE'.fin (fun _ => ?_) | refine LE'.iter (fun _ => ?_)
def jones_table.k3_c : Option Int :=
  some 0
theorem jones_table.k3_le : LE' (jones_table.k3_c) (jones_table.k3) := by
  unfold jones_table.k3_c jones_table.k3
  repeat' with_reducible first | exact LE'.refl (some _) | exact LE'.refl none | refine LE'.ite ?_ ?_ | refine LE'.bind ?_ (fun _ => ?_) | refine LE'.lt (fun _ => ?_) | refine LE'.fin (fun _ => ?_) | refine LE'.iter (fun _ => ?_)
def jones_table.k1_c (t1 : (List (A4 Cx))) (x9 : Bool) : Option Int :=
  (if x9 = true then some 8 else ((iterF (fun (s : Int) => jones_table.s2_c t1 s) 0).bind fun o1 => fin o1 (fun (t : Unit) => jones_table.k3_c)))
theorem jones_table.k1_le (t1 : (List (A4 Cx))) (x9 : Bool) : LE' (jones_table.k1_c t1 x9) (jones_table.k1 t1 x9) := by
  unfold jones_table.k1_c jones_table.k1
  repeat' with_reducible first | exact LE'.refl (some _) | exact LE'.refl none | exact jones_table.s2_le _ _ | exact jones_table.k3_le | refine LE'.ite ?_ ?_ | refine LE'.bind ?_ (fun _ => ?_) | refine LE'.lt (fun _ => ?_) | refine LE'.fin (fun _ => ?_) | refine LE'.iter (fun _ => ?_)
def jones_table.f_c (t1 : (List (A4 Cx))) : Option Int :=
  (if (decide (8 < (t1.length : Int))) = true then some 4 else (if (decide ((t1.length : Int) = 0)) = true then jones_table.k1_c t1 true else ((slices_ContainsFunc__api_Jones_api_Jones__jones_table_1.f_c t1).bind fun t67 => jones_table.k1_c t1 t67)))
theorem jones_table.f_le (t1 : (List (A4 Cx))) : LE' (jones_table.f_c t1) (jones_table.f t1) := by
  unfold jones_table.f_c jones_table.f
  repeat' with_reducible first | exact LE'.refl (some _) | exact LE'.refl none | exact jones_table.k1_le _ _ | exact slices_ContainsFunc__api_Jones_api_Jones__jones_table_1.f_le _ | refine LE'.ite ?_ ?_ | refine LE'.bind ?_ (fun _ => ?_) | refine LE'.lt (fun _ => ?_) | refine LE'.fin (fun _ => ?_) | refine LE'.iter (fun _ => ?_)
def jones_seen_1.f_c (p1 : Pol) (v2 : Int) : Option Bool :=
  (if (decide (p1.I < 0)) = true then some true else (if (decide (p1.J ≤ p1.I)) = true then some true else (if (decide (v2 ≤ p1.J)) = true then some true else (if (decide (p1.N < 0)) = true then some true else ((jones_valid.f_c p1.V).bind fun t9 => some (!t9))))))
theorem jones_seen_1.f_le (p1 : Pol) (v2 : Int) : LE' (jones_seen_1.f_c p1 v2) (jones_seen_1.f p1 v2) := by
  unfold jones_seen_1.f_c jones_seen_1.f
  repeat' with_reducible first | exact LE'.refl (some _) | exact LE'.refl none | exact jones_valid.f_le _ | refine LE'.ite ?_ ?_ | refine LE'.bind ?_ (fun _ => ?_) | refine LE'.lt (fun _ => ?_) | refine LE'.fin (fun _ => ?_) | refine LE'.iter (fun _ => ?_)
def slices_IndexFunc__api_Pol_api_Pol__jones_seen_1.s1_c (s1 : (List Pol)) (v5 : Int) (x25 : Int) : Option (St Int Unit Int) :=
  (if (decide (x25 < (s1.length : Int))) = true then (if 0 ≤ x25 ∧ x25 < (s1.length : Int) then ((jones_seen_1.f_c (ix s1 x25) v5).bind fun t39 => (if t39 = true then some (.ret x25) else some (.next (w64 (x25 + 1))))) else none) else some (.brk ()))
theorem slices_IndexFunc__api_Pol_api_Pol__jones_seen_1.s1_le (s1 : (List Pol)) (v5 : Int) (x25 : Int) : LE' (slices_IndexFunc__api_Pol_api_Pol__jones_seen_1.s1_c s1 v5 x25) (slices_IndexFunc__api_Pol_api_Pol__jones_seen_1.s1 s1 v5 x25) := by
  unfold slices_IndexFunc__api_Pol_api_Pol__jones_seen_1.s1_c slices_IndexFunc__api_Pol_api_Pol__jones_seen_1.s1
  repeat' with_reducible first | exact LE'.refl (some _) | exact LE'.refl none | exact jones_seen_1.f_le _ _ | refine LE'.ite ?_ ?_ | refine LE'.bind ?_ (fun _ => ?_) | refine LE'.lt (fun _ => ?_) | refine LE'.fin (fun _ => ?_) | refine LE'.iter (fun _ => ?_)
def slices_IndexFunc__api_Pol_api_Pol__jones_seen_1.k2_c : Option Int :=
  some (-1)
theorem slices_IndexFunc__api_Pol_api_Pol__jones_seen_1.k2_le : LE' (slices_IndexFunc__api_Pol_api_Pol__jones_seen_1.k2_c) (slices_IndexFunc__api_Pol_api_Pol__jones_seen_1.k2) := by
  unfold slices_IndexFunc__api_Pol_api_Pol__jones_seen_1.k2_c slices_IndexFunc__api_Pol_api_Pol__jones_seen_1.k2
  repeat' with_reducible first | exact LE'.refl (some _) | exact LE'.refl none | refine LE'.ite ?_ ?_ | refine LE'.bind ?_ (fun _ => ?_) | refine LE'.lt (fun _ => ?_) | refine LE'.fin (fun _ => ?_) | refine LE'.iter (fun _ => ?_)
def slices_IndexFunc__api_Pol_api_Pol__jones_seen_1.f_c (s1 : (List Pol)) (v5 : Int) : Option Int :=
  ((iterF (fun (s : Int) => slices_IndexFunc__api_Pol_api_Pol__jones_seen_1.s1_c s1 v5 s) 0).bind fun o1 => fin o1 (fun (t : Unit) => slices_IndexFunc__api_Pol_api_Pol__jones_seen_1.k2_c))
theorem slices_IndexFunc__api_Pol_api_Pol__jones_seen_1.f_le (s1 : (List Pol)) (v5 : Int) : LE' (slices_IndexFunc__api_Pol_api_Pol__jones_seen_1.f_c s1 v5) (slices_IndexFunc__api_Pol_api_Pol__jones_seen_1.f s1 v5) := by
  unfold slices_IndexFunc__api_Pol_api_Pol__jones_seen_1.f_c slices_IndexFunc__api_Pol_api_Pol__jones_seen_1.f
  repeat' with_reducible first | exact LE'.refl (some _) | exact LE'.refl none | exact slices_IndexFunc__api_Pol_api_Pol__jones_seen_1.s1_le _ _ _ | exact slices_IndexFunc__api_Pol_api_Pol__jones_seen_1.k2_le | refine LE'.ite ?_ ?_ | refine LE'.bind ?_ (fun _ => ?_) | refine LE'.lt (fun _ => ?_) | refine LE'.fin (fun _ => ?_) | refine LE'.iter (fun _ => ?_)
def slices_ContainsFunc__api_Pol_api_Pol__jones_seen_1.f_c (s1 : (List Pol)) (v5 : Int) : Option Bool :=
  ((slices_IndexFunc__api_Pol_api_Pol__jones_seen_1.f_c s1 v5).bind fun t7 => some (decide (0 ≤ t7)))
theorem slices_ContainsFunc__api_Pol_api_Pol__jones_seen_1.f_le (s1 : (List Pol)) (v5 : Int) : LE' (slices_ContainsFunc__api_Pol_api_Pol__jones_seen_1.f_c s1 v5) (slices_ContainsFunc__api_Pol_api_Pol__jones_seen_1.f s1 v5) := by
  unfold slices_ContainsFunc__api_Pol_api_Pol__jones_seen_1.f_c slices_ContainsFunc__api_Pol_api_Pol__jones_seen_1.f
  repeat' with_reducible first | exact LE'.refl (some _) | exact LE'.refl none | exact slices_IndexFunc__api_Pol_api_Pol__jones_seen_1.f_le _ _ | refine LE'.ite ?_ ?_ | refine LE'.bind ?_ (fun _ => ?_) | refine LE'.lt (fun _ => ?_) | refine LE'.fin (fun _ => ?_) | refine LE'.iter (fun _ => ?_)
def jones_seen.f_c (l1 : (List Pol)) (n5 : Int) : Option Int :=
  (if (decide (64 < (l1.length : Int))) = true then some 4 else ((slices_ContainsFunc__api_Pol_api_Pol__jones_seen_1.f_c l1 n5).bind fun t8 => (if t8 = true then some 8 else some 0)))
theorem jones_seen.f_le (l1 : (List Pol)) (n5 : Int) : LE' (jones_seen.f_c l1 n5) (jones_seen.f l1 n5) := by
  unfold jones_seen.f_c jones_seen.f
  repeat' with_reducible first | exact LE'.refl (some _) | exact LE'.refl none | exact slices_ContainsFunc__api_Pol_api_Pol__jones_seen_1.f_le _ _ | refine LE'.ite ?_ ?_ | refine LE'.bind ?_ (fun _ => ?_) | refine LE'.lt (fun _ => ?_) | refine LE'.fin (fun _ => ?_) | refine LE'.iter (fun _ => ?_)
def jones_Mul.k11_c (out157 : (A4 Cx)) (x158 : Int) (x271 : Cx) (e272 : Int) (y292 : Cx) (f293 : Int) : Option (St ((A4 Cx) × Int) (A4 Cx) ((A4 Cx) × Int)) :=
  ((cmp_Or__api_Errno.f_c ([e272, f293] : List Int)).bind fun t295 => (if (!decide (t295 = 0)) = true then some (.ret ((⟨(⟨0, 0, 0⟩ : Cx), (⟨0, 0, 0⟩ : Cx), (⟨0, 0, 0⟩ : Cx), (⟨0, 0, 0⟩ : Cx)⟩ : (A4 Cx)), t295)) else ((cx_Add.f_c x271 y292).bind fun t298 => (if 0 ≤ x158 ∧ x158 < 4 then lt' (A4.ofL (([out157.e0, out157.e1, out157.e2, out157.e3] : List Cx).set x158.toNat t298.1)) fun arr302 => (if (!decide (t298.2 = 0)) = true then some (.ret ((⟨(⟨0, 0, 0⟩ : Cx), (⟨0, 0, 0⟩ : Cx), (⟨0, 0, 0⟩ : Cx), (⟨0, 0, 0⟩ : Cx)⟩ : (A4 Cx)), t298.2)) else some (.next (arr302, w64 (x158 + 1)))) else none))))
theorem jones_Mul.k11_le (out157 : (A4 Cx)) (x158 : Int) (x271 : Cx) (e272 : Int) (y292 : Cx) (f293 : Int) : LE' (jones_Mul.k11_c out157 x158 x271 e272 y292 f293) (jones_Mul.k11 out157 x158 x271 e272 y292 f293) := by
  unfold jones_Mul.k11_c jones_Mul.k11
  repeat' with_reducible first | exact LE'.refl (some _) | exact LE'.refl none | exact cmp_Or__api_Errno.f_le _ | exact cx_Add.f_le _ _ | refine LE'.ite ?_ ?_ | refine LE'.bind ?_ (fun _ => ?_) | refine LE'.lt (fun _ => ?_) | refine LE'.fin (fun _ => ?_) | refine LE'.iter (fun _ => ?_)
def jones_Mul.k10_c (a1 : (A4 Cx)) (b2 : (A4 Cx)) (out157 : (A4 Cx)) (x158 : Int) (row250 : Int) (column251 : Int) (x271 : Cx) (e272 : Int) : Option (St ((A4 Cx) × Int) (A4 Cx) ((A4 Cx) × Int)) :=
  (if 0 ≤ w64 (row250 + 1) ∧ w64 (row250 + 1) < 4 then (if 0 ≤ w64 (column251 + 2) ∧ w64 (column251 + 2) < 4 then ((cx_Mul.f_c (ix ([a1.e0, a1.e1, a1.e2, a1.e3] : List Cx) (w64 (row250 + 1))) (ix ([b2.e0, b2.e1, b2.e2, b2.e3] : List Cx) (w64 (column251 + 2)))).bind fun t308 => jones_Mul.k11_c out157 x158 x271 e272 t308.1 t308.2) else none) else none)
theorem jones_Mul.k10_le (a1 : (A4 Cx)) (b2 : (A4 Cx)) (out157 : (A4 Cx)) (x158 : Int) (row250 : Int) (column251 : Int) (x271 : Cx) (e272 : Int) : LE' (jones_Mul.k10_c a1 b2 out157 x158 row250 column251 x271 e272) (jones_Mul.k10 a1 b2 out157 x158 row250 column251 x271 e272) := by
  unfold jones_Mul.k10_c jones_Mul.k10
  repeat' with_reducible first | exact LE'.refl (some _) | exact LE'.refl none | exact cx_Mul.f_le _ _ | exact jones_Mul.k11_le _ _ _ _ _ _ | refine LE'.ite ?_ ?_ | refine LE'.bind ?_ (fun _ => ?_) | refine LE'.lt (fun _ => ?_) | refine LE'.fin (fun _ => ?_) | refine LE'.iter (fun _ => ?_)
def jones_Mul.s8_c (a1 : (A4 Cx)) (b2 : (A4 Cx)) (out157 : (A4 Cx)) (x158 : Int) : Option (St ((A4 Cx) × Int) (A4 Cx) ((A4 Cx) × Int)) :=
  (if (decide (x158 < 4)) = true then lt' (w64 ((w64 (Int.tdiv x158 2)) * 2)) fun row250 => lt' (Int.tmod x158 2) fun column251 => (if 0 ≤ row250 ∧ row250 < 4 then (if 0 ≤ column251 ∧ column251 < 4 then ((cx_Mul.f_c (ix ([a1.e0, a1.e1, a1.e2, a1.e3] : List Cx) row250) (ix ([b2.e0, b2.e1, b2.e2, b2.e3] : List Cx) column251)).bind fun t325 => jones_Mul.k10_c a1 b2 out157 x158 row250 column251 t325.1 t325.2) else none) else none) else some (.brk out157))
theorem jones_Mul.s8_le (a1 : (A4 Cx)) (b2 : (A4 Cx)) (out157 : (A4 Cx)) (x158 : Int) : LE' (jones_Mul.s8_c a1 b2 out157 x158) (jones_Mul.s8 a1 b2 out157 x158) := by
  unfold jones_Mul.s8_c jones_Mul.s8
  repeat' with_reducible first | exact LE'.refl (some _) | exact LE'.refl none | exact cx_Mul.f_le _ _ | exact jones_Mul.k10_le _ _ _ _ _ _ _ _ | refine LE'.ite ?_ ?_ | refine LE'.bind ?_ (fun _ => ?_) | refine LE'.lt (fun _ => ?_) | refine LE'.fin (fun _ => ?_) | refine LE'.iter (fun _ => ?_)
def jones_Mul.k9_c (out248 : (A4 Cx)) : Option ((A4 Cx) × Int) :=
  some (out248, 0)
theorem jones_Mul.k9_le (out248 : (A4 Cx)) : LE' (jones_Mul.k9_c out248) (jones_Mul.k9 out248) := by
  unfold jones_Mul.k9_c jones_Mul.k9
  repeat' with_reducible first | exact LE'.refl (some _) | exact LE'.refl none | refine LE'.ite ?_ ?_ | refine LE'.bind ?_ (fun _ => ?_) | refine LE'.lt (fun _ => ?_) | refine LE'.fin (fun _ => ?_) | refine LE'.iter (fun _ => ?_)
def jones_Mul.k1_c (a1 : (A4 Cx)) (b2 : (A4 Cx)) (x11 : Bool) : Option ((A4 Cx) × Int) :=
  (if x11 = true then some ((⟨(⟨0, 0, 0⟩ : Cx), (⟨0, 0, 0⟩ : Cx), (⟨0, 0, 0⟩ : Cx), (⟨0, 0, 0⟩ : Cx)⟩ : (A4 Cx)), 8) else ((iterF (fun (s : ((A4 Cx) × Int)) => jones_Mul.s8_c a1 b2 s.1 s.2) ((⟨(⟨0, 0, 0⟩ : Cx), (⟨0, 0, 0⟩ : Cx), (⟨0, 0, 0⟩ : Cx), (⟨0, 0, 0⟩ : Cx)⟩ : (A4 Cx)), 0)).bind fun o1 => fin o1 (fun (t : (A4 Cx)) => jones_Mul.k9_c t)))
theorem jones_Mul.k1_le (a1 : (A4 Cx)) (b2 : (A4 Cx)) (x11 : Bool) : LE' (jones_Mul.k1_c a1 b2 x11) (jones_Mul.k1 a1 b2 x11) := by
  unfold jones_Mul.k1_c jones_Mul.k1
  repeat' with_reducible first | exact LE'.refl (some _) | exact LE'.refl none | exact jones_Mul.s8_le _ _ _ _ | exact jones_Mul.k9_le _ | refine LE'.ite ?_ ?_ | refine LE'.bind ?_ (fun _ => ?_) | refine LE'.lt (fun _ => ?_) | refine LE'.fin (fun _ => ?_) | refine LE'.iter (fun _ => ?_)
def jones_Mul.f_c (a1 : (A4 Cx)) (b2 : (A4 Cx)) : Option ((A4 Cx) × Int) :=
  ((jones_valid.f_c a1).bind fun t338 => (if (!t338) = true then jones_Mul.k1_c a1 b2 true else ((jones_valid.f_c b2).bind fun t341 => jones_Mul.k1_c a1 b2 (!t341))))
theorem jones_Mul.f_le (a1 : (A4 Cx)) (b2 : (A4 Cx)) : LE' (jones_Mul.f_c a1 b2) (jones_Mul.f a1 b2) := by
  unfold jones_Mul.f_c jones_Mul.f
  repeat' with_reducible first | exact LE'.refl (some _) | exact LE'.refl none | exact jones_valid.f_le _ | exact jones_Mul.k1_le _ _ _ | refine LE'.ite ?_ ?_ | refine LE'.bind ?_ (fun _ => ?_) | refine LE'.lt (fun _ => ?_) | refine LE'.fin (fun _ => ?_) | refine LE'.iter (fun _ => ?_)
def jones_product.s1_c (l1 : (List (A4 Cx))) (out39 : (A4 Cx)) (x40 : Int) : Option (St ((A4 Cx) × Int) (A4 Cx) ((A4 Cx) × Int)) :=
  (if (decide (x40 < (((l1.take l1.length).drop ((1 : Int).toNat)).length : Int))) = true then (if 0 ≤ x40 ∧ x40 < (((l1.take l1.length).drop ((1 : Int).toNat)).length : Int) then ((jones_Mul.f_c out39 (ix ((l1.take l1.length).drop ((1 : Int).toNat)) x40)).bind fun t57 => (if (!decide (t57.2 = 0)) = true then some (.ret ((⟨(⟨0, 0, 0⟩ : Cx), (⟨0, 0, 0⟩ : Cx), (⟨0, 0, 0⟩ : Cx), (⟨0, 0, 0⟩ : Cx)⟩ : (A4 Cx)), t57.2)) else some (.next (t57.1, w64 (x40 + 1))))) else none) else some (.brk out39))
theorem jones_product.s1_le (l1 : (List (A4 Cx))) (out39 : (A4 Cx)) (x40 : Int) : LE' (jones_product.s1_c l1 out39 x40) (jones_product.s1 l1 out39 x40) := by
  unfold jones_product.s1_c jones_product.s1
  repeat' with_reducible first | exact LE'.refl (some _) | exact LE'.refl none | exact jones_Mul.f_le _ _ | refine LE'.ite ?_ ?_ | refine LE'.bind ?_ (fun _ => ?_) | refine LE'.lt (fun _ => ?_) | refine LE'.fin (fun _ => ?_) | refine LE'.iter (fun _ => ?_)
def jones_product.k2_c (out50 : (A4 Cx)) : Option ((A4 Cx) × Int) :=
  some (out50, 0)
theorem jones_product.k2_le (out50 : (A4 Cx)) : LE' (jones_product.k2_c out50) (jones_product.k2 out50) := by
  unfold jones_product.k2_c jones_product.k2
  repeat' with_reducible first | exact LE'.refl (some _) | exact LE'.refl none | refine LE'.ite ?_ ?_ | refine LE'.bind ?_ (fun _ => ?_) | refine LE'.lt (fun _ => ?_) | refine LE'.fin (fun _ => ?_) | refine LE'.iter (fun _ => ?_)
def jones_product.f_c (l1 : (List (A4 Cx))) : Option ((A4 Cx) × Int) :=
  (if (0 : Int) ≤ 0 ∧ 0 < (l1.length : Int) then (if (0 : Int) ≤ 1 ∧ 1 ≤ (l1.length : Int) then ((iterF (fun (s : ((A4 Cx) × Int)) => jones_product.s1_c l1 s.1 s.2) ((ix l1 0), 0)).bind fun o1 => fin o1 (fun (t : (A4 Cx)) => jones_product.k2_c t)) else none) else none)
theorem jones_product.f_le (l1 : (List (A4 Cx))) : LE' (jones_product.f_c l1) (jones_product.f l1) := by
  unfold jones_product.f_c jones_product.f
  repeat' with_reducible first | exact LE'.refl (some _) | exact LE'.refl none | exact jones_product.s1_le _ _ _ | exact jones_product.k2_le _ | refine LE'.ite ?_ ?_ | refine LE'.bind ?_ (fun _ => ?_) | refine LE'.lt (fun _ => ?_) | refine LE'.fin (fun _ => ?_) | refine LE'.iter (fun _ => ?_)
def jones_Act.k6_c (l5 : (List Pol)) (out234 : List Pol) (x241 : Int) (v398 : (A4 Cx)) (e399 : Int) : Option (St ((List Pol) × Int) (List Pol) ((List Pol) × Int)) :=
  (if (!decide (e399 = 0)) = true then some (.ret ([], e399)) else (if out234.length + ([(⟨((ix l5 x241).I), ((ix l5 x241).J), v398, ((ix l5 x241).N)⟩ : Pol)] : List Pol).length ≤ 1172812402961 then some (.next ((out234 ++ ([(⟨((ix l5 x241).I), ((ix l5 x241).J), v398, ((ix l5 x241).N)⟩ : Pol)] : List Pol)), w64 (x241 + 1))) else none))
theorem jones_Act.k6_le (l5 : (List Pol)) (out234 : List Pol) (x241 : Int) (v398 : (A4 Cx)) (e399 : Int) : LE' (jones_Act.k6_c l5 out234 x241 v398 e399) (jones_Act.k6 l5 out234 x241 v398 e399) := by
  unfold jones_Act.k6_c jones_Act.k6
  repeat' with_reducible first | exact LE'.refl (some _) | exact LE'.refl none | refine LE'.ite ?_ ?_ | refine LE'.bind ?_ (fun _ => ?_) | refine LE'.lt (fun _ => ?_) | refine LE'.fin (fun _ => ?_) | refine LE'.iter (fun _ => ?_)
def jones_Act.s4_c (t1 : (List (A4 Cx))) (l5 : (List Pol)) (out234 : List Pol) (x241 : Int) : Option (St ((List Pol) × Int) (List Pol) ((List Pol) × Int)) :=
  (if (decide (x241 < (l5.length : Int))) = true then (if 0 ≤ x241 ∧ x241 < (l5.length : Int) then (if 0 ≤ (ix l5 x241).I ∧ (ix l5 x241).I < (t1.length : Int) then (if 0 ≤ (ix l5 x241).J ∧ (ix l5 x241).J < (t1.length : Int) then ((jones_adjoint.f_c (ix t1 ((ix l5 x241).J))).bind fun t413 => ((jones_product.f_c ([(ix t1 ((ix l5 x241).I)), (ix l5 x241).V, t413] : List (A4 Cx))).bind fun t416 => jones_Act.k6_c l5 out234 x241 t416.1 t416.2)) else none) else none) else none) else some (.brk out234))
theorem jones_Act.s4_le (t1 : (List (A4 Cx))) (l5 : (List Pol)) (out234 : List Pol) (x241 : Int) : LE' (jones_Act.s4_c t1 l5 out234 x241) (jones_Act.s4 t1 l5 out234 x241) := by
  unfold jones_Act.s4_c jones_Act.s4
  repeat' with_reducible first | exact LE'.refl (some _) | exact LE'.refl none | exact jones_adjoint.f_le _ | exact jones_product.f_le _ | exact jones_Act.k6_le _ _ _ _ _ | refine LE'.ite ?_ ?_ | refine LE'.bind ?_ (fun _ => ?_) | refine LE'.lt (fun _ => ?_) | refine LE'.fin (fun _ => ?_) | refine LE'.iter (fun _ => ?_)
def jones_Act.k5_c (out343 : List Pol) : Option ((List Pol) × Int) :=
  some (out343, 0)
theorem jones_Act.k5_le (out343 : List Pol) : LE' (jones_Act.k5_c out343) (jones_Act.k5 out343) := by
  unfold jones_Act.k5_c jones_Act.k5
  repeat' with_reducible first | exact LE'.refl (some _) | exact LE'.refl none | refine LE'.ite ?_ ?_ | refine LE'.bind ?_ (fun _ => ?_) | refine LE'.lt (fun _ => ?_) | refine LE'.fin (fun _ => ?_) | refine LE'.iter (fun _ => ?_)
def jones_Act.f_c (t1 : (List (A4 Cx))) (l5 : (List Pol)) : Option ((List Pol) × Int) :=
  ((jones_table.f_c t1).bind fun t9 => (if (!decide (t9 = 0)) = true then some ([], t9) else ((jones_seen.f_c l5 (t1.length : Int)).bind fun t12 => (if (!decide (t12 = 0)) = true then some ([], t12) else ((iterF (fun (s : ((List Pol) × Int)) => jones_Act.s4_c t1 l5 s.1 s.2) ([], 0)).bind fun o1 => fin o1 (fun (t : List Pol) => jones_Act.k5_c t))))))
theorem jones_Act.f_le (t1 : (List (A4 Cx))) (l5 : (List Pol)) : LE' (jones_Act.f_c t1 l5) (jones_Act.f t1 l5) := by
  unfold jones_Act.f_c jones_Act.f
  repeat' with_reducible first | exact LE'.refl (some _) | exact LE'.refl none | exact jones_table.f_le _ | exact jones_seen.f_le _ _ | exact jones_Act.s4_le _ _ _ _ | exact jones_Act.k5_le _ | refine LE'.ite ?_ ?_ | refine LE'.bind ?_ (fun _ => ?_) | refine LE'.lt (fun _ => ?_) | refine LE'.fin (fun _ => ?_) | refine LE'.iter (fun _ => ?_)
def ref33_Same.s1_c (a1 : (List Pol)) (b5 : (List Pol)) (i32 : Int) : Option (St Int Unit Bool) :=
  (if (decide (i32 < (a1.length : Int))) = true then (if 0 ≤ i32 ∧ i32 < (a1.length : Int) then (if 0 ≤ i32 ∧ i32 < (b5.length : Int) then (if (!decide ((ix a1 i32) = (ix b5 i32))) = true then some (.ret false) else some (.next (w64 (i32 + 1)))) else none) else none) else some (.brk ()))
theorem ref33_Same.s1_le (a1 : (List Pol)) (b5 : (List Pol)) (i32 : Int) : LE' (ref33_Same.s1_c a1 b5 i32) (ref33_Same.s1 a1 b5 i32) := by
  unfold ref33_Same.s1_c ref33_Same.s1
  repeat' with_reducible first | exact LE'.refl (some _) | exact LE'.refl none | refine LE'.ite ?_ ?_ | refine LE'.bind ?_ (fun _ => ?_) | refine LE'.lt (fun _ => ?_) | refine LE'.fin (fun _ => ?_) | refine LE'.iter (fun _ => ?_)
def ref33_Same.k2_c : Option Bool :=
  some true
theorem ref33_Same.k2_le : LE' (ref33_Same.k2_c) (ref33_Same.k2) := by
  unfold ref33_Same.k2_c ref33_Same.k2
  repeat' with_reducible first | exact LE'.refl (some _) | exact LE'.refl none | refine LE'.ite ?_ ?_ | refine LE'.bind ?_ (fun _ => ?_) | refine LE'.lt (fun _ => ?_) | refine LE'.fin (fun _ => ?_) | refine LE'.iter (fun _ => ?_)
def ref33_Same.f_c (a1 : (List Pol)) (b5 : (List Pol)) : Option Bool :=
  (if (!decide ((a1.length : Int) = (b5.length : Int))) = true then some false else ((iterF (fun (s : Int) => ref33_Same.s1_c a1 b5 s) 0).bind fun o1 => fin o1 (fun (t : Unit) => ref33_Same.k2_c)))
theorem ref33_Same.f_le (a1 : (List Pol)) (b5 : (List Pol)) : LE' (ref33_Same.f_c a1 b5) (ref33_Same.f a1 b5) := by
  unfold ref33_Same.f_c ref33_Same.f
  repeat' with_reducible first | exact LE'.refl (some _) | exact LE'.refl none | exact ref33_Same.s1_le _ _ _ | exact ref33_Same.k2_le | refine LE'.ite ?_ ?_ | refine LE'.bind ?_ (fun _ => ?_) | refine LE'.lt (fun _ => ?_) | refine LE'.fin (fun _ => ?_) | refine LE'.iter (fun _ => ?_)
def law33_alive.f_c : Option Bool :=
  ((law33_example.f_c).bind fun t1 => ((jones_Det.f_c t1).bind fun t3 => ((law33_example.f_c).bind fun t6 => ((jones_Trace.f_c t6).bind fun t8 => ((law33_example.f_c).bind fun t11 => ((jones_Adjoint.f_c t11).bind fun t13 => ((law33_example.f_c).bind fun t16 => ((jones_Inv.f_c t16).bind fun t18 => ((law33_whole.f_c 0 1 1 0).bind fun t21 => ((law33_whole.f_c 1 0 0 1).bind fun t23 => ((law33_whole.f_c 1 2 3 4).bind fun t26 => ((jones_Act.f_c ([t21, t23] : List (A4 Cx)) ([(⟨0, 1, t26, 2⟩ : Pol)] : List Pol)).bind fun t29 => (if (decide (t3.2 = 0)) = true then ((law33_of.f_c 2 0 1).bind fun t35 => (if (decide (t3.1 = t35)) = true then (if (decide (t8.2 = 0)) = true then ((law33_of.f_c 3 0 1).bind fun t39 => (if (decide (t8.1 = t39)) = true then (if (decide (t13.2 = 0)) = true then ((law33_of.f_c 1 0 1).bind fun t43 => ((law33_of.f_c 0 0 1).bind fun t45 => ((law33_of.f_c 0 (-1) 1).bind fun t47 => ((law33_of.f_c 2 0 1).bind fun t49 => (if (decide (t13.1 = (⟨t43, t45, t47, t49⟩ : (A4 Cx)))) = true then (if (decide (t18.2 = 0)) = true then ((law33_of.f_c 1 0 1).bind fun t53 => ((law33_of.f_c 0 (-1) 2).bind fun t55 => ((law33_of.f_c 0 0 1).bind fun t57 => ((law33_of.f_c 1 0 2).bind fun t59 => (if (decide (t18.1 = (⟨t53, t55, t57, t59⟩ : (A4 Cx)))) = true then (if (decide (t29.2 = 0)) = true then ((law33_whole.f_c 3 4 1 2).bind fun t63 => ((ref33_Same.f_c t29.1 ([(⟨0, 1, t63, 2⟩ : Pol)] : List Pol)).bind fun t66 => some t66)) else some false) else some false))))) else some false) else some false))))) else some false) else some false)) else some false) else some false)) else some false)))))))))))))
theorem law33_alive.f_le : LE' (law33_alive.f_c) (law33_alive.f) := by
  unfold law33_alive.f_c law33_alive.f
  repeat' with_reducible first | exact LE'.refl (some _) | exact LE'.refl none | exact law33_example.f_le | exact jones_Det.f_le _ | exact jones_Trace.f_le _ | exact jones_Adjoint.f_le _ | exact jones_Inv.f_le _ | exact law33_whole.f_le _ _ _ _ | exact jones_Act.f_le _ _ | exact law33_of.f_le _ _ _ | exact ref33_Same.f_le _ _ | refine LE'.ite ?_ ?_ | refine LE'.bind ?_ (fun _ => ?_) | refine LE'.lt (fun _ => ?_) | refine LE'.fin (fun _ => ?_) | refine LE'.iter (fun _ => ?_)

end Go.Proofs.Ytlfmmenlkpoodaa.M
