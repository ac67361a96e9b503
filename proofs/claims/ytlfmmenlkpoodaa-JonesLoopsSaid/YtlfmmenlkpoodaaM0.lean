import Derived.Test.YtlfmmenlkpoodaaGw17
set_option linter.unusedVariables false
set_option linter.unusedSimpArgs false
set_option maxRecDepth 100000
set_option maxHeartbeats 8000000
namespace Go.Proofs.Ytlfmmenlkpoodaa.M
open Go.GW Go.Proofs

structure Cx where
  Re : Int
  Im : Int
  Den : Int
  deriving DecidableEq, Inhabited
def fl_Cx : Fl Cx := ⟨3, fun x => [.int .i64 x.Re, .int .i64 x.Im, .int .i64 x.Den], fun _ => rfl, fun x v h => by
  simp only [List.mem_cons, List.not_mem_nil, or_false] at h
  rcases h with rfl | rfl | rfl <;> rfl⟩
structure Pol where
  I : Int
  J : Int
  V : (A4 Cx)
  N : Int
  deriving DecidableEq, Inhabited
def fl_Pol : Fl Pol := ⟨15, fun x => [.int .i64 x.I, .int .i64 x.J, .int .i64 x.V.e0.Re, .int .i64 x.V.e0.Im, .int .i64 x.V.e0.Den, .int .i64 x.V.e1.Re, .int .i64 x.V.e1.Im, .int .i64 x.V.e1.Den, .int .i64 x.V.e2.Re, .int .i64 x.V.e2.Im, .int .i64 x.V.e2.Den, .int .i64 x.V.e3.Re, .int .i64 x.V.e3.Im, .int .i64 x.V.e3.Den, .int .i64 x.N], fun _ => rfl, fun x v h => by
  simp only [List.mem_cons, List.not_mem_nil, or_false] at h
  rcases h with rfl | rfl | rfl | rfl | rfl | rfl | rfl | rfl | rfl | rfl | rfl | rfl | rfl | rfl | rfl <;> rfl⟩
def ok_Cx (x : Cx) : Prop := (okInt .i64 x.Re) ∧ (okInt .i64 x.Im) ∧ (okInt .i64 x.Den)
def ok_Pol (x : Pol) : Prop := (okInt .i64 x.I) ∧ (okInt .i64 x.J) ∧ ((ok_Cx x.V.e0) ∧ (ok_Cx x.V.e1) ∧ (ok_Cx x.V.e2) ∧ (ok_Cx x.V.e3)) ∧ (okInt .i64 x.N)
noncomputable def law33_of.f (re1 : Int) (im2 : Int) (den3 : Int) : Option Cx :=
  some (⟨re1, im2, den3⟩ : Cx)

noncomputable def law33_example.f : Option (A4 Cx) :=
  ((law33_of.f 1 0 1).bind fun t2 => ((law33_of.f 0 1 1).bind fun t4 => ((law33_of.f 0 0 1).bind fun t6 => ((law33_of.f 2 0 1).bind fun t8 => some (⟨t2, t4, t6, t8⟩ : (A4 Cx))))))

noncomputable def cx_Check_1.f (n1 : Int) : Option Bool :=
  (if (decide ((-1000000000) ≤ n1)) = true then some (decide (n1 ≤ 1000000000)) else some false)

noncomputable def cx_gcd.s9 (g108 : Int) (n109 : Int) : Option (St (Int × Int) Int (St (Int × Int) Int Int)) :=
  (if (!decide (n109 = 0)) = true then (if ¬ n109 = 0 then lt' (Int.tmod g108 n109) fun n116 => some (.next (n109, n116)) else none) else some (.brk g108))
noncomputable def cx_gcd.k10 (x67 : Int) (g113 : Int) : Option (St (Int × Int) Int Int) :=
  some (.next (g113, w64 (x67 + 1)))
noncomputable def cx_gcd.s7 (l1 : (List Int)) (g63 : Int) (x67 : Int) : Option (St (Int × Int) Int Int) :=
  (if (decide (x67 < (l1.length : Int))) = true then (if 0 ≤ x67 ∧ x67 < (l1.length : Int) then ((iter (fun (s : (Int × Int)) => cx_gcd.s9 s.1 s.2) (g63, (ix l1 x67))).bind fun o2 => fin o2 (fun (t : Int) => cx_gcd.k10 x67 t)) else none) else some (.brk g63))
noncomputable def cx_gcd.k8 (g92 : Int) : Option Int :=
  some (gmax g92 (w64 (0 - g92)))
noncomputable def cx_gcd.f (l1 : (List Int)) : Option Int :=
  ((iter (fun (s : (Int × Int)) => cx_gcd.s7 l1 s.1 s.2) (0, 0)).bind fun o1 => fin o1 (fun (t : Int) => cx_gcd.k8 t))

noncomputable def cx_Check.k1 (x16 : Bool) : Option Int :=
  (if x16 = true then some 8 else some 0)
noncomputable def cx_Check.f (a1 : Cx) : Option Int :=
  (if (decide (a1.Den < 1)) = true then cx_Check.k1 true else ((cx_Check_1.f a1.Re).bind fun t19 => (if (!t19) = true then cx_Check.k1 true else ((cx_Check_1.f a1.Im).bind fun t22 => (if (!t22) = true then cx_Check.k1 true else ((cx_Check_1.f a1.Den).bind fun t25 => (if (!t25) = true then cx_Check.k1 true else ((cx_gcd.f ([a1.Re, a1.Im, a1.Den] : List Int)).bind fun t29 => cx_Check.k1 (!decide (t29 = 1))))))))))

noncomputable def jones_valid_1.f (x1 : Cx) : Option Bool :=
  ((cx_Check.f x1).bind fun t3 => some (!decide (t3 = 0)))

noncomputable def slices_IndexFunc__api_Cx_api_Cx__jones_valid_1.s1 (s1 : (List Cx)) (x23 : Int) : Option (St Int Unit Int) :=
  (if (decide (x23 < (s1.length : Int))) = true then (if 0 ≤ x23 ∧ x23 < (s1.length : Int) then ((jones_valid_1.f (ix s1 x23)).bind fun t37 => (if t37 = true then some (.ret x23) else some (.next (w64 (x23 + 1))))) else none) else some (.brk ()))
noncomputable def slices_IndexFunc__api_Cx_api_Cx__jones_valid_1.k2 : Option Int :=
  some (-1)
noncomputable def slices_IndexFunc__api_Cx_api_Cx__jones_valid_1.f (s1 : (List Cx)) : Option Int :=
  ((iter (fun (s : Int) => slices_IndexFunc__api_Cx_api_Cx__jones_valid_1.s1 s1 s) 0).bind fun o1 => fin o1 (fun (t : Unit) => slices_IndexFunc__api_Cx_api_Cx__jones_valid_1.k2))

noncomputable def slices_ContainsFunc__api_Cx_api_Cx__jones_valid_1.f (s1 : (List Cx)) : Option Bool :=
  ((slices_IndexFunc__api_Cx_api_Cx__jones_valid_1.f s1).bind fun t5 => some (decide (0 ≤ t5)))

noncomputable def jones_valid.f (a1 : (A4 Cx)) : Option Bool :=
  ((slices_ContainsFunc__api_Cx_api_Cx__jones_valid_1.f ([a1.e0, a1.e1, a1.e2, a1.e3] : List Cx)).bind fun t4 => some (!t4))

noncomputable def cmp_Or__api_Errno.s1 (vals1 : (List Int)) (x19 : Int) : Option (St Int Unit Int) :=
  (if (decide (x19 < (vals1.length : Int))) = true then (if 0 ≤ x19 ∧ x19 < (vals1.length : Int) then (if (!decide ((ix vals1 x19) = 0)) = true then some (.ret (ix vals1 x19)) else some (.next (w64 (x19 + 1)))) else none) else some (.brk ()))
noncomputable def cmp_Or__api_Errno.k2 : Option Int :=
  some 0
noncomputable def cmp_Or__api_Errno.f (vals1 : (List Int)) : Option Int :=
  ((iter (fun (s : Int) => cmp_Or__api_Errno.s1 vals1 s) 0).bind fun o1 => fin o1 (fun (t : Unit) => cmp_Or__api_Errno.k2))

noncomputable def cx_check.f (a1 : Cx) (b2 : Cx) : Option Int :=
  ((cx_Check.f a1).bind fun t5 => ((cx_Check.f b2).bind fun t7 => ((cmp_Or__api_Errno.f ([t5, t7] : List Int)).bind fun t10 => some t10)))

noncomputable def cx_reduced.k1 (re1 : Int) (im2 : Int) (den3 : Int) (g9 : Int) : Option (Cx × Int) :=
  (if ¬ g9 = 0 then (if ¬ g9 = 0 then (if ¬ g9 = 0 then ((cx_Check.f (⟨(w64 (Int.tdiv re1 g9)), (w64 (Int.tdiv im2 g9)), (w64 (Int.tdiv den3 g9))⟩ : Cx)).bind fun t14 => (if (!decide (t14 = 0)) = true then some ((⟨0, 0, 0⟩ : Cx), 16) else some ((⟨(w64 (Int.tdiv re1 g9)), (w64 (Int.tdiv im2 g9)), (w64 (Int.tdiv den3 g9))⟩ : Cx), 0))) else none) else none) else none)
noncomputable def cx_reduced.f (re1 : Int) (im2 : Int) (den3 : Int) : Option (Cx × Int) :=
  ((cx_gcd.f ([re1, im2, den3] : List Int)).bind fun t6 => (if (decide (den3 < 0)) = true then cx_reduced.k1 re1 im2 den3 (w64 (0 - t6)) else cx_reduced.k1 re1 im2 den3 t6))

noncomputable def cx_Mul.f (a1 : Cx) (b2 : Cx) : Option (Cx × Int) :=
  ((cx_check.f a1 b2).bind fun t6 => (if (!decide (t6 = 0)) = true then some ((⟨0, 0, 0⟩ : Cx), t6) else ((cx_reduced.f (w64 ((w64 (a1.Re * b2.Re)) - (w64 (a1.Im * b2.Im)))) (w64 ((w64 (a1.Re * b2.Im)) + (w64 (a1.Im * b2.Re)))) (w64 (a1.Den * b2.Den))).bind fun t9 => some (t9.1, t9.2))))

noncomputable def cx_Sub.f (a1 : Cx) (b2 : Cx) : Option (Cx × Int) :=
  ((cx_check.f a1 b2).bind fun t6 => (if (!decide (t6 = 0)) = true then some ((⟨0, 0, 0⟩ : Cx), t6) else ((cx_reduced.f (w64 ((w64 (a1.Re * b2.Den)) - (w64 (b2.Re * a1.Den)))) (w64 ((w64 (a1.Im * b2.Den)) - (w64 (b2.Im * a1.Den)))) (w64 (a1.Den * b2.Den))).bind fun t9 => some (t9.1, t9.2))))

noncomputable def jones_Det.f (a1 : (A4 Cx)) : Option (Cx × Int) :=
  ((jones_valid.f a1).bind fun t4 => (if (!t4) = true then some ((⟨0, 0, 0⟩ : Cx), 8) else ((cx_Mul.f a1.e0 a1.e3).bind fun t7 => ((cx_Mul.f a1.e1 a1.e2).bind fun t10 => ((cmp_Or__api_Errno.f ([t7.2, t10.2] : List Int)).bind fun t14 => (if (!decide (t14 = 0)) = true then some ((⟨0, 0, 0⟩ : Cx), t14) else ((cx_Sub.f t7.1 t10.1).bind fun t17 => some (t17.1, t17.2))))))))

noncomputable def cx_Add.f (a1 : Cx) (b2 : Cx) : Option (Cx × Int) :=
  ((cx_check.f a1 b2).bind fun t6 => (if (!decide (t6 = 0)) = true then some ((⟨0, 0, 0⟩ : Cx), t6) else ((cx_reduced.f (w64 ((w64 (a1.Re * b2.Den)) + (w64 (b2.Re * a1.Den)))) (w64 ((w64 (a1.Im * b2.Den)) + (w64 (b2.Im * a1.Den)))) (w64 (a1.Den * b2.Den))).bind fun t9 => some (t9.1, t9.2))))

noncomputable def jones_Trace.f (a1 : (A4 Cx)) : Option (Cx × Int) :=
  ((jones_valid.f a1).bind fun t4 => (if (!t4) = true then some ((⟨0, 0, 0⟩ : Cx), 8) else ((cx_Add.f a1.e0 a1.e3).bind fun t7 => some (t7.1, t7.2))))

noncomputable def jones_adjoint.s1 (a14 : (A4 Cx)) (x15 : Int) : Option (St ((A4 Cx) × Int) (A4 Cx) (A4 Cx)) :=
  (if (decide (x15 < 4)) = true then (if 0 ≤ x15 ∧ x15 < 4 then (if 0 ≤ x15 ∧ x15 < 4 then lt' (A4.ofL (([a14.e0, a14.e1, a14.e2, a14.e3] : List Cx).set x15.toNat (⟨((ix ([a14.e0, a14.e1, a14.e2, a14.e3] : List Cx) x15).Re), (w64 (0 - (ix ([a14.e0, a14.e1, a14.e2, a14.e3] : List Cx) x15).Im)), ((ix ([a14.e0, a14.e1, a14.e2, a14.e3] : List Cx) x15).Den)⟩ : Cx))) fun arr28 => some (.next (arr28, w64 (x15 + 1))) else none) else none) else some (.brk a14))
noncomputable def jones_adjoint.k2 (a22 : (A4 Cx)) : Option (A4 Cx) :=
  some a22
noncomputable def jones_adjoint.f (a1 : (A4 Cx)) : Option (A4 Cx) :=
  ((iter (fun (s : ((A4 Cx) × Int)) => jones_adjoint.s1 s.1 s.2) ((⟨a1.e0, a1.e2, a1.e1, a1.e3⟩ : (A4 Cx)), 0)).bind fun o1 => fin o1 (fun (t : (A4 Cx)) => jones_adjoint.k2 t))

noncomputable def jones_Adjoint.f (a1 : (A4 Cx)) : Option ((A4 Cx) × Int) :=
  ((jones_valid.f a1).bind fun t4 => (if (!t4) = true then some ((⟨(⟨0, 0, 0⟩ : Cx), (⟨0, 0, 0⟩ : Cx), (⟨0, 0, 0⟩ : Cx), (⟨0, 0, 0⟩ : Cx)⟩ : (A4 Cx)), 8) else ((jones_adjoint.f a1).bind fun t7 => some (t7, 0))))

noncomputable def jones_zero.f (a1 : Cx) : Option Bool :=
  (if (decide (a1.Re = 0)) = true then some (decide (a1.Im = 0)) else some false)

noncomputable def cx_zero.f (a1 : Cx) : Option Bool :=
  (if (decide (a1.Re = 0)) = true then some (decide (a1.Im = 0)) else some false)

noncomputable def cx_Div_1.f (n1 : Int) (times2 : Int) : Option Bool :=
  (if ¬ times2 = 0 then (if (decide (n1 ≤ w64 (Int.tdiv 1000000000 times2))) = true then (if ¬ times2 = 0 then some (decide (w64 (0 - w64 (Int.tdiv 1000000000 times2)) ≤ n1)) else none) else some false) else none)

noncomputable def cx_Div.k1 (up39 : Int) (low40 : Int) (re47 : Int) (im48 : Int) (down49 : Int) (x58 : Bool) : Option (Cx × Int) :=
  (if x58 = true then some ((⟨0, 0, 0⟩ : Cx), 16) else some ((⟨(w64 (re47 * up39)), (w64 (im48 * up39)), (w64 (low40 * down49))⟩ : Cx), 0))
noncomputable def cx_Div.f (a1 : Cx) (b2 : Cx) : Option (Cx × Int) :=
  ((cx_check.f a1 b2).bind fun t6 => (if (!decide (t6 = 0)) = true then some ((⟨0, 0, 0⟩ : Cx), t6) else ((cx_zero.f b2).bind fun t9 => (if t9 = true then some ((⟨0, 0, 0⟩ : Cx), 18) else ((cx_zero.f a1).bind fun t12 => (if t12 = true then some (a1, 0) else lt' (w64 ((w64 (a1.Re * b2.Re)) + (w64 (a1.Im * b2.Im)))) fun re15 => lt' (w64 ((w64 (a1.Im * b2.Re)) - (w64 (a1.Re * b2.Im)))) fun im16 => lt' (w64 ((w64 (b2.Re * b2.Re)) + (w64 (b2.Im * b2.Im)))) fun low17 => ((cx_gcd.f ([re15, im16, low17] : List Int)).bind fun t19 => (if ¬ t19 = 0 then (if ¬ t19 = 0 then (if ¬ t19 = 0 then lt' (w64 (Int.tdiv re15 t19)) fun re24 => lt' (w64 (Int.tdiv im16 t19)) fun im25 => lt' (w64 (Int.tdiv low17 t19)) fun low26 => ((cx_gcd.f ([b2.Den, a1.Den] : List Int)).bind fun t28 => (if ¬ t28 = 0 then (if ¬ t28 = 0 then lt' (w64 (Int.tdiv b2.Den t28)) fun up32 => lt' (w64 (Int.tdiv a1.Den t28)) fun down33 => ((cx_gcd.f ([up32, low26] : List Int)).bind fun t35 => (if ¬ t35 = 0 then (if ¬ t35 = 0 then lt' (w64 (Int.tdiv up32 t35)) fun up39 => lt' (w64 (Int.tdiv low26 t35)) fun low40 => ((cx_gcd.f ([re24, im25, down33] : List Int)).bind fun t42 => (if ¬ t42 = 0 then (if ¬ t42 = 0 then (if ¬ t42 = 0 then lt' (w64 (Int.tdiv re24 t42)) fun re47 => lt' (w64 (Int.tdiv im25 t42)) fun im48 => lt' (w64 (Int.tdiv down33 t42)) fun down49 => ((cx_Div_1.f re47 up39).bind fun t60 => (if (!t60) = true then cx_Div.k1 up39 low40 re47 im48 down49 true else ((cx_Div_1.f im48 up39).bind fun t63 => (if (!t63) = true then cx_Div.k1 up39 low40 re47 im48 down49 true else ((cx_Div_1.f low40 down49).bind fun t66 => cx_Div.k1 up39 low40 re47 im48 down49 (!t66)))))) else none) else none) else none)) else none) else none)) else none) else none)) else none) else none) else none))))))))

noncomputable def jones_Inv.k10 (t4 : Cx × Int) (x85 : Int) (out176 : (A4 Cx)) : Option (St ((A4 Cx) × Int) (A4 Cx) ((A4 Cx) × Int)) :=
  (if 0 ≤ x85 ∧ x85 < 4 then ((cx_Div.f (ix ([out176.e0, out176.e1, out176.e2, out176.e3] : List Cx) x85) t4.1).bind fun t179 => (if 0 ≤ x85 ∧ x85 < 4 then lt' (A4.ofL (([out176.e0, out176.e1, out176.e2, out176.e3] : List Cx).set x85.toNat t179.1)) fun arr183 => (if (!decide (t179.2 = 0)) = true then some (.ret ((⟨(⟨0, 0, 0⟩ : Cx), (⟨0, 0, 0⟩ : Cx), (⟨0, 0, 0⟩ : Cx), (⟨0, 0, 0⟩ : Cx)⟩ : (A4 Cx)), t179.2)) else some (.next (arr183, w64 (x85 + 1)))) else none)) else none)
noncomputable def jones_Inv.k11 (t4 : Cx × Int) (out84 : (A4 Cx)) (x85 : Int) (x192 : Bool) : Option (St ((A4 Cx) × Int) (A4 Cx) ((A4 Cx) × Int)) :=
  (if x192 = true then (if 0 ≤ x85 ∧ x85 < 4 then (if 0 ≤ x85 ∧ x85 < 4 then (if 0 ≤ x85 ∧ x85 < 4 then lt' (A4.ofL (([out84.e0, out84.e1, out84.e2, out84.e3] : List Cx).set x85.toNat (⟨(w64 (0 - (ix ([out84.e0, out84.e1, out84.e2, out84.e3] : List Cx) x85).Re)), ((ix ([out84.e0, out84.e1, out84.e2, out84.e3] : List Cx) x85).Im), ((ix ([out84.e0, out84.e1, out84.e2, out84.e3] : List Cx) x85).Den)⟩ : Cx))) fun arr200 => (if 0 ≤ x85 ∧ x85 < 4 then lt' (A4.ofL (([arr200.e0, arr200.e1, arr200.e2, arr200.e3] : List Cx).set x85.toNat (⟨((ix ([arr200.e0, arr200.e1, arr200.e2, arr200.e3] : List Cx) x85).Re), (w64 (0 - (ix ([out84.e0, out84.e1, out84.e2, out84.e3] : List Cx) x85).Im)), ((ix ([arr200.e0, arr200.e1, arr200.e2, arr200.e3] : List Cx) x85).Den)⟩ : Cx))) fun arr203 => jones_Inv.k10 t4 x85 arr203 else none) else none) else none) else none) else jones_Inv.k10 t4 x85 out84)
noncomputable def jones_Inv.s7 (t4 : Cx × Int) (out84 : (A4 Cx)) (x85 : Int) : Option (St ((A4 Cx) × Int) (A4 Cx) ((A4 Cx) × Int)) :=
  (if (decide (x85 < 4)) = true then (if (decide (x85 = 1)) = true then jones_Inv.k11 t4 out84 x85 true else jones_Inv.k11 t4 out84 x85 (decide (x85 = 2))) else some (.brk out84))
noncomputable def jones_Inv.k8 (out150 : (A4 Cx)) : Option ((A4 Cx) × Int) :=
  some (out150, 0)
noncomputable def jones_Inv.f (a1 : (A4 Cx)) : Option ((A4 Cx) × Int) :=
  ((jones_Det.f a1).bind fun t4 => (if (!decide (t4.2 = 0)) = true then some ((⟨(⟨0, 0, 0⟩ : Cx), (⟨0, 0, 0⟩ : Cx), (⟨0, 0, 0⟩ : Cx), (⟨0, 0, 0⟩ : Cx)⟩ : (A4 Cx)), t4.2) else ((jones_zero.f t4.1).bind fun t8 => (if t8 = true then some ((⟨(⟨0, 0, 0⟩ : Cx), (⟨0, 0, 0⟩ : Cx), (⟨0, 0, 0⟩ : Cx), (⟨0, 0, 0⟩ : Cx)⟩ : (A4 Cx)), 18) else ((iter (fun (s : ((A4 Cx) × Int)) => jones_Inv.s7 t4 s.1 s.2) ((⟨a1.e3, a1.e1, a1.e2, a1.e0⟩ : (A4 Cx)), 0)).bind fun o1 => fin o1 (fun (t : (A4 Cx)) => jones_Inv.k8 t))))))

noncomputable def law33_whole.f (a1 : Int) (b2 : Int) (c3 : Int) (d4 : Int) : Option (A4 Cx) :=
  ((law33_of.f a1 0 1).bind fun t6 => ((law33_of.f b2 0 1).bind fun t8 => ((law33_of.f c3 0 1).bind fun t10 => ((law33_of.f d4 0 1).bind fun t12 => some (⟨t6, t8, t10, t12⟩ : (A4 Cx))))))

noncomputable def jones_table_1.f (a1 : (A4 Cx)) : Option Bool :=
  ((jones_valid.f a1).bind fun t3 => some (!t3))

noncomputable def slices_IndexFunc__api_Jones_api_Jones__jones_table_1.s1 (s1 : (List (A4 Cx))) (x23 : Int) : Option (St Int Unit Int) :=
  (if (decide (x23 < (s1.length : Int))) = true then (if 0 ≤ x23 ∧ x23 < (s1.length : Int) then ((jones_table_1.f (ix s1 x23)).bind fun t37 => (if t37 = true then some (.ret x23) else some (.next (w64 (x23 + 1))))) else none) else some (.brk ()))
noncomputable def slices_IndexFunc__api_Jones_api_Jones__jones_table_1.k2 : Option Int :=
  some (-1)
noncomputable def slices_IndexFunc__api_Jones_api_Jones__jones_table_1.f (s1 : (List (A4 Cx))) : Option Int :=
  ((iter (fun (s : Int) => slices_IndexFunc__api_Jones_api_Jones__jones_table_1.s1 s1 s) 0).bind fun o1 => fin o1 (fun (t : Unit) => slices_IndexFunc__api_Jones_api_Jones__jones_table_1.k2))

noncomputable def slices_ContainsFunc__api_Jones_api_Jones__jones_table_1.f (s1 : (List (A4 Cx))) : Option Bool :=
  ((slices_IndexFunc__api_Jones_api_Jones__jones_table_1.f s1).bind fun t5 => some (decide (0 ≤ t5)))

noncomputable def jones_table.s2 (t1 : (List (A4 Cx))) (x39 : Int) : Option (St Int Unit Int) :=
  (if (decide (x39 < (t1.length : Int))) = true then (if 0 ≤ x39 ∧ x39 < (t1.length : Int) then ((jones_Det.f (ix t1 x39)).bind fun t59 => (if (!decide (t59.2 = 0)) = true then some (.ret t59.2) else ((jones_zero.f t59.1).bind fun t63 => (if t63 = true then some (.ret 18) else some (.next (w64 (x39 + 1))))))) else none) else some (.brk ()))
noncomputable def jones_table.k3 : Option Int :=
  some 0
noncomputable def jones_table.k1 (t1 : (List (A4 Cx))) (x9 : Bool) : Option Int :=
  (if x9 = true then some 8 else ((iter (fun (s : Int) => jones_table.s2 t1 s) 0).bind fun o1 => fin o1 (fun (t : Unit) => jones_table.k3)))
noncomputable def jones_table.f (t1 : (List (A4 Cx))) : Option Int :=
  (if (decide (8 < (t1.length : Int))) = true then some 4 else (if (decide ((t1.length : Int) = 0)) = true then jones_table.k1 t1 true else ((slices_ContainsFunc__api_Jones_api_Jones__jones_table_1.f t1).bind fun t67 => jones_table.k1 t1 t67)))

noncomputable def jones_seen_1.f (p1 : Pol) (v2 : Int) : Option Bool :=
  (if (decide (p1.I < 0)) = true then some true else (if (decide (p1.J ≤ p1.I)) = true then some true else (if (decide (v2 ≤ p1.J)) = true then some true else (if (decide (p1.N < 0)) = true then some true else ((jones_valid.f p1.V).bind fun t9 => some (!t9))))))

noncomputable def slices_IndexFunc__api_Pol_api_Pol__jones_seen_1.s1 (s1 : (List Pol)) (v5 : Int) (x25 : Int) : Option (St Int Unit Int) :=
  (if (decide (x25 < (s1.length : Int))) = true then (if 0 ≤ x25 ∧ x25 < (s1.length : Int) then ((jones_seen_1.f (ix s1 x25) v5).bind fun t39 => (if t39 = true then some (.ret x25) else some (.next (w64 (x25 + 1))))) else none) else some (.brk ()))
noncomputable def slices_IndexFunc__api_Pol_api_Pol__jones_seen_1.k2 : Option Int :=
  some (-1)
noncomputable def slices_IndexFunc__api_Pol_api_Pol__jones_seen_1.f (s1 : (List Pol)) (v5 : Int) : Option Int :=
  ((iter (fun (s : Int) => slices_IndexFunc__api_Pol_api_Pol__jones_seen_1.s1 s1 v5 s) 0).bind fun o1 => fin o1 (fun (t : Unit) => slices_IndexFunc__api_Pol_api_Pol__jones_seen_1.k2))

noncomputable def slices_ContainsFunc__api_Pol_api_Pol__jones_seen_1.f (s1 : (List Pol)) (v5 : Int) : Option Bool :=
  ((slices_IndexFunc__api_Pol_api_Pol__jones_seen_1.f s1 v5).bind fun t7 => some (decide (0 ≤ t7)))

noncomputable def jones_seen.f (l1 : (List Pol)) (n5 : Int) : Option Int :=
  (if (decide (64 < (l1.length : Int))) = true then some 4 else ((slices_ContainsFunc__api_Pol_api_Pol__jones_seen_1.f l1 n5).bind fun t8 => (if t8 = true then some 8 else some 0)))

noncomputable def jones_Mul.k11 (out157 : (A4 Cx)) (x158 : Int) (x271 : Cx) (e272 : Int) (y292 : Cx) (f293 : Int) : Option (St ((A4 Cx) × Int) (A4 Cx) ((A4 Cx) × Int)) :=
  ((cmp_Or__api_Errno.f ([e272, f293] : List Int)).bind fun t295 => (if (!decide (t295 = 0)) = true then some (.ret ((⟨(⟨0, 0, 0⟩ : Cx), (⟨0, 0, 0⟩ : Cx), (⟨0, 0, 0⟩ : Cx), (⟨0, 0, 0⟩ : Cx)⟩ : (A4 Cx)), t295)) else ((cx_Add.f x271 y292).bind fun t298 => (if 0 ≤ x158 ∧ x158 < 4 then lt' (A4.ofL (([out157.e0, out157.e1, out157.e2, out157.e3] : List Cx).set x158.toNat t298.1)) fun arr302 => (if (!decide (t298.2 = 0)) = true then some (.ret ((⟨(⟨0, 0, 0⟩ : Cx), (⟨0, 0, 0⟩ : Cx), (⟨0, 0, 0⟩ : Cx), (⟨0, 0, 0⟩ : Cx)⟩ : (A4 Cx)), t298.2)) else some (.next (arr302, w64 (x158 + 1)))) else none))))
noncomputable def jones_Mul.k10 (a1 : (A4 Cx)) (b2 : (A4 Cx)) (out157 : (A4 Cx)) (x158 : Int) (row250 : Int) (column251 : Int) (x271 : Cx) (e272 : Int) : Option (St ((A4 Cx) × Int) (A4 Cx) ((A4 Cx) × Int)) :=
  (if 0 ≤ w64 (row250 + 1) ∧ w64 (row250 + 1) < 4 then (if 0 ≤ w64 (column251 + 2) ∧ w64 (column251 + 2) < 4 then ((cx_Mul.f (ix ([a1.e0, a1.e1, a1.e2, a1.e3] : List Cx) (w64 (row250 + 1))) (ix ([b2.e0, b2.e1, b2.e2, b2.e3] : List Cx) (w64 (column251 + 2)))).bind fun t308 => jones_Mul.k11 out157 x158 x271 e272 t308.1 t308.2) else none) else none)
noncomputable def jones_Mul.s8 (a1 : (A4 Cx)) (b2 : (A4 Cx)) (out157 : (A4 Cx)) (x158 : Int) : Option (St ((A4 Cx) × Int) (A4 Cx) ((A4 Cx) × Int)) :=
  (if (decide (x158 < 4)) = true then lt' (w64 ((w64 (Int.tdiv x158 2)) * 2)) fun row250 => lt' (Int.tmod x158 2) fun column251 => (if 0 ≤ row250 ∧ row250 < 4 then (if 0 ≤ column251 ∧ column251 < 4 then ((cx_Mul.f (ix ([a1.e0, a1.e1, a1.e2, a1.e3] : List Cx) row250) (ix ([b2.e0, b2.e1, b2.e2, b2.e3] : List Cx) column251)).bind fun t325 => jones_Mul.k10 a1 b2 out157 x158 row250 column251 t325.1 t325.2) else none) else none) else some (.brk out157))
noncomputable def jones_Mul.k9 (out248 : (A4 Cx)) : Option ((A4 Cx) × Int) :=
  some (out248, 0)
noncomputable def jones_Mul.k1 (a1 : (A4 Cx)) (b2 : (A4 Cx)) (x11 : Bool) : Option ((A4 Cx) × Int) :=
  (if x11 = true then some ((⟨(⟨0, 0, 0⟩ : Cx), (⟨0, 0, 0⟩ : Cx), (⟨0, 0, 0⟩ : Cx), (⟨0, 0, 0⟩ : Cx)⟩ : (A4 Cx)), 8) else ((iter (fun (s : ((A4 Cx) × Int)) => jones_Mul.s8 a1 b2 s.1 s.2) ((⟨(⟨0, 0, 0⟩ : Cx), (⟨0, 0, 0⟩ : Cx), (⟨0, 0, 0⟩ : Cx), (⟨0, 0, 0⟩ : Cx)⟩ : (A4 Cx)), 0)).bind fun o1 => fin o1 (fun (t : (A4 Cx)) => jones_Mul.k9 t)))
noncomputable def jones_Mul.f (a1 : (A4 Cx)) (b2 : (A4 Cx)) : Option ((A4 Cx) × Int) :=
  ((jones_valid.f a1).bind fun t338 => (if (!t338) = true then jones_Mul.k1 a1 b2 true else ((jones_valid.f b2).bind fun t341 => jones_Mul.k1 a1 b2 (!t341))))

noncomputable def jones_product.s1 (l1 : (List (A4 Cx))) (out39 : (A4 Cx)) (x40 : Int) : Option (St ((A4 Cx) × Int) (A4 Cx) ((A4 Cx) × Int)) :=
  (if (decide (x40 < (((l1.take l1.length).drop ((1 : Int).toNat)).length : Int))) = true then (if 0 ≤ x40 ∧ x40 < (((l1.take l1.length).drop ((1 : Int).toNat)).length : Int) then ((jones_Mul.f out39 (ix ((l1.take l1.length).drop ((1 : Int).toNat)) x40)).bind fun t57 => (if (!decide (t57.2 = 0)) = true then some (.ret ((⟨(⟨0, 0, 0⟩ : Cx), (⟨0, 0, 0⟩ : Cx), (⟨0, 0, 0⟩ : Cx), (⟨0, 0, 0⟩ : Cx)⟩ : (A4 Cx)), t57.2)) else some (.next (t57.1, w64 (x40 + 1))))) else none) else some (.brk out39))
noncomputable def jones_product.k2 (out50 : (A4 Cx)) : Option ((A4 Cx) × Int) :=
  some (out50, 0)
noncomputable def jones_product.f (l1 : (List (A4 Cx))) : Option ((A4 Cx) × Int) :=
  (if (0 : Int) ≤ 0 ∧ 0 < (l1.length : Int) then (if (0 : Int) ≤ 1 ∧ 1 ≤ (l1.length : Int) then ((iter (fun (s : ((A4 Cx) × Int)) => jones_product.s1 l1 s.1 s.2) ((ix l1 0), 0)).bind fun o1 => fin o1 (fun (t : (A4 Cx)) => jones_product.k2 t)) else none) else none)

noncomputable def jones_Act.k6 (l5 : (List Pol)) (out234 : List Pol) (x241 : Int) (v398 : (A4 Cx)) (e399 : Int) : Option (St ((List Pol) × Int) (List Pol) ((List Pol) × Int)) :=
  (if (!decide (e399 = 0)) = true then some (.ret ([], e399)) else (if out234.length + ([(⟨((ix l5 x241).I), ((ix l5 x241).J), v398, ((ix l5 x241).N)⟩ : Pol)] : List Pol).length ≤ 1172812402961 then some (.next ((out234 ++ ([(⟨((ix l5 x241).I), ((ix l5 x241).J), v398, ((ix l5 x241).N)⟩ : Pol)] : List Pol)), w64 (x241 + 1))) else none))
noncomputable def jones_Act.s4 (t1 : (List (A4 Cx))) (l5 : (List Pol)) (out234 : List Pol) (x241 : Int) : Option (St ((List Pol) × Int) (List Pol) ((List Pol) × Int)) :=
  (if (decide (x241 < (l5.length : Int))) = true then (if 0 ≤ x241 ∧ x241 < (l5.length : Int) then (if 0 ≤ (ix l5 x241).I ∧ (ix l5 x241).I < (t1.length : Int) then (if 0 ≤ (ix l5 x241).J ∧ (ix l5 x241).J < (t1.length : Int) then ((jones_adjoint.f (ix t1 ((ix l5 x241).J))).bind fun t413 => ((jones_product.f ([(ix t1 ((ix l5 x241).I)), (ix l5 x241).V, t413] : List (A4 Cx))).bind fun t416 => jones_Act.k6 l5 out234 x241 t416.1 t416.2)) else none) else none) else none) else some (.brk out234))
noncomputable def jones_Act.k5 (out343 : List Pol) : Option ((List Pol) × Int) :=
  some (out343, 0)
noncomputable def jones_Act.f (t1 : (List (A4 Cx))) (l5 : (List Pol)) : Option ((List Pol) × Int) :=
  ((jones_table.f t1).bind fun t9 => (if (!decide (t9 = 0)) = true then some ([], t9) else ((jones_seen.f l5 (t1.length : Int)).bind fun t12 => (if (!decide (t12 = 0)) = true then some ([], t12) else ((iter (fun (s : ((List Pol) × Int)) => jones_Act.s4 t1 l5 s.1 s.2) ([], 0)).bind fun o1 => fin o1 (fun (t : List Pol) => jones_Act.k5 t))))))

noncomputable def ref33_Same.s1 (a1 : (List Pol)) (b5 : (List Pol)) (i32 : Int) : Option (St Int Unit Bool) :=
  (if (decide (i32 < (a1.length : Int))) = true then (if 0 ≤ i32 ∧ i32 < (a1.length : Int) then (if 0 ≤ i32 ∧ i32 < (b5.length : Int) then (if (!decide ((ix a1 i32) = (ix b5 i32))) = true then some (.ret false) else some (.next (w64 (i32 + 1)))) else none) else none) else some (.brk ()))
noncomputable def ref33_Same.k2 : Option Bool :=
  some true
noncomputable def ref33_Same.f (a1 : (List Pol)) (b5 : (List Pol)) : Option Bool :=
  (if (!decide ((a1.length : Int) = (b5.length : Int))) = true then some false else ((iter (fun (s : Int) => ref33_Same.s1 a1 b5 s) 0).bind fun o1 => fin o1 (fun (t : Unit) => ref33_Same.k2)))

noncomputable def law33_alive.f : Option Bool :=
  ((law33_example.f).bind fun t1 => ((jones_Det.f t1).bind fun t3 => ((law33_example.f).bind fun t6 => ((jones_Trace.f t6).bind fun t8 => ((law33_example.f).bind fun t11 => ((jones_Adjoint.f t11).bind fun t13 => ((law33_example.f).bind fun t16 => ((jones_Inv.f t16).bind fun t18 => ((law33_whole.f 0 1 1 0).bind fun t21 => ((law33_whole.f 1 0 0 1).bind fun t23 => ((law33_whole.f 1 2 3 4).bind fun t26 => ((jones_Act.f ([t21, t23] : List (A4 Cx)) ([(⟨0, 1, t26, 2⟩ : Pol)] : List Pol)).bind fun t29 => (if (decide (t3.2 = 0)) = true then ((law33_of.f 2 0 1).bind fun t35 => (if (decide (t3.1 = t35)) = true then (if (decide (t8.2 = 0)) = true then ((law33_of.f 3 0 1).bind fun t39 => (if (decide (t8.1 = t39)) = true then (if (decide (t13.2 = 0)) = true then ((law33_of.f 1 0 1).bind fun t43 => ((law33_of.f 0 0 1).bind fun t45 => ((law33_of.f 0 (-1) 1).bind fun t47 => ((law33_of.f 2 0 1).bind fun t49 => (if (decide (t13.1 = (⟨t43, t45, t47, t49⟩ : (A4 Cx)))) = true then (if (decide (t18.2 = 0)) = true then ((law33_of.f 1 0 1).bind fun t53 => ((law33_of.f 0 (-1) 2).bind fun t55 => ((law33_of.f 0 0 1).bind fun t57 => ((law33_of.f 1 0 2).bind fun t59 => (if (decide (t18.1 = (⟨t53, t55, t57, t59⟩ : (A4 Cx)))) = true then (if (decide (t29.2 = 0)) = true then ((law33_whole.f 3 4 1 2).bind fun t63 => ((ref33_Same.f t29.1 ([(⟨0, 1, t63, 2⟩ : Pol)] : List Pol)).bind fun t66 => some t66)) else some false) else some false))))) else some false) else some false))))) else some false) else some false)) else some false) else some false)) else some false)))))))))))))

noncomputable def ref25_Gcd.s1 (a13 : Int) (b14 : Int) : Option (St (Int × Int) Int Int) :=
  (if (!decide (b14 = 0)) = true then (if ¬ b14 = 0 then lt' (Int.tmod a13 b14) fun b21 => some (.next (b14, b21)) else none) else some (.brk a13))
noncomputable def ref25_Gcd.k2 (a18 : Int) : Option Int :=
  some a18
noncomputable def ref25_Gcd.f (a1 : Int) (b2 : Int) : Option Int :=
  lt' (gmax a1 (w64 (0 - a1))) fun a3 => lt' (gmax b2 (w64 (0 - b2))) fun b4 => ((iter (fun (s : (Int × Int)) => ref25_Gcd.s1 s.1 s.2) (a3, b4)).bind fun o1 => fin o1 (fun (t : Int) => ref25_Gcd.k2 t))

noncomputable def ref25_Check.k1 (x13 : Bool) : Option Int :=
  (if x13 = true then some 8 else some 0)
noncomputable def ref25_Check.f (a1 : Cx) : Option Int :=
  (if (decide (a1.Den < 1)) = true then ref25_Check.k1 true else (if (decide (1000000000 < a1.Den)) = true then ref25_Check.k1 true else (if (decide (a1.Re < (-1000000000))) = true then ref25_Check.k1 true else (if (decide (1000000000 < a1.Re)) = true then ref25_Check.k1 true else (if (decide (a1.Im < (-1000000000))) = true then ref25_Check.k1 true else (if (decide (1000000000 < a1.Im)) = true then ref25_Check.k1 true else ((ref25_Gcd.f a1.Re a1.Im).bind fun t21 => ((ref25_Gcd.f t21 a1.Den).bind fun t23 => ref25_Check.k1 (!decide (t23 = 1))))))))))

noncomputable def ref33_Valid.s1 (a1 : (A4 Cx)) (k14 : Int) : Option (St Int Unit Bool) :=
  (if (decide (k14 < 4)) = true then (if 0 ≤ k14 ∧ k14 < 4 then ((ref25_Check.f (ix ([a1.e0, a1.e1, a1.e2, a1.e3] : List Cx) k14)).bind fun t24 => (if (!decide (t24 = 0)) = true then some (.ret false) else some (.next (w64 (k14 + 1))))) else none) else some (.brk ()))
noncomputable def ref33_Valid.k2 : Option Bool :=
  some true
noncomputable def ref33_Valid.f (a1 : (A4 Cx)) : Option Bool :=
  ((iter (fun (s : Int) => ref33_Valid.s1 a1 s) 0).bind fun o1 => fin o1 (fun (t : Unit) => ref33_Valid.k2))

noncomputable def ref25_Both.k1 (x10 : Bool) : Option Int :=
  (if x10 = true then some 8 else some 0)
noncomputable def ref25_Both.f (a1 : Cx) (b2 : Cx) : Option Int :=
  ((ref25_Check.f a1).bind fun t12 => (if (!decide (t12 = 0)) = true then ref25_Both.k1 true else ((ref25_Check.f b2).bind fun t15 => ref25_Both.k1 (!decide (t15 = 0)))))

noncomputable def ref25_made.k1 (re1 : Int) (im2 : Int) (den3 : Int) (g11 : Int) : Option (Cx × Int) :=
  (if ¬ g11 = 0 then (if ¬ g11 = 0 then (if ¬ g11 = 0 then ((ref25_Check.f (⟨(w64 (Int.tdiv re1 g11)), (w64 (Int.tdiv im2 g11)), (w64 (Int.tdiv den3 g11))⟩ : Cx)).bind fun t16 => (if (!decide (t16 = 0)) = true then some ((⟨0, 0, 0⟩ : Cx), 16) else some ((⟨(w64 (Int.tdiv re1 g11)), (w64 (Int.tdiv im2 g11)), (w64 (Int.tdiv den3 g11))⟩ : Cx), 0))) else none) else none) else none)
noncomputable def ref25_made.f (re1 : Int) (im2 : Int) (den3 : Int) : Option (Cx × Int) :=
  (if (decide (den3 = 0)) = true then some ((⟨0, 0, 0⟩ : Cx), 18) else ((ref25_Gcd.f re1 im2).bind fun t6 => ((ref25_Gcd.f t6 den3).bind fun t8 => (if (decide (den3 < 0)) = true then ref25_made.k1 re1 im2 den3 (w64 (0 - t8)) else ref25_made.k1 re1 im2 den3 t8))))

noncomputable def ref25_Mul.f (a1 : Cx) (b2 : Cx) : Option (Cx × Int) :=
  ((ref25_Both.f a1 b2).bind fun t6 => (if (!decide (t6 = 0)) = true then some ((⟨0, 0, 0⟩ : Cx), 8) else ((ref25_made.f (w64 ((w64 (a1.Re * b2.Re)) - (w64 (a1.Im * b2.Im)))) (w64 ((w64 (a1.Re * b2.Im)) + (w64 (a1.Im * b2.Re)))) (w64 (a1.Den * b2.Den))).bind fun t9 => some (t9.1, t9.2))))

noncomputable def ref25_Neg.f (a1 : Cx) : Option Cx :=
  some (⟨(w64 (0 - a1.Re)), (w64 (0 - a1.Im)), a1.Den⟩ : Cx)

noncomputable def ref25_Add.f (a1 : Cx) (b2 : Cx) : Option (Cx × Int) :=
  ((ref25_Both.f a1 b2).bind fun t6 => (if (!decide (t6 = 0)) = true then some ((⟨0, 0, 0⟩ : Cx), 8) else ((ref25_made.f (w64 ((w64 (a1.Re * b2.Den)) + (w64 (b2.Re * a1.Den)))) (w64 ((w64 (a1.Im * b2.Den)) + (w64 (b2.Im * a1.Den)))) (w64 (a1.Den * b2.Den))).bind fun t9 => some (t9.1, t9.2))))

noncomputable def ref25_Sub.f (a1 : Cx) (b2 : Cx) : Option (Cx × Int) :=
  ((ref25_Both.f a1 b2).bind fun t6 => (if (!decide (t6 = 0)) = true then some ((⟨0, 0, 0⟩ : Cx), 8) else ((ref25_Neg.f b2).bind fun t9 => ((ref25_Add.f a1 t9).bind fun t11 => some (t11.1, t11.2)))))

noncomputable def ref33_Det.k1 (t7 : Cx × Int) (t10 : Cx × Int) (x14 : Bool) : Option (Cx × Int) :=
  (if x14 = true then some ((⟨0, 0, 0⟩ : Cx), 16) else ((ref25_Sub.f t7.1 t10.1).bind fun t16 => (if (!decide (t16.2 = 0)) = true then some ((⟨0, 0, 0⟩ : Cx), 16) else some (t16.1, 0))))
noncomputable def ref33_Det.f (a1 : (A4 Cx)) : Option (Cx × Int) :=
  ((ref33_Valid.f a1).bind fun t4 => (if (!t4) = true then some ((⟨0, 0, 0⟩ : Cx), 8) else ((ref25_Mul.f a1.e0 a1.e3).bind fun t7 => ((ref25_Mul.f a1.e1 a1.e2).bind fun t10 => (if (!decide (t7.2 = 0)) = true then ref33_Det.k1 t7 t10 true else ref33_Det.k1 t7 t10 (!decide (t10.2 = 0)))))))

noncomputable def ref25_Zero.f (a1 : Cx) : Option Bool :=
  (if (decide (a1.Re = 0)) = true then some (decide (a1.Im = 0)) else some false)

noncomputable def ref33_Table.s3 (t1 : (List (A4 Cx))) (i60 : Int) : Option (St Int Unit Int) :=
  (if (decide (i60 < (t1.length : Int))) = true then (if 0 ≤ i60 ∧ i60 < (t1.length : Int) then ((ref33_Det.f (ix t1 i60)).bind fun t78 => (if (!decide (t78.2 = 0)) = true then some (.ret t78.2) else ((ref25_Zero.f t78.1).bind fun t82 => (if t82 = true then some (.ret 18) else some (.next (w64 (i60 + 1))))))) else none) else some (.brk ()))
noncomputable def ref33_Table.k4 : Option Int :=
  some 0
noncomputable def ref33_Table.s1 (t1 : (List (A4 Cx))) (i24 : Int) : Option (St Int Unit Int) :=
  (if (decide (i24 < (t1.length : Int))) = true then (if 0 ≤ i24 ∧ i24 < (t1.length : Int) then ((ref33_Valid.f (ix t1 i24)).bind fun t90 => (if (!t90) = true then some (.ret 8) else some (.next (w64 (i24 + 1))))) else none) else some (.brk ()))
noncomputable def ref33_Table.k2 (t1 : (List (A4 Cx))) : Option Int :=
  (if (decide ((t1.length : Int) = 0)) = true then some 8 else ((iter (fun (s : Int) => ref33_Table.s3 t1 s) 0).bind fun o1 => fin o1 (fun (t : Unit) => ref33_Table.k4)))
noncomputable def ref33_Table.f (t1 : (List (A4 Cx))) : Option Int :=
  (if (decide (8 < (t1.length : Int))) = true then some 4 else ((iter (fun (s : Int) => ref33_Table.s1 t1 s) 0).bind fun o1 => fin o1 (fun (t : Unit) => ref33_Table.k2 t1)))

noncomputable def ref33_Seen.f (p1 : Pol) (n2 : Int) : Option Bool :=
  (if (decide (0 ≤ p1.I)) = true then (if (decide (p1.I < p1.J)) = true then (if (decide (p1.J < n2)) = true then (if (decide (0 ≤ p1.N)) = true then ((ref33_Valid.f p1.V).bind fun t8 => some t8) else some false) else some false) else some false) else some false)

noncomputable def ref33_All.s1 (l1 : (List Pol)) (n5 : Int) (i25 : Int) : Option (St Int Unit Int) :=
  (if (decide (i25 < (l1.length : Int))) = true then (if 0 ≤ i25 ∧ i25 < (l1.length : Int) then ((ref33_Seen.f (ix l1 i25) n5).bind fun t39 => (if (!t39) = true then some (.ret 8) else some (.next (w64 (i25 + 1))))) else none) else some (.brk ()))
noncomputable def ref33_All.k2 : Option Int :=
  some 0
noncomputable def ref33_All.f (l1 : (List Pol)) (n5 : Int) : Option Int :=
  (if (decide (64 < (l1.length : Int))) = true then some 4 else ((iter (fun (s : Int) => ref33_All.s1 l1 n5 s) 0).bind fun o1 => fin o1 (fun (t : Unit) => ref33_All.k2)))

noncomputable def ref33_Check.k22 (k393 : Int) (x449 : Bool) : Option (St Int Unit (St Int Unit Int)) :=
  (if x449 = true then some (.ret (.ret 14)) else some (.next (w64 (k393 + 1))))
noncomputable def ref33_Check.s20 (l1 : (List Pol)) (i163 : Int) (k393 : Int) : Option (St Int Unit (St Int Unit Int)) :=
  (if (decide (k393 < i163)) = true then (if 0 ≤ i163 ∧ i163 < (l1.length : Int) then (if 0 ≤ k393 ∧ k393 < (l1.length : Int) then (if (decide ((ix l1 i163).I = (ix l1 k393).I)) = true then ref33_Check.k22 k393 (decide ((ix l1 i163).J = (ix l1 k393).J)) else ref33_Check.k22 k393 false) else none) else none) else some (.brk ()))
noncomputable def ref33_Check.k21 (i163 : Int) : Option (St Int Unit Int) :=
  some (.next (w64 (i163 + 1)))
noncomputable def ref33_Check.s15 (l1 : (List Pol)) (i163 : Int) : Option (St Int Unit Int) :=
  (if (decide (i163 < (l1.length : Int))) = true then ((iter (fun (s : Int) => ref33_Check.s20 l1 i163 s) 0).bind fun o2 => fin o2 (fun (t : Unit) => ref33_Check.k21 i163)) else some (.brk ()))
noncomputable def ref33_Check.k16 : Option Int :=
  some 0
noncomputable def ref33_Check.f (l1 : (List Pol)) : Option Int :=
  ((ref33_All.f l1 8).bind fun t5 => (if (!decide (t5 = 0)) = true then some t5 else ((iter (fun (s : Int) => ref33_Check.s15 l1 s) 0).bind fun o1 => fin o1 (fun (t : Unit) => ref33_Check.k16))))

noncomputable def ref27_Station.f (i1 : Int) : Option Bool :=
  (if (decide (0 ≤ i1)) = true then some (decide (i1 < 8)) else some false)

noncomputable def ref27_Apart.s9 (l1 : (List Int)) (i75 : Int) (k157 : Int) : Option (St Int Unit (St Int Unit Bool)) :=
  (if (decide (k157 < i75)) = true then (if 0 ≤ k157 ∧ k157 < (l1.length : Int) then (if 0 ≤ i75 ∧ i75 < (l1.length : Int) then (if (decide ((ix l1 k157) = (ix l1 i75))) = true then some (.ret (.ret false)) else some (.next (w64 (k157 + 1)))) else none) else none) else some (.brk ()))
noncomputable def ref27_Apart.k10 (i75 : Int) : Option (St Int Unit Bool) :=
  some (.next (w64 (i75 + 1)))
noncomputable def ref27_Apart.s7 (l1 : (List Int)) (i75 : Int) : Option (St Int Unit Bool) :=
  (if (decide (i75 < (l1.length : Int))) = true then (if 0 ≤ i75 ∧ i75 < (l1.length : Int) then ((ref27_Station.f (ix l1 i75)).bind fun t132 => (if (!t132) = true then some (.ret false) else ((iter (fun (s : Int) => ref27_Apart.s9 l1 i75 s) 0).bind fun o2 => fin o2 (fun (t : Unit) => ref27_Apart.k10 i75)))) else none) else some (.brk ()))
noncomputable def ref27_Apart.k8 : Option Bool :=
  some true
noncomputable def ref27_Apart.f (l1 : (List Int)) : Option Bool :=
  ((iter (fun (s : Int) => ref27_Apart.s7 l1 s) 0).bind fun o1 => fin o1 (fun (t : Unit) => ref27_Apart.k8))

noncomputable def jones_Loop.k4 (a5 : Int) (b6 : Int) (c7 : Int) (d8 : Int) (m62 : List ((A2 Int) × (A4 Cx))) (x89 : Bool) : Option ((A4 Cx) × Int) :=
  (if x89 = true then some ((⟨(⟨0, 0, 0⟩ : Cx), (⟨0, 0, 0⟩ : Cx), (⟨0, 0, 0⟩ : Cx), (⟨0, 0, 0⟩ : Cx)⟩ : (A4 Cx)), 6) else ((jones_Inv.f (mgetD m62 (⟨c7, b6⟩ : (A2 Int)) (⟨(⟨0, 0, 0⟩ : Cx), (⟨0, 0, 0⟩ : Cx), (⟨0, 0, 0⟩ : Cx), (⟨0, 0, 0⟩ : Cx)⟩ : (A4 Cx)))).bind fun t91 => (if (!decide (t91.2 = 0)) = true then some ((⟨(⟨0, 0, 0⟩ : Cx), (⟨0, 0, 0⟩ : Cx), (⟨0, 0, 0⟩ : Cx), (⟨0, 0, 0⟩ : Cx)⟩ : (A4 Cx)), t91.2) else ((jones_Inv.f (mgetD m62 (⟨a5, d8⟩ : (A2 Int)) (⟨(⟨0, 0, 0⟩ : Cx), (⟨0, 0, 0⟩ : Cx), (⟨0, 0, 0⟩ : Cx), (⟨0, 0, 0⟩ : Cx)⟩ : (A4 Cx)))).bind fun t95 => (if (!decide (t95.2 = 0)) = true then some ((⟨(⟨0, 0, 0⟩ : Cx), (⟨0, 0, 0⟩ : Cx), (⟨0, 0, 0⟩ : Cx), (⟨0, 0, 0⟩ : Cx)⟩ : (A4 Cx)), t95.2) else ((jones_product.f ([(mgetD m62 (⟨a5, b6⟩ : (A2 Int)) (⟨(⟨0, 0, 0⟩ : Cx), (⟨0, 0, 0⟩ : Cx), (⟨0, 0, 0⟩ : Cx), (⟨0, 0, 0⟩ : Cx)⟩ : (A4 Cx))), t91.1, (mgetD m62 (⟨c7, d8⟩ : (A2 Int)) (⟨(⟨0, 0, 0⟩ : Cx), (⟨0, 0, 0⟩ : Cx), (⟨0, 0, 0⟩ : Cx), (⟨0, 0, 0⟩ : Cx)⟩ : (A4 Cx))), t95.1] : List (A4 Cx))).bind fun t100 => some (t100.1, t100.2)))))))
noncomputable def jones_Loop.k3 (a5 : Int) (b6 : Int) (c7 : Int) (d8 : Int) (m62 : List ((A2 Int) × (A4 Cx))) (x80 : Bool) : Option ((A4 Cx) × Int) :=
  (if x80 = true then some ((⟨(⟨0, 0, 0⟩ : Cx), (⟨0, 0, 0⟩ : Cx), (⟨0, 0, 0⟩ : Cx), (⟨0, 0, 0⟩ : Cx)⟩ : (A4 Cx)), 2) else (if (!(mhas m62 (⟨a5, b6⟩ : (A2 Int)))) = true then jones_Loop.k4 a5 b6 c7 d8 m62 true else (if (!(mhas m62 (⟨c7, b6⟩ : (A2 Int)))) = true then jones_Loop.k4 a5 b6 c7 d8 m62 true else (if (!(mhas m62 (⟨c7, d8⟩ : (A2 Int)))) = true then jones_Loop.k4 a5 b6 c7 d8 m62 true else jones_Loop.k4 a5 b6 c7 d8 m62 (!(mhas m62 (⟨a5, d8⟩ : (A2 Int))))))))
noncomputable def jones_Loop.s1 (l1 : (List Pol)) (m46 : List ((A2 Int) × (A4 Cx))) (x47 : Int) : Option (St ((List ((A2 Int) × (A4 Cx))) × Int) (List ((A2 Int) × (A4 Cx))) ((A4 Cx) × Int)) :=
  (if (decide (x47 < (l1.length : Int))) = true then (if 0 ≤ x47 ∧ x47 < (l1.length : Int) then ((jones_adjoint.f ((ix l1 x47).V)).bind fun t124 => lt' (mput m46 (⟨((ix l1 x47).I), ((ix l1 x47).J)⟩ : (A2 Int)) ((ix l1 x47).V)) fun m126 => lt' (mput m126 (⟨((ix l1 x47).J), ((ix l1 x47).I)⟩ : (A2 Int)) t124) fun m127 => some (.next (m127, w64 (x47 + 1)))) else none) else some (.brk m46))
noncomputable def jones_Loop.k2 (l1 : (List Pol)) (a5 : Int) (b6 : Int) (c7 : Int) (d8 : Int) (m62 : List ((A2 Int) × (A4 Cx))) : Option ((A4 Cx) × Int) :=
  (if (decide ((m62.length : Int) < w64 (2 * (l1.length : Int)))) = true then some ((⟨(⟨0, 0, 0⟩ : Cx), (⟨0, 0, 0⟩ : Cx), (⟨0, 0, 0⟩ : Cx), (⟨0, 0, 0⟩ : Cx)⟩ : (A4 Cx)), 14) else (if ([a5, b6, c7, d8] : List Int).length ≤ 4611686018427387903 then lt' (sortI ([a5, b6, c7, d8] : List Int)) fun l65 => (if (0 : Int) ≤ 0 ∧ 0 < (l65.length : Int) then (if (decide ((ix l65 0) < 0)) = true then jones_Loop.k3 a5 b6 c7 d8 m62 true else (if (0 : Int) ≤ 3 ∧ 3 < (l65.length : Int) then (if (decide (8 ≤ (ix l65 3))) = true then jones_Loop.k3 a5 b6 c7 d8 m62 true else (if l65.length ≤ 4611686018427387903 then lt' (Lib.compact l65) fun l115 => jones_Loop.k3 a5 b6 c7 d8 m62 (decide ((l115.length : Int) < 4)) else none)) else none)) else none) else none))
noncomputable def jones_Loop.f (l1 : (List Pol)) (a5 : Int) (b6 : Int) (c7 : Int) (d8 : Int) : Option ((A4 Cx) × Int) :=
  ((jones_seen.f l1 8).bind fun t10 => (if (!decide (t10 = 0)) = true then some ((⟨(⟨0, 0, 0⟩ : Cx), (⟨0, 0, 0⟩ : Cx), (⟨0, 0, 0⟩ : Cx), (⟨0, 0, 0⟩ : Cx)⟩ : (A4 Cx)), t10) else ((iter (fun (s : ((List ((A2 Int) × (A4 Cx))) × Int)) => jones_Loop.s1 l1 s.1 s.2) (([] : List ((A2 Int) × (A4 Cx))), 0)).bind fun o1 => fin o1 (fun (t : List ((A2 Int) × (A4 Cx))) => jones_Loop.k2 l1 a5 b6 c7 d8 t))))

noncomputable def law33_JonesLoops.k5 (t13 : Bool) (u88 : (A4 Cx)) (n89 : Int) (v111 : (A4 Cx)) (o112 : Int) : Option Bool :=
  (if t13 = true then (if (!decide (n89 = 0)) = true then some true else (if (!decide (o112 = 0)) = true then some true else some (decide (u88 = v111)))) else some false)
noncomputable def law33_JonesLoops.k4 (t1 : (List (A4 Cx))) (a9 : Int) (t13 : Bool) (t33 : (A4 Cx) × Int) (u88 : (A4 Cx)) (n89 : Int) : Option Bool :=
  (if 0 ≤ a9 ∧ a9 < (t1.length : Int) then ((jones_Mul.f (ix t1 a9) t33.1).bind fun t120 => law33_JonesLoops.k5 t13 u88 n89 t120.1 t120.2) else none)
noncomputable def law33_JonesLoops.k3 (t1 : (List (A4 Cx))) (a9 : Int) (t13 : Bool) (t33 : (A4 Cx) × Int) (t39 : (A4 Cx) × Int) (x65 : Bool) : Option Bool :=
  (if x65 = true then some false else (if 0 ≤ a9 ∧ a9 < (t1.length : Int) then ((jones_Mul.f t39.1 (ix t1 a9)).bind fun t139 => law33_JonesLoops.k4 t1 a9 t13 t33 t139.1 t139.2) else none))
noncomputable def law33_JonesLoops.k2 (t1 : (List (A4 Cx))) (a9 : Int) (b10 : Int) (c11 : Int) (d12 : Int) (t13 : Bool) (t28 : (List Pol) × Int) (t33 : (A4 Cx) × Int) (x37 : Bool) : Option Bool :=
  (if x37 = true then some t13 else ((jones_Loop.f t28.1 a9 b10 c11 d12).bind fun t39 => (if (!decide (t39.2 = 0)) = true then (if t13 = true then some (decide (t39.2 = 16)) else some false) else ((jones_Trace.f t33.1).bind fun t44 => ((jones_Trace.f t39.1).bind fun t47 => ((jones_Det.f t33.1).bind fun t50 => ((jones_Det.f t39.1).bind fun t53 => (if (decide (t44.2 = 0)) = true then (if (decide (t47.2 = 0)) = true then (if (!decide (t44.1 = t47.1)) = true then law33_JonesLoops.k3 t1 a9 t13 t33 t39 true else (if (decide (t50.2 = 0)) = true then (if (decide (t53.2 = 0)) = true then law33_JonesLoops.k3 t1 a9 t13 t33 t39 (!decide (t50.1 = t53.1)) else law33_JonesLoops.k3 t1 a9 t13 t33 t39 false) else law33_JonesLoops.k3 t1 a9 t13 t33 t39 false)) else (if (decide (t50.2 = 0)) = true then (if (decide (t53.2 = 0)) = true then law33_JonesLoops.k3 t1 a9 t13 t33 t39 (!decide (t50.1 = t53.1)) else law33_JonesLoops.k3 t1 a9 t13 t33 t39 false) else law33_JonesLoops.k3 t1 a9 t13 t33 t39 false)) else (if (decide (t50.2 = 0)) = true then (if (decide (t53.2 = 0)) = true then law33_JonesLoops.k3 t1 a9 t13 t33 t39 (!decide (t50.1 = t53.1)) else law33_JonesLoops.k3 t1 a9 t13 t33 t39 false) else law33_JonesLoops.k3 t1 a9 t13 t33 t39 false)))))))))
noncomputable def law33_JonesLoops.k1 (t1 : (List (A4 Cx))) (l5 : (List Pol)) (a9 : Int) (b10 : Int) (c11 : Int) (d12 : Int) (t13 : Bool) (x26 : Bool) : Option Bool :=
  (if x26 = true then some t13 else ((jones_Act.f t1 l5).bind fun t28 => ((jones_Loop.f l5 a9 b10 c11 d12).bind fun t33 => (if (!decide (t28.2 = 0)) = true then law33_JonesLoops.k2 t1 a9 b10 c11 d12 t13 t28 t33 true else law33_JonesLoops.k2 t1 a9 b10 c11 d12 t13 t28 t33 (!decide (t33.2 = 0))))))
noncomputable def law33_JonesLoops.f (t1 : (List (A4 Cx))) (l5 : (List Pol)) (a9 : Int) (b10 : Int) (c11 : Int) (d12 : Int) : Option Bool :=
  ((law33_alive.f).bind fun t13 => ((ref33_Table.f t1).bind fun t164 => (if (!decide (t164 = 0)) = true then law33_JonesLoops.k1 t1 l5 a9 b10 c11 d12 t13 true else (if (!decide ((t1.length : Int) = 8)) = true then law33_JonesLoops.k1 t1 l5 a9 b10 c11 d12 t13 true else ((ref33_Check.f l5).bind fun t168 => (if (!decide (t168 = 0)) = true then law33_JonesLoops.k1 t1 l5 a9 b10 c11 d12 t13 true else ((ref27_Apart.f ([a9, b10, c11, d12] : List Int)).bind fun t172 => (if (!t172) = true then law33_JonesLoops.k1 t1 l5 a9 b10 c11 d12 t13 true else law33_JonesLoops.k1 t1 l5 a9 b10 c11 d12 t13 (!t13)))))))))


end Go.Proofs.Ytlfmmenlkpoodaa.M
