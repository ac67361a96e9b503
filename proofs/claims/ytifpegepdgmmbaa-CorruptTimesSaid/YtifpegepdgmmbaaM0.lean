import Derived.Test.YtifpegepdgmmbaaGw18
set_option linter.unusedVariables false
set_option linter.unusedSimpArgs false
set_option maxRecDepth 100000
set_option maxHeartbeats 8000000
namespace Go.Proofs.Ytifpegepdgmmbaa.M
open Go.GW Go.Proofs

structure Cx where
  Re : Int
  Im : Int
  Den : Int
  deriving DecidableEq, Inhabited
def fl_Cx : Fl Cx := ⟨3, fun x => [.int .i64 x.Re, .int .i64 x.Im, .int .i64 x.Den], fun _ => rfl, fun x v h => by
  simp only [List.mem_cons, List.not_mem_nil, or_false] at h
  rcases h with rfl | rfl | rfl <;> rfl⟩
structure Spoil where
  Kind : Int
  Station : Int
  From : Int
  To : Int
  V : Cx
  Q : Int
  deriving DecidableEq, Inhabited
def fl_Spoil : Fl Spoil := ⟨8, fun x => [.int .u8 x.Kind, .int .i64 x.Station, .int .i64 x.From, .int .i64 x.To, .int .i64 x.V.Re, .int .i64 x.V.Im, .int .i64 x.V.Den, .int .i64 x.Q], fun _ => rfl, fun x v h => by
  simp only [List.mem_cons, List.not_mem_nil, or_false] at h
  rcases h with rfl | rfl | rfl | rfl | rfl | rfl | rfl | rfl <;> rfl⟩
def ok_Cx (x : Cx) : Prop := (okInt .i64 x.Re) ∧ (okInt .i64 x.Im) ∧ (okInt .i64 x.Den)
def ok_Spoil (x : Spoil) : Prop := (okInt .u8 x.Kind) ∧ (okInt .i64 x.Station) ∧ (okInt .i64 x.From) ∧ (okInt .i64 x.To) ∧ (ok_Cx x.V) ∧ (okInt .i64 x.Q)
noncomputable def law35_of.f (re1 : Int) (im2 : Int) (den3 : Int) : Option Cx :=
  some (⟨re1, im2, den3⟩ : Cx)

noncomputable def law35_example.f : Option (List Spoil) :=
  ((law35_of.f 3 0 1).bind fun t1 => some ([(⟨1, 2, 0, 9, t1, 0⟩ : Spoil), (⟨3, 2, 3, 9, (⟨0, 0, 0⟩ : Cx), 1⟩ : Spoil)] : List Spoil))

noncomputable def cx_Check_1.f (n1 : Int) : Option Bool :=
  (if (decide ((-1000000000) ≤ n1)) = true then some (decide (n1 ≤ 1000000000)) else some false)

noncomputable def cx_gcd.s9 (g108 : Int) (n109 : Int) : Option (St (Int × Int) Int (St (Int × Int) Int Int)) :=
  (if (!decide (n109 = 0)) = true then (if ¬ n109 = 0 then lt' (Int.tmod g108 n109) fun n116 => some (.next (n109, n116)) else none) else some (.brk g108))
noncomputable def cx_gcd.k10 (x67 : Int) (g113 : Int) : Option (St (Int × Int) Int Int) :=
  some (.next (g113, w64 (x67 + 1)))
noncomputable def cx_gcd.s7 (l1 : (List Int)) (g63 : Int) (x67 : Int) : Option (St (Int × Int) Int Int) :=
  (if (decide (x67 < (l1.length : Int))) = true then (if 0 ≤ x67 ∧ x67 < (l1.length : Int) then ((iter (fun (s : (Int × Int)) => cx_gcd.s9 s.1 s.2) (g63, (ix l1 x67))).bind fun o2 => fin o2 (fun (t : Int) => cx_gcd.k10 x67 t)) else none) else some (.brk g63))
noncomputable def cx_gcd.k8 (g92 : Int) : Option Int :=
  some (gmax g92 (w64 (0 - g92)))
noncomputable def cx_gcd.f (l1 : (List Int)) : Option Int :=
  ((iter (fun (s : (Int × Int)) => cx_gcd.s7 l1 s.1 s.2) (0, 0)).bind fun o1 => fin o1 (fun (t : Int) => cx_gcd.k8 t))

noncomputable def cx_Check.k1 (x16 : Bool) : Option Int :=
  (if x16 = true then some 8 else some 0)
noncomputable def cx_Check.f (a1 : Cx) : Option Int :=
  (if (decide (a1.Den < 1)) = true then cx_Check.k1 true else ((cx_Check_1.f a1.Re).bind fun t19 => (if (!t19) = true then cx_Check.k1 true else ((cx_Check_1.f a1.Im).bind fun t22 => (if (!t22) = true then cx_Check.k1 true else ((cx_Check_1.f a1.Den).bind fun t25 => (if (!t25) = true then cx_Check.k1 true else ((cx_gcd.f ([a1.Re, a1.Im, a1.Den] : List Int)).bind fun t29 => cx_Check.k1 (!decide (t29 = 1))))))))))

noncomputable def corrupt_valid.k2 (x1 : Spoil) (x16 : Bool) : Option Bool :=
  (if x16 = true then (if (decide (x1.V = (⟨0, 0, 0⟩ : Cx))) = true then (if (decide (0 ≤ x1.Q)) = true then some (decide (x1.Q < 4)) else some false) else some false) else some false)
noncomputable def corrupt_valid.k1 (x1 : Spoil) (x7 : Bool) : Option Bool :=
  (if x7 = true then some false else (if (decide (x1.Kind = 1)) = true then (if (decide (x1.Q = 0)) = true then ((cx_Check.f x1.V).bind fun t11 => (if (decide (t11 = 0)) = true then (if (!decide (x1.V.Re = 0)) = true then some true else some (!decide (x1.V.Im = 0))) else some false)) else some false) else (if (decide (x1.Kind = 2)) = true then corrupt_valid.k2 x1 (decide (x1.Kind = 2)) else corrupt_valid.k2 x1 (decide (x1.Kind = 3)))))
noncomputable def corrupt_valid.f (x1 : Spoil) : Option Bool :=
  (if (decide (x1.Station < 0)) = true then corrupt_valid.k1 x1 true else (if (decide (8 ≤ x1.Station)) = true then corrupt_valid.k1 x1 true else (if (decide (x1.From < 0)) = true then corrupt_valid.k1 x1 true else (if (decide (x1.To < x1.From)) = true then corrupt_valid.k1 x1 true else corrupt_valid.k1 x1 (decide (32 < x1.To))))))

noncomputable def corrupt_Table_1.f (x1 : Spoil) : Option Bool :=
  ((corrupt_valid.f x1).bind fun t3 => some (!t3))

noncomputable def slices_IndexFunc__api_Spoil_api_Spoil__corrupt_Table_1.s1 (s1 : (List Spoil)) (x23 : Int) : Option (St Int Unit Int) :=
  (if (decide (x23 < (s1.length : Int))) = true then (if 0 ≤ x23 ∧ x23 < (s1.length : Int) then ((corrupt_Table_1.f (ix s1 x23)).bind fun t37 => (if t37 = true then some (.ret x23) else some (.next (w64 (x23 + 1))))) else none) else some (.brk ()))
noncomputable def slices_IndexFunc__api_Spoil_api_Spoil__corrupt_Table_1.k2 : Option Int :=
  some (-1)
noncomputable def slices_IndexFunc__api_Spoil_api_Spoil__corrupt_Table_1.f (s1 : (List Spoil)) : Option Int :=
  ((iter (fun (s : Int) => slices_IndexFunc__api_Spoil_api_Spoil__corrupt_Table_1.s1 s1 s) 0).bind fun o1 => fin o1 (fun (t : Unit) => slices_IndexFunc__api_Spoil_api_Spoil__corrupt_Table_1.k2))

noncomputable def slices_ContainsFunc__api_Spoil_api_Spoil__corrupt_Table_1.f (s1 : (List Spoil)) : Option Bool :=
  ((slices_IndexFunc__api_Spoil_api_Spoil__corrupt_Table_1.f s1).bind fun t5 => some (decide (0 ≤ t5)))

noncomputable def math_bits_Mul64.f (x1 : Int) (y2 : Int) : Option (Int × Int) :=
  lt' (gand .u64 x1 4294967295) fun x3 => lt' (gshr .u64 x1 32) fun x4 => lt' (gand .u64 y2 4294967295) fun y5 => lt' (gshr .u64 y2 32) fun y6 => lt' (wu64 ((wu64 (x4 * y5)) + (gshr .u64 (wu64 (x3 * y5)) 32))) fun t7 => lt' (gand .u64 t7 4294967295) fun w8 => lt' (gshr .u64 t7 32) fun w9 => lt' (wu64 (w8 + (wu64 (x3 * y6)))) fun w10 => lt' (wu64 ((wu64 ((wu64 (x4 * y6)) + w9)) + (gshr .u64 w10 32))) fun hi11 => some (hi11, (wu64 (x1 * y2)))

noncomputable def math_bits_Mul.f (x1 : Int) (y2 : Int) : Option (Int × Int) :=
  ((math_bits_Mul64.f x1 y2).bind fun t3 => some (t3.1, t3.2))

noncomputable def slices_Repeat__api_Cx_api_Cx.s3 (newslice67 : List Cx) (n71 : Int) : Option (St ((List Cx) × Int) (List Cx) (List Cx)) :=
  (if (decide (n71 < (newslice67.length : Int))) = true then (if 0 ≤ n71 ∧ n71 ≤ (newslice67.length : Int) then (if 0 ≤ n71 ∧ n71 ≤ (newslice67.length : Int) then lt' (cpy newslice67 n71.toNat (newslice67.length - n71.toNat) ((newslice67.take n71.toNat).drop 0)) fun l102 => some (.next (l102, w64 (n71 + ((min ((newslice67.take n71.toNat).drop 0).length (newslice67.length - n71.toNat) : Nat) : Int)))) else none) else none) else some (.brk newslice67))
noncomputable def slices_Repeat__api_Cx_api_Cx.k4 (newslice89 : List Cx) : Option (List Cx) :=
  some newslice89
noncomputable def slices_Repeat__api_Cx_api_Cx.k2 (x1 : (List Cx)) (t8 : Int × Int) (x15 : Bool) : Option (List Cx) :=
  (if x15 = true then none else (if 0 ≤ w64 t8.2 ∧ w64 t8.2 ≤ w64 t8.2 ∧ w64 t8.2 ≤ 11728124029610 then lt' (cpy (List.replicate (w64 t8.2).toNat ((⟨0, 0, 0⟩ : Cx) : Cx)) 0 ((List.replicate (w64 t8.2).toNat ((⟨0, 0, 0⟩ : Cx) : Cx)).length - 0) x1) fun l21 => lt' (((min x1.length ((List.replicate (w64 t8.2).toNat ((⟨0, 0, 0⟩ : Cx) : Cx)).length - 0) : Nat) : Int)) fun n22 => ((iter (fun (s : ((List Cx) × Int)) => slices_Repeat__api_Cx_api_Cx.s3 s.1 s.2) (l21, n22)).bind fun o1 => fin o1 (fun (t : List Cx) => slices_Repeat__api_Cx_api_Cx.k4 t)) else none))
noncomputable def slices_Repeat__api_Cx_api_Cx.f (x1 : (List Cx)) (count5 : Int) : Option (List Cx) :=
  (if (decide (count5 < 0)) = true then none else ((math_bits_Mul.f (wu64 (x1.length : Int)) (wu64 count5)).bind fun t8 => (if (decide (0 < t8.1)) = true then slices_Repeat__api_Cx_api_Cx.k2 x1 t8 true else slices_Repeat__api_Cx_api_Cx.k2 x1 t8 (decide (9223372036854775807 < t8.2)))))

noncomputable def cmp_Or__api_Errno.s1 (vals1 : (List Int)) (x19 : Int) : Option (St Int Unit Int) :=
  (if (decide (x19 < (vals1.length : Int))) = true then (if 0 ≤ x19 ∧ x19 < (vals1.length : Int) then (if (!decide ((ix vals1 x19) = 0)) = true then some (.ret (ix vals1 x19)) else some (.next (w64 (x19 + 1)))) else none) else some (.brk ()))
noncomputable def cmp_Or__api_Errno.k2 : Option Int :=
  some 0
noncomputable def cmp_Or__api_Errno.f (vals1 : (List Int)) : Option Int :=
  ((iter (fun (s : Int) => cmp_Or__api_Errno.s1 vals1 s) 0).bind fun o1 => fin o1 (fun (t : Unit) => cmp_Or__api_Errno.k2))

noncomputable def cx_check.f (a1 : Cx) (b2 : Cx) : Option Int :=
  ((cx_Check.f a1).bind fun t5 => ((cx_Check.f b2).bind fun t7 => ((cmp_Or__api_Errno.f ([t5, t7] : List Int)).bind fun t10 => some t10)))

noncomputable def cx_reduced.k1 (re1 : Int) (im2 : Int) (den3 : Int) (g9 : Int) : Option (Cx × Int) :=
  (if ¬ g9 = 0 then (if ¬ g9 = 0 then (if ¬ g9 = 0 then ((cx_Check.f (⟨(w64 (Int.tdiv re1 g9)), (w64 (Int.tdiv im2 g9)), (w64 (Int.tdiv den3 g9))⟩ : Cx)).bind fun t14 => (if (!decide (t14 = 0)) = true then some ((⟨0, 0, 0⟩ : Cx), 16) else some ((⟨(w64 (Int.tdiv re1 g9)), (w64 (Int.tdiv im2 g9)), (w64 (Int.tdiv den3 g9))⟩ : Cx), 0))) else none) else none) else none)
noncomputable def cx_reduced.f (re1 : Int) (im2 : Int) (den3 : Int) : Option (Cx × Int) :=
  ((cx_gcd.f ([re1, im2, den3] : List Int)).bind fun t6 => (if (decide (den3 < 0)) = true then cx_reduced.k1 re1 im2 den3 (w64 (0 - t6)) else cx_reduced.k1 re1 im2 den3 t6))

noncomputable def cx_Mul.f (a1 : Cx) (b2 : Cx) : Option (Cx × Int) :=
  ((cx_check.f a1 b2).bind fun t6 => (if (!decide (t6 = 0)) = true then some ((⟨0, 0, 0⟩ : Cx), t6) else ((cx_reduced.f (w64 ((w64 (a1.Re * b2.Re)) - (w64 (a1.Im * b2.Im)))) (w64 ((w64 (a1.Re * b2.Im)) + (w64 (a1.Im * b2.Re)))) (w64 (a1.Den * b2.Den))).bind fun t9 => some (t9.1, t9.2))))

noncomputable def cx_Turn.k1 (a11 : Cx) : Option (Cx × Int) :=
  some (a11, 0)
noncomputable def cx_Turn.f (a1 : Cx) (quarters2 : Int) : Option (Cx × Int) :=
  ((cx_Check.f a1).bind fun t5 => (if (!decide (t5 = 0)) = true then some ((⟨0, 0, 0⟩ : Cx), t5) else (if (decide (gand .i64 quarters2 3 = 1)) = true then cx_Turn.k1 (⟨(w64 (0 - a1.Im)), a1.Re, a1.Den⟩ : Cx) else (if (decide (gand .i64 quarters2 3 = 2)) = true then cx_Turn.k1 (⟨(w64 (0 - a1.Re)), (w64 (0 - a1.Im)), a1.Den⟩ : Cx) else (if (decide (gand .i64 quarters2 3 = 3)) = true then cx_Turn.k1 (⟨a1.Im, (w64 (0 - a1.Re)), a1.Den⟩ : Cx) else cx_Turn.k1 a1)))))

noncomputable def corrupt_table.k20 (x295 : Int) (g492 : List Cx) : Option (St ((List Cx) × Int) (List Cx) ((List Cx) × Int)) :=
  some (.next (g492, w64 (x295 + 1)))
noncomputable def corrupt_table.k22 (x295 : Int) (g532 : List Cx) (e536 : Int) : Option (St ((List Cx) × Int) (List Cx) ((List Cx) × Int)) :=
  (if (!decide (e536 = 0)) = true then some (.ret ([], e536)) else corrupt_table.k20 x295 g532)
noncomputable def corrupt_table.k21 (l1 : (List Spoil)) (time5 : Int) (g288 : List Cx) (x295 : Int) (x505 : Bool) : Option (St ((List Cx) × Int) (List Cx) ((List Cx) × Int)) :=
  (if x505 = true then corrupt_table.k20 x295 g288 else (if 0 ≤ (ix l1 x295).Station ∧ (ix l1 x295).Station < (g288.length : Int) then (if (decide ((ix l1 x295).Kind = 1)) = true then ((cx_Mul.f (ix g288 ((ix l1 x295).Station)) ((ix l1 x295).V)).bind fun t539 => lt' (g288.set ((ix l1 x295).Station).toNat t539.1) fun l541 => corrupt_table.k22 x295 l541 t539.2) else (if (decide ((ix l1 x295).Kind = 2)) = true then ((cx_Turn.f (ix g288 ((ix l1 x295).Station)) ((ix l1 x295).Q)).bind fun t546 => lt' (g288.set ((ix l1 x295).Station).toNat t546.1) fun l548 => corrupt_table.k22 x295 l548 t546.2) else (if (decide ((ix l1 x295).Kind = 3)) = true then ((cx_Turn.f (ix g288 ((ix l1 x295).Station)) (w64 (((ix l1 x295).Q) * (w64 (time5 - ((ix l1 x295).From)))))).bind fun t553 => lt' (g288.set ((ix l1 x295).Station).toNat t553.1) fun l555 => corrupt_table.k22 x295 l555 t553.2) else corrupt_table.k22 x295 g288 0))) else none))
noncomputable def corrupt_table.s16 (l1 : (List Spoil)) (time5 : Int) (g288 : List Cx) (x295 : Int) : Option (St ((List Cx) × Int) (List Cx) ((List Cx) × Int)) :=
  (if (decide (x295 < (l1.length : Int))) = true then (if 0 ≤ x295 ∧ x295 < (l1.length : Int) then (if (decide (time5 < (ix l1 x295).From)) = true then corrupt_table.k21 l1 time5 g288 x295 true else corrupt_table.k21 l1 time5 g288 x295 (decide ((ix l1 x295).To ≤ time5))) else none) else some (.brk g288))
noncomputable def corrupt_table.k17 (g426 : List Cx) : Option ((List Cx) × Int) :=
  some (g426, 0)
noncomputable def corrupt_table.f (l1 : (List Spoil)) (time5 : Int) : Option ((List Cx) × Int) :=
  ((slices_Repeat__api_Cx_api_Cx.f ([(⟨1, 0, 1⟩ : Cx)] : List Cx) 8).bind fun t7 => ((iter (fun (s : ((List Cx) × Int)) => corrupt_table.s16 l1 time5 s.1 s.2) (t7, 0)).bind fun o1 => fin o1 (fun (t : List Cx) => corrupt_table.k17 t)))

noncomputable def corrupt_Table.k1 (l1 : (List Spoil)) (time5 : Int) (x7 : Bool) : Option ((List Cx) × Int) :=
  (if x7 = true then some ([], 2) else (if (decide (8 < (l1.length : Int))) = true then some ([], 4) else ((slices_ContainsFunc__api_Spoil_api_Spoil__corrupt_Table_1.f l1).bind fun t10 => (if t10 = true then some ([], 8) else ((corrupt_table.f l1 time5).bind fun t13 => some (t13.1, t13.2))))))
noncomputable def corrupt_Table.f (l1 : (List Spoil)) (time5 : Int) : Option ((List Cx) × Int) :=
  (if (decide (time5 < 0)) = true then corrupt_Table.k1 l1 time5 true else corrupt_Table.k1 l1 time5 (decide (32 ≤ time5)))

noncomputable def ref26_One.f : Option Cx :=
  some (⟨1, 0, 1⟩ : Cx)

noncomputable def ref25_Same.s1 (a1 : (List Cx)) (b5 : (List Cx)) (i32 : Int) : Option (St Int Unit Bool) :=
  (if (decide (i32 < (a1.length : Int))) = true then (if 0 ≤ i32 ∧ i32 < (a1.length : Int) then (if 0 ≤ i32 ∧ i32 < (b5.length : Int) then (if (!decide ((ix a1 i32) = (ix b5 i32))) = true then some (.ret false) else some (.next (w64 (i32 + 1)))) else none) else none) else some (.brk ()))
noncomputable def ref25_Same.k2 : Option Bool :=
  some true
noncomputable def ref25_Same.f (a1 : (List Cx)) (b5 : (List Cx)) : Option Bool :=
  (if (!decide ((a1.length : Int) = (b5.length : Int))) = true then some false else ((iter (fun (s : Int) => ref25_Same.s1 a1 b5 s) 0).bind fun o1 => fin o1 (fun (t : Unit) => ref25_Same.k2)))

noncomputable def law35_alive.f : Option Bool :=
  ((law35_example.f).bind fun t1 => ((corrupt_Table.f t1 5).bind fun t6 => ((ref26_One.f).bind fun t11 => (if (decide (t6.2 = 0)) = true then ((law35_of.f (-3) 0 1).bind fun t15 => ((ref25_Same.f t6.1 ([t11, t11, t15, t11, t11, t11, t11, t11] : List Cx)).bind fun t18 => some t18)) else some false))))

noncomputable def ref25_Gcd.s1 (a13 : Int) (b14 : Int) : Option (St (Int × Int) Int Int) :=
  (if (!decide (b14 = 0)) = true then (if ¬ b14 = 0 then lt' (Int.tmod a13 b14) fun b21 => some (.next (b14, b21)) else none) else some (.brk a13))
noncomputable def ref25_Gcd.k2 (a18 : Int) : Option Int :=
  some a18
noncomputable def ref25_Gcd.f (a1 : Int) (b2 : Int) : Option Int :=
  lt' (gmax a1 (w64 (0 - a1))) fun a3 => lt' (gmax b2 (w64 (0 - b2))) fun b4 => ((iter (fun (s : (Int × Int)) => ref25_Gcd.s1 s.1 s.2) (a3, b4)).bind fun o1 => fin o1 (fun (t : Int) => ref25_Gcd.k2 t))

noncomputable def ref25_Check.k1 (x13 : Bool) : Option Int :=
  (if x13 = true then some 8 else some 0)
noncomputable def ref25_Check.f (a1 : Cx) : Option Int :=
  (if (decide (a1.Den < 1)) = true then ref25_Check.k1 true else (if (decide (1000000000 < a1.Den)) = true then ref25_Check.k1 true else (if (decide (a1.Re < (-1000000000))) = true then ref25_Check.k1 true else (if (decide (1000000000 < a1.Re)) = true then ref25_Check.k1 true else (if (decide (a1.Im < (-1000000000))) = true then ref25_Check.k1 true else (if (decide (1000000000 < a1.Im)) = true then ref25_Check.k1 true else ((ref25_Gcd.f a1.Re a1.Im).bind fun t21 => ((ref25_Gcd.f t21 a1.Den).bind fun t23 => ref25_Check.k1 (!decide (t23 = 1))))))))))

noncomputable def ref25_Zero.f (a1 : Cx) : Option Bool :=
  (if (decide (a1.Re = 0)) = true then some (decide (a1.Im = 0)) else some false)

noncomputable def ref35_Event.k2 (x1 : Spoil) (x17 : Bool) : Option Bool :=
  (if x17 = true then (if (decide (x1.V = (⟨0, 0, 0⟩ : Cx))) = true then (if (decide (0 ≤ x1.Q)) = true then some (decide (x1.Q ≤ 3)) else some false) else some false) else some false)
noncomputable def ref35_Event.k1 (x1 : Spoil) (x7 : Bool) : Option Bool :=
  (if x7 = true then some false else (if (decide (x1.Kind = 1)) = true then (if (decide (x1.Q = 0)) = true then ((ref25_Check.f x1.V).bind fun t11 => (if (decide (t11 = 0)) = true then ((ref25_Zero.f x1.V).bind fun t14 => some (!t14)) else some false)) else some false) else (if (decide (x1.Kind = 2)) = true then ref35_Event.k2 x1 (decide (x1.Kind = 2)) else ref35_Event.k2 x1 (decide (x1.Kind = 3)))))
noncomputable def ref35_Event.f (x1 : Spoil) : Option Bool :=
  (if (decide (x1.Station < 0)) = true then ref35_Event.k1 x1 true else (if (decide (8 ≤ x1.Station)) = true then ref35_Event.k1 x1 true else (if (decide (x1.From < 0)) = true then ref35_Event.k1 x1 true else (if (decide (x1.To < x1.From)) = true then ref35_Event.k1 x1 true else ref35_Event.k1 x1 (decide (32 < x1.To))))))

noncomputable def ref25_Turn.s1 (quarters2 : Int) (a14 : Cx) (k15 : Int) : Option (St (Cx × Int) Cx (Cx × Int)) :=
  (if (decide (k15 < Int.tmod (w64 ((Int.tmod quarters2 4) + 4)) 4)) = true then some (.next ((⟨(w64 (0 - a14.Im)), a14.Re, a14.Den⟩ : Cx), w64 (k15 + 1))) else some (.brk a14))
noncomputable def ref25_Turn.k2 (a17 : Cx) : Option (Cx × Int) :=
  some (a17, 0)
noncomputable def ref25_Turn.f (a1 : Cx) (quarters2 : Int) : Option (Cx × Int) :=
  ((ref25_Check.f a1).bind fun t5 => (if (!decide (t5 = 0)) = true then some ((⟨0, 0, 0⟩ : Cx), 8) else ((iter (fun (s : (Cx × Int)) => ref25_Turn.s1 quarters2 s.1 s.2) (a1, 0)).bind fun o1 => fin o1 (fun (t : Cx) => ref25_Turn.k2 t))))

noncomputable def law35_CorruptTimes.k10 (x1 : Spoil) (t4 : Bool) (t14 : (List Cx) × Int) (t89 : (List Cx) × Int) (t95 : (List Cx) × Int) (x103 : Bool) : Option Bool :=
  (if x103 = true then some false else ((ref25_Turn.f (ix t14.1 x1.Station) x1.Q).bind fun t105 => (if t4 = true then (if (decide (t105.2 = 0)) = true then (if 0 ≤ x1.Station ∧ x1.Station < (t89.1.length : Int) then (if (decide ((ix t89.1 x1.Station) = (ix t14.1 x1.Station))) = true then (if 0 ≤ x1.Station ∧ x1.Station < (t95.1.length : Int) then some (decide ((ix t95.1 x1.Station) = t105.1)) else none) else some false) else none) else some false) else some false)))
noncomputable def law35_CorruptTimes.k9 (x1 : Spoil) (time2 : Int) (t4 : Bool) (t14 : (List Cx) × Int) (x85 : Bool) : Option Bool :=
  (if x85 = true then some false else (if (decide (x1.To ≤ w64 (time2 + 4))) = true then some t4 else ((corrupt_Table.f ([x1] : List Spoil) (w64 (time2 + 4))).bind fun t89 => ((corrupt_Table.f ([x1] : List Spoil) (w64 (time2 + 1))).bind fun t95 => (if (!decide (t89.2 = 0)) = true then law35_CorruptTimes.k10 x1 t4 t14 t89 t95 true else (if (!decide (t95.2 = 0)) = true then law35_CorruptTimes.k10 x1 t4 t14 t89 t95 true else (if (!decide ((t89.1.length : Int) = (t14.1.length : Int))) = true then law35_CorruptTimes.k10 x1 t4 t14 t89 t95 true else law35_CorruptTimes.k10 x1 t4 t14 t89 t95 (!decide ((t95.1.length : Int) = (t14.1.length : Int))))))))))
noncomputable def law35_CorruptTimes.k8 (x1 : Spoil) (time2 : Int) (t4 : Bool) (t14 : (List Cx) × Int) (t22 : Cx) (inside73 : Bool) : Option Bool :=
  (if (!inside73) = true then (if t4 = true then some (decide ((ix t14.1 x1.Station) = t22)) else some false) else (if (decide (x1.Kind = 1)) = true then (if t4 = true then some (decide ((ix t14.1 x1.Station) = x1.V)) else some false) else (if (decide (x1.Kind = 2)) = true then ((ref25_Turn.f t22 x1.Q).bind fun t79 => (if t4 = true then (if (decide (t79.2 = 0)) = true then some (decide ((ix t14.1 x1.Station) = t79.1)) else some false) else some false)) else (if (decide (time2 = x1.From)) = true then law35_CorruptTimes.k9 x1 time2 t4 t14 (!decide ((ix t14.1 x1.Station) = t22)) else law35_CorruptTimes.k9 x1 time2 t4 t14 false))))
noncomputable def law35_CorruptTimes.k11 (i53 : Int) (x130 : Bool) : Option (St Int Unit Bool) :=
  (if x130 = true then some (.ret false) else some (.next (w64 (i53 + 1))))
noncomputable def law35_CorruptTimes.s6 (x1 : Spoil) (t14 : (List Cx) × Int) (t22 : Cx) (i53 : Int) : Option (St Int Unit Bool) :=
  (if (decide (i53 < (t14.1.length : Int))) = true then (if (!decide (i53 = x1.Station)) = true then (if 0 ≤ i53 ∧ i53 < (t14.1.length : Int) then law35_CorruptTimes.k11 i53 (!decide ((ix t14.1 i53) = t22)) else none) else law35_CorruptTimes.k11 i53 false) else some (.brk ()))
noncomputable def law35_CorruptTimes.k7 (x1 : Spoil) (time2 : Int) (t4 : Bool) (t14 : (List Cx) × Int) (t22 : Cx) : Option Bool :=
  (if 0 ≤ x1.Station ∧ x1.Station < (t14.1.length : Int) then (if (decide (x1.From ≤ time2)) = true then law35_CorruptTimes.k8 x1 time2 t4 t14 t22 (decide (time2 < x1.To)) else law35_CorruptTimes.k8 x1 time2 t4 t14 t22 false) else none)
noncomputable def law35_CorruptTimes.k2 (x1 : Spoil) (time2 : Int) (t4 : Bool) (t14 : (List Cx) × Int) (x20 : Bool) : Option Bool :=
  (if x20 = true then some false else ((ref26_One.f).bind fun t22 => ((iter (fun (s : Int) => law35_CorruptTimes.s6 x1 t14 t22 s) 0).bind fun o1 => fin o1 (fun (t : Unit) => law35_CorruptTimes.k7 x1 time2 t4 t14 t22))))
noncomputable def law35_CorruptTimes.k1 (x1 : Spoil) (time2 : Int) (t4 : Bool) (x11 : Bool) : Option Bool :=
  (if x11 = true then some t4 else ((corrupt_Table.f ([x1] : List Spoil) time2).bind fun t14 => (if (!decide (t14.2 = 0)) = true then law35_CorruptTimes.k2 x1 time2 t4 t14 true else law35_CorruptTimes.k2 x1 time2 t4 t14 (!decide ((t14.1.length : Int) = 8)))))
noncomputable def law35_CorruptTimes.f (x1 : Spoil) (time2 : Int) : Option Bool :=
  ((law35_alive.f).bind fun t4 => ((ref35_Event.f x1).bind fun t138 => (if (!t138) = true then law35_CorruptTimes.k1 x1 time2 t4 true else (if (decide (time2 < 0)) = true then law35_CorruptTimes.k1 x1 time2 t4 true else (if (decide (32 ≤ time2)) = true then law35_CorruptTimes.k1 x1 time2 t4 true else law35_CorruptTimes.k1 x1 time2 t4 (!t4))))))


end Go.Proofs.Ytifpegepdgmmbaa.M
