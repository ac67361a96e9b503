import Derived.Test.YtifpegepdgmmbaaGw19
set_option linter.unusedVariables false
set_option linter.unusedSimpArgs false
set_option maxRecDepth 100000
set_option maxHeartbeats 8000000
namespace Go.Proofs.Ytifpegepdgmmbaa.M
open Go.GW Go.Proofs

structure Cx where
  Re : Int
  Im : Int
  Den : Int
  deriving DecidableEq, Inhabited
def fl_Cx : Fl Cx := ⟨3, fun x => [.int .i64 x.Re, .int .i64 x.Im, .int .i64 x.Den], fun _ => rfl, fun x v h => by
  simp only [List.mem_cons, List.not_mem_nil, or_false] at h
  rcases h with rfl | rfl | rfl <;> rfl⟩
structure Vis where
  I : Int
  J : Int
  V : Cx
  N : Int
  deriving DecidableEq, Inhabited
def fl_Vis : Fl Vis := ⟨6, fun x => [.int .i64 x.I, .int .i64 x.J, .int .i64 x.V.Re, .int .i64 x.V.Im, .int .i64 x.V.Den, .int .i64 x.N], fun _ => rfl, fun x v h => by
  simp only [List.mem_cons, List.not_mem_nil, or_false] at h
  rcases h with rfl | rfl | rfl | rfl | rfl | rfl <;> rfl⟩
structure Spoil where
  Kind : Int
  Station : Int
  From : Int
  To : Int
  V : Cx
  Q : Int
  deriving DecidableEq, Inhabited
def fl_Spoil : Fl Spoil := ⟨8, fun x => [.int .u8 x.Kind, .int .i64 x.Station, .int .i64 x.From, .int .i64 x.To, .int .i64 x.V.Re, .int .i64 x.V.Im, .int .i64 x.V.Den, .int .i64 x.Q], fun _ => rfl, fun x v h => by
  simp only [List.mem_cons, List.not_mem_nil, or_false] at h
  rcases h with rfl | rfl | rfl | rfl | rfl | rfl | rfl | rfl <;> rfl⟩
structure Pair where
  I : Int
  J : Int
  deriving DecidableEq, Inhabited
def fl_Pair : Fl Pair := ⟨2, fun x => [.int .i64 x.I, .int .i64 x.J], fun _ => rfl, fun x v h => by
  simp only [List.mem_cons, List.not_mem_nil, or_false] at h
  rcases h with rfl | rfl <;> rfl⟩
def ok_Cx (x : Cx) : Prop := (okInt .i64 x.Re) ∧ (okInt .i64 x.Im) ∧ (okInt .i64 x.Den)
def ok_Vis (x : Vis) : Prop := (okInt .i64 x.I) ∧ (okInt .i64 x.J) ∧ (ok_Cx x.V) ∧ (okInt .i64 x.N)
def ok_Spoil (x : Spoil) : Prop := (okInt .u8 x.Kind) ∧ (okInt .i64 x.Station) ∧ (okInt .i64 x.From) ∧ (okInt .i64 x.To) ∧ (ok_Cx x.V) ∧ (okInt .i64 x.Q)
noncomputable def law35_of.f (re1 : Int) (im2 : Int) (den3 : Int) : Option Cx :=
  some (⟨re1, im2, den3⟩ : Cx)

noncomputable def law35_example.f : Option (List Spoil) :=
  ((law35_of.f 3 0 1).bind fun t1 => some ([(⟨1, 2, 0, 9, t1, 0⟩ : Spoil), (⟨3, 2, 3, 9, (⟨0, 0, 0⟩ : Cx), 1⟩ : Spoil)] : List Spoil))

noncomputable def cx_Check_1.f (n1 : Int) : Option Bool :=
  (if (decide ((-1000000000) ≤ n1)) = true then some (decide (n1 ≤ 1000000000)) else some false)

noncomputable def cx_gcd.s9 (g108 : Int) (n109 : Int) : Option (St (Int × Int) Int (St (Int × Int) Int Int)) :=
  (if (!decide (n109 = 0)) = true then (if ¬ n109 = 0 then lt' (Int.tmod g108 n109) fun n116 => some (.next (n109, n116)) else none) else some (.brk g108))
noncomputable def cx_gcd.k10 (x67 : Int) (g113 : Int) : Option (St (Int × Int) Int Int) :=
  some (.next (g113, w64 (x67 + 1)))
noncomputable def cx_gcd.s7 (l1 : (List Int)) (g63 : Int) (x67 : Int) : Option (St (Int × Int) Int Int) :=
  (if (decide (x67 < (l1.length : Int))) = true then (if 0 ≤ x67 ∧ x67 < (l1.length : Int) then ((iter (fun (s : (Int × Int)) => cx_gcd.s9 s.1 s.2) (g63, (ix l1 x67))).bind fun o2 => fin o2 (fun (t : Int) => cx_gcd.k10 x67 t)) else none) else some (.brk g63))
noncomputable def cx_gcd.k8 (g92 : Int) : Option Int :=
  some (gmax g92 (w64 (0 - g92)))
noncomputable def cx_gcd.f (l1 : (List Int)) : Option Int :=
  ((iter (fun (s : (Int × Int)) => cx_gcd.s7 l1 s.1 s.2) (0, 0)).bind fun o1 => fin o1 (fun (t : Int) => cx_gcd.k8 t))

noncomputable def cx_Check.k1 (x16 : Bool) : Option Int :=
  (if x16 = true then some 8 else some 0)
noncomputable def cx_Check.f (a1 : Cx) : Option Int :=
  (if (decide (a1.Den < 1)) = true then cx_Check.k1 true else ((cx_Check_1.f a1.Re).bind fun t19 => (if (!t19) = true then cx_Check.k1 true else ((cx_Check_1.f a1.Im).bind fun t22 => (if (!t22) = true then cx_Check.k1 true else ((cx_Check_1.f a1.Den).bind fun t25 => (if (!t25) = true then cx_Check.k1 true else ((cx_gcd.f ([a1.Re, a1.Im, a1.Den] : List Int)).bind fun t29 => cx_Check.k1 (!decide (t29 = 1))))))))))

noncomputable def corrupt_valid.k2 (x1 : Spoil) (x16 : Bool) : Option Bool :=
  (if x16 = true then (if (decide (x1.V = (⟨0, 0, 0⟩ : Cx))) = true then (if (decide (0 ≤ x1.Q)) = true then some (decide (x1.Q < 4)) else some false) else some false) else some false)
noncomputable def corrupt_valid.k1 (x1 : Spoil) (x7 : Bool) : Option Bool :=
  (if x7 = true then some false else (if (decide (x1.Kind = 1)) = true then (if (decide (x1.Q = 0)) = true then ((cx_Check.f x1.V).bind fun t11 => (if (decide (t11 = 0)) = true then (if (!decide (x1.V.Re = 0)) = true then some true else some (!decide (x1.V.Im = 0))) else some false)) else some false) else (if (decide (x1.Kind = 2)) = true then corrupt_valid.k2 x1 (decide (x1.Kind = 2)) else corrupt_valid.k2 x1 (decide (x1.Kind = 3)))))
noncomputable def corrupt_valid.f (x1 : Spoil) : Option Bool :=
  (if (decide (x1.Station < 0)) = true then corrupt_valid.k1 x1 true else (if (decide (8 ≤ x1.Station)) = true then corrupt_valid.k1 x1 true else (if (decide (x1.From < 0)) = true then corrupt_valid.k1 x1 true else (if (decide (x1.To < x1.From)) = true then corrupt_valid.k1 x1 true else corrupt_valid.k1 x1 (decide (32 < x1.To))))))

noncomputable def corrupt_Table_1.f (x1 : Spoil) : Option Bool :=
  ((corrupt_valid.f x1).bind fun t3 => some (!t3))

noncomputable def slices_IndexFunc__api_Spoil_api_Spoil__corrupt_Table_1.s1 (s1 : (List Spoil)) (x23 : Int) : Option (St Int Unit Int) :=
  (if (decide (x23 < (s1.length : Int))) = true then (if 0 ≤ x23 ∧ x23 < (s1.length : Int) then ((corrupt_Table_1.f (ix s1 x23)).bind fun t37 => (if t37 = true then some (.ret x23) else some (.next (w64 (x23 + 1))))) else none) else some (.brk ()))
noncomputable def slices_IndexFunc__api_Spoil_api_Spoil__corrupt_Table_1.k2 : Option Int :=
  some (-1)
noncomputable def slices_IndexFunc__api_Spoil_api_Spoil__corrupt_Table_1.f (s1 : (List Spoil)) : Option Int :=
  ((iter (fun (s : Int) => slices_IndexFunc__api_Spoil_api_Spoil__corrupt_Table_1.s1 s1 s) 0).bind fun o1 => fin o1 (fun (t : Unit) => slices_IndexFunc__api_Spoil_api_Spoil__corrupt_Table_1.k2))

noncomputable def slices_ContainsFunc__api_Spoil_api_Spoil__corrupt_Table_1.f (s1 : (List Spoil)) : Option Bool :=
  ((slices_IndexFunc__api_Spoil_api_Spoil__corrupt_Table_1.f s1).bind fun t5 => some (decide (0 ≤ t5)))

noncomputable def math_bits_Mul64.f (x1 : Int) (y2 : Int) : Option (Int × Int) :=
  lt' (gand .u64 x1 4294967295) fun x3 => lt' (gshr .u64 x1 32) fun x4 => lt' (gand .u64 y2 4294967295) fun y5 => lt' (gshr .u64 y2 32) fun y6 => lt' (wu64 ((wu64 (x4 * y5)) + (gshr .u64 (wu64 (x3 * y5)) 32))) fun t7 => lt' (gand .u64 t7 4294967295) fun w8 => lt' (gshr .u64 t7 32) fun w9 => lt' (wu64 (w8 + (wu64 (x3 * y6)))) fun w10 => lt' (wu64 ((wu64 ((wu64 (x4 * y6)) + w9)) + (gshr .u64 w10 32))) fun hi11 => some (hi11, (wu64 (x1 * y2)))

noncomputable def math_bits_Mul.f (x1 : Int) (y2 : Int) : Option (Int × Int) :=
  ((math_bits_Mul64.f x1 y2).bind fun t3 => some (t3.1, t3.2))

noncomputable def slices_Repeat__api_Cx_api_Cx.s3 (newslice67 : List Cx) (n71 : Int) : Option (St ((List Cx) × Int) (List Cx) (List Cx)) :=
  (if (decide (n71 < (newslice67.length : Int))) = true then (if 0 ≤ n71 ∧ n71 ≤ (newslice67.length : Int) then (if 0 ≤ n71 ∧ n71 ≤ (newslice67.length : Int) then lt' (cpy newslice67 n71.toNat (newslice67.length - n71.toNat) ((newslice67.take n71.toNat).drop 0)) fun l102 => some (.next (l102, w64 (n71 + ((min ((newslice67.take n71.toNat).drop 0).length (newslice67.length - n71.toNat) : Nat) : Int)))) else none) else none) else some (.brk newslice67))
noncomputable def slices_Repeat__api_Cx_api_Cx.k4 (newslice89 : List Cx) : Option (List Cx) :=
  some newslice89
noncomputable def slices_Repeat__api_Cx_api_Cx.k2 (x1 : (List Cx)) (t8 : Int × Int) (x15 : Bool) : Option (List Cx) :=
  (if x15 = true then none else (if 0 ≤ w64 t8.2 ∧ w64 t8.2 ≤ w64 t8.2 ∧ w64 t8.2 ≤ 11728124029610 then lt' (cpy (List.replicate (w64 t8.2).toNat ((⟨0, 0, 0⟩ : Cx) : Cx)) 0 ((List.replicate (w64 t8.2).toNat ((⟨0, 0, 0⟩ : Cx) : Cx)).length - 0) x1) fun l21 => lt' (((min x1.length ((List.replicate (w64 t8.2).toNat ((⟨0, 0, 0⟩ : Cx) : Cx)).length - 0) : Nat) : Int)) fun n22 => ((iter (fun (s : ((List Cx) × Int)) => slices_Repeat__api_Cx_api_Cx.s3 s.1 s.2) (l21, n22)).bind fun o1 => fin o1 (fun (t : List Cx) => slices_Repeat__api_Cx_api_Cx.k4 t)) else none))
noncomputable def slices_Repeat__api_Cx_api_Cx.f (x1 : (List Cx)) (count5 : Int) : Option (List Cx) :=
  (if (decide (count5 < 0)) = true then none else ((math_bits_Mul.f (wu64 (x1.length : Int)) (wu64 count5)).bind fun t8 => (if (decide (0 < t8.1)) = true then slices_Repeat__api_Cx_api_Cx.k2 x1 t8 true else slices_Repeat__api_Cx_api_Cx.k2 x1 t8 (decide (9223372036854775807 < t8.2)))))

noncomputable def cmp_Or__api_Errno.s1 (vals1 : (List Int)) (x19 : Int) : Option (St Int Unit Int) :=
  (if (decide (x19 < (vals1.length : Int))) = true then (if 0 ≤ x19 ∧ x19 < (vals1.length : Int) then (if (!decide ((ix vals1 x19) = 0)) = true then some (.ret (ix vals1 x19)) else some (.next (w64 (x19 + 1)))) else none) else some (.brk ()))
noncomputable def cmp_Or__api_Errno.k2 : Option Int :=
  some 0
noncomputable def cmp_Or__api_Errno.f (vals1 : (List Int)) : Option Int :=
  ((iter (fun (s : Int) => cmp_Or__api_Errno.s1 vals1 s) 0).bind fun o1 => fin o1 (fun (t : Unit) => cmp_Or__api_Errno.k2))

noncomputable def cx_check.f (a1 : Cx) (b2 : Cx) : Option Int :=
  ((cx_Check.f a1).bind fun t5 => ((cx_Check.f b2).bind fun t7 => ((cmp_Or__api_Errno.f ([t5, t7] : List Int)).bind fun t10 => some t10)))

noncomputable def cx_reduced.k1 (re1 : Int) (im2 : Int) (den3 : Int) (g9 : Int) : Option (Cx × Int) :=
  (if ¬ g9 = 0 then (if ¬ g9 = 0 then (if ¬ g9 = 0 then ((cx_Check.f (⟨(w64 (Int.tdiv re1 g9)), (w64 (Int.tdiv im2 g9)), (w64 (Int.tdiv den3 g9))⟩ : Cx)).bind fun t14 => (if (!decide (t14 = 0)) = true then some ((⟨0, 0, 0⟩ : Cx), 16) else some ((⟨(w64 (Int.tdiv re1 g9)), (w64 (Int.tdiv im2 g9)), (w64 (Int.tdiv den3 g9))⟩ : Cx), 0))) else none) else none) else none)
noncomputable def cx_reduced.f (re1 : Int) (im2 : Int) (den3 : Int) : Option (Cx × Int) :=
  ((cx_gcd.f ([re1, im2, den3] : List Int)).bind fun t6 => (if (decide (den3 < 0)) = true then cx_reduced.k1 re1 im2 den3 (w64 (0 - t6)) else cx_reduced.k1 re1 im2 den3 t6))

noncomputable def cx_Mul.f (a1 : Cx) (b2 : Cx) : Option (Cx × Int) :=
  ((cx_check.f a1 b2).bind fun t6 => (if (!decide (t6 = 0)) = true then some ((⟨0, 0, 0⟩ : Cx), t6) else ((cx_reduced.f (w64 ((w64 (a1.Re * b2.Re)) - (w64 (a1.Im * b2.Im)))) (w64 ((w64 (a1.Re * b2.Im)) + (w64 (a1.Im * b2.Re)))) (w64 (a1.Den * b2.Den))).bind fun t9 => some (t9.1, t9.2))))

noncomputable def cx_Turn.k1 (a11 : Cx) : Option (Cx × Int) :=
  some (a11, 0)
noncomputable def cx_Turn.f (a1 : Cx) (quarters2 : Int) : Option (Cx × Int) :=
  ((cx_Check.f a1).bind fun t5 => (if (!decide (t5 = 0)) = true then some ((⟨0, 0, 0⟩ : Cx), t5) else (if (decide (gand .i64 quarters2 3 = 1)) = true then cx_Turn.k1 (⟨(w64 (0 - a1.Im)), a1.Re, a1.Den⟩ : Cx) else (if (decide (gand .i64 quarters2 3 = 2)) = true then cx_Turn.k1 (⟨(w64 (0 - a1.Re)), (w64 (0 - a1.Im)), a1.Den⟩ : Cx) else (if (decide (gand .i64 quarters2 3 = 3)) = true then cx_Turn.k1 (⟨a1.Im, (w64 (0 - a1.Re)), a1.Den⟩ : Cx) else cx_Turn.k1 a1)))))

noncomputable def corrupt_table.k20 (x295 : Int) (g492 : List Cx) : Option (St ((List Cx) × Int) (List Cx) ((List Cx) × Int)) :=
  some (.next (g492, w64 (x295 + 1)))
noncomputable def corrupt_table.k22 (x295 : Int) (g532 : List Cx) (e536 : Int) : Option (St ((List Cx) × Int) (List Cx) ((List Cx) × Int)) :=
  (if (!decide (e536 = 0)) = true then some (.ret ([], e536)) else corrupt_table.k20 x295 g532)
noncomputable def corrupt_table.k21 (l1 : (List Spoil)) (time5 : Int) (g288 : List Cx) (x295 : Int) (x505 : Bool) : Option (St ((List Cx) × Int) (List Cx) ((List Cx) × Int)) :=
  (if x505 = true then corrupt_table.k20 x295 g288 else (if 0 ≤ (ix l1 x295).Station ∧ (ix l1 x295).Station < (g288.length : Int) then (if (decide ((ix l1 x295).Kind = 1)) = true then ((cx_Mul.f (ix g288 ((ix l1 x295).Station)) ((ix l1 x295).V)).bind fun t539 => lt' (g288.set ((ix l1 x295).Station).toNat t539.1) fun l541 => corrupt_table.k22 x295 l541 t539.2) else (if (decide ((ix l1 x295).Kind = 2)) = true then ((cx_Turn.f (ix g288 ((ix l1 x295).Station)) ((ix l1 x295).Q)).bind fun t546 => lt' (g288.set ((ix l1 x295).Station).toNat t546.1) fun l548 => corrupt_table.k22 x295 l548 t546.2) else (if (decide ((ix l1 x295).Kind = 3)) = true then ((cx_Turn.f (ix g288 ((ix l1 x295).Station)) (w64 (((ix l1 x295).Q) * (w64 (time5 - ((ix l1 x295).From)))))).bind fun t553 => lt' (g288.set ((ix l1 x295).Station).toNat t553.1) fun l555 => corrupt_table.k22 x295 l555 t553.2) else corrupt_table.k22 x295 g288 0))) else none))
noncomputable def corrupt_table.s16 (l1 : (List Spoil)) (time5 : Int) (g288 : List Cx) (x295 : Int) : Option (St ((List Cx) × Int) (List Cx) ((List Cx) × Int)) :=
  (if (decide (x295 < (l1.length : Int))) = true then (if 0 ≤ x295 ∧ x295 < (l1.length : Int) then (if (decide (time5 < (ix l1 x295).From)) = true then corrupt_table.k21 l1 time5 g288 x295 true else corrupt_table.k21 l1 time5 g288 x295 (decide ((ix l1 x295).To ≤ time5))) else none) else some (.brk g288))
noncomputable def corrupt_table.k17 (g426 : List Cx) : Option ((List Cx) × Int) :=
  some (g426, 0)
noncomputable def corrupt_table.f (l1 : (List Spoil)) (time5 : Int) : Option ((List Cx) × Int) :=
  ((slices_Repeat__api_Cx_api_Cx.f ([(⟨1, 0, 1⟩ : Cx)] : List Cx) 8).bind fun t7 => ((iter (fun (s : ((List Cx) × Int)) => corrupt_table.s16 l1 time5 s.1 s.2) (t7, 0)).bind fun o1 => fin o1 (fun (t : List Cx) => corrupt_table.k17 t)))

noncomputable def corrupt_Table.k1 (l1 : (List Spoil)) (time5 : Int) (x7 : Bool) : Option ((List Cx) × Int) :=
  (if x7 = true then some ([], 2) else (if (decide (8 < (l1.length : Int))) = true then some ([], 4) else ((slices_ContainsFunc__api_Spoil_api_Spoil__corrupt_Table_1.f l1).bind fun t10 => (if t10 = true then some ([], 8) else ((corrupt_table.f l1 time5).bind fun t13 => some (t13.1, t13.2))))))
noncomputable def corrupt_Table.f (l1 : (List Spoil)) (time5 : Int) : Option ((List Cx) × Int) :=
  (if (decide (time5 < 0)) = true then corrupt_Table.k1 l1 time5 true else corrupt_Table.k1 l1 time5 (decide (32 ≤ time5)))

noncomputable def ref26_One.f : Option Cx :=
  some (⟨1, 0, 1⟩ : Cx)

noncomputable def ref25_Same.s1 (a1 : (List Cx)) (b5 : (List Cx)) (i32 : Int) : Option (St Int Unit Bool) :=
  (if (decide (i32 < (a1.length : Int))) = true then (if 0 ≤ i32 ∧ i32 < (a1.length : Int) then (if 0 ≤ i32 ∧ i32 < (b5.length : Int) then (if (!decide ((ix a1 i32) = (ix b5 i32))) = true then some (.ret false) else some (.next (w64 (i32 + 1)))) else none) else none) else some (.brk ()))
noncomputable def ref25_Same.k2 : Option Bool :=
  some true
noncomputable def ref25_Same.f (a1 : (List Cx)) (b5 : (List Cx)) : Option Bool :=
  (if (!decide ((a1.length : Int) = (b5.length : Int))) = true then some false else ((iter (fun (s : Int) => ref25_Same.s1 a1 b5 s) 0).bind fun o1 => fin o1 (fun (t : Unit) => ref25_Same.k2)))

noncomputable def law35_alive.f : Option Bool :=
  ((law35_example.f).bind fun t1 => ((corrupt_Table.f t1 5).bind fun t6 => ((ref26_One.f).bind fun t11 => (if (decide (t6.2 = 0)) = true then ((law35_of.f (-3) 0 1).bind fun t15 => ((ref25_Same.f t6.1 ([t11, t11, t15, t11, t11, t11, t11, t11] : List Cx)).bind fun t18 => some t18)) else some false))))

noncomputable def ref35_Great.k6 (t133 : Int) (x230 : Bool) : Option (St Int Unit Bool) :=
  (if x230 = true then some (.ret true) else some (.next (w64 (t133 + 1))))
noncomputable def ref35_Great.s4 (s1 : (List (List Vis))) (t133 : Int) : Option (St Int Unit Bool) :=
  (if (decide (t133 < (s1.length : Int))) = true then (if 0 ≤ t133 ∧ t133 < (s1.length : Int) then (if (decide (20 < ((ix s1 t133).length : Int))) = true then (if (decide (((ix s1 t133).length : Int) ≤ 64)) = true then ref35_Great.k6 t133 true else ref35_Great.k6 t133 (decide (100 < ((ix s1 t133).length : Int)))) else ref35_Great.k6 t133 (decide (100 < ((ix s1 t133).length : Int)))) else none) else some (.brk ()))
noncomputable def ref35_Great.k5 (s1 : (List (List Vis))) : Option Bool :=
  (if (decide (8 < (s1.length : Int))) = true then (if (decide ((s1.length : Int) ≤ 32)) = true then some true else some (decide (40 < (s1.length : Int)))) else some (decide (40 < (s1.length : Int))))
noncomputable def ref35_Great.f (s1 : (List (List Vis))) : Option Bool :=
  ((iter (fun (s : Int) => ref35_Great.s4 s1 s) 0).bind fun o1 => fin o1 (fun (t : Unit) => ref35_Great.k5 s1))

noncomputable def ref25_Gcd.s1 (a13 : Int) (b14 : Int) : Option (St (Int × Int) Int Int) :=
  (if (!decide (b14 = 0)) = true then (if ¬ b14 = 0 then lt' (Int.tmod a13 b14) fun b21 => some (.next (b14, b21)) else none) else some (.brk a13))
noncomputable def ref25_Gcd.k2 (a18 : Int) : Option Int :=
  some a18
noncomputable def ref25_Gcd.f (a1 : Int) (b2 : Int) : Option Int :=
  lt' (gmax a1 (w64 (0 - a1))) fun a3 => lt' (gmax b2 (w64 (0 - b2))) fun b4 => ((iter (fun (s : (Int × Int)) => ref25_Gcd.s1 s.1 s.2) (a3, b4)).bind fun o1 => fin o1 (fun (t : Int) => ref25_Gcd.k2 t))

noncomputable def ref25_Check.k1 (x13 : Bool) : Option Int :=
  (if x13 = true then some 8 else some 0)
noncomputable def ref25_Check.f (a1 : Cx) : Option Int :=
  (if (decide (a1.Den < 1)) = true then ref25_Check.k1 true else (if (decide (1000000000 < a1.Den)) = true then ref25_Check.k1 true else (if (decide (a1.Re < (-1000000000))) = true then ref25_Check.k1 true else (if (decide (1000000000 < a1.Re)) = true then ref25_Check.k1 true else (if (decide (a1.Im < (-1000000000))) = true then ref25_Check.k1 true else (if (decide (1000000000 < a1.Im)) = true then ref25_Check.k1 true else ((ref25_Gcd.f a1.Re a1.Im).bind fun t21 => ((ref25_Gcd.f t21 a1.Den).bind fun t23 => ref25_Check.k1 (!decide (t23 = 1))))))))))

noncomputable def ref26_Seen.f (v1 : Vis) (n2 : Int) : Option Bool :=
  (if (decide (0 ≤ v1.I)) = true then (if (decide (v1.I < v1.J)) = true then (if (decide (v1.J < n2)) = true then ((ref25_Check.f v1.V).bind fun t7 => (if (decide (t7 = 0)) = true then some (decide (0 ≤ v1.N)) else some false)) else some false) else some false) else some false)

noncomputable def ref26_All.s1 (l1 : (List Vis)) (n5 : Int) (i25 : Int) : Option (St Int Unit Int) :=
  (if (decide (i25 < (l1.length : Int))) = true then (if 0 ≤ i25 ∧ i25 < (l1.length : Int) then ((ref26_Seen.f (ix l1 i25) n5).bind fun t39 => (if (!t39) = true then some (.ret 8) else some (.next (w64 (i25 + 1))))) else none) else some (.brk ()))
noncomputable def ref26_All.k2 : Option Int :=
  some 0
noncomputable def ref26_All.f (l1 : (List Vis)) (n5 : Int) : Option Int :=
  (if (decide (64 < (l1.length : Int))) = true then some 4 else ((iter (fun (s : Int) => ref26_All.s1 l1 n5 s) 0).bind fun o1 => fin o1 (fun (t : Unit) => ref26_All.k2)))

noncomputable def ref27_Check.k22 (k393 : Int) (x449 : Bool) : Option (St Int Unit (St Int Unit Int)) :=
  (if x449 = true then some (.ret (.ret 14)) else some (.next (w64 (k393 + 1))))
noncomputable def ref27_Check.s20 (l1 : (List Vis)) (i163 : Int) (k393 : Int) : Option (St Int Unit (St Int Unit Int)) :=
  (if (decide (k393 < i163)) = true then (if 0 ≤ i163 ∧ i163 < (l1.length : Int) then (if 0 ≤ k393 ∧ k393 < (l1.length : Int) then (if (decide ((ix l1 i163).I = (ix l1 k393).I)) = true then ref27_Check.k22 k393 (decide ((ix l1 i163).J = (ix l1 k393).J)) else ref27_Check.k22 k393 false) else none) else none) else some (.brk ()))
noncomputable def ref27_Check.k21 (i163 : Int) : Option (St Int Unit Int) :=
  some (.next (w64 (i163 + 1)))
noncomputable def ref27_Check.s15 (l1 : (List Vis)) (i163 : Int) : Option (St Int Unit Int) :=
  (if (decide (i163 < (l1.length : Int))) = true then ((iter (fun (s : Int) => ref27_Check.s20 l1 i163 s) 0).bind fun o2 => fin o2 (fun (t : Unit) => ref27_Check.k21 i163)) else some (.brk ()))
noncomputable def ref27_Check.k16 : Option Int :=
  some 0
noncomputable def ref27_Check.f (l1 : (List Vis)) : Option Int :=
  ((ref26_All.f l1 8).bind fun t5 => (if (!decide (t5 = 0)) = true then some t5 else ((iter (fun (s : Int) => ref27_Check.s15 l1 s) 0).bind fun o1 => fin o1 (fun (t : Unit) => ref27_Check.k16))))

noncomputable def ref35_baselines.k6 (i86 : Int) (x142 : Bool) : Option (St Int Unit Bool) :=
  (if x142 = true then some (.ret false) else some (.next (w64 (i86 + 1))))
noncomputable def ref35_baselines.s4 (a1 : (List Vis)) (b5 : (List Vis)) (i86 : Int) : Option (St Int Unit Bool) :=
  (if (decide (i86 < (a1.length : Int))) = true then (if 0 ≤ i86 ∧ i86 < (a1.length : Int) then (if 0 ≤ i86 ∧ i86 < (b5.length : Int) then (if (!decide ((ix a1 i86).I = (ix b5 i86).I)) = true then ref35_baselines.k6 i86 true else ref35_baselines.k6 i86 (!decide ((ix a1 i86).J = (ix b5 i86).J))) else none) else none) else some (.brk ()))
noncomputable def ref35_baselines.k5 : Option Bool :=
  some true
noncomputable def ref35_baselines.f (a1 : (List Vis)) (b5 : (List Vis)) : Option Bool :=
  (if (!decide ((a1.length : Int) = (b5.length : Int))) = true then some false else ((iter (fun (s : Int) => ref35_baselines.s4 a1 b5 s) 0).bind fun o1 => fin o1 (fun (t : Unit) => ref35_baselines.k5)))

noncomputable def ref35_Check.k8 (t218 : Int) (x349 : Bool) : Option (St Int Unit Int) :=
  (if x349 = true then some (.ret 8) else some (.next (w64 (t218 + 1))))
noncomputable def ref35_Check.s6 (s1 : (List (List Vis))) (t218 : Int) : Option (St Int Unit Int) :=
  (if (decide (t218 < (s1.length : Int))) = true then (if (0 : Int) ≤ 0 ∧ 0 < (s1.length : Int) then (if 0 ≤ t218 ∧ t218 < (s1.length : Int) then ((ref35_baselines.f (ix s1 0) (ix s1 t218)).bind fun t365 => ref35_Check.k8 t218 (!t365)) else none) else none) else some (.brk ()))
noncomputable def ref35_Check.k7 : Option Int :=
  some 0
noncomputable def ref35_Check.s1 (s1 : (List (List Vis))) (t30 : Int) : Option (St Int Unit Int) :=
  (if (decide (t30 < (s1.length : Int))) = true then (if 0 ≤ t30 ∧ t30 < (s1.length : Int) then ((ref27_Check.f (ix s1 t30)).bind fun t401 => (if (!decide (t401 = 0)) = true then some (.ret t401) else some (.next (w64 (t30 + 1))))) else none) else some (.brk ()))
noncomputable def ref35_Check.k2 (s1 : (List (List Vis))) : Option Int :=
  ((iter (fun (s : Int) => ref35_Check.s6 s1 s) 1).bind fun o1 => fin o1 (fun (t : Unit) => ref35_Check.k7))
noncomputable def ref35_Check.f (s1 : (List (List Vis))) : Option Int :=
  (if (decide (32 < (s1.length : Int))) = true then some 4 else ((iter (fun (s : Int) => ref35_Check.s1 s1 s) 0).bind fun o1 => fin o1 (fun (t : Unit) => ref35_Check.k2 s1)))

noncomputable def closure_Check.k13 (x143 : Int) (m242 : List (Pair × Int)) : Option (St ((List (Pair × Int)) × Int) (List (Pair × Int)) Int) :=
  some (.next (m242, w64 (x143 + 1)))
noncomputable def closure_Check.k14 (l1 : (List Vis)) (m142 : List (Pair × Int)) (x143 : Int) (x254 : Bool) : Option (St ((List (Pair × Int)) × Int) (List (Pair × Int)) Int) :=
  (if x254 = true then some (.ret 8) else lt' (mput m142 (⟨((ix l1 x143).I), ((ix l1 x143).J)⟩ : Pair) (mgetD m142 (⟨((ix l1 x143).I), ((ix l1 x143).J)⟩ : Pair) 0)) fun m256 => lt' (mput m256 (⟨((ix l1 x143).I), ((ix l1 x143).J)⟩ : Pair) (w64 ((mgetD m142 (⟨((ix l1 x143).I), ((ix l1 x143).J)⟩ : Pair) 0) + 1))) fun m258 => closure_Check.k13 x143 m258)
noncomputable def closure_Check.s10 (l1 : (List Vis)) (m142 : List (Pair × Int)) (x143 : Int) : Option (St ((List (Pair × Int)) × Int) (List (Pair × Int)) Int) :=
  (if (decide (x143 < (l1.length : Int))) = true then (if 0 ≤ x143 ∧ x143 < (l1.length : Int) then (if (decide ((ix l1 x143).I < 0)) = true then closure_Check.k14 l1 m142 x143 true else (if (decide ((ix l1 x143).J ≤ (ix l1 x143).I)) = true then closure_Check.k14 l1 m142 x143 true else (if (decide (8 ≤ (ix l1 x143).J)) = true then closure_Check.k14 l1 m142 x143 true else (if (decide ((ix l1 x143).N < 0)) = true then closure_Check.k14 l1 m142 x143 true else ((cx_Check.f ((ix l1 x143).V)).bind fun t269 => closure_Check.k14 l1 m142 x143 (!decide (t269 = 0))))))) else none) else some (.brk m142))
noncomputable def closure_Check.k11 (l1 : (List Vis)) (m208 : List (Pair × Int)) : Option Int :=
  (if (decide ((m208.length : Int) < (l1.length : Int))) = true then some 14 else some 0)
noncomputable def closure_Check.f (l1 : (List Vis)) : Option Int :=
  (if (decide (64 < (l1.length : Int))) = true then some 4 else ((iter (fun (s : ((List (Pair × Int)) × Int)) => closure_Check.s10 l1 s.1 s.2) (([] : List (Pair × Int)), 0)).bind fun o1 => fin o1 (fun (t : List (Pair × Int)) => closure_Check.k11 l1 t)))

noncomputable def corrupt_baselines_1.f (v1 : Vis) (w2 : Vis) : Option Bool :=
  (if (decide (v1.I = w2.I)) = true then some (decide (v1.J = w2.J)) else some false)

noncomputable def slices_EqualFunc__api_Vis_api_Vis_api_Vis_api_Vis__corrupt_baselines_1.s1 (s1 : (List Vis)) (s5 : (List Vis)) (x40 : Int) : Option (St Int Unit Bool) :=
  (if (decide (x40 < (s1.length : Int))) = true then (if 0 ≤ x40 ∧ x40 < (s1.length : Int) then (if 0 ≤ x40 ∧ x40 < (s5.length : Int) then ((corrupt_baselines_1.f (ix s1 x40) (ix s5 x40)).bind fun t66 => (if (!t66) = true then some (.ret false) else some (.next (w64 (x40 + 1))))) else none) else none) else some (.brk ()))
noncomputable def slices_EqualFunc__api_Vis_api_Vis_api_Vis_api_Vis__corrupt_baselines_1.k2 : Option Bool :=
  some true
noncomputable def slices_EqualFunc__api_Vis_api_Vis_api_Vis_api_Vis__corrupt_baselines_1.f (s1 : (List Vis)) (s5 : (List Vis)) : Option Bool :=
  (if (!decide ((s1.length : Int) = (s5.length : Int))) = true then some false else ((iter (fun (s : Int) => slices_EqualFunc__api_Vis_api_Vis_api_Vis_api_Vis__corrupt_baselines_1.s1 s1 s5 s) 0).bind fun o1 => fin o1 (fun (t : Unit) => slices_EqualFunc__api_Vis_api_Vis_api_Vis_api_Vis__corrupt_baselines_1.k2)))

noncomputable def corrupt_baselines.f (a1 : (List Vis)) (b5 : (List Vis)) : Option Bool :=
  ((slices_EqualFunc__api_Vis_api_Vis_api_Vis_api_Vis__corrupt_baselines_1.f a1 b5).bind fun t9 => some t9)

noncomputable def corrupt_Check_1.f (l1 : (List Vis)) (v5 : (List (List Vis))) : Option Bool :=
  (if (0 : Int) ≤ 0 ∧ 0 < (v5.length : Int) then ((corrupt_baselines.f (ix v5 0) l1).bind fun t17 => some (!t17)) else none)

noncomputable def slices_IndexFunc__api_Vis_api_Vis__corrupt_Check_1.s1 (s1 : (List (List Vis))) (v5 : (List (List Vis))) (x34 : Int) : Option (St Int Unit Int) :=
  (if (decide (x34 < (s1.length : Int))) = true then (if 0 ≤ x34 ∧ x34 < (s1.length : Int) then ((corrupt_Check_1.f (ix s1 x34) v5).bind fun t54 => (if t54 = true then some (.ret x34) else some (.next (w64 (x34 + 1))))) else none) else some (.brk ()))
noncomputable def slices_IndexFunc__api_Vis_api_Vis__corrupt_Check_1.k2 : Option Int :=
  some (-1)
noncomputable def slices_IndexFunc__api_Vis_api_Vis__corrupt_Check_1.f (s1 : (List (List Vis))) (v5 : (List (List Vis))) : Option Int :=
  ((iter (fun (s : Int) => slices_IndexFunc__api_Vis_api_Vis__corrupt_Check_1.s1 s1 v5 s) 0).bind fun o1 => fin o1 (fun (t : Unit) => slices_IndexFunc__api_Vis_api_Vis__corrupt_Check_1.k2))

noncomputable def slices_ContainsFunc__api_Vis_api_Vis__corrupt_Check_1.f (s1 : (List (List Vis))) (v5 : (List (List Vis))) : Option Bool :=
  ((slices_IndexFunc__api_Vis_api_Vis__corrupt_Check_1.f s1 v5).bind fun t10 => some (decide (0 ≤ t10)))

noncomputable def corrupt_Check.s1 (s1 : (List (List Vis))) (x31 : Int) : Option (St Int Unit Int) :=
  (if (decide (x31 < (s1.length : Int))) = true then (if 0 ≤ x31 ∧ x31 < (s1.length : Int) then ((closure_Check.f (ix s1 x31)).bind fun t54 => (if (!decide (t54 = 0)) = true then some (.ret t54) else some (.next (w64 (x31 + 1))))) else none) else some (.brk ()))
noncomputable def corrupt_Check.k2 (s1 : (List (List Vis))) : Option Int :=
  ((slices_ContainsFunc__api_Vis_api_Vis__corrupt_Check_1.f s1 s1).bind fun t43 => (if t43 = true then some 8 else some 0))
noncomputable def corrupt_Check.f (s1 : (List (List Vis))) : Option Int :=
  (if (decide (32 < (s1.length : Int))) = true then some 4 else ((iter (fun (s : Int) => corrupt_Check.s1 s1 s) 0).bind fun o1 => fin o1 (fun (t : Unit) => corrupt_Check.k2 s1)))

noncomputable def corrupt_Spoil_1.f (g1 : (List Cx)) : Option ((List Cx) × Int) :=
  some (g1, 0)

noncomputable def gain_zero.f (a1 : Cx) : Option Bool :=
  (if (decide (a1.Re = 0)) = true then some (decide (a1.Im = 0)) else some false)

noncomputable def gain_Check_1.f (a1 : Cx) : Option Bool :=
  ((cx_Check.f a1).bind fun t3 => (if (!decide (t3 = 0)) = true then some true else ((gain_zero.f a1).bind fun t6 => some t6)))

noncomputable def slices_IndexFunc__api_Cx_api_Cx__gain_Check_1.s1 (s1 : (List Cx)) (x23 : Int) : Option (St Int Unit Int) :=
  (if (decide (x23 < (s1.length : Int))) = true then (if 0 ≤ x23 ∧ x23 < (s1.length : Int) then ((gain_Check_1.f (ix s1 x23)).bind fun t37 => (if t37 = true then some (.ret x23) else some (.next (w64 (x23 + 1))))) else none) else some (.brk ()))
noncomputable def slices_IndexFunc__api_Cx_api_Cx__gain_Check_1.k2 : Option Int :=
  some (-1)
noncomputable def slices_IndexFunc__api_Cx_api_Cx__gain_Check_1.f (s1 : (List Cx)) : Option Int :=
  ((iter (fun (s : Int) => slices_IndexFunc__api_Cx_api_Cx__gain_Check_1.s1 s1 s) 0).bind fun o1 => fin o1 (fun (t : Unit) => slices_IndexFunc__api_Cx_api_Cx__gain_Check_1.k2))

noncomputable def slices_ContainsFunc__api_Cx_api_Cx__gain_Check_1.f (s1 : (List Cx)) : Option Bool :=
  ((slices_IndexFunc__api_Cx_api_Cx__gain_Check_1.f s1).bind fun t5 => some (decide (0 ≤ t5)))

noncomputable def gain_Check.k1 (x9 : Bool) : Option Int :=
  (if x9 = true then some 8 else some 0)
noncomputable def gain_Check.f (g1 : (List Cx)) : Option Int :=
  (if (decide (8 < (g1.length : Int))) = true then some 4 else (if (decide ((g1.length : Int) = 0)) = true then gain_Check.k1 true else ((slices_ContainsFunc__api_Cx_api_Cx__gain_Check_1.f g1).bind fun t12 => gain_Check.k1 t12)))

noncomputable def gain_Act_1.f (v1 : Vis) (v2 : (List Cx)) : Option Bool :=
  (if (decide (v1.I < 0)) = true then some true else (if (decide (v1.J ≤ v1.I)) = true then some true else (if (decide ((v2.length : Int) ≤ v1.J)) = true then some true else (if (decide (v1.N < 0)) = true then some true else ((cx_Check.f v1.V).bind fun t12 => some (!decide (t12 = 0)))))))

noncomputable def slices_IndexFunc__api_Vis_api_Vis__gain_Act_1.s1 (s1 : (List Vis)) (v5 : (List Cx)) (x28 : Int) : Option (St Int Unit Int) :=
  (if (decide (x28 < (s1.length : Int))) = true then (if 0 ≤ x28 ∧ x28 < (s1.length : Int) then ((gain_Act_1.f (ix s1 x28) v5).bind fun t42 => (if t42 = true then some (.ret x28) else some (.next (w64 (x28 + 1))))) else none) else some (.brk ()))
noncomputable def slices_IndexFunc__api_Vis_api_Vis__gain_Act_1.k2 : Option Int :=
  some (-1)
noncomputable def slices_IndexFunc__api_Vis_api_Vis__gain_Act_1.f (s1 : (List Vis)) (v5 : (List Cx)) : Option Int :=
  ((iter (fun (s : Int) => slices_IndexFunc__api_Vis_api_Vis__gain_Act_1.s1 s1 v5 s) 0).bind fun o1 => fin o1 (fun (t : Unit) => slices_IndexFunc__api_Vis_api_Vis__gain_Act_1.k2))

noncomputable def slices_ContainsFunc__api_Vis_api_Vis__gain_Act_1.f (s1 : (List Vis)) (v5 : (List Cx)) : Option Bool :=
  ((slices_IndexFunc__api_Vis_api_Vis__gain_Act_1.f s1 v5).bind fun t10 => some (decide (0 ≤ t10)))

noncomputable def gain_times.f (a1 : Cx) (b2 : Cx) : Option (Cx × Int) :=
  ((cx_Mul.f a1 (⟨b2.Re, (w64 (0 - b2.Im)), b2.Den⟩ : Cx)).bind fun t6 => some (t6.1, t6.2))

noncomputable def gain_Act_2.k1 (v2 : Vis) (v3 : (List Cx)) (p31 : Cx) (e32 : Int) : Option (Vis × Int) :=
  (if (!decide (e32 = 0)) = true then some (v2, e32) else (if 0 ≤ v2.J ∧ v2.J < (v3.length : Int) then ((gain_times.f p31 (ix v3 v2.J)).bind fun t38 => some ((⟨v2.I, v2.J, t38.1, v2.N⟩ : Vis), t38.2)) else none))
noncomputable def gain_Act_2.f (a1 : Int) (v2 : Vis) (v3 : (List Cx)) : Option (Vis × Int) :=
  (if 0 ≤ v2.I ∧ v2.I < (v3.length : Int) then ((cx_Mul.f (ix v3 v2.I) v2.V).bind fun t52 => gain_Act_2.k1 v2 v3 t52.1 t52.2) else none)

noncomputable def gain_made__api_Vis_api_Vis__gain_Act_2.s1 (l1 : (List Vis)) (v5 : (List Cx)) (out49 : List Vis) (x53 : Int) : Option (St ((List Vis) × Int) (List Vis) ((List Vis) × Int)) :=
  (if (decide (x53 < (l1.length : Int))) = true then (if 0 ≤ x53 ∧ x53 < (l1.length : Int) then ((gain_Act_2.f x53 (ix l1 x53) v5).bind fun t78 => (if (!decide (t78.2 = 0)) = true then some (.ret ([], 16)) else (if out49.length + ([t78.1] : List Vis).length ≤ 2932031007402 then some (.next ((out49 ++ ([t78.1] : List Vis)), w64 (x53 + 1))) else none))) else none) else some (.brk out49))
noncomputable def gain_made__api_Vis_api_Vis__gain_Act_2.k2 (out68 : List Vis) : Option ((List Vis) × Int) :=
  some (out68, 0)
noncomputable def gain_made__api_Vis_api_Vis__gain_Act_2.f (l1 : (List Vis)) (v5 : (List Cx)) : Option ((List Vis) × Int) :=
  ((iter (fun (s : ((List Vis) × Int)) => gain_made__api_Vis_api_Vis__gain_Act_2.s1 l1 v5 s.1 s.2) ([], 0)).bind fun o1 => fin o1 (fun (t : List Vis) => gain_made__api_Vis_api_Vis__gain_Act_2.k2 t))

noncomputable def gain_Act.f (g1 : (List Cx)) (l5 : (List Vis)) : Option ((List Vis) × Int) :=
  ((gain_Check.f g1).bind fun t10 => (if (!decide (t10 = 0)) = true then some ([], t10) else (if (decide (64 < (l5.length : Int))) = true then some ([], 4) else ((slices_ContainsFunc__api_Vis_api_Vis__gain_Act_1.f l5 g1).bind fun t14 => (if t14 = true then some ([], 8) else ((gain_made__api_Vis_api_Vis__gain_Act_2.f l5 g1).bind fun t17 => some (t17.1, t17.2)))))))

noncomputable def corrupt_acted__corrupt_Spoil_1.s3 (s1 : (List (List Vis))) (tables61 : List (List Cx)) (out138 : List (List Vis)) (x142 : Int) : Option (St ((List (List Vis)) × Int) (List (List Vis)) ((List (List Vis)) × Int)) :=
  (if (decide (x142 < (s1.length : Int))) = true then (if 0 ≤ x142 ∧ x142 < (s1.length : Int) then (if 0 ≤ x142 ∧ x142 < (tables61.length : Int) then ((corrupt_Spoil_1.f (ix tables61 x142)).bind fun t193 => (if (!decide (t193.2 = 0)) = true then some (.ret ([], t193.2)) else ((gain_Act.f t193.1 (ix s1 x142)).bind fun t199 => (if (!decide (t199.2 = 0)) = true then some (.ret ([], t199.2)) else (if out138.length + ([t199.1] : List (List Vis)).length ≤ 5864062014805 then some (.next ((out138 ++ ([t199.1] : List (List Vis))), w64 (x142 + 1))) else none))))) else none) else none) else some (.brk out138))
noncomputable def corrupt_acted__corrupt_Spoil_1.k4 (out174 : List (List Vis)) : Option ((List (List Vis)) × Int) :=
  some (out174, 0)
noncomputable def corrupt_acted__corrupt_Spoil_1.s1 (s1 : (List (List Vis))) (l5 : (List Spoil)) (tables45 : List (List Cx)) (x49 : Int) : Option (St ((List (List Cx)) × Int) (List (List Cx)) ((List (List Vis)) × Int)) :=
  (if (decide (x49 < gmax 1 (s1.length : Int))) = true then ((corrupt_Table.f l5 x49).bind fun t210 => (if (!decide (t210.2 = 0)) = true then some (.ret ([], t210.2)) else (if tables45.length + ([t210.1] : List (List Cx)).length ≤ 5864062014805 then some (.next ((tables45 ++ ([t210.1] : List (List Cx))), w64 (x49 + 1))) else none))) else some (.brk tables45))
noncomputable def corrupt_acted__corrupt_Spoil_1.k2 (s1 : (List (List Vis))) (tables61 : List (List Cx)) : Option ((List (List Vis)) × Int) :=
  ((iter (fun (s : ((List (List Vis)) × Int)) => corrupt_acted__corrupt_Spoil_1.s3 s1 tables61 s.1 s.2) ([], 0)).bind fun o1 => fin o1 (fun (t : List (List Vis)) => corrupt_acted__corrupt_Spoil_1.k4 t))
noncomputable def corrupt_acted__corrupt_Spoil_1.f (s1 : (List (List Vis))) (l5 : (List Spoil)) : Option ((List (List Vis)) × Int) :=
  ((corrupt_Check.f s1).bind fun t9 => (if (!decide (t9 = 0)) = true then some ([], t9) else ((iter (fun (s : ((List (List Cx)) × Int)) => corrupt_acted__corrupt_Spoil_1.s1 s1 l5 s.1 s.2) ([], 0)).bind fun o1 => fin o1 (fun (t : List (List Cx)) => corrupt_acted__corrupt_Spoil_1.k2 s1 t))))

noncomputable def corrupt_Spoil.f (s1 : (List (List Vis))) (l5 : (List Spoil)) : Option ((List (List Vis)) × Int) :=
  ((corrupt_acted__corrupt_Spoil_1.f s1 l5).bind fun t9 => some (t9.1, t9.2))

noncomputable def ref26_Same.s1 (a1 : (List Vis)) (b5 : (List Vis)) (i32 : Int) : Option (St Int Unit Bool) :=
  (if (decide (i32 < (a1.length : Int))) = true then (if 0 ≤ i32 ∧ i32 < (a1.length : Int) then (if 0 ≤ i32 ∧ i32 < (b5.length : Int) then (if (!decide ((ix a1 i32) = (ix b5 i32))) = true then some (.ret false) else some (.next (w64 (i32 + 1)))) else none) else none) else some (.brk ()))
noncomputable def ref26_Same.k2 : Option Bool :=
  some true
noncomputable def ref26_Same.f (a1 : (List Vis)) (b5 : (List Vis)) : Option Bool :=
  (if (!decide ((a1.length : Int) = (b5.length : Int))) = true then some false else ((iter (fun (s : Int) => ref26_Same.s1 a1 b5 s) 0).bind fun o1 => fin o1 (fun (t : Unit) => ref26_Same.k2)))

noncomputable def ref35_Same.k6 (t194 : Int) (x331 : Bool) : Option (St Int Unit Bool) :=
  (if x331 = true then some (.ret false) else some (.next (w64 (t194 + 1))))
noncomputable def ref35_Same.s4 (a1 : (List (List Vis))) (b5 : (List (List Vis))) (t194 : Int) : Option (St Int Unit Bool) :=
  (if (decide (t194 < (a1.length : Int))) = true then (if 0 ≤ t194 ∧ t194 < (a1.length : Int) then (if 0 ≤ t194 ∧ t194 < (b5.length : Int) then ((ref26_Same.f (ix a1 t194) (ix b5 t194)).bind fun t347 => ref35_Same.k6 t194 (!t347)) else none) else none) else some (.brk ()))
noncomputable def ref35_Same.k5 : Option Bool :=
  some true
noncomputable def ref35_Same.f (a1 : (List (List Vis))) (b5 : (List (List Vis))) : Option Bool :=
  (if (!decide ((a1.length : Int) = (b5.length : Int))) = true then some false else ((iter (fun (s : Int) => ref35_Same.s4 a1 b5 s) 0).bind fun o1 => fin o1 (fun (t : Unit) => ref35_Same.k5)))

noncomputable def law35_CorruptOrder.k4 (s1 : (List (List Vis))) (l5 : (List Spoil)) (at9 : Int) (t10 : Bool) (t71 : (List (List Vis)) × Int) (x85 : Bool) : Option Bool :=
  (if x85 = true then some false else (if 0 ≤ at9 ∧ at9 ≤ (l5.length : Int) then ((corrupt_Spoil.f s1 ((l5.take at9.toNat).drop 0)).bind fun t93 => (if (!decide (t93.2 = 0)) = true then some t10 else (if 0 ≤ at9 ∧ at9 ≤ (l5.length : Int) then ((corrupt_Spoil.f t93.1 ((l5.take l5.length).drop at9.toNat)).bind fun t105 => (if t10 = true then (if (!decide (t105.2 = 0)) = true then some true else (if (!decide (t71.2 = 0)) = true then some true else ((ref35_Same.f t71.1 t105.1).bind fun t113 => some t113))) else some false)) else none))) else none))
noncomputable def law35_CorruptOrder.s2 (l5 : (List Spoil)) (back53 : List Spoil) (i57 : Int) : Option (St ((List Spoil) × Int) (List Spoil) Bool) :=
  (if (decide (0 ≤ i57)) = true then (if 0 ≤ i57 ∧ i57 < (l5.length : Int) then (if back53.length + ([(ix l5 i57)] : List Spoil).length ≤ 2199023255552 then some (.next ((back53 ++ ([(ix l5 i57)] : List Spoil)), w64 (i57 - 1))) else none) else none) else some (.brk back53))
noncomputable def law35_CorruptOrder.k3 (s1 : (List (List Vis))) (l5 : (List Spoil)) (at9 : Int) (t10 : Bool) (back67 : List Spoil) : Option Bool :=
  ((corrupt_Spoil.f s1 l5).bind fun t71 => ((corrupt_Spoil.f s1 back67).bind fun t76 => (if (decide (t71.2 = 0)) = true then (if (decide (t76.2 = 0)) = true then ((ref35_Same.f t71.1 t76.1).bind fun t117 => law35_CorruptOrder.k4 s1 l5 at9 t10 t71 (!t117)) else law35_CorruptOrder.k4 s1 l5 at9 t10 t71 false) else law35_CorruptOrder.k4 s1 l5 at9 t10 t71 false)))
noncomputable def law35_CorruptOrder.k1 (s1 : (List (List Vis))) (l5 : (List Spoil)) (at9 : Int) (t10 : Bool) (x21 : Bool) : Option Bool :=
  (if x21 = true then some t10 else lt' (w64 ((l5.length : Int) - 1)) fun i23 => ((iter (fun (s : ((List Spoil) × Int)) => law35_CorruptOrder.s2 l5 s.1 s.2) ([], i23)).bind fun o1 => fin o1 (fun (t : List Spoil) => law35_CorruptOrder.k3 s1 l5 at9 t10 t)))
noncomputable def law35_CorruptOrder.f (s1 : (List (List Vis))) (l5 : (List Spoil)) (at9 : Int) : Option Bool :=
  ((law35_alive.f).bind fun t10 => ((ref35_Great.f s1).bind fun t128 => (if t128 = true then law35_CorruptOrder.k1 s1 l5 at9 t10 true else ((ref35_Check.f s1).bind fun t131 => (if (!decide (t131 = 0)) = true then law35_CorruptOrder.k1 s1 l5 at9 t10 true else (if (decide (8 < (l5.length : Int))) = true then law35_CorruptOrder.k1 s1 l5 at9 t10 true else (if (decide (at9 < 0)) = true then law35_CorruptOrder.k1 s1 l5 at9 t10 true else (if (decide ((l5.length : Int) < at9)) = true then law35_CorruptOrder.k1 s1 l5 at9 t10 true else law35_CorruptOrder.k1 s1 l5 at9 t10 (!t10)))))))))


end Go.Proofs.Ytifpegepdgmmbaa.M
