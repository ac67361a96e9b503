import Derived.Test.YtifpegepdgmmbaaGw22
set_option linter.unusedVariables false
set_option linter.unusedSimpArgs false
set_option maxRecDepth 100000
set_option maxHeartbeats 8000000
namespace Go.Proofs.Ytifpegepdgmmbaa.M
open Go.GW Go.Proofs

structure Cx where
  Re : Int
  Im : Int
  Den : Int
  deriving DecidableEq, Inhabited
def fl_Cx : Fl Cx := ⟨3, fun x => [.int .i64 x.Re, .int .i64 x.Im, .int .i64 x.Den], fun _ => rfl, fun x v h => by
  simp only [List.mem_cons, List.not_mem_nil, or_false] at h
  rcases h with rfl | rfl | rfl <;> rfl⟩
structure Spoil where
  Kind : Int
  Station : Int
  From : Int
  To : Int
  V : Cx
  Q : Int
  deriving DecidableEq, Inhabited
def fl_Spoil : Fl Spoil := ⟨8, fun x => [.int .u8 x.Kind, .int .i64 x.Station, .int .i64 x.From, .int .i64 x.To, .int .i64 x.V.Re, .int .i64 x.V.Im, .int .i64 x.V.Den, .int .i64 x.Q], fun _ => rfl, fun x v h => by
  simp only [List.mem_cons, List.not_mem_nil, or_false] at h
  rcases h with rfl | rfl | rfl | rfl | rfl | rfl | rfl | rfl <;> rfl⟩
structure Vis where
  I : Int
  J : Int
  V : Cx
  N : Int
  deriving DecidableEq, Inhabited
def fl_Vis : Fl Vis := ⟨6, fun x => [.int .i64 x.I, .int .i64 x.J, .int .i64 x.V.Re, .int .i64 x.V.Im, .int .i64 x.V.Den, .int .i64 x.N], fun _ => rfl, fun x v h => by
  simp only [List.mem_cons, List.not_mem_nil, or_false] at h
  rcases h with rfl | rfl | rfl | rfl | rfl | rfl <;> rfl⟩
structure Pair where
  I : Int
  J : Int
  deriving DecidableEq, Inhabited
def fl_Pair : Fl Pair := ⟨2, fun x => [.int .i64 x.I, .int .i64 x.J], fun _ => rfl, fun x v h => by
  simp only [List.mem_cons, List.not_mem_nil, or_false] at h
  rcases h with rfl | rfl <;> rfl⟩
structure Frac where
  Num : Int
  Den : Int
  deriving DecidableEq, Inhabited
def fl_Frac : Fl Frac := ⟨2, fun x => [.int .i64 x.Num, .int .i64 x.Den], fun _ => rfl, fun x v h => by
  simp only [List.mem_cons, List.not_mem_nil, or_false] at h
  rcases h with rfl | rfl <;> rfl⟩
noncomputable def ref26_One.f : Option Cx :=
  some (⟨1, 0, 1⟩ : Cx)

noncomputable def law35_of.f (re1 : Int) (im2 : Int) (den3 : Int) : Option Cx :=
  some (⟨re1, im2, den3⟩ : Cx)

noncomputable def cx_Check_1.f (n1 : Int) : Option Bool :=
  (if (decide ((-1000000000) ≤ n1)) = true then some (decide (n1 ≤ 1000000000)) else some false)

noncomputable def cx_gcd.s9 (g108 : Int) (n109 : Int) : Option (St (Int × Int) Int (St (Int × Int) Int Int)) :=
  (if (!decide (n109 = 0)) = true then (if ¬ n109 = 0 then lt' (Int.tmod g108 n109) fun n116 => some (.next (n109, n116)) else none) else some (.brk g108))
noncomputable def cx_gcd.k10 (x67 : Int) (g113 : Int) : Option (St (Int × Int) Int Int) :=
  some (.next (g113, w64 (x67 + 1)))
noncomputable def cx_gcd.s7 (l1 : (List Int)) (g63 : Int) (x67 : Int) : Option (St (Int × Int) Int Int) :=
  (if (decide (x67 < (l1.length : Int))) = true then (if 0 ≤ x67 ∧ x67 < (l1.length : Int) then ((iter (fun (s : (Int × Int)) => cx_gcd.s9 s.1 s.2) (g63, (ix l1 x67))).bind fun o2 => fin o2 (fun (t : Int) => cx_gcd.k10 x67 t)) else none) else some (.brk g63))
noncomputable def cx_gcd.k8 (g92 : Int) : Option Int :=
  some (gmax g92 (w64 (0 - g92)))
noncomputable def cx_gcd.f (l1 : (List Int)) : Option Int :=
  ((iter (fun (s : (Int × Int)) => cx_gcd.s7 l1 s.1 s.2) (0, 0)).bind fun o1 => fin o1 (fun (t : Int) => cx_gcd.k8 t))

noncomputable def cx_Check.k1 (x16 : Bool) : Option Int :=
  (if x16 = true then some 8 else some 0)
noncomputable def cx_Check.f (a1 : Cx) : Option Int :=
  (if (decide (a1.Den < 1)) = true then cx_Check.k1 true else ((cx_Check_1.f a1.Re).bind fun t19 => (if (!t19) = true then cx_Check.k1 true else ((cx_Check_1.f a1.Im).bind fun t22 => (if (!t22) = true then cx_Check.k1 true else ((cx_Check_1.f a1.Den).bind fun t25 => (if (!t25) = true then cx_Check.k1 true else ((cx_gcd.f ([a1.Re, a1.Im, a1.Den] : List Int)).bind fun t29 => cx_Check.k1 (!decide (t29 = 1))))))))))

noncomputable def corrupt_valid.k2 (x1 : Spoil) (x16 : Bool) : Option Bool :=
  (if x16 = true then (if (decide (x1.V = (⟨0, 0, 0⟩ : Cx))) = true then (if (decide (0 ≤ x1.Q)) = true then some (decide (x1.Q < 4)) else some false) else some false) else some false)
noncomputable def corrupt_valid.k1 (x1 : Spoil) (x7 : Bool) : Option Bool :=
  (if x7 = true then some false else (if (decide (x1.Kind = 1)) = true then (if (decide (x1.Q = 0)) = true then ((cx_Check.f x1.V).bind fun t11 => (if (decide (t11 = 0)) = true then (if (!decide (x1.V.Re = 0)) = true then some true else some (!decide (x1.V.Im = 0))) else some false)) else some false) else (if (decide (x1.Kind = 2)) = true then corrupt_valid.k2 x1 (decide (x1.Kind = 2)) else corrupt_valid.k2 x1 (decide (x1.Kind = 3)))))
noncomputable def corrupt_valid.f (x1 : Spoil) : Option Bool :=
  (if (decide (x1.Station < 0)) = true then corrupt_valid.k1 x1 true else (if (decide (8 ≤ x1.Station)) = true then corrupt_valid.k1 x1 true else (if (decide (x1.From < 0)) = true then corrupt_valid.k1 x1 true else (if (decide (x1.To < x1.From)) = true then corrupt_valid.k1 x1 true else corrupt_valid.k1 x1 (decide (32 < x1.To))))))

noncomputable def corrupt_Table_1.f (x1 : Spoil) : Option Bool :=
  ((corrupt_valid.f x1).bind fun t3 => some (!t3))

noncomputable def slices_IndexFunc__api_Spoil_api_Spoil__corrupt_Table_1.s1 (s1 : (List Spoil)) (x23 : Int) : Option (St Int Unit Int) :=
  (if (decide (x23 < (s1.length : Int))) = true then (if 0 ≤ x23 ∧ x23 < (s1.length : Int) then ((corrupt_Table_1.f (ix s1 x23)).bind fun t37 => (if t37 = true then some (.ret x23) else some (.next (w64 (x23 + 1))))) else none) else some (.brk ()))
noncomputable def slices_IndexFunc__api_Spoil_api_Spoil__corrupt_Table_1.k2 : Option Int :=
  some (-1)
noncomputable def slices_IndexFunc__api_Spoil_api_Spoil__corrupt_Table_1.f (s1 : (List Spoil)) : Option Int :=
  ((iter (fun (s : Int) => slices_IndexFunc__api_Spoil_api_Spoil__corrupt_Table_1.s1 s1 s) 0).bind fun o1 => fin o1 (fun (t : Unit) => slices_IndexFunc__api_Spoil_api_Spoil__corrupt_Table_1.k2))

noncomputable def slices_ContainsFunc__api_Spoil_api_Spoil__corrupt_Table_1.f (s1 : (List Spoil)) : Option Bool :=
  ((slices_IndexFunc__api_Spoil_api_Spoil__corrupt_Table_1.f s1).bind fun t5 => some (decide (0 ≤ t5)))

noncomputable def math_bits_Mul64.f (x1 : Int) (y2 : Int) : Option (Int × Int) :=
  lt' (gand .u64 x1 4294967295) fun x3 => lt' (gshr .u64 x1 32) fun x4 => lt' (gand .u64 y2 4294967295) fun y5 => lt' (gshr .u64 y2 32) fun y6 => lt' (wu64 ((wu64 (x4 * y5)) + (gshr .u64 (wu64 (x3 * y5)) 32))) fun t7 => lt' (gand .u64 t7 4294967295) fun w8 => lt' (gshr .u64 t7 32) fun w9 => lt' (wu64 (w8 + (wu64 (x3 * y6)))) fun w10 => lt' (wu64 ((wu64 ((wu64 (x4 * y6)) + w9)) + (gshr .u64 w10 32))) fun hi11 => some (hi11, (wu64 (x1 * y2)))

noncomputable def math_bits_Mul.f (x1 : Int) (y2 : Int) : Option (Int × Int) :=
  ((math_bits_Mul64.f x1 y2).bind fun t3 => some (t3.1, t3.2))

noncomputable def slices_Repeat__api_Cx_api_Cx.s3 (newslice67 : List Cx) (n71 : Int) : Option (St ((List Cx) × Int) (List Cx) (List Cx)) :=
  (if (decide (n71 < (newslice67.length : Int))) = true then (if 0 ≤ n71 ∧ n71 ≤ (newslice67.length : Int) then (if 0 ≤ n71 ∧ n71 ≤ (newslice67.length : Int) then lt' (cpy newslice67 n71.toNat (newslice67.length - n71.toNat) ((newslice67.take n71.toNat).drop 0)) fun l102 => some (.next (l102, w64 (n71 + ((min ((newslice67.take n71.toNat).drop 0).length (newslice67.length - n71.toNat) : Nat) : Int)))) else none) else none) else some (.brk newslice67))
noncomputable def slices_Repeat__api_Cx_api_Cx.k4 (newslice89 : List Cx) : Option (List Cx) :=
  some newslice89
noncomputable def slices_Repeat__api_Cx_api_Cx.k2 (x1 : (List Cx)) (t8 : Int × Int) (x15 : Bool) : Option (List Cx) :=
  (if x15 = true then none else (if 0 ≤ w64 t8.2 ∧ w64 t8.2 ≤ w64 t8.2 ∧ w64 t8.2 ≤ 11728124029610 then lt' (cpy (List.replicate (w64 t8.2).toNat ((⟨0, 0, 0⟩ : Cx) : Cx)) 0 ((List.replicate (w64 t8.2).toNat ((⟨0, 0, 0⟩ : Cx) : Cx)).length - 0) x1) fun l21 => lt' (((min x1.length ((List.replicate (w64 t8.2).toNat ((⟨0, 0, 0⟩ : Cx) : Cx)).length - 0) : Nat) : Int)) fun n22 => ((iter (fun (s : ((List Cx) × Int)) => slices_Repeat__api_Cx_api_Cx.s3 s.1 s.2) (l21, n22)).bind fun o1 => fin o1 (fun (t : List Cx) => slices_Repeat__api_Cx_api_Cx.k4 t)) else none))
noncomputable def slices_Repeat__api_Cx_api_Cx.f (x1 : (List Cx)) (count5 : Int) : Option (List Cx) :=
  (if (decide (count5 < 0)) = true then none else ((math_bits_Mul.f (wu64 (x1.length : Int)) (wu64 count5)).bind fun t8 => (if (decide (0 < t8.1)) = true then slices_Repeat__api_Cx_api_Cx.k2 x1 t8 true else slices_Repeat__api_Cx_api_Cx.k2 x1 t8 (decide (9223372036854775807 < t8.2)))))

noncomputable def cmp_Or__api_Errno.s1 (vals1 : (List Int)) (x19 : Int) : Option (St Int Unit Int) :=
  (if (decide (x19 < (vals1.length : Int))) = true then (if 0 ≤ x19 ∧ x19 < (vals1.length : Int) then (if (!decide ((ix vals1 x19) = 0)) = true then some (.ret (ix vals1 x19)) else some (.next (w64 (x19 + 1)))) else none) else some (.brk ()))
noncomputable def cmp_Or__api_Errno.k2 : Option Int :=
  some 0
noncomputable def cmp_Or__api_Errno.f (vals1 : (List Int)) : Option Int :=
  ((iter (fun (s : Int) => cmp_Or__api_Errno.s1 vals1 s) 0).bind fun o1 => fin o1 (fun (t : Unit) => cmp_Or__api_Errno.k2))

noncomputable def cx_check.f (a1 : Cx) (b2 : Cx) : Option Int :=
  ((cx_Check.f a1).bind fun t5 => ((cx_Check.f b2).bind fun t7 => ((cmp_Or__api_Errno.f ([t5, t7] : List Int)).bind fun t10 => some t10)))

noncomputable def cx_reduced.k1 (re1 : Int) (im2 : Int) (den3 : Int) (g9 : Int) : Option (Cx × Int) :=
  (if ¬ g9 = 0 then (if ¬ g9 = 0 then (if ¬ g9 = 0 then ((cx_Check.f (⟨(w64 (Int.tdiv re1 g9)), (w64 (Int.tdiv im2 g9)), (w64 (Int.tdiv den3 g9))⟩ : Cx)).bind fun t14 => (if (!decide (t14 = 0)) = true then some ((⟨0, 0, 0⟩ : Cx), 16) else some ((⟨(w64 (Int.tdiv re1 g9)), (w64 (Int.tdiv im2 g9)), (w64 (Int.tdiv den3 g9))⟩ : Cx), 0))) else none) else none) else none)
noncomputable def cx_reduced.f (re1 : Int) (im2 : Int) (den3 : Int) : Option (Cx × Int) :=
  ((cx_gcd.f ([re1, im2, den3] : List Int)).bind fun t6 => (if (decide (den3 < 0)) = true then cx_reduced.k1 re1 im2 den3 (w64 (0 - t6)) else cx_reduced.k1 re1 im2 den3 t6))

noncomputable def cx_Mul.f (a1 : Cx) (b2 : Cx) : Option (Cx × Int) :=
  ((cx_check.f a1 b2).bind fun t6 => (if (!decide (t6 = 0)) = true then some ((⟨0, 0, 0⟩ : Cx), t6) else ((cx_reduced.f (w64 ((w64 (a1.Re * b2.Re)) - (w64 (a1.Im * b2.Im)))) (w64 ((w64 (a1.Re * b2.Im)) + (w64 (a1.Im * b2.Re)))) (w64 (a1.Den * b2.Den))).bind fun t9 => some (t9.1, t9.2))))

noncomputable def cx_Turn.k1 (a11 : Cx) : Option (Cx × Int) :=
  some (a11, 0)
noncomputable def cx_Turn.f (a1 : Cx) (quarters2 : Int) : Option (Cx × Int) :=
  ((cx_Check.f a1).bind fun t5 => (if (!decide (t5 = 0)) = true then some ((⟨0, 0, 0⟩ : Cx), t5) else (if (decide (gand .i64 quarters2 3 = 1)) = true then cx_Turn.k1 (⟨(w64 (0 - a1.Im)), a1.Re, a1.Den⟩ : Cx) else (if (decide (gand .i64 quarters2 3 = 2)) = true then cx_Turn.k1 (⟨(w64 (0 - a1.Re)), (w64 (0 - a1.Im)), a1.Den⟩ : Cx) else (if (decide (gand .i64 quarters2 3 = 3)) = true then cx_Turn.k1 (⟨a1.Im, (w64 (0 - a1.Re)), a1.Den⟩ : Cx) else cx_Turn.k1 a1)))))

noncomputable def corrupt_table.k20 (x295 : Int) (g492 : List Cx) : Option (St ((List Cx) × Int) (List Cx) ((List Cx) × Int)) :=
  some (.next (g492, w64 (x295 + 1)))
noncomputable def corrupt_table.k22 (x295 : Int) (g532 : List Cx) (e536 : Int) : Option (St ((List Cx) × Int) (List Cx) ((List Cx) × Int)) :=
  (if (!decide (e536 = 0)) = true then some (.ret ([], e536)) else corrupt_table.k20 x295 g532)
noncomputable def corrupt_table.k21 (l1 : (List Spoil)) (time5 : Int) (g288 : List Cx) (x295 : Int) (x505 : Bool) : Option (St ((List Cx) × Int) (List Cx) ((List Cx) × Int)) :=
  (if x505 = true then corrupt_table.k20 x295 g288 else (if 0 ≤ (ix l1 x295).Station ∧ (ix l1 x295).Station < (g288.length : Int) then (if (decide ((ix l1 x295).Kind = 1)) = true then ((cx_Mul.f (ix g288 ((ix l1 x295).Station)) ((ix l1 x295).V)).bind fun t539 => lt' (g288.set ((ix l1 x295).Station).toNat t539.1) fun l541 => corrupt_table.k22 x295 l541 t539.2) else (if (decide ((ix l1 x295).Kind = 2)) = true then ((cx_Turn.f (ix g288 ((ix l1 x295).Station)) ((ix l1 x295).Q)).bind fun t546 => lt' (g288.set ((ix l1 x295).Station).toNat t546.1) fun l548 => corrupt_table.k22 x295 l548 t546.2) else (if (decide ((ix l1 x295).Kind = 3)) = true then ((cx_Turn.f (ix g288 ((ix l1 x295).Station)) (w64 (((ix l1 x295).Q) * (w64 (time5 - ((ix l1 x295).From)))))).bind fun t553 => lt' (g288.set ((ix l1 x295).Station).toNat t553.1) fun l555 => corrupt_table.k22 x295 l555 t553.2) else corrupt_table.k22 x295 g288 0))) else none))
noncomputable def corrupt_table.s16 (l1 : (List Spoil)) (time5 : Int) (g288 : List Cx) (x295 : Int) : Option (St ((List Cx) × Int) (List Cx) ((List Cx) × Int)) :=
  (if (decide (x295 < (l1.length : Int))) = true then (if 0 ≤ x295 ∧ x295 < (l1.length : Int) then (if (decide (time5 < (ix l1 x295).From)) = true then corrupt_table.k21 l1 time5 g288 x295 true else corrupt_table.k21 l1 time5 g288 x295 (decide ((ix l1 x295).To ≤ time5))) else none) else some (.brk g288))
noncomputable def corrupt_table.k17 (g426 : List Cx) : Option ((List Cx) × Int) :=
  some (g426, 0)
noncomputable def corrupt_table.f (l1 : (List Spoil)) (time5 : Int) : Option ((List Cx) × Int) :=
  ((slices_Repeat__api_Cx_api_Cx.f ([(⟨1, 0, 1⟩ : Cx)] : List Cx) 8).bind fun t7 => ((iter (fun (s : ((List Cx) × Int)) => corrupt_table.s16 l1 time5 s.1 s.2) (t7, 0)).bind fun o1 => fin o1 (fun (t : List Cx) => corrupt_table.k17 t)))

noncomputable def corrupt_Table.k1 (l1 : (List Spoil)) (time5 : Int) (x7 : Bool) : Option ((List Cx) × Int) :=
  (if x7 = true then some ([], 2) else (if (decide (8 < (l1.length : Int))) = true then some ([], 4) else ((slices_ContainsFunc__api_Spoil_api_Spoil__corrupt_Table_1.f l1).bind fun t10 => (if t10 = true then some ([], 8) else ((corrupt_table.f l1 time5).bind fun t13 => some (t13.1, t13.2))))))
noncomputable def corrupt_Table.f (l1 : (List Spoil)) (time5 : Int) : Option ((List Cx) × Int) :=
  (if (decide (time5 < 0)) = true then corrupt_Table.k1 l1 time5 true else corrupt_Table.k1 l1 time5 (decide (32 ≤ time5)))

noncomputable def closure_Check.k13 (x143 : Int) (m242 : List (Pair × Int)) : Option (St ((List (Pair × Int)) × Int) (List (Pair × Int)) Int) :=
  some (.next (m242, w64 (x143 + 1)))
noncomputable def closure_Check.k14 (l1 : (List Vis)) (m142 : List (Pair × Int)) (x143 : Int) (x254 : Bool) : Option (St ((List (Pair × Int)) × Int) (List (Pair × Int)) Int) :=
  (if x254 = true then some (.ret 8) else lt' (mput m142 (⟨((ix l1 x143).I), ((ix l1 x143).J)⟩ : Pair) (mgetD m142 (⟨((ix l1 x143).I), ((ix l1 x143).J)⟩ : Pair) 0)) fun m256 => lt' (mput m256 (⟨((ix l1 x143).I), ((ix l1 x143).J)⟩ : Pair) (w64 ((mgetD m142 (⟨((ix l1 x143).I), ((ix l1 x143).J)⟩ : Pair) 0) + 1))) fun m258 => closure_Check.k13 x143 m258)
noncomputable def closure_Check.s10 (l1 : (List Vis)) (m142 : List (Pair × Int)) (x143 : Int) : Option (St ((List (Pair × Int)) × Int) (List (Pair × Int)) Int) :=
  (if (decide (x143 < (l1.length : Int))) = true then (if 0 ≤ x143 ∧ x143 < (l1.length : Int) then (if (decide ((ix l1 x143).I < 0)) = true then closure_Check.k14 l1 m142 x143 true else (if (decide ((ix l1 x143).J ≤ (ix l1 x143).I)) = true then closure_Check.k14 l1 m142 x143 true else (if (decide (8 ≤ (ix l1 x143).J)) = true then closure_Check.k14 l1 m142 x143 true else (if (decide ((ix l1 x143).N < 0)) = true then closure_Check.k14 l1 m142 x143 true else ((cx_Check.f ((ix l1 x143).V)).bind fun t269 => closure_Check.k14 l1 m142 x143 (!decide (t269 = 0))))))) else none) else some (.brk m142))
noncomputable def closure_Check.k11 (l1 : (List Vis)) (m208 : List (Pair × Int)) : Option Int :=
  (if (decide ((m208.length : Int) < (l1.length : Int))) = true then some 14 else some 0)
noncomputable def closure_Check.f (l1 : (List Vis)) : Option Int :=
  (if (decide (64 < (l1.length : Int))) = true then some 4 else ((iter (fun (s : ((List (Pair × Int)) × Int)) => closure_Check.s10 l1 s.1 s.2) (([] : List (Pair × Int)), 0)).bind fun o1 => fin o1 (fun (t : List (Pair × Int)) => closure_Check.k11 l1 t)))

noncomputable def corrupt_baselines_1.f (v1 : Vis) (w2 : Vis) : Option Bool :=
  (if (decide (v1.I = w2.I)) = true then some (decide (v1.J = w2.J)) else some false)

noncomputable def slices_EqualFunc__api_Vis_api_Vis_api_Vis_api_Vis__corrupt_baselines_1.s1 (s1 : (List Vis)) (s5 : (List Vis)) (x40 : Int) : Option (St Int Unit Bool) :=
  (if (decide (x40 < (s1.length : Int))) = true then (if 0 ≤ x40 ∧ x40 < (s1.length : Int) then (if 0 ≤ x40 ∧ x40 < (s5.length : Int) then ((corrupt_baselines_1.f (ix s1 x40) (ix s5 x40)).bind fun t66 => (if (!t66) = true then some (.ret false) else some (.next (w64 (x40 + 1))))) else none) else none) else some (.brk ()))
noncomputable def slices_EqualFunc__api_Vis_api_Vis_api_Vis_api_Vis__corrupt_baselines_1.k2 : Option Bool :=
  some true
noncomputable def slices_EqualFunc__api_Vis_api_Vis_api_Vis_api_Vis__corrupt_baselines_1.f (s1 : (List Vis)) (s5 : (List Vis)) : Option Bool :=
  (if (!decide ((s1.length : Int) = (s5.length : Int))) = true then some false else ((iter (fun (s : Int) => slices_EqualFunc__api_Vis_api_Vis_api_Vis_api_Vis__corrupt_baselines_1.s1 s1 s5 s) 0).bind fun o1 => fin o1 (fun (t : Unit) => slices_EqualFunc__api_Vis_api_Vis_api_Vis_api_Vis__corrupt_baselines_1.k2)))

noncomputable def corrupt_baselines.f (a1 : (List Vis)) (b5 : (List Vis)) : Option Bool :=
  ((slices_EqualFunc__api_Vis_api_Vis_api_Vis_api_Vis__corrupt_baselines_1.f a1 b5).bind fun t9 => some t9)

noncomputable def corrupt_Check_1.f (l1 : (List Vis)) (v5 : (List (List Vis))) : Option Bool :=
  (if (0 : Int) ≤ 0 ∧ 0 < (v5.length : Int) then ((corrupt_baselines.f (ix v5 0) l1).bind fun t17 => some (!t17)) else none)

noncomputable def slices_IndexFunc__api_Vis_api_Vis__corrupt_Check_1.s1 (s1 : (List (List Vis))) (v5 : (List (List Vis))) (x34 : Int) : Option (St Int Unit Int) :=
  (if (decide (x34 < (s1.length : Int))) = true then (if 0 ≤ x34 ∧ x34 < (s1.length : Int) then ((corrupt_Check_1.f (ix s1 x34) v5).bind fun t54 => (if t54 = true then some (.ret x34) else some (.next (w64 (x34 + 1))))) else none) else some (.brk ()))
noncomputable def slices_IndexFunc__api_Vis_api_Vis__corrupt_Check_1.k2 : Option Int :=
  some (-1)
noncomputable def slices_IndexFunc__api_Vis_api_Vis__corrupt_Check_1.f (s1 : (List (List Vis))) (v5 : (List (List Vis))) : Option Int :=
  ((iter (fun (s : Int) => slices_IndexFunc__api_Vis_api_Vis__corrupt_Check_1.s1 s1 v5 s) 0).bind fun o1 => fin o1 (fun (t : Unit) => slices_IndexFunc__api_Vis_api_Vis__corrupt_Check_1.k2))

noncomputable def slices_ContainsFunc__api_Vis_api_Vis__corrupt_Check_1.f (s1 : (List (List Vis))) (v5 : (List (List Vis))) : Option Bool :=
  ((slices_IndexFunc__api_Vis_api_Vis__corrupt_Check_1.f s1 v5).bind fun t10 => some (decide (0 ≤ t10)))

noncomputable def corrupt_Check.s1 (s1 : (List (List Vis))) (x31 : Int) : Option (St Int Unit Int) :=
  (if (decide (x31 < (s1.length : Int))) = true then (if 0 ≤ x31 ∧ x31 < (s1.length : Int) then ((closure_Check.f (ix s1 x31)).bind fun t54 => (if (!decide (t54 = 0)) = true then some (.ret t54) else some (.next (w64 (x31 + 1))))) else none) else some (.brk ()))
noncomputable def corrupt_Check.k2 (s1 : (List (List Vis))) : Option Int :=
  ((slices_ContainsFunc__api_Vis_api_Vis__corrupt_Check_1.f s1 s1).bind fun t43 => (if t43 = true then some 8 else some 0))
noncomputable def corrupt_Check.f (s1 : (List (List Vis))) : Option Int :=
  (if (decide (32 < (s1.length : Int))) = true then some 4 else ((iter (fun (s : Int) => corrupt_Check.s1 s1 s) 0).bind fun o1 => fin o1 (fun (t : Unit) => corrupt_Check.k2 s1)))

noncomputable def corrupt_Spoil_1.f (g1 : (List Cx)) : Option ((List Cx) × Int) :=
  some (g1, 0)

noncomputable def gain_zero.f (a1 : Cx) : Option Bool :=
  (if (decide (a1.Re = 0)) = true then some (decide (a1.Im = 0)) else some false)

noncomputable def gain_Check_1.f (a1 : Cx) : Option Bool :=
  ((cx_Check.f a1).bind fun t3 => (if (!decide (t3 = 0)) = true then some true else ((gain_zero.f a1).bind fun t6 => some t6)))

noncomputable def slices_IndexFunc__api_Cx_api_Cx__gain_Check_1.s1 (s1 : (List Cx)) (x23 : Int) : Option (St Int Unit Int) :=
  (if (decide (x23 < (s1.length : Int))) = true then (if 0 ≤ x23 ∧ x23 < (s1.length : Int) then ((gain_Check_1.f (ix s1 x23)).bind fun t37 => (if t37 = true then some (.ret x23) else some (.next (w64 (x23 + 1))))) else none) else some (.brk ()))
noncomputable def slices_IndexFunc__api_Cx_api_Cx__gain_Check_1.k2 : Option Int :=
  some (-1)
noncomputable def slices_IndexFunc__api_Cx_api_Cx__gain_Check_1.f (s1 : (List Cx)) : Option Int :=
  ((iter (fun (s : Int) => slices_IndexFunc__api_Cx_api_Cx__gain_Check_1.s1 s1 s) 0).bind fun o1 => fin o1 (fun (t : Unit) => slices_IndexFunc__api_Cx_api_Cx__gain_Check_1.k2))

noncomputable def slices_ContainsFunc__api_Cx_api_Cx__gain_Check_1.f (s1 : (List Cx)) : Option Bool :=
  ((slices_IndexFunc__api_Cx_api_Cx__gain_Check_1.f s1).bind fun t5 => some (decide (0 ≤ t5)))

noncomputable def gain_Check.k1 (x9 : Bool) : Option Int :=
  (if x9 = true then some 8 else some 0)
noncomputable def gain_Check.f (g1 : (List Cx)) : Option Int :=
  (if (decide (8 < (g1.length : Int))) = true then some 4 else (if (decide ((g1.length : Int) = 0)) = true then gain_Check.k1 true else ((slices_ContainsFunc__api_Cx_api_Cx__gain_Check_1.f g1).bind fun t12 => gain_Check.k1 t12)))

noncomputable def gain_Act_1.f (v1 : Vis) (v2 : (List Cx)) : Option Bool :=
  (if (decide (v1.I < 0)) = true then some true else (if (decide (v1.J ≤ v1.I)) = true then some true else (if (decide ((v2.length : Int) ≤ v1.J)) = true then some true else (if (decide (v1.N < 0)) = true then some true else ((cx_Check.f v1.V).bind fun t12 => some (!decide (t12 = 0)))))))

noncomputable def slices_IndexFunc__api_Vis_api_Vis__gain_Act_1.s1 (s1 : (List Vis)) (v5 : (List Cx)) (x28 : Int) : Option (St Int Unit Int) :=
  (if (decide (x28 < (s1.length : Int))) = true then (if 0 ≤ x28 ∧ x28 < (s1.length : Int) then ((gain_Act_1.f (ix s1 x28) v5).bind fun t42 => (if t42 = true then some (.ret x28) else some (.next (w64 (x28 + 1))))) else none) else some (.brk ()))
noncomputable def slices_IndexFunc__api_Vis_api_Vis__gain_Act_1.k2 : Option Int :=
  some (-1)
noncomputable def slices_IndexFunc__api_Vis_api_Vis__gain_Act_1.f (s1 : (List Vis)) (v5 : (List Cx)) : Option Int :=
  ((iter (fun (s : Int) => slices_IndexFunc__api_Vis_api_Vis__gain_Act_1.s1 s1 v5 s) 0).bind fun o1 => fin o1 (fun (t : Unit) => slices_IndexFunc__api_Vis_api_Vis__gain_Act_1.k2))

noncomputable def slices_ContainsFunc__api_Vis_api_Vis__gain_Act_1.f (s1 : (List Vis)) (v5 : (List Cx)) : Option Bool :=
  ((slices_IndexFunc__api_Vis_api_Vis__gain_Act_1.f s1 v5).bind fun t10 => some (decide (0 ≤ t10)))

noncomputable def gain_times.f (a1 : Cx) (b2 : Cx) : Option (Cx × Int) :=
  ((cx_Mul.f a1 (⟨b2.Re, (w64 (0 - b2.Im)), b2.Den⟩ : Cx)).bind fun t6 => some (t6.1, t6.2))

noncomputable def gain_Act_2.k1 (v2 : Vis) (v3 : (List Cx)) (p31 : Cx) (e32 : Int) : Option (Vis × Int) :=
  (if (!decide (e32 = 0)) = true then some (v2, e32) else (if 0 ≤ v2.J ∧ v2.J < (v3.length : Int) then ((gain_times.f p31 (ix v3 v2.J)).bind fun t38 => some ((⟨v2.I, v2.J, t38.1, v2.N⟩ : Vis), t38.2)) else none))
noncomputable def gain_Act_2.f (a1 : Int) (v2 : Vis) (v3 : (List Cx)) : Option (Vis × Int) :=
  (if 0 ≤ v2.I ∧ v2.I < (v3.length : Int) then ((cx_Mul.f (ix v3 v2.I) v2.V).bind fun t52 => gain_Act_2.k1 v2 v3 t52.1 t52.2) else none)

noncomputable def gain_made__api_Vis_api_Vis__gain_Act_2.s1 (l1 : (List Vis)) (v5 : (List Cx)) (out49 : List Vis) (x53 : Int) : Option (St ((List Vis) × Int) (List Vis) ((List Vis) × Int)) :=
  (if (decide (x53 < (l1.length : Int))) = true then (if 0 ≤ x53 ∧ x53 < (l1.length : Int) then ((gain_Act_2.f x53 (ix l1 x53) v5).bind fun t78 => (if (!decide (t78.2 = 0)) = true then some (.ret ([], 16)) else (if out49.length + ([t78.1] : List Vis).length ≤ 2932031007402 then some (.next ((out49 ++ ([t78.1] : List Vis)), w64 (x53 + 1))) else none))) else none) else some (.brk out49))
noncomputable def gain_made__api_Vis_api_Vis__gain_Act_2.k2 (out68 : List Vis) : Option ((List Vis) × Int) :=
  some (out68, 0)
noncomputable def gain_made__api_Vis_api_Vis__gain_Act_2.f (l1 : (List Vis)) (v5 : (List Cx)) : Option ((List Vis) × Int) :=
  ((iter (fun (s : ((List Vis) × Int)) => gain_made__api_Vis_api_Vis__gain_Act_2.s1 l1 v5 s.1 s.2) ([], 0)).bind fun o1 => fin o1 (fun (t : List Vis) => gain_made__api_Vis_api_Vis__gain_Act_2.k2 t))

noncomputable def gain_Act.f (g1 : (List Cx)) (l5 : (List Vis)) : Option ((List Vis) × Int) :=
  ((gain_Check.f g1).bind fun t10 => (if (!decide (t10 = 0)) = true then some ([], t10) else (if (decide (64 < (l5.length : Int))) = true then some ([], 4) else ((slices_ContainsFunc__api_Vis_api_Vis__gain_Act_1.f l5 g1).bind fun t14 => (if t14 = true then some ([], 8) else ((gain_made__api_Vis_api_Vis__gain_Act_2.f l5 g1).bind fun t17 => some (t17.1, t17.2)))))))

noncomputable def corrupt_acted__corrupt_Spoil_1.s3 (s1 : (List (List Vis))) (tables61 : List (List Cx)) (out138 : List (List Vis)) (x142 : Int) : Option (St ((List (List Vis)) × Int) (List (List Vis)) ((List (List Vis)) × Int)) :=
  (if (decide (x142 < (s1.length : Int))) = true then (if 0 ≤ x142 ∧ x142 < (s1.length : Int) then (if 0 ≤ x142 ∧ x142 < (tables61.length : Int) then ((corrupt_Spoil_1.f (ix tables61 x142)).bind fun t193 => (if (!decide (t193.2 = 0)) = true then some (.ret ([], t193.2)) else ((gain_Act.f t193.1 (ix s1 x142)).bind fun t199 => (if (!decide (t199.2 = 0)) = true then some (.ret ([], t199.2)) else (if out138.length + ([t199.1] : List (List Vis)).length ≤ 5864062014805 then some (.next ((out138 ++ ([t199.1] : List (List Vis))), w64 (x142 + 1))) else none))))) else none) else none) else some (.brk out138))
noncomputable def corrupt_acted__corrupt_Spoil_1.k4 (out174 : List (List Vis)) : Option ((List (List Vis)) × Int) :=
  some (out174, 0)
noncomputable def corrupt_acted__corrupt_Spoil_1.s1 (s1 : (List (List Vis))) (l5 : (List Spoil)) (tables45 : List (List Cx)) (x49 : Int) : Option (St ((List (List Cx)) × Int) (List (List Cx)) ((List (List Vis)) × Int)) :=
  (if (decide (x49 < gmax 1 (s1.length : Int))) = true then ((corrupt_Table.f l5 x49).bind fun t210 => (if (!decide (t210.2 = 0)) = true then some (.ret ([], t210.2)) else (if tables45.length + ([t210.1] : List (List Cx)).length ≤ 5864062014805 then some (.next ((tables45 ++ ([t210.1] : List (List Cx))), w64 (x49 + 1))) else none))) else some (.brk tables45))
noncomputable def corrupt_acted__corrupt_Spoil_1.k2 (s1 : (List (List Vis))) (tables61 : List (List Cx)) : Option ((List (List Vis)) × Int) :=
  ((iter (fun (s : ((List (List Vis)) × Int)) => corrupt_acted__corrupt_Spoil_1.s3 s1 tables61 s.1 s.2) ([], 0)).bind fun o1 => fin o1 (fun (t : List (List Vis)) => corrupt_acted__corrupt_Spoil_1.k4 t))
noncomputable def corrupt_acted__corrupt_Spoil_1.f (s1 : (List (List Vis))) (l5 : (List Spoil)) : Option ((List (List Vis)) × Int) :=
  ((corrupt_Check.f s1).bind fun t9 => (if (!decide (t9 = 0)) = true then some ([], t9) else ((iter (fun (s : ((List (List Cx)) × Int)) => corrupt_acted__corrupt_Spoil_1.s1 s1 l5 s.1 s.2) ([], 0)).bind fun o1 => fin o1 (fun (t : List (List Cx)) => corrupt_acted__corrupt_Spoil_1.k2 s1 t))))

noncomputable def corrupt_Spoil.f (s1 : (List (List Vis))) (l5 : (List Spoil)) : Option ((List (List Vis)) × Int) :=
  ((corrupt_acted__corrupt_Spoil_1.f s1 l5).bind fun t9 => some (t9.1, t9.2))

noncomputable def cx_zero.f (a1 : Cx) : Option Bool :=
  (if (decide (a1.Re = 0)) = true then some (decide (a1.Im = 0)) else some false)

noncomputable def cx_Div_1.f (n1 : Int) (times2 : Int) : Option Bool :=
  (if ¬ times2 = 0 then (if (decide (n1 ≤ w64 (Int.tdiv 1000000000 times2))) = true then (if ¬ times2 = 0 then some (decide (w64 (0 - w64 (Int.tdiv 1000000000 times2)) ≤ n1)) else none) else some false) else none)

noncomputable def cx_Div.k1 (up39 : Int) (low40 : Int) (re47 : Int) (im48 : Int) (down49 : Int) (x58 : Bool) : Option (Cx × Int) :=
  (if x58 = true then some ((⟨0, 0, 0⟩ : Cx), 16) else some ((⟨(w64 (re47 * up39)), (w64 (im48 * up39)), (w64 (low40 * down49))⟩ : Cx), 0))
noncomputable def cx_Div.f (a1 : Cx) (b2 : Cx) : Option (Cx × Int) :=
  ((cx_check.f a1 b2).bind fun t6 => (if (!decide (t6 = 0)) = true then some ((⟨0, 0, 0⟩ : Cx), t6) else ((cx_zero.f b2).bind fun t9 => (if t9 = true then some ((⟨0, 0, 0⟩ : Cx), 18) else ((cx_zero.f a1).bind fun t12 => (if t12 = true then some (a1, 0) else lt' (w64 ((w64 (a1.Re * b2.Re)) + (w64 (a1.Im * b2.Im)))) fun re15 => lt' (w64 ((w64 (a1.Im * b2.Re)) - (w64 (a1.Re * b2.Im)))) fun im16 => lt' (w64 ((w64 (b2.Re * b2.Re)) + (w64 (b2.Im * b2.Im)))) fun low17 => ((cx_gcd.f ([re15, im16, low17] : List Int)).bind fun t19 => (if ¬ t19 = 0 then (if ¬ t19 = 0 then (if ¬ t19 = 0 then lt' (w64 (Int.tdiv re15 t19)) fun re24 => lt' (w64 (Int.tdiv im16 t19)) fun im25 => lt' (w64 (Int.tdiv low17 t19)) fun low26 => ((cx_gcd.f ([b2.Den, a1.Den] : List Int)).bind fun t28 => (if ¬ t28 = 0 then (if ¬ t28 = 0 then lt' (w64 (Int.tdiv b2.Den t28)) fun up32 => lt' (w64 (Int.tdiv a1.Den t28)) fun down33 => ((cx_gcd.f ([up32, low26] : List Int)).bind fun t35 => (if ¬ t35 = 0 then (if ¬ t35 = 0 then lt' (w64 (Int.tdiv up32 t35)) fun up39 => lt' (w64 (Int.tdiv low26 t35)) fun low40 => ((cx_gcd.f ([re24, im25, down33] : List Int)).bind fun t42 => (if ¬ t42 = 0 then (if ¬ t42 = 0 then (if ¬ t42 = 0 then lt' (w64 (Int.tdiv re24 t42)) fun re47 => lt' (w64 (Int.tdiv im25 t42)) fun im48 => lt' (w64 (Int.tdiv down33 t42)) fun down49 => ((cx_Div_1.f re47 up39).bind fun t60 => (if (!t60) = true then cx_Div.k1 up39 low40 re47 im48 down49 true else ((cx_Div_1.f im48 up39).bind fun t63 => (if (!t63) = true then cx_Div.k1 up39 low40 re47 im48 down49 true else ((cx_Div_1.f low40 down49).bind fun t66 => cx_Div.k1 up39 low40 re47 im48 down49 (!t66)))))) else none) else none) else none)) else none) else none)) else none) else none)) else none) else none) else none))))))))

noncomputable def gain_Inv_1.f (a1 : Int) (a2 : Cx) : Option (Cx × Int) :=
  ((cx_Div.f (⟨1, 0, 1⟩ : Cx) a2).bind fun t5 => some (t5.1, t5.2))

noncomputable def gain_made__api_Cx_api_Cx__gain_Inv_1.s1 (l1 : (List Cx)) (out44 : List Cx) (x48 : Int) : Option (St ((List Cx) × Int) (List Cx) ((List Cx) × Int)) :=
  (if (decide (x48 < (l1.length : Int))) = true then (if 0 ≤ x48 ∧ x48 < (l1.length : Int) then ((gain_Inv_1.f x48 (ix l1 x48)).bind fun t73 => (if (!decide (t73.2 = 0)) = true then some (.ret ([], 16)) else (if out44.length + ([t73.1] : List Cx).length ≤ 5864062014805 then some (.next ((out44 ++ ([t73.1] : List Cx)), w64 (x48 + 1))) else none))) else none) else some (.brk out44))
noncomputable def gain_made__api_Cx_api_Cx__gain_Inv_1.k2 (out63 : List Cx) : Option ((List Cx) × Int) :=
  some (out63, 0)
noncomputable def gain_made__api_Cx_api_Cx__gain_Inv_1.f (l1 : (List Cx)) : Option ((List Cx) × Int) :=
  ((iter (fun (s : ((List Cx) × Int)) => gain_made__api_Cx_api_Cx__gain_Inv_1.s1 l1 s.1 s.2) ([], 0)).bind fun o1 => fin o1 (fun (t : List Cx) => gain_made__api_Cx_api_Cx__gain_Inv_1.k2 t))

noncomputable def gain_Inv.f (g1 : (List Cx)) : Option ((List Cx) × Int) :=
  ((gain_Check.f g1).bind fun t5 => (if (!decide (t5 = 0)) = true then some ([], t5) else ((gain_made__api_Cx_api_Cx__gain_Inv_1.f g1).bind fun t8 => some (t8.1, t8.2))))

noncomputable def corrupt_acted__gain_Inv.s3 (s1 : (List (List Vis))) (tables61 : List (List Cx)) (out138 : List (List Vis)) (x142 : Int) : Option (St ((List (List Vis)) × Int) (List (List Vis)) ((List (List Vis)) × Int)) :=
  (if (decide (x142 < (s1.length : Int))) = true then (if 0 ≤ x142 ∧ x142 < (s1.length : Int) then (if 0 ≤ x142 ∧ x142 < (tables61.length : Int) then ((gain_Inv.f (ix tables61 x142)).bind fun t193 => (if (!decide (t193.2 = 0)) = true then some (.ret ([], t193.2)) else ((gain_Act.f t193.1 (ix s1 x142)).bind fun t199 => (if (!decide (t199.2 = 0)) = true then some (.ret ([], t199.2)) else (if out138.length + ([t199.1] : List (List Vis)).length ≤ 5864062014805 then some (.next ((out138 ++ ([t199.1] : List (List Vis))), w64 (x142 + 1))) else none))))) else none) else none) else some (.brk out138))
noncomputable def corrupt_acted__gain_Inv.k4 (out174 : List (List Vis)) : Option ((List (List Vis)) × Int) :=
  some (out174, 0)
noncomputable def corrupt_acted__gain_Inv.s1 (s1 : (List (List Vis))) (l5 : (List Spoil)) (tables45 : List (List Cx)) (x49 : Int) : Option (St ((List (List Cx)) × Int) (List (List Cx)) ((List (List Vis)) × Int)) :=
  (if (decide (x49 < gmax 1 (s1.length : Int))) = true then ((corrupt_Table.f l5 x49).bind fun t210 => (if (!decide (t210.2 = 0)) = true then some (.ret ([], t210.2)) else (if tables45.length + ([t210.1] : List (List Cx)).length ≤ 5864062014805 then some (.next ((tables45 ++ ([t210.1] : List (List Cx))), w64 (x49 + 1))) else none))) else some (.brk tables45))
noncomputable def corrupt_acted__gain_Inv.k2 (s1 : (List (List Vis))) (tables61 : List (List Cx)) : Option ((List (List Vis)) × Int) :=
  ((iter (fun (s : ((List (List Vis)) × Int)) => corrupt_acted__gain_Inv.s3 s1 tables61 s.1 s.2) ([], 0)).bind fun o1 => fin o1 (fun (t : List (List Vis)) => corrupt_acted__gain_Inv.k4 t))
noncomputable def corrupt_acted__gain_Inv.f (s1 : (List (List Vis))) (l5 : (List Spoil)) : Option ((List (List Vis)) × Int) :=
  ((corrupt_Check.f s1).bind fun t9 => (if (!decide (t9 = 0)) = true then some ([], t9) else ((iter (fun (s : ((List (List Cx)) × Int)) => corrupt_acted__gain_Inv.s1 s1 l5 s.1 s.2) ([], 0)).bind fun o1 => fin o1 (fun (t : List (List Cx)) => corrupt_acted__gain_Inv.k2 s1 t))))

noncomputable def corrupt_Undo.f (s1 : (List (List Vis))) (l5 : (List Spoil)) : Option ((List (List Vis)) × Int) :=
  ((corrupt_acted__gain_Inv.f s1 l5).bind fun t9 => some (t9.1, t9.2))

noncomputable def closure_Triples.k235 (x3556 : Int) (out3645 : List (A3 Int)) : Option (St ((List (A3 Int)) × Int) (List (A3 Int)) (St ((List (A3 Int)) × Int) (List (A3 Int)) (St ((List (A3 Int)) × Int) (List (A3 Int)) ((List (A3 Int)) × Int)))) :=
  some (.next (out3645, w64 (x3556 + 1)))
noncomputable def closure_Triples.k236 (x1866 : Int) (x3192 : Int) (out3552 : List (A3 Int)) (x3556 : Int) (x3659 : Bool) : Option (St ((List (A3 Int)) × Int) (List (A3 Int)) (St ((List (A3 Int)) × Int) (List (A3 Int)) (St ((List (A3 Int)) × Int) (List (A3 Int)) ((List (A3 Int)) × Int)))) :=
  (if x3659 = true then (if out3552.length + ([(⟨x1866, x3192, x3556⟩ : (A3 Int))] : List (A3 Int)).length ≤ 5864062014805 then closure_Triples.k235 x3556 (out3552 ++ ([(⟨x1866, x3192, x3556⟩ : (A3 Int))] : List (A3 Int))) else none) else closure_Triples.k235 x3556 out3552)
noncomputable def closure_Triples.s232 (has48 : (A8 (A8 Bool))) (x1866 : Int) (x3192 : Int) (out3552 : List (A3 Int)) (x3556 : Int) : Option (St ((List (A3 Int)) × Int) (List (A3 Int)) (St ((List (A3 Int)) × Int) (List (A3 Int)) (St ((List (A3 Int)) × Int) (List (A3 Int)) ((List (A3 Int)) × Int)))) :=
  (if (decide (x3556 < 8)) = true then (if 0 ≤ x3192 ∧ x3192 < 8 then (if (ix ([((ix ([has48.e0, has48.e1, has48.e2, has48.e3, has48.e4, has48.e5, has48.e6, has48.e7] : List (A8 Bool)) x1866).e0), ((ix ([has48.e0, has48.e1, has48.e2, has48.e3, has48.e4, has48.e5, has48.e6, has48.e7] : List (A8 Bool)) x1866).e1), ((ix ([has48.e0, has48.e1, has48.e2, has48.e3, has48.e4, has48.e5, has48.e6, has48.e7] : List (A8 Bool)) x1866).e2), ((ix ([has48.e0, has48.e1, has48.e2, has48.e3, has48.e4, has48.e5, has48.e6, has48.e7] : List (A8 Bool)) x1866).e3), ((ix ([has48.e0, has48.e1, has48.e2, has48.e3, has48.e4, has48.e5, has48.e6, has48.e7] : List (A8 Bool)) x1866).e4), ((ix ([has48.e0, has48.e1, has48.e2, has48.e3, has48.e4, has48.e5, has48.e6, has48.e7] : List (A8 Bool)) x1866).e5), ((ix ([has48.e0, has48.e1, has48.e2, has48.e3, has48.e4, has48.e5, has48.e6, has48.e7] : List (A8 Bool)) x1866).e6), ((ix ([has48.e0, has48.e1, has48.e2, has48.e3, has48.e4, has48.e5, has48.e6, has48.e7] : List (A8 Bool)) x1866).e7)] : List Bool) x3192) = true then (if 0 ≤ x3556 ∧ x3556 < 8 then (if (ix ([((ix ([has48.e0, has48.e1, has48.e2, has48.e3, has48.e4, has48.e5, has48.e6, has48.e7] : List (A8 Bool)) x1866).e0), ((ix ([has48.e0, has48.e1, has48.e2, has48.e3, has48.e4, has48.e5, has48.e6, has48.e7] : List (A8 Bool)) x1866).e1), ((ix ([has48.e0, has48.e1, has48.e2, has48.e3, has48.e4, has48.e5, has48.e6, has48.e7] : List (A8 Bool)) x1866).e2), ((ix ([has48.e0, has48.e1, has48.e2, has48.e3, has48.e4, has48.e5, has48.e6, has48.e7] : List (A8 Bool)) x1866).e3), ((ix ([has48.e0, has48.e1, has48.e2, has48.e3, has48.e4, has48.e5, has48.e6, has48.e7] : List (A8 Bool)) x1866).e4), ((ix ([has48.e0, has48.e1, has48.e2, has48.e3, has48.e4, has48.e5, has48.e6, has48.e7] : List (A8 Bool)) x1866).e5), ((ix ([has48.e0, has48.e1, has48.e2, has48.e3, has48.e4, has48.e5, has48.e6, has48.e7] : List (A8 Bool)) x1866).e6), ((ix ([has48.e0, has48.e1, has48.e2, has48.e3, has48.e4, has48.e5, has48.e6, has48.e7] : List (A8 Bool)) x1866).e7)] : List Bool) x3556) = true then (if 0 ≤ x3192 ∧ x3192 < 8 then (if 0 ≤ x3556 ∧ x3556 < 8 then closure_Triples.k236 x1866 x3192 out3552 x3556 (ix (A8.toLL has48) (x3192 * 8 + x3556)) else none) else none) else closure_Triples.k236 x1866 x3192 out3552 x3556 false) else none) else closure_Triples.k236 x1866 x3192 out3552 x3556 false) else none) else some (.brk out3552))
noncomputable def closure_Triples.k233 (x3192 : Int) (out3614 : List (A3 Int)) : Option (St ((List (A3 Int)) × Int) (List (A3 Int)) (St ((List (A3 Int)) × Int) (List (A3 Int)) ((List (A3 Int)) × Int))) :=
  some (.next (out3614, w64 (x3192 + 1)))
noncomputable def closure_Triples.s221 (has48 : (A8 (A8 Bool))) (x1866 : Int) (out3188 : List (A3 Int)) (x3192 : Int) : Option (St ((List (A3 Int)) × Int) (List (A3 Int)) (St ((List (A3 Int)) × Int) (List (A3 Int)) ((List (A3 Int)) × Int))) :=
  (if (decide (x3192 < 8)) = true then ((iter (fun (s : ((List (A3 Int)) × Int)) => closure_Triples.s232 has48 x1866 x3192 s.1 s.2) (out3188, 0)).bind fun o3 => fin o3 (fun (t : List (A3 Int)) => closure_Triples.k233 x3192 t)) else some (.brk out3188))
noncomputable def closure_Triples.k222 (x1866 : Int) (out3432 : List (A3 Int)) : Option (St ((List (A3 Int)) × Int) (List (A3 Int)) ((List (A3 Int)) × Int)) :=
  some (.next (out3432, w64 (x1866 + 1)))
noncomputable def closure_Triples.s177 (has48 : (A8 (A8 Bool))) (out1862 : List (A3 Int)) (x1866 : Int) : Option (St ((List (A3 Int)) × Int) (List (A3 Int)) ((List (A3 Int)) × Int)) :=
  (if (decide (x1866 < 8)) = true then (if 0 ≤ x1866 ∧ x1866 < 8 then ((iter (fun (s : ((List (A3 Int)) × Int)) => closure_Triples.s221 has48 x1866 s.1 s.2) (out1862, 0)).bind fun o2 => fin o2 (fun (t : List (A3 Int)) => closure_Triples.k222 x1866 t)) else none) else some (.brk out1862))
noncomputable def closure_Triples.k178 (out2769 : List (A3 Int)) : Option ((List (A3 Int)) × Int) :=
  some (out2769, 0)
noncomputable def closure_Triples.s1 (l1 : (List Vis)) (has35 : (A8 (A8 Bool))) (x36 : Int) : Option (St ((A8 (A8 Bool)) × Int) (A8 (A8 Bool)) ((List (A3 Int)) × Int)) :=
  (if (decide (x36 < (l1.length : Int))) = true then (if 0 ≤ x36 ∧ x36 < (l1.length : Int) then (if 0 ≤ (ix l1 x36).I ∧ (ix l1 x36).I < 8 then (if 0 ≤ (ix l1 x36).J ∧ (ix l1 x36).J < 8 then lt' (A8.ofLL ((A8.toLL has35).set (((ix l1 x36).I) * 8 + ((ix l1 x36).J)).toNat true)) fun arr3685 => some (.next (arr3685, w64 (x36 + 1))) else none) else none) else none) else some (.brk has35))
noncomputable def closure_Triples.k2 (has48 : (A8 (A8 Bool))) : Option ((List (A3 Int)) × Int) :=
  ((iter (fun (s : ((List (A3 Int)) × Int)) => closure_Triples.s177 has48 s.1 s.2) ([], 0)).bind fun o1 => fin o1 (fun (t : List (A3 Int)) => closure_Triples.k178 t))
noncomputable def closure_Triples.f (l1 : (List Vis)) : Option ((List (A3 Int)) × Int) :=
  ((closure_Check.f l1).bind fun t5 => (if (!decide (t5 = 0)) = true then some ([], t5) else ((iter (fun (s : ((A8 (A8 Bool)) × Int)) => closure_Triples.s1 l1 s.1 s.2) ((⟨(⟨false, false, false, false, false, false, false, false⟩ : (A8 Bool)), (⟨false, false, false, false, false, false, false, false⟩ : (A8 Bool)), (⟨false, false, false, false, false, false, false, false⟩ : (A8 Bool)), (⟨false, false, false, false, false, false, false, false⟩ : (A8 Bool)), (⟨false, false, false, false, false, false, false, false⟩ : (A8 Bool)), (⟨false, false, false, false, false, false, false, false⟩ : (A8 Bool)), (⟨false, false, false, false, false, false, false, false⟩ : (A8 Bool)), (⟨false, false, false, false, false, false, false, false⟩ : (A8 Bool))⟩ : (A8 (A8 Bool))), 0)).bind fun o1 => fin o1 (fun (t : (A8 (A8 Bool))) => closure_Triples.k2 t))))

noncomputable def closure_station.f (i1 : Int) : Option Bool :=
  (if (decide (0 ≤ i1)) = true then some (decide (i1 < 8)) else some false)

noncomputable def closure_apart.k6 (l1 : (List Int)) (seen56 : (A8 Bool)) (x60 : Int) (x91 : Bool) : Option (St ((A8 Bool) × Int) Unit Bool) :=
  (if x91 = true then some (.ret false) else (if 0 ≤ (ix l1 x60) ∧ (ix l1 x60) < 8 then lt' (A8.ofL (([seen56.e0, seen56.e1, seen56.e2, seen56.e3, seen56.e4, seen56.e5, seen56.e6, seen56.e7] : List Bool).set (ix l1 x60).toNat true)) fun arr95 => some (.next (arr95, w64 (x60 + 1))) else none))
noncomputable def closure_apart.s4 (l1 : (List Int)) (seen56 : (A8 Bool)) (x60 : Int) : Option (St ((A8 Bool) × Int) Unit Bool) :=
  (if (decide (x60 < (l1.length : Int))) = true then (if 0 ≤ x60 ∧ x60 < (l1.length : Int) then ((closure_station.f (ix l1 x60)).bind fun t96 => (if (!t96) = true then closure_apart.k6 l1 seen56 x60 true else (if 0 ≤ (ix l1 x60) ∧ (ix l1 x60) < 8 then closure_apart.k6 l1 seen56 x60 (ix ([seen56.e0, seen56.e1, seen56.e2, seen56.e3, seen56.e4, seen56.e5, seen56.e6, seen56.e7] : List Bool) (ix l1 x60)) else none))) else none) else some (.brk ()))
noncomputable def closure_apart.k5 : Option Bool :=
  some true
noncomputable def closure_apart.f (l1 : (List Int)) : Option Bool :=
  ((iter (fun (s : ((A8 Bool) × Int)) => closure_apart.s4 l1 s.1 s.2) ((⟨false, false, false, false, false, false, false, false⟩ : (A8 Bool)), 0)).bind fun o1 => fin o1 (fun (t : Unit) => closure_apart.k5))

noncomputable def closure_get_1.f (v1 : Vis) (v2 : Int) (v4 : Int) : Option Bool :=
  (if (decide (v1.I = gmin v2 v4)) = true then some (decide (v1.J = gmax v2 v4)) else some false)

noncomputable def slices_IndexFunc__api_Vis_api_Vis__closure_get_1.s1 (s1 : (List Vis)) (v5 : Int) (v7 : Int) (x27 : Int) : Option (St Int Unit Int) :=
  (if (decide (x27 < (s1.length : Int))) = true then (if 0 ≤ x27 ∧ x27 < (s1.length : Int) then ((closure_get_1.f (ix s1 x27) v5 v7).bind fun t41 => (if t41 = true then some (.ret x27) else some (.next (w64 (x27 + 1))))) else none) else some (.brk ()))
noncomputable def slices_IndexFunc__api_Vis_api_Vis__closure_get_1.k2 : Option Int :=
  some (-1)
noncomputable def slices_IndexFunc__api_Vis_api_Vis__closure_get_1.f (s1 : (List Vis)) (v5 : Int) (v7 : Int) : Option Int :=
  ((iter (fun (s : Int) => slices_IndexFunc__api_Vis_api_Vis__closure_get_1.s1 s1 v5 v7 s) 0).bind fun o1 => fin o1 (fun (t : Unit) => slices_IndexFunc__api_Vis_api_Vis__closure_get_1.k2))

noncomputable def closure_get.k1 (v19 : Cx) : Option (Cx × Int) :=
  some (v19, 0)
noncomputable def closure_get.f (l1 : (List Vis)) (i5 : Int) (j6 : Int) : Option (Cx × Int) :=
  ((slices_IndexFunc__api_Vis_api_Vis__closure_get_1.f l1 i5 j6).bind fun t10 => (if (decide (t10 < 0)) = true then some ((⟨0, 0, 0⟩ : Cx), 6) else (if 0 ≤ t10 ∧ t10 < (l1.length : Int) then (if (decide (j6 < i5)) = true then closure_get.k1 (⟨((ix l1 t10).V.Re), (w64 (0 - (ix l1 t10).V.Im)), ((ix l1 t10).V.Den)⟩ : Cx) else closure_get.k1 ((ix l1 t10).V)) else none)))

noncomputable def closure_along.k13 (out74 : List Cx) (x82 : Int) (t117 : Cx × Int) (zero125 : Int) : Option (St ((List Cx) × Int × Int) ((List Cx) × Int) ((List Cx) × Int)) :=
  (if out74.length + ([t117.1] : List Cx).length ≤ 5864062014805 then some (.next ((out74 ++ ([t117.1] : List Cx)), zero125, w64 (x82 + 1))) else none)
noncomputable def closure_along.k14 (out74 : List Cx) (zero78 : Int) (x82 : Int) (t117 : Cx × Int) (x131 : Bool) : Option (St ((List Cx) × Int × Int) ((List Cx) × Int) ((List Cx) × Int)) :=
  (if x131 = true then closure_along.k13 out74 x82 t117 18 else closure_along.k13 out74 x82 t117 zero78)
noncomputable def closure_along.s10 (l1 : (List Vis)) (steps5 : (List Pair)) (out74 : List Cx) (zero78 : Int) (x82 : Int) : Option (St ((List Cx) × Int × Int) ((List Cx) × Int) ((List Cx) × Int)) :=
  (if (decide (x82 < (steps5.length : Int))) = true then (if 0 ≤ x82 ∧ x82 < (steps5.length : Int) then ((closure_get.f l1 ((ix steps5 x82).I) ((ix steps5 x82).J)).bind fun t117 => (if (!decide (t117.2 = 0)) = true then some (.ret ([], t117.2)) else (if (decide (t117.1.Re = 0)) = true then closure_along.k14 out74 zero78 x82 t117 (decide (t117.1.Im = 0)) else closure_along.k14 out74 zero78 x82 t117 false))) else none) else some (.brk (out74, zero78)))
noncomputable def closure_along.k11 (out106 : List Cx) (zero110 : Int) : Option ((List Cx) × Int) :=
  some (out106, zero110)
noncomputable def closure_along.f (l1 : (List Vis)) (steps5 : (List Pair)) : Option ((List Cx) × Int) :=
  ((iter (fun (s : ((List Cx) × Int × Int)) => closure_along.s10 l1 steps5 s.1 s.2.1 s.2.2) ([], 0, 0)).bind fun o1 => fin o1 (fun (t : ((List Cx) × Int)) => closure_along.k11 t.1 t.2))

noncomputable def cx_Ray.f (a1 : Cx) : Option (Cx × Int) :=
  ((cx_Check.f a1).bind fun t4 => (if (!decide (t4 = 0)) = true then some ((⟨0, 0, 0⟩ : Cx), t4) else ((cx_zero.f a1).bind fun t7 => (if t7 = true then some ((⟨0, 0, 0⟩ : Cx), 18) else ((cx_gcd.f ([a1.Re, a1.Im] : List Int)).bind fun t11 => (if ¬ t11 = 0 then (if ¬ t11 = 0 then some ((⟨(w64 (Int.tdiv a1.Re t11)), (w64 (Int.tdiv a1.Im t11)), 1⟩ : Cx), 0) else none) else none))))))

noncomputable def closure_Phase.s4 (t83 : (List Cx) × Int) (p122 : Cx) (x123 : Int) : Option (St (Cx × Int) Cx (Cx × Int)) :=
  (if (decide (x123 < (t83.1.length : Int))) = true then (if 0 ≤ x123 ∧ x123 < (t83.1.length : Int) then ((cx_Ray.f (ix t83.1 x123)).bind fun t145 => ((cx_Mul.f p122 t145.1).bind fun t148 => (if (!decide (t148.2 = 0)) = true then some (.ret ((⟨0, 0, 0⟩ : Cx), 16)) else ((cx_Ray.f t148.1).bind fun t151 => some (.next (t151.1, w64 (x123 + 1))))))) else none) else some (.brk p122))
noncomputable def closure_Phase.k5 (p138 : Cx) : Option (Cx × Int) :=
  some (p138, 0)
noncomputable def closure_Phase.s2 (circle5 : (List Int)) (steps59 : List Pair) (x63 : Int) : Option (St ((List Pair) × Int) (List Pair) (Cx × Int)) :=
  (if (decide (x63 < (circle5.length : Int))) = true then (if 0 ≤ x63 ∧ x63 < (circle5.length : Int) then lt' ((ix circle5 x63)) fun i158 => (if ¬ (circle5.length : Int) = 0 then (if 0 ≤ Int.tmod (w64 (x63 + 1)) (circle5.length : Int) ∧ Int.tmod (w64 (x63 + 1)) (circle5.length : Int) < (circle5.length : Int) then (if steps59.length + ([(⟨i158, (ix circle5 (Int.tmod (w64 (x63 + 1)) (circle5.length : Int)))⟩ : Pair)] : List Pair).length ≤ 8796093022208 then some (.next ((steps59 ++ ([(⟨i158, (ix circle5 (Int.tmod (w64 (x63 + 1)) (circle5.length : Int)))⟩ : Pair)] : List Pair)), w64 (x63 + 1))) else none) else none) else none) else none) else some (.brk steps59))
noncomputable def closure_Phase.k3 (l1 : (List Vis)) (steps79 : List Pair) : Option (Cx × Int) :=
  ((closure_along.f l1 steps79).bind fun t83 => (if (!decide (t83.2 = 0)) = true then some ((⟨0, 0, 0⟩ : Cx), t83.2) else ((iter (fun (s : (Cx × Int)) => closure_Phase.s4 t83 s.1 s.2) ((⟨1, 0, 1⟩ : Cx), 0)).bind fun o1 => fin o1 (fun (t : Cx) => closure_Phase.k5 t))))
noncomputable def closure_Phase.k1 (l1 : (List Vis)) (circle5 : (List Int)) (x17 : Bool) : Option (Cx × Int) :=
  (if x17 = true then some ((⟨0, 0, 0⟩ : Cx), 2) else ((iter (fun (s : ((List Pair) × Int)) => closure_Phase.s2 circle5 s.1 s.2) ([], 0)).bind fun o1 => fin o1 (fun (t : List Pair) => closure_Phase.k3 l1 t)))
noncomputable def closure_Phase.f (l1 : (List Vis)) (circle5 : (List Int)) : Option (Cx × Int) :=
  ((closure_Check.f l1).bind fun t10 => (if (!decide (t10 = 0)) = true then some ((⟨0, 0, 0⟩ : Cx), t10) else (if (decide ((circle5.length : Int) < 3)) = true then closure_Phase.k1 l1 circle5 true else (if (decide (8 < (circle5.length : Int))) = true then closure_Phase.k1 l1 circle5 true else ((closure_apart.f circle5).bind fun t170 => closure_Phase.k1 l1 circle5 (!t170))))))

noncomputable def corrupt_stations.s1 (l1 : (List Vis)) (out36 : List Int) (x40 : Int) : Option (St ((List Int) × Int) (List Int) (List Int)) :=
  (if (decide (x40 < (l1.length : Int))) = true then (if 0 ≤ x40 ∧ x40 < (l1.length : Int) then (if out36.length + ([((ix l1 x40).I), ((ix l1 x40).J)] : List Int).length ≤ 17592186044416 then some (.next ((out36 ++ ([((ix l1 x40).I), ((ix l1 x40).J)] : List Int)), w64 (x40 + 1))) else none) else none) else some (.brk out36))
noncomputable def corrupt_stations.k2 (out51 : List Int) : Option (List Int) :=
  (if out51.length ≤ 4611686018427387903 then lt' (sortI out51) fun l55 => (if l55.length ≤ 4611686018427387903 then lt' (Lib.compact l55) fun l57 => some l57 else none) else none)
noncomputable def corrupt_stations.f (l1 : (List Vis)) : Option (List Int) :=
  ((iter (fun (s : ((List Int) × Int)) => corrupt_stations.s1 l1 s.1 s.2) ([], 0)).bind fun o1 => fin o1 (fun (t : List Int) => corrupt_stations.k2 t))

noncomputable def cx_Norm.f (a1 : Cx) : Option (Frac × Int) :=
  ((cx_Check.f a1).bind fun t4 => (if (!decide (t4 = 0)) = true then some ((⟨0, 0⟩ : Frac), t4) else lt' (w64 ((w64 (a1.Re * a1.Re)) + (w64 (a1.Im * a1.Im)))) fun n7 => lt' (w64 (a1.Den * a1.Den)) fun d8 => ((cx_gcd.f ([n7, d8] : List Int)).bind fun t10 => (if ¬ t10 = 0 then (if (decide (1000000000000000000 < w64 (Int.tdiv n7 t10))) = true then some ((⟨0, 0⟩ : Frac), 16) else (if ¬ t10 = 0 then (if ¬ t10 = 0 then some ((⟨(w64 (Int.tdiv n7 t10)), (w64 (Int.tdiv d8 t10))⟩ : Frac), 0) else none) else none)) else none))))

noncomputable def closure_Amp.k2 (e51 : Int) (up54 : Cx) (down84 : Cx) (f85 : Int) : Option (Frac × Int) :=
  ((cmp_Or__api_Errno.f ([e51, f85] : List Int)).bind fun t87 => (if (!decide (t87 = 0)) = true then some ((⟨0, 0⟩ : Frac), t87) else ((cx_Div.f up54 down84).bind fun t90 => (if (!decide (t90.2 = 0)) = true then some ((⟨0, 0⟩ : Frac), t90.2) else ((cx_Norm.f t90.1).bind fun t94 => some (t94.1, t94.2))))))
noncomputable def closure_Amp.k1 (t18 : (List Cx) × Int) (e51 : Int) (up54 : Cx) : Option (Frac × Int) :=
  (if (0 : Int) ≤ 2 ∧ 2 < (t18.1.length : Int) then (if (0 : Int) ≤ 3 ∧ 3 < (t18.1.length : Int) then ((cx_Mul.f (ix t18.1 2) (ix t18.1 3)).bind fun t104 => closure_Amp.k2 e51 up54 t104.1 t104.2) else none) else none)
noncomputable def closure_Amp.f (l1 : (List Vis)) (a5 : Int) (b6 : Int) (c7 : Int) (d8 : Int) : Option (Frac × Int) :=
  ((closure_Check.f l1).bind fun t10 => (if (!decide (t10 = 0)) = true then some ((⟨0, 0⟩ : Frac), t10) else ((closure_apart.f ([a5, b6, c7, d8] : List Int)).bind fun t14 => (if (!t14) = true then some ((⟨0, 0⟩ : Frac), 2) else ((closure_along.f l1 ([(⟨a5, b6⟩ : Pair), (⟨c7, d8⟩ : Pair), (⟨a5, c7⟩ : Pair), (⟨b6, d8⟩ : Pair)] : List Pair)).bind fun t18 => (if (!decide (t18.2 = 0)) = true then some ((⟨0, 0⟩ : Frac), t18.2) else (if (0 : Int) ≤ 0 ∧ 0 < (t18.1.length : Int) then (if (0 : Int) ≤ 1 ∧ 1 < (t18.1.length : Int) then ((cx_Mul.f (ix t18.1 0) (ix t18.1 1)).bind fun t131 => closure_Amp.k1 t18 t131.2 t131.1) else none) else none)))))))

noncomputable def corrupt_alike_1.f (i1 : Int) (j2 : Int) (k3 : Int) (n4 : Int) (v5 : (List Vis)) (v10 : (List Vis)) : Option Bool :=
  ((closure_Amp.f v5 i1 j2 k3 n4).bind fun t15 => ((closure_Amp.f v10 i1 j2 k3 n4).bind fun t18 => (if (!decide (t15.2 = 0)) = true then some true else (if (!decide (t18.2 = 0)) = true then some true else some (decide (t15.1 = t18.1))))))

noncomputable def corrupt_alike_2.f (i1 : Int) (j2 : Int) (k3 : Int) (n4 : Int) (v5 : (List Vis)) (v10 : (List Vis)) : Option Bool :=
  ((corrupt_alike_1.f i1 j2 k3 n4 v5 v10).bind fun t16 => (if t16 = true then ((corrupt_alike_1.f i1 k3 n4 j2 v5 v10).bind fun t19 => some t19) else some false))

noncomputable def corrupt_fours__corrupt_alike_2.s169 (l1 : (List Int)) (v5 : (List Vis)) (v10 : (List Vis)) (x1894 : Int) (b3540 : Int) (x3660 : Int) (c3717 : Int) (x3744 : Int) : Option (St Int Unit (St Int Unit (St Int Unit (St Int Unit Bool)))) :=
  (if (decide (x3744 < (((l1.take x3660.toNat).drop 0).length : Int))) = true then (if 0 ≤ x3744 ∧ x3744 < (((l1.take x3660.toNat).drop 0).length : Int) then lt' ((ix ((l1.take x3660.toNat).drop 0) x3744)) fun d3759 => ((corrupt_alike_2.f d3759 c3717 b3540 (ix l1 x1894) v5 v10).bind fun t3760 => (if (!t3760) = true then some (.ret (.ret (.ret (.ret false)))) else some (.next (w64 (x3744 + 1))))) else none) else some (.brk ()))
noncomputable def corrupt_fours__corrupt_alike_2.k170 (x3660 : Int) : Option (St Int Unit (St Int Unit (St Int Unit Bool))) :=
  some (.next (w64 (x3660 + 1)))
noncomputable def corrupt_fours__corrupt_alike_2.s167 (l1 : (List Int)) (v5 : (List Vis)) (v10 : (List Vis)) (x1894 : Int) (x3306 : Int) (b3540 : Int) (x3660 : Int) : Option (St Int Unit (St Int Unit (St Int Unit Bool))) :=
  (if (decide (x3660 < (((l1.take x3306.toNat).drop 0).length : Int))) = true then (if 0 ≤ x3660 ∧ x3660 < (((l1.take x3306.toNat).drop 0).length : Int) then lt' ((ix ((l1.take x3306.toNat).drop 0) x3660)) fun c3717 => (if 0 ≤ x3660 ∧ x3660 ≤ (l1.length : Int) then ((iter (fun (s : Int) => corrupt_fours__corrupt_alike_2.s169 l1 v5 v10 x1894 b3540 x3660 c3717 s) 0).bind fun o4 => fin o4 (fun (t : Unit) => corrupt_fours__corrupt_alike_2.k170 x3660)) else none) else none) else some (.brk ()))
noncomputable def corrupt_fours__corrupt_alike_2.k168 (x3306 : Int) : Option (St Int Unit (St Int Unit Bool)) :=
  some (.next (w64 (x3306 + 1)))
noncomputable def corrupt_fours__corrupt_alike_2.s159 (l1 : (List Int)) (v5 : (List Vis)) (v10 : (List Vis)) (x1894 : Int) (x3306 : Int) : Option (St Int Unit (St Int Unit Bool)) :=
  (if (decide (x3306 < (((l1.take x1894.toNat).drop 0).length : Int))) = true then (if 0 ≤ x3306 ∧ x3306 < (((l1.take x1894.toNat).drop 0).length : Int) then lt' ((ix ((l1.take x1894.toNat).drop 0) x3306)) fun b3540 => (if 0 ≤ x3306 ∧ x3306 ≤ (l1.length : Int) then ((iter (fun (s : Int) => corrupt_fours__corrupt_alike_2.s167 l1 v5 v10 x1894 x3306 b3540 s) 0).bind fun o3 => fin o3 (fun (t : Unit) => corrupt_fours__corrupt_alike_2.k168 x3306)) else none) else none) else some (.brk ()))
noncomputable def corrupt_fours__corrupt_alike_2.k160 (x1894 : Int) : Option (St Int Unit Bool) :=
  some (.next (w64 (x1894 + 1)))
noncomputable def corrupt_fours__corrupt_alike_2.s127 (l1 : (List Int)) (v5 : (List Vis)) (v10 : (List Vis)) (x1894 : Int) : Option (St Int Unit Bool) :=
  (if (decide (x1894 < (l1.length : Int))) = true then (if 0 ≤ x1894 ∧ x1894 < (l1.length : Int) then (if 0 ≤ x1894 ∧ x1894 ≤ (l1.length : Int) then ((iter (fun (s : Int) => corrupt_fours__corrupt_alike_2.s159 l1 v5 v10 x1894 s) 0).bind fun o2 => fin o2 (fun (t : Unit) => corrupt_fours__corrupt_alike_2.k160 x1894)) else none) else none) else some (.brk ()))
noncomputable def corrupt_fours__corrupt_alike_2.k128 : Option Bool :=
  some true
noncomputable def corrupt_fours__corrupt_alike_2.f (l1 : (List Int)) (v5 : (List Vis)) (v10 : (List Vis)) : Option Bool :=
  ((iter (fun (s : Int) => corrupt_fours__corrupt_alike_2.s127 l1 v5 v10 s) 0).bind fun o1 => fin o1 (fun (t : Unit) => corrupt_fours__corrupt_alike_2.k128))

noncomputable def corrupt_alike.k14 (x187 : Int) (x322 : Bool) : Option (St Int Unit Bool) :=
  (if x322 = true then some (.ret false) else some (.next (w64 (x187 + 1))))
noncomputable def corrupt_alike.k13 (x187 : Int) (p299 : Cx) (e300 : Int) (q318 : Cx) (f319 : Int) : Option (St Int Unit Bool) :=
  (if (decide (e300 = 0)) = true then (if (decide (f319 = 0)) = true then corrupt_alike.k14 x187 (!decide (p299 = q318)) else corrupt_alike.k14 x187 false) else corrupt_alike.k14 x187 false)
noncomputable def corrupt_alike.k12 (b5 : (List Vis)) (t11 : (List (A3 Int)) × Int) (x187 : Int) (p299 : Cx) (e300 : Int) : Option (St Int Unit Bool) :=
  ((closure_Phase.f b5 ([((ix t11.1 x187).e0), ((ix t11.1 x187).e1), ((ix t11.1 x187).e2)] : List Int)).bind fun t327 => corrupt_alike.k13 x187 p299 e300 t327.1 t327.2)
noncomputable def corrupt_alike.s10 (a1 : (List Vis)) (b5 : (List Vis)) (t11 : (List (A3 Int)) × Int) (x187 : Int) : Option (St Int Unit Bool) :=
  (if (decide (x187 < (t11.1.length : Int))) = true then (if 0 ≤ x187 ∧ x187 < (t11.1.length : Int) then ((closure_Phase.f a1 ([((ix t11.1 x187).e0), ((ix t11.1 x187).e1), ((ix t11.1 x187).e2)] : List Int)).bind fun t342 => corrupt_alike.k12 b5 t11 x187 t342.1 t342.2) else none) else some (.brk ()))
noncomputable def corrupt_alike.k11 (a1 : (List Vis)) (b5 : (List Vis)) : Option Bool :=
  ((corrupt_stations.f a1).bind fun t269 => ((corrupt_fours__corrupt_alike_2.f t269 a1 b5).bind fun t274 => some t274))
noncomputable def corrupt_alike.f (a1 : (List Vis)) (b5 : (List Vis)) : Option Bool :=
  ((closure_Triples.f a1).bind fun t11 => ((iter (fun (s : Int) => corrupt_alike.s10 a1 b5 t11 s) 0).bind fun o1 => fin o1 (fun (t : Unit) => corrupt_alike.k11 a1 b5)))

noncomputable def corrupt_Alike_1.f (v1 : (List Vis)) (w5 : (List Vis)) : Option Bool :=
  ((corrupt_baselines.f v1 w5).bind fun t9 => (if t9 = true then ((corrupt_alike.f v1 w5).bind fun t12 => some t12) else some false))

noncomputable def slices_EqualFunc__api_Vis_api_Vis_api_Vis_api_Vis__corrupt_Alike_1.s1 (s1 : (List (List Vis))) (s5 : (List (List Vis))) (x48 : Int) : Option (St Int Unit Bool) :=
  (if (decide (x48 < (s1.length : Int))) = true then (if 0 ≤ x48 ∧ x48 < (s1.length : Int) then (if 0 ≤ x48 ∧ x48 < (s5.length : Int) then ((corrupt_Alike_1.f (ix s1 x48) (ix s5 x48)).bind fun t82 => (if (!t82) = true then some (.ret false) else some (.next (w64 (x48 + 1))))) else none) else none) else some (.brk ()))
noncomputable def slices_EqualFunc__api_Vis_api_Vis_api_Vis_api_Vis__corrupt_Alike_1.k2 : Option Bool :=
  some true
noncomputable def slices_EqualFunc__api_Vis_api_Vis_api_Vis_api_Vis__corrupt_Alike_1.f (s1 : (List (List Vis))) (s5 : (List (List Vis))) : Option Bool :=
  (if (!decide ((s1.length : Int) = (s5.length : Int))) = true then some false else ((iter (fun (s : Int) => slices_EqualFunc__api_Vis_api_Vis_api_Vis_api_Vis__corrupt_Alike_1.s1 s1 s5 s) 0).bind fun o1 => fin o1 (fun (t : Unit) => slices_EqualFunc__api_Vis_api_Vis_api_Vis_api_Vis__corrupt_Alike_1.k2)))

noncomputable def corrupt_Alike.f (a1 : (List (List Vis))) (b5 : (List (List Vis))) : Option (Bool × Int) :=
  ((corrupt_Check.f a1).bind fun t9 => (if (!decide (t9 = 0)) = true then some (false, t9) else ((corrupt_Check.f b5).bind fun t12 => (if (!decide (t12 = 0)) = true then some (false, t12) else ((slices_EqualFunc__api_Vis_api_Vis_api_Vis_api_Vis__corrupt_Alike_1.f a1 b5).bind fun t15 => some (t15, 0))))))

noncomputable def law35_example.f : Option (List Spoil) :=
  ((law35_of.f 3 0 1).bind fun t1 => some ([(⟨1, 2, 0, 9, t1, 0⟩ : Spoil), (⟨3, 2, 3, 9, (⟨0, 0, 0⟩ : Cx), 1⟩ : Spoil)] : List Spoil))

noncomputable def ref25_Same.s1 (a1 : (List Cx)) (b5 : (List Cx)) (i32 : Int) : Option (St Int Unit Bool) :=
  (if (decide (i32 < (a1.length : Int))) = true then (if 0 ≤ i32 ∧ i32 < (a1.length : Int) then (if 0 ≤ i32 ∧ i32 < (b5.length : Int) then (if (!decide ((ix a1 i32) = (ix b5 i32))) = true then some (.ret false) else some (.next (w64 (i32 + 1)))) else none) else none) else some (.brk ()))
noncomputable def ref25_Same.k2 : Option Bool :=
  some true
noncomputable def ref25_Same.f (a1 : (List Cx)) (b5 : (List Cx)) : Option Bool :=
  (if (!decide ((a1.length : Int) = (b5.length : Int))) = true then some false else ((iter (fun (s : Int) => ref25_Same.s1 a1 b5 s) 0).bind fun o1 => fin o1 (fun (t : Unit) => ref25_Same.k2)))

noncomputable def law35_alive.f : Option Bool :=
  ((law35_example.f).bind fun t1 => ((corrupt_Table.f t1 5).bind fun t6 => ((ref26_One.f).bind fun t11 => (if (decide (t6.2 = 0)) = true then ((law35_of.f (-3) 0 1).bind fun t15 => ((ref25_Same.f t6.1 ([t11, t11, t15, t11, t11, t11, t11, t11] : List Cx)).bind fun t18 => some t18)) else some false))))

noncomputable def ref26_Same.s1 (a1 : (List Vis)) (b5 : (List Vis)) (i32 : Int) : Option (St Int Unit Bool) :=
  (if (decide (i32 < (a1.length : Int))) = true then (if 0 ≤ i32 ∧ i32 < (a1.length : Int) then (if 0 ≤ i32 ∧ i32 < (b5.length : Int) then (if (!decide ((ix a1 i32) = (ix b5 i32))) = true then some (.ret false) else some (.next (w64 (i32 + 1)))) else none) else none) else some (.brk ()))
noncomputable def ref26_Same.k2 : Option Bool :=
  some true
noncomputable def ref26_Same.f (a1 : (List Vis)) (b5 : (List Vis)) : Option Bool :=
  (if (!decide ((a1.length : Int) = (b5.length : Int))) = true then some false else ((iter (fun (s : Int) => ref26_Same.s1 a1 b5 s) 0).bind fun o1 => fin o1 (fun (t : Unit) => ref26_Same.k2)))

noncomputable def ref35_Same.k6 (t194 : Int) (x331 : Bool) : Option (St Int Unit Bool) :=
  (if x331 = true then some (.ret false) else some (.next (w64 (t194 + 1))))
noncomputable def ref35_Same.s4 (a1 : (List (List Vis))) (b5 : (List (List Vis))) (t194 : Int) : Option (St Int Unit Bool) :=
  (if (decide (t194 < (a1.length : Int))) = true then (if 0 ≤ t194 ∧ t194 < (a1.length : Int) then (if 0 ≤ t194 ∧ t194 < (b5.length : Int) then ((ref26_Same.f (ix a1 t194) (ix b5 t194)).bind fun t347 => ref35_Same.k6 t194 (!t347)) else none) else none) else some (.brk ()))
noncomputable def ref35_Same.k5 : Option Bool :=
  some true
noncomputable def ref35_Same.f (a1 : (List (List Vis))) (b5 : (List (List Vis))) : Option Bool :=
  (if (!decide ((a1.length : Int) = (b5.length : Int))) = true then some false else ((iter (fun (s : Int) => ref35_Same.s4 a1 b5 s) 0).bind fun o1 => fin o1 (fun (t : Unit) => ref35_Same.k5)))

noncomputable def law35_CorruptNames.k9 (t1 : Cx) (late280 : List (List Vis)) (l284 : Int) (t290 : Bool × Int) (t296 : Bool × Int) (yes362 : Bool) (o363 : Int) (ok377 : Bool) : Option Bool :=
  (if ok377 = true then (if (decide (l284 = 0)) = true then ((ref35_Same.f late280 ([([(⟨0, 1, t1, 0⟩ : Vis)] : List Vis)] : List (List Vis))).bind fun t382 => (if t382 = true then (if (decide (t290.2 = 0)) = true then (if (!t290.1) = true then (if (decide (t296.2 = 0)) = true then (if (!t296.1) = true then (if (decide (o363 = 0)) = true then some yes362 else some false) else some false) else some false) else some false) else some false) else some false)) else some false) else some false)
noncomputable def law35_CorruptNames.k8 (t1 : Cx) (t112 : (List Cx) × Int) (t117 : (List Cx) × Int) (t126 : (List Cx) × Int) (t135 : (List Cx) × Int) (t144 : Int) (t150 : Int) (t154 : Int) (t159 : Int) (t163 : Int) (t168 : (List (List Vis)) × Int) (k218 : Int) (late280 : List (List Vis)) (l284 : Int) (t290 : Bool × Int) (t296 : Bool × Int) (yes362 : Bool) (o363 : Int) : Option Bool :=
  ((law35_alive.f).bind fun t390 => (if t390 = true then (if (decide (t112.2 = 2)) = true then (if (decide (t117.2 = 2)) = true then (if (decide (t126.2 = 4)) = true then (if (decide (t135.2 = 16)) = true then (if (decide (t144 = 4)) = true then (if (decide (t150 = 8)) = true then (if (decide (t154 = 14)) = true then (if (decide (t159 = 8)) = true then (if (decide (t163 = 8)) = true then (if (decide (t168.2 = 16)) = true then law35_CorruptNames.k9 t1 late280 l284 t290 t296 yes362 o363 (decide (k218 = 16)) else law35_CorruptNames.k9 t1 late280 l284 t290 t296 yes362 o363 false) else law35_CorruptNames.k9 t1 late280 l284 t290 t296 yes362 o363 false) else law35_CorruptNames.k9 t1 late280 l284 t290 t296 yes362 o363 false) else law35_CorruptNames.k9 t1 late280 l284 t290 t296 yes362 o363 false) else law35_CorruptNames.k9 t1 late280 l284 t290 t296 yes362 o363 false) else law35_CorruptNames.k9 t1 late280 l284 t290 t296 yes362 o363 false) else law35_CorruptNames.k9 t1 late280 l284 t290 t296 yes362 o363 false) else law35_CorruptNames.k9 t1 late280 l284 t290 t296 yes362 o363 false) else law35_CorruptNames.k9 t1 late280 l284 t290 t296 yes362 o363 false) else law35_CorruptNames.k9 t1 late280 l284 t290 t296 yes362 o363 false) else law35_CorruptNames.k9 t1 late280 l284 t290 t296 yes362 o363 false))
noncomputable def law35_CorruptNames.k7 (t1 : Cx) (t112 : (List Cx) × Int) (t117 : (List Cx) × Int) (t126 : (List Cx) × Int) (t135 : (List Cx) × Int) (t144 : Int) (t150 : Int) (t154 : Int) (t159 : Int) (t163 : Int) (t168 : (List (List Vis)) × Int) (k218 : Int) (late280 : List (List Vis)) (l284 : Int) : Option Bool :=
  ((corrupt_Alike.f ([([(⟨0, 1, t1, 0⟩ : Vis)] : List Vis)] : List (List Vis)) ([([(⟨0, 1, t1, 0⟩ : Vis)] : List Vis), ([(⟨0, 1, t1, 0⟩ : Vis)] : List Vis)] : List (List Vis))).bind fun t290 => ((corrupt_Alike.f ([([(⟨0, 1, t1, 0⟩ : Vis)] : List Vis)] : List (List Vis)) ([([(⟨1, 2, t1, 0⟩ : Vis)] : List Vis)] : List (List Vis))).bind fun t296 => ((law35_of.f 5 7 3).bind fun t405 => ((corrupt_Alike.f ([([(⟨0, 1, t1, 0⟩ : Vis)] : List Vis)] : List (List Vis)) ([([(⟨0, 1, t405, 4⟩ : Vis)] : List Vis)] : List (List Vis))).bind fun t409 => law35_CorruptNames.k8 t1 t112 t117 t126 t135 t144 t150 t154 t159 t163 t168 k218 late280 l284 t290 t296 t409.1 t409.2))))
noncomputable def law35_CorruptNames.k6 (t1 : Cx) (t112 : (List Cx) × Int) (t117 : (List Cx) × Int) (t126 : (List Cx) × Int) (t135 : (List Cx) × Int) (t144 : Int) (t150 : Int) (t154 : Int) (t159 : Int) (t163 : Int) (t168 : (List (List Vis)) × Int) (k218 : Int) : Option Bool :=
  ((law35_of.f 1000000000 1 1).bind fun t469 => ((corrupt_Undo.f ([([(⟨0, 1, t1, 0⟩ : Vis)] : List Vis)] : List (List Vis)) ([(⟨1, 0, 1, 32, t469, 0⟩ : Spoil)] : List Spoil)).bind fun t472 => law35_CorruptNames.k7 t1 t112 t117 t126 t135 t144 t150 t154 t159 t163 t168 k218 t472.1 t472.2))
noncomputable def law35_CorruptNames.k10 (i80 : Int) (x601 : Bool) : Option (St Int Unit Bool) :=
  (if x601 = true then some (.ret false) else some (.next (w64 (i80 + 1))))
noncomputable def law35_CorruptNames.s4 (t1 : Cx) (t4 : Cx) (i80 : Int) : Option (St Int Unit Bool) :=
  (if (decide (i80 < (([(⟨0, 0, 0, 0, (⟨0, 0, 0⟩ : Cx), 0⟩ : Spoil), (⟨4, 0, 0, 0, (⟨0, 0, 0⟩ : Cx), 0⟩ : Spoil), (⟨1, 0, 0, 0, (⟨0, 0, 0⟩ : Cx), 0⟩ : Spoil), (⟨1, 0, 0, 0, t4, 0⟩ : Spoil), (⟨1, 0, 0, 0, t1, 1⟩ : Spoil), (⟨2, 0, 0, 0, t1, 0⟩ : Spoil), (⟨2, 0, 0, 0, (⟨0, 0, 0⟩ : Cx), 4⟩ : Spoil), (⟨3, 0, 0, 0, (⟨0, 0, 0⟩ : Cx), (-1)⟩ : Spoil), (⟨2, 8, 0, 0, (⟨0, 0, 0⟩ : Cx), 0⟩ : Spoil), (⟨2, (-1), 0, 0, (⟨0, 0, 0⟩ : Cx), 0⟩ : Spoil), (⟨2, 0, (-1), 0, (⟨0, 0, 0⟩ : Cx), 0⟩ : Spoil), (⟨2, 0, 2, 1, (⟨0, 0, 0⟩ : Cx), 0⟩ : Spoil), (⟨2, 0, 0, 33, (⟨0, 0, 0⟩ : Cx), 0⟩ : Spoil)] : List Spoil).length : Int))) = true then (if 0 ≤ w64 (i80 + 1) ∧ w64 (i80 + 1) ≤ (([(⟨0, 0, 0, 0, (⟨0, 0, 0⟩ : Cx), 0⟩ : Spoil), (⟨4, 0, 0, 0, (⟨0, 0, 0⟩ : Cx), 0⟩ : Spoil), (⟨1, 0, 0, 0, (⟨0, 0, 0⟩ : Cx), 0⟩ : Spoil), (⟨1, 0, 0, 0, t4, 0⟩ : Spoil), (⟨1, 0, 0, 0, t1, 1⟩ : Spoil), (⟨2, 0, 0, 0, t1, 0⟩ : Spoil), (⟨2, 0, 0, 0, (⟨0, 0, 0⟩ : Cx), 4⟩ : Spoil), (⟨3, 0, 0, 0, (⟨0, 0, 0⟩ : Cx), (-1)⟩ : Spoil), (⟨2, 8, 0, 0, (⟨0, 0, 0⟩ : Cx), 0⟩ : Spoil), (⟨2, (-1), 0, 0, (⟨0, 0, 0⟩ : Cx), 0⟩ : Spoil), (⟨2, 0, (-1), 0, (⟨0, 0, 0⟩ : Cx), 0⟩ : Spoil), (⟨2, 0, 2, 1, (⟨0, 0, 0⟩ : Cx), 0⟩ : Spoil), (⟨2, 0, 0, 33, (⟨0, 0, 0⟩ : Cx), 0⟩ : Spoil)] : List Spoil).length : Int) ∧ 0 ≤ i80 ∧ i80 ≤ w64 (i80 + 1) then ((corrupt_Table.f ((([(⟨0, 0, 0, 0, (⟨0, 0, 0⟩ : Cx), 0⟩ : Spoil), (⟨4, 0, 0, 0, (⟨0, 0, 0⟩ : Cx), 0⟩ : Spoil), (⟨1, 0, 0, 0, (⟨0, 0, 0⟩ : Cx), 0⟩ : Spoil), (⟨1, 0, 0, 0, t4, 0⟩ : Spoil), (⟨1, 0, 0, 0, t1, 1⟩ : Spoil), (⟨2, 0, 0, 0, t1, 0⟩ : Spoil), (⟨2, 0, 0, 0, (⟨0, 0, 0⟩ : Cx), 4⟩ : Spoil), (⟨3, 0, 0, 0, (⟨0, 0, 0⟩ : Cx), (-1)⟩ : Spoil), (⟨2, 8, 0, 0, (⟨0, 0, 0⟩ : Cx), 0⟩ : Spoil), (⟨2, (-1), 0, 0, (⟨0, 0, 0⟩ : Cx), 0⟩ : Spoil), (⟨2, 0, (-1), 0, (⟨0, 0, 0⟩ : Cx), 0⟩ : Spoil), (⟨2, 0, 2, 1, (⟨0, 0, 0⟩ : Cx), 0⟩ : Spoil), (⟨2, 0, 0, 33, (⟨0, 0, 0⟩ : Cx), 0⟩ : Spoil)] : List Spoil).take ((w64 (i80 + 1)).toNat)).drop i80.toNat) 0).bind fun t582 => (if 0 ≤ w64 (i80 + 1) ∧ w64 (i80 + 1) ≤ (([(⟨0, 0, 0, 0, (⟨0, 0, 0⟩ : Cx), 0⟩ : Spoil), (⟨4, 0, 0, 0, (⟨0, 0, 0⟩ : Cx), 0⟩ : Spoil), (⟨1, 0, 0, 0, (⟨0, 0, 0⟩ : Cx), 0⟩ : Spoil), (⟨1, 0, 0, 0, t4, 0⟩ : Spoil), (⟨1, 0, 0, 0, t1, 1⟩ : Spoil), (⟨2, 0, 0, 0, t1, 0⟩ : Spoil), (⟨2, 0, 0, 0, (⟨0, 0, 0⟩ : Cx), 4⟩ : Spoil), (⟨3, 0, 0, 0, (⟨0, 0, 0⟩ : Cx), (-1)⟩ : Spoil), (⟨2, 8, 0, 0, (⟨0, 0, 0⟩ : Cx), 0⟩ : Spoil), (⟨2, (-1), 0, 0, (⟨0, 0, 0⟩ : Cx), 0⟩ : Spoil), (⟨2, 0, (-1), 0, (⟨0, 0, 0⟩ : Cx), 0⟩ : Spoil), (⟨2, 0, 2, 1, (⟨0, 0, 0⟩ : Cx), 0⟩ : Spoil), (⟨2, 0, 0, 33, (⟨0, 0, 0⟩ : Cx), 0⟩ : Spoil)] : List Spoil).length : Int) ∧ 0 ≤ i80 ∧ i80 ≤ w64 (i80 + 1) then ((corrupt_Spoil.f [] ((([(⟨0, 0, 0, 0, (⟨0, 0, 0⟩ : Cx), 0⟩ : Spoil), (⟨4, 0, 0, 0, (⟨0, 0, 0⟩ : Cx), 0⟩ : Spoil), (⟨1, 0, 0, 0, (⟨0, 0, 0⟩ : Cx), 0⟩ : Spoil), (⟨1, 0, 0, 0, t4, 0⟩ : Spoil), (⟨1, 0, 0, 0, t1, 1⟩ : Spoil), (⟨2, 0, 0, 0, t1, 0⟩ : Spoil), (⟨2, 0, 0, 0, (⟨0, 0, 0⟩ : Cx), 4⟩ : Spoil), (⟨3, 0, 0, 0, (⟨0, 0, 0⟩ : Cx), (-1)⟩ : Spoil), (⟨2, 8, 0, 0, (⟨0, 0, 0⟩ : Cx), 0⟩ : Spoil), (⟨2, (-1), 0, 0, (⟨0, 0, 0⟩ : Cx), 0⟩ : Spoil), (⟨2, 0, (-1), 0, (⟨0, 0, 0⟩ : Cx), 0⟩ : Spoil), (⟨2, 0, 2, 1, (⟨0, 0, 0⟩ : Cx), 0⟩ : Spoil), (⟨2, 0, 0, 33, (⟨0, 0, 0⟩ : Cx), 0⟩ : Spoil)] : List Spoil).take ((w64 (i80 + 1)).toNat)).drop i80.toNat)).bind fun t595 => (if (!decide (t582.2 = 8)) = true then law35_CorruptNames.k10 i80 true else law35_CorruptNames.k10 i80 (!decide (t595.2 = 8)))) else none)) else none) else some (.brk ()))
noncomputable def law35_CorruptNames.k5 (t1 : Cx) : Option Bool :=
  ((corrupt_Table.f [] 32).bind fun t112 => ((corrupt_Table.f [] (-1)).bind fun t117 => (if (0 : Int) ≤ 9 ∧ (9 : Int) ≤ 9 ∧ (9 : Int) ≤ 4398046511104 then ((corrupt_Table.f (List.replicate (9 : Int).toNat ((⟨0, 0, 0, 0, (⟨0, 0, 0⟩ : Cx), 0⟩ : Spoil) : Spoil)) 0).bind fun t126 => ((law35_of.f 1000000000 1 1).bind fun t131 => ((corrupt_Table.f ([(⟨1, 0, 0, 32, t131, 0⟩ : Spoil), (⟨1, 0, 0, 32, t131, 0⟩ : Spoil)] : List Spoil) 31).bind fun t135 => (if (0 : Int) ≤ 33 ∧ (33 : Int) ≤ 33 ∧ (33 : Int) ≤ 11728124029610 then ((corrupt_Check.f (List.replicate (33 : Int).toNat ([] : (List Vis)))).bind fun t144 => ((corrupt_Check.f ([([(⟨0, 1, t1, 0⟩ : Vis)] : List Vis), ([] : List Vis)] : List (List Vis))).bind fun t150 => ((corrupt_Check.f ([([(⟨0, 1, t1, 0⟩ : Vis), (⟨0, 1, t1, 0⟩ : Vis)] : List Vis)] : List (List Vis))).bind fun t154 => ((corrupt_Check.f ([([(⟨0, 1, t1, 0⟩ : Vis)] : List Vis), ([(⟨0, 2, t1, 0⟩ : Vis)] : List Vis)] : List (List Vis))).bind fun t159 => ((corrupt_Check.f ([[], ([(⟨1, 1, t1, 0⟩ : Vis)] : List Vis)] : List (List Vis))).bind fun t163 => ((corrupt_Undo.f ([([(⟨0, 1, t1, 0⟩ : Vis)] : List Vis)] : List (List Vis)) ([(⟨1, 0, 0, 32, t131, 0⟩ : Spoil)] : List Spoil)).bind fun t168 => ((law35_of.f 1000000000 0 1).bind fun t528 => ((corrupt_Spoil.f ([([(⟨0, 1, t528, 0⟩ : Vis)] : List Vis)] : List (List Vis)) ([(⟨1, 0, 0, 32, t131, 0⟩ : Spoil)] : List Spoil)).bind fun t533 => law35_CorruptNames.k6 t1 t112 t117 t126 t135 t144 t150 t154 t159 t163 t168 t533.2)))))))) else none)))) else none)))
noncomputable def law35_CorruptNames.f : Option Bool :=
  ((ref26_One.f).bind fun t1 => ((law35_of.f 0 0 1).bind fun t4 => ((iter (fun (s : Int) => law35_CorruptNames.s4 t1 t4 s) 0).bind fun o1 => fin o1 (fun (t : Unit) => law35_CorruptNames.k5 t1))))


end Go.Proofs.Ytifpegepdgmmbaa.M
