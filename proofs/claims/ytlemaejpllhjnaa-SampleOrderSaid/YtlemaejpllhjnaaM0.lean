import Derived.Test.YtlemaejpllhjnaaGw20
set_option linter.unusedVariables false
set_option linter.unusedSimpArgs false
set_option maxRecDepth 100000
set_option maxHeartbeats 8000000
namespace Go.Proofs.Ytlemaejpllhjnaa.M
open Go.GW Go.Proofs

structure Frac where
  Num : Int
  Den : Int
  deriving DecidableEq, Inhabited
def fl_Frac : Fl Frac := ⟨2, fun x => [.int .i64 x.Num, .int .i64 x.Den], fun _ => rfl, fun x v h => by
  simp only [List.mem_cons, List.not_mem_nil, or_false] at h
  rcases h with rfl | rfl <;> rfl⟩
structure Wide where
  hi : Int
  lo : Int
  deriving DecidableEq, Inhabited
def fl_Wide : Fl Wide := ⟨2, fun x => [.int .u64 x.hi, .int .u64 x.lo], fun _ => rfl, fun x v h => by
  simp only [List.mem_cons, List.not_mem_nil, or_false] at h
  rcases h with rfl | rfl <;> rfl⟩
noncomputable def law13_given.f : Option (List Int) :=
  some ([5, (-20), 0, 9] : List Int)

noncomputable def sample_check_1.f (x1 : Int) : Option Bool :=
  (if (decide (x1 < (-1000000))) = true then some true else some (decide (1000000 < x1)))

noncomputable def slices_IndexFunc__int_int__sample_check_1.s1 (s1 : (List Int)) (x23 : Int) : Option (St Int Unit Int) :=
  (if (decide (x23 < (s1.length : Int))) = true then (if 0 ≤ x23 ∧ x23 < (s1.length : Int) then ((sample_check_1.f (ix s1 x23)).bind fun t37 => (if t37 = true then some (.ret x23) else some (.next (w64 (x23 + 1))))) else none) else some (.brk ()))
noncomputable def slices_IndexFunc__int_int__sample_check_1.k2 : Option Int :=
  some (-1)
noncomputable def slices_IndexFunc__int_int__sample_check_1.f (s1 : (List Int)) : Option Int :=
  ((iter (fun (s : Int) => slices_IndexFunc__int_int__sample_check_1.s1 s1 s) 0).bind fun o1 => fin o1 (fun (t : Unit) => slices_IndexFunc__int_int__sample_check_1.k2))

noncomputable def slices_ContainsFunc__int_int__sample_check_1.f (s1 : (List Int)) : Option Bool :=
  ((slices_IndexFunc__int_int__sample_check_1.f s1).bind fun t5 => some (decide (0 ≤ t5)))

noncomputable def sample_check.f (levels1 : (List Int)) : Option Int :=
  (if (decide (256 < (levels1.length : Int))) = true then some 4 else ((slices_ContainsFunc__int_int__sample_check_1.f levels1).bind fun t6 => (if t6 = true then some 8 else some 0)))

noncomputable def sample_Take.k11 (out60 : List Int) (x67 : Int) (y97 : Int) : Option (St ((List Int) × Int) (List Int) ((List Int) × Int)) :=
  (if out60.length + ([y97] : List Int).length ≤ 17592186044416 then some (.next ((out60 ++ ([y97] : List Int)), w64 (x67 + 1))) else none)
noncomputable def sample_Take.k10 (out60 : List Int) (x67 : Int) (x93 : Int) (y95 : Int) : Option (St ((List Int) × Int) (List Int) ((List Int) × Int)) :=
  (if (decide (x93 < 0)) = true then sample_Take.k11 out60 x67 (w64 (0 - y95)) else sample_Take.k11 out60 x67 y95)
noncomputable def sample_Take.s8 (levels1 : (List Int)) (threshold5 : Int) (out60 : List Int) (x67 : Int) : Option (St ((List Int) × Int) (List Int) ((List Int) × Int)) :=
  (if (decide (x67 < (levels1.length : Int))) = true then (if 0 ≤ x67 ∧ x67 < (levels1.length : Int) then lt' ((ix levels1 x67)) fun x93 => (if (decide (gmax x93 (w64 (0 - x93)) < threshold5)) = true then sample_Take.k10 out60 x67 x93 1 else sample_Take.k10 out60 x67 x93 3) else none) else some (.brk out60))
noncomputable def sample_Take.k9 (out84 : List Int) : Option ((List Int) × Int) :=
  some (out84, 0)
noncomputable def sample_Take.k1 (levels1 : (List Int)) (threshold5 : Int) (x10 : Bool) : Option ((List Int) × Int) :=
  (if x10 = true then some ([], 2) else ((iter (fun (s : ((List Int) × Int)) => sample_Take.s8 levels1 threshold5 s.1 s.2) ([], 0)).bind fun o1 => fin o1 (fun (t : List Int) => sample_Take.k9 t)))
noncomputable def sample_Take.f (levels1 : (List Int)) (threshold5 : Int) : Option ((List Int) × Int) :=
  ((sample_check.f levels1).bind fun t6 => (if (!decide (t6 = 0)) = true then some ([], t6) else (if (decide (threshold5 < 1)) = true then sample_Take.k1 levels1 threshold5 true else sample_Take.k1 levels1 threshold5 (decide (1000000 < threshold5)))))

noncomputable def slices_Index__int_int.s1 (s1 : (List Int)) (v5 : Int) (x20 : Int) : Option (St Int Unit Int) :=
  (if (decide (x20 < (s1.length : Int))) = true then (if 0 ≤ x20 ∧ x20 < (s1.length : Int) then (if (decide (v5 = (ix s1 x20))) = true then some (.ret x20) else some (.next (w64 (x20 + 1)))) else none) else some (.brk ()))
noncomputable def slices_Index__int_int.k2 : Option Int :=
  some (-1)
noncomputable def slices_Index__int_int.f (s1 : (List Int)) (v5 : Int) : Option Int :=
  ((iter (fun (s : Int) => slices_Index__int_int.s1 s1 v5 s) 0).bind fun o1 => fin o1 (fun (t : Unit) => slices_Index__int_int.k2))

noncomputable def sample_digit.f (x1 : Int) : Option Int :=
  ((slices_Index__int_int.f ([0, (-3), (-1), 1, 3] : List Int) x1).bind fun t3 => some t3)

noncomputable def sample_Check_1.f (x1 : Int) : Option Bool :=
  ((sample_digit.f x1).bind fun t2 => some (decide (t2 < 0)))

noncomputable def slices_IndexFunc__int_int__sample_Check_1.s1 (s1 : (List Int)) (x23 : Int) : Option (St Int Unit Int) :=
  (if (decide (x23 < (s1.length : Int))) = true then (if 0 ≤ x23 ∧ x23 < (s1.length : Int) then ((sample_Check_1.f (ix s1 x23)).bind fun t37 => (if t37 = true then some (.ret x23) else some (.next (w64 (x23 + 1))))) else none) else some (.brk ()))
noncomputable def slices_IndexFunc__int_int__sample_Check_1.k2 : Option Int :=
  some (-1)
noncomputable def slices_IndexFunc__int_int__sample_Check_1.f (s1 : (List Int)) : Option Int :=
  ((iter (fun (s : Int) => slices_IndexFunc__int_int__sample_Check_1.s1 s1 s) 0).bind fun o1 => fin o1 (fun (t : Unit) => slices_IndexFunc__int_int__sample_Check_1.k2))

noncomputable def slices_ContainsFunc__int_int__sample_Check_1.f (s1 : (List Int)) : Option Bool :=
  ((slices_IndexFunc__int_int__sample_Check_1.f s1).bind fun t5 => some (decide (0 ≤ t5)))

noncomputable def sample_Check.f (s1 : (List Int)) : Option Int :=
  (if (decide (256 < (s1.length : Int))) = true then some 4 else ((slices_ContainsFunc__int_int__sample_Check_1.f s1).bind fun t6 => (if t6 = true then some 8 else some 0)))

noncomputable def slices_Chunk__int_int.f (s1 : (List Int)) (n5 : Int) : Option ((List Int) × Int) :=
  (if (decide (n5 < 1)) = true then none else some (s1, n5))

noncomputable def sample_Pack.y1.s1 (x122 : (List Int)) (b146 : Int) (i147 : Int) : Option (St (Int × Int) Int (Int × (List Int))) :=
  (if (decide (0 ≤ i147)) = true then (if 0 ≤ i147 ∧ i147 < (x122.length : Int) then ((sample_digit.f (ix x122 i147)).bind fun t166 => lt' (w64 ((w64 (5 * b146)) + t166)) fun b168 => some (.next (b168, w64 (i147 - 1)))) else none) else some (.brk b146))
noncomputable def sample_Pack.y1.k2 (out66 : List Int) (b156 : Int) : Option (Int × (List Int)) :=
  (if out66.length + ([(wu8 b156)] : List Int).length ≤ 140737488355328 then some (0, (out66 ++ ([(wu8 b156)] : List Int))) else none)
noncomputable def sample_Pack.y1 (out66 : List Int) (x122 : (List Int)) : Option (Int × (List Int)) :=
  lt' (w64 ((x122.length : Int) - 1)) fun i126 => ((iter (fun (s : (Int × Int)) => sample_Pack.y1.s1 x122 s.1 s.2) (0, i126)).bind fun o1 => fin o1 (fun (t : Int) => sample_Pack.y1.k2 out66 t))

noncomputable def slices_Chunk__int_int_1__sample_Pack_y1.s1 (v170 : (List Int)) (v175 : Int) (i213 : Int) (v214 : List Int) : Option (St (Int × (List Int)) (List Int) (Int × (List Int))) :=
  (if (decide (i213 < (v170.length : Int))) = true then (if 0 ≤ i213 ∧ i213 ≤ (v170.length : Int) then (if 0 ≤ w64 (i213 + (gmin v175 (((v170.take v170.length).drop i213.toNat).length : Int))) ∧ w64 (i213 + (gmin v175 (((v170.take v170.length).drop i213.toNat).length : Int))) ≤ (v170.length : Int) ∧ 0 ≤ w64 (i213 + (gmin v175 (((v170.take v170.length).drop i213.toNat).length : Int))) ∧ w64 (i213 + (gmin v175 (((v170.take v170.length).drop i213.toNat).length : Int))) ≤ w64 (i213 + (gmin v175 (((v170.take v170.length).drop i213.toNat).length : Int))) ∧ 0 ≤ i213 ∧ i213 ≤ w64 (i213 + (gmin v175 (((v170.take v170.length).drop i213.toNat).length : Int))) then ((sample_Pack.y1 v214 ((v170.take ((w64 (i213 + (gmin v175 (((v170.take v170.length).drop i213.toNat).length : Int)))).toNat)).drop i213.toNat)).bind fun t1252 => (if (decide (t1252.1 = 0)) = true then lt' (w64 (i213 + v175)) fun i1258 => some (.next (i1258, t1252.2)) else some (.ret (t1252.1, t1252.2)))) else none) else none) else some (.brk v214))
noncomputable def slices_Chunk__int_int_1__sample_Pack_y1.k2 (v231 : List Int) : Option (Int × (List Int)) :=
  some (0, v231)
noncomputable def slices_Chunk__int_int_1__sample_Pack_y1.f (out66 : List Int) (v170 : (List Int)) (v175 : Int) : Option (Int × (List Int)) :=
  ((iter (fun (s : (Int × (List Int))) => slices_Chunk__int_int_1__sample_Pack_y1.s1 v170 v175 s.1 s.2) (0, out66)).bind fun o1 => fin o1 (fun (t : List Int) => slices_Chunk__int_int_1__sample_Pack_y1.k2 t))

noncomputable def sample_Pack.f (s1 : (List Int)) : Option ((List Int) × Int) :=
  ((sample_Check.f s1).bind fun t5 => (if (!decide (t5 = 0)) = true then some ([], t5) else ((slices_Chunk__int_int.f s1 3).bind fun t9 => ((slices_Chunk__int_int_1__sample_Pack_y1.f ([] : List Int) t9.1 t9.2).bind fun t170 => (if t170.1 = 0 then some (t170.2, 0) else none)))))

noncomputable def frac_abs.f (n1 : Int) : Option Int :=
  (if (decide (n1 < 0)) = true then some (wu64 (0 - wu64 n1)) else some (wu64 n1))

noncomputable def frac_gcd.s1 (a11 : Int) (b12 : Int) : Option (St (Int × Int) Int Int) :=
  (if (decide (0 < b12)) = true then (if ¬ b12 = 0 then lt' (Int.tmod a11 b12) fun b19 => some (.next (b12, b19)) else none) else some (.brk a11))
noncomputable def frac_gcd.k2 (a16 : Int) : Option Int :=
  some a16
noncomputable def frac_gcd.f (a1 : Int) (b2 : Int) : Option Int :=
  ((iter (fun (s : (Int × Int)) => frac_gcd.s1 s.1 s.2) (a1, b2)).bind fun o1 => fin o1 (fun (t : Int) => frac_gcd.k2 t))

noncomputable def frac_Check.k1 (x12 : Bool) : Option Int :=
  (if x12 = true then some 8 else some 0)
noncomputable def frac_Check.f (a1 : Frac) : Option Int :=
  (if (decide (a1.Den < 1)) = true then frac_Check.k1 true else (if (decide (1000000000000000000 < wu64 a1.Den)) = true then frac_Check.k1 true else ((frac_abs.f a1.Num).bind fun t16 => (if (decide (1000000000000000000 < t16)) = true then frac_Check.k1 true else ((frac_abs.f a1.Num).bind fun t19 => ((frac_gcd.f t19 (wu64 a1.Den)).bind fun t21 => frac_Check.k1 (decide (1 < t21))))))))

noncomputable def frac_made.k2 (a10 : Frac) : Option (Frac × Int) :=
  some (a10, 0)
noncomputable def frac_made.k1 (minus1 : Bool) (num2 : Int) (den3 : Int) (x6 : Bool) : Option (Frac × Int) :=
  (if x6 = true then some ((⟨0, 0⟩ : Frac), 16) else (if minus1 = true then frac_made.k2 (⟨(w64 (0 - w64 num2)), (w64 den3)⟩ : Frac) else frac_made.k2 (⟨(w64 num2), (w64 den3)⟩ : Frac)))
noncomputable def frac_made.f (minus1 : Bool) (num2 : Int) (den3 : Int) : Option (Frac × Int) :=
  (if (decide (1000000000000000000 < num2)) = true then frac_made.k1 minus1 num2 den3 true else frac_made.k1 minus1 num2 den3 (decide (1000000000000000000 < den3)))

noncomputable def frac_Make.f (num1 : Int) (den2 : Int) : Option (Frac × Int) :=
  (if (decide (den2 = 0)) = true then some ((⟨0, 0⟩ : Frac), 18) else ((frac_abs.f num1).bind fun t5 => ((frac_abs.f den2).bind fun t7 => ((frac_gcd.f t5 t7).bind fun t9 => (if ¬ t9 = 0 then (if ¬ t9 = 0 then ((frac_made.f (!((decide (num1 < 0)) == (decide (den2 < 0)))) (wu64 (Int.tdiv t5 t9)) (wu64 (Int.tdiv t7 t9))).bind fun t13 => some (t13.1, t13.2)) else none) else none)))))

noncomputable def cmp_Or__api_Errno.s1 (vals1 : (List Int)) (x19 : Int) : Option (St Int Unit Int) :=
  (if (decide (x19 < (vals1.length : Int))) = true then (if 0 ≤ x19 ∧ x19 < (vals1.length : Int) then (if (!decide ((ix vals1 x19) = 0)) = true then some (.ret (ix vals1 x19)) else some (.next (w64 (x19 + 1)))) else none) else some (.brk ()))
noncomputable def cmp_Or__api_Errno.k2 : Option Int :=
  some 0
noncomputable def cmp_Or__api_Errno.f (vals1 : (List Int)) : Option Int :=
  ((iter (fun (s : Int) => cmp_Or__api_Errno.s1 vals1 s) 0).bind fun o1 => fin o1 (fun (t : Unit) => cmp_Or__api_Errno.k2))

noncomputable def frac_both.f (a1 : Frac) (b2 : Frac) : Option Int :=
  ((frac_Check.f a1).bind fun t5 => ((frac_Check.f b2).bind fun t7 => ((cmp_Or__api_Errno.f ([t5, t7] : List Int)).bind fun t10 => some t10)))

noncomputable def math_bits_Mul64.f (x1 : Int) (y2 : Int) : Option (Int × Int) :=
  lt' (gand .u64 x1 4294967295) fun x3 => lt' (gshr .u64 x1 32) fun x4 => lt' (gand .u64 y2 4294967295) fun y5 => lt' (gshr .u64 y2 32) fun y6 => lt' (wu64 ((wu64 (x4 * y5)) + (gshr .u64 (wu64 (x3 * y5)) 32))) fun t7 => lt' (gand .u64 t7 4294967295) fun w8 => lt' (gshr .u64 t7 32) fun w9 => lt' (wu64 (w8 + (wu64 (x3 * y6)))) fun w10 => lt' (wu64 ((wu64 ((wu64 (x4 * y6)) + w9)) + (gshr .u64 w10 32))) fun hi11 => some (hi11, (wu64 (x1 * y2)))

noncomputable def frac_mul.f (a1 : Int) (b2 : Int) : Option Wide :=
  ((math_bits_Mul64.f a1 b2).bind fun t4 => some (⟨t4.1, t4.2⟩ : Wide))

noncomputable def cmp_isNaN__uint64.f (x1 : Int) : Option Bool :=
  some (!decide (x1 = x1))

noncomputable def cmp_Compare__uint64.f (x1 : Int) (y2 : Int) : Option Int :=
  ((cmp_isNaN__uint64.f x1).bind fun t3 => ((cmp_isNaN__uint64.f y2).bind fun t5 => (if t3 = true then (if t5 = true then some 0 else some (-1)) else (if t5 = true then some 1 else (if (decide (x1 < y2)) = true then some (-1) else (if (decide (y2 < x1)) = true then some 1 else some 0))))))

noncomputable def cmp_Or__int.s1 (vals1 : (List Int)) (x19 : Int) : Option (St Int Unit Int) :=
  (if (decide (x19 < (vals1.length : Int))) = true then (if 0 ≤ x19 ∧ x19 < (vals1.length : Int) then (if (!decide ((ix vals1 x19) = 0)) = true then some (.ret (ix vals1 x19)) else some (.next (w64 (x19 + 1)))) else none) else some (.brk ()))
noncomputable def cmp_Or__int.k2 : Option Int :=
  some 0
noncomputable def cmp_Or__int.f (vals1 : (List Int)) : Option Int :=
  ((iter (fun (s : Int) => cmp_Or__int.s1 vals1 s) 0).bind fun o1 => fin o1 (fun (t : Unit) => cmp_Or__int.k2))

noncomputable def frac_wide_cmp.f (w1 : Wide) (v2 : Wide) : Option Int :=
  ((cmp_Compare__uint64.f w1.hi v2.hi).bind fun t5 => ((cmp_Compare__uint64.f w1.lo v2.lo).bind fun t7 => ((cmp_Or__int.f ([t5, t7] : List Int)).bind fun t10 => some t10)))

noncomputable def cmp_isNaN__int64.f (x1 : Int) : Option Bool :=
  some (!decide (x1 = x1))

noncomputable def cmp_Compare__int64.f (x1 : Int) (y2 : Int) : Option Int :=
  ((cmp_isNaN__int64.f x1).bind fun t3 => ((cmp_isNaN__int64.f y2).bind fun t5 => (if t3 = true then (if t5 = true then some 0 else some (-1)) else (if t5 = true then some 1 else (if (decide (x1 < y2)) = true then some (-1) else (if (decide (y2 < x1)) = true then some 1 else some 0))))))

noncomputable def frac_Cmp.k2 (a1 : Frac) (b2 : Frac) (t16 : Int) (x22 : Bool) : Option (Int × Int) :=
  (if x22 = true then ((cmp_Compare__int64.f a1.Num b2.Num).bind fun t24 => some (t24, 0)) else some (t16, 0))
noncomputable def frac_Cmp.k1 (a1 : Frac) (b2 : Frac) (t16 : Int) (x19 : Bool) : Option (Int × Int) :=
  (if x19 = true then some ((w64 (0 - t16)), 0) else (if (decide (a1.Num < 0)) = true then frac_Cmp.k2 a1 b2 t16 true else frac_Cmp.k2 a1 b2 t16 (decide (b2.Num < 0))))
noncomputable def frac_Cmp.f (a1 : Frac) (b2 : Frac) : Option (Int × Int) :=
  ((frac_both.f a1 b2).bind fun t5 => (if (!decide (t5 = 0)) = true then some (0, t5) else ((frac_abs.f a1.Num).bind fun t8 => ((frac_mul.f t8 (wu64 b2.Den)).bind fun t10 => ((frac_abs.f b2.Num).bind fun t12 => ((frac_mul.f t12 (wu64 a1.Den)).bind fun t14 => ((frac_wide_cmp.f t10 t14).bind fun t16 => (if (decide (a1.Num < 0)) = true then frac_Cmp.k1 a1 b2 t16 (decide (b2.Num < 0)) else frac_Cmp.k1 a1 b2 t16 false))))))))

noncomputable def sample_less.f (a1 : Frac) (b2 : Frac) : Option Bool :=
  ((frac_Cmp.f a1 b2).bind fun t5 => some (decide (t5.1 < 0)))

noncomputable def sample_Threshold.s4 (part5 : Frac) (n67 : Int) (need85 : Int) : Option (St Int Int (Int × Int)) :=
  (if (decide (need85 < n67)) = true then ((frac_Make.f need85 n67).bind fun t103 => ((sample_less.f t103.1 part5).bind fun t106 => (if (!t106) = true then some (.brk need85) else lt' (w64 (need85 + 1)) fun need109 => some (.next need109)))) else some (.brk need85))
noncomputable def sample_Threshold.k5 (l65 : List Int) (need94 : Int) : Option (Int × Int) :=
  (if (decide (need94 = 0)) = true then some (1, 0) else (if 0 ≤ w64 (need94 - 1) ∧ w64 (need94 - 1) < (l65.length : Int) then lt' (w64 ((ix l65 (w64 (need94 - 1))) + 1)) fun t100 => (if (decide (t100 ≤ 1000000)) = true then some (t100, 0) else some (0, 6)) else none))
noncomputable def sample_Threshold.s2 (levels1 : (List Int)) (sizes46 : List Int) (x50 : Int) : Option (St ((List Int) × Int) (List Int) (Int × Int)) :=
  (if (decide (x50 < (levels1.length : Int))) = true then (if 0 ≤ x50 ∧ x50 < (levels1.length : Int) then lt' ((ix levels1 x50)) fun x115 => (if sizes46.length + ([(gmax x115 (w64 (0 - x115)))] : List Int).length ≤ 17592186044416 then some (.next ((sizes46 ++ ([(gmax x115 (w64 (0 - x115)))] : List Int)), w64 (x50 + 1))) else none) else none) else some (.brk sizes46))
noncomputable def sample_Threshold.k3 (part5 : Frac) (sizes61 : List Int) : Option (Int × Int) :=
  (if sizes61.length ≤ 4611686018427387903 then lt' (sortI sizes61) fun l65 => lt' ((l65.length : Int)) fun n67 => ((iter (fun (s : Int) => sample_Threshold.s4 part5 n67 s) 0).bind fun o1 => fin o1 (fun (t : Int) => sample_Threshold.k5 l65 t)) else none)
noncomputable def sample_Threshold.k1 (levels1 : (List Int)) (part5 : Frac) (x14 : Bool) : Option (Int × Int) :=
  (if x14 = true then some (0, 8) else ((iter (fun (s : ((List Int) × Int)) => sample_Threshold.s2 levels1 s.1 s.2) ([], 0)).bind fun o1 => fin o1 (fun (t : List Int) => sample_Threshold.k3 part5 t)))
noncomputable def sample_Threshold.f (levels1 : (List Int)) (part5 : Frac) : Option (Int × Int) :=
  ((sample_check.f levels1).bind fun t7 => (if (!decide (t7 = 0)) = true then some (0, t7) else ((frac_Check.f part5).bind fun t120 => (if (!decide (t120 = 0)) = true then sample_Threshold.k1 levels1 part5 true else (if (decide (part5.Num < 0)) = true then sample_Threshold.k1 levels1 part5 true else sample_Threshold.k1 levels1 part5 (decide (part5.Den < part5.Num)))))))

noncomputable def ref13_Same.s1 (a1 : (List Int)) (b5 : (List Int)) (i32 : Int) : Option (St Int Unit Bool) :=
  (if (decide (i32 < (a1.length : Int))) = true then (if 0 ≤ i32 ∧ i32 < (a1.length : Int) then (if 0 ≤ i32 ∧ i32 < (b5.length : Int) then (if (!decide ((ix a1 i32) = (ix b5 i32))) = true then some (.ret false) else some (.next (w64 (i32 + 1)))) else none) else none) else some (.brk ()))
noncomputable def ref13_Same.k2 : Option Bool :=
  some true
noncomputable def ref13_Same.f (a1 : (List Int)) (b5 : (List Int)) : Option Bool :=
  (if (!decide ((a1.length : Int) = (b5.length : Int))) = true then some false else ((iter (fun (s : Int) => ref13_Same.s1 a1 b5 s) 0).bind fun o1 => fin o1 (fun (t : Unit) => ref13_Same.k2)))

noncomputable def ref13_SameBytes.s1 (a1 : (List Int)) (b5 : (List Int)) (i32 : Int) : Option (St Int Unit Bool) :=
  (if (decide (i32 < (a1.length : Int))) = true then (if 0 ≤ i32 ∧ i32 < (a1.length : Int) then (if 0 ≤ i32 ∧ i32 < (b5.length : Int) then (if (!decide ((ix a1 i32) = (ix b5 i32))) = true then some (.ret false) else some (.next (w64 (i32 + 1)))) else none) else none) else some (.brk ()))
noncomputable def ref13_SameBytes.k2 : Option Bool :=
  some true
noncomputable def ref13_SameBytes.f (a1 : (List Int)) (b5 : (List Int)) : Option Bool :=
  (if (!decide ((a1.length : Int) = (b5.length : Int))) = true then some false else ((iter (fun (s : Int) => ref13_SameBytes.s1 a1 b5 s) 0).bind fun o1 => fin o1 (fun (t : Unit) => ref13_SameBytes.k2)))

noncomputable def law13_alive.f : Option Bool :=
  ((law13_given.f).bind fun t1 => ((sample_Take.f t1 10).bind fun t6 => ((sample_Pack.f t6.1).bind fun t11 => ((law13_given.f).bind fun t16 => ((sample_Threshold.f t16 (⟨1, 2⟩ : Frac)).bind fun t21 => ((law13_given.f).bind fun t23 => ((sample_Threshold.f t23 (⟨3, 4⟩ : Frac)).bind fun t28 => (if (decide (t6.2 = 0)) = true then ((ref13_Same.f t6.1 ([1, (-3), 1, 1] : List Int)).bind fun t32 => (if t32 = true then (if (decide (t11.2 = 0)) = true then ((ref13_SameBytes.f t11.1 ([83, 3] : List Int)).bind fun t37 => (if t37 = true then (if (decide (t21.2 = 0)) = true then (if (decide (t21.1 = 6)) = true then (if (decide (t28.2 = 0)) = true then some (decide (t28.1 = 10)) else some false) else some false) else some false) else some false)) else some false) else some false)) else some false))))))))

noncomputable def ref13_Long.f (l1 : (List Int)) : Option Bool :=
  some (decide (300 < (l1.length : Int)))

noncomputable def ref13_Levels.k6 (i50 : Int) (x82 : Bool) : Option (St Int Unit Int) :=
  (if x82 = true then some (.ret 8) else some (.next (w64 (i50 + 1))))
noncomputable def ref13_Levels.s4 (l1 : (List Int)) (i50 : Int) : Option (St Int Unit Int) :=
  (if (decide (i50 < (l1.length : Int))) = true then (if 0 ≤ i50 ∧ i50 < (l1.length : Int) then (if (decide ((ix l1 i50) < (-1000000))) = true then ref13_Levels.k6 i50 true else ref13_Levels.k6 i50 (decide (1000000 < (ix l1 i50)))) else none) else some (.brk ()))
noncomputable def ref13_Levels.k5 : Option Int :=
  some 0
noncomputable def ref13_Levels.f (l1 : (List Int)) : Option Int :=
  (if (decide (256 < (l1.length : Int))) = true then some 4 else ((iter (fun (s : Int) => ref13_Levels.s4 l1 s) 0).bind fun o1 => fin o1 (fun (t : Unit) => ref13_Levels.k5)))

noncomputable def sample_Sign.s1 (s1 : (List Int)) (out37 : List Int) (x41 : Int) : Option (St ((List Int) × Int) (List Int) ((List Int) × Int)) :=
  (if (decide (x41 < (s1.length : Int))) = true then (if 0 ≤ x41 ∧ x41 < (s1.length : Int) then (if out37.length + ([(gmax (-1) (gmin 1 (ix s1 x41)))] : List Int).length ≤ 17592186044416 then some (.next ((out37 ++ ([(gmax (-1) (gmin 1 (ix s1 x41)))] : List Int)), w64 (x41 + 1))) else none) else none) else some (.brk out37))
noncomputable def sample_Sign.k2 (out51 : List Int) : Option ((List Int) × Int) :=
  some (out51, 0)
noncomputable def sample_Sign.f (s1 : (List Int)) : Option ((List Int) × Int) :=
  ((sample_Check.f s1).bind fun t5 => (if (!decide (t5 = 0)) = true then some ([], t5) else ((iter (fun (s : ((List Int) × Int)) => sample_Sign.s1 s1 s.1 s.2) ([], 0)).bind fun o1 => fin o1 (fun (t : List Int) => sample_Sign.k2 t))))

noncomputable def law13_SampleOrder.k11 (k341 : Int) (x472 : Bool) : Option (St Int Unit Bool) :=
  (if x472 = true then some (.ret false) else some (.next (w64 (k341 + 1))))
noncomputable def law13_SampleOrder.s9 (l1 : (List Int)) (t20 : (List Int) × Int) (t157 : (List Int) × Int) (k341 : Int) : Option (St Int Unit Bool) :=
  (if (decide (k341 < (l1.length : Int))) = true then (if 0 ≤ k341 ∧ k341 < (l1.length : Int) then (if (!decide ((ix l1 k341) = 0)) = true then (if 0 ≤ k341 ∧ k341 < (t157.1.length : Int) then (if 0 ≤ k341 ∧ k341 < (t20.1.length : Int) then (if (!decide ((ix t157.1 k341) = w64 (0 - (ix t20.1 k341)))) = true then law13_SampleOrder.k11 k341 true else (if (decide ((ix l1 k341) = 0)) = true then (if (!decide ((ix t157.1 k341) = 1)) = true then law13_SampleOrder.k11 k341 true else law13_SampleOrder.k11 k341 (!decide ((ix t20.1 k341) = 1))) else law13_SampleOrder.k11 k341 false)) else none) else none) else (if (decide ((ix l1 k341) = 0)) = true then (if 0 ≤ k341 ∧ k341 < (t157.1.length : Int) then (if (!decide ((ix t157.1 k341) = 1)) = true then law13_SampleOrder.k11 k341 true else (if 0 ≤ k341 ∧ k341 < (t20.1.length : Int) then law13_SampleOrder.k11 k341 (!decide ((ix t20.1 k341) = 1)) else none)) else none) else law13_SampleOrder.k11 k341 false)) else none) else some (.brk ()))
noncomputable def law13_SampleOrder.k10 (t7 : Bool) : Option Bool :=
  some t7
noncomputable def law13_SampleOrder.k5 (l1 : (List Int)) (t7 : Bool) (t20 : (List Int) × Int) (t157 : (List Int) × Int) (x163 : Bool) : Option Bool :=
  (if x163 = true then some false else ((iter (fun (s : Int) => law13_SampleOrder.s9 l1 t20 t157 s) 0).bind fun o1 => fin o1 (fun (t : Unit) => law13_SampleOrder.k10 t7)))
noncomputable def law13_SampleOrder.s3 (l1 : (List Int)) (t20 : (List Int) × Int) (t25 : (List Int) × Int) (other122 : List Int) (k126 : Int) : Option (St ((List Int) × Int) (List Int) Bool) :=
  (if (decide (k126 < (l1.length : Int))) = true then (if 0 ≤ k126 ∧ k126 < (t20.1.length : Int) then (if 0 ≤ k126 ∧ k126 < (t25.1.length : Int) then (if (decide (w64 ((ix t20.1 k126) * (ix t25.1 k126)) < w64 ((ix t25.1 k126) * (ix t25.1 k126)))) = true then some (.ret false) else (if 0 ≤ k126 ∧ k126 < (l1.length : Int) then (if other122.length + ([(w64 (0 - (ix l1 k126)))] : List Int).length ≤ 17592186044416 then some (.next ((other122 ++ ([(w64 (0 - (ix l1 k126)))] : List Int)), w64 (k126 + 1))) else none) else none)) else none) else none) else some (.brk other122))
noncomputable def law13_SampleOrder.k4 (l1 : (List Int)) (t5 : Int) (t7 : Bool) (t20 : (List Int) × Int) (other153 : List Int) : Option Bool :=
  ((sample_Take.f other153 t5).bind fun t157 => (if (!decide (t157.2 = 0)) = true then law13_SampleOrder.k5 l1 t7 t20 t157 true else law13_SampleOrder.k5 l1 t7 t20 t157 (!decide ((t157.1.length : Int) = (l1.length : Int)))))
noncomputable def law13_SampleOrder.k2 (l1 : (List Int)) (t5 : Int) (t7 : Bool) (t20 : (List Int) × Int) (t25 : (List Int) × Int) (x57 : Bool) : Option Bool :=
  (if x57 = true then some false else ((iter (fun (s : ((List Int) × Int)) => law13_SampleOrder.s3 l1 t20 t25 s.1 s.2) ([], 0)).bind fun o1 => fin o1 (fun (t : List Int) => law13_SampleOrder.k4 l1 t5 t7 t20 t)))
noncomputable def law13_SampleOrder.k1 (l1 : (List Int)) (t5 : Int) (more6 : Int) (t7 : Bool) (x18 : Bool) : Option Bool :=
  (if x18 = true then some t7 else ((sample_Take.f l1 t5).bind fun t20 => ((sample_Take.f l1 (w64 (t5 + more6))).bind fun t25 => ((sample_Sign.f t20.1).bind fun t30 => ((sample_Sign.f t25.1).bind fun t35 => ((sample_Sign.f t30.1).bind fun t40 => (if (!decide (t20.2 = 0)) = true then law13_SampleOrder.k2 l1 t5 t7 t20 t25 true else (if (!decide (t25.2 = 0)) = true then law13_SampleOrder.k2 l1 t5 t7 t20 t25 true else (if (!decide (t30.2 = 0)) = true then law13_SampleOrder.k2 l1 t5 t7 t20 t25 true else (if (!decide (t35.2 = 0)) = true then law13_SampleOrder.k2 l1 t5 t7 t20 t25 true else (if (!decide (t40.2 = 0)) = true then law13_SampleOrder.k2 l1 t5 t7 t20 t25 true else (if (!decide ((t20.1.length : Int) = (l1.length : Int))) = true then law13_SampleOrder.k2 l1 t5 t7 t20 t25 true else (if (!decide ((t25.1.length : Int) = (l1.length : Int))) = true then law13_SampleOrder.k2 l1 t5 t7 t20 t25 true else ((ref13_Same.f t30.1 t35.1).bind fun t550 => (if (!t550) = true then law13_SampleOrder.k2 l1 t5 t7 t20 t25 true else ((ref13_Same.f t30.1 t40.1).bind fun t553 => law13_SampleOrder.k2 l1 t5 t7 t20 t25 (!t553)))))))))))))))))
noncomputable def law13_SampleOrder.f (l1 : (List Int)) (t5 : Int) (more6 : Int) : Option Bool :=
  ((law13_alive.f).bind fun t7 => ((ref13_Long.f l1).bind fun t555 => (if t555 = true then law13_SampleOrder.k1 l1 t5 more6 t7 true else ((ref13_Levels.f l1).bind fun t558 => (if (!decide (t558 = 0)) = true then law13_SampleOrder.k1 l1 t5 more6 t7 true else (if (decide (t5 < 1)) = true then law13_SampleOrder.k1 l1 t5 more6 t7 true else (if (decide (more6 < 0)) = true then law13_SampleOrder.k1 l1 t5 more6 t7 true else (if (decide (w64 (1000000 - t5) < more6)) = true then law13_SampleOrder.k1 l1 t5 more6 t7 true else law13_SampleOrder.k1 l1 t5 more6 t7 (!t7)))))))))


end Go.Proofs.Ytlemaejpllhjnaa.M
