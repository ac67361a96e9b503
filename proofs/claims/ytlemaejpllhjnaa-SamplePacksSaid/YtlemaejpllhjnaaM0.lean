import Derived.Test.YtlemaejpllhjnaaGw20
set_option linter.unusedVariables false
set_option linter.unusedSimpArgs false
set_option maxRecDepth 100000
set_option maxHeartbeats 8000000
namespace Go.Proofs.Ytlemaejpllhjnaa.M
open Go.GW Go.Proofs


noncomputable def ref13_Long.f (l1 : (List Int)) : Option Bool :=
  some (decide (300 < (l1.length : Int)))

noncomputable def slices_Index__int_int.s1 (s1 : (List Int)) (v5 : Int) (x20 : Int) : Option (St Int Unit Int) :=
  (if (decide (x20 < (s1.length : Int))) = true then (if 0 ≤ x20 ∧ x20 < (s1.length : Int) then (if (decide (v5 = (ix s1 x20))) = true then some (.ret x20) else some (.next (w64 (x20 + 1)))) else none) else some (.brk ()))
noncomputable def slices_Index__int_int.k2 : Option Int :=
  some (-1)
noncomputable def slices_Index__int_int.f (s1 : (List Int)) (v5 : Int) : Option Int :=
  ((iter (fun (s : Int) => slices_Index__int_int.s1 s1 v5 s) 0).bind fun o1 => fin o1 (fun (t : Unit) => slices_Index__int_int.k2))

noncomputable def sample_digit.f (x1 : Int) : Option Int :=
  ((slices_Index__int_int.f ([0, (-3), (-1), 1, 3] : List Int) x1).bind fun t3 => some t3)

noncomputable def sample_Check_1.f (x1 : Int) : Option Bool :=
  ((sample_digit.f x1).bind fun t2 => some (decide (t2 < 0)))

noncomputable def slices_IndexFunc__int_int__sample_Check_1.s1 (s1 : (List Int)) (x23 : Int) : Option (St Int Unit Int) :=
  (if (decide (x23 < (s1.length : Int))) = true then (if 0 ≤ x23 ∧ x23 < (s1.length : Int) then ((sample_Check_1.f (ix s1 x23)).bind fun t37 => (if t37 = true then some (.ret x23) else some (.next (w64 (x23 + 1))))) else none) else some (.brk ()))
noncomputable def slices_IndexFunc__int_int__sample_Check_1.k2 : Option Int :=
  some (-1)
noncomputable def slices_IndexFunc__int_int__sample_Check_1.f (s1 : (List Int)) : Option Int :=
  ((iter (fun (s : Int) => slices_IndexFunc__int_int__sample_Check_1.s1 s1 s) 0).bind fun o1 => fin o1 (fun (t : Unit) => slices_IndexFunc__int_int__sample_Check_1.k2))

noncomputable def slices_ContainsFunc__int_int__sample_Check_1.f (s1 : (List Int)) : Option Bool :=
  ((slices_IndexFunc__int_int__sample_Check_1.f s1).bind fun t5 => some (decide (0 ≤ t5)))

noncomputable def sample_Check.f (s1 : (List Int)) : Option Int :=
  (if (decide (256 < (s1.length : Int))) = true then some 4 else ((slices_ContainsFunc__int_int__sample_Check_1.f s1).bind fun t6 => (if t6 = true then some 8 else some 0)))

noncomputable def slices_Chunk__int_int.f (s1 : (List Int)) (n5 : Int) : Option ((List Int) × Int) :=
  (if (decide (n5 < 1)) = true then none else some (s1, n5))

noncomputable def sample_Pack.y1.s1 (x122 : (List Int)) (b146 : Int) (i147 : Int) : Option (St (Int × Int) Int (Int × (List Int))) :=
  (if (decide (0 ≤ i147)) = true then (if 0 ≤ i147 ∧ i147 < (x122.length : Int) then ((sample_digit.f (ix x122 i147)).bind fun t166 => lt' (w64 ((w64 (5 * b146)) + t166)) fun b168 => some (.next (b168, w64 (i147 - 1)))) else none) else some (.brk b146))
noncomputable def sample_Pack.y1.k2 (out66 : List Int) (b156 : Int) : Option (Int × (List Int)) :=
  (if out66.length + ([(wu8 b156)] : List Int).length ≤ 140737488355328 then some (0, (out66 ++ ([(wu8 b156)] : List Int))) else none)
noncomputable def sample_Pack.y1 (out66 : List Int) (x122 : (List Int)) : Option (Int × (List Int)) :=
  lt' (w64 ((x122.length : Int) - 1)) fun i126 => ((iter (fun (s : (Int × Int)) => sample_Pack.y1.s1 x122 s.1 s.2) (0, i126)).bind fun o1 => fin o1 (fun (t : Int) => sample_Pack.y1.k2 out66 t))

noncomputable def slices_Chunk__int_int_1__sample_Pack_y1.s1 (v170 : (List Int)) (v175 : Int) (i213 : Int) (v214 : List Int) : Option (St (Int × (List Int)) (List Int) (Int × (List Int))) :=
  (if (decide (i213 < (v170.length : Int))) = true then (if 0 ≤ i213 ∧ i213 ≤ (v170.length : Int) then (if 0 ≤ w64 (i213 + (gmin v175 (((v170.take v170.length).drop i213.toNat).length : Int))) ∧ w64 (i213 + (gmin v175 (((v170.take v170.length).drop i213.toNat).length : Int))) ≤ (v170.length : Int) ∧ 0 ≤ w64 (i213 + (gmin v175 (((v170.take v170.length).drop i213.toNat).length : Int))) ∧ w64 (i213 + (gmin v175 (((v170.take v170.length).drop i213.toNat).length : Int))) ≤ w64 (i213 + (gmin v175 (((v170.take v170.length).drop i213.toNat).length : Int))) ∧ 0 ≤ i213 ∧ i213 ≤ w64 (i213 + (gmin v175 (((v170.take v170.length).drop i213.toNat).length : Int))) then ((sample_Pack.y1 v214 ((v170.take ((w64 (i213 + (gmin v175 (((v170.take v170.length).drop i213.toNat).length : Int)))).toNat)).drop i213.toNat)).bind fun t1252 => (if (decide (t1252.1 = 0)) = true then lt' (w64 (i213 + v175)) fun i1258 => some (.next (i1258, t1252.2)) else some (.ret (t1252.1, t1252.2)))) else none) else none) else some (.brk v214))
noncomputable def slices_Chunk__int_int_1__sample_Pack_y1.k2 (v231 : List Int) : Option (Int × (List Int)) :=
  some (0, v231)
noncomputable def slices_Chunk__int_int_1__sample_Pack_y1.f (out66 : List Int) (v170 : (List Int)) (v175 : Int) : Option (Int × (List Int)) :=
  ((iter (fun (s : (Int × (List Int))) => slices_Chunk__int_int_1__sample_Pack_y1.s1 v170 v175 s.1 s.2) (0, out66)).bind fun o1 => fin o1 (fun (t : List Int) => slices_Chunk__int_int_1__sample_Pack_y1.k2 t))

noncomputable def sample_Pack.f (s1 : (List Int)) : Option ((List Int) × Int) :=
  ((sample_Check.f s1).bind fun t5 => (if (!decide (t5 = 0)) = true then some ([], t5) else ((slices_Chunk__int_int.f s1 3).bind fun t9 => ((slices_Chunk__int_int_1__sample_Pack_y1.f ([] : List Int) t9.1 t9.2).bind fun t170 => (if t170.1 = 0 then some (t170.2, 0) else none)))))

noncomputable def ref13_Digit.f (x1 : Int) : Option Int :=
  (if (decide (x1 = 0)) = true then some 0 else (if (decide (x1 = (-3))) = true then some 1 else (if (decide (x1 = (-1))) = true then some 2 else (if (decide (x1 = 1)) = true then some 3 else (if (decide (x1 = 3)) = true then some 4 else some (-1))))))

noncomputable def ref13_Check.s1 (s1 : (List Int)) (i24 : Int) : Option (St Int Unit Int) :=
  (if (decide (i24 < (s1.length : Int))) = true then (if 0 ≤ i24 ∧ i24 < (s1.length : Int) then ((ref13_Digit.f (ix s1 i24)).bind fun t38 => (if (decide (t38 < 0)) = true then some (.ret 8) else some (.next (w64 (i24 + 1))))) else none) else some (.brk ()))
noncomputable def ref13_Check.k2 : Option Int :=
  some 0
noncomputable def ref13_Check.f (s1 : (List Int)) : Option Int :=
  (if (decide (256 < (s1.length : Int))) = true then some 4 else ((iter (fun (s : Int) => ref13_Check.s1 s1 s) 0).bind fun o1 => fin o1 (fun (t : Unit) => ref13_Check.k2)))

noncomputable def ref13_Pack.s9 (i80 : Int) (d125 : Int) (k126 : Int) : Option (St (Int × Int) Int (St ((List Int) × Int) (List Int) ((List Int) × Int))) :=
  (if (decide (k126 < Int.tmod i80 3)) = true then some (.next (w64 (5 * d125), w64 (k126 + 1))) else some (.brk d125))
noncomputable def ref13_Pack.k10 (out76 : List Int) (i80 : Int) (d128 : Int) : Option (St ((List Int) × Int) (List Int) ((List Int) × Int)) :=
  (if 0 ≤ w64 (Int.tdiv i80 3) ∧ w64 (Int.tdiv i80 3) < (out76.length : Int) then lt' (out76.set (w64 (Int.tdiv i80 3)).toNat (wu8 ((ix out76 (w64 (Int.tdiv i80 3))) + (wu8 d128)))) fun l137 => some (.next (l137, w64 (i80 + 1))) else none)
noncomputable def ref13_Pack.s7 (s1 : (List Int)) (out76 : List Int) (i80 : Int) : Option (St ((List Int) × Int) (List Int) ((List Int) × Int)) :=
  (if (decide (i80 < (s1.length : Int))) = true then (if 0 ≤ i80 ∧ i80 < (s1.length : Int) then ((ref13_Digit.f (ix s1 i80)).bind fun t117 => ((iter (fun (s : (Int × Int)) => ref13_Pack.s9 i80 s.1 s.2) (t117, 0)).bind fun o2 => fin o2 (fun (t : Int) => ref13_Pack.k10 out76 i80 t))) else none) else some (.brk out76))
noncomputable def ref13_Pack.k8 (out108 : List Int) : Option ((List Int) × Int) :=
  some (out108, 0)
noncomputable def ref13_Pack.f (s1 : (List Int)) : Option ((List Int) × Int) :=
  ((ref13_Check.f s1).bind fun t5 => (if (!decide (t5 = 0)) = true then ((ref13_Check.f s1).bind fun t8 => some ([], t8)) else (if 0 ≤ w64 (Int.tdiv (w64 ((s1.length : Int) + 2)) 3) ∧ w64 (Int.tdiv (w64 ((s1.length : Int) + 2)) 3) ≤ w64 (Int.tdiv (w64 ((s1.length : Int) + 2)) 3) ∧ w64 (Int.tdiv (w64 ((s1.length : Int) + 2)) 3) ≤ 281474976710656 then ((iter (fun (s : ((List Int) × Int)) => ref13_Pack.s7 s1 s.1 s.2) ((List.replicate (w64 (Int.tdiv (w64 ((s1.length : Int) + 2)) 3)).toNat (0 : Int)), 0)).bind fun o1 => fin o1 (fun (t : List Int) => ref13_Pack.k8 t)) else none)))

noncomputable def sample_Unpack_1.f (x1 : Int) : Option Bool :=
  some (!decide (x1 = 0))

noncomputable def slices_IndexFunc__int_int__sample_Unpack_1.s1 (s1 : (List Int)) (x23 : Int) : Option (St Int Unit Int) :=
  (if (decide (x23 < (s1.length : Int))) = true then (if 0 ≤ x23 ∧ x23 < (s1.length : Int) then ((sample_Unpack_1.f (ix s1 x23)).bind fun t37 => (if t37 = true then some (.ret x23) else some (.next (w64 (x23 + 1))))) else none) else some (.brk ()))
noncomputable def slices_IndexFunc__int_int__sample_Unpack_1.k2 : Option Int :=
  some (-1)
noncomputable def slices_IndexFunc__int_int__sample_Unpack_1.f (s1 : (List Int)) : Option Int :=
  ((iter (fun (s : Int) => slices_IndexFunc__int_int__sample_Unpack_1.s1 s1 s) 0).bind fun o1 => fin o1 (fun (t : Unit) => slices_IndexFunc__int_int__sample_Unpack_1.k2))

noncomputable def slices_ContainsFunc__int_int__sample_Unpack_1.f (s1 : (List Int)) : Option Bool :=
  ((slices_IndexFunc__int_int__sample_Unpack_1.f s1).bind fun t5 => some (decide (0 ≤ t5)))

noncomputable def slices_Clip__int_int.f (s1 : (List Int)) : Option (List Int) :=
  (if 0 ≤ (s1.length : Int) ∧ (s1.length : Int) ≤ (s1.length : Int) ∧ 0 ≤ (s1.length : Int) ∧ (s1.length : Int) ≤ (s1.length : Int) then some ((s1.take ((s1.length : Int).toNat)).drop 0) else none)

noncomputable def sample_Unpack.s10 (out270 : List Int) (x274 : Int) (x275 : Int) : Option (St ((List Int) × Int × Int) (List Int) (St ((List Int) × Int) (List Int) ((List Int) × Int))) :=
  (if (decide (x275 < 3)) = true then (if 0 ≤ Int.tmod x274 5 ∧ Int.tmod x274 5 < 5 then (if out270.length + ([(ix ([0, (-3), (-1), 1, 3] : List Int) (Int.tmod x274 5))] : List Int).length ≤ 17592186044416 then lt' (wu8 (Int.tdiv x274 5)) fun x295 => some (.next ((out270 ++ ([(ix ([0, (-3), (-1), 1, 3] : List Int) (Int.tmod x274 5))] : List Int)), x295, w64 (x275 + 1))) else none) else none) else some (.brk out270))
noncomputable def sample_Unpack.k11 (x153 : Int) (out284 : List Int) : Option (St ((List Int) × Int) (List Int) ((List Int) × Int)) :=
  some (.next (out284, w64 (x153 + 1)))
noncomputable def sample_Unpack.s8 (b1 : (List Int)) (out146 : List Int) (x153 : Int) : Option (St ((List Int) × Int) (List Int) ((List Int) × Int)) :=
  (if (decide (x153 < (b1.length : Int))) = true then (if 0 ≤ x153 ∧ x153 < (b1.length : Int) then (if (decide (125 ≤ (ix b1 x153))) = true then some (.ret ([], 12)) else ((iter (fun (s : ((List Int) × Int × Int)) => sample_Unpack.s10 s.1 s.2.1 s.2.2) (out146, (ix b1 x153), 0)).bind fun o2 => fin o2 (fun (t : List Int) => sample_Unpack.k11 x153 t))) else none) else some (.brk out146))
noncomputable def sample_Unpack.k9 (n5 : Int) (out213 : List Int) : Option ((List Int) × Int) :=
  (if 0 ≤ n5 ∧ n5 ≤ (out213.length : Int) then ((slices_ContainsFunc__int_int__sample_Unpack_1.f ((out213.take out213.length).drop n5.toNat)).bind fun t223 => (if t223 = true then some ([], 12) else (if 0 ≤ n5 ∧ n5 ≤ (out213.length : Int) then ((slices_Clip__int_int.f ((out213.take n5.toNat).drop 0)).bind fun t232 => some (t232, 0)) else none))) else none)
noncomputable def sample_Unpack.k1 (b1 : (List Int)) (n5 : Int) (x7 : Bool) : Option ((List Int) × Int) :=
  (if x7 = true then some ([], 2) else (if (!decide ((b1.length : Int) = w64 (Int.tdiv (w64 (n5 + 2)) 3))) = true then some ([], 12) else ((iter (fun (s : ((List Int) × Int)) => sample_Unpack.s8 b1 s.1 s.2) ([], 0)).bind fun o1 => fin o1 (fun (t : List Int) => sample_Unpack.k9 n5 t))))
noncomputable def sample_Unpack.f (b1 : (List Int)) (n5 : Int) : Option ((List Int) × Int) :=
  (if (decide (n5 < 0)) = true then sample_Unpack.k1 b1 n5 true else sample_Unpack.k1 b1 n5 (decide (256 < n5)))

noncomputable def ref13_Unpack.s28 (b1 : (List Int)) (t372 : (List Int) × Int) (i399 : Int) : Option (St Int Unit ((List Int) × Int)) :=
  (if (decide (i399 < (b1.length : Int))) = true then (if 0 ≤ i399 ∧ i399 < (t372.1.length : Int) then (if 0 ≤ i399 ∧ i399 < (b1.length : Int) then (if (!decide ((ix t372.1 i399) = (ix b1 i399))) = true then some (.ret ([], 12)) else some (.next (w64 (i399 + 1)))) else none) else none) else some (.brk ()))
noncomputable def ref13_Unpack.k29 (out368 : List Int) : Option ((List Int) × Int) :=
  some (out368, 0)
noncomputable def ref13_Unpack.k37 (x490 : Int) (out522 : List Int) : Option (St ((List Int) × Int) (List Int) (St ((List Int) × Int) (List Int) ((List Int) × Int))) :=
  some (.next (out522, w64 (x490 + 1)))
noncomputable def ref13_Unpack.s35 (d438 : Int) (out486 : List Int) (x490 : Int) : Option (St ((List Int) × Int) (List Int) (St ((List Int) × Int) (List Int) ((List Int) × Int))) :=
  (if (decide (x490 ≤ 3)) = true then ((ref13_Digit.f x490).bind fun t526 => (if (decide (t526 = Int.tmod d438 5)) = true then (if out486.length + ([x490] : List Int).length ≤ 17592186044416 then ref13_Unpack.k37 x490 (out486 ++ ([x490] : List Int)) else none) else ref13_Unpack.k37 x490 out486)) else some (.brk out486))
noncomputable def ref13_Unpack.k36 (i249 : Int) (out510 : List Int) : Option (St ((List Int) × Int) (List Int) ((List Int) × Int)) :=
  some (.next (out510, w64 (i249 + 1)))
noncomputable def ref13_Unpack.s30 (i249 : Int) (d434 : Int) (k435 : Int) : Option (St (Int × Int) Int (St ((List Int) × Int) (List Int) ((List Int) × Int))) :=
  (if (decide (k435 < Int.tmod i249 3)) = true then lt' (w64 (Int.tdiv d434 5)) fun d534 => some (.next (d534, w64 (k435 + 1))) else some (.brk d434))
noncomputable def ref13_Unpack.k31 (out245 : List Int) (i249 : Int) (d438 : Int) : Option (St ((List Int) × Int) (List Int) ((List Int) × Int)) :=
  ((iter (fun (s : ((List Int) × Int)) => ref13_Unpack.s35 d438 s.1 s.2) (out245, (-3))).bind fun o2 => fin o2 (fun (t : List Int) => ref13_Unpack.k36 i249 t))
noncomputable def ref13_Unpack.s26 (b1 : (List Int)) (n5 : Int) (out245 : List Int) (i249 : Int) : Option (St ((List Int) × Int) (List Int) ((List Int) × Int)) :=
  (if (decide (i249 < n5)) = true then (if 0 ≤ w64 (Int.tdiv i249 3) ∧ w64 (Int.tdiv i249 3) < (b1.length : Int) then lt' (w64 (ix b1 (w64 (Int.tdiv i249 3)))) fun d425 => ((iter (fun (s : (Int × Int)) => ref13_Unpack.s30 i249 s.1 s.2) (d425, 0)).bind fun o2 => fin o2 (fun (t : Int) => ref13_Unpack.k31 out245 i249 t)) else none) else some (.brk out245))
noncomputable def ref13_Unpack.k27 (b1 : (List Int)) (out368 : List Int) : Option ((List Int) × Int) :=
  ((ref13_Pack.f out368).bind fun t372 => ((iter (fun (s : Int) => ref13_Unpack.s28 b1 t372 s) 0).bind fun o1 => fin o1 (fun (t : Unit) => ref13_Unpack.k29 out368)))
noncomputable def ref13_Unpack.k1 (b1 : (List Int)) (n5 : Int) (x7 : Bool) : Option ((List Int) × Int) :=
  (if x7 = true then some ([], 2) else (if (!decide ((b1.length : Int) = w64 (Int.tdiv (w64 (n5 + 2)) 3))) = true then some ([], 12) else ((iter (fun (s : ((List Int) × Int)) => ref13_Unpack.s26 b1 n5 s.1 s.2) ([], 0)).bind fun o1 => fin o1 (fun (t : List Int) => ref13_Unpack.k27 b1 t))))
noncomputable def ref13_Unpack.f (b1 : (List Int)) (n5 : Int) : Option ((List Int) × Int) :=
  (if (decide (n5 < 0)) = true then ref13_Unpack.k1 b1 n5 true else ref13_Unpack.k1 b1 n5 (decide (256 < n5)))

noncomputable def ref13_SameBytes.s1 (a1 : (List Int)) (b5 : (List Int)) (i32 : Int) : Option (St Int Unit Bool) :=
  (if (decide (i32 < (a1.length : Int))) = true then (if 0 ≤ i32 ∧ i32 < (a1.length : Int) then (if 0 ≤ i32 ∧ i32 < (b5.length : Int) then (if (!decide ((ix a1 i32) = (ix b5 i32))) = true then some (.ret false) else some (.next (w64 (i32 + 1)))) else none) else none) else some (.brk ()))
noncomputable def ref13_SameBytes.k2 : Option Bool :=
  some true
noncomputable def ref13_SameBytes.f (a1 : (List Int)) (b5 : (List Int)) : Option Bool :=
  (if (!decide ((a1.length : Int) = (b5.length : Int))) = true then some false else ((iter (fun (s : Int) => ref13_SameBytes.s1 a1 b5 s) 0).bind fun o1 => fin o1 (fun (t : Unit) => ref13_SameBytes.k2)))

noncomputable def ref13_Same.s1 (a1 : (List Int)) (b5 : (List Int)) (i32 : Int) : Option (St Int Unit Bool) :=
  (if (decide (i32 < (a1.length : Int))) = true then (if 0 ≤ i32 ∧ i32 < (a1.length : Int) then (if 0 ≤ i32 ∧ i32 < (b5.length : Int) then (if (!decide ((ix a1 i32) = (ix b5 i32))) = true then some (.ret false) else some (.next (w64 (i32 + 1)))) else none) else none) else some (.brk ()))
noncomputable def ref13_Same.k2 : Option Bool :=
  some true
noncomputable def ref13_Same.f (a1 : (List Int)) (b5 : (List Int)) : Option Bool :=
  (if (!decide ((a1.length : Int) = (b5.length : Int))) = true then some false else ((iter (fun (s : Int) => ref13_Same.s1 a1 b5 s) 0).bind fun o1 => fin o1 (fun (t : Unit) => ref13_Same.k2)))

noncomputable def law13_SamplePacks.k1 (s1 : (List Int)) (b5 : (List Int)) (n9 : Int) (x13 : Bool) : Option Bool :=
  (if x13 = true then some true else ((sample_Pack.f s1).bind fun t15 => ((ref13_Pack.f s1).bind fun t20 => ((sample_Unpack.f b5 n9).bind fun t25 => ((ref13_Unpack.f b5 n9).bind fun t30 => ((ref13_SameBytes.f t15.1 t20.1).bind fun t35 => (if t35 = true then (if (decide (t15.2 = t20.2)) = true then ((ref13_Same.f t25.1 t30.1).bind fun t39 => (if t39 = true then some (decide (t25.2 = t30.2)) else some false)) else some false) else some false)))))))
noncomputable def law13_SamplePacks.f (s1 : (List Int)) (b5 : (List Int)) (n9 : Int) : Option Bool :=
  ((ref13_Long.f s1).bind fun t42 => (if t42 = true then law13_SamplePacks.k1 s1 b5 n9 true else law13_SamplePacks.k1 s1 b5 n9 (decide (300 < (b5.length : Int)))))


end Go.Proofs.Ytlemaejpllhjnaa.M
