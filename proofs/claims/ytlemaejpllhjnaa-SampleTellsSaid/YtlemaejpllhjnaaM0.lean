import Derived.Test.YtlemaejpllhjnaaGw6
set_option linter.unusedVariables false
set_option linter.unusedSimpArgs false
set_option maxRecDepth 100000
set_option maxHeartbeats 8000000
namespace Go.Proofs.Ytlemaejpllhjnaa.M
open Go.GW Go.Proofs


noncomputable def ref13_Long.f (l1 : (List Int)) : Option Bool :=
  some (decide (300 < (l1.length : Int)))

noncomputable def slices_Index__int_int.s1 (s1 : (List Int)) (v5 : Int) (x20 : Int) : Option (St Int Unit Int) :=
  (if (decide (x20 < (s1.length : Int))) = true then (if 0 ≤ x20 ∧ x20 < (s1.length : Int) then (if (decide (v5 = (ix s1 x20))) = true then some (.ret x20) else some (.next (w64 (x20 + 1)))) else none) else some (.brk ()))
noncomputable def slices_Index__int_int.k2 : Option Int :=
  some (-1)
noncomputable def slices_Index__int_int.f (s1 : (List Int)) (v5 : Int) : Option Int :=
  ((iter (fun (s : Int) => slices_Index__int_int.s1 s1 v5 s) 0).bind fun o1 => fin o1 (fun (t : Unit) => slices_Index__int_int.k2))

noncomputable def sample_digit.f (x1 : Int) : Option Int :=
  ((slices_Index__int_int.f ([0, (-3), (-1), 1, 3] : List Int) x1).bind fun t3 => some t3)

noncomputable def sample_Check_1.f (x1 : Int) : Option Bool :=
  ((sample_digit.f x1).bind fun t2 => some (decide (t2 < 0)))

noncomputable def slices_IndexFunc__int_int__sample_Check_1.s1 (s1 : (List Int)) (x23 : Int) : Option (St Int Unit Int) :=
  (if (decide (x23 < (s1.length : Int))) = true then (if 0 ≤ x23 ∧ x23 < (s1.length : Int) then ((sample_Check_1.f (ix s1 x23)).bind fun t37 => (if t37 = true then some (.ret x23) else some (.next (w64 (x23 + 1))))) else none) else some (.brk ()))
noncomputable def slices_IndexFunc__int_int__sample_Check_1.k2 : Option Int :=
  some (-1)
noncomputable def slices_IndexFunc__int_int__sample_Check_1.f (s1 : (List Int)) : Option Int :=
  ((iter (fun (s : Int) => slices_IndexFunc__int_int__sample_Check_1.s1 s1 s) 0).bind fun o1 => fin o1 (fun (t : Unit) => slices_IndexFunc__int_int__sample_Check_1.k2))

noncomputable def slices_ContainsFunc__int_int__sample_Check_1.f (s1 : (List Int)) : Option Bool :=
  ((slices_IndexFunc__int_int__sample_Check_1.f s1).bind fun t5 => some (decide (0 ≤ t5)))

noncomputable def sample_Check.f (s1 : (List Int)) : Option Int :=
  (if (decide (256 < (s1.length : Int))) = true then some 4 else ((slices_ContainsFunc__int_int__sample_Check_1.f s1).bind fun t6 => (if t6 = true then some 8 else some 0)))

noncomputable def sample_Bits.k20 (x80 : Int) (bits124 : Int) : Option (St (Int × Int) Int (Int × Int)) :=
  some (.next (bits124, w64 (x80 + 1)))
noncomputable def sample_Bits.k22 (bits76 : Int) (x80 : Int) (x136 : Bool) : Option (St (Int × Int) Int (Int × Int)) :=
  (if x136 = true then sample_Bits.k20 x80 (gmax bits76 1) else sample_Bits.k20 x80 bits76)
noncomputable def sample_Bits.k21 (s1 : (List Int)) (bits76 : Int) (x80 : Int) (x133 : Bool) : Option (St (Int × Int) Int (Int × Int)) :=
  (if x133 = true then sample_Bits.k20 x80 2 else (if (decide ((ix s1 x80) = (-1))) = true then sample_Bits.k22 bits76 x80 (decide ((ix s1 x80) = (-1))) else sample_Bits.k22 bits76 x80 (decide ((ix s1 x80) = 1))))
noncomputable def sample_Bits.s16 (s1 : (List Int)) (bits76 : Int) (x80 : Int) : Option (St (Int × Int) Int (Int × Int)) :=
  (if (decide (x80 < (s1.length : Int))) = true then (if 0 ≤ x80 ∧ x80 < (s1.length : Int) then (if (decide ((ix s1 x80) = (-3))) = true then sample_Bits.k21 s1 bits76 x80 (decide ((ix s1 x80) = (-3))) else sample_Bits.k21 s1 bits76 x80 (decide ((ix s1 x80) = 3))) else none) else some (.brk bits76))
noncomputable def sample_Bits.k17 (bits110 : Int) : Option (Int × Int) :=
  some (bits110, 0)
noncomputable def sample_Bits.f (s1 : (List Int)) : Option (Int × Int) :=
  ((sample_Check.f s1).bind fun t5 => (if (!decide (t5 = 0)) = true then some (0, t5) else ((iter (fun (s : (Int × Int)) => sample_Bits.s16 s1 s.1 s.2) (0, 0)).bind fun o1 => fin o1 (fun (t : Int) => sample_Bits.k17 t))))

noncomputable def ref13_Digit.f (x1 : Int) : Option Int :=
  (if (decide (x1 = 0)) = true then some 0 else (if (decide (x1 = (-3))) = true then some 1 else (if (decide (x1 = (-1))) = true then some 2 else (if (decide (x1 = 1)) = true then some 3 else (if (decide (x1 = 3)) = true then some 4 else some (-1))))))

noncomputable def ref13_Check.s1 (s1 : (List Int)) (i24 : Int) : Option (St Int Unit Int) :=
  (if (decide (i24 < (s1.length : Int))) = true then (if 0 ≤ i24 ∧ i24 < (s1.length : Int) then ((ref13_Digit.f (ix s1 i24)).bind fun t38 => (if (decide (t38 < 0)) = true then some (.ret 8) else some (.next (w64 (i24 + 1))))) else none) else some (.brk ()))
noncomputable def ref13_Check.k2 : Option Int :=
  some 0
noncomputable def ref13_Check.f (s1 : (List Int)) : Option Int :=
  (if (decide (256 < (s1.length : Int))) = true then some 4 else ((iter (fun (s : Int) => ref13_Check.s1 s1 s) 0).bind fun o1 => fin o1 (fun (t : Unit) => ref13_Check.k2)))

noncomputable def ref13_count.k6 (i43 : Int) (n69 : Int) : Option (St (Int × Int) Int Int) :=
  some (.next (n69, w64 (i43 + 1)))
noncomputable def ref13_count.s4 (s1 : (List Int)) (d5 : Int) (n42 : Int) (i43 : Int) : Option (St (Int × Int) Int Int) :=
  (if (decide (i43 < (s1.length : Int))) = true then (if 0 ≤ i43 ∧ i43 < (s1.length : Int) then ((ref13_Digit.f (ix s1 i43)).bind fun t74 => (if (decide (t74 = d5)) = true then ref13_count.k6 i43 (w64 (n42 + 1)) else ref13_count.k6 i43 n42)) else none) else some (.brk n42))
noncomputable def ref13_count.k5 (n60 : Int) : Option Int :=
  some n60
noncomputable def ref13_count.f (s1 : (List Int)) (d5 : Int) : Option Int :=
  ((iter (fun (s : (Int × Int)) => ref13_count.s4 s1 d5 s.1 s.2) (0, 0)).bind fun o1 => fin o1 (fun (t : Int) => ref13_count.k5 t))

noncomputable def ref13_Bits.f (s1 : (List Int)) : Option (Int × Int) :=
  ((ref13_Check.f s1).bind fun t5 => (if (!decide (t5 = 0)) = true then ((ref13_Check.f s1).bind fun t8 => some (0, t8)) else ((ref13_count.f s1 1).bind fun t10 => ((ref13_count.f s1 4).bind fun t12 => (if (decide (0 < w64 (t10 + t12))) = true then some (2, 0) else ((ref13_count.f s1 0).bind fun t15 => (if (decide (t15 < (s1.length : Int))) = true then some (1, 0) else some (0, 0))))))))

noncomputable def sample_Counts.s1 (s1 : (List Int)) (out60 : (A5 Int)) (x61 : Int) : Option (St ((A5 Int) × Int) (A5 Int) ((A5 Int) × Int)) :=
  (if (decide (x61 < (s1.length : Int))) = true then (if 0 ≤ x61 ∧ x61 < (s1.length : Int) then ((sample_digit.f (ix s1 x61)).bind fun t91 => (if 0 ≤ t91 ∧ t91 < 5 then (if (decide (t91 = 0)) = true then (if 0 ≤ t91 ∧ t91 < 5 then some (.next ((⟨(w64 (out60.e0 + 1)), out60.e1, out60.e2, out60.e3, out60.e4⟩ : (A5 Int)), w64 (x61 + 1))) else none) else (if (decide (t91 = 1)) = true then (if 0 ≤ t91 ∧ t91 < 5 then some (.next ((⟨out60.e0, (w64 (out60.e1 + 1)), out60.e2, out60.e3, out60.e4⟩ : (A5 Int)), w64 (x61 + 1))) else none) else (if (decide (t91 = 2)) = true then (if 0 ≤ t91 ∧ t91 < 5 then some (.next ((⟨out60.e0, out60.e1, (w64 (out60.e2 + 1)), out60.e3, out60.e4⟩ : (A5 Int)), w64 (x61 + 1))) else none) else (if (decide (t91 = 3)) = true then (if 0 ≤ t91 ∧ t91 < 5 then some (.next ((⟨out60.e0, out60.e1, out60.e2, (w64 (out60.e3 + 1)), out60.e4⟩ : (A5 Int)), w64 (x61 + 1))) else none) else (if 0 ≤ t91 ∧ t91 < 5 then some (.next ((⟨out60.e0, out60.e1, out60.e2, out60.e3, (w64 (out60.e4 + 1))⟩ : (A5 Int)), w64 (x61 + 1))) else none))))) else none)) else none) else some (.brk out60))
noncomputable def sample_Counts.k2 (out85 : (A5 Int)) : Option ((A5 Int) × Int) :=
  some (out85, 0)
noncomputable def sample_Counts.f (s1 : (List Int)) : Option ((A5 Int) × Int) :=
  ((sample_Check.f s1).bind fun t6 => (if (!decide (t6 = 0)) = true then some ((⟨0, 0, 0, 0, 0⟩ : (A5 Int)), t6) else ((iter (fun (s : ((A5 Int) × Int)) => sample_Counts.s1 s1 s.1 s.2) ((⟨0, 0, 0, 0, 0⟩ : (A5 Int)), 0)).bind fun o1 => fin o1 (fun (t : (A5 Int)) => sample_Counts.k2 t))))

noncomputable def ref13_Counts.s1 (s1 : (List Int)) (out27 : (A5 Int)) (d28 : Int) : Option (St ((A5 Int) × Int) (A5 Int) ((A5 Int) × Int)) :=
  (if (decide (d28 < 5)) = true then ((ref13_count.f s1 d28).bind fun t40 => (if 0 ≤ d28 ∧ d28 < 5 then (if (decide (d28 = 0)) = true then some (.next ((⟨t40, out27.e1, out27.e2, out27.e3, out27.e4⟩ : (A5 Int)), w64 (d28 + 1))) else (if (decide (d28 = 1)) = true then some (.next ((⟨out27.e0, t40, out27.e2, out27.e3, out27.e4⟩ : (A5 Int)), w64 (d28 + 1))) else (if (decide (d28 = 2)) = true then some (.next ((⟨out27.e0, out27.e1, t40, out27.e3, out27.e4⟩ : (A5 Int)), w64 (d28 + 1))) else (if (decide (d28 = 3)) = true then some (.next ((⟨out27.e0, out27.e1, out27.e2, t40, out27.e4⟩ : (A5 Int)), w64 (d28 + 1))) else some (.next ((⟨out27.e0, out27.e1, out27.e2, out27.e3, t40⟩ : (A5 Int)), w64 (d28 + 1))))))) else none)) else some (.brk out27))
noncomputable def ref13_Counts.k2 (out38 : (A5 Int)) : Option ((A5 Int) × Int) :=
  some (out38, 0)
noncomputable def ref13_Counts.f (s1 : (List Int)) : Option ((A5 Int) × Int) :=
  ((ref13_Check.f s1).bind fun t7 => (if (!decide (t7 = 0)) = true then ((ref13_Check.f s1).bind fun t10 => some ((⟨0, 0, 0, 0, 0⟩ : (A5 Int)), t10)) else ((iter (fun (s : ((A5 Int) × Int)) => ref13_Counts.s1 s1 s.1 s.2) ((⟨0, 0, 0, 0, 0⟩ : (A5 Int)), 0)).bind fun o1 => fin o1 (fun (t : (A5 Int)) => ref13_Counts.k2 t))))

noncomputable def sample_Sign.s1 (s1 : (List Int)) (out37 : List Int) (x41 : Int) : Option (St ((List Int) × Int) (List Int) ((List Int) × Int)) :=
  (if (decide (x41 < (s1.length : Int))) = true then (if 0 ≤ x41 ∧ x41 < (s1.length : Int) then (if out37.length + ([(gmax (-1) (gmin 1 (ix s1 x41)))] : List Int).length ≤ 17592186044416 then some (.next ((out37 ++ ([(gmax (-1) (gmin 1 (ix s1 x41)))] : List Int)), w64 (x41 + 1))) else none) else none) else some (.brk out37))
noncomputable def sample_Sign.k2 (out51 : List Int) : Option ((List Int) × Int) :=
  some (out51, 0)
noncomputable def sample_Sign.f (s1 : (List Int)) : Option ((List Int) × Int) :=
  ((sample_Check.f s1).bind fun t5 => (if (!decide (t5 = 0)) = true then some ([], t5) else ((iter (fun (s : ((List Int) × Int)) => sample_Sign.s1 s1 s.1 s.2) ([], 0)).bind fun o1 => fin o1 (fun (t : List Int) => sample_Sign.k2 t))))

noncomputable def ref13_Sign.k6 (i128 : Int) (out205 : List Int) : Option (St ((List Int) × Int) (List Int) ((List Int) × Int)) :=
  some (.next (out205, w64 (i128 + 1)))
noncomputable def ref13_Sign.s4 (s1 : (List Int)) (out124 : List Int) (i128 : Int) : Option (St ((List Int) × Int) (List Int) ((List Int) × Int)) :=
  (if (decide (i128 < (s1.length : Int))) = true then (if 0 ≤ i128 ∧ i128 < (s1.length : Int) then (if (decide ((ix s1 i128) < 0)) = true then (if out124.length + ([(-1)] : List Int).length ≤ 17592186044416 then ref13_Sign.k6 i128 (out124 ++ ([(-1)] : List Int)) else none) else (if (decide (0 < (ix s1 i128))) = true then (if out124.length + ([1] : List Int).length ≤ 17592186044416 then ref13_Sign.k6 i128 (out124 ++ ([1] : List Int)) else none) else (if out124.length + ([0] : List Int).length ≤ 17592186044416 then ref13_Sign.k6 i128 (out124 ++ ([0] : List Int)) else none))) else none) else some (.brk out124))
noncomputable def ref13_Sign.k5 (out178 : List Int) : Option ((List Int) × Int) :=
  some (out178, 0)
noncomputable def ref13_Sign.f (s1 : (List Int)) : Option ((List Int) × Int) :=
  ((ref13_Check.f s1).bind fun t5 => (if (!decide (t5 = 0)) = true then ((ref13_Check.f s1).bind fun t8 => some ([], t8)) else ((iter (fun (s : ((List Int) × Int)) => ref13_Sign.s4 s1 s.1 s.2) ([], 0)).bind fun o1 => fin o1 (fun (t : List Int) => ref13_Sign.k5 t))))

noncomputable def ref13_Same.s1 (a1 : (List Int)) (b5 : (List Int)) (i32 : Int) : Option (St Int Unit Bool) :=
  (if (decide (i32 < (a1.length : Int))) = true then (if 0 ≤ i32 ∧ i32 < (a1.length : Int) then (if 0 ≤ i32 ∧ i32 < (b5.length : Int) then (if (!decide ((ix a1 i32) = (ix b5 i32))) = true then some (.ret false) else some (.next (w64 (i32 + 1)))) else none) else none) else some (.brk ()))
noncomputable def ref13_Same.k2 : Option Bool :=
  some true
noncomputable def ref13_Same.f (a1 : (List Int)) (b5 : (List Int)) : Option Bool :=
  (if (!decide ((a1.length : Int) = (b5.length : Int))) = true then some false else ((iter (fun (s : Int) => ref13_Same.s1 a1 b5 s) 0).bind fun o1 => fin o1 (fun (t : Unit) => ref13_Same.k2)))

noncomputable def law13_SampleTells.f (s1 : (List Int)) : Option Bool :=
  ((ref13_Long.f s1).bind fun t5 => (if t5 = true then some true else (if ([] : List Int).length + s1.length ≤ 17592186044416 then ((sample_Bits.f (([] : List Int) ++ s1)).bind fun t12 => ((ref13_Bits.f s1).bind fun t14 => ((sample_Counts.f (([] : List Int) ++ s1)).bind fun t16 => ((ref13_Counts.f s1).bind fun t19 => ((sample_Sign.f (([] : List Int) ++ s1)).bind fun t22 => ((ref13_Sign.f s1).bind fun t27 => ((sample_Check.f (([] : List Int) ++ s1)).bind fun t32 => ((ref13_Check.f s1).bind fun t34 => (if (decide (t32 = t34)) = true then (if (decide (t12.1 = t14.1)) = true then (if (decide (t12.2 = t14.2)) = true then (if (decide (t16.1 = t19.1)) = true then (if (decide (t16.2 = t19.2)) = true then ((ref13_Same.f t22.1 t27.1).bind fun t41 => (if t41 = true then (if (decide (t22.2 = t27.2)) = true then ((ref13_Same.f (([] : List Int) ++ s1) s1).bind fun t45 => some t45) else some false) else some false)) else some false) else some false) else some false) else some false) else some false))))))))) else none)))


end Go.Proofs.Ytlemaejpllhjnaa.M
