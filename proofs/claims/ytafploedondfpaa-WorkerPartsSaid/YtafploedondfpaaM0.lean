import Derived.Test.YtafploedondfpaaGw18
set_option linter.unusedVariables false
set_option linter.unusedSimpArgs false
set_option maxRecDepth 100000
set_option maxHeartbeats 8000000
namespace Go.Proofs.Ytafploedondfpaa.M
open Go.GW Go.Proofs

structure Job where
  X_ : (List Int)
  Y : (List Int)
  Most : Int
  Size : Int
  deriving DecidableEq, Inhabited
structure Lag where
  Sum : Int
  N : Int
  deriving DecidableEq, Inhabited
def fl_Lag : Fl Lag := ⟨2, fun x => [.int .i64 x.Sum, .int .i64 x.N], fun _ => rfl, fun x v h => by
  simp only [List.mem_cons, List.not_mem_nil, or_false] at h
  rcases h with rfl | rfl <;> rfl⟩
structure Count where
  Hi : Int
  Lo : Int
  deriving DecidableEq, Inhabited
def fl_Count : Fl Count := ⟨2, fun x => [.int .i64 x.Hi, .int .i64 x.Lo], fun _ => rfl, fun x v h => by
  simp only [List.mem_cons, List.not_mem_nil, or_false] at h
  rcases h with rfl | rfl <;> rfl⟩
structure Gap where
  At : Int
  Many : Int
  deriving DecidableEq, Inhabited
def fl_Gap : Fl Gap := ⟨2, fun x => [.int .i64 x.At, .int .i64 x.Many], fun _ => rfl, fun x v h => by
  simp only [List.mem_cons, List.not_mem_nil, or_false] at h
  rcases h with rfl | rfl <;> rfl⟩
structure Acc where
  Sums : (List Count)
  Ns : (List Count)
  Spans : (List Gap)
  deriving DecidableEq, Inhabited
structure Work where
  Sum : Acc
  Done : (List Bool)
  At : (List Int)
  deriving DecidableEq, Inhabited
def ok_Job (x : Job) : Prop := (∀ y ∈ x.X_, okInt .i64 y) ∧ (∀ y ∈ x.Y, okInt .i64 y) ∧ (okInt .i64 x.Most) ∧ (okInt .i64 x.Size)
noncomputable def ref13_Long.f (l1 : (List Int)) : Option Bool :=
  some (decide (300 < (l1.length : Int)))

noncomputable def ref13_Digit.f (x1 : Int) : Option Int :=
  (if (decide (x1 = 0)) = true then some 0 else (if (decide (x1 = (-3))) = true then some 1 else (if (decide (x1 = (-1))) = true then some 2 else (if (decide (x1 = 1)) = true then some 3 else (if (decide (x1 = 3)) = true then some 4 else some (-1))))))

noncomputable def ref13_Check.s1 (s1 : (List Int)) (i24 : Int) : Option (St Int Unit Int) :=
  (if (decide (i24 < (s1.length : Int))) = true then (if 0 ≤ i24 ∧ i24 < (s1.length : Int) then ((ref13_Digit.f (ix s1 i24)).bind fun t38 => (if (decide (t38 < 0)) = true then some (.ret 8) else some (.next (w64 (i24 + 1))))) else none) else some (.brk ()))
noncomputable def ref13_Check.k2 : Option Int :=
  some 0
noncomputable def ref13_Check.f (s1 : (List Int)) : Option Int :=
  (if (decide (256 < (s1.length : Int))) = true then some 4 else ((iter (fun (s : Int) => ref13_Check.s1 s1 s) 0).bind fun o1 => fin o1 (fun (t : Unit) => ref13_Check.k2)))

noncomputable def ref19_Count.s1 (j1 : Job) (n13 : Int) : Option (St Int Int Int) :=
  (if (decide (w64 (n13 * j1.Size) < (j1.X_.length : Int))) = true then some (.next (w64 (n13 + 1))) else some (.brk n13))
noncomputable def ref19_Count.k2 (n15 : Int) : Option Int :=
  some n15
noncomputable def ref19_Count.f (j1 : Job) : Option Int :=
  ((iter (fun (s : Int) => ref19_Count.s1 j1 s) 0).bind fun o1 => fin o1 (fun (t : Int) => ref19_Count.k2 t))

noncomputable def ref19_Check.k1 (x25 : Bool) : Option Int :=
  (if x25 = true then some 8 else some 0)
noncomputable def ref19_Check.f (j1 : Job) : Option Int :=
  ((ref13_Check.f j1.X_).bind fun t9 => (if (!decide (t9 = 0)) = true then ((ref13_Check.f j1.X_).bind fun t12 => some t12) else ((ref13_Check.f j1.Y).bind fun t14 => (if (!decide (t14 = 0)) = true then ((ref13_Check.f j1.Y).bind fun t17 => some t17) else (if (decide (j1.Most < 0)) = true then ref19_Check.k1 true else (if (decide (255 < j1.Most)) = true then ref19_Check.k1 true else (if (decide (j1.Size < 1)) = true then ref19_Check.k1 true else (if (decide (256 < j1.Size)) = true then ref19_Check.k1 true else ((ref19_Count.f j1).bind fun t31 => ref19_Check.k1 (decide (64 < t31)))))))))))

noncomputable def ref19_Great.k1 (j1 : Job) (x25 : Bool) : Option Bool :=
  (if x25 = true then some true else ((ref19_Check.f j1).bind fun t27 => (if (decide (t27 = 0)) = true then ((ref19_Count.f j1).bind fun t30 => some (decide (12 < t30))) else some false)))
noncomputable def ref19_Great.f (j1 : Job) : Option Bool :=
  ((ref13_Long.f j1.X_).bind fun t32 => (if t32 = true then ref19_Great.k1 j1 true else ((ref13_Long.f j1.Y).bind fun t35 => (if t35 = true then ref19_Great.k1 j1 true else (if (decide (40 < (j1.X_.length : Int))) = true then (if (decide ((j1.X_.length : Int) ≤ 256)) = true then ref19_Great.k1 j1 true else (if (decide (40 < (j1.Y.length : Int))) = true then (if (decide ((j1.Y.length : Int) ≤ 256)) = true then ref19_Great.k1 j1 true else (if (decide (40 < j1.Most)) = true then ref19_Great.k1 j1 (decide (j1.Most ≤ 255)) else ref19_Great.k1 j1 false)) else (if (decide (40 < j1.Most)) = true then ref19_Great.k1 j1 (decide (j1.Most ≤ 255)) else ref19_Great.k1 j1 false))) else (if (decide (40 < (j1.Y.length : Int))) = true then (if (decide ((j1.Y.length : Int) ≤ 256)) = true then ref19_Great.k1 j1 true else (if (decide (40 < j1.Most)) = true then ref19_Great.k1 j1 (decide (j1.Most ≤ 255)) else ref19_Great.k1 j1 false)) else (if (decide (40 < j1.Most)) = true then ref19_Great.k1 j1 (decide (j1.Most ≤ 255)) else ref19_Great.k1 j1 false)))))))

noncomputable def slices_Index__int_int.s1 (s1 : (List Int)) (v5 : Int) (x20 : Int) : Option (St Int Unit Int) :=
  (if (decide (x20 < (s1.length : Int))) = true then (if 0 ≤ x20 ∧ x20 < (s1.length : Int) then (if (decide (v5 = (ix s1 x20))) = true then some (.ret x20) else some (.next (w64 (x20 + 1)))) else none) else some (.brk ()))
noncomputable def slices_Index__int_int.k2 : Option Int :=
  some (-1)
noncomputable def slices_Index__int_int.f (s1 : (List Int)) (v5 : Int) : Option Int :=
  ((iter (fun (s : Int) => slices_Index__int_int.s1 s1 v5 s) 0).bind fun o1 => fin o1 (fun (t : Unit) => slices_Index__int_int.k2))

noncomputable def sample_digit.f (x1 : Int) : Option Int :=
  ((slices_Index__int_int.f ([0, (-3), (-1), 1, 3] : List Int) x1).bind fun t3 => some t3)

noncomputable def sample_Check_1.f (x1 : Int) : Option Bool :=
  ((sample_digit.f x1).bind fun t2 => some (decide (t2 < 0)))

noncomputable def slices_IndexFunc__int_int__sample_Check_1.s1 (s1 : (List Int)) (x23 : Int) : Option (St Int Unit Int) :=
  (if (decide (x23 < (s1.length : Int))) = true then (if 0 ≤ x23 ∧ x23 < (s1.length : Int) then ((sample_Check_1.f (ix s1 x23)).bind fun t37 => (if t37 = true then some (.ret x23) else some (.next (w64 (x23 + 1))))) else none) else some (.brk ()))
noncomputable def slices_IndexFunc__int_int__sample_Check_1.k2 : Option Int :=
  some (-1)
noncomputable def slices_IndexFunc__int_int__sample_Check_1.f (s1 : (List Int)) : Option Int :=
  ((iter (fun (s : Int) => slices_IndexFunc__int_int__sample_Check_1.s1 s1 s) 0).bind fun o1 => fin o1 (fun (t : Unit) => slices_IndexFunc__int_int__sample_Check_1.k2))

noncomputable def slices_ContainsFunc__int_int__sample_Check_1.f (s1 : (List Int)) : Option Bool :=
  ((slices_IndexFunc__int_int__sample_Check_1.f s1).bind fun t5 => some (decide (0 ≤ t5)))

noncomputable def sample_Check.f (s1 : (List Int)) : Option Int :=
  (if (decide (256 < (s1.length : Int))) = true then some 4 else ((slices_ContainsFunc__int_int__sample_Check_1.f s1).bind fun t6 => (if t6 = true then some 8 else some 0)))

noncomputable def worker_blocks.f (j1 : Job) : Option Int :=
  (if ¬ j1.Size = 0 then some (w64 (Int.tdiv (w64 ((w64 ((j1.X_.length : Int) + j1.Size)) - 1)) j1.Size)) else none)

noncomputable def worker_Check.k1 (x21 : Bool) : Option Int :=
  (if x21 = true then some 8 else some 0)
noncomputable def worker_Check.f (j1 : Job) : Option Int :=
  ((sample_Check.f j1.X_).bind fun t9 => (if (!decide (t9 = 0)) = true then some t9 else ((sample_Check.f j1.Y).bind fun t12 => (if (!decide (t12 = 0)) = true then some t12 else (if (decide (j1.Most < 0)) = true then worker_Check.k1 true else (if (decide (255 < j1.Most)) = true then worker_Check.k1 true else (if (decide (j1.Size < 1)) = true then worker_Check.k1 true else (if (decide (256 < j1.Size)) = true then worker_Check.k1 true else ((worker_blocks.f j1).bind fun t27 => worker_Check.k1 (decide (64 < t27)))))))))))

noncomputable def worker_Blocks.f (j1 : Job) : Option (Int × Int) :=
  ((worker_Check.f j1).bind fun t9 => (if (!decide (t9 = 0)) = true then some (0, t9) else ((worker_blocks.f j1).bind fun t12 => some (t12, 0))))

noncomputable def ref19_Blocks.f (j1 : Job) : Option (Int × Int) :=
  ((ref19_Check.f j1).bind fun t9 => (if (!decide (t9 = 0)) = true then ((ref19_Check.f j1).bind fun t12 => some (0, t12)) else ((ref19_Count.f j1).bind fun t14 => some (t14, 0))))

noncomputable def lag_Cut.k2 (s1 : (List Int)) (at5 : Int) : Option ((List Int) × (List Int) × Int) :=
  (if 0 ≤ at5 ∧ at5 ≤ ((List.replicate (s1.length : Int).toNat (0 : Int)).length : Int) ∧ 0 ≤ at5 ∧ at5 ≤ at5 then lt' (cpy (List.replicate (s1.length : Int).toNat (0 : Int)) 0 (at5.toNat - 0) s1) fun l47 => (if 0 ≤ at5 ∧ at5 ≤ ((List.replicate (s1.length : Int).toNat (0 : Int)).length : Int) then (if 0 ≤ at5 ∧ at5 ≤ (s1.length : Int) then lt' (cpy (List.replicate (s1.length : Int).toNat (0 : Int)) at5.toNat (((List.replicate (s1.length : Int).toNat (0 : Int)).length) - at5.toNat) ((s1.take s1.length).drop at5.toNat)) fun l54 => some (l47, l54, 0) else none) else none) else none)
noncomputable def lag_Cut.k1 (s1 : (List Int)) (at5 : Int) (x10 : Bool) : Option ((List Int) × (List Int) × Int) :=
  (if x10 = true then some ([], [], 2) else (if 0 ≤ (s1.length : Int) ∧ (s1.length : Int) ≤ (s1.length : Int) ∧ (s1.length : Int) ≤ 35184372088832 then (if 0 ≤ (s1.length : Int) ∧ (s1.length : Int) ≤ (s1.length : Int) ∧ (s1.length : Int) ≤ 35184372088832 then lag_Cut.k2 s1 at5 else none) else none))
noncomputable def lag_Cut.f (s1 : (List Int)) (at5 : Int) : Option ((List Int) × (List Int) × Int) :=
  ((sample_Check.f s1).bind fun t6 => (if (!decide (t6 = 0)) = true then some ([], [], t6) else (if (decide (at5 < 0)) = true then lag_Cut.k1 s1 at5 true else lag_Cut.k1 s1 at5 (decide ((s1.length : Int) < at5)))))

noncomputable def lag_Of.k58 (x1087 : Int) (out1194 : List Lag) : Option (St ((List Lag) × Int) (List Lag) (St ((List Lag) × Int) (List Lag) ((List Lag) × Int))) :=
  some (.next (out1194, w64 (x1087 + 1)))
noncomputable def lag_Of.k59 (x1 : (List Int)) (y5 : (List Int)) (x631 : Int) (l934 : Int) (out1083 : List Lag) (x1087 : Int) (x1199 : Bool) : Option (St ((List Lag) × Int) (List Lag) (St ((List Lag) × Int) (List Lag) ((List Lag) × Int))) :=
  (if x1199 = true then lag_Of.k58 x1087 out1083 else (if 0 ≤ x1087 ∧ x1087 < (x1.length : Int) then (if 0 ≤ w64 (x1087 + l934) ∧ w64 (x1087 + l934) < (y5.length : Int) then lt' (w64 ((ix x1 x1087) * (ix y5 (w64 (x1087 + l934))))) fun p1209 => (if (!decide (p1209 = 0)) = true then (if 0 ≤ x631 ∧ x631 < (out1083.length : Int) then lt' (out1083.set x631.toNat (⟨(w64 (((ix out1083 x631).Sum) + p1209)), ((ix out1083 x631).N)⟩ : Lag)) fun l1219 => (if 0 ≤ x631 ∧ x631 < (l1219.length : Int) then lt' (l1219.set x631.toNat (⟨((ix l1219 x631).Sum), (w64 (((ix l1219 x631).N) + 1))⟩ : Lag)) fun l1228 => lag_Of.k58 x1087 l1228 else none) else none) else lag_Of.k58 x1087 out1083) else none) else none))
noncomputable def lag_Of.s55 (x1 : (List Int)) (y5 : (List Int)) (x631 : Int) (l934 : Int) (out1083 : List Lag) (x1087 : Int) : Option (St ((List Lag) × Int) (List Lag) (St ((List Lag) × Int) (List Lag) ((List Lag) × Int))) :=
  (if (decide (x1087 < (x1.length : Int))) = true then (if (decide (w64 (x1087 + l934) < 0)) = true then lag_Of.k59 x1 y5 x631 l934 out1083 x1087 true else lag_Of.k59 x1 y5 x631 l934 out1083 x1087 (decide ((y5.length : Int) ≤ w64 (x1087 + l934)))) else some (.brk out1083))
noncomputable def lag_Of.k56 (x631 : Int) (out1157 : List Lag) : Option (St ((List Lag) × Int) (List Lag) ((List Lag) × Int)) :=
  some (.next (out1157, w64 (x631 + 1)))
noncomputable def lag_Of.s44 (x1 : (List Int)) (y5 : (List Int)) (most9 : Int) (out627 : List Lag) (x631 : Int) : Option (St ((List Lag) × Int) (List Lag) ((List Lag) × Int)) :=
  (if (decide (x631 < ((List.replicate (w64 ((w64 (2 * most9)) + 1)).toNat ((⟨0, 0⟩ : Lag) : Lag)).length : Int))) = true then lt' (w64 (x631 - most9)) fun l934 => ((iter (fun (s : ((List Lag) × Int)) => lag_Of.s55 x1 y5 x631 l934 s.1 s.2) (out627, 0)).bind fun o2 => fin o2 (fun (t : List Lag) => lag_Of.k56 x631 t)) else some (.brk out627))
noncomputable def lag_Of.k45 (out929 : List Lag) : Option ((List Lag) × Int) :=
  some (out929, 0)
noncomputable def lag_Of.k1 (x1 : (List Int)) (y5 : (List Int)) (most9 : Int) (x17 : Bool) : Option ((List Lag) × Int) :=
  (if x17 = true then some ([], 2) else (if 0 ≤ w64 ((w64 (2 * most9)) + 1) ∧ w64 ((w64 (2 * most9)) + 1) ≤ w64 ((w64 (2 * most9)) + 1) ∧ w64 ((w64 (2 * most9)) + 1) ≤ 17592186044416 then ((iter (fun (s : ((List Lag) × Int)) => lag_Of.s44 x1 y5 most9 s.1 s.2) ((List.replicate (w64 ((w64 (2 * most9)) + 1)).toNat ((⟨0, 0⟩ : Lag) : Lag)), 0)).bind fun o1 => fin o1 (fun (t : List Lag) => lag_Of.k45 t)) else none))
noncomputable def lag_Of.f (x1 : (List Int)) (y5 : (List Int)) (most9 : Int) : Option ((List Lag) × Int) :=
  ((sample_Check.f x1).bind fun t10 => (if (!decide (t10 = 0)) = true then some ([], t10) else ((sample_Check.f y5).bind fun t13 => (if (!decide (t13 = 0)) = true then some ([], t13) else (if (decide (most9 < 0)) = true then lag_Of.k1 x1 y5 most9 true else lag_Of.k1 x1 y5 most9 (decide (255 < most9)))))))

noncomputable def worker_part.f (j1 : Job) (block8 : Int) : Option (List Lag) :=
  ((lag_Cut.f j1.X_ (w64 (block8 * j1.Size))).bind fun t10 => ((lag_Cut.f t10.2.1 (gmin (t10.2.1.length : Int) (w64 ((w64 (block8 + 1)) * j1.Size)))).bind fun t18 => ((lag_Of.f t18.1 j1.Y j1.Most).bind fun t26 => some t26.1)))

noncomputable def worker_Part.k1 (j1 : Job) (block8 : Int) (x16 : Bool) : Option ((List Lag) × Int) :=
  (if x16 = true then some ([], 2) else ((worker_part.f j1 block8).bind fun t18 => some (t18, 0)))
noncomputable def worker_Part.f (j1 : Job) (block8 : Int) : Option ((List Lag) × Int) :=
  ((worker_Check.f j1).bind fun t10 => (if (!decide (t10 = 0)) = true then some ([], t10) else (if (decide (block8 < 0)) = true then worker_Part.k1 j1 block8 true else ((worker_blocks.f j1).bind fun t24 => worker_Part.k1 j1 block8 (decide (t24 ≤ block8))))))

noncomputable def ref19_own.k6 (k94 : Int) (x147 : List Int) : Option (St ((List Int) × Int) (List Int) (List Int)) :=
  some (.next (x147, w64 (k94 + 1)))
noncomputable def ref19_own.s4 (j1 : Job) (block8 : Int) (x90 : List Int) (k94 : Int) : Option (St ((List Int) × Int) (List Int) (List Int)) :=
  (if (decide (k94 < (j1.X_.length : Int))) = true then (if ¬ j1.Size = 0 then (if (decide (w64 (Int.tdiv k94 j1.Size) = block8)) = true then (if 0 ≤ k94 ∧ k94 < (j1.X_.length : Int) then (if x90.length + ([(ix j1.X_ k94)] : List Int).length ≤ 17592186044416 then ref19_own.k6 k94 (x90 ++ ([(ix j1.X_ k94)] : List Int)) else none) else none) else (if x90.length + ([0] : List Int).length ≤ 17592186044416 then ref19_own.k6 k94 (x90 ++ ([0] : List Int)) else none)) else none) else some (.brk x90))
noncomputable def ref19_own.k5 (x128 : List Int) : Option (List Int) :=
  some x128
noncomputable def ref19_own.f (j1 : Job) (block8 : Int) : Option (List Int) :=
  ((iter (fun (s : ((List Int) × Int)) => ref19_own.s4 j1 block8 s.1 s.2) ([], 0)).bind fun o1 => fin o1 (fun (t : List Int) => ref19_own.k5 t))

noncomputable def ref16_Of.k58 (k1609 : Int) (out1774 : List Lag) : Option (St ((List Lag) × Int) (List Lag) (St ((List Lag) × Int) (List Lag) ((List Lag) × Int))) :=
  lt' (w64 (k1609 + 1)) fun k1778 => some (.next (out1774, k1778))
noncomputable def ref16_Of.k59 (x1 : (List Int)) (y5 : (List Int)) (m9 : Int) (i927 : Int) (out1605 : List Lag) (k1609 : Int) (l1779 : Int) (x1791 : Bool) : Option (St ((List Lag) × Int) (List Lag) (St ((List Lag) × Int) (List Lag) ((List Lag) × Int))) :=
  (if x1791 = true then ref16_Of.k58 k1609 out1605 else (if 0 ≤ w64 (l1779 + m9) ∧ w64 (l1779 + m9) < (out1605.length : Int) then (if 0 ≤ i927 ∧ i927 < (x1.length : Int) then (if 0 ≤ k1609 ∧ k1609 < (y5.length : Int) then lt' (out1605.set (w64 (l1779 + m9)).toNat (⟨(w64 (((ix out1605 (w64 (l1779 + m9))).Sum) + (w64 ((ix x1 i927) * (ix y5 k1609))))), ((ix out1605 (w64 (l1779 + m9))).N)⟩ : Lag)) fun l1809 => (if 0 ≤ w64 (l1779 + m9) ∧ w64 (l1779 + m9) < (l1809.length : Int) then lt' (l1809.set (w64 (l1779 + m9)).toNat (⟨((ix l1809 (w64 (l1779 + m9))).Sum), (w64 (((ix l1809 (w64 (l1779 + m9))).N) + 1))⟩ : Lag)) fun l1818 => ref16_Of.k58 k1609 l1818 else none) else none) else none) else none))
noncomputable def ref16_Of.s55 (x1 : (List Int)) (y5 : (List Int)) (m9 : Int) (i927 : Int) (out1605 : List Lag) (k1609 : Int) : Option (St ((List Lag) × Int) (List Lag) (St ((List Lag) × Int) (List Lag) ((List Lag) × Int))) :=
  (if (decide (k1609 < (y5.length : Int))) = true then lt' (w64 (k1609 - i927)) fun l1779 => (if (decide (l1779 < w64 (0 - m9))) = true then ref16_Of.k59 x1 y5 m9 i927 out1605 k1609 l1779 true else (if (decide (m9 < l1779)) = true then ref16_Of.k59 x1 y5 m9 i927 out1605 k1609 l1779 true else (if 0 ≤ i927 ∧ i927 < (x1.length : Int) then (if (decide ((ix x1 i927) = 0)) = true then ref16_Of.k59 x1 y5 m9 i927 out1605 k1609 l1779 true else (if 0 ≤ k1609 ∧ k1609 < (y5.length : Int) then ref16_Of.k59 x1 y5 m9 i927 out1605 k1609 l1779 (decide ((ix y5 k1609) = 0)) else none)) else none))) else some (.brk out1605))
noncomputable def ref16_Of.k56 (i927 : Int) (out1718 : List Lag) : Option (St ((List Lag) × Int) (List Lag) ((List Lag) × Int)) :=
  some (.next (out1718, w64 (i927 + 1)))
noncomputable def ref16_Of.s44 (x1 : (List Int)) (y5 : (List Int)) (m9 : Int) (out923 : List Lag) (i927 : Int) : Option (St ((List Lag) × Int) (List Lag) ((List Lag) × Int)) :=
  (if (decide (i927 < (x1.length : Int))) = true then ((iter (fun (s : ((List Lag) × Int)) => ref16_Of.s55 x1 y5 m9 i927 s.1 s.2) (out923, 0)).bind fun o2 => fin o2 (fun (t : List Lag) => ref16_Of.k56 i927 t)) else some (.brk out923))
noncomputable def ref16_Of.k45 (out1377 : List Lag) : Option ((List Lag) × Int) :=
  some (out1377, 0)
noncomputable def ref16_Of.k1 (x1 : (List Int)) (y5 : (List Int)) (m9 : Int) (x21 : Bool) : Option ((List Lag) × Int) :=
  (if x21 = true then some ([], 2) else (if 0 ≤ w64 ((w64 (2 * m9)) + 1) ∧ w64 ((w64 (2 * m9)) + 1) ≤ w64 ((w64 (2 * m9)) + 1) ∧ w64 ((w64 (2 * m9)) + 1) ≤ 17592186044416 then ((iter (fun (s : ((List Lag) × Int)) => ref16_Of.s44 x1 y5 m9 s.1 s.2) ((List.replicate (w64 ((w64 (2 * m9)) + 1)).toNat ((⟨0, 0⟩ : Lag) : Lag)), 0)).bind fun o1 => fin o1 (fun (t : List Lag) => ref16_Of.k45 t)) else none))
noncomputable def ref16_Of.f (x1 : (List Int)) (y5 : (List Int)) (m9 : Int) : Option ((List Lag) × Int) :=
  ((ref13_Check.f x1).bind fun t10 => (if (!decide (t10 = 0)) = true then ((ref13_Check.f x1).bind fun t13 => some ([], t13)) else ((ref13_Check.f y5).bind fun t15 => (if (!decide (t15 = 0)) = true then ((ref13_Check.f y5).bind fun t18 => some ([], t18)) else (if (decide (m9 < 0)) = true then ref16_Of.k1 x1 y5 m9 true else ref16_Of.k1 x1 y5 m9 (decide (255 < m9)))))))

noncomputable def ref19_Part.k1 (j1 : Job) (block8 : Int) (x18 : Bool) : Option ((List Lag) × Int) :=
  (if x18 = true then some ([], 2) else ((ref19_own.f j1 block8).bind fun t20 => ((ref16_Of.f t20 j1.Y j1.Most).bind fun t25 => some (t25.1, 0))))
noncomputable def ref19_Part.f (j1 : Job) (block8 : Int) : Option ((List Lag) × Int) :=
  ((ref19_Check.f j1).bind fun t10 => (if (!decide (t10 = 0)) = true then ((ref19_Check.f j1).bind fun t13 => some ([], t13)) else (if (decide (block8 < 0)) = true then ref19_Part.k1 j1 block8 true else ((ref19_Count.f j1).bind fun t41 => ref19_Part.k1 j1 block8 (decide (t41 ≤ block8))))))

noncomputable def accum_New.k1 (most1 : Int) (x4 : Bool) : Option (Acc × Int) :=
  (if x4 = true then some ((⟨[], [], []⟩ : Acc), 2) else lt' (w64 ((w64 (2 * most1)) + 1)) fun n6 => (if 0 ≤ n6 ∧ n6 ≤ n6 ∧ n6 ≤ 17592186044416 then (if 0 ≤ n6 ∧ n6 ≤ n6 ∧ n6 ≤ 17592186044416 then some ((⟨(List.replicate n6.toNat ((⟨0, 0⟩ : Count) : Count)), (List.replicate n6.toNat ((⟨0, 0⟩ : Count) : Count)), []⟩ : Acc), 0) else none) else none))
noncomputable def accum_New.f (most1 : Int) : Option (Acc × Int) :=
  (if (decide (most1 < 0)) = true then accum_New.k1 most1 true else accum_New.k1 most1 (decide (255 < most1)))

noncomputable def math_bits_Mul64.f (x1 : Int) (y2 : Int) : Option (Int × Int) :=
  lt' (gand .u64 x1 4294967295) fun x3 => lt' (gshr .u64 x1 32) fun x4 => lt' (gand .u64 y2 4294967295) fun y5 => lt' (gshr .u64 y2 32) fun y6 => lt' (wu64 ((wu64 (x4 * y5)) + (gshr .u64 (wu64 (x3 * y5)) 32))) fun t7 => lt' (gand .u64 t7 4294967295) fun w8 => lt' (gshr .u64 t7 32) fun w9 => lt' (wu64 (w8 + (wu64 (x3 * y6)))) fun w10 => lt' (wu64 ((wu64 ((wu64 (x4 * y6)) + w9)) + (gshr .u64 w10 32))) fun hi11 => some (hi11, (wu64 (x1 * y2)))

noncomputable def math_bits_Mul.f (x1 : Int) (y2 : Int) : Option (Int × Int) :=
  ((math_bits_Mul64.f x1 y2).bind fun t3 => some (t3.1, t3.2))

noncomputable def slices_Repeat__int_int.s3 (newslice67 : List Int) (n71 : Int) : Option (St ((List Int) × Int) (List Int) (List Int)) :=
  (if (decide (n71 < (newslice67.length : Int))) = true then (if 0 ≤ n71 ∧ n71 ≤ (newslice67.length : Int) then (if 0 ≤ n71 ∧ n71 ≤ (newslice67.length : Int) then lt' (cpy newslice67 n71.toNat (newslice67.length - n71.toNat) ((newslice67.take n71.toNat).drop 0)) fun l102 => some (.next (l102, w64 (n71 + ((min ((newslice67.take n71.toNat).drop 0).length (newslice67.length - n71.toNat) : Nat) : Int)))) else none) else none) else some (.brk newslice67))
noncomputable def slices_Repeat__int_int.k4 (newslice89 : List Int) : Option (List Int) :=
  some newslice89
noncomputable def slices_Repeat__int_int.k2 (x1 : (List Int)) (t8 : Int × Int) (x15 : Bool) : Option (List Int) :=
  (if x15 = true then none else (if 0 ≤ w64 t8.2 ∧ w64 t8.2 ≤ w64 t8.2 ∧ w64 t8.2 ≤ 35184372088832 then lt' (cpy (List.replicate (w64 t8.2).toNat (0 : Int)) 0 ((List.replicate (w64 t8.2).toNat (0 : Int)).length - 0) x1) fun l21 => lt' (((min x1.length ((List.replicate (w64 t8.2).toNat (0 : Int)).length - 0) : Nat) : Int)) fun n22 => ((iter (fun (s : ((List Int) × Int)) => slices_Repeat__int_int.s3 s.1 s.2) (l21, n22)).bind fun o1 => fin o1 (fun (t : List Int) => slices_Repeat__int_int.k4 t)) else none))
noncomputable def slices_Repeat__int_int.f (x1 : (List Int)) (count5 : Int) : Option (List Int) :=
  (if (decide (count5 < 0)) = true then none else ((math_bits_Mul.f (wu64 (x1.length : Int)) (wu64 count5)).bind fun t8 => (if (decide (0 < t8.1)) = true then slices_Repeat__int_int.k2 x1 t8 true else slices_Repeat__int_int.k2 x1 t8 (decide (9223372036854775807 < t8.2)))))

noncomputable def worker_Open.k1 (j1 : Job) (n8 : Int) (x15 : Bool) : Option (Work × Int) :=
  (if x15 = true then some ((⟨(⟨[], [], []⟩ : Acc), [], []⟩ : Work), 2) else ((accum_New.f j1.Most).bind fun t17 => ((worker_blocks.f j1).bind fun t29 => (if 0 ≤ t29 ∧ t29 ≤ t29 ∧ t29 ≤ 281474976710656 then ((slices_Repeat__int_int.f ([(-1)] : List Int) n8).bind fun t36 => some ((⟨t17.1, (List.replicate t29.toNat (false : Bool)), t36⟩ : Work), 0)) else none))))
noncomputable def worker_Open.f (j1 : Job) (n8 : Int) : Option (Work × Int) :=
  ((worker_Check.f j1).bind fun t11 => (if (!decide (t11 = 0)) = true then some ((⟨(⟨[], [], []⟩ : Acc), [], []⟩ : Work), t11) else (if (decide (n8 < 1)) = true then worker_Open.k1 j1 n8 true else worker_Open.k1 j1 n8 (decide (6 < n8)))))

noncomputable def ref18_New.s2 (m1 : Int) (out45 : List Count) (out49 : List Count) (i53 : Int) : Option (St ((List Count) × (List Count) × Int) ((List Count) × (List Count)) (Acc × Int)) :=
  (if (decide (i53 < w64 ((w64 (2 * m1)) + 1))) = true then (if out45.length + ([(⟨0, 0⟩ : Count)] : List Count).length ≤ 8796093022208 then (if out49.length + ([(⟨0, 0⟩ : Count)] : List Count).length ≤ 8796093022208 then some (.next ((out45 ++ ([(⟨0, 0⟩ : Count)] : List Count)), (out49 ++ ([(⟨0, 0⟩ : Count)] : List Count)), w64 (i53 + 1))) else none) else none) else some (.brk (out45, out49)))
noncomputable def ref18_New.k3 (out63 : List Count) (out67 : List Count) : Option (Acc × Int) :=
  some ((⟨out63, out67, []⟩ : Acc), 0)
noncomputable def ref18_New.k1 (m1 : Int) (x4 : Bool) : Option (Acc × Int) :=
  (if x4 = true then some ((⟨[], [], []⟩ : Acc), 2) else ((iter (fun (s : ((List Count) × (List Count) × Int)) => ref18_New.s2 m1 s.1 s.2.1 s.2.2) ([], [], 0)).bind fun o1 => fin o1 (fun (t : ((List Count) × (List Count))) => ref18_New.k3 t.1 t.2)))
noncomputable def ref18_New.f (m1 : Int) : Option (Acc × Int) :=
  (if (decide (m1 < 0)) = true then ref18_New.k1 m1 true else ref18_New.k1 m1 (decide (255 < m1)))

noncomputable def ref19_Open.s2 (n8 : Int) (w58 : List Int) (i62 : Int) : Option (St ((List Int) × Int) (List Int) (Work × Int)) :=
  (if (decide (i62 < n8)) = true then (if w58.length + ([(-1)] : List Int).length ≤ 17592186044416 then some (.next ((w58 ++ ([(-1)] : List Int)), w64 (i62 + 1))) else none) else some (.brk w58))
noncomputable def ref19_Open.k3 (t19 : Int) (t26 : Acc × Int) (w68 : List Int) : Option (Work × Int) :=
  some ((⟨t26.1, (List.replicate t19.toNat (false : Bool)), w68⟩ : Work), 0)
noncomputable def ref19_Open.k1 (j1 : Job) (n8 : Int) (x17 : Bool) : Option (Work × Int) :=
  (if x17 = true then some ((⟨(⟨[], [], []⟩ : Acc), [], []⟩ : Work), 2) else ((ref19_Count.f j1).bind fun t19 => (if 0 ≤ t19 ∧ t19 ≤ t19 ∧ t19 ≤ 281474976710656 then ((ref18_New.f j1.Most).bind fun t26 => ((iter (fun (s : ((List Int) × Int)) => ref19_Open.s2 n8 s.1 s.2) ([], 0)).bind fun o1 => fin o1 (fun (t : List Int) => ref19_Open.k3 t19 t26 t))) else none)))
noncomputable def ref19_Open.f (j1 : Job) (n8 : Int) : Option (Work × Int) :=
  ((ref19_Check.f j1).bind fun t11 => (if (!decide (t11 = 0)) = true then ((ref19_Check.f j1).bind fun t14 => some ((⟨(⟨[], [], []⟩ : Acc), [], []⟩ : Work), t14)) else (if (decide (n8 < 1)) = true then ref19_Open.k1 j1 n8 true else ref19_Open.k1 j1 n8 (decide (6 < n8)))))

noncomputable def ref16_Same.s1 (a1 : (List Lag)) (b5 : (List Lag)) (i32 : Int) : Option (St Int Unit Bool) :=
  (if (decide (i32 < (a1.length : Int))) = true then (if 0 ≤ i32 ∧ i32 < (a1.length : Int) then (if 0 ≤ i32 ∧ i32 < (b5.length : Int) then (if (!decide ((ix a1 i32) = (ix b5 i32))) = true then some (.ret false) else some (.next (w64 (i32 + 1)))) else none) else none) else some (.brk ()))
noncomputable def ref16_Same.k2 : Option Bool :=
  some true
noncomputable def ref16_Same.f (a1 : (List Lag)) (b5 : (List Lag)) : Option Bool :=
  (if (!decide ((a1.length : Int) = (b5.length : Int))) = true then some false else ((iter (fun (s : Int) => ref16_Same.s1 a1 b5 s) 0).bind fun o1 => fin o1 (fun (t : Unit) => ref16_Same.k2)))

noncomputable def ref13_Same.s1 (a1 : (List Int)) (b5 : (List Int)) (i32 : Int) : Option (St Int Unit Bool) :=
  (if (decide (i32 < (a1.length : Int))) = true then (if 0 ≤ i32 ∧ i32 < (a1.length : Int) then (if 0 ≤ i32 ∧ i32 < (b5.length : Int) then (if (!decide ((ix a1 i32) = (ix b5 i32))) = true then some (.ret false) else some (.next (w64 (i32 + 1)))) else none) else none) else some (.brk ()))
noncomputable def ref13_Same.k2 : Option Bool :=
  some true
noncomputable def ref13_Same.f (a1 : (List Int)) (b5 : (List Int)) : Option Bool :=
  (if (!decide ((a1.length : Int) = (b5.length : Int))) = true then some false else ((iter (fun (s : Int) => ref13_Same.s1 a1 b5 s) 0).bind fun o1 => fin o1 (fun (t : Unit) => ref13_Same.k2)))

noncomputable def ref18_Same.s6 (a1 : Acc) (b11 : Acc) (i115 : Int) : Option (St Int Unit Bool) :=
  (if (decide (i115 < (a1.Spans.length : Int))) = true then (if 0 ≤ i115 ∧ i115 < (a1.Spans.length : Int) then (if 0 ≤ i115 ∧ i115 < (b11.Spans.length : Int) then (if (!decide ((ix a1.Spans i115) = (ix b11.Spans i115))) = true then some (.ret false) else some (.next (w64 (i115 + 1)))) else none) else none) else some (.brk ()))
noncomputable def ref18_Same.k7 : Option Bool :=
  some true
noncomputable def ref18_Same.s4 (a1 : Acc) (b11 : Acc) (i82 : Int) : Option (St Int Unit Bool) :=
  (if (decide (i82 < (a1.Ns.length : Int))) = true then (if 0 ≤ i82 ∧ i82 < (a1.Ns.length : Int) then (if 0 ≤ i82 ∧ i82 < (b11.Ns.length : Int) then (if (!decide ((ix a1.Ns i82) = (ix b11.Ns i82))) = true then some (.ret false) else some (.next (w64 (i82 + 1)))) else none) else none) else some (.brk ()))
noncomputable def ref18_Same.k5 (a1 : Acc) (b11 : Acc) : Option Bool :=
  ((iter (fun (s : Int) => ref18_Same.s6 a1 b11 s) 0).bind fun o1 => fin o1 (fun (t : Unit) => ref18_Same.k7))
noncomputable def ref18_Same.s2 (a1 : Acc) (b11 : Acc) (i49 : Int) : Option (St Int Unit Bool) :=
  (if (decide (i49 < (a1.Sums.length : Int))) = true then (if 0 ≤ i49 ∧ i49 < (a1.Sums.length : Int) then (if 0 ≤ i49 ∧ i49 < (b11.Sums.length : Int) then (if (!decide ((ix a1.Sums i49) = (ix b11.Sums i49))) = true then some (.ret false) else some (.next (w64 (i49 + 1)))) else none) else none) else some (.brk ()))
noncomputable def ref18_Same.k3 (a1 : Acc) (b11 : Acc) : Option Bool :=
  ((iter (fun (s : Int) => ref18_Same.s4 a1 b11 s) 0).bind fun o1 => fin o1 (fun (t : Unit) => ref18_Same.k5 a1 b11))
noncomputable def ref18_Same.k1 (a1 : Acc) (b11 : Acc) (x25 : Bool) : Option Bool :=
  (if x25 = true then some false else ((iter (fun (s : Int) => ref18_Same.s2 a1 b11 s) 0).bind fun o1 => fin o1 (fun (t : Unit) => ref18_Same.k3 a1 b11)))
noncomputable def ref18_Same.f (a1 : Acc) (b11 : Acc) : Option Bool :=
  (if (!decide ((a1.Sums.length : Int) = (b11.Sums.length : Int))) = true then ref18_Same.k1 a1 b11 true else (if (!decide ((a1.Ns.length : Int) = (b11.Ns.length : Int))) = true then ref18_Same.k1 a1 b11 true else ref18_Same.k1 a1 b11 (!decide ((a1.Spans.length : Int) = (b11.Spans.length : Int)))))

noncomputable def ref19_Same.s2 (a1 : Work) (b17 : Work) (i65 : Int) : Option (St Int Unit Bool) :=
  (if (decide (i65 < (a1.Done.length : Int))) = true then (if 0 ≤ i65 ∧ i65 < (a1.Done.length : Int) then (if 0 ≤ i65 ∧ i65 < (b17.Done.length : Int) then (if (!((ix a1.Done i65) == (ix b17.Done i65))) = true then some (.ret false) else some (.next (w64 (i65 + 1)))) else none) else none) else some (.brk ()))
noncomputable def ref19_Same.k3 : Option Bool :=
  some true
noncomputable def ref19_Same.k1 (a1 : Work) (b17 : Work) (x41 : Bool) : Option Bool :=
  (if x41 = true then some false else ((iter (fun (s : Int) => ref19_Same.s2 a1 b17 s) 0).bind fun o1 => fin o1 (fun (t : Unit) => ref19_Same.k3)))
noncomputable def ref19_Same.f (a1 : Work) (b17 : Work) : Option Bool :=
  (if (!decide ((a1.Done.length : Int) = (b17.Done.length : Int))) = true then ref19_Same.k1 a1 b17 true else ((ref13_Same.f a1.At b17.At).bind fun t87 => (if (!t87) = true then ref19_Same.k1 a1 b17 true else ((ref18_Same.f a1.Sum b17.Sum).bind fun t90 => ref19_Same.k1 a1 b17 (!t90)))))

noncomputable def law19_WorkerParts.k1 (j1 : Job) (block8 : Int) (n9 : Int) : Option Bool :=
  ((worker_Blocks.f (⟨(([] : List Int) ++ j1.X_), (([] : List Int) ++ j1.Y), j1.Most, j1.Size⟩ : Job)).bind fun t135 => ((ref19_Blocks.f j1).bind fun t137 => ((worker_Part.f (⟨(([] : List Int) ++ j1.X_), (([] : List Int) ++ j1.Y), j1.Most, j1.Size⟩ : Job) block8).bind fun t139 => ((ref19_Part.f j1 block8).bind fun t144 => ((worker_Open.f (⟨(([] : List Int) ++ j1.X_), (([] : List Int) ++ j1.Y), j1.Most, j1.Size⟩ : Job) n9).bind fun t149 => ((ref19_Open.f j1 n9).bind fun t167 => ((worker_Check.f (⟨(([] : List Int) ++ j1.X_), (([] : List Int) ++ j1.Y), j1.Most, j1.Size⟩ : Job)).bind fun t185 => ((ref19_Check.f j1).bind fun t187 => (if (decide (t185 = t187)) = true then (if (decide (t135.1 = t137.1)) = true then (if (decide (t135.2 = t137.2)) = true then ((ref16_Same.f t139.1 t144.1).bind fun t192 => (if t192 = true then (if (decide (t139.2 = t144.2)) = true then ((ref19_Same.f t149.1 t167.1).bind fun t196 => (if t196 = true then (if (decide (t149.2 = t167.2)) = true then ((ref13_Same.f (([] : List Int) ++ j1.X_) j1.X_).bind fun t200 => (if t200 = true then ((ref13_Same.f (([] : List Int) ++ j1.Y) j1.Y).bind fun t203 => some t203) else some false)) else some false) else some false)) else some false) else some false)) else some false) else some false) else some false)))))))))
noncomputable def law19_WorkerParts.f (j1 : Job) (block8 : Int) (n9 : Int) : Option Bool :=
  ((ref19_Great.f j1).bind fun t11 => (if t11 = true then some true else (if ([] : List Int).length + j1.X_.length ≤ 17592186044416 then (if ([] : List Int).length + j1.Y.length ≤ 17592186044416 then law19_WorkerParts.k1 j1 block8 n9 else none) else none)))


end Go.Proofs.Ytafploedondfpaa.M
