import Derived.Test.YtiepcikippcfaaaGw23
set_option linter.unusedVariables false
set_option linter.unusedSimpArgs false
set_option maxRecDepth 100000
set_option maxHeartbeats 8000000
namespace Go.Proofs.Ytiepcikippcfaaa.M
open Go.GW Go.Proofs

structure Count where
  Hi : Int
  Lo : Int
  deriving DecidableEq, Inhabited
def fl_Count : Fl Count := ⟨2, fun x => [.int .i64 x.Hi, .int .i64 x.Lo], fun _ => rfl, fun x v h => by
  simp only [List.mem_cons, List.not_mem_nil, or_false] at h
  rcases h with rfl | rfl <;> rfl⟩
structure Gap where
  At : Int
  Many : Int
  deriving DecidableEq, Inhabited
def fl_Gap : Fl Gap := ⟨2, fun x => [.int .i64 x.At, .int .i64 x.Many], fun _ => rfl, fun x v h => by
  simp only [List.mem_cons, List.not_mem_nil, or_false] at h
  rcases h with rfl | rfl <;> rfl⟩
structure Acc where
  Sums : (List Count)
  Ns : (List Count)
  Spans : (List Gap)
  deriving DecidableEq, Inhabited
structure Lag where
  Sum : Int
  N : Int
  deriving DecidableEq, Inhabited
def fl_Lag : Fl Lag := ⟨2, fun x => [.int .i64 x.Sum, .int .i64 x.N], fun _ => rfl, fun x v h => by
  simp only [List.mem_cons, List.not_mem_nil, or_false] at h
  rcases h with rfl | rfl <;> rfl⟩
structure Wide where
  Count : Count
  deriving DecidableEq, Inhabited
def fl_Wide : Fl Wide := ⟨2, fun x => [.int .i64 x.Count.Hi, .int .i64 x.Count.Lo], fun _ => rfl, fun x v h => by
  simp only [List.mem_cons, List.not_mem_nil, or_false] at h
  rcases h with rfl | rfl <;> rfl⟩
structure Frac where
  Num : Int
  Den : Int
  deriving DecidableEq, Inhabited
def fl_Frac : Fl Frac := ⟨2, fun x => [.int .i64 x.Num, .int .i64 x.Den], fun _ => rfl, fun x v h => by
  simp only [List.mem_cons, List.not_mem_nil, or_false] at h
  rcases h with rfl | rfl <;> rfl⟩
def ok_Count (x : Count) : Prop := (okInt .i64 x.Hi) ∧ (okInt .i64 x.Lo)
def ok_Gap (x : Gap) : Prop := (okInt .i64 x.At) ∧ (okInt .i64 x.Many)
def ok_Acc (x : Acc) : Prop := (∀ y ∈ x.Sums, ok_Count y) ∧ (∀ y ∈ x.Ns, ok_Count y) ∧ (∀ y ∈ x.Spans, ok_Gap y)
def ok_Lag (x : Lag) : Prop := (okInt .i64 x.Sum) ∧ (okInt .i64 x.N)
noncomputable def accum_New.k1 (most1 : Int) (x4 : Bool) : Option (Acc × Int) :=
  (if x4 = true then some ((⟨[], [], []⟩ : Acc), 2) else lt' (w64 ((w64 (2 * most1)) + 1)) fun n6 => (if 0 ≤ n6 ∧ n6 ≤ n6 ∧ n6 ≤ 17592186044416 then (if 0 ≤ n6 ∧ n6 ≤ n6 ∧ n6 ≤ 17592186044416 then some ((⟨(List.replicate n6.toNat ((⟨0, 0⟩ : Count) : Count)), (List.replicate n6.toNat ((⟨0, 0⟩ : Count) : Count)), []⟩ : Acc), 0) else none) else none))
noncomputable def accum_New.f (most1 : Int) : Option (Acc × Int) :=
  (if (decide (most1 < 0)) = true then accum_New.k1 most1 true else accum_New.k1 most1 (decide (255 < most1)))

noncomputable def accum_wide_valid.f (w1 : Wide) : Option Bool :=
  (if (decide (0 ≤ w1.Count.Lo)) = true then (if (decide (w1.Count.Lo < 1000000000)) = true then (if (decide ((-1000000000) ≤ w1.Count.Hi)) = true then some (decide (w1.Count.Hi < 1000000000)) else some false) else some false) else some false)

noncomputable def accum_Check_1.f (c1 : Count) (v2 : Int) : Option Bool :=
  ((accum_wide_valid.f (⟨c1⟩ : Wide)).bind fun t5 => (if (!t5) = true then some true else some (decide (c1.Hi < v2))))

noncomputable def slices_IndexFunc__api_Count_api_Count__accum_Check_1.s1 (s1 : (List Count)) (v5 : Int) (x25 : Int) : Option (St Int Unit Int) :=
  (if (decide (x25 < (s1.length : Int))) = true then (if 0 ≤ x25 ∧ x25 < (s1.length : Int) then ((accum_Check_1.f (ix s1 x25) v5).bind fun t39 => (if t39 = true then some (.ret x25) else some (.next (w64 (x25 + 1))))) else none) else some (.brk ()))
noncomputable def slices_IndexFunc__api_Count_api_Count__accum_Check_1.k2 : Option Int :=
  some (-1)
noncomputable def slices_IndexFunc__api_Count_api_Count__accum_Check_1.f (s1 : (List Count)) (v5 : Int) : Option Int :=
  ((iter (fun (s : Int) => slices_IndexFunc__api_Count_api_Count__accum_Check_1.s1 s1 v5 s) 0).bind fun o1 => fin o1 (fun (t : Unit) => slices_IndexFunc__api_Count_api_Count__accum_Check_1.k2))

noncomputable def slices_ContainsFunc__api_Count_api_Count__accum_Check_1.f (s1 : (List Count)) (v5 : Int) : Option Bool :=
  ((slices_IndexFunc__api_Count_api_Count__accum_Check_1.f s1 v5).bind fun t7 => some (decide (0 ≤ t7)))

noncomputable def accum_runs.k6 (l1 : (List Gap)) (x49 : Int) (x74 : Bool) : Option (St (Int × Int) Unit Bool) :=
  (if x74 = true then some (.ret false) else lt' (w64 ((w64 (((ix l1 x49).At) + ((ix l1 x49).Many))) + 1)) fun free76 => some (.next (free76, w64 (x49 + 1))))
noncomputable def accum_runs.s4 (l1 : (List Gap)) (free45 : Int) (x49 : Int) : Option (St (Int × Int) Unit Bool) :=
  (if (decide (x49 < (l1.length : Int))) = true then (if 0 ≤ x49 ∧ x49 < (l1.length : Int) then (if (decide ((ix l1 x49).At < free45)) = true then accum_runs.k6 l1 x49 true else (if (decide ((ix l1 x49).Many < 1)) = true then accum_runs.k6 l1 x49 true else (if (decide (1000000000 < (ix l1 x49).At)) = true then accum_runs.k6 l1 x49 true else accum_runs.k6 l1 x49 (decide (w64 (1000000000 - ((ix l1 x49).At)) < (ix l1 x49).Many))))) else none) else some (.brk ()))
noncomputable def accum_runs.k5 : Option Bool :=
  some true
noncomputable def accum_runs.f (l1 : (List Gap)) : Option Bool :=
  ((iter (fun (s : (Int × Int)) => accum_runs.s4 l1 s.1 s.2) (0, 0)).bind fun o1 => fin o1 (fun (t : Unit) => accum_runs.k5))

noncomputable def accum_Check.k2 (a1 : Acc) (x24 : Bool) : Option Int :=
  (if x24 = true then some 8 else ((slices_ContainsFunc__api_Count_api_Count__accum_Check_1.f a1.Ns 0).bind fun t26 => (if t26 = true then some 8 else some 0)))
noncomputable def accum_Check.k1 (a1 : Acc) (x14 : Bool) : Option Int :=
  (if x14 = true then some 4 else (if (decide (Int.tmod (a1.Sums.length : Int) 2 = 0)) = true then accum_Check.k2 a1 true else (if (!decide ((a1.Ns.length : Int) = (a1.Sums.length : Int))) = true then accum_Check.k2 a1 true else ((slices_ContainsFunc__api_Count_api_Count__accum_Check_1.f a1.Sums (-1000000000)).bind fun t31 => (if t31 = true then accum_Check.k2 a1 true else ((accum_runs.f a1.Spans).bind fun t34 => accum_Check.k2 a1 (!t34)))))))
noncomputable def accum_Check.f (a1 : Acc) : Option Int :=
  (if (decide (511 < (a1.Sums.length : Int))) = true then accum_Check.k1 a1 true else (if (decide (511 < (a1.Ns.length : Int))) = true then accum_Check.k1 a1 true else accum_Check.k1 a1 (decide (64 < (a1.Spans.length : Int)))))

noncomputable def lag_Check_1.f (x1 : Lag) : Option Bool :=
  (if (decide (x1.N < 0)) = true then some true else (if (decide (256 < x1.N)) = true then some true else (if (decide (w64 (9 * x1.N) < x1.Sum)) = true then some true else (if (decide (x1.Sum < w64 ((-9) * x1.N))) = true then some true else some (!decide (Int.tmod (w64 (x1.Sum - x1.N)) 2 = 0))))))

noncomputable def slices_IndexFunc__api_Lag_api_Lag__lag_Check_1.s1 (s1 : (List Lag)) (x23 : Int) : Option (St Int Unit Int) :=
  (if (decide (x23 < (s1.length : Int))) = true then (if 0 ≤ x23 ∧ x23 < (s1.length : Int) then ((lag_Check_1.f (ix s1 x23)).bind fun t37 => (if t37 = true then some (.ret x23) else some (.next (w64 (x23 + 1))))) else none) else some (.brk ()))
noncomputable def slices_IndexFunc__api_Lag_api_Lag__lag_Check_1.k2 : Option Int :=
  some (-1)
noncomputable def slices_IndexFunc__api_Lag_api_Lag__lag_Check_1.f (s1 : (List Lag)) : Option Int :=
  ((iter (fun (s : Int) => slices_IndexFunc__api_Lag_api_Lag__lag_Check_1.s1 s1 s) 0).bind fun o1 => fin o1 (fun (t : Unit) => slices_IndexFunc__api_Lag_api_Lag__lag_Check_1.k2))

noncomputable def slices_ContainsFunc__api_Lag_api_Lag__lag_Check_1.f (s1 : (List Lag)) : Option Bool :=
  ((slices_IndexFunc__api_Lag_api_Lag__lag_Check_1.f s1).bind fun t5 => some (decide (0 ≤ t5)))

noncomputable def lag_Check.k1 (x9 : Bool) : Option Int :=
  (if x9 = true then some 8 else some 0)
noncomputable def lag_Check.f (l1 : (List Lag)) : Option Int :=
  (if (decide (511 < (l1.length : Int))) = true then some 4 else (if (decide (Int.tmod (l1.length : Int) 2 = 0)) = true then lag_Check.k1 true else ((slices_ContainsFunc__api_Lag_api_Lag__lag_Check_1.f l1).bind fun t12 => lag_Check.k1 t12)))

noncomputable def accum_of.k1 (hi7 : Int) (lo8 : Int) : Option Wide :=
  some (⟨(⟨hi7, lo8⟩ : Count)⟩ : Wide)
noncomputable def accum_of.f (n1 : Int) : Option Wide :=
  lt' (w64 (Int.tdiv n1 1000000000)) fun hi3 => lt' (Int.tmod n1 1000000000) fun lo4 => (if (decide (lo4 < 0)) = true then lt' (w64 (lo4 + 1000000000)) fun lo10 => accum_of.k1 (w64 (hi3 - 1)) lo10 else accum_of.k1 hi3 lo4)

noncomputable def slices_Grow__api_Gap_api_Gap__nil.f (n1 : Int) : Option (List Gap) :=
  (if (decide (n1 < 0)) = true then none else (if (decide (0 < w64 (n1 - 0))) = true then (if 1 ≤ w64 (n1 - 0) ∧ w64 (n1 - 0) ≤ 8796093022208 then (if (0 : Int) ≤ 0 ∧ 0 ≤ ((List.replicate (w64 (n1 - 0)).toNat ((⟨0, 0⟩ : Gap) : Gap)).length : Int) then some ((List.replicate (w64 (n1 - 0)).toNat ((⟨0, 0⟩ : Gap) : Gap)).take (0 : Int).toNat) else none) else none) else some []))

noncomputable def slices_Concat__api_Gap_api_Gap.s3 (slices1 : (List (List Gap))) (newslice106 : List Gap) (x110 : Int) : Option (St ((List Gap) × Int) (List Gap) (List Gap)) :=
  (if (decide (x110 < (slices1.length : Int))) = true then (if 0 ≤ x110 ∧ x110 < (slices1.length : Int) then (if newslice106.length + (ix slices1 x110).length ≤ 8796093022208 then some (.next ((newslice106 ++ (ix slices1 x110)), w64 (x110 + 1))) else none) else none) else some (.brk newslice106))
noncomputable def slices_Concat__api_Gap_api_Gap.k4 (newslice122 : List Gap) : Option (List Gap) :=
  some newslice122
noncomputable def slices_Concat__api_Gap_api_Gap.s1 (slices1 : (List (List Gap))) (size47 : Int) (x48 : Int) : Option (St (Int × Int) Int (List Gap)) :=
  (if (decide (x48 < (slices1.length : Int))) = true then (if 0 ≤ x48 ∧ x48 < (slices1.length : Int) then lt' (w64 (size47 + ((ix slices1 x48).length : Int))) fun size154 => (if (decide (size154 < 0)) = true then none else some (.next (size154, w64 (x48 + 1)))) else none) else some (.brk size47))
noncomputable def slices_Concat__api_Gap_api_Gap.k2 (slices1 : (List (List Gap))) (size68 : Int) : Option (List Gap) :=
  ((slices_Grow__api_Gap_api_Gap__nil.f size68).bind fun t69 => ((iter (fun (s : ((List Gap) × Int)) => slices_Concat__api_Gap_api_Gap.s3 slices1 s.1 s.2) (t69, 0)).bind fun o1 => fin o1 (fun (t : List Gap) => slices_Concat__api_Gap_api_Gap.k4 t)))
noncomputable def slices_Concat__api_Gap_api_Gap.f (slices1 : (List (List Gap))) : Option (List Gap) :=
  ((iter (fun (s : (Int × Int)) => slices_Concat__api_Gap_api_Gap.s1 slices1 s.1 s.2) (0, 0)).bind fun o1 => fin o1 (fun (t : Int) => slices_Concat__api_Gap_api_Gap.k2 slices1 t))

noncomputable def cmp_isNaN__int.f (x1 : Int) : Option Bool :=
  some (!decide (x1 = x1))

noncomputable def cmp_Compare__int.f (x1 : Int) (y2 : Int) : Option Int :=
  ((cmp_isNaN__int.f x1).bind fun t3 => ((cmp_isNaN__int.f y2).bind fun t5 => (if t3 = true then (if t5 = true then some 0 else some (-1)) else (if t5 = true then some 1 else (if (decide (x1 < y2)) = true then some (-1) else (if (decide (y2 < x1)) = true then some 1 else some 0))))))

noncomputable def accum_join_1.f (x1 : Gap) (y2 : Gap) : Option Int :=
  ((cmp_Compare__int.f x1.At y2.At).bind fun t5 => some t5)

def pc_accum_join_1 (x : Gap) : Bool := true
def cf_accum_join_1 (x y : Gap) : Int := if x.At < y.At then -1 else if y.At < x.At then 1 else 0

noncomputable def accum_join.k13 (x274 : Int) (out432 : List Gap) : Option (St ((List Gap) × Int) (List Gap) ((List Gap) × Int)) :=
  some (.next (out432, w64 (x274 + 1)))
noncomputable def accum_join.k14 (l15 : List Gap) (out267 : List Gap) (x274 : Int) (n444 : Int) (x454 : Bool) : Option (St ((List Gap) × Int) (List Gap) ((List Gap) × Int)) :=
  (if x454 = true then (if out267.length + ([(ix l15 x274)] : List Gap).length ≤ 8796093022208 then accum_join.k13 x274 (out267 ++ ([(ix l15 x274)] : List Gap)) else none) else (if 0 ≤ w64 (n444 - 1) ∧ w64 (n444 - 1) < (out267.length : Int) then (if (decide ((ix l15 x274).At < w64 (((ix out267 (w64 (n444 - 1))).At) + ((ix out267 (w64 (n444 - 1))).Many)))) = true then some (.ret ([], 14)) else lt' (out267.set (w64 (n444 - 1)).toNat (⟨((ix out267 (w64 (n444 - 1))).At), (w64 (((ix out267 (w64 (n444 - 1))).Many) + ((ix l15 x274).Many)))⟩ : Gap)) fun l477 => accum_join.k13 x274 l477) else none))
noncomputable def accum_join.s10 (l15 : List Gap) (out267 : List Gap) (x274 : Int) : Option (St ((List Gap) × Int) (List Gap) ((List Gap) × Int)) :=
  (if (decide (x274 < (l15.length : Int))) = true then (if 0 ≤ x274 ∧ x274 < (l15.length : Int) then lt' ((out267.length : Int)) fun n444 => (if (decide (n444 = 0)) = true then accum_join.k14 l15 out267 x274 n444 true else (if 0 ≤ w64 (n444 - 1) ∧ w64 (n444 - 1) < (out267.length : Int) then accum_join.k14 l15 out267 x274 n444 (decide (w64 (((ix out267 (w64 (n444 - 1))).At) + ((ix out267 (w64 (n444 - 1))).Many)) < (ix l15 x274).At)) else none)) else none) else some (.brk out267))
noncomputable def accum_join.k11 (out379 : List Gap) : Option ((List Gap) × Int) :=
  some (out379, 0)
noncomputable def accum_join.f (a1 : (List Gap)) (b5 : (List Gap)) : Option ((List Gap) × Int) :=
  ((slices_Concat__api_Gap_api_Gap.f ([a1, b5] : List (List Gap))).bind fun t10 => (if t10.length ≤ 4611686018427387903 then ((sortF pc_accum_join_1 cf_accum_join_1 t10).bind fun l15 => ((iter (fun (s : ((List Gap) × Int)) => accum_join.s10 l15 s.1 s.2) ([], 0)).bind fun o1 => fin o1 (fun (t : List Gap) => accum_join.k11 t))) else none))

noncomputable def accum_wide_plus.k1 (w7 : Wide) : Option Wide :=
  some w7
noncomputable def accum_wide_plus.f (w1 : Wide) (v2 : Wide) : Option Wide :=
  (if (decide (1000000000 ≤ w64 (w1.Count.Lo + v2.Count.Lo))) = true then accum_wide_plus.k1 (⟨(⟨(w64 ((w64 (w1.Count.Hi + v2.Count.Hi)) + 1)), (w64 ((w64 (w1.Count.Lo + v2.Count.Lo)) - 1000000000))⟩ : Count)⟩ : Wide) else accum_wide_plus.k1 (⟨(⟨(w64 (w1.Count.Hi + v2.Count.Hi)), (w64 (w1.Count.Lo + v2.Count.Lo))⟩ : Count)⟩ : Wide))

noncomputable def accum_sum.s1 (a1 : (List Count)) (b5 : (List Count)) (out60 : List Count) (x64 : Int) : Option (St ((List Count) × Int) (List Count) ((List Count) × Bool)) :=
  (if (decide (x64 < (a1.length : Int))) = true then (if 0 ≤ x64 ∧ x64 < (a1.length : Int) then (if 0 ≤ x64 ∧ x64 < (b5.length : Int) then ((accum_wide_plus.f (⟨(ix a1 x64)⟩ : Wide) (⟨(ix b5 x64)⟩ : Wide)).bind fun t99 => ((accum_wide_valid.f t99).bind fun t102 => (if (!t102) = true then some (.ret ([], false)) else (if out60.length + ([t99.Count] : List Count).length ≤ 8796093022208 then some (.next ((out60 ++ ([t99.Count] : List Count)), w64 (x64 + 1))) else none)))) else none) else none) else some (.brk out60))
noncomputable def accum_sum.k2 (out85 : List Count) : Option ((List Count) × Bool) :=
  some (out85, true)
noncomputable def accum_sum.f (a1 : (List Count)) (b5 : (List Count)) : Option ((List Count) × Bool) :=
  ((iter (fun (s : ((List Count) × Int)) => accum_sum.s1 a1 b5 s.1 s.2) ([], 0)).bind fun o1 => fin o1 (fun (t : List Count) => accum_sum.k2 t))

noncomputable def accum_merge.k1 (t24 : (List Gap) × Int) (t30 : (List Count) × Bool) (t35 : (List Count) × Bool) (x41 : Bool) : Option (Acc × Int) :=
  (if x41 = true then some ((⟨[], [], []⟩ : Acc), 16) else (if (decide (64 < (t24.1.length : Int))) = true then some ((⟨[], [], []⟩ : Acc), 4) else some ((⟨t30.1, t35.1, t24.1⟩ : Acc), 0)))
noncomputable def accum_merge.f (a1 : Acc) (b11 : Acc) : Option (Acc × Int) :=
  ((accum_join.f a1.Spans b11.Spans).bind fun t24 => (if (!decide (t24.2 = 0)) = true then some ((⟨[], [], []⟩ : Acc), t24.2) else ((accum_sum.f a1.Sums b11.Sums).bind fun t30 => ((accum_sum.f a1.Ns b11.Ns).bind fun t35 => (if (!t30.2) = true then accum_merge.k1 t24 t30 t35 true else accum_merge.k1 t24 t30 t35 (!t35.2))))))

noncomputable def accum_Add.s2 (l11 : (List Lag)) (b89 : List Count) (b93 : List Count) (x97 : Int) : Option (St ((List Count) × (List Count) × Int) ((List Count) × (List Count)) (Acc × Int)) :=
  (if (decide (x97 < (l11.length : Int))) = true then (if 0 ≤ x97 ∧ x97 < (l11.length : Int) then ((accum_of.f ((ix l11 x97).Sum)).bind fun t141 => (if b89.length + ([t141.Count] : List Count).length ≤ 8796093022208 then ((accum_of.f ((ix l11 x97).N)).bind fun t1147 => (if b93.length + ([t1147.Count] : List Count).length ≤ 8796093022208 then some (.next ((b89 ++ ([t141.Count] : List Count)), (b93 ++ ([t1147.Count] : List Count)), w64 (x97 + 1))) else none)) else none)) else none) else some (.brk (b89, b93)))
noncomputable def accum_Add.k3 (a1 : Acc) (at15 : Int) (many16 : Int) (b116 : List Count) (b120 : List Count) : Option (Acc × Int) :=
  ((accum_merge.f a1 (⟨b116, b120, ([(⟨at15, many16⟩ : Gap)] : List Gap)⟩ : Acc)).bind fun t124 => some (t124.1, t124.2))
noncomputable def accum_Add.k1 (a1 : Acc) (l11 : (List Lag)) (at15 : Int) (many16 : Int) (x29 : Bool) : Option (Acc × Int) :=
  (if x29 = true then some ((⟨[], [], []⟩ : Acc), 2) else ((iter (fun (s : ((List Count) × (List Count) × Int)) => accum_Add.s2 l11 s.1 s.2.1 s.2.2) ([], [], 0)).bind fun o1 => fin o1 (fun (t : ((List Count) × (List Count))) => accum_Add.k3 a1 at15 many16 t.1 t.2)))
noncomputable def accum_Add.f (a1 : Acc) (l11 : (List Lag)) (at15 : Int) (many16 : Int) : Option (Acc × Int) :=
  ((accum_Check.f a1).bind fun t19 => (if (!decide (t19 = 0)) = true then some ((⟨[], [], []⟩ : Acc), t19) else ((lag_Check.f l11).bind fun t22 => (if (!decide (t22 = 0)) = true then some ((⟨[], [], []⟩ : Acc), t22) else (if (!decide ((l11.length : Int) = (a1.Sums.length : Int))) = true then accum_Add.k1 a1 l11 at15 many16 true else (if (decide (many16 < 1)) = true then accum_Add.k1 a1 l11 at15 many16 true else (if (decide (256 < many16)) = true then accum_Add.k1 a1 l11 at15 many16 true else (if (decide (at15 < 0)) = true then accum_Add.k1 a1 l11 at15 many16 true else accum_Add.k1 a1 l11 at15 many16 (decide (w64 (1000000000 - many16) < at15))))))))))

noncomputable def accum_wide_value.f (w1 : Wide) : Option Int :=
  some (w64 ((w64 (w1.Count.Hi * 1000000000)) + w1.Count.Lo))

noncomputable def accum_Value.k1 (a1 : Acc) (lag11 : Int) (most16 : Int) (x18 : Bool) : Option (Int × Int × Int) :=
  (if x18 = true then some (0, 0, 2) else (if 0 ≤ w64 (lag11 + most16) ∧ w64 (lag11 + most16) < (a1.Sums.length : Int) then ((accum_wide_value.f (⟨(ix a1.Sums (w64 (lag11 + most16)))⟩ : Wide)).bind fun t24 => (if 0 ≤ w64 (lag11 + most16) ∧ w64 (lag11 + most16) < (a1.Ns.length : Int) then ((accum_wide_value.f (⟨(ix a1.Ns (w64 (lag11 + most16)))⟩ : Wide)).bind fun t30 => some (t24, t30, 0)) else none)) else none))
noncomputable def accum_Value.f (a1 : Acc) (lag11 : Int) : Option (Int × Int × Int) :=
  ((accum_Check.f a1).bind fun t13 => (if (!decide (t13 = 0)) = true then some (0, 0, t13) else lt' (w64 (Int.tdiv (a1.Sums.length : Int) 2)) fun most16 => (if (decide (lag11 < w64 (0 - most16))) = true then accum_Value.k1 a1 lag11 most16 true else accum_Value.k1 a1 lag11 most16 (decide (most16 < lag11)))))

noncomputable def frac_abs.f (n1 : Int) : Option Int :=
  (if (decide (n1 < 0)) = true then some (wu64 (0 - wu64 n1)) else some (wu64 n1))

noncomputable def frac_gcd.s1 (a11 : Int) (b12 : Int) : Option (St (Int × Int) Int Int) :=
  (if (decide (0 < b12)) = true then (if ¬ b12 = 0 then lt' (Int.tmod a11 b12) fun b19 => some (.next (b12, b19)) else none) else some (.brk a11))
noncomputable def frac_gcd.k2 (a16 : Int) : Option Int :=
  some a16
noncomputable def frac_gcd.f (a1 : Int) (b2 : Int) : Option Int :=
  ((iter (fun (s : (Int × Int)) => frac_gcd.s1 s.1 s.2) (a1, b2)).bind fun o1 => fin o1 (fun (t : Int) => frac_gcd.k2 t))

noncomputable def frac_made.k2 (a10 : Frac) : Option (Frac × Int) :=
  some (a10, 0)
noncomputable def frac_made.k1 (minus1 : Bool) (num2 : Int) (den3 : Int) (x6 : Bool) : Option (Frac × Int) :=
  (if x6 = true then some ((⟨0, 0⟩ : Frac), 16) else (if minus1 = true then frac_made.k2 (⟨(w64 (0 - w64 num2)), (w64 den3)⟩ : Frac) else frac_made.k2 (⟨(w64 num2), (w64 den3)⟩ : Frac)))
noncomputable def frac_made.f (minus1 : Bool) (num2 : Int) (den3 : Int) : Option (Frac × Int) :=
  (if (decide (1000000000000000000 < num2)) = true then frac_made.k1 minus1 num2 den3 true else frac_made.k1 minus1 num2 den3 (decide (1000000000000000000 < den3)))

noncomputable def frac_Make.f (num1 : Int) (den2 : Int) : Option (Frac × Int) :=
  (if (decide (den2 = 0)) = true then some ((⟨0, 0⟩ : Frac), 18) else ((frac_abs.f num1).bind fun t5 => ((frac_abs.f den2).bind fun t7 => ((frac_gcd.f t5 t7).bind fun t9 => (if ¬ t9 = 0 then (if ¬ t9 = 0 then ((frac_made.f (!((decide (num1 < 0)) == (decide (den2 < 0)))) (wu64 (Int.tdiv t5 t9)) (wu64 (Int.tdiv t7 t9))).bind fun t13 => some (t13.1, t13.2)) else none) else none)))))

noncomputable def accum_Mean.f (a1 : Acc) (lag11 : Int) : Option (Frac × Int) :=
  ((accum_Value.f a1 lag11).bind fun t14 => (if (!decide (t14.2.2 = 0)) = true then some ((⟨0, 0⟩ : Frac), t14.2.2) else (if (decide (t14.2.1 = 0)) = true then some ((⟨0, 0⟩ : Frac), 18) else ((frac_Make.f t14.1 t14.2.1).bind fun t18 => some (t18.1, t18.2)))))

noncomputable def accum_Times.s1 (a1 : Acc) (n33 : Int) (x34 : Int) : Option (St (Int × Int) Int (Int × Int)) :=
  (if (decide (x34 < (a1.Spans.length : Int))) = true then (if 0 ≤ x34 ∧ x34 < (a1.Spans.length : Int) then lt' (w64 (n33 + ((ix a1.Spans x34).Many))) fun n49 => some (.next (n49, w64 (x34 + 1))) else none) else some (.brk n33))
noncomputable def accum_Times.k2 (n42 : Int) : Option (Int × Int) :=
  some (n42, 0)
noncomputable def accum_Times.f (a1 : Acc) : Option (Int × Int) :=
  ((accum_Check.f a1).bind fun t12 => (if (!decide (t12 = 0)) = true then some (0, t12) else ((iter (fun (s : (Int × Int)) => accum_Times.s1 a1 s.1 s.2) (0, 0)).bind fun o1 => fin o1 (fun (t : Int) => accum_Times.k2 t))))

noncomputable def law18_alive.k1 (t27 : Acc × Int) (t39 : Int × Int × Int) (t41 : Frac × Int) (t44 : Int × Int) (t60 : Acc × Int) (ok79 : Bool) : Option Bool :=
  (if ok79 = true then (if (decide (t39.1 = 12)) = true then (if (decide (t39.2.1 = 8)) = true then (if (decide (t41.1 = (⟨3, 2⟩ : Frac))) = true then (if (decide (t44.1 = 8)) = true then (if (decide ((t27.1.Spans.length : Int) = 1)) = true then (if (0 : Int) ≤ 0 ∧ 0 < (t27.1.Spans.length : Int) then (if (decide ((ix t27.1.Spans 0) = (⟨0, 8⟩ : Gap))) = true then (if (decide ((t60.1.Sums.length : Int) = 1)) = true then (if (0 : Int) ≤ 0 ∧ 0 < (t60.1.Sums.length : Int) then some (decide ((ix t60.1.Sums 0) = (⟨(-1), 999999999⟩ : Count))) else none) else some false) else some false) else none) else some false) else some false) else some false) else some false) else some false) else some false)
noncomputable def law18_alive.f : Option Bool :=
  ((accum_New.f 0).bind fun t1 => ((accum_Add.f t1.1 ([(⟨5, 3⟩ : Lag)] : List Lag) 0 3).bind fun t14 => ((accum_Add.f t14.1 ([(⟨7, 5⟩ : Lag)] : List Lag) 3 5).bind fun t27 => ((accum_Value.f t27.1 0).bind fun t39 => ((accum_Mean.f t27.1 0).bind fun t41 => ((accum_Times.f t27.1).bind fun t44 => ((accum_Add.f t27.1 ([(⟨1, 1⟩ : Lag)] : List Lag) 7 1).bind fun t47 => ((accum_Add.f t1.1 ([(⟨(-1), 1⟩ : Lag)] : List Lag) 0 1).bind fun t60 => (if (decide (t1.2 = 0)) = true then (if (decide (t14.2 = 0)) = true then (if (decide (t27.2 = 0)) = true then (if (decide (t39.2.2 = 0)) = true then (if (decide (t41.2 = 0)) = true then (if (decide (t44.2 = 0)) = true then (if (decide (t47.2 = 14)) = true then law18_alive.k1 t27 t39 t41 t44 t60 (decide (t60.2 = 0)) else law18_alive.k1 t27 t39 t41 t44 t60 false) else law18_alive.k1 t27 t39 t41 t44 t60 false) else law18_alive.k1 t27 t39 t41 t44 t60 false) else law18_alive.k1 t27 t39 t41 t44 t60 false) else law18_alive.k1 t27 t39 t41 t44 t60 false) else law18_alive.k1 t27 t39 t41 t44 t60 false) else law18_alive.k1 t27 t39 t41 t44 t60 false)))))))))

noncomputable def ref18_Great.f (a1 : Acc) : Option Bool :=
  (if (decide (600 < (a1.Sums.length : Int))) = true then some true else (if (decide (600 < (a1.Ns.length : Int))) = true then some true else some (decide (100 < (a1.Spans.length : Int)))))

noncomputable def ref18_Runs.k9 (i133 : Int) (x250 : Bool) : Option (St Int Unit Bool) :=
  (if x250 = true then some (.ret false) else some (.next (w64 (i133 + 1))))
noncomputable def ref18_Runs.k8 (l1 : (List Gap)) (i133 : Int) (x235 : Bool) : Option (St Int Unit Bool) :=
  (if x235 = true then some (.ret false) else (if (decide (0 < i133)) = true then (if 0 ≤ i133 ∧ i133 < (l1.length : Int) then (if 0 ≤ w64 (i133 - 1) ∧ w64 (i133 - 1) < (l1.length : Int) then ref18_Runs.k9 i133 (decide ((ix l1 i133).At ≤ w64 (((ix l1 (w64 (i133 - 1))).At) + ((ix l1 (w64 (i133 - 1))).Many)))) else none) else none) else ref18_Runs.k9 i133 false))
noncomputable def ref18_Runs.s6 (l1 : (List Gap)) (i133 : Int) : Option (St Int Unit Bool) :=
  (if (decide (i133 < (l1.length : Int))) = true then (if 0 ≤ i133 ∧ i133 < (l1.length : Int) then (if (decide ((ix l1 i133).At < 0)) = true then ref18_Runs.k8 l1 i133 true else (if (decide (1000000000 < (ix l1 i133).At)) = true then ref18_Runs.k8 l1 i133 true else (if (decide ((ix l1 i133).Many < 1)) = true then ref18_Runs.k8 l1 i133 true else ref18_Runs.k8 l1 i133 (decide (w64 (1000000000 - ((ix l1 i133).At)) < (ix l1 i133).Many))))) else none) else some (.brk ()))
noncomputable def ref18_Runs.k7 : Option Bool :=
  some true
noncomputable def ref18_Runs.f (l1 : (List Gap)) : Option Bool :=
  ((iter (fun (s : Int) => ref18_Runs.s6 l1 s) 0).bind fun o1 => fin o1 (fun (t : Unit) => ref18_Runs.k7))

noncomputable def ref18_Valid.f (c1 : Count) : Option Bool :=
  (if (decide (0 ≤ c1.Lo)) = true then (if (decide (c1.Lo < 1000000000)) = true then (if (decide ((-1000000000) ≤ c1.Hi)) = true then some (decide (c1.Hi < 1000000000)) else some false) else some false) else some false)

noncomputable def ref18_Worth.f (c1 : Count) : Option Int :=
  some (w64 ((w64 (1000000000 * c1.Hi)) + c1.Lo))

noncomputable def ref18_Check.k8 (i110 : Int) (x175 : Bool) : Option (St Int Unit Int) :=
  (if x175 = true then some (.ret 8) else some (.next (w64 (i110 + 1))))
noncomputable def ref18_Check.s6 (a1 : Acc) (i110 : Int) : Option (St Int Unit Int) :=
  (if (decide (i110 < (a1.Sums.length : Int))) = true then (if 0 ≤ i110 ∧ i110 < (a1.Sums.length : Int) then ((ref18_Valid.f (ix a1.Sums i110)).bind fun t181 => (if (!t181) = true then ref18_Check.k8 i110 true else (if 0 ≤ i110 ∧ i110 < (a1.Ns.length : Int) then ((ref18_Valid.f (ix a1.Ns i110)).bind fun t188 => (if (!t188) = true then ref18_Check.k8 i110 true else ((ref18_Worth.f (ix a1.Ns i110)).bind fun t195 => ref18_Check.k8 i110 (decide (t195 < 0))))) else none))) else none) else some (.brk ()))
noncomputable def ref18_Check.k7 : Option Int :=
  some 0
noncomputable def ref18_Check.k2 (a1 : Acc) (x20 : Bool) : Option Int :=
  (if x20 = true then some 8 else ((iter (fun (s : Int) => ref18_Check.s6 a1 s) 0).bind fun o1 => fin o1 (fun (t : Unit) => ref18_Check.k7)))
noncomputable def ref18_Check.k1 (a1 : Acc) (x14 : Bool) : Option Int :=
  (if x14 = true then some 4 else (if (!decide ((a1.Sums.length : Int) = (a1.Ns.length : Int))) = true then ref18_Check.k2 a1 true else (if (!decide (Int.tmod (a1.Sums.length : Int) 2 = 1)) = true then ref18_Check.k2 a1 true else ((ref18_Runs.f a1.Spans).bind fun t199 => ref18_Check.k2 a1 (!t199)))))
noncomputable def ref18_Check.f (a1 : Acc) : Option Int :=
  (if (decide (511 < (a1.Sums.length : Int))) = true then ref18_Check.k1 a1 true else (if (decide (511 < (a1.Ns.length : Int))) = true then ref18_Check.k1 a1 true else ref18_Check.k1 a1 (decide (64 < (a1.Spans.length : Int)))))

noncomputable def law18_fit.f (a1 : Acc) : Option Bool :=
  ((ref18_Great.f a1).bind fun t12 => (if (!t12) = true then ((ref18_Check.f a1).bind fun t15 => some (decide (t15 = 0))) else some false))

noncomputable def ref16_Long.f (l1 : (List Lag)) : Option Bool :=
  some (decide (600 < (l1.length : Int)))

noncomputable def ref16_even.f (n1 : Int) : Option Bool :=
  some (decide (Int.tmod n1 2 = 0))

noncomputable def ref16_Check.k6 (i68 : Int) (x107 : Bool) : Option (St Int Unit Int) :=
  (if x107 = true then some (.ret 8) else some (.next (w64 (i68 + 1))))
noncomputable def ref16_Check.s4 (l1 : (List Lag)) (i68 : Int) : Option (St Int Unit Int) :=
  (if (decide (i68 < (l1.length : Int))) = true then (if 0 ≤ i68 ∧ i68 < (l1.length : Int) then (if (decide ((ix l1 i68).N < 0)) = true then ref16_Check.k6 i68 true else (if (decide (256 < (ix l1 i68).N)) = true then ref16_Check.k6 i68 true else (if (decide ((ix l1 i68).Sum < w64 ((-9) * ((ix l1 i68).N)))) = true then ref16_Check.k6 i68 true else (if (decide (w64 (9 * ((ix l1 i68).N)) < (ix l1 i68).Sum)) = true then ref16_Check.k6 i68 true else ((ref16_even.f ((ix l1 i68).Sum)).bind fun t113 => ((ref16_even.f ((ix l1 i68).N)).bind fun t115 => ref16_Check.k6 i68 (!(t113 == t115)))))))) else none) else some (.brk ()))
noncomputable def ref16_Check.k5 : Option Int :=
  some 0
noncomputable def ref16_Check.f (l1 : (List Lag)) : Option Int :=
  (if (decide (511 < (l1.length : Int))) = true then some 4 else ((ref16_even.f (l1.length : Int)).bind fun t6 => (if t6 = true then some 8 else ((iter (fun (s : Int) => ref16_Check.s4 l1 s) 0).bind fun o1 => fin o1 (fun (t : Unit) => ref16_Check.k5)))))

noncomputable def ref18_In.k6 (i66 : Int) (x110 : Bool) : Option (St Int Unit Bool) :=
  (if x110 = true then some (.ret true) else some (.next (w64 (i66 + 1))))
noncomputable def ref18_In.s4 (l1 : (List Gap)) (t5 : Int) (i66 : Int) : Option (St Int Unit Bool) :=
  (if (decide (i66 < (l1.length : Int))) = true then (if 0 ≤ i66 ∧ i66 < (l1.length : Int) then (if (decide ((ix l1 i66).At ≤ t5)) = true then ref18_In.k6 i66 (decide (t5 < w64 (((ix l1 i66).At) + ((ix l1 i66).Many)))) else ref18_In.k6 i66 false) else none) else some (.brk ()))
noncomputable def ref18_In.k5 : Option Bool :=
  some false
noncomputable def ref18_In.f (l1 : (List Gap)) (t5 : Int) : Option Bool :=
  ((iter (fun (s : Int) => ref18_In.s4 l1 t5 s) 0).bind fun o1 => fin o1 (fun (t : Unit) => ref18_In.k5))

noncomputable def accum_Merge.f (a1 : Acc) (b11 : Acc) : Option (Acc × Int) :=
  ((accum_Check.f a1).bind fun t24 => (if (!decide (t24 = 0)) = true then some ((⟨[], [], []⟩ : Acc), t24) else ((accum_Check.f b11).bind fun t27 => (if (!decide (t27 = 0)) = true then some ((⟨[], [], []⟩ : Acc), t27) else (if (!decide ((a1.Sums.length : Int) = (b11.Sums.length : Int))) = true then some ((⟨[], [], []⟩ : Acc), 2) else ((accum_merge.f a1 b11).bind fun t31 => some (t31.1, t31.2)))))))

noncomputable def ref18_Same.s6 (a1 : Acc) (b11 : Acc) (i115 : Int) : Option (St Int Unit Bool) :=
  (if (decide (i115 < (a1.Spans.length : Int))) = true then (if 0 ≤ i115 ∧ i115 < (a1.Spans.length : Int) then (if 0 ≤ i115 ∧ i115 < (b11.Spans.length : Int) then (if (!decide ((ix a1.Spans i115) = (ix b11.Spans i115))) = true then some (.ret false) else some (.next (w64 (i115 + 1)))) else none) else none) else some (.brk ()))
noncomputable def ref18_Same.k7 : Option Bool :=
  some true
noncomputable def ref18_Same.s4 (a1 : Acc) (b11 : Acc) (i82 : Int) : Option (St Int Unit Bool) :=
  (if (decide (i82 < (a1.Ns.length : Int))) = true then (if 0 ≤ i82 ∧ i82 < (a1.Ns.length : Int) then (if 0 ≤ i82 ∧ i82 < (b11.Ns.length : Int) then (if (!decide ((ix a1.Ns i82) = (ix b11.Ns i82))) = true then some (.ret false) else some (.next (w64 (i82 + 1)))) else none) else none) else some (.brk ()))
noncomputable def ref18_Same.k5 (a1 : Acc) (b11 : Acc) : Option Bool :=
  ((iter (fun (s : Int) => ref18_Same.s6 a1 b11 s) 0).bind fun o1 => fin o1 (fun (t : Unit) => ref18_Same.k7))
noncomputable def ref18_Same.s2 (a1 : Acc) (b11 : Acc) (i49 : Int) : Option (St Int Unit Bool) :=
  (if (decide (i49 < (a1.Sums.length : Int))) = true then (if 0 ≤ i49 ∧ i49 < (a1.Sums.length : Int) then (if 0 ≤ i49 ∧ i49 < (b11.Sums.length : Int) then (if (!decide ((ix a1.Sums i49) = (ix b11.Sums i49))) = true then some (.ret false) else some (.next (w64 (i49 + 1)))) else none) else none) else some (.brk ()))
noncomputable def ref18_Same.k3 (a1 : Acc) (b11 : Acc) : Option Bool :=
  ((iter (fun (s : Int) => ref18_Same.s4 a1 b11 s) 0).bind fun o1 => fin o1 (fun (t : Unit) => ref18_Same.k5 a1 b11))
noncomputable def ref18_Same.k1 (a1 : Acc) (b11 : Acc) (x25 : Bool) : Option Bool :=
  (if x25 = true then some false else ((iter (fun (s : Int) => ref18_Same.s2 a1 b11 s) 0).bind fun o1 => fin o1 (fun (t : Unit) => ref18_Same.k3 a1 b11)))
noncomputable def ref18_Same.f (a1 : Acc) (b11 : Acc) : Option Bool :=
  (if (!decide ((a1.Sums.length : Int) = (b11.Sums.length : Int))) = true then ref18_Same.k1 a1 b11 true else (if (!decide ((a1.Ns.length : Int) = (b11.Ns.length : Int))) = true then ref18_Same.k1 a1 b11 true else ref18_Same.k1 a1 b11 (!decide ((a1.Spans.length : Int) = (b11.Spans.length : Int)))))

noncomputable def law18_AccumSums.k8 (l21 : (List Lag)) (at25 : Int) (many26 : Int) (t29 : Bool) (t167 : Acc × Int) (t179 : Acc × Int) (x192 : Bool) : Option Bool :=
  (if x192 = true then some t29 else ((accum_Add.f t179.1 l21 at25 many26).bind fun t194 => (if t29 = true then (if (decide (t194.2 = 0)) = true then ((ref18_Same.f t167.1 t194.1).bind fun t208 => (if t208 = true then some true else (if (decide (t194.2 = 4)) = true then some true else some (decide (t194.2 = 16))))) else (if (decide (t194.2 = 4)) = true then some true else some (decide (t194.2 = 16)))) else some false)))
noncomputable def law18_AccumSums.k9 (i137 : Int) (x230 : Bool) : Option (St Int Unit Bool) :=
  (if x230 = true then some (.ret false) else some (.next (w64 (i137 + 1))))
noncomputable def law18_AccumSums.s6 (a1 : Acc) (l21 : (List Lag)) (t45 : Acc × Int) (i137 : Int) : Option (St Int Unit Bool) :=
  (if (decide (i137 < (l21.length : Int))) = true then ((accum_Value.f a1 (w64 (i137 - (w64 (Int.tdiv (l21.length : Int) 2))))).bind fun t215 => ((accum_Value.f t45.1 (w64 (i137 - (w64 (Int.tdiv (l21.length : Int) 2))))).bind fun t217 => (if (!decide (t215.2.2 = 0)) = true then law18_AccumSums.k9 i137 true else (if (!decide (t217.2.2 = 0)) = true then law18_AccumSums.k9 i137 true else (if 0 ≤ i137 ∧ i137 < (l21.length : Int) then (if (!decide (t217.1 = w64 (t215.1 + ((ix l21 i137).Sum)))) = true then law18_AccumSums.k9 i137 true else law18_AccumSums.k9 i137 (!decide (t217.2.1 = w64 (t215.2.1 + ((ix l21 i137).N))))) else none))))) else some (.brk ()))
noncomputable def law18_AccumSums.k7 (a1 : Acc) (b11 : Acc) (l21 : (List Lag)) (at25 : Int) (many26 : Int) (t29 : Bool) (t45 : Acc × Int) : Option Bool :=
  ((accum_Merge.f t45.1 b11).bind fun t167 => ((accum_Merge.f a1 b11).bind fun t179 => (if (!decide (t167.2 = 0)) = true then law18_AccumSums.k8 l21 at25 many26 t29 t167 t179 true else law18_AccumSums.k8 l21 at25 many26 t29 t167 t179 (!decide (t179.2 = 0)))))
noncomputable def law18_AccumSums.k2 (a1 : Acc) (b11 : Acc) (l21 : (List Lag)) (at25 : Int) (many26 : Int) (t29 : Bool) (t45 : Acc × Int) (x75 : Bool) : Option Bool :=
  (if x75 = true then some false else ((iter (fun (s : Int) => law18_AccumSums.s6 a1 l21 t45 s) 0).bind fun o1 => fin o1 (fun (t : Unit) => law18_AccumSums.k7 a1 b11 l21 at25 many26 t29 t45)))
noncomputable def law18_AccumSums.k1 (a1 : Acc) (b11 : Acc) (l21 : (List Lag)) (at25 : Int) (many26 : Int) (t29 : Bool) (x43 : Bool) : Option Bool :=
  (if x43 = true then some t29 else ((accum_Add.f a1 l21 at25 many26).bind fun t45 => (if (!decide (t45.2 = 0)) = true then (if t29 = true then some (decide ((t45.1.Sums.length : Int) = 0)) else some false) else ((accum_Times.f a1).bind fun t59 => ((accum_Times.f t45.1).bind fun t61 => (if (!decide (t59.2 = 0)) = true then law18_AccumSums.k2 a1 b11 l21 at25 many26 t29 t45 true else (if (!decide (t61.2 = 0)) = true then law18_AccumSums.k2 a1 b11 l21 at25 many26 t29 t45 true else (if (!decide (t61.1 = w64 (t59.1 + many26))) = true then law18_AccumSums.k2 a1 b11 l21 at25 many26 t29 t45 true else ((ref18_Check.f t45.1).bind fun t246 => (if (!decide (t246 = 0)) = true then law18_AccumSums.k2 a1 b11 l21 at25 many26 t29 t45 true else (if (!decide ((t45.1.Sums.length : Int) = (l21.length : Int))) = true then law18_AccumSums.k2 a1 b11 l21 at25 many26 t29 t45 true else ((ref18_In.f t45.1.Spans at25).bind fun t250 => (if (!t250) = true then law18_AccumSums.k2 a1 b11 l21 at25 many26 t29 t45 true else ((ref18_In.f t45.1.Spans (w64 ((w64 (at25 + many26)) - 1))).bind fun t253 => law18_AccumSums.k2 a1 b11 l21 at25 many26 t29 t45 (!t253)))))))))))))))
noncomputable def law18_AccumSums.f (a1 : Acc) (b11 : Acc) (l21 : (List Lag)) (at25 : Int) (many26 : Int) : Option Bool :=
  ((law18_alive.f).bind fun t29 => ((law18_fit.f a1).bind fun t255 => (if (!t255) = true then law18_AccumSums.k1 a1 b11 l21 at25 many26 t29 true else ((law18_fit.f b11).bind fun t258 => (if (!t258) = true then law18_AccumSums.k1 a1 b11 l21 at25 many26 t29 true else ((ref16_Long.f l21).bind fun t261 => (if t261 = true then law18_AccumSums.k1 a1 b11 l21 at25 many26 t29 true else ((ref16_Check.f l21).bind fun t264 => (if (!decide (t264 = 0)) = true then law18_AccumSums.k1 a1 b11 l21 at25 many26 t29 true else law18_AccumSums.k1 a1 b11 l21 at25 many26 t29 (!t29))))))))))


end Go.Proofs.Ytiepcikippcfaaa.M
