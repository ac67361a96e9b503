import Derived.Test.YtifpegepdgmmbaaW0
set_option linter.unusedVariables false
set_option linter.unusedSimpArgs false
set_option maxRecDepth 100000
set_option maxHeartbeats 8000000
namespace Go.Proofs.Ytifpegepdgmmbaa.M
open Go.GW Go.Proofs

theorem corrupt_acted__corrupt_Spoil_1.ok (s1 : (List (List Vis))) (Aa2 : Option Addr) (c3 : Nat) (l5 : (List Spoil)) (Aa6 : Option Addr) (c7 : Nat) (r : ((List (List Vis)) × Int)) (H0 : corrupt_acted__corrupt_Spoil_1.f s1 l5 = some r) :
    Does Try.prog 29 [.slice Aa2 s1.length c3, .slice Aa6 l5.length c7, .func (.func 30) #[] #[]].toArray [At.rd Aa2 c3 fl_Vis.kd.sl s1 true, At.rd Aa6 c7 fl_Spoil.kd l5 true] [] false (fun v Δ => ∃ A1001 : Option Addr, ∃ c1001 : Nat, v = .tuple #[.slice A1001 r.1.length c1001, .int .i64 r.2] ∧ Δ = [At.row A1001 c1001 48 fl_Vis.kd.sl r.1 false]) := by
 refine Does.body (vs := [.slice Aa2 s1.length c3, .slice Aa6 l5.length c7, .func (.func 30) #[] #[]]) Try.func29 rfl ⟨.inl rfl, .inl rfl, trivial⟩ trivial fun w S => ?_
 unfold corrupt_acted__corrupt_Spoil_1.f at H0
 refine J.sr ?_
 refine JL.as (.slice none 0 0) ?_
 refine JL.as (.int .i64 0) ?_
 refine JL.es [(0, .slice Aa2 s1.length c3), (1, .slice Aa6 l5.length c7), (2, .func (.func 30) #[] #[])] ?_
 refine J.seq ?_
 refine J.sr ?_
 refine JL.mv (.slice Aa2 s1.length c3) ?_
 obtain ⟨t9, hc10, H0⟩ := bind_some H0
 refine JL.call [] [] [] (corrupt_Check.ok s1 Aa2 c3 _ hc10) ⟨pre_any 0 (view_rd Aa2 c3 fl_Vis.kd.sl s1 true true), trivial⟩ ?_
 rintro _ _ ⟨rfl, rfl⟩
 refine JL.as (.int .i64 t9) ?_
 refine JL.es [(0, .slice Aa2 s1.length c3), (1, .slice Aa6 l5.length c7), (2, .func (.func 30) #[] #[]), (8, .int .i64 t9)] ?_
 refine J.sr ?_
 refine JL.mv (.int .i64 t9) ?_
 refine JL.pur (.bool (!decide (t9 = 0))) (some 22) ?_
 refine JL.es [(0, .slice Aa2 s1.length c3), (1, .slice Aa6 l5.length c7), (2, .func (.func 30) #[] #[]), (8, .int .i64 t9), (22, .bool (!decide (t9 = 0)))] ?_
 rcases ite_cases H0 with ⟨h11, H0⟩ | ⟨h11, H0⟩
 · refine J.cond_true h11 ?_
   refine J.sr ?_
   refine JL.mv (.int .i64 t9) ?_
   refine JL.as (.slice none 0 0) ?_
   refine JL.as (.int .i64 t9) ?_
   refine JL.es [(6, .slice none 0 0), (7, .int .i64 t9)] ?_
   refine JQ.mask [] [false, false] ?_
   refine J.ret ?_
   refine JQ.then_ret ?_
   obtain rfl := Option.some.inj H0
   exact JQ.done' (rs := [.tmp 6, .tmp 7]) (vs := [.slice none 0 0, .int .i64 t9]) [At.row none 0 48 fl_Vis.kd.sl ([] : List (List Vis)) false] (.inr rfl) ⟨by kernel_rfl, by kernel_rfl, trivial⟩ (fun _ h => Heap.to (Heap.addRow0 (α := (List Vis)) 48 fl_Vis.kd.sl false h)) ⟨none, 0, rfl, rfl⟩
 · refine J.cond_false h11 ?_
   refine J.skip ?_
   refine JQ.ts [(0, .slice Aa2 s1.length c3), (1, .slice Aa6 l5.length c7), (2, .func (.func 30) #[] #[])] ?_
   refine J.sr ?_
   refine JL.as (.slice none 0 0) ?_
   refine JL.en ?_
   refine J.seq ?_
   refine J.sr ?_
   refine JL.mv (.slice Aa2 s1.length c3) ?_
   refine JL.pur (.int .i64 (s1.length : Int)) (some 25) ?_
   refine JL.pur (.int .i64 (gmax 1 (s1.length : Int))) (some 26) ?_
   refine JL.mv (.int .i64 0) ?_
   refine JL.es [(0, .slice Aa2 s1.length c3), (1, .slice Aa6 l5.length c7), (2, .func (.func 30) #[] #[]), (9, .slice none 0 0), (26, .int .i64 (gmax 1 (s1.length : Int))), (27, .int .i64 0)] ?_
   obtain ⟨o1, hit, H0⟩ := bind_some H0
   refine J.loop (σ := ((List (List Cx)) × Int)) (τ := List (List Cx)) (G := ((Option Addr) × Nat)) (G' := ((Option Addr) × Nat)) _ o1 (fun s g => [(0, .slice Aa2 s1.length c3), (1, .slice Aa6 l5.length c7), (2, .func (.func 30) #[] #[]), (9, .slice g.1 s.1.length g.2), (26, .int .i64 (gmax 1 (s1.length : Int))), (27, .int .i64 s.2)]) (fun s g => [At.rd Aa2 c3 fl_Vis.kd.sl s1 true, At.rd Aa6 c7 fl_Spoil.kd l5 true, At.row g.1 g.2 28 fl_Cx.kd.sl s.1 false]) (fun t => corrupt_acted__corrupt_Spoil_1.k2 s1 t = some r) (fun t g => [(0, .slice Aa2 s1.length c3), (2, .func (.func 30) #[] #[]), (9, .slice g.1 t.length g.2)]) (fun t g => [At.rd Aa2 c3 fl_Vis.kd.sl s1 true, At.row g.1 g.2 28 fl_Cx.kd.sl t false]) ([], 0) (none, 0) hit (fun _ h => Heap.to (Heap.addRow0 (α := (List Cx)) 28 fl_Cx.kd.sl false h)) ?_ ?_
   · clear hit
     rintro ⟨tables45, x49⟩ ⟨Aa46, c47⟩ st1 H1 hb1 hr1
     replace H1 : corrupt_acted__corrupt_Spoil_1.s1 s1 l5 tables45 x49 = some st1 := H1
     unfold corrupt_acted__corrupt_Spoil_1.s1 at H1
     refine JQ.sub [(0, .slice Aa2 s1.length c3), (1, .slice Aa6 l5.length c7), (2, .func (.func 30) #[] #[]), (9, .slice Aa46 tables45.length c47), (26, .int .i64 (gmax 1 (s1.length : Int))), (27, .int .i64 x49)] ?_
     refine JQ.turn (Δ' := [At.rd Aa2 c3 fl_Vis.kd.sl s1 true, At.rd Aa6 c7 fl_Spoil.kd l5 true, At.row Aa46 c47 28 fl_Cx.kd.sl tables45 false]) (fun _ h => h.to) ?_
     refine J.sr ?_
     refine JL.pur (.bool (decide (x49 < gmax 1 (s1.length : Int)))) (some 28) ?_
     refine JL.en ?_
     refine J.seq ?_
     rcases ite_cases H1 with ⟨h209, H1⟩ | ⟨h209, H1⟩
     · refine J.cond_true h209 ?_
       refine J.skip ?_
       refine JQ.ts [(0, .slice Aa2 s1.length c3), (1, .slice Aa6 l5.length c7), (2, .func (.func 30) #[] #[]), (9, .slice Aa46 tables45.length c47), (26, .int .i64 (gmax 1 (s1.length : Int))), (27, .int .i64 x49)] ?_
       refine J.seq ?_
       refine J.block ?_
       refine J.sr ?_
       refine JL.mv (.int .i64 x49) ?_
       refine JL.as (.int .i64 x49) ?_
       refine JL.es [(0, .slice Aa2 s1.length c3), (1, .slice Aa6 l5.length c7), (2, .func (.func 30) #[] #[]), (9, .slice Aa46 tables45.length c47), (10, .int .i64 x49), (26, .int .i64 (gmax 1 (s1.length : Int))), (27, .int .i64 x49)] ?_
       refine J.sr ?_
       refine JL.mv (.slice Aa6 l5.length c7) ?_
       refine JL.mv (.int .i64 x49) ?_
       obtain ⟨t210, hc211, H1⟩ := bind_some H1
       refine JL.call [] [] [] (corrupt_Table.ok l5 Aa6 c7 x49 _ hc211) ⟨pre_any 1 (view_rd Aa6 c7 fl_Spoil.kd l5 true true), trivial⟩ ?_
       rintro _ _ ⟨Aa212, c213, rfl, rfl⟩
       refine JL.mv (.tuple #[.slice Aa212 t210.1.length c213, .int .i64 t210.2]) ?_
       refine JL.pur (.slice Aa212 t210.1.length c213) (some 34) ?_
       refine JL.pur (.int .i64 t210.2) (some 35) ?_
       refine JL.as (.slice Aa212 t210.1.length c213) ?_
       refine JL.as (.int .i64 t210.2) ?_
       refine JL.es [(0, .slice Aa2 s1.length c3), (1, .slice Aa6 l5.length c7), (2, .func (.func 30) #[] #[]), (9, .slice Aa46 tables45.length c47), (11, .slice Aa212 t210.1.length c213), (12, .int .i64 t210.2), (26, .int .i64 (gmax 1 (s1.length : Int))), (27, .int .i64 x49)] ?_
       refine J.seq ?_
       refine J.sr ?_
       refine JL.mv (.int .i64 t210.2) ?_
       refine JL.pur (.bool (!decide (t210.2 = 0))) (some 37) ?_
       refine JL.es [(0, .slice Aa2 s1.length c3), (1, .slice Aa6 l5.length c7), (2, .func (.func 30) #[] #[]), (9, .slice Aa46 tables45.length c47), (11, .slice Aa212 t210.1.length c213), (12, .int .i64 t210.2), (26, .int .i64 (gmax 1 (s1.length : Int))), (27, .int .i64 x49), (37, .bool (!decide (t210.2 = 0)))] ?_
       rcases ite_cases H1 with ⟨h215, H1⟩ | ⟨h215, H1⟩
       · refine J.cond_true h215 ?_
         refine J.sr ?_
         refine JL.mv (.int .i64 t210.2) ?_
         refine JL.as (.slice none 0 0) ?_
         refine JL.as (.int .i64 t210.2) ?_
         refine JL.es [(6, .slice none 0 0), (7, .int .i64 t210.2)] ?_
         refine JQ.mask [] [false, false, false, false] ?_
         refine J.ret ?_
         refine JQ.then_ret ?_
         refine JQ.blk_ret ?_
         refine JQ.then_ret ?_
         refine JQ.then_ret ?_
         refine JQ.blk_ret ?_
         refine JQ.met_ret ?_
         refine JQ.then_ret ?_
         rw [hr1 _ (Option.some.inj H1).symm, fin_ret] at H0
         obtain rfl := Option.some.inj H0
         exact JQ.done' (rs := [.tmp 6, .tmp 7]) (vs := [.slice none 0 0, .int .i64 t210.2]) [At.row none 0 48 fl_Vis.kd.sl ([] : List (List Vis)) false] (.inr rfl) ⟨by kernel_rfl, by kernel_rfl, trivial⟩ (fun _ h => Heap.to (Heap.addRow0 (α := (List Vis)) 48 fl_Vis.kd.sl false h)) ⟨none, 0, rfl, rfl⟩
       · refine J.cond_false h215 ?_
         refine J.skip ?_
         refine JQ.ts [(0, .slice Aa2 s1.length c3), (1, .slice Aa6 l5.length c7), (2, .func (.func 30) #[] #[]), (9, .slice Aa46 tables45.length c47), (11, .slice Aa212 t210.1.length c213), (26, .int .i64 (gmax 1 (s1.length : Int))), (27, .int .i64 x49)] ?_
         refine J.region ?_
         refine JL.mv (.slice Aa46 tables45.length c47) ?_
         refine JL.mv (.slice Aa212 t210.1.length c213) ?_
         refine JQ.turn (fun _ h => freeze_row 3 Aa212 c213 23 fl_Cx.kd t210.1 false h) ?_
         refine JL.buildSl 28 fl_Cx.kd.sl (([t210.1] : List (List Cx)) : List (List Cx)) [.slice Aa212 t210.1.length c213] false (closes_sl 3 false (fun h => h) (closes_nil)) fun b216 => ?_
         obtain ⟨h219, H1⟩ := ite_must H1
         refine JL.append false false 2 4 Aa46 c47 1 tables45 (elems_row (some ⟨b216, 0, none⟩) 1 28 fl_Cx.kd.sl ([t210.1] : List (List Cx)) false) Try.underlying73 info_28 (by omega) (by omega) (fun h => h) (.inl (fun h => by cases h)) fun Aa217 c218 => ?_
         refine JL.as (.slice Aa217 (tables45 ++ ([t210.1] : List (List Cx))).length c218) ?_
         refine JL.end_ ?_
         refine JQ.blk_normal ?_
         refine JQ.ts [(0, .slice Aa2 s1.length c3), (1, .slice Aa6 l5.length c7), (2, .func (.func 30) #[] #[]), (9, .slice Aa217 (tables45 ++ ([t210.1] : List (List Cx))).length c218), (26, .int .i64 (gmax 1 (s1.length : Int))), (27, .int .i64 x49)] ?_
         refine JQ.mask [At.rd Aa2 c3 fl_Vis.kd.sl s1 true, At.rd Aa6 c7 fl_Spoil.kd l5 true, At.row Aa217 c218 28 fl_Cx.kd.sl (tables45 ++ ([t210.1] : List (List Cx))) false] [true, true, true, false, false] ?_
         refine J.region ?_
         refine JL.pur (.int .i64 (w64 (x49 + 1))) (some 43) ?_
         refine JL.mv (.int .i64 (w64 (x49 + 1))) ?_
         refine JL.en ?_
         exact JQ.again ((tables45 ++ ([t210.1] : List (List Cx))), w64 (x49 + 1)) (Aa217, c218) (Option.some.inj H1).symm (fun _ h => Heap.to h)
     · refine J.cond_false h209 ?_
       refine J.exit ?_
       refine JQ.then_exit ?_
       refine JQ.then_exit ?_
       refine JQ.blk_exit ?_
       rw [hb1 _ (Option.some.inj H1).symm, fin_brk] at H0
       exact JQ.met tables45 (Aa46, c47) H0 (fun _ h => Heap.to (Heap.pick [0, 2] (by decide) h))
   · clear hit H0
     rintro tables61 ⟨Aa62, c63⟩ H0
     replace H0 : corrupt_acted__corrupt_Spoil_1.k2 s1 tables61 = some r := H0
     unfold corrupt_acted__corrupt_Spoil_1.k2 at H0
     refine JQ.sub [(0, .slice Aa2 s1.length c3), (2, .func (.func 30) #[] #[]), (9, .slice Aa62 tables61.length c63)] ?_
     refine JQ.turn (Δ' := [At.rd Aa2 c3 fl_Vis.kd.sl s1 true, At.row Aa62 c63 28 fl_Cx.kd.sl tables61 false]) (fun _ h => h.to) ?_
     refine JQ.then_normal ?_
     refine J.sr ?_
     refine JL.as (.slice none 0 0) ?_
     refine JL.en ?_
     refine J.seq ?_
     refine J.sr ?_
     refine JL.mv (.slice Aa2 s1.length c3) ?_
     refine JL.pur (.int .i64 (s1.length : Int)) (some 45) ?_
     refine JL.mv (.int .i64 0) ?_
     refine JL.es [(2, .func (.func 30) #[] #[]), (9, .slice Aa62 tables61.length c63), (13, .slice none 0 0), (44, .slice Aa2 s1.length c3), (45, .int .i64 (s1.length : Int)), (46, .int .i64 0)] ?_
     obtain ⟨o1, hit, H0⟩ := bind_some H0
     refine J.loop (σ := ((List (List Vis)) × Int)) (τ := List (List Vis)) (G := ((Option Addr) × Nat)) (G' := ((Option Addr) × Nat)) _ o1 (fun s g => [(2, .func (.func 30) #[] #[]), (9, .slice Aa62 tables61.length c63), (13, .slice g.1 s.1.length g.2), (44, .slice Aa2 s1.length c3), (45, .int .i64 (s1.length : Int)), (46, .int .i64 s.2)]) (fun s g => [At.row Aa62 c63 28 fl_Cx.kd.sl tables61 false, At.row g.1 g.2 48 fl_Vis.kd.sl s.1 false, At.rd Aa2 c3 fl_Vis.kd.sl s1 true]) (fun t => corrupt_acted__corrupt_Spoil_1.k4 t = some r) (fun t g => [(13, .slice g.1 t.length g.2)]) (fun t g => [At.row g.1 g.2 48 fl_Vis.kd.sl t false]) ([], 0) (none, 0) hit (fun _ h => Heap.to (Heap.pick [1, 2, 0] (by decide) (Heap.addRow0 (α := (List Vis)) 48 fl_Vis.kd.sl false h))) ?_ ?_
     · clear hit
       rintro ⟨out138, x142⟩ ⟨Aa139, c140⟩ st1 H1 hb1 hr1
       replace H1 : corrupt_acted__corrupt_Spoil_1.s3 s1 tables61 out138 x142 = some st1 := H1
       unfold corrupt_acted__corrupt_Spoil_1.s3 at H1
       refine JQ.sub [(2, .func (.func 30) #[] #[]), (9, .slice Aa62 tables61.length c63), (13, .slice Aa139 out138.length c140), (44, .slice Aa2 s1.length c3), (45, .int .i64 (s1.length : Int)), (46, .int .i64 x142)] ?_
       refine JQ.turn (Δ' := [At.row Aa62 c63 28 fl_Cx.kd.sl tables61 false, At.row Aa139 c140 48 fl_Vis.kd.sl out138 false, At.rd Aa2 c3 fl_Vis.kd.sl s1 true]) (fun _ h => h.to) ?_
       refine J.sr ?_
       refine JL.pur (.bool (decide (x142 < (s1.length : Int)))) (some 47) ?_
       refine JL.en ?_
       refine J.seq ?_
       rcases ite_cases H1 with ⟨h178, H1⟩ | ⟨h178, H1⟩
       · refine J.cond_true h178 ?_
         refine J.skip ?_
         refine JQ.ts [(2, .func (.func 30) #[] #[]), (9, .slice Aa62 tables61.length c63), (13, .slice Aa139 out138.length c140), (44, .slice Aa2 s1.length c3), (45, .int .i64 (s1.length : Int)), (46, .int .i64 x142)] ?_
         refine J.seq ?_
         refine J.block ?_
         refine J.sr ?_
         refine JL.mv (.int .i64 x142) ?_
         obtain ⟨⟨h179, h180⟩, H1⟩ := ite_must H1
         refine JL.ixAddr 2 1 c3 .i64 (elems_rd Aa2 c3 fl_Vis.kd.sl s1 true) Try.underlying37 tySize_48 h179 h180 fun g181 o182 hA => ?_
         subst hA
         refine JL.loadEl (fun q : Option Addr × Nat => [.slice q.1 (ix s1 x142).length q.2]) (fun q : Option Addr × Nat => [At.rd q.1 q.2 fl_Vis.kd (ix s1 x142) true]) (fun q : Option Addr × Nat => .slice q.1 (ix s1 x142).length q.2) (off := 0) 2 (elems_rd (some ⟨g181, o182, none⟩) c3 fl_Vis.kd.sl s1 true) (opens_sl fl_Vis.kd _ _) h179 h180 tySize_48 (.inr ⟨tyAgg_48, rfl, fun _ => rfl⟩) ?_
         rintro ⟨Aa183, c184⟩
         refine JL.as (.int .i64 x142) ?_
         refine JL.as (.slice Aa183 (ix s1 x142).length c184) ?_
         refine JL.es [(2, .func (.func 30) #[] #[]), (9, .slice Aa62 tables61.length c63), (13, .slice Aa139 out138.length c140), (14, .int .i64 x142), (15, .slice Aa183 (ix s1 x142).length c184), (44, .slice (some ⟨g181, o182, none⟩) s1.length c3), (45, .int .i64 (s1.length : Int)), (46, .int .i64 x142)] ?_
         refine J.sr ?_
         refine JL.mv (.func (.func 30) #[] #[]) ?_
         refine JL.mv (.slice Aa62 tables61.length c63) ?_
         refine JL.mv (.int .i64 x142) ?_
         obtain ⟨⟨h186, h187⟩, H1⟩ := ite_must H1
         refine JL.ixAddr 0 1 c63 .i64 (elems_row Aa62 c63 28 fl_Cx.kd.sl tables61 false) Try.underlying73 tySize_28 h186 h187 fun g188 o189 hA => ?_
         subst hA
         refine JL.loadEl (fun q : Option Addr × Nat => [.slice q.1 (ix tables61 x142).length q.2]) (fun q : Option Addr × Nat => [At.rd q.1 q.2 fl_Cx.kd (ix tables61 x142) false]) (fun q : Option Addr × Nat => .slice q.1 (ix tables61 x142).length q.2) (off := 0) 0 (elems_row (some ⟨g188, o189, none⟩) c63 28 fl_Cx.kd.sl tables61 false) (opens_sl fl_Cx.kd _ _) h186 h187 tySize_28 (.inr ⟨tyAgg_28, rfl, fun _ => rfl⟩) ?_
         rintro ⟨Aa190, c191⟩
         obtain ⟨t193, hc194, H1⟩ := bind_some H1
         refine JL.call [] [] [] (corrupt_Spoil_1.ok (ix tables61 x142) Aa190 c191 _ hc194) ⟨pre_any 4 (view_rd Aa190 c191 fl_Cx.kd (ix tables61 x142) false true), trivial⟩ ?_
         rintro _ _ ⟨Aa195, c196, rfl, rfl⟩
         refine JL.mv (.tuple #[.slice Aa195 t193.1.length c196, .int .i64 t193.2]) ?_
         refine JL.pur (.slice Aa195 t193.1.length c196) (some 58) ?_
         refine JL.pur (.int .i64 t193.2) (some 59) ?_
         refine JL.as (.slice Aa195 t193.1.length c196) ?_
         refine JL.as (.int .i64 t193.2) ?_
         refine JL.es [(2, .func (.func 30) #[] #[]), (9, .slice (some ⟨g188, o189, none⟩) tables61.length c63), (13, .slice Aa139 out138.length c140), (15, .slice Aa183 (ix s1 x142).length c184), (16, .slice Aa195 t193.1.length c196), (17, .int .i64 t193.2), (44, .slice (some ⟨g181, o182, none⟩) s1.length c3), (45, .int .i64 (s1.length : Int)), (46, .int .i64 x142)] ?_
         refine JQ.mask [At.row (some ⟨g188, o189, none⟩) c63 28 fl_Cx.kd.sl tables61 false, At.row Aa139 c140 48 fl_Vis.kd.sl out138 false, At.rd (some ⟨g181, o182, none⟩) c3 fl_Vis.kd.sl s1 true, At.rd Aa183 c184 fl_Vis.kd (ix s1 x142) true, At.rd Aa195 c196 fl_Cx.kd t193.1 true] [true, true, true, true, false, true] ?_
         refine J.seq ?_
         refine J.sr ?_
         refine JL.mv (.int .i64 t193.2) ?_
         refine JL.pur (.bool (!decide (t193.2 = 0))) (some 61) ?_
         refine JL.es [(2, .func (.func 30) #[] #[]), (9, .slice (some ⟨g188, o189, none⟩) tables61.length c63), (13, .slice Aa139 out138.length c140), (15, .slice Aa183 (ix s1 x142).length c184), (16, .slice Aa195 t193.1.length c196), (17, .int .i64 t193.2), (44, .slice (some ⟨g181, o182, none⟩) s1.length c3), (45, .int .i64 (s1.length : Int)), (46, .int .i64 x142), (61, .bool (!decide (t193.2 = 0)))] ?_
         rcases ite_cases H1 with ⟨h198, H1⟩ | ⟨h198, H1⟩
         · refine J.cond_true h198 ?_
           refine J.sr ?_
           refine JL.mv (.int .i64 t193.2) ?_
           refine JL.as (.slice none 0 0) ?_
           refine JL.as (.int .i64 t193.2) ?_
           refine JL.es [(6, .slice none 0 0), (7, .int .i64 t193.2)] ?_
           refine JQ.mask [] [false, false, false, false, false] ?_
           refine J.ret ?_
           refine JQ.then_ret ?_
           refine JQ.blk_ret ?_
           refine JQ.then_ret ?_
           refine JQ.then_ret ?_
           refine JQ.blk_ret ?_
           refine JQ.met_ret ?_
           refine JQ.then_ret ?_
           rw [hr1 _ (Option.some.inj H1).symm, fin_ret] at H0
           obtain rfl := Option.some.inj H0
           exact JQ.done' (rs := [.tmp 6, .tmp 7]) (vs := [.slice none 0 0, .int .i64 t193.2]) [At.row none 0 48 fl_Vis.kd.sl ([] : List (List Vis)) false] (.inr rfl) ⟨by kernel_rfl, by kernel_rfl, trivial⟩ (fun _ h => Heap.to (Heap.addRow0 (α := (List Vis)) 48 fl_Vis.kd.sl false h)) ⟨none, 0, rfl, rfl⟩
         · refine J.cond_false h198 ?_
           refine J.skip ?_
           refine JQ.ts [(2, .func (.func 30) #[] #[]), (9, .slice (some ⟨g188, o189, none⟩) tables61.length c63), (13, .slice Aa139 out138.length c140), (15, .slice Aa183 (ix s1 x142).length c184), (16, .slice Aa195 t193.1.length c196), (44, .slice (some ⟨g181, o182, none⟩) s1.length c3), (45, .int .i64 (s1.length : Int)), (46, .int .i64 x142)] ?_
           refine J.sr ?_
           refine JL.mv (.slice Aa195 t193.1.length c196) ?_
           refine JL.mv (.slice Aa183 (ix s1 x142).length c184) ?_
           obtain ⟨t199, hc200, H1⟩ := bind_some H1
           refine JL.call [] [] [] (gain_Act.ok t193.1 Aa195 c196 (ix s1 x142) Aa183 c184 _ hc200) ⟨pre_any 4 (view_rd Aa195 c196 fl_Cx.kd t193.1 true true), ⟨pre_any 3 (view_rd Aa183 c184 fl_Vis.kd (ix s1 x142) true true), trivial⟩⟩ ?_
           rintro _ _ ⟨Aa201, c202, rfl, rfl⟩
           refine JL.mv (.tuple #[.slice Aa201 t199.1.length c202, .int .i64 t199.2]) ?_
           refine JL.pur (.slice Aa201 t199.1.length c202) (some 67) ?_
           refine JL.pur (.int .i64 t199.2) (some 68) ?_
           refine JL.as (.slice Aa201 t199.1.length c202) ?_
           refine JL.as (.int .i64 t199.2) ?_
           refine JL.es [(2, .func (.func 30) #[] #[]), (9, .slice (some ⟨g188, o189, none⟩) tables61.length c63), (13, .slice Aa139 out138.length c140), (17, .int .i64 t199.2), (18, .slice Aa201 t199.1.length c202), (44, .slice (some ⟨g181, o182, none⟩) s1.length c3), (45, .int .i64 (s1.length : Int)), (46, .int .i64 x142)] ?_
           refine JQ.mask [At.row (some ⟨g188, o189, none⟩) c63 28 fl_Cx.kd.sl tables61 false, At.row Aa139 c140 48 fl_Vis.kd.sl out138 false, At.rd (some ⟨g181, o182, none⟩) c3 fl_Vis.kd.sl s1 true, At.row Aa201 c202 47 fl_Vis.kd t199.1 false] [true, true, true, false, false, true] ?_
           refine J.seq ?_
           refine J.sr ?_
           refine JL.mv (.int .i64 t199.2) ?_
           refine JL.pur (.bool (!decide (t199.2 = 0))) (some 70) ?_
           refine JL.es [(2, .func (.func 30) #[] #[]), (9, .slice (some ⟨g188, o189, none⟩) tables61.length c63), (13, .slice Aa139 out138.length c140), (17, .int .i64 t199.2), (18, .slice Aa201 t199.1.length c202), (44, .slice (some ⟨g181, o182, none⟩) s1.length c3), (45, .int .i64 (s1.length : Int)), (46, .int .i64 x142), (70, .bool (!decide (t199.2 = 0)))] ?_
           rcases ite_cases H1 with ⟨h204, H1⟩ | ⟨h204, H1⟩
           · refine J.cond_true h204 ?_
             refine J.sr ?_
             refine JL.mv (.int .i64 t199.2) ?_
             refine JL.as (.slice none 0 0) ?_
             refine JL.as (.int .i64 t199.2) ?_
             refine JL.es [(6, .slice none 0 0), (7, .int .i64 t199.2)] ?_
             refine JQ.mask [] [false, false, false, false] ?_
             refine J.ret ?_
             refine JQ.then_ret ?_
             refine JQ.blk_ret ?_
             refine JQ.then_ret ?_
             refine JQ.then_ret ?_
             refine JQ.blk_ret ?_
             refine JQ.met_ret ?_
             refine JQ.then_ret ?_
             rw [hr1 _ (Option.some.inj H1).symm, fin_ret] at H0
             obtain rfl := Option.some.inj H0
             exact JQ.done' (rs := [.tmp 6, .tmp 7]) (vs := [.slice none 0 0, .int .i64 t199.2]) [At.row none 0 48 fl_Vis.kd.sl ([] : List (List Vis)) false] (.inr rfl) ⟨by kernel_rfl, by kernel_rfl, trivial⟩ (fun _ h => Heap.to (Heap.addRow0 (α := (List Vis)) 48 fl_Vis.kd.sl false h)) ⟨none, 0, rfl, rfl⟩
           · refine J.cond_false h204 ?_
             refine J.skip ?_
             refine JQ.ts [(2, .func (.func 30) #[] #[]), (9, .slice (some ⟨g188, o189, none⟩) tables61.length c63), (13, .slice Aa139 out138.length c140), (18, .slice Aa201 t199.1.length c202), (44, .slice (some ⟨g181, o182, none⟩) s1.length c3), (45, .int .i64 (s1.length : Int)), (46, .int .i64 x142)] ?_
             refine J.region ?_
             refine JL.mv (.slice Aa139 out138.length c140) ?_
             refine JL.mv (.slice Aa201 t199.1.length c202) ?_
             refine JQ.turn (fun _ h => freeze_row 3 Aa201 c202 47 fl_Vis.kd t199.1 false h) ?_
             refine JL.buildSl 48 fl_Vis.kd.sl (([t199.1] : List (List Vis)) : List (List Vis)) [.slice Aa201 t199.1.length c202] false (closes_sl 3 false (fun h => h) (closes_nil)) fun b205 => ?_
             obtain ⟨h208, H1⟩ := ite_must H1
             refine JL.append false false 1 4 Aa139 c140 1 out138 (elems_row (some ⟨b205, 0, none⟩) 1 48 fl_Vis.kd.sl ([t199.1] : List (List Vis)) false) Try.underlying37 info_48 (by omega) (by omega) (fun h => h) (.inl (fun h => by cases h)) fun Aa206 c207 => ?_
             refine JL.as (.slice Aa206 (out138 ++ ([t199.1] : List (List Vis))).length c207) ?_
             refine JL.end_ ?_
             refine JQ.blk_normal ?_
             refine JQ.ts [(2, .func (.func 30) #[] #[]), (9, .slice (some ⟨g188, o189, none⟩) tables61.length c63), (13, .slice Aa206 (out138 ++ ([t199.1] : List (List Vis))).length c207), (44, .slice (some ⟨g181, o182, none⟩) s1.length c3), (45, .int .i64 (s1.length : Int)), (46, .int .i64 x142)] ?_
             refine JQ.mask [At.row (some ⟨g188, o189, none⟩) c63 28 fl_Cx.kd.sl tables61 false, At.row Aa206 c207 48 fl_Vis.kd.sl (out138 ++ ([t199.1] : List (List Vis))) false, At.rd (some ⟨g181, o182, none⟩) c3 fl_Vis.kd.sl s1 true] [true, true, true, false, false] ?_
             refine J.region ?_
             refine JL.pur (.int .i64 (w64 (x142 + 1))) (some 76) ?_
             refine JL.mv (.int .i64 (w64 (x142 + 1))) ?_
             refine JL.en ?_
             exact JQ.again ((out138 ++ ([t199.1] : List (List Vis))), w64 (x142 + 1)) (Aa206, c207) (Option.some.inj H1).symm (fun _ h => Heap.to h)
       · refine J.cond_false h178 ?_
         refine J.exit ?_
         refine JQ.then_exit ?_
         refine JQ.then_exit ?_
         refine JQ.blk_exit ?_
         rw [hb1 _ (Option.some.inj H1).symm, fin_brk] at H0
         exact JQ.met out138 (Aa139, c140) H0 (fun _ h => Heap.to (Heap.pick [1] (by decide) h))
     · clear hit H0
       rintro out174 ⟨Aa175, c176⟩ H0
       replace H0 : corrupt_acted__corrupt_Spoil_1.k4 out174 = some r := H0
       unfold corrupt_acted__corrupt_Spoil_1.k4 at H0
       refine JQ.sub [(13, .slice Aa175 out174.length c176)] ?_
       refine JQ.turn (Δ' := [At.row Aa175 c176 48 fl_Vis.kd.sl out174 false]) (fun _ h => h.to) ?_
       refine JQ.then_normal ?_
       refine J.sr ?_
       refine JL.mv (.slice Aa175 out174.length c176) ?_
       refine JL.as (.slice Aa175 out174.length c176) ?_
       refine JL.as (.int .i64 0) ?_
       refine JL.es [(6, .slice Aa175 out174.length c176), (7, .int .i64 0)] ?_
       refine J.ret ?_
       obtain rfl := Option.some.inj H0
       exact JQ.done' (rs := [.tmp 6, .tmp 7]) (vs := [.slice Aa175 out174.length c176, .int .i64 0]) [At.row Aa175 c176 48 fl_Vis.kd.sl out174 false] (.inr rfl) ⟨by kernel_rfl, by kernel_rfl, trivial⟩ (fun _ h => Heap.to h) ⟨Aa175, c176, rfl, rfl⟩

theorem corrupt_Spoil.ok (s1 : (List (List Vis))) (Aa2 : Option Addr) (c3 : Nat) (l5 : (List Spoil)) (Aa6 : Option Addr) (c7 : Nat) (r : ((List (List Vis)) × Int)) (H0 : corrupt_Spoil.f s1 l5 = some r) :
    Does Try.prog 13 [.slice Aa2 s1.length c3, .slice Aa6 l5.length c7].toArray [At.rd Aa2 c3 fl_Vis.kd.sl s1 true, At.rd Aa6 c7 fl_Spoil.kd l5 true] [] false (fun v Δ => ∃ A1001 : Option Addr, ∃ c1001 : Nat, v = .tuple #[.slice A1001 r.1.length c1001, .int .i64 r.2] ∧ Δ = [At.row A1001 c1001 48 fl_Vis.kd.sl r.1 false]) := by
 refine Does.body (vs := [.slice Aa2 s1.length c3, .slice Aa6 l5.length c7]) Try.func13 rfl ⟨.inl rfl, .inl rfl, trivial⟩ trivial fun w S => ?_
 unfold corrupt_Spoil.f at H0
 refine J.sr ?_
 refine JL.as (.slice none 0 0) ?_
 refine JL.as (.int .i64 0) ?_
 refine JL.es [(0, .slice Aa2 s1.length c3), (1, .slice Aa6 l5.length c7)] ?_
 refine J.sr ?_
 refine JL.mv (.slice Aa2 s1.length c3) ?_
 refine JL.mv (.slice Aa6 l5.length c7) ?_
 obtain ⟨t9, hc10, H0⟩ := bind_some H0
 refine JL.call [] [] [] (corrupt_acted__corrupt_Spoil_1.ok s1 Aa2 c3 l5 Aa6 c7 _ hc10) ⟨pre_any 0 (view_rd Aa2 c3 fl_Vis.kd.sl s1 true true), ⟨pre_any 1 (view_rd Aa6 c7 fl_Spoil.kd l5 true true), trivial⟩⟩ ?_
 rintro _ _ ⟨Aa11, c12, rfl, rfl⟩
 refine JL.pur (.slice Aa11 t9.1.length c12) (some 9) ?_
 refine JL.pur (.int .i64 t9.2) (some 10) ?_
 refine JL.as (.slice Aa11 t9.1.length c12) ?_
 refine JL.as (.int .i64 t9.2) ?_
 refine JL.es [(4, .slice Aa11 t9.1.length c12), (5, .int .i64 t9.2)] ?_
 refine JQ.mask [At.row Aa11 c12 48 fl_Vis.kd.sl t9.1 false] [false, false, true] ?_
 refine J.ret ?_
 obtain rfl := Option.some.inj H0
 exact JQ.done' (rs := [.tmp 4, .tmp 5]) (vs := [.slice Aa11 t9.1.length c12, .int .i64 t9.2]) [At.row Aa11 c12 48 fl_Vis.kd.sl t9.1 false] (.inr rfl) ⟨by kernel_rfl, by kernel_rfl, trivial⟩ (fun _ h => Heap.to h) ⟨Aa11, c12, rfl, rfl⟩

theorem cx_zero.ok (a1 : Cx) (r : Bool) (H0 : cx_zero.f a1 = some r) :
    Does Try.prog 76 [mv_23 a1].toArray [] [] false (fun v Δ => v = .bool r ∧ Δ = []) := by
 refine Does.body (vs := [mv_23 a1]) Try.func76 rfl trivial trivial fun w S => ?_
 unfold cx_zero.f at H0
 refine J.sr ?_
 refine JL.box (cl_23 a1) fun b2 => ?_
 refine JL.as (.bool false) ?_
 refine JL.es [(1, .pointer (some ⟨b2, 0, none⟩))] ?_
 refine J.sr ?_
 refine JL.pur (.pointer (some ⟨b2, 0, none⟩)) (some 3) ?_
 refine JL.val (.int .i64 a1.Re) (some 4) (yields_load_box 0 0 (holds_box b2 23 (cl_23 a1)) tyAgg_2) ?_
 refine JL.pur (.bool (decide (a1.Re = 0))) (some 5) ?_
 refine JL.mv (.bool (decide (a1.Re = 0))) ?_
 rcases ite_cases H0 with ⟨h3, H0⟩ | ⟨h3, H0⟩
 · refine JL.on 3 6 h3 ?_
   refine JL.pur (.pointer (some ⟨b2, 1, none⟩)) (some 7) ?_
   refine JL.on 3 6 h3 ?_
   refine JL.val (.int .i64 a1.Im) (some 8) (yields_load_box 0 1 (holds_box b2 23 (cl_23 a1)) tyAgg_2) ?_
   refine JL.on 3 6 h3 ?_
   refine JL.pur (.bool (decide (a1.Im = 0))) (some 9) ?_
   refine JL.val (.bool (decide (a1.Im = 0))) (some 10) (gives_pickT h3) ?_
   refine JL.as (.bool (decide (a1.Im = 0))) ?_
   refine JL.es [(2, .bool (decide (a1.Im = 0)))] ?_
   refine JQ.mask [] [false] ?_
   refine J.ret ?_
   obtain rfl := Option.some.inj H0
   exact JQ.done' (rs := [.tmp 2]) (vs := [.bool (decide (a1.Im = 0))]) [] (.inr rfl) ⟨by kernel_rfl, trivial⟩ (fun _ h => Heap.to h) ⟨rfl, rfl⟩
 · refine JL.off 3 6 true (some 7) h3 ?_
   refine JL.off 3 6 true (some 8) h3 ?_
   refine JL.off 3 6 true (some 9) h3 ?_
   refine JL.val (.bool false) (some 10) (gives_pickF h3) ?_
   refine JL.as (.bool false) ?_
   refine JL.es [(2, .bool false)] ?_
   refine JQ.mask [] [false] ?_
   refine J.ret ?_
   obtain rfl := Option.some.inj H0
   exact JQ.done' (rs := [.tmp 2]) (vs := [.bool false]) [] (.inr rfl) ⟨by kernel_rfl, trivial⟩ (fun _ h => Heap.to h) ⟨rfl, rfl⟩

theorem cx_Div_1.ok (n1 : Int) (times2 : Int) (r : Bool) (H0 : cx_Div_1.f n1 times2 = some r) :
    Does Try.prog 77 [.int .i64 n1, .int .i64 times2].toArray [] [] false (fun v Δ => v = .bool r ∧ Δ = []) := by
 refine Does.body (vs := [.int .i64 n1, .int .i64 times2]) Try.func77 rfl trivial trivial fun w S => ?_
 unfold cx_Div_1.f at H0
 refine J.sr ?_
 refine JL.as (.bool false) ?_
 refine JL.es [(0, .int .i64 n1), (1, .int .i64 times2)] ?_
 refine J.sr ?_
 refine JL.mv (.int .i64 n1) ?_
 refine JL.mv (.int .i64 times2) ?_
 obtain ⟨h3, H0⟩ := ite_must H0
 refine JL.val (.int .i64 (w64 (Int.tdiv 1000000000 times2))) (some 7) (gives_quo .i64 1000000000 times2 h3) ?_
 refine JL.pur (.bool (decide (n1 ≤ w64 (Int.tdiv 1000000000 times2)))) (some 8) ?_
 refine JL.mv (.bool (decide (n1 ≤ w64 (Int.tdiv 1000000000 times2)))) ?_
 rcases ite_cases H0 with ⟨h4, H0⟩ | ⟨h4, H0⟩
 · refine JL.on 4 9 h4 ?_
   refine JL.mv (.int .i64 n1) ?_
   refine JL.on 4 9 h4 ?_
   refine JL.mv (.int .i64 times2) ?_
   refine JL.on 4 9 h4 ?_
   obtain ⟨h5, H0⟩ := ite_must H0
   refine JL.val (.int .i64 (w64 (Int.tdiv 1000000000 times2))) (some 12) (gives_quo .i64 1000000000 times2 h5) ?_
   refine JL.on 4 9 h4 ?_
   refine JL.pur (.int .i64 (w64 (0 - w64 (Int.tdiv 1000000000 times2)))) (some 13) ?_
   refine JL.on 4 9 h4 ?_
   refine JL.pur (.bool (decide (w64 (0 - w64 (Int.tdiv 1000000000 times2)) ≤ n1))) (some 14) ?_
   refine JL.val (.bool (decide (w64 (0 - w64 (Int.tdiv 1000000000 times2)) ≤ n1))) (some 15) (gives_pickT h4) ?_
   refine JL.as (.bool (decide (w64 (0 - w64 (Int.tdiv 1000000000 times2)) ≤ n1))) ?_
   refine JL.es [(4, .bool (decide (w64 (0 - w64 (Int.tdiv 1000000000 times2)) ≤ n1)))] ?_
   refine J.ret ?_
   obtain rfl := Option.some.inj H0
   exact JQ.done' (rs := [.tmp 4]) (vs := [.bool (decide (w64 (0 - w64 (Int.tdiv 1000000000 times2)) ≤ n1))]) [] (.inr rfl) ⟨by kernel_rfl, trivial⟩ (fun _ h => Heap.to h) ⟨rfl, rfl⟩
 · refine JL.off 4 9 true (some 10) h4 ?_
   refine JL.off 4 9 true (some 11) h4 ?_
   refine JL.off 4 9 true (some 12) h4 ?_
   refine JL.off 4 9 true (some 13) h4 ?_
   refine JL.off 4 9 true (some 14) h4 ?_
   refine JL.val (.bool false) (some 15) (gives_pickF h4) ?_
   refine JL.as (.bool false) ?_
   refine JL.es [(4, .bool false)] ?_
   refine J.ret ?_
   obtain rfl := Option.some.inj H0
   exact JQ.done' (rs := [.tmp 4]) (vs := [.bool false]) [] (.inr rfl) ⟨by kernel_rfl, trivial⟩ (fun _ h => Heap.to h) ⟨rfl, rfl⟩

theorem cx_Div.ok (a1 : Cx) (b2 : Cx) (r : (Cx × Int)) (H0 : cx_Div.f a1 b2 = some r) :
    Does Try.prog 54 [mv_23 a1, mv_23 b2].toArray [] [] false (fun v Δ => v = .tuple #[mv_23 r.1, .int .i64 r.2] ∧ Δ = []) := by
 refine Does.body (vs := [mv_23 a1, mv_23 b2]) Try.func54 rfl trivial trivial fun w S => ?_
 unfold cx_Div.f at H0
 refine J.sr ?_
 refine JL.box (cl_23 a1) fun b3 => ?_
 refine JL.box (cl_23 b2) fun b4 => ?_
 refine JL.alloc (cl_23 zv_23) fun b5 => ?_
 refine JL.as (.int .i64 0) ?_
 refine JL.es [(2, .pointer (some ⟨b3, 0, none⟩)), (3, .pointer (some ⟨b4, 0, none⟩)), (4, .pointer (some ⟨b5, 0, none⟩))] ?_
 refine J.seq ?_
 refine J.sr ?_
 refine JL.val (mv_23 a1) (some 14) (yields_load_boxes 0 0 (cl_23 a1) (holds_box b3 23 (cl_23 a1)) tyAgg_23 tySize_23) ?_
 refine JL.val (mv_23 b2) (some 15) (yields_load_boxes 1 0 (cl_23 b2) (holds_box b4 23 (cl_23 b2)) tyAgg_23 tySize_23) ?_
 obtain ⟨t6, hc7, H0⟩ := bind_some H0
 refine JL.call [] [] [] (cx_check.ok a1 b2 _ hc7) trivial ?_
 rintro _ _ ⟨rfl, rfl⟩
 refine JL.as (.int .i64 t6) ?_
 refine JL.es [(2, .pointer (some ⟨b3, 0, none⟩)), (3, .pointer (some ⟨b4, 0, none⟩)), (4, .pointer (some ⟨b5, 0, none⟩)), (6, .int .i64 t6)] ?_
 refine J.sr ?_
 refine JL.mv (.int .i64 t6) ?_
 refine JL.pur (.bool (!decide (t6 = 0))) (some 18) ?_
 refine JL.es [(2, .pointer (some ⟨b3, 0, none⟩)), (3, .pointer (some ⟨b4, 0, none⟩)), (4, .pointer (some ⟨b5, 0, none⟩)), (6, .int .i64 t6), (18, .bool (!decide (t6 = 0)))] ?_
 rcases ite_cases H0 with ⟨h8, H0⟩ | ⟨h8, H0⟩
 · refine J.cond_true h8 ?_
   refine J.sr ?_
   refine JL.pur (mv_23 zv_23) (some 19) ?_
   refine JL.mv (.int .i64 t6) ?_
   refine JL.store 2 b5 0 23 (cl_23 zv_23) (cl_23 zv_23) tySize_23 ?_
   refine JL.as (.int .i64 t6) ?_
   refine JL.es [(4, .pointer (some ⟨b5, 0, none⟩)), (5, .int .i64 t6)] ?_
   refine JQ.mask [At.box b5 23 (cl_23 zv_23)] [false, false, true] ?_
   refine J.ret ?_
   refine JQ.then_ret ?_
   obtain rfl := Option.some.inj H0
   exact JQ.done' (rs := [.cell 4 23, .tmp 5]) (vs := [.agg #[.int .i64 0, .int .i64 0, .int .i64 0], .int .i64 t6]) [] (.inr rfl) ⟨⟨b5, 0, _, _, by kernel_rfl, by kernel_rfl, holds_box b5 23 (cl_23 zv_23), .inl ⟨tyAgg_23, tySize_23, rfl⟩⟩, by kernel_rfl, trivial⟩ (fun _ h => Heap.to (Heap.pick [] (by decide) h)) ⟨rfl, rfl⟩
 · refine J.cond_false h8 ?_
   refine J.skip ?_
   refine JQ.ts [(2, .pointer (some ⟨b3, 0, none⟩)), (3, .pointer (some ⟨b4, 0, none⟩)), (4, .pointer (some ⟨b5, 0, none⟩))] ?_
   refine J.seq ?_
   refine J.sr ?_
   refine JL.val (mv_23 b2) (some 21) (yields_load_boxes 1 0 (cl_23 b2) (holds_box b4 23 (cl_23 b2)) tyAgg_23 tySize_23) ?_
   obtain ⟨t9, hc10, H0⟩ := bind_some H0
   refine JL.call [] [] [] (cx_zero.ok b2 _ hc10) trivial ?_
   rintro _ _ ⟨rfl, rfl⟩
   refine JL.es [(2, .pointer (some ⟨b3, 0, none⟩)), (3, .pointer (some ⟨b4, 0, none⟩)), (4, .pointer (some ⟨b5, 0, none⟩)), (22, .bool t9)] ?_
   rcases ite_cases H0 with ⟨h11, H0⟩ | ⟨h11, H0⟩
   · refine J.cond_true h11 ?_
     refine J.sr ?_
     refine JL.pur (mv_23 zv_23) (some 23) ?_
     refine JL.store 2 b5 0 23 (cl_23 zv_23) (cl_23 zv_23) tySize_23 ?_
     refine JL.as (.int .i64 18) ?_
     refine JL.es [(4, .pointer (some ⟨b5, 0, none⟩)), (5, .int .i64 18)] ?_
     refine JQ.mask [At.box b5 23 (cl_23 zv_23)] [false, false, true] ?_
     refine J.ret ?_
     refine JQ.then_ret ?_
     obtain rfl := Option.some.inj H0
     exact JQ.done' (rs := [.cell 4 23, .tmp 5]) (vs := [.agg #[.int .i64 0, .int .i64 0, .int .i64 0], .int .i64 18]) [] (.inr rfl) ⟨⟨b5, 0, _, _, by kernel_rfl, by kernel_rfl, holds_box b5 23 (cl_23 zv_23), .inl ⟨tyAgg_23, tySize_23, rfl⟩⟩, by kernel_rfl, trivial⟩ (fun _ h => Heap.to (Heap.pick [] (by decide) h)) ⟨rfl, rfl⟩
   · refine J.cond_false h11 ?_
     refine J.skip ?_
     refine JQ.ts [(2, .pointer (some ⟨b3, 0, none⟩)), (3, .pointer (some ⟨b4, 0, none⟩)), (4, .pointer (some ⟨b5, 0, none⟩))] ?_
     refine J.seq ?_
     refine J.sr ?_
     refine JL.val (mv_23 a1) (some 24) (yields_load_boxes 0 0 (cl_23 a1) (holds_box b3 23 (cl_23 a1)) tyAgg_23 tySize_23) ?_
     obtain ⟨t12, hc13, H0⟩ := bind_some H0
     refine JL.call [] [] [] (cx_zero.ok a1 _ hc13) trivial ?_
     rintro _ _ ⟨rfl, rfl⟩
     refine JL.es [(2, .pointer (some ⟨b3, 0, none⟩)), (3, .pointer (some ⟨b4, 0, none⟩)), (4, .pointer (some ⟨b5, 0, none⟩)), (25, .bool t12)] ?_
     rcases ite_cases H0 with ⟨h14, H0⟩ | ⟨h14, H0⟩
     · refine J.cond_true h14 ?_
       refine J.sr ?_
       refine JL.val (mv_23 a1) (some 26) (yields_load_boxes 0 0 (cl_23 a1) (holds_box b3 23 (cl_23 a1)) tyAgg_23 tySize_23) ?_
       refine JL.store 2 b5 0 23 (cl_23 zv_23) (cl_23 a1) tySize_23 ?_
       refine JL.as (.int .i64 0) ?_
       refine JL.es [(4, .pointer (some ⟨b5, 0, none⟩)), (5, .int .i64 0)] ?_
       refine JQ.mask [At.box b5 23 (cl_23 a1)] [false, false, true] ?_
       refine J.ret ?_
       refine JQ.then_ret ?_
       obtain rfl := Option.some.inj H0
       exact JQ.done' (rs := [.cell 4 23, .tmp 5]) (vs := [.agg #[.int .i64 a1.Re, .int .i64 a1.Im, .int .i64 a1.Den], .int .i64 0]) [] (.inr rfl) ⟨⟨b5, 0, _, _, by kernel_rfl, by kernel_rfl, holds_box b5 23 (cl_23 a1), .inl ⟨tyAgg_23, tySize_23, rfl⟩⟩, by kernel_rfl, trivial⟩ (fun _ h => Heap.to (Heap.pick [] (by decide) h)) ⟨rfl, rfl⟩
     · refine J.cond_false h14 ?_
       refine J.skip ?_
       refine JQ.ts [(2, .pointer (some ⟨b3, 0, none⟩)), (3, .pointer (some ⟨b4, 0, none⟩)), (4, .pointer (some ⟨b5, 0, none⟩))] ?_
       refine J.seq ?_
       refine J.draw ?_
       refine QL.pur (.pointer (some ⟨b3, 0, none⟩)) (some 27) ?_
       refine QL.val (.int .i64 a1.Re) (some 28) (yields_load_box 0 0 (holds_box b3 23 (cl_23 a1)) tyAgg_2) ?_
       refine QL.pur (.pointer (some ⟨b4, 0, none⟩)) (some 29) ?_
       refine QL.val (.int .i64 b2.Re) (some 30) (yields_load_box 1 0 (holds_box b4 23 (cl_23 b2)) tyAgg_2) ?_
       refine QL.pur (.int .i64 (w64 (a1.Re * b2.Re))) (some 31) ?_
       refine QL.pur (.pointer (some ⟨b3, 1, none⟩)) (some 32) ?_
       refine QL.val (.int .i64 a1.Im) (some 33) (yields_load_box 0 1 (holds_box b3 23 (cl_23 a1)) tyAgg_2) ?_
       refine QL.pur (.pointer (some ⟨b4, 1, none⟩)) (some 34) ?_
       refine QL.val (.int .i64 b2.Im) (some 35) (yields_load_box 1 1 (holds_box b4 23 (cl_23 b2)) tyAgg_2) ?_
       refine QL.pur (.int .i64 (w64 (a1.Im * b2.Im))) (some 36) ?_
       refine QL.pur (.int .i64 (w64 ((w64 (a1.Re * b2.Re)) + (w64 (a1.Im * b2.Im))))) (some 37) ?_
       refine QL.pur (.pointer (some ⟨b3, 1, none⟩)) (some 38) ?_
       refine QL.val (.int .i64 a1.Im) (some 39) (yields_load_box 0 1 (holds_box b3 23 (cl_23 a1)) tyAgg_2) ?_
       refine QL.pur (.pointer (some ⟨b4, 0, none⟩)) (some 40) ?_
       refine QL.val (.int .i64 b2.Re) (some 41) (yields_load_box 1 0 (holds_box b4 23 (cl_23 b2)) tyAgg_2) ?_
       refine QL.pur (.int .i64 (w64 (a1.Im * b2.Re))) (some 42) ?_
       refine QL.pur (.pointer (some ⟨b3, 0, none⟩)) (some 43) ?_
       refine QL.val (.int .i64 a1.Re) (some 44) (yields_load_box 0 0 (holds_box b3 23 (cl_23 a1)) tyAgg_2) ?_
       refine QL.pur (.pointer (some ⟨b4, 1, none⟩)) (some 45) ?_
       refine QL.val (.int .i64 b2.Im) (some 46) (yields_load_box 1 1 (holds_box b4 23 (cl_23 b2)) tyAgg_2) ?_
       refine QL.pur (.int .i64 (w64 (a1.Re * b2.Im))) (some 47) ?_
       refine QL.pur (.int .i64 (w64 ((w64 (a1.Im * b2.Re)) - (w64 (a1.Re * b2.Im))))) (some 48) ?_
       refine QL.pur (.pointer (some ⟨b4, 0, none⟩)) (some 49) ?_
       refine QL.val (.int .i64 b2.Re) (some 50) (yields_load_box 1 0 (holds_box b4 23 (cl_23 b2)) tyAgg_2) ?_
       refine QL.pur (.pointer (some ⟨b4, 0, none⟩)) (some 51) ?_
       refine QL.val (.int .i64 b2.Re) (some 52) (yields_load_box 1 0 (holds_box b4 23 (cl_23 b2)) tyAgg_2) ?_
       refine QL.pur (.int .i64 (w64 (b2.Re * b2.Re))) (some 53) ?_
       refine QL.pur (.pointer (some ⟨b4, 1, none⟩)) (some 54) ?_
       refine QL.val (.int .i64 b2.Im) (some 55) (yields_load_box 1 1 (holds_box b4 23 (cl_23 b2)) tyAgg_2) ?_
       refine QL.pur (.pointer (some ⟨b4, 1, none⟩)) (some 56) ?_
       refine QL.val (.int .i64 b2.Im) (some 57) (yields_load_box 1 1 (holds_box b4 23 (cl_23 b2)) tyAgg_2) ?_
       refine QL.pur (.int .i64 (w64 (b2.Im * b2.Im))) (some 58) ?_
       refine QL.pur (.int .i64 (w64 ((w64 (b2.Re * b2.Re)) + (w64 (b2.Im * b2.Im))))) (some 59) ?_
       obtain ⟨re15, ere15, H0⟩ := lt_some H0
       refine QL.as' (k := .i64) re15 ere15 ?_
       obtain ⟨im16, eim16, H0⟩ := lt_some H0
       refine QL.as' (k := .i64) im16 eim16 ?_
       obtain ⟨low17, elow17, H0⟩ := lt_some H0
       refine QL.as' (k := .i64) low17 elow17 ?_
       refine QL.nil ?_
       refine JA.nil ?_
       refine JQ.ts [(2, .pointer (some ⟨b3, 0, none⟩)), (3, .pointer (some ⟨b4, 0, none⟩)), (4, .pointer (some ⟨b5, 0, none⟩)), (7, .int .i64 re15), (8, .int .i64 im16), (9, .int .i64 low17)] ?_
       refine J.sr ?_
       refine JL.mv (.int .i64 re15) ?_
       refine JL.mv (.int .i64 im16) ?_
       refine JL.mv (.int .i64 low17) ?_
       refine JL.buildSl 2 ((flInt .i64).kd) (([re15, im16, low17] : List Int) : List Int) [.int .i64 re15, .int .i64 im16, .int .i64 low17] false (closes_fl rfl) fun b18 => ?_
       obtain ⟨t19, hc20, H0⟩ := bind_some H0
       refine JL.call [] [] [] (cx_gcd.ok ([re15, im16, low17] : List Int) (some ⟨b18, 0, none⟩) 3 _ hc20) ⟨pre_view 3 (view_row (some ⟨b18, 0, none⟩) 3 2 ((flInt .i64).kd) ([re15, im16, low17] : List Int) false true), trivial⟩ ?_
       rintro _ _ ⟨rfl, rfl⟩
       refine JL.as (.int .i64 t19) ?_
       refine JL.es [(2, .pointer (some ⟨b3, 0, none⟩)), (3, .pointer (some ⟨b4, 0, none⟩)), (4, .pointer (some ⟨b5, 0, none⟩)), (7, .int .i64 re15), (8, .int .i64 im16), (9, .int .i64 low17), (10, .int .i64 t19)] ?_
       refine JQ.mask [At.box b3 23 (cl_23 a1), At.box b4 23 (cl_23 b2), At.box b5 23 (cl_23 zv_23)] [true, true, true, false] ?_
       refine J.seq ?_
       refine J.draw ?_
       refine QL.mv (.int .i64 re15) ?_
       refine QL.mv (.int .i64 t19) ?_
       obtain ⟨h21, H0⟩ := ite_must H0
       refine QL.val (.int .i64 (w64 (Int.tdiv re15 t19))) (some 67) (gives_quo .i64 re15 t19 h21) ?_
       refine QL.mv (.int .i64 im16) ?_
       refine QL.mv (.int .i64 t19) ?_
       obtain ⟨h22, H0⟩ := ite_must H0
       refine QL.val (.int .i64 (w64 (Int.tdiv im16 t19))) (some 70) (gives_quo .i64 im16 t19 h22) ?_
       refine QL.mv (.int .i64 low17) ?_
       refine QL.mv (.int .i64 t19) ?_
       obtain ⟨h23, H0⟩ := ite_must H0
       refine QL.val (.int .i64 (w64 (Int.tdiv low17 t19))) (some 73) (gives_quo .i64 low17 t19 h23) ?_
       obtain ⟨re24, ere24, H0⟩ := lt_some H0
       refine QL.as' (k := .i64) re24 ere24 ?_
       obtain ⟨im25, eim25, H0⟩ := lt_some H0
       refine QL.as' (k := .i64) im25 eim25 ?_
       obtain ⟨low26, elow26, H0⟩ := lt_some H0
       refine QL.as' (k := .i64) low26 elow26 ?_
       refine QL.nil ?_
       refine JA.nil ?_
       refine JQ.ts [(2, .pointer (some ⟨b3, 0, none⟩)), (3, .pointer (some ⟨b4, 0, none⟩)), (4, .pointer (some ⟨b5, 0, none⟩)), (7, .int .i64 re24), (8, .int .i64 im25), (9, .int .i64 low26)] ?_
       refine J.seq ?_
       refine J.draw ?_
       refine QL.pur (.pointer (some ⟨b4, 2, none⟩)) (some 74) ?_
       refine QL.val (.int .i64 b2.Den) (some 75) (yields_load_box 1 2 (holds_box b4 23 (cl_23 b2)) tyAgg_2) ?_
       refine QL.pur (.pointer (some ⟨b3, 2, none⟩)) (some 76) ?_
       refine QL.val (.int .i64 a1.Den) (some 77) (yields_load_box 0 2 (holds_box b3 23 (cl_23 a1)) tyAgg_2) ?_
       refine QL.as (.int .i64 b2.Den) ?_
       refine QL.as (.int .i64 a1.Den) ?_
       refine QL.nil ?_
       refine JA.nil ?_
       refine JQ.ts [(4, .pointer (some ⟨b5, 0, none⟩)), (7, .int .i64 re24), (8, .int .i64 im25), (9, .int .i64 low26), (11, .int .i64 b2.Den), (12, .int .i64 a1.Den)] ?_
       refine JQ.mask [At.box b5 23 (cl_23 zv_23)] [false, false, true] ?_
       refine J.sr ?_
       refine JL.mv (.int .i64 b2.Den) ?_
       refine JL.mv (.int .i64 a1.Den) ?_
       refine JL.buildSl 2 ((flInt .i64).kd) (([b2.Den, a1.Den] : List Int) : List Int) [.int .i64 b2.Den, .int .i64 a1.Den] false (closes_fl rfl) fun b27 => ?_
       obtain ⟨t28, hc29, H0⟩ := bind_some H0
       refine JL.call [] [] [] (cx_gcd.ok ([b2.Den, a1.Den] : List Int) (some ⟨b27, 0, none⟩) 2 _ hc29) ⟨pre_view 1 (view_row (some ⟨b27, 0, none⟩) 2 2 ((flInt .i64).kd) ([b2.Den, a1.Den] : List Int) false true), trivial⟩ ?_
       rintro _ _ ⟨rfl, rfl⟩
       refine JL.as (.int .i64 t28) ?_
       refine JL.es [(4, .pointer (some ⟨b5, 0, none⟩)), (7, .int .i64 re24), (8, .int .i64 im25), (9, .int .i64 low26), (10, .int .i64 t28), (11, .int .i64 b2.Den), (12, .int .i64 a1.Den)] ?_
       refine JQ.mask [At.box b5 23 (cl_23 zv_23)] [true, false] ?_
       refine J.seq ?_
       refine J.draw ?_
       refine QL.mv (.int .i64 b2.Den) ?_
       refine QL.mv (.int .i64 t28) ?_
       obtain ⟨h30, H0⟩ := ite_must H0
       refine QL.val (.int .i64 (w64 (Int.tdiv b2.Den t28))) (some 84) (gives_quo .i64 b2.Den t28 h30) ?_
       refine QL.mv (.int .i64 a1.Den) ?_
       refine QL.mv (.int .i64 t28) ?_
       obtain ⟨h31, H0⟩ := ite_must H0
       refine QL.val (.int .i64 (w64 (Int.tdiv a1.Den t28))) (some 87) (gives_quo .i64 a1.Den t28 h31) ?_
       obtain ⟨up32, eup32, H0⟩ := lt_some H0
       refine QL.as' (k := .i64) up32 eup32 ?_
       obtain ⟨down33, edown33, H0⟩ := lt_some H0
       refine QL.as' (k := .i64) down33 edown33 ?_
       refine QL.nil ?_
       refine JA.nil ?_
       refine JQ.ts [(4, .pointer (some ⟨b5, 0, none⟩)), (7, .int .i64 re24), (8, .int .i64 im25), (9, .int .i64 low26), (11, .int .i64 up32), (12, .int .i64 down33)] ?_
       refine J.sr ?_
       refine JL.mv (.int .i64 up32) ?_
       refine JL.mv (.int .i64 low26) ?_
       refine JL.buildSl 2 ((flInt .i64).kd) (([up32, low26] : List Int) : List Int) [.int .i64 up32, .int .i64 low26] false (closes_fl rfl) fun b34 => ?_
       obtain ⟨t35, hc36, H0⟩ := bind_some H0
       refine JL.call [] [] [] (cx_gcd.ok ([up32, low26] : List Int) (some ⟨b34, 0, none⟩) 2 _ hc36) ⟨pre_view 1 (view_row (some ⟨b34, 0, none⟩) 2 2 ((flInt .i64).kd) ([up32, low26] : List Int) false true), trivial⟩ ?_
       rintro _ _ ⟨rfl, rfl⟩
       refine JL.as (.int .i64 t35) ?_
       refine JL.es [(4, .pointer (some ⟨b5, 0, none⟩)), (7, .int .i64 re24), (8, .int .i64 im25), (9, .int .i64 low26), (10, .int .i64 t35), (11, .int .i64 up32), (12, .int .i64 down33)] ?_
       refine JQ.mask [At.box b5 23 (cl_23 zv_23)] [true, false] ?_
       refine J.seq ?_
       refine J.draw ?_
       refine QL.mv (.int .i64 up32) ?_
       refine QL.mv (.int .i64 t35) ?_
       obtain ⟨h37, H0⟩ := ite_must H0
       refine QL.val (.int .i64 (w64 (Int.tdiv up32 t35))) (some 94) (gives_quo .i64 up32 t35 h37) ?_
       refine QL.mv (.int .i64 low26) ?_
       refine QL.mv (.int .i64 t35) ?_
       obtain ⟨h38, H0⟩ := ite_must H0
       refine QL.val (.int .i64 (w64 (Int.tdiv low26 t35))) (some 97) (gives_quo .i64 low26 t35 h38) ?_
       obtain ⟨up39, eup39, H0⟩ := lt_some H0
       refine QL.as' (k := .i64) up39 eup39 ?_
       obtain ⟨low40, elow40, H0⟩ := lt_some H0
       refine QL.as' (k := .i64) low40 elow40 ?_
       refine QL.nil ?_
       refine JA.nil ?_
       refine JQ.ts [(4, .pointer (some ⟨b5, 0, none⟩)), (7, .int .i64 re24), (8, .int .i64 im25), (9, .int .i64 low40), (11, .int .i64 up39), (12, .int .i64 down33)] ?_
       refine J.sr ?_
       refine JL.mv (.int .i64 re24) ?_
       refine JL.mv (.int .i64 im25) ?_
       refine JL.mv (.int .i64 down33) ?_
       refine JL.buildSl 2 ((flInt .i64).kd) (([re24, im25, down33] : List Int) : List Int) [.int .i64 re24, .int .i64 im25, .int .i64 down33] false (closes_fl rfl) fun b41 => ?_
       obtain ⟨t42, hc43, H0⟩ := bind_some H0
       refine JL.call [] [] [] (cx_gcd.ok ([re24, im25, down33] : List Int) (some ⟨b41, 0, none⟩) 3 _ hc43) ⟨pre_view 1 (view_row (some ⟨b41, 0, none⟩) 3 2 ((flInt .i64).kd) ([re24, im25, down33] : List Int) false true), trivial⟩ ?_
       rintro _ _ ⟨rfl, rfl⟩
       refine JL.as (.int .i64 t42) ?_
       refine JL.es [(4, .pointer (some ⟨b5, 0, none⟩)), (7, .int .i64 re24), (8, .int .i64 im25), (9, .int .i64 low40), (10, .int .i64 t42), (11, .int .i64 up39), (12, .int .i64 down33)] ?_
       refine JQ.mask [At.box b5 23 (cl_23 zv_23)] [true, false] ?_
       refine J.seq ?_
       refine J.draw ?_
       refine QL.mv (.int .i64 re24) ?_
       refine QL.mv (.int .i64 t42) ?_
       obtain ⟨h44, H0⟩ := ite_must H0
       refine QL.val (.int .i64 (w64 (Int.tdiv re24 t42))) (some 105) (gives_quo .i64 re24 t42 h44) ?_
       refine QL.mv (.int .i64 im25) ?_
       refine QL.mv (.int .i64 t42) ?_
       obtain ⟨h45, H0⟩ := ite_must H0
       refine QL.val (.int .i64 (w64 (Int.tdiv im25 t42))) (some 108) (gives_quo .i64 im25 t42 h45) ?_
       refine QL.mv (.int .i64 down33) ?_
       refine QL.mv (.int .i64 t42) ?_
       obtain ⟨h46, H0⟩ := ite_must H0
       refine QL.val (.int .i64 (w64 (Int.tdiv down33 t42))) (some 111) (gives_quo .i64 down33 t42 h46) ?_
       obtain ⟨re47, ere47, H0⟩ := lt_some H0
       refine QL.as' (k := .i64) re47 ere47 ?_
       obtain ⟨im48, eim48, H0⟩ := lt_some H0
       refine QL.as' (k := .i64) im48 eim48 ?_
       obtain ⟨down49, edown49, H0⟩ := lt_some H0
       refine QL.as' (k := .i64) down49 edown49 ?_
       refine QL.nil ?_
       refine JA.nil ?_
       refine JQ.ts [(4, .pointer (some ⟨b5, 0, none⟩)), (7, .int .i64 re47), (8, .int .i64 im48), (9, .int .i64 low40), (11, .int .i64 up39), (12, .int .i64 down49)] ?_
       refine J.sr ?_
       refine JL.as (.func (.func 77) #[] #[]) ?_
       refine JL.en ?_
       refine J.seq ?_
       refine J.join (T := Bool) (G := Unit) (fun t => cx_Div.k1 up39 low40 re47 im48 down49 t = some r) (fun t g => [(4, .pointer (some ⟨b5, 0, none⟩)), (7, .int .i64 re47), (8, .int .i64 im48), (9, .int .i64 low40), (11, .int .i64 up39), (12, .int .i64 down49), (130, .bool t)]) (fun t g => [At.box b5 23 (cl_23 zv_23)]) ?_ ?_
       · refine J.region ?_
         refine JL.mv (.func (.func 77) #[] #[]) ?_
         refine JL.mv (.int .i64 re47) ?_
         refine JL.mv (.int .i64 up39) ?_
         obtain ⟨t60, hc61, H0⟩ := bind_some H0
         refine JL.call [] [] [] (cx_Div_1.ok re47 up39 _ hc61) trivial ?_
         rintro _ _ ⟨rfl, rfl⟩
         refine JL.pur (.bool (!t60)) (some 116) ?_
         refine JL.mv (.bool (!t60)) ?_
         rcases ite_cases H0 with ⟨h62, H0⟩ | ⟨h62, H0⟩
         · refine JL.off 5 117 false (some 118) h62 ?_
           refine JL.off 5 117 false (some 119) h62 ?_
           refine JL.off 5 117 false (some 120) h62 ?_
           refine JL.off 5 117 false (some 121) h62 ?_
           refine JL.off 5 117 false (some 122) h62 ?_
           refine JL.val (.bool true) (some 123) (gives_pickT h62) ?_
           refine JL.mv (.bool true) ?_
           refine JL.off 12 124 false (some 125) rfl ?_
           refine JL.off 12 124 false (some 126) rfl ?_
           refine JL.off 12 124 false (some 127) rfl ?_
           refine JL.off 12 124 false (some 128) rfl ?_
           refine JL.off 12 124 false (some 129) rfl ?_
           refine JL.val (.bool true) (some 130) (gives_pickT rfl) ?_
           refine JL.en ?_
           exact JQ.meet true () H0 (fun _ h => Heap.to h)
         · refine JL.on 5 117 h62 ?_
           refine JL.mv (.func (.func 77) #[] #[]) ?_
           refine JL.on 5 117 h62 ?_
           refine JL.mv (.int .i64 im48) ?_
           refine JL.on 5 117 h62 ?_
           refine JL.mv (.int .i64 up39) ?_
           refine JL.on 5 117 h62 ?_
           obtain ⟨t63, hc64, H0⟩ := bind_some H0
           refine JL.call [] [] [] (cx_Div_1.ok im48 up39 _ hc64) trivial ?_
           rintro _ _ ⟨rfl, rfl⟩
           refine JL.on 5 117 h62 ?_
           refine JL.pur (.bool (!t63)) (some 122) ?_
           refine JL.val (.bool (!t63)) (some 123) (gives_pickF h62) ?_
           refine JL.mv (.bool (!t63)) ?_
           rcases ite_cases H0 with ⟨h65, H0⟩ | ⟨h65, H0⟩
           · refine JL.off 12 124 false (some 125) h65 ?_
             refine JL.off 12 124 false (some 126) h65 ?_
             refine JL.off 12 124 false (some 127) h65 ?_
             refine JL.off 12 124 false (some 128) h65 ?_
             refine JL.off 12 124 false (some 129) h65 ?_
             refine JL.val (.bool true) (some 130) (gives_pickT h65) ?_
             refine JL.en ?_
             exact JQ.meet true () H0 (fun _ h => Heap.to h)
           · refine JL.on 12 124 h65 ?_
             refine JL.mv (.func (.func 77) #[] #[]) ?_
             refine JL.on 12 124 h65 ?_
             refine JL.mv (.int .i64 low40) ?_
             refine JL.on 12 124 h65 ?_
             refine JL.mv (.int .i64 down49) ?_
             refine JL.on 12 124 h65 ?_
             obtain ⟨t66, hc67, H0⟩ := bind_some H0
             refine JL.call [] [] [] (cx_Div_1.ok low40 down49 _ hc67) trivial ?_
             rintro _ _ ⟨rfl, rfl⟩
             refine JL.on 12 124 h65 ?_
             refine JL.pur (.bool (!t66)) (some 129) ?_
             refine JL.val (.bool (!t66)) (some 130) (gives_pickF h65) ?_
             refine JL.en ?_
             exact JQ.meet (!t66) () H0 (fun _ h => Heap.to h)
       · clear H0
         rintro x58 ⟨⟩ H0
         replace H0 : cx_Div.k1 up39 low40 re47 im48 down49 x58 = some r := H0
         unfold cx_Div.k1 at H0
         refine JQ.sub [(4, .pointer (some ⟨b5, 0, none⟩)), (7, .int .i64 re47), (8, .int .i64 im48), (9, .int .i64 low40), (11, .int .i64 up39), (12, .int .i64 down49), (130, .bool x58)] ?_
         refine JQ.turn (Δ' := [At.box b5 23 (cl_23 zv_23)]) (fun _ h => h.to) ?_
         rcases ite_cases H0 with ⟨h59, H0⟩ | ⟨h59, H0⟩
         · refine J.cond_true h59 ?_
           refine J.sr ?_
           refine JL.pur (mv_23 zv_23) (some 131) ?_
           refine JL.store 0 b5 0 23 (cl_23 zv_23) (cl_23 zv_23) tySize_23 ?_
           refine JL.as (.int .i64 16) ?_
           refine JL.es [(4, .pointer (some ⟨b5, 0, none⟩)), (5, .int .i64 16)] ?_
           refine J.ret ?_
           refine JQ.then_ret ?_
           obtain rfl := Option.some.inj H0
           exact JQ.done' (rs := [.cell 4 23, .tmp 5]) (vs := [.agg #[.int .i64 0, .int .i64 0, .int .i64 0], .int .i64 16]) [] (.inr rfl) ⟨⟨b5, 0, _, _, by kernel_rfl, by kernel_rfl, holds_box b5 23 (cl_23 zv_23), .inl ⟨tyAgg_23, tySize_23, rfl⟩⟩, by kernel_rfl, trivial⟩ (fun _ h => Heap.to (Heap.pick [] (by decide) h)) ⟨rfl, rfl⟩
         · refine J.cond_false h59 ?_
           refine J.skip ?_
           refine JQ.ts [(4, .pointer (some ⟨b5, 0, none⟩)), (7, .int .i64 re47), (8, .int .i64 im48), (9, .int .i64 low40), (11, .int .i64 up39), (12, .int .i64 down49)] ?_
           refine J.sr ?_
           refine JL.mv (.int .i64 re47) ?_
           refine JL.mv (.int .i64 up39) ?_
           refine JL.pur (.int .i64 (w64 (re47 * up39))) (some 134) ?_
           refine JL.mv (.int .i64 im48) ?_
           refine JL.mv (.int .i64 up39) ?_
           refine JL.pur (.int .i64 (w64 (im48 * up39))) (some 137) ?_
           refine JL.mv (.int .i64 low40) ?_
           refine JL.mv (.int .i64 down49) ?_
           refine JL.pur (.int .i64 (w64 (low40 * down49))) (some 140) ?_
           refine JL.pur (.agg #[.int .i64 (w64 (re47 * up39)), .int .i64 (w64 (im48 * up39)), .int .i64 (w64 (low40 * down49))]) (some 141) ?_
           refine JL.store 0 b5 0 23 (cl_23 zv_23) [.int .i64 (w64 (re47 * up39)), .int .i64 (w64 (im48 * up39)), .int .i64 (w64 (low40 * down49))] tySize_23 ?_
           refine JL.as (.int .i64 0) ?_
           refine JL.es [(4, .pointer (some ⟨b5, 0, none⟩)), (5, .int .i64 0)] ?_
           refine J.ret ?_
           obtain rfl := Option.some.inj H0
           exact JQ.done' (rs := [.cell 4 23, .tmp 5]) (vs := [.agg #[.int .i64 (w64 (re47 * up39)), .int .i64 (w64 (im48 * up39)), .int .i64 (w64 (low40 * down49))], .int .i64 0]) [] (.inr rfl) ⟨⟨b5, 0, _, _, by kernel_rfl, by kernel_rfl, holds_box b5 23 [.int .i64 (w64 (re47 * up39)), .int .i64 (w64 (im48 * up39)), .int .i64 (w64 (low40 * down49))], .inl ⟨tyAgg_23, tySize_23, rfl⟩⟩, by kernel_rfl, trivial⟩ (fun _ h => Heap.to (Heap.pick [] (by decide) h)) ⟨rfl, rfl⟩

theorem gain_Inv_1.ok (a1 : Int) (a2 : Cx) (r : (Cx × Int)) (H0 : gain_Inv_1.f a1 a2 = some r) :
    Does Try.prog 53 [.int .i64 a1, mv_23 a2].toArray [] [] false (fun v Δ => v = .tuple #[mv_23 r.1, .int .i64 r.2] ∧ Δ = []) := by
 refine Does.body (vs := [.int .i64 a1, mv_23 a2]) Try.func53 rfl trivial trivial fun w S => ?_
 unfold gain_Inv_1.f at H0
 refine J.sr ?_
 refine JL.box (cl_23 a2) fun b3 => ?_
 refine JL.alloc (cl_23 zv_23) fun b4 => ?_
 refine JL.as (.int .i64 0) ?_
 refine JL.es [(3, .pointer (some ⟨b3, 0, none⟩)), (4, .pointer (some ⟨b4, 0, none⟩))] ?_
 refine J.sr ?_
 refine JL.pur (.agg #[.int .i64 1, .int .i64 0, .int .i64 1]) (some 6) ?_
 refine JL.val (mv_23 a2) (some 7) (yields_load_boxes 0 0 (cl_23 a2) (holds_box b3 23 (cl_23 a2)) tyAgg_23 tySize_23) ?_
 obtain ⟨t5, hc6, H0⟩ := bind_some H0
 refine JL.call [] [] [] (cx_Div.ok (⟨1, 0, 1⟩ : Cx) a2 _ hc6) trivial ?_
 rintro _ _ ⟨rfl, rfl⟩
 refine JL.pur (mv_23 t5.1) (some 9) ?_
 refine JL.pur (.int .i64 t5.2) (some 10) ?_
 refine JL.store 1 b4 0 23 (cl_23 zv_23) (cl_23 t5.1) tySize_23 ?_
 refine JL.as (.int .i64 t5.2) ?_
 refine JL.es [(4, .pointer (some ⟨b4, 0, none⟩)), (5, .int .i64 t5.2)] ?_
 refine JQ.mask [At.box b4 23 (cl_23 t5.1)] [false, true] ?_
 refine J.ret ?_
 obtain rfl := Option.some.inj H0
 exact JQ.done' (rs := [.cell 4 23, .tmp 5]) (vs := [.agg #[.int .i64 t5.1.Re, .int .i64 t5.1.Im, .int .i64 t5.1.Den], .int .i64 t5.2]) [] (.inr rfl) ⟨⟨b4, 0, _, _, by kernel_rfl, by kernel_rfl, holds_box b4 23 (cl_23 t5.1), .inl ⟨tyAgg_23, tySize_23, rfl⟩⟩, by kernel_rfl, trivial⟩ (fun _ h => Heap.to (Heap.pick [] (by decide) h)) ⟨rfl, rfl⟩

theorem gain_made__api_Cx_api_Cx__gain_Inv_1.ok (l1 : (List Cx)) (Aa2 : Option Addr) (c3 : Nat) (r : ((List Cx) × Int)) (H0 : gain_made__api_Cx_api_Cx__gain_Inv_1.f l1 = some r) :
    Does Try.prog 52 [.slice Aa2 l1.length c3, .func (.func 53) #[] #[]].toArray [At.rd Aa2 c3 fl_Cx.kd l1 true] [] false (fun v Δ => ∃ A1001 : Option Addr, ∃ c1001 : Nat, v = .tuple #[.slice A1001 r.1.length c1001, .int .i64 r.2] ∧ Δ = [At.row A1001 c1001 23 fl_Cx.kd r.1 false]) := by
 refine Does.body (vs := [.slice Aa2 l1.length c3, .func (.func 53) #[] #[]]) Try.func52 rfl ⟨.inl rfl, trivial⟩ trivial fun w S => ?_
 unfold gain_made__api_Cx_api_Cx__gain_Inv_1.f at H0
 refine J.sr ?_
 refine JL.as (.slice none 0 0) ?_
 refine JL.as (.int .i64 0) ?_
 refine JL.es [(0, .slice Aa2 l1.length c3), (1, .func (.func 53) #[] #[])] ?_
 refine J.sr ?_
 refine JL.as (.slice none 0 0) ?_
 refine JL.en ?_
 refine J.seq ?_
 refine J.sr ?_
 refine JL.mv (.slice Aa2 l1.length c3) ?_
 refine JL.pur (.int .i64 (l1.length : Int)) (some 12) ?_
 refine JL.mv (.int .i64 0) ?_
 refine JL.es [(1, .func (.func 53) #[] #[]), (6, .slice none 0 0), (11, .slice Aa2 l1.length c3), (12, .int .i64 (l1.length : Int)), (13, .int .i64 0)] ?_
 obtain ⟨o1, hit, H0⟩ := bind_some H0
 refine J.loop (σ := ((List Cx) × Int)) (τ := List Cx) (G := ((Option Addr) × Nat)) (G' := ((Option Addr) × Nat)) _ o1 (fun s g => [(1, .func (.func 53) #[] #[]), (6, .slice g.1 s.1.length g.2), (11, .slice Aa2 l1.length c3), (12, .int .i64 (l1.length : Int)), (13, .int .i64 s.2)]) (fun s g => [At.row g.1 g.2 23 fl_Cx.kd s.1 false, At.rd Aa2 c3 fl_Cx.kd l1 true]) (fun t => gain_made__api_Cx_api_Cx__gain_Inv_1.k2 t = some r) (fun t g => [(6, .slice g.1 t.length g.2)]) (fun t g => [At.row g.1 g.2 23 fl_Cx.kd t false]) ([], 0) (none, 0) hit (fun _ h => Heap.to (Heap.pick [1, 0] (by decide) (Heap.addRow0 (α := Cx) 23 fl_Cx.kd false h))) ?_ ?_
 · clear hit
   rintro ⟨out44, x48⟩ ⟨Aa45, c46⟩ st1 H1 hb1 hr1
   replace H1 : gain_made__api_Cx_api_Cx__gain_Inv_1.s1 l1 out44 x48 = some st1 := H1
   unfold gain_made__api_Cx_api_Cx__gain_Inv_1.s1 at H1
   refine JQ.sub [(1, .func (.func 53) #[] #[]), (6, .slice Aa45 out44.length c46), (11, .slice Aa2 l1.length c3), (12, .int .i64 (l1.length : Int)), (13, .int .i64 x48)] ?_
   refine JQ.turn (Δ' := [At.row Aa45 c46 23 fl_Cx.kd out44 false, At.rd Aa2 c3 fl_Cx.kd l1 true]) (fun _ h => h.to) ?_
   refine J.sr ?_
   refine JL.pur (.bool (decide (x48 < (l1.length : Int)))) (some 14) ?_
   refine JL.en ?_
   refine J.seq ?_
   rcases ite_cases H1 with ⟨h67, H1⟩ | ⟨h67, H1⟩
   · refine J.cond_true h67 ?_
     refine J.skip ?_
     refine JQ.ts [(1, .func (.func 53) #[] #[]), (6, .slice Aa45 out44.length c46), (11, .slice Aa2 l1.length c3), (12, .int .i64 (l1.length : Int)), (13, .int .i64 x48)] ?_
     refine J.seq ?_
     refine J.block ?_
     refine J.sr ?_
     refine JL.mv (.int .i64 x48) ?_
     obtain ⟨⟨h68, h69⟩, H1⟩ := ite_must H1
     refine JL.ixAddr 1 3 c3 .i64 (elems_rd Aa2 c3 fl_Cx.kd l1 true) Try.underlying28 tySize_23 h68 h69 fun g70 o71 hA => ?_
     subst hA
     refine JL.val (mv_23 (ix l1 x48)) (some 17) (gives_loadEl (f := fl_Cx) 1 0 x48 (elems_rd (some ⟨g70, o71, none⟩) c3 fl_Cx.kd l1 true) h68 h69 tySize_23 (.inl ⟨tyAgg_23, rfl⟩)) ?_
     refine JL.alloc (cl_23 zv_23) fun b72 => ?_
     refine JL.as (.int .i64 x48) ?_
     refine JL.store 2 b72 0 23 (cl_23 zv_23) (cl_23 (ix l1 x48)) tySize_23 ?_
     refine JL.es [(1, .func (.func 53) #[] #[]), (6, .slice Aa45 out44.length c46), (7, .int .i64 x48), (8, .pointer (some ⟨b72, 0, none⟩)), (11, .slice (some ⟨g70, o71, none⟩) l1.length c3), (12, .int .i64 (l1.length : Int)), (13, .int .i64 x48)] ?_
     refine J.sr ?_
     refine JL.mv (.func (.func 53) #[] #[]) ?_
     refine JL.mv (.int .i64 x48) ?_
     refine JL.val (mv_23 (ix l1 x48)) (some 21) (yields_load_boxes 2 0 (cl_23 (ix l1 x48)) (holds_box b72 23 (cl_23 (ix l1 x48))) tyAgg_23 tySize_23) ?_
     obtain ⟨t73, hc74, H1⟩ := bind_some H1
     refine JL.call [] [] [] (gain_Inv_1.ok x48 (ix l1 x48) _ hc74) trivial ?_
     rintro _ _ ⟨rfl, rfl⟩
     refine JL.mv (.tuple #[mv_23 t73.1, .int .i64 t73.2]) ?_
     refine JL.pur (mv_23 t73.1) (some 23) ?_
     refine JL.pur (.int .i64 t73.2) (some 24) ?_
     refine JL.alloc (cl_23 zv_23) fun b75 => ?_
     refine JL.store 3 b75 0 23 (cl_23 zv_23) (cl_23 t73.1) tySize_23 ?_
     refine JL.as (.int .i64 t73.2) ?_
     refine JL.es [(1, .func (.func 53) #[] #[]), (6, .slice Aa45 out44.length c46), (9, .pointer (some ⟨b75, 0, none⟩)), (10, .int .i64 t73.2), (11, .slice (some ⟨g70, o71, none⟩) l1.length c3), (12, .int .i64 (l1.length : Int)), (13, .int .i64 x48)] ?_
     refine JQ.mask [At.row Aa45 c46 23 fl_Cx.kd out44 false, At.rd (some ⟨g70, o71, none⟩) c3 fl_Cx.kd l1 true, At.box b75 23 (cl_23 t73.1)] [true, true, false, true] ?_
     refine J.seq ?_
     refine J.sr ?_
     refine JL.mv (.int .i64 t73.2) ?_
     refine JL.pur (.bool (!decide (t73.2 = 0))) (some 26) ?_
     refine JL.es [(1, .func (.func 53) #[] #[]), (6, .slice Aa45 out44.length c46), (9, .pointer (some ⟨b75, 0, none⟩)), (11, .slice (some ⟨g70, o71, none⟩) l1.length c3), (12, .int .i64 (l1.length : Int)), (13, .int .i64 x48), (26, .bool (!decide (t73.2 = 0)))] ?_
     rcases ite_cases H1 with ⟨h76, H1⟩ | ⟨h76, H1⟩
     · refine J.cond_true h76 ?_
       refine J.sr ?_
       refine JL.as (.slice none 0 0) ?_
       refine JL.as (.int .i64 16) ?_
       refine JL.es [(4, .slice none 0 0), (5, .int .i64 16)] ?_
       refine JQ.mask [] [false, false, false] ?_
       refine J.ret ?_
       refine JQ.then_ret ?_
       refine JQ.blk_ret ?_
       refine JQ.then_ret ?_
       refine JQ.then_ret ?_
       refine JQ.blk_ret ?_
       refine JQ.met_ret ?_
       refine JQ.then_ret ?_
       rw [hr1 _ (Option.some.inj H1).symm, fin_ret] at H0
       obtain rfl := Option.some.inj H0
       exact JQ.done' (rs := [.tmp 4, .tmp 5]) (vs := [.slice none 0 0, .int .i64 16]) [At.row none 0 23 fl_Cx.kd ([] : List Cx) false] (.inr rfl) ⟨by kernel_rfl, by kernel_rfl, trivial⟩ (fun _ h => Heap.to (Heap.addRow0 (α := Cx) 23 fl_Cx.kd false h)) ⟨none, 0, rfl, rfl⟩
     · refine J.cond_false h76 ?_
       refine J.skip ?_
       refine JQ.ts [(1, .func (.func 53) #[] #[]), (6, .slice Aa45 out44.length c46), (9, .pointer (some ⟨b75, 0, none⟩)), (11, .slice (some ⟨g70, o71, none⟩) l1.length c3), (12, .int .i64 (l1.length : Int)), (13, .int .i64 x48)] ?_
       refine J.region ?_
       refine JL.mv (.slice Aa45 out44.length c46) ?_
       refine JL.val (mv_23 t73.1) (some 28) (yields_load_boxes 2 0 (cl_23 t73.1) (holds_box b75 23 (cl_23 t73.1)) tyAgg_23 tySize_23) ?_
       refine JL.buildSl 23 fl_Cx.kd (([t73.1] : List Cx) : List Cx) [.int .i64 t73.1.Re, .int .i64 t73.1.Im, .int .i64 t73.1.Den] false (closes_fl rfl) fun b77 => ?_
       obtain ⟨h80, H1⟩ := ite_must H1
       refine JL.append false false 0 3 Aa45 c46 1 out44 (elems_row (some ⟨b77, 0, none⟩) 1 23 fl_Cx.kd ([t73.1] : List Cx) false) Try.underlying28 info_23 (by omega) (by omega) (fun h => h) (.inr ⟨_, rfl⟩) fun Aa78 c79 => ?_
       refine JL.as (.slice Aa78 (out44 ++ ([t73.1] : List Cx)).length c79) ?_
       refine JL.end_ ?_
       refine JQ.blk_normal ?_
       refine JQ.ts [(1, .func (.func 53) #[] #[]), (6, .slice Aa78 (out44 ++ ([t73.1] : List Cx)).length c79), (11, .slice (some ⟨g70, o71, none⟩) l1.length c3), (12, .int .i64 (l1.length : Int)), (13, .int .i64 x48)] ?_
       refine JQ.mask [At.row Aa78 c79 23 fl_Cx.kd (out44 ++ ([t73.1] : List Cx)) false, At.rd (some ⟨g70, o71, none⟩) c3 fl_Cx.kd l1 true] [true, true, false, false] ?_
       refine J.region ?_
       refine JL.pur (.int .i64 (w64 (x48 + 1))) (some 31) ?_
       refine JL.mv (.int .i64 (w64 (x48 + 1))) ?_
       refine JL.en ?_
       exact JQ.again ((out44 ++ ([t73.1] : List Cx)), w64 (x48 + 1)) (Aa78, c79) (Option.some.inj H1).symm (fun _ h => Heap.to h)
   · refine J.cond_false h67 ?_
     refine J.exit ?_
     refine JQ.then_exit ?_
     refine JQ.then_exit ?_
     refine JQ.blk_exit ?_
     rw [hb1 _ (Option.some.inj H1).symm, fin_brk] at H0
     exact JQ.met out44 (Aa45, c46) H0 (fun _ h => Heap.to (Heap.pick [0] (by decide) h))
 · clear hit H0
   rintro out63 ⟨Aa64, c65⟩ H0
   replace H0 : gain_made__api_Cx_api_Cx__gain_Inv_1.k2 out63 = some r := H0
   unfold gain_made__api_Cx_api_Cx__gain_Inv_1.k2 at H0
   refine JQ.sub [(6, .slice Aa64 out63.length c65)] ?_
   refine JQ.turn (Δ' := [At.row Aa64 c65 23 fl_Cx.kd out63 false]) (fun _ h => h.to) ?_
   refine JQ.then_normal ?_
   refine J.sr ?_
   refine JL.mv (.slice Aa64 out63.length c65) ?_
   refine JL.as (.slice Aa64 out63.length c65) ?_
   refine JL.as (.int .i64 0) ?_
   refine JL.es [(4, .slice Aa64 out63.length c65), (5, .int .i64 0)] ?_
   refine J.ret ?_
   obtain rfl := Option.some.inj H0
   exact JQ.done' (rs := [.tmp 4, .tmp 5]) (vs := [.slice Aa64 out63.length c65, .int .i64 0]) [At.row Aa64 c65 23 fl_Cx.kd out63 false] (.inr rfl) ⟨by kernel_rfl, by kernel_rfl, trivial⟩ (fun _ h => Heap.to h) ⟨Aa64, c65, rfl, rfl⟩

theorem gain_Inv.ok (g1 : (List Cx)) (Aa2 : Option Addr) (c3 : Nat) (r : ((List Cx) × Int)) (H0 : gain_Inv.f g1 = some r) :
    Does Try.prog 36 [.slice Aa2 g1.length c3].toArray [At.rd Aa2 c3 fl_Cx.kd g1 true] [] false (fun v Δ => ∃ A1001 : Option Addr, ∃ c1001 : Nat, v = .tuple #[.slice A1001 r.1.length c1001, .int .i64 r.2] ∧ Δ = [At.row A1001 c1001 23 fl_Cx.kd r.1 false]) := by
 refine Does.body (vs := [.slice Aa2 g1.length c3]) Try.func36 rfl ⟨.inl rfl, trivial⟩ trivial fun w S => ?_
 unfold gain_Inv.f at H0
 refine J.sr ?_
 refine JL.as (.slice none 0 0) ?_
 refine JL.as (.int .i64 0) ?_
 refine JL.es [(0, .slice Aa2 g1.length c3)] ?_
 refine J.seq ?_
 refine J.sr ?_
 refine JL.mv (.slice Aa2 g1.length c3) ?_
 obtain ⟨t5, hc6, H0⟩ := bind_some H0
 refine JL.call [] [] [] (gain_Check.ok g1 Aa2 c3 _ hc6) ⟨pre_any 0 (view_rd Aa2 c3 fl_Cx.kd g1 true true), trivial⟩ ?_
 rintro _ _ ⟨rfl, rfl⟩
 refine JL.as (.int .i64 t5) ?_
 refine JL.es [(0, .slice Aa2 g1.length c3), (4, .int .i64 t5)] ?_
 refine J.sr ?_
 refine JL.mv (.int .i64 t5) ?_
 refine JL.pur (.bool (!decide (t5 = 0))) (some 8) ?_
 refine JL.es [(0, .slice Aa2 g1.length c3), (4, .int .i64 t5), (8, .bool (!decide (t5 = 0)))] ?_
 rcases ite_cases H0 with ⟨h7, H0⟩ | ⟨h7, H0⟩
 · refine J.cond_true h7 ?_
   refine J.sr ?_
   refine JL.mv (.int .i64 t5) ?_
   refine JL.as (.slice none 0 0) ?_
   refine JL.as (.int .i64 t5) ?_
   refine JL.es [(2, .slice none 0 0), (3, .int .i64 t5)] ?_
   refine JQ.mask [] [false] ?_
   refine J.ret ?_
   refine JQ.then_ret ?_
   obtain rfl := Option.some.inj H0
   exact JQ.done' (rs := [.tmp 2, .tmp 3]) (vs := [.slice none 0 0, .int .i64 t5]) [At.row none 0 23 fl_Cx.kd ([] : List Cx) false] (.inr rfl) ⟨by kernel_rfl, by kernel_rfl, trivial⟩ (fun _ h => Heap.to (Heap.addRow0 (α := Cx) 23 fl_Cx.kd false h)) ⟨none, 0, rfl, rfl⟩
 · refine J.cond_false h7 ?_
   refine J.skip ?_
   refine JQ.ts [(0, .slice Aa2 g1.length c3)] ?_
   refine J.sr ?_
   refine JL.mv (.slice Aa2 g1.length c3) ?_
   obtain ⟨t8, hc9, H0⟩ := bind_some H0
   refine JL.call [] [] [] (gain_made__api_Cx_api_Cx__gain_Inv_1.ok g1 Aa2 c3 _ hc9) ⟨pre_any 0 (view_rd Aa2 c3 fl_Cx.kd g1 true true), trivial⟩ ?_
   rintro _ _ ⟨Aa10, c11, rfl, rfl⟩
   refine JL.pur (.slice Aa10 t8.1.length c11) (some 12) ?_
   refine JL.pur (.int .i64 t8.2) (some 13) ?_
   refine JL.as (.slice Aa10 t8.1.length c11) ?_
   refine JL.as (.int .i64 t8.2) ?_
   refine JL.es [(2, .slice Aa10 t8.1.length c11), (3, .int .i64 t8.2)] ?_
   refine JQ.mask [At.row Aa10 c11 23 fl_Cx.kd t8.1 false] [false, true] ?_
   refine J.ret ?_
   obtain rfl := Option.some.inj H0
   exact JQ.done' (rs := [.tmp 2, .tmp 3]) (vs := [.slice Aa10 t8.1.length c11, .int .i64 t8.2]) [At.row Aa10 c11 23 fl_Cx.kd t8.1 false] (.inr rfl) ⟨by kernel_rfl, by kernel_rfl, trivial⟩ (fun _ h => Heap.to h) ⟨Aa10, c11, rfl, rfl⟩

theorem corrupt_acted__gain_Inv.ok (s1 : (List (List Vis))) (Aa2 : Option Addr) (c3 : Nat) (l5 : (List Spoil)) (Aa6 : Option Addr) (c7 : Nat) (r : ((List (List Vis)) × Int)) (H0 : corrupt_acted__gain_Inv.f s1 l5 = some r) :
    Does Try.prog 29 [.slice Aa2 s1.length c3, .slice Aa6 l5.length c7, .func (.func 36) #[] #[]].toArray [At.rd Aa2 c3 fl_Vis.kd.sl s1 true, At.rd Aa6 c7 fl_Spoil.kd l5 true] [] false (fun v Δ => ∃ A1001 : Option Addr, ∃ c1001 : Nat, v = .tuple #[.slice A1001 r.1.length c1001, .int .i64 r.2] ∧ Δ = [At.row A1001 c1001 48 fl_Vis.kd.sl r.1 false]) := by
 refine Does.body (vs := [.slice Aa2 s1.length c3, .slice Aa6 l5.length c7, .func (.func 36) #[] #[]]) Try.func29 rfl ⟨.inl rfl, .inl rfl, trivial⟩ trivial fun w S => ?_
 unfold corrupt_acted__gain_Inv.f at H0
 refine J.sr ?_
 refine JL.as (.slice none 0 0) ?_
 refine JL.as (.int .i64 0) ?_
 refine JL.es [(0, .slice Aa2 s1.length c3), (1, .slice Aa6 l5.length c7), (2, .func (.func 36) #[] #[])] ?_
 refine J.seq ?_
 refine J.sr ?_
 refine JL.mv (.slice Aa2 s1.length c3) ?_
 obtain ⟨t9, hc10, H0⟩ := bind_some H0
 refine JL.call [] [] [] (corrupt_Check.ok s1 Aa2 c3 _ hc10) ⟨pre_any 0 (view_rd Aa2 c3 fl_Vis.kd.sl s1 true true), trivial⟩ ?_
 rintro _ _ ⟨rfl, rfl⟩
 refine JL.as (.int .i64 t9) ?_
 refine JL.es [(0, .slice Aa2 s1.length c3), (1, .slice Aa6 l5.length c7), (2, .func (.func 36) #[] #[]), (8, .int .i64 t9)] ?_
 refine J.sr ?_
 refine JL.mv (.int .i64 t9) ?_
 refine JL.pur (.bool (!decide (t9 = 0))) (some 22) ?_
 refine JL.es [(0, .slice Aa2 s1.length c3), (1, .slice Aa6 l5.length c7), (2, .func (.func 36) #[] #[]), (8, .int .i64 t9), (22, .bool (!decide (t9 = 0)))] ?_
 rcases ite_cases H0 with ⟨h11, H0⟩ | ⟨h11, H0⟩
 · refine J.cond_true h11 ?_
   refine J.sr ?_
   refine JL.mv (.int .i64 t9) ?_
   refine JL.as (.slice none 0 0) ?_
   refine JL.as (.int .i64 t9) ?_
   refine JL.es [(6, .slice none 0 0), (7, .int .i64 t9)] ?_
   refine JQ.mask [] [false, false] ?_
   refine J.ret ?_
   refine JQ.then_ret ?_
   obtain rfl := Option.some.inj H0
   exact JQ.done' (rs := [.tmp 6, .tmp 7]) (vs := [.slice none 0 0, .int .i64 t9]) [At.row none 0 48 fl_Vis.kd.sl ([] : List (List Vis)) false] (.inr rfl) ⟨by kernel_rfl, by kernel_rfl, trivial⟩ (fun _ h => Heap.to (Heap.addRow0 (α := (List Vis)) 48 fl_Vis.kd.sl false h)) ⟨none, 0, rfl, rfl⟩
 · refine J.cond_false h11 ?_
   refine J.skip ?_
   refine JQ.ts [(0, .slice Aa2 s1.length c3), (1, .slice Aa6 l5.length c7), (2, .func (.func 36) #[] #[])] ?_
   refine J.sr ?_
   refine JL.as (.slice none 0 0) ?_
   refine JL.en ?_
   refine J.seq ?_
   refine J.sr ?_
   refine JL.mv (.slice Aa2 s1.length c3) ?_
   refine JL.pur (.int .i64 (s1.length : Int)) (some 25) ?_
   refine JL.pur (.int .i64 (gmax 1 (s1.length : Int))) (some 26) ?_
   refine JL.mv (.int .i64 0) ?_
   refine JL.es [(0, .slice Aa2 s1.length c3), (1, .slice Aa6 l5.length c7), (2, .func (.func 36) #[] #[]), (9, .slice none 0 0), (26, .int .i64 (gmax 1 (s1.length : Int))), (27, .int .i64 0)] ?_
   obtain ⟨o1, hit, H0⟩ := bind_some H0
   refine J.loop (σ := ((List (List Cx)) × Int)) (τ := List (List Cx)) (G := ((Option Addr) × Nat)) (G' := ((Option Addr) × Nat)) _ o1 (fun s g => [(0, .slice Aa2 s1.length c3), (1, .slice Aa6 l5.length c7), (2, .func (.func 36) #[] #[]), (9, .slice g.1 s.1.length g.2), (26, .int .i64 (gmax 1 (s1.length : Int))), (27, .int .i64 s.2)]) (fun s g => [At.rd Aa2 c3 fl_Vis.kd.sl s1 true, At.rd Aa6 c7 fl_Spoil.kd l5 true, At.row g.1 g.2 28 fl_Cx.kd.sl s.1 false]) (fun t => corrupt_acted__gain_Inv.k2 s1 t = some r) (fun t g => [(0, .slice Aa2 s1.length c3), (2, .func (.func 36) #[] #[]), (9, .slice g.1 t.length g.2)]) (fun t g => [At.rd Aa2 c3 fl_Vis.kd.sl s1 true, At.row g.1 g.2 28 fl_Cx.kd.sl t false]) ([], 0) (none, 0) hit (fun _ h => Heap.to (Heap.addRow0 (α := (List Cx)) 28 fl_Cx.kd.sl false h)) ?_ ?_
   · clear hit
     rintro ⟨tables45, x49⟩ ⟨Aa46, c47⟩ st1 H1 hb1 hr1
     replace H1 : corrupt_acted__gain_Inv.s1 s1 l5 tables45 x49 = some st1 := H1
     unfold corrupt_acted__gain_Inv.s1 at H1
     refine JQ.sub [(0, .slice Aa2 s1.length c3), (1, .slice Aa6 l5.length c7), (2, .func (.func 36) #[] #[]), (9, .slice Aa46 tables45.length c47), (26, .int .i64 (gmax 1 (s1.length : Int))), (27, .int .i64 x49)] ?_
     refine JQ.turn (Δ' := [At.rd Aa2 c3 fl_Vis.kd.sl s1 true, At.rd Aa6 c7 fl_Spoil.kd l5 true, At.row Aa46 c47 28 fl_Cx.kd.sl tables45 false]) (fun _ h => h.to) ?_
     refine J.sr ?_
     refine JL.pur (.bool (decide (x49 < gmax 1 (s1.length : Int)))) (some 28) ?_
     refine JL.en ?_
     refine J.seq ?_
     rcases ite_cases H1 with ⟨h209, H1⟩ | ⟨h209, H1⟩
     · refine J.cond_true h209 ?_
       refine J.skip ?_
       refine JQ.ts [(0, .slice Aa2 s1.length c3), (1, .slice Aa6 l5.length c7), (2, .func (.func 36) #[] #[]), (9, .slice Aa46 tables45.length c47), (26, .int .i64 (gmax 1 (s1.length : Int))), (27, .int .i64 x49)] ?_
       refine J.seq ?_
       refine J.block ?_
       refine J.sr ?_
       refine JL.mv (.int .i64 x49) ?_
       refine JL.as (.int .i64 x49) ?_
       refine JL.es [(0, .slice Aa2 s1.length c3), (1, .slice Aa6 l5.length c7), (2, .func (.func 36) #[] #[]), (9, .slice Aa46 tables45.length c47), (10, .int .i64 x49), (26, .int .i64 (gmax 1 (s1.length : Int))), (27, .int .i64 x49)] ?_
       refine J.sr ?_
       refine JL.mv (.slice Aa6 l5.length c7) ?_
       refine JL.mv (.int .i64 x49) ?_
       obtain ⟨t210, hc211, H1⟩ := bind_some H1
       refine JL.call [] [] [] (corrupt_Table.ok l5 Aa6 c7 x49 _ hc211) ⟨pre_any 1 (view_rd Aa6 c7 fl_Spoil.kd l5 true true), trivial⟩ ?_
       rintro _ _ ⟨Aa212, c213, rfl, rfl⟩
       refine JL.mv (.tuple #[.slice Aa212 t210.1.length c213, .int .i64 t210.2]) ?_
       refine JL.pur (.slice Aa212 t210.1.length c213) (some 34) ?_
       refine JL.pur (.int .i64 t210.2) (some 35) ?_
       refine JL.as (.slice Aa212 t210.1.length c213) ?_
       refine JL.as (.int .i64 t210.2) ?_
       refine JL.es [(0, .slice Aa2 s1.length c3), (1, .slice Aa6 l5.length c7), (2, .func (.func 36) #[] #[]), (9, .slice Aa46 tables45.length c47), (11, .slice Aa212 t210.1.length c213), (12, .int .i64 t210.2), (26, .int .i64 (gmax 1 (s1.length : Int))), (27, .int .i64 x49)] ?_
       refine J.seq ?_
       refine J.sr ?_
       refine JL.mv (.int .i64 t210.2) ?_
       refine JL.pur (.bool (!decide (t210.2 = 0))) (some 37) ?_
       refine JL.es [(0, .slice Aa2 s1.length c3), (1, .slice Aa6 l5.length c7), (2, .func (.func 36) #[] #[]), (9, .slice Aa46 tables45.length c47), (11, .slice Aa212 t210.1.length c213), (12, .int .i64 t210.2), (26, .int .i64 (gmax 1 (s1.length : Int))), (27, .int .i64 x49), (37, .bool (!decide (t210.2 = 0)))] ?_
       rcases ite_cases H1 with ⟨h215, H1⟩ | ⟨h215, H1⟩
       · refine J.cond_true h215 ?_
         refine J.sr ?_
         refine JL.mv (.int .i64 t210.2) ?_
         refine JL.as (.slice none 0 0) ?_
         refine JL.as (.int .i64 t210.2) ?_
         refine JL.es [(6, .slice none 0 0), (7, .int .i64 t210.2)] ?_
         refine JQ.mask [] [false, false, false, false] ?_
         refine J.ret ?_
         refine JQ.then_ret ?_
         refine JQ.blk_ret ?_
         refine JQ.then_ret ?_
         refine JQ.then_ret ?_
         refine JQ.blk_ret ?_
         refine JQ.met_ret ?_
         refine JQ.then_ret ?_
         rw [hr1 _ (Option.some.inj H1).symm, fin_ret] at H0
         obtain rfl := Option.some.inj H0
         exact JQ.done' (rs := [.tmp 6, .tmp 7]) (vs := [.slice none 0 0, .int .i64 t210.2]) [At.row none 0 48 fl_Vis.kd.sl ([] : List (List Vis)) false] (.inr rfl) ⟨by kernel_rfl, by kernel_rfl, trivial⟩ (fun _ h => Heap.to (Heap.addRow0 (α := (List Vis)) 48 fl_Vis.kd.sl false h)) ⟨none, 0, rfl, rfl⟩
       · refine J.cond_false h215 ?_
         refine J.skip ?_
         refine JQ.ts [(0, .slice Aa2 s1.length c3), (1, .slice Aa6 l5.length c7), (2, .func (.func 36) #[] #[]), (9, .slice Aa46 tables45.length c47), (11, .slice Aa212 t210.1.length c213), (26, .int .i64 (gmax 1 (s1.length : Int))), (27, .int .i64 x49)] ?_
         refine J.region ?_
         refine JL.mv (.slice Aa46 tables45.length c47) ?_
         refine JL.mv (.slice Aa212 t210.1.length c213) ?_
         refine JQ.turn (fun _ h => freeze_row 3 Aa212 c213 23 fl_Cx.kd t210.1 false h) ?_
         refine JL.buildSl 28 fl_Cx.kd.sl (([t210.1] : List (List Cx)) : List (List Cx)) [.slice Aa212 t210.1.length c213] false (closes_sl 3 false (fun h => h) (closes_nil)) fun b216 => ?_
         obtain ⟨h219, H1⟩ := ite_must H1
         refine JL.append false false 2 4 Aa46 c47 1 tables45 (elems_row (some ⟨b216, 0, none⟩) 1 28 fl_Cx.kd.sl ([t210.1] : List (List Cx)) false) Try.underlying73 info_28 (by omega) (by omega) (fun h => h) (.inl (fun h => by cases h)) fun Aa217 c218 => ?_
         refine JL.as (.slice Aa217 (tables45 ++ ([t210.1] : List (List Cx))).length c218) ?_
         refine JL.end_ ?_
         refine JQ.blk_normal ?_
         refine JQ.ts [(0, .slice Aa2 s1.length c3), (1, .slice Aa6 l5.length c7), (2, .func (.func 36) #[] #[]), (9, .slice Aa217 (tables45 ++ ([t210.1] : List (List Cx))).length c218), (26, .int .i64 (gmax 1 (s1.length : Int))), (27, .int .i64 x49)] ?_
         refine JQ.mask [At.rd Aa2 c3 fl_Vis.kd.sl s1 true, At.rd Aa6 c7 fl_Spoil.kd l5 true, At.row Aa217 c218 28 fl_Cx.kd.sl (tables45 ++ ([t210.1] : List (List Cx))) false] [true, true, true, false, false] ?_
         refine J.region ?_
         refine JL.pur (.int .i64 (w64 (x49 + 1))) (some 43) ?_
         refine JL.mv (.int .i64 (w64 (x49 + 1))) ?_
         refine JL.en ?_
         exact JQ.again ((tables45 ++ ([t210.1] : List (List Cx))), w64 (x49 + 1)) (Aa217, c218) (Option.some.inj H1).symm (fun _ h => Heap.to h)
     · refine J.cond_false h209 ?_
       refine J.exit ?_
       refine JQ.then_exit ?_
       refine JQ.then_exit ?_
       refine JQ.blk_exit ?_
       rw [hb1 _ (Option.some.inj H1).symm, fin_brk] at H0
       exact JQ.met tables45 (Aa46, c47) H0 (fun _ h => Heap.to (Heap.pick [0, 2] (by decide) h))
   · clear hit H0
     rintro tables61 ⟨Aa62, c63⟩ H0
     replace H0 : corrupt_acted__gain_Inv.k2 s1 tables61 = some r := H0
     unfold corrupt_acted__gain_Inv.k2 at H0
     refine JQ.sub [(0, .slice Aa2 s1.length c3), (2, .func (.func 36) #[] #[]), (9, .slice Aa62 tables61.length c63)] ?_
     refine JQ.turn (Δ' := [At.rd Aa2 c3 fl_Vis.kd.sl s1 true, At.row Aa62 c63 28 fl_Cx.kd.sl tables61 false]) (fun _ h => h.to) ?_
     refine JQ.then_normal ?_
     refine J.sr ?_
     refine JL.as (.slice none 0 0) ?_
     refine JL.en ?_
     refine J.seq ?_
     refine J.sr ?_
     refine JL.mv (.slice Aa2 s1.length c3) ?_
     refine JL.pur (.int .i64 (s1.length : Int)) (some 45) ?_
     refine JL.mv (.int .i64 0) ?_
     refine JL.es [(2, .func (.func 36) #[] #[]), (9, .slice Aa62 tables61.length c63), (13, .slice none 0 0), (44, .slice Aa2 s1.length c3), (45, .int .i64 (s1.length : Int)), (46, .int .i64 0)] ?_
     obtain ⟨o1, hit, H0⟩ := bind_some H0
     refine J.loop (σ := ((List (List Vis)) × Int)) (τ := List (List Vis)) (G := ((Option Addr) × Nat)) (G' := ((Option Addr) × Nat)) _ o1 (fun s g => [(2, .func (.func 36) #[] #[]), (9, .slice Aa62 tables61.length c63), (13, .slice g.1 s.1.length g.2), (44, .slice Aa2 s1.length c3), (45, .int .i64 (s1.length : Int)), (46, .int .i64 s.2)]) (fun s g => [At.row Aa62 c63 28 fl_Cx.kd.sl tables61 false, At.row g.1 g.2 48 fl_Vis.kd.sl s.1 false, At.rd Aa2 c3 fl_Vis.kd.sl s1 true]) (fun t => corrupt_acted__gain_Inv.k4 t = some r) (fun t g => [(13, .slice g.1 t.length g.2)]) (fun t g => [At.row g.1 g.2 48 fl_Vis.kd.sl t false]) ([], 0) (none, 0) hit (fun _ h => Heap.to (Heap.pick [1, 2, 0] (by decide) (Heap.addRow0 (α := (List Vis)) 48 fl_Vis.kd.sl false h))) ?_ ?_
     · clear hit
       rintro ⟨out138, x142⟩ ⟨Aa139, c140⟩ st1 H1 hb1 hr1
       replace H1 : corrupt_acted__gain_Inv.s3 s1 tables61 out138 x142 = some st1 := H1
       unfold corrupt_acted__gain_Inv.s3 at H1
       refine JQ.sub [(2, .func (.func 36) #[] #[]), (9, .slice Aa62 tables61.length c63), (13, .slice Aa139 out138.length c140), (44, .slice Aa2 s1.length c3), (45, .int .i64 (s1.length : Int)), (46, .int .i64 x142)] ?_
       refine JQ.turn (Δ' := [At.row Aa62 c63 28 fl_Cx.kd.sl tables61 false, At.row Aa139 c140 48 fl_Vis.kd.sl out138 false, At.rd Aa2 c3 fl_Vis.kd.sl s1 true]) (fun _ h => h.to) ?_
       refine J.sr ?_
       refine JL.pur (.bool (decide (x142 < (s1.length : Int)))) (some 47) ?_
       refine JL.en ?_
       refine J.seq ?_
       rcases ite_cases H1 with ⟨h178, H1⟩ | ⟨h178, H1⟩
       · refine J.cond_true h178 ?_
         refine J.skip ?_
         refine JQ.ts [(2, .func (.func 36) #[] #[]), (9, .slice Aa62 tables61.length c63), (13, .slice Aa139 out138.length c140), (44, .slice Aa2 s1.length c3), (45, .int .i64 (s1.length : Int)), (46, .int .i64 x142)] ?_
         refine J.seq ?_
         refine J.block ?_
         refine J.sr ?_
         refine JL.mv (.int .i64 x142) ?_
         obtain ⟨⟨h179, h180⟩, H1⟩ := ite_must H1
         refine JL.ixAddr 2 1 c3 .i64 (elems_rd Aa2 c3 fl_Vis.kd.sl s1 true) Try.underlying37 tySize_48 h179 h180 fun g181 o182 hA => ?_
         subst hA
         refine JL.loadEl (fun q : Option Addr × Nat => [.slice q.1 (ix s1 x142).length q.2]) (fun q : Option Addr × Nat => [At.rd q.1 q.2 fl_Vis.kd (ix s1 x142) true]) (fun q : Option Addr × Nat => .slice q.1 (ix s1 x142).length q.2) (off := 0) 2 (elems_rd (some ⟨g181, o182, none⟩) c3 fl_Vis.kd.sl s1 true) (opens_sl fl_Vis.kd _ _) h179 h180 tySize_48 (.inr ⟨tyAgg_48, rfl, fun _ => rfl⟩) ?_
         rintro ⟨Aa183, c184⟩
         refine JL.as (.int .i64 x142) ?_
         refine JL.as (.slice Aa183 (ix s1 x142).length c184) ?_
         refine JL.es [(2, .func (.func 36) #[] #[]), (9, .slice Aa62 tables61.length c63), (13, .slice Aa139 out138.length c140), (14, .int .i64 x142), (15, .slice Aa183 (ix s1 x142).length c184), (44, .slice (some ⟨g181, o182, none⟩) s1.length c3), (45, .int .i64 (s1.length : Int)), (46, .int .i64 x142)] ?_
         refine J.sr ?_
         refine JL.mv (.func (.func 36) #[] #[]) ?_
         refine JL.mv (.slice Aa62 tables61.length c63) ?_
         refine JL.mv (.int .i64 x142) ?_
         obtain ⟨⟨h186, h187⟩, H1⟩ := ite_must H1
         refine JL.ixAddr 0 1 c63 .i64 (elems_row Aa62 c63 28 fl_Cx.kd.sl tables61 false) Try.underlying73 tySize_28 h186 h187 fun g188 o189 hA => ?_
         subst hA
         refine JL.loadEl (fun q : Option Addr × Nat => [.slice q.1 (ix tables61 x142).length q.2]) (fun q : Option Addr × Nat => [At.rd q.1 q.2 fl_Cx.kd (ix tables61 x142) false]) (fun q : Option Addr × Nat => .slice q.1 (ix tables61 x142).length q.2) (off := 0) 0 (elems_row (some ⟨g188, o189, none⟩) c63 28 fl_Cx.kd.sl tables61 false) (opens_sl fl_Cx.kd _ _) h186 h187 tySize_28 (.inr ⟨tyAgg_28, rfl, fun _ => rfl⟩) ?_
         rintro ⟨Aa190, c191⟩
         obtain ⟨t193, hc194, H1⟩ := bind_some H1
         refine JL.call [] [] [] (gain_Inv.ok (ix tables61 x142) Aa190 c191 _ hc194) ⟨pre_any 4 (view_rd Aa190 c191 fl_Cx.kd (ix tables61 x142) false true), trivial⟩ ?_
         rintro _ _ ⟨Aa195, c196, rfl, rfl⟩
         refine JL.mv (.tuple #[.slice Aa195 t193.1.length c196, .int .i64 t193.2]) ?_
         refine JL.pur (.slice Aa195 t193.1.length c196) (some 58) ?_
         refine JL.pur (.int .i64 t193.2) (some 59) ?_
         refine JL.as (.slice Aa195 t193.1.length c196) ?_
         refine JL.as (.int .i64 t193.2) ?_
         refine JL.es [(2, .func (.func 36) #[] #[]), (9, .slice (some ⟨g188, o189, none⟩) tables61.length c63), (13, .slice Aa139 out138.length c140), (15, .slice Aa183 (ix s1 x142).length c184), (16, .slice Aa195 t193.1.length c196), (17, .int .i64 t193.2), (44, .slice (some ⟨g181, o182, none⟩) s1.length c3), (45, .int .i64 (s1.length : Int)), (46, .int .i64 x142)] ?_
         refine JQ.mask [At.row (some ⟨g188, o189, none⟩) c63 28 fl_Cx.kd.sl tables61 false, At.row Aa139 c140 48 fl_Vis.kd.sl out138 false, At.rd (some ⟨g181, o182, none⟩) c3 fl_Vis.kd.sl s1 true, At.rd Aa183 c184 fl_Vis.kd (ix s1 x142) true, At.row Aa195 c196 23 fl_Cx.kd t193.1 false] [true, true, true, true, false, true] ?_
         refine J.seq ?_
         refine J.sr ?_
         refine JL.mv (.int .i64 t193.2) ?_
         refine JL.pur (.bool (!decide (t193.2 = 0))) (some 61) ?_
         refine JL.es [(2, .func (.func 36) #[] #[]), (9, .slice (some ⟨g188, o189, none⟩) tables61.length c63), (13, .slice Aa139 out138.length c140), (15, .slice Aa183 (ix s1 x142).length c184), (16, .slice Aa195 t193.1.length c196), (17, .int .i64 t193.2), (44, .slice (some ⟨g181, o182, none⟩) s1.length c3), (45, .int .i64 (s1.length : Int)), (46, .int .i64 x142), (61, .bool (!decide (t193.2 = 0)))] ?_
         rcases ite_cases H1 with ⟨h198, H1⟩ | ⟨h198, H1⟩
         · refine J.cond_true h198 ?_
           refine J.sr ?_
           refine JL.mv (.int .i64 t193.2) ?_
           refine JL.as (.slice none 0 0) ?_
           refine JL.as (.int .i64 t193.2) ?_
           refine JL.es [(6, .slice none 0 0), (7, .int .i64 t193.2)] ?_
           refine JQ.mask [] [false, false, false, false, false] ?_
           refine J.ret ?_
           refine JQ.then_ret ?_
           refine JQ.blk_ret ?_
           refine JQ.then_ret ?_
           refine JQ.then_ret ?_
           refine JQ.blk_ret ?_
           refine JQ.met_ret ?_
           refine JQ.then_ret ?_
           rw [hr1 _ (Option.some.inj H1).symm, fin_ret] at H0
           obtain rfl := Option.some.inj H0
           exact JQ.done' (rs := [.tmp 6, .tmp 7]) (vs := [.slice none 0 0, .int .i64 t193.2]) [At.row none 0 48 fl_Vis.kd.sl ([] : List (List Vis)) false] (.inr rfl) ⟨by kernel_rfl, by kernel_rfl, trivial⟩ (fun _ h => Heap.to (Heap.addRow0 (α := (List Vis)) 48 fl_Vis.kd.sl false h)) ⟨none, 0, rfl, rfl⟩
         · refine J.cond_false h198 ?_
           refine J.skip ?_
           refine JQ.ts [(2, .func (.func 36) #[] #[]), (9, .slice (some ⟨g188, o189, none⟩) tables61.length c63), (13, .slice Aa139 out138.length c140), (15, .slice Aa183 (ix s1 x142).length c184), (16, .slice Aa195 t193.1.length c196), (44, .slice (some ⟨g181, o182, none⟩) s1.length c3), (45, .int .i64 (s1.length : Int)), (46, .int .i64 x142)] ?_
           refine J.sr ?_
           refine JL.mv (.slice Aa195 t193.1.length c196) ?_
           refine JL.mv (.slice Aa183 (ix s1 x142).length c184) ?_
           obtain ⟨t199, hc200, H1⟩ := bind_some H1
           refine JL.call [] [] [] (gain_Act.ok t193.1 Aa195 c196 (ix s1 x142) Aa183 c184 _ hc200) ⟨pre_view 4 (view_row Aa195 c196 23 fl_Cx.kd t193.1 false true), ⟨pre_any 3 (view_rd Aa183 c184 fl_Vis.kd (ix s1 x142) true true), trivial⟩⟩ ?_
           rintro _ _ ⟨Aa201, c202, rfl, rfl⟩
           refine JL.mv (.tuple #[.slice Aa201 t199.1.length c202, .int .i64 t199.2]) ?_
           refine JL.pur (.slice Aa201 t199.1.length c202) (some 67) ?_
           refine JL.pur (.int .i64 t199.2) (some 68) ?_
           refine JL.as (.slice Aa201 t199.1.length c202) ?_
           refine JL.as (.int .i64 t199.2) ?_
           refine JL.es [(2, .func (.func 36) #[] #[]), (9, .slice (some ⟨g188, o189, none⟩) tables61.length c63), (13, .slice Aa139 out138.length c140), (17, .int .i64 t199.2), (18, .slice Aa201 t199.1.length c202), (44, .slice (some ⟨g181, o182, none⟩) s1.length c3), (45, .int .i64 (s1.length : Int)), (46, .int .i64 x142)] ?_
           refine JQ.mask [At.row (some ⟨g188, o189, none⟩) c63 28 fl_Cx.kd.sl tables61 false, At.row Aa139 c140 48 fl_Vis.kd.sl out138 false, At.rd (some ⟨g181, o182, none⟩) c3 fl_Vis.kd.sl s1 true, At.row Aa201 c202 47 fl_Vis.kd t199.1 false] [true, true, true, false, false, true] ?_
           refine J.seq ?_
           refine J.sr ?_
           refine JL.mv (.int .i64 t199.2) ?_
           refine JL.pur (.bool (!decide (t199.2 = 0))) (some 70) ?_
           refine JL.es [(2, .func (.func 36) #[] #[]), (9, .slice (some ⟨g188, o189, none⟩) tables61.length c63), (13, .slice Aa139 out138.length c140), (17, .int .i64 t199.2), (18, .slice Aa201 t199.1.length c202), (44, .slice (some ⟨g181, o182, none⟩) s1.length c3), (45, .int .i64 (s1.length : Int)), (46, .int .i64 x142), (70, .bool (!decide (t199.2 = 0)))] ?_
           rcases ite_cases H1 with ⟨h204, H1⟩ | ⟨h204, H1⟩
           · refine J.cond_true h204 ?_
             refine J.sr ?_
             refine JL.mv (.int .i64 t199.2) ?_
             refine JL.as (.slice none 0 0) ?_
             refine JL.as (.int .i64 t199.2) ?_
             refine JL.es [(6, .slice none 0 0), (7, .int .i64 t199.2)] ?_
             refine JQ.mask [] [false, false, false, false] ?_
             refine J.ret ?_
             refine JQ.then_ret ?_
             refine JQ.blk_ret ?_
             refine JQ.then_ret ?_
             refine JQ.then_ret ?_
             refine JQ.blk_ret ?_
             refine JQ.met_ret ?_
             refine JQ.then_ret ?_
             rw [hr1 _ (Option.some.inj H1).symm, fin_ret] at H0
             obtain rfl := Option.some.inj H0
             exact JQ.done' (rs := [.tmp 6, .tmp 7]) (vs := [.slice none 0 0, .int .i64 t199.2]) [At.row none 0 48 fl_Vis.kd.sl ([] : List (List Vis)) false] (.inr rfl) ⟨by kernel_rfl, by kernel_rfl, trivial⟩ (fun _ h => Heap.to (Heap.addRow0 (α := (List Vis)) 48 fl_Vis.kd.sl false h)) ⟨none, 0, rfl, rfl⟩
           · refine J.cond_false h204 ?_
             refine J.skip ?_
             refine JQ.ts [(2, .func (.func 36) #[] #[]), (9, .slice (some ⟨g188, o189, none⟩) tables61.length c63), (13, .slice Aa139 out138.length c140), (18, .slice Aa201 t199.1.length c202), (44, .slice (some ⟨g181, o182, none⟩) s1.length c3), (45, .int .i64 (s1.length : Int)), (46, .int .i64 x142)] ?_
             refine J.region ?_
             refine JL.mv (.slice Aa139 out138.length c140) ?_
             refine JL.mv (.slice Aa201 t199.1.length c202) ?_
             refine JQ.turn (fun _ h => freeze_row 3 Aa201 c202 47 fl_Vis.kd t199.1 false h) ?_
             refine JL.buildSl 48 fl_Vis.kd.sl (([t199.1] : List (List Vis)) : List (List Vis)) [.slice Aa201 t199.1.length c202] false (closes_sl 3 false (fun h => h) (closes_nil)) fun b205 => ?_
             obtain ⟨h208, H1⟩ := ite_must H1
             refine JL.append false false 1 4 Aa139 c140 1 out138 (elems_row (some ⟨b205, 0, none⟩) 1 48 fl_Vis.kd.sl ([t199.1] : List (List Vis)) false) Try.underlying37 info_48 (by omega) (by omega) (fun h => h) (.inl (fun h => by cases h)) fun Aa206 c207 => ?_
             refine JL.as (.slice Aa206 (out138 ++ ([t199.1] : List (List Vis))).length c207) ?_
             refine JL.end_ ?_
             refine JQ.blk_normal ?_
             refine JQ.ts [(2, .func (.func 36) #[] #[]), (9, .slice (some ⟨g188, o189, none⟩) tables61.length c63), (13, .slice Aa206 (out138 ++ ([t199.1] : List (List Vis))).length c207), (44, .slice (some ⟨g181, o182, none⟩) s1.length c3), (45, .int .i64 (s1.length : Int)), (46, .int .i64 x142)] ?_
             refine JQ.mask [At.row (some ⟨g188, o189, none⟩) c63 28 fl_Cx.kd.sl tables61 false, At.row Aa206 c207 48 fl_Vis.kd.sl (out138 ++ ([t199.1] : List (List Vis))) false, At.rd (some ⟨g181, o182, none⟩) c3 fl_Vis.kd.sl s1 true] [true, true, true, false, false] ?_
             refine J.region ?_
             refine JL.pur (.int .i64 (w64 (x142 + 1))) (some 76) ?_
             refine JL.mv (.int .i64 (w64 (x142 + 1))) ?_
             refine JL.en ?_
             exact JQ.again ((out138 ++ ([t199.1] : List (List Vis))), w64 (x142 + 1)) (Aa206, c207) (Option.some.inj H1).symm (fun _ h => Heap.to h)
       · refine J.cond_false h178 ?_
         refine J.exit ?_
         refine JQ.then_exit ?_
         refine JQ.then_exit ?_
         refine JQ.blk_exit ?_
         rw [hb1 _ (Option.some.inj H1).symm, fin_brk] at H0
         exact JQ.met out138 (Aa139, c140) H0 (fun _ h => Heap.to (Heap.pick [1] (by decide) h))
     · clear hit H0
       rintro out174 ⟨Aa175, c176⟩ H0
       replace H0 : corrupt_acted__gain_Inv.k4 out174 = some r := H0
       unfold corrupt_acted__gain_Inv.k4 at H0
       refine JQ.sub [(13, .slice Aa175 out174.length c176)] ?_
       refine JQ.turn (Δ' := [At.row Aa175 c176 48 fl_Vis.kd.sl out174 false]) (fun _ h => h.to) ?_
       refine JQ.then_normal ?_
       refine J.sr ?_
       refine JL.mv (.slice Aa175 out174.length c176) ?_
       refine JL.as (.slice Aa175 out174.length c176) ?_
       refine JL.as (.int .i64 0) ?_
       refine JL.es [(6, .slice Aa175 out174.length c176), (7, .int .i64 0)] ?_
       refine J.ret ?_
       obtain rfl := Option.some.inj H0
       exact JQ.done' (rs := [.tmp 6, .tmp 7]) (vs := [.slice Aa175 out174.length c176, .int .i64 0]) [At.row Aa175 c176 48 fl_Vis.kd.sl out174 false] (.inr rfl) ⟨by kernel_rfl, by kernel_rfl, trivial⟩ (fun _ h => Heap.to h) ⟨Aa175, c176, rfl, rfl⟩

theorem corrupt_Undo.ok (s1 : (List (List Vis))) (Aa2 : Option Addr) (c3 : Nat) (l5 : (List Spoil)) (Aa6 : Option Addr) (c7 : Nat) (r : ((List (List Vis)) × Int)) (H0 : corrupt_Undo.f s1 l5 = some r) :
    Does Try.prog 17 [.slice Aa2 s1.length c3, .slice Aa6 l5.length c7].toArray [At.rd Aa2 c3 fl_Vis.kd.sl s1 true, At.rd Aa6 c7 fl_Spoil.kd l5 true] [] false (fun v Δ => ∃ A1001 : Option Addr, ∃ c1001 : Nat, v = .tuple #[.slice A1001 r.1.length c1001, .int .i64 r.2] ∧ Δ = [At.row A1001 c1001 48 fl_Vis.kd.sl r.1 false]) := by
 refine Does.body (vs := [.slice Aa2 s1.length c3, .slice Aa6 l5.length c7]) Try.func17 rfl ⟨.inl rfl, .inl rfl, trivial⟩ trivial fun w S => ?_
 unfold corrupt_Undo.f at H0
 refine J.sr ?_
 refine JL.as (.slice none 0 0) ?_
 refine JL.as (.int .i64 0) ?_
 refine JL.es [(0, .slice Aa2 s1.length c3), (1, .slice Aa6 l5.length c7)] ?_
 refine J.sr ?_
 refine JL.mv (.slice Aa2 s1.length c3) ?_
 refine JL.mv (.slice Aa6 l5.length c7) ?_
 obtain ⟨t9, hc10, H0⟩ := bind_some H0
 refine JL.call [] [] [] (corrupt_acted__gain_Inv.ok s1 Aa2 c3 l5 Aa6 c7 _ hc10) ⟨pre_any 0 (view_rd Aa2 c3 fl_Vis.kd.sl s1 true true), ⟨pre_any 1 (view_rd Aa6 c7 fl_Spoil.kd l5 true true), trivial⟩⟩ ?_
 rintro _ _ ⟨Aa11, c12, rfl, rfl⟩
 refine JL.pur (.slice Aa11 t9.1.length c12) (some 9) ?_
 refine JL.pur (.int .i64 t9.2) (some 10) ?_
 refine JL.as (.slice Aa11 t9.1.length c12) ?_
 refine JL.as (.int .i64 t9.2) ?_
 refine JL.es [(4, .slice Aa11 t9.1.length c12), (5, .int .i64 t9.2)] ?_
 refine JQ.mask [At.row Aa11 c12 48 fl_Vis.kd.sl t9.1 false] [false, false, true] ?_
 refine J.ret ?_
 obtain rfl := Option.some.inj H0
 exact JQ.done' (rs := [.tmp 4, .tmp 5]) (vs := [.slice Aa11 t9.1.length c12, .int .i64 t9.2]) [At.row Aa11 c12 48 fl_Vis.kd.sl t9.1 false] (.inr rfl) ⟨by kernel_rfl, by kernel_rfl, trivial⟩ (fun _ h => Heap.to h) ⟨Aa11, c12, rfl, rfl⟩

theorem closure_Triples.ok (l1 : (List Vis)) (Aa2 : Option Addr) (c3 : Nat) (r : ((List (A3 Int)) × Int)) (H0 : closure_Triples.f l1 = some r) :
    Does Try.prog 55 [.slice Aa2 l1.length c3].toArray [At.rd Aa2 c3 fl_Vis.kd l1 true] [] false (fun v Δ => ∃ A1001 : Option Addr, ∃ c1001 : Nat, v = .tuple #[.slice A1001 r.1.length c1001, .int .i64 r.2] ∧ Δ = [At.row A1001 c1001 88 ((flArr3 (flInt .i64)).kd) r.1 false]) := by
 refine Does.body (vs := [.slice Aa2 l1.length c3]) Try.func55 rfl ⟨.inl rfl, trivial⟩ trivial fun w S => ?_
 unfold closure_Triples.f at H0
 refine J.sr ?_
 refine JL.as (.slice none 0 0) ?_
 refine JL.as (.int .i64 0) ?_
 refine JL.es [(0, .slice Aa2 l1.length c3)] ?_
 refine J.seq ?_
 refine J.sr ?_
 refine JL.mv (.slice Aa2 l1.length c3) ?_
 obtain ⟨t5, hc6, H0⟩ := bind_some H0
 refine JL.call [] [] [] (closure_Check.ok l1 Aa2 c3 _ hc6) ⟨pre_any 0 (view_rd Aa2 c3 fl_Vis.kd l1 true true), trivial⟩ ?_
 rintro _ _ ⟨rfl, rfl⟩
 refine JL.as (.int .i64 t5) ?_
 refine JL.es [(0, .slice Aa2 l1.length c3), (4, .int .i64 t5)] ?_
 refine J.sr ?_
 refine JL.mv (.int .i64 t5) ?_
 refine JL.pur (.bool (!decide (t5 = 0))) (some 16) ?_
 refine JL.es [(0, .slice Aa2 l1.length c3), (4, .int .i64 t5), (16, .bool (!decide (t5 = 0)))] ?_
 rcases ite_cases H0 with ⟨h7, H0⟩ | ⟨h7, H0⟩
 · refine J.cond_true h7 ?_
   refine J.sr ?_
   refine JL.mv (.int .i64 t5) ?_
   refine JL.as (.slice none 0 0) ?_
   refine JL.as (.int .i64 t5) ?_
   refine JL.es [(2, .slice none 0 0), (3, .int .i64 t5)] ?_
   refine JQ.mask [] [false] ?_
   refine J.ret ?_
   refine JQ.then_ret ?_
   obtain rfl := Option.some.inj H0
   exact JQ.done' (rs := [.tmp 2, .tmp 3]) (vs := [.slice none 0 0, .int .i64 t5]) [At.row none 0 88 ((flArr3 (flInt .i64)).kd) ([] : List (A3 Int)) false] (.inr rfl) ⟨by kernel_rfl, by kernel_rfl, trivial⟩ (fun _ h => Heap.to (Heap.addRow0 (α := (A3 Int)) 88 ((flArr3 (flInt .i64)).kd) false h)) ⟨none, 0, rfl, rfl⟩
 · refine J.cond_false h7 ?_
   refine J.skip ?_
   refine JQ.ts [(0, .slice Aa2 l1.length c3)] ?_
   refine J.sr ?_
   refine JL.alloc (cl_113 zv_113) fun b8 => ?_
   refine JL.en ?_
   refine J.seq ?_
   refine J.sr ?_
   refine JL.mv (.slice Aa2 l1.length c3) ?_
   refine JL.pur (.int .i64 (l1.length : Int)) (some 19) ?_
   refine JL.mv (.int .i64 0) ?_
   refine JL.es [(5, .pointer (some ⟨b8, 0, none⟩)), (18, .slice Aa2 l1.length c3), (19, .int .i64 (l1.length : Int)), (20, .int .i64 0)] ?_
   obtain ⟨o1, hit, H0⟩ := bind_some H0
   refine J.loop (σ := ((A8 (A8 Bool)) × Int)) (τ := (A8 (A8 Bool))) (G := Unit) (G' := Unit) _ o1 (fun s g => [(5, .pointer (some ⟨b8, 0, none⟩)), (18, .slice Aa2 l1.length c3), (19, .int .i64 (l1.length : Int)), (20, .int .i64 s.2)]) (fun s g => [At.box b8 113 (cl_113 s.1), At.rd Aa2 c3 fl_Vis.kd l1 true]) (fun t => closure_Triples.k2 t = some r) (fun t g => [(5, .pointer (some ⟨b8, 0, none⟩))]) (fun t g => [At.box b8 113 (cl_113 t)]) ((⟨(⟨false, false, false, false, false, false, false, false⟩ : (A8 Bool)), (⟨false, false, false, false, false, false, false, false⟩ : (A8 Bool)), (⟨false, false, false, false, false, false, false, false⟩ : (A8 Bool)), (⟨false, false, false, false, false, false, false, false⟩ : (A8 Bool)), (⟨false, false, false, false, false, false, false, false⟩ : (A8 Bool)), (⟨false, false, false, false, false, false, false, false⟩ : (A8 Bool)), (⟨false, false, false, false, false, false, false, false⟩ : (A8 Bool)), (⟨false, false, false, false, false, false, false, false⟩ : (A8 Bool))⟩ : (A8 (A8 Bool))), 0) () hit (fun _ h => Heap.to (Heap.pick [1, 0] (by decide) h)) ?_ ?_
   · clear hit
     rintro ⟨has35, x36⟩ ⟨⟩ st1 H1 hb1 hr1
     replace H1 : closure_Triples.s1 l1 has35 x36 = some st1 := H1
     unfold closure_Triples.s1 at H1
     refine JQ.sub [(5, .pointer (some ⟨b8, 0, none⟩)), (18, .slice Aa2 l1.length c3), (19, .int .i64 (l1.length : Int)), (20, .int .i64 x36)] ?_
     refine JQ.turn (Δ' := [At.box b8 113 (cl_113 has35), At.rd Aa2 c3 fl_Vis.kd l1 true]) (fun _ h => h.to) ?_
     refine J.sr ?_
     refine JL.pur (.bool (decide (x36 < (l1.length : Int)))) (some 21) ?_
     refine JL.en ?_
     refine J.seq ?_
     rcases ite_cases H1 with ⟨h3675, H1⟩ | ⟨h3675, H1⟩
     · refine J.cond_true h3675 ?_
       refine J.skip ?_
       refine JQ.ts [(5, .pointer (some ⟨b8, 0, none⟩)), (18, .slice Aa2 l1.length c3), (19, .int .i64 (l1.length : Int)), (20, .int .i64 x36)] ?_
       refine J.seq ?_
       refine J.block ?_
       refine J.sr ?_
       obtain ⟨⟨h3676, h3677⟩, H1⟩ := ite_must H1
       refine JL.ixAddr 1 6 c3 .i64 (elems_rd Aa2 c3 fl_Vis.kd l1 true) Try.underlying48 tySize_47 h3676 h3677 fun g3678 o3679 hA => ?_
       subst hA
       refine JL.val (mv_47 (ix l1 x36)) (some 23) (gives_loadEl (f := fl_Vis) 1 0 x36 (elems_rd (some ⟨g3678, o3679, none⟩) c3 fl_Vis.kd l1 true) h3676 h3677 tySize_47 (.inl ⟨tyAgg_47, rfl⟩)) ?_
       refine JL.alloc (cl_47 zv_47) fun b3680 => ?_
       refine JL.store 2 b3680 0 47 (cl_47 zv_47) (cl_47 (ix l1 x36)) tySize_47 ?_
       refine JL.es [(5, .pointer (some ⟨b8, 0, none⟩)), (7, .pointer (some ⟨b3680, 0, none⟩)), (18, .slice (some ⟨g3678, o3679, none⟩) l1.length c3), (19, .int .i64 (l1.length : Int)), (20, .int .i64 x36)] ?_
       refine J.drawT 6 ?_
       refine QL.pur (.pointer (some ⟨b3680, 0, none⟩)) (some 24) ?_
       refine QL.val (.int .i64 ((ix l1 x36).I)) (some 25) (yields_load_box 2 0 (holds_box b3680 47 (cl_47 (ix l1 x36))) tyAgg_3) ?_
       refine QL.pur (.pointer (some ⟨b3680, 1, none⟩)) (some 26) ?_
       refine QL.val (.int .i64 ((ix l1 x36).J)) (some 27) (yields_load_box 2 1 (holds_box b3680 47 (cl_47 (ix l1 x36))) tyAgg_3) ?_
       obtain ⟨⟨h3681, h3682⟩, H1⟩ := ite_must H1
       refine QL.val (.pointer (some ⟨b8, 0 + ((ix l1 x36).I).toNat * 8, none⟩)) (some 28) (gives_ixArrD (b := b8) (o := 0) (i := (ix l1 x36).I) 8 8 .i64 h3681 h3682 Try.underlying113 tySize_112) ?_
       obtain ⟨⟨h3683, h3684⟩, H1⟩ := ite_must H1
       refine QL.val (.pointer (some ⟨b8, 0 + (((ix l1 x36).I) * 8 + ((ix l1 x36).J)).toNat * 1, none⟩)) (some 29) (gives_ixArrE (b := b8) (o := 0) (i := (ix l1 x36).I) (j := (ix l1 x36).J) 8 1 .i64 h3681 h3683 h3684 Try.underlying112 tySize_4) ?_
       refine QL.nil ?_
       refine JA.nil ?_
       obtain ⟨arr3685, earr3685, H1⟩ := lt_some H1
       refine JL.storeArr b8 0 0 0 113 flBool (A8.toLL has35) (((ix l1 x36).I) * 8 + ((ix l1 x36).J)) (cl_113 has35) [] [] true (two_lo 8 h3681 h3683) (two_hi 8 8 h3682 h3684) tySize_4 ?_
       rw [ofLL8 flBool (l := (A8.toLL has35).set (((ix l1 x36).I) * 8 + ((ix l1 x36).J)).toNat true) (by simp [A8.toLL]), earr3685]
       refine JQ.turn (Δ' := [At.box b8 113 (cl_113 arr3685), At.rd (some ⟨g3678, o3679, none⟩) c3 fl_Vis.kd l1 true, At.box b3680 47 (cl_47 (ix l1 x36))]) (fun _ h => h.to) ?_
       refine JL.end_ ?_
       refine JQ.blk_normal ?_
       refine JQ.ts [(5, .pointer (some ⟨b8, 0, none⟩)), (18, .slice (some ⟨g3678, o3679, none⟩) l1.length c3), (19, .int .i64 (l1.length : Int)), (20, .int .i64 x36)] ?_
       refine JQ.mask [At.box b8 113 (cl_113 arr3685), At.rd (some ⟨g3678, o3679, none⟩) c3 fl_Vis.kd l1 true] [true, true, false] ?_
       refine J.region ?_
       refine JL.pur (.int .i64 (w64 (x36 + 1))) (some 30) ?_
       refine JL.mv (.int .i64 (w64 (x36 + 1))) ?_
       refine JL.en ?_
       exact JQ.again (arr3685, w64 (x36 + 1)) () (Option.some.inj H1).symm (fun _ h => Heap.to h)
     · refine J.cond_false h3675 ?_
       refine J.exit ?_
       refine JQ.then_exit ?_
       refine JQ.then_exit ?_
       refine JQ.blk_exit ?_
       rw [hb1 _ (Option.some.inj H1).symm, fin_brk] at H0
       exact JQ.met has35 () H0 (fun _ h => Heap.to (Heap.pick [0] (by decide) h))
   · clear hit H0
     rintro has48 ⟨⟩ H0
     replace H0 : closure_Triples.k2 has48 = some r := H0
     unfold closure_Triples.k2 at H0
     refine JQ.sub [(5, .pointer (some ⟨b8, 0, none⟩))] ?_
     refine JQ.turn (Δ' := [At.box b8 113 (cl_113 has48)]) (fun _ h => h.to) ?_
     refine JQ.then_normal ?_
     refine J.sr ?_
     refine JL.as (.slice none 0 0) ?_
     refine JL.en ?_
     refine J.seq ?_
     refine J.sr ?_
     refine JL.val (mv_113 has48) (some 31) (yields_load_boxes 0 0 (cl_113 has48) (holds_box b8 113 (cl_113 has48)) tyAgg_113 tySize_113) ?_
     refine JL.mv (.int .i64 0) ?_
     refine JL.en ?_
     obtain ⟨o1, hit, H0⟩ := bind_some H0
     refine J.loop (σ := ((List (A3 Int)) × Int)) (τ := List (A3 Int)) (G := ((Option Addr) × Nat)) (G' := ((Option Addr) × Nat)) _ o1 (fun s g => [(5, .pointer (some ⟨b8, 0, none⟩)), (8, .slice g.1 s.1.length g.2), (31, mv_113 has48), (32, .int .i64 s.2)]) (fun s g => [At.box b8 113 (cl_113 has48), At.row g.1 g.2 88 ((flArr3 (flInt .i64)).kd) s.1 false]) (fun t => closure_Triples.k178 t = some r) (fun t g => [(8, .slice g.1 t.length g.2)]) (fun t g => [At.row g.1 g.2 88 ((flArr3 (flInt .i64)).kd) t false]) ([], 0) (none, 0) hit (fun _ h => Heap.to (Heap.addRow0 (α := (A3 Int)) 88 ((flArr3 (flInt .i64)).kd) false h)) ?_ ?_
     · clear hit
       rintro ⟨out1862, x1866⟩ ⟨Aa1863, c1864⟩ st1 H1 hb1 hr1
       replace H1 : closure_Triples.s177 has48 out1862 x1866 = some st1 := H1
       unfold closure_Triples.s177 at H1
       refine JQ.sub [(5, .pointer (some ⟨b8, 0, none⟩)), (8, .slice Aa1863 out1862.length c1864), (31, mv_113 has48), (32, .int .i64 x1866)] ?_
       refine JQ.turn (Δ' := [At.box b8 113 (cl_113 has48), At.row Aa1863 c1864 88 ((flArr3 (flInt .i64)).kd) out1862 false]) (fun _ h => h.to) ?_
       refine J.sr ?_
       refine JL.pur (.bool (decide (x1866 < 8))) (some 33) ?_
       refine JL.en ?_
       refine J.seq ?_
       rcases ite_cases H1 with ⟨h2773, H1⟩ | ⟨h2773, H1⟩
       · refine J.cond_true h2773 ?_
         refine J.skip ?_
         refine JQ.ts [(5, .pointer (some ⟨b8, 0, none⟩)), (8, .slice Aa1863 out1862.length c1864), (31, mv_113 has48), (32, .int .i64 x1866)] ?_
         refine J.seq ?_
         refine J.block ?_
         refine J.sr ?_
         refine JL.mv (.int .i64 x1866) ?_
         obtain ⟨⟨h2774, h2775⟩, H1⟩ := ite_must H1
         refine JL.val (mv_112 (ix ([has48.e0, has48.e1, has48.e2, has48.e3, has48.e4, has48.e5, has48.e6, has48.e7] : List (A8 Bool)) x1866)) (some 35) (gives_indexArr (flArr8 flBool) ([has48.e0, has48.e1, has48.e2, has48.e3, has48.e4, has48.e5, has48.e6, has48.e7] : List (A8 Bool)) (i := x1866) 8 .i64 h2774 h2775 Try.underlying113 tySize_112 tyAgg_112) ?_
         refine JL.alloc (cl_112 zv_112) fun b2776 => ?_
         refine JL.as (.int .i64 x1866) ?_
         refine JL.store 2 b2776 0 112 (cl_112 zv_112) (cl_112 (ix ([has48.e0, has48.e1, has48.e2, has48.e3, has48.e4, has48.e5, has48.e6, has48.e7] : List (A8 Bool)) x1866)) tySize_112 ?_
         refine JL.es [(5, .pointer (some ⟨b8, 0, none⟩)), (8, .slice Aa1863 out1862.length c1864), (9, .int .i64 x1866), (10, .pointer (some ⟨b2776, 0, none⟩)), (31, mv_113 has48), (32, .int .i64 x1866)] ?_
         refine J.sr ?_
         refine JL.mv (.int .i64 0) ?_
         refine JL.en ?_
         obtain ⟨o2, hit, H1⟩ := bind_some H1
         refine J.loop (σ := ((List (A3 Int)) × Int)) (τ := List (A3 Int)) (G := ((Option Addr) × Nat)) (G' := ((Option Addr) × Nat)) _ o2 (fun s g => [(5, .pointer (some ⟨b8, 0, none⟩)), (8, .slice g.1 s.1.length g.2), (9, .int .i64 x1866), (10, .pointer (some ⟨b2776, 0, none⟩)), (31, mv_113 has48), (32, .int .i64 x1866), (36, .int .i64 s.2)]) (fun s g => [At.box b8 113 (cl_113 has48), At.row g.1 g.2 88 ((flArr3 (flInt .i64)).kd) s.1 false, At.box b2776 112 (cl_112 (ix ([has48.e0, has48.e1, has48.e2, has48.e3, has48.e4, has48.e5, has48.e6, has48.e7] : List (A8 Bool)) x1866))]) (fun t => closure_Triples.k222 x1866 t = some st1) (fun t g => [(5, .pointer (some ⟨b8, 0, none⟩)), (8, .slice g.1 t.length g.2), (31, mv_113 has48), (32, .int .i64 x1866)]) (fun t g => [At.box b8 113 (cl_113 has48), At.row g.1 g.2 88 ((flArr3 (flInt .i64)).kd) t false]) (out1862, 0) (Aa1863, c1864) hit (fun _ h => Heap.to h) ?_ ?_
         · clear hit
           rintro ⟨out3188, x3192⟩ ⟨Aa3189, c3190⟩ st2 H2 hb2 hr2
           replace H2 : closure_Triples.s221 has48 x1866 out3188 x3192 = some st2 := H2
           unfold closure_Triples.s221 at H2
           refine JQ.sub [(5, .pointer (some ⟨b8, 0, none⟩)), (8, .slice Aa3189 out3188.length c3190), (9, .int .i64 x1866), (10, .pointer (some ⟨b2776, 0, none⟩)), (31, mv_113 has48), (32, .int .i64 x1866), (36, .int .i64 x3192)] ?_
           refine JQ.turn (Δ' := [At.box b8 113 (cl_113 has48), At.row Aa3189 c3190 88 ((flArr3 (flInt .i64)).kd) out3188 false, At.box b2776 112 (cl_112 (ix ([has48.e0, has48.e1, has48.e2, has48.e3, has48.e4, has48.e5, has48.e6, has48.e7] : List (A8 Bool)) x1866))]) (fun _ h => h.to) ?_
           refine J.sr ?_
           refine JL.pur (.bool (decide (x3192 < 8))) (some 37) ?_
           refine JL.en ?_
           refine J.seq ?_
           rcases ite_cases H2 with ⟨h3436, H2⟩ | ⟨h3436, H2⟩
           · refine J.cond_true h3436 ?_
             refine J.skip ?_
             refine JQ.ts [(5, .pointer (some ⟨b8, 0, none⟩)), (8, .slice Aa3189 out3188.length c3190), (9, .int .i64 x1866), (10, .pointer (some ⟨b2776, 0, none⟩)), (31, mv_113 has48), (32, .int .i64 x1866), (36, .int .i64 x3192)] ?_
             refine J.seq ?_
             refine J.block ?_
             refine J.sr ?_
             refine JL.mv (.int .i64 x3192) ?_
             refine JL.as (.int .i64 x3192) ?_
             refine JL.es [(5, .pointer (some ⟨b8, 0, none⟩)), (8, .slice Aa3189 out3188.length c3190), (9, .int .i64 x1866), (10, .pointer (some ⟨b2776, 0, none⟩)), (11, .int .i64 x3192), (31, mv_113 has48), (32, .int .i64 x1866), (36, .int .i64 x3192)] ?_
             refine J.sr ?_
             refine JL.mv (.int .i64 0) ?_
             refine JL.en ?_
             obtain ⟨o3, hit, H2⟩ := bind_some H2
             refine J.loop (σ := ((List (A3 Int)) × Int)) (τ := List (A3 Int)) (G := ((Option Addr) × Nat)) (G' := ((Option Addr) × Nat)) _ o3 (fun s g => [(5, .pointer (some ⟨b8, 0, none⟩)), (8, .slice g.1 s.1.length g.2), (9, .int .i64 x1866), (10, .pointer (some ⟨b2776, 0, none⟩)), (11, .int .i64 x3192), (31, mv_113 has48), (32, .int .i64 x1866), (36, .int .i64 x3192), (39, .int .i64 s.2)]) (fun s g => [At.box b8 113 (cl_113 has48), At.row g.1 g.2 88 ((flArr3 (flInt .i64)).kd) s.1 false, At.box b2776 112 (cl_112 (ix ([has48.e0, has48.e1, has48.e2, has48.e3, has48.e4, has48.e5, has48.e6, has48.e7] : List (A8 Bool)) x1866))]) (fun t => closure_Triples.k233 x3192 t = some st2) (fun t g => [(5, .pointer (some ⟨b8, 0, none⟩)), (8, .slice g.1 t.length g.2), (9, .int .i64 x1866), (10, .pointer (some ⟨b2776, 0, none⟩)), (31, mv_113 has48), (32, .int .i64 x1866), (36, .int .i64 x3192)]) (fun t g => [At.box b8 113 (cl_113 has48), At.row g.1 g.2 88 ((flArr3 (flInt .i64)).kd) t false, At.box b2776 112 (cl_112 (ix ([has48.e0, has48.e1, has48.e2, has48.e3, has48.e4, has48.e5, has48.e6, has48.e7] : List (A8 Bool)) x1866))]) (out3188, 0) (Aa3189, c3190) hit (fun _ h => Heap.to h) ?_ ?_
             · clear hit
               rintro ⟨out3552, x3556⟩ ⟨Aa3553, c3554⟩ st3 H3 hb3 hr3
               replace H3 : closure_Triples.s232 has48 x1866 x3192 out3552 x3556 = some st3 := H3
               unfold closure_Triples.s232 at H3
               refine JQ.sub [(5, .pointer (some ⟨b8, 0, none⟩)), (8, .slice Aa3553 out3552.length c3554), (9, .int .i64 x1866), (10, .pointer (some ⟨b2776, 0, none⟩)), (11, .int .i64 x3192), (31, mv_113 has48), (32, .int .i64 x1866), (36, .int .i64 x3192), (39, .int .i64 x3556)] ?_
               refine JQ.turn (Δ' := [At.box b8 113 (cl_113 has48), At.row Aa3553 c3554 88 ((flArr3 (flInt .i64)).kd) out3552 false, At.box b2776 112 (cl_112 (ix ([has48.e0, has48.e1, has48.e2, has48.e3, has48.e4, has48.e5, has48.e6, has48.e7] : List (A8 Bool)) x1866))]) (fun _ h => h.to) ?_
               refine J.sr ?_
               refine JL.pur (.bool (decide (x3556 < 8))) (some 40) ?_
               refine JL.en ?_
               refine J.seq ?_
               rcases ite_cases H3 with ⟨h3618, H3⟩ | ⟨h3618, H3⟩
               · refine J.cond_true h3618 ?_
                 refine J.skip ?_
                 refine JQ.ts [(5, .pointer (some ⟨b8, 0, none⟩)), (8, .slice Aa3553 out3552.length c3554), (9, .int .i64 x1866), (10, .pointer (some ⟨b2776, 0, none⟩)), (11, .int .i64 x3192), (31, mv_113 has48), (32, .int .i64 x1866), (36, .int .i64 x3192), (39, .int .i64 x3556)] ?_
                 refine J.join (T := List (A3 Int)) (G := ((Option Addr) × Nat)) (fun t => closure_Triples.k235 x3556 t = some st3) (fun t g => [(5, .pointer (some ⟨b8, 0, none⟩)), (8, .slice g.1 t.length g.2), (9, .int .i64 x1866), (10, .pointer (some ⟨b2776, 0, none⟩)), (11, .int .i64 x3192), (31, mv_113 has48), (32, .int .i64 x1866), (36, .int .i64 x3192), (39, .int .i64 x3556)]) (fun t g => [At.box b8 113 (cl_113 has48), At.row g.1 g.2 88 ((flArr3 (flInt .i64)).kd) t false, At.box b2776 112 (cl_112 (ix ([has48.e0, has48.e1, has48.e2, has48.e3, has48.e4, has48.e5, has48.e6, has48.e7] : List (A8 Bool)) x1866))]) ?_ ?_
                 · refine J.block ?_
                   refine J.sr ?_
                   refine JL.mv (.int .i64 x3556) ?_
                   refine JL.as (.int .i64 x3556) ?_
                   refine JL.es [(5, .pointer (some ⟨b8, 0, none⟩)), (8, .slice Aa3553 out3552.length c3554), (9, .int .i64 x1866), (10, .pointer (some ⟨b2776, 0, none⟩)), (11, .int .i64 x3192), (12, .int .i64 x3556), (31, mv_113 has48), (32, .int .i64 x1866), (36, .int .i64 x3192), (39, .int .i64 x3556)] ?_
                   refine J.join (T := Bool) (G := Unit) (fun t => closure_Triples.k236 x1866 x3192 out3552 x3556 t = some st3) (fun t g => [(5, .pointer (some ⟨b8, 0, none⟩)), (8, .slice Aa3553 out3552.length c3554), (9, .int .i64 x1866), (10, .pointer (some ⟨b2776, 0, none⟩)), (11, .int .i64 x3192), (12, .int .i64 x3556), (31, mv_113 has48), (32, .int .i64 x1866), (36, .int .i64 x3192), (39, .int .i64 x3556), (56, .bool t)]) (fun t g => [At.box b8 113 (cl_113 has48), At.row Aa3553 c3554 88 ((flArr3 (flInt .i64)).kd) out3552 false, At.box b2776 112 (cl_112 (ix ([has48.e0, has48.e1, has48.e2, has48.e3, has48.e4, has48.e5, has48.e6, has48.e7] : List (A8 Bool)) x1866))]) ?_ ?_
                   · refine J.region ?_
                     refine JL.mv (.int .i64 x3192) ?_
                     obtain ⟨⟨h3665, h3666⟩, H3⟩ := ite_must H3
                     refine JL.val (.pointer (some ⟨b2776, 0 + x3192.toNat * 1, none⟩)) (some 43) (gives_ixArrD (b := b2776) (o := 0) (i := x3192) 8 1 .i64 h3665 h3666 Try.underlying112 tySize_4) ?_
                     refine JL.val (.bool (ix ([((ix ([has48.e0, has48.e1, has48.e2, has48.e3, has48.e4, has48.e5, has48.e6, has48.e7] : List (A8 Bool)) x1866).e0), ((ix ([has48.e0, has48.e1, has48.e2, has48.e3, has48.e4, has48.e5, has48.e6, has48.e7] : List (A8 Bool)) x1866).e1), ((ix ([has48.e0, has48.e1, has48.e2, has48.e3, has48.e4, has48.e5, has48.e6, has48.e7] : List (A8 Bool)) x1866).e2), ((ix ([has48.e0, has48.e1, has48.e2, has48.e3, has48.e4, has48.e5, has48.e6, has48.e7] : List (A8 Bool)) x1866).e3), ((ix ([has48.e0, has48.e1, has48.e2, has48.e3, has48.e4, has48.e5, has48.e6, has48.e7] : List (A8 Bool)) x1866).e4), ((ix ([has48.e0, has48.e1, has48.e2, has48.e3, has48.e4, has48.e5, has48.e6, has48.e7] : List (A8 Bool)) x1866).e5), ((ix ([has48.e0, has48.e1, has48.e2, has48.e3, has48.e4, has48.e5, has48.e6, has48.e7] : List (A8 Bool)) x1866).e6), ((ix ([has48.e0, has48.e1, has48.e2, has48.e3, has48.e4, has48.e5, has48.e6, has48.e7] : List (A8 Bool)) x1866).e7)] : List Bool) x3192)) (some 44) (gives_loadEl (f := flBool) 2 0 x3192 (elems_arr b2776 112 (cl_112 (ix ([has48.e0, has48.e1, has48.e2, has48.e3, has48.e4, has48.e5, has48.e6, has48.e7] : List (A8 Bool)) x1866)) flBool ([((ix ([has48.e0, has48.e1, has48.e2, has48.e3, has48.e4, has48.e5, has48.e6, has48.e7] : List (A8 Bool)) x1866).e0), ((ix ([has48.e0, has48.e1, has48.e2, has48.e3, has48.e4, has48.e5, has48.e6, has48.e7] : List (A8 Bool)) x1866).e1), ((ix ([has48.e0, has48.e1, has48.e2, has48.e3, has48.e4, has48.e5, has48.e6, has48.e7] : List (A8 Bool)) x1866).e2), ((ix ([has48.e0, has48.e1, has48.e2, has48.e3, has48.e4, has48.e5, has48.e6, has48.e7] : List (A8 Bool)) x1866).e3), ((ix ([has48.e0, has48.e1, has48.e2, has48.e3, has48.e4, has48.e5, has48.e6, has48.e7] : List (A8 Bool)) x1866).e4), ((ix ([has48.e0, has48.e1, has48.e2, has48.e3, has48.e4, has48.e5, has48.e6, has48.e7] : List (A8 Bool)) x1866).e5), ((ix ([has48.e0, has48.e1, has48.e2, has48.e3, has48.e4, has48.e5, has48.e6, has48.e7] : List (A8 Bool)) x1866).e6), ((ix ([has48.e0, has48.e1, has48.e2, has48.e3, has48.e4, has48.e5, has48.e6, has48.e7] : List (A8 Bool)) x1866).e7)] : List Bool) 0) h3665 h3666 tySize_4 (.inr ⟨tyAgg_4, rfl, rfl⟩)) ?_
                     refine JL.mv (.bool (ix ([((ix ([has48.e0, has48.e1, has48.e2, has48.e3, has48.e4, has48.e5, has48.e6, has48.e7] : List (A8 Bool)) x1866).e0), ((ix ([has48.e0, has48.e1, has48.e2, has48.e3, has48.e4, has48.e5, has48.e6, has48.e7] : List (A8 Bool)) x1866).e1), ((ix ([has48.e0, has48.e1, has48.e2, has48.e3, has48.e4, has48.e5, has48.e6, has48.e7] : List (A8 Bool)) x1866).e2), ((ix ([has48.e0, has48.e1, has48.e2, has48.e3, has48.e4, has48.e5, has48.e6, has48.e7] : List (A8 Bool)) x1866).e3), ((ix ([has48.e0, has48.e1, has48.e2, has48.e3, has48.e4, has48.e5, has48.e6, has48.e7] : List (A8 Bool)) x1866).e4), ((ix ([has48.e0, has48.e1, has48.e2, has48.e3, has48.e4, has48.e5, has48.e6, has48.e7] : List (A8 Bool)) x1866).e5), ((ix ([has48.e0, has48.e1, has48.e2, has48.e3, has48.e4, has48.e5, has48.e6, has48.e7] : List (A8 Bool)) x1866).e6), ((ix ([has48.e0, has48.e1, has48.e2, has48.e3, has48.e4, has48.e5, has48.e6, has48.e7] : List (A8 Bool)) x1866).e7)] : List Bool) x3192)) ?_
                     rcases ite_cases H3 with ⟨h3667, H3⟩ | ⟨h3667, H3⟩
                     · refine JL.on 3 45 h3667 ?_
                       refine JL.mv (.int .i64 x3556) ?_
                       refine JL.on 3 45 h3667 ?_
                       obtain ⟨⟨h3668, h3669⟩, H3⟩ := ite_must H3
                       refine JL.val (.pointer (some ⟨b2776, 0 + x3556.toNat * 1, none⟩)) (some 47) (gives_ixArrD (b := b2776) (o := 0) (i := x3556) 8 1 .i64 h3668 h3669 Try.underlying112 tySize_4) ?_
                       refine JL.on 3 45 h3667 ?_
                       refine JL.val (.bool (ix ([((ix ([has48.e0, has48.e1, has48.e2, has48.e3, has48.e4, has48.e5, has48.e6, has48.e7] : List (A8 Bool)) x1866).e0), ((ix ([has48.e0, has48.e1, has48.e2, has48.e3, has48.e4, has48.e5, has48.e6, has48.e7] : List (A8 Bool)) x1866).e1), ((ix ([has48.e0, has48.e1, has48.e2, has48.e3, has48.e4, has48.e5, has48.e6, has48.e7] : List (A8 Bool)) x1866).e2), ((ix ([has48.e0, has48.e1, has48.e2, has48.e3, has48.e4, has48.e5, has48.e6, has48.e7] : List (A8 Bool)) x1866).e3), ((ix ([has48.e0, has48.e1, has48.e2, has48.e3, has48.e4, has48.e5, has48.e6, has48.e7] : List (A8 Bool)) x1866).e4), ((ix ([has48.e0, has48.e1, has48.e2, has48.e3, has48.e4, has48.e5, has48.e6, has48.e7] : List (A8 Bool)) x1866).e5), ((ix ([has48.e0, has48.e1, has48.e2, has48.e3, has48.e4, has48.e5, has48.e6, has48.e7] : List (A8 Bool)) x1866).e6), ((ix ([has48.e0, has48.e1, has48.e2, has48.e3, has48.e4, has48.e5, has48.e6, has48.e7] : List (A8 Bool)) x1866).e7)] : List Bool) x3556)) (some 48) (gives_loadEl (f := flBool) 2 0 x3556 (elems_arr b2776 112 (cl_112 (ix ([has48.e0, has48.e1, has48.e2, has48.e3, has48.e4, has48.e5, has48.e6, has48.e7] : List (A8 Bool)) x1866)) flBool ([((ix ([has48.e0, has48.e1, has48.e2, has48.e3, has48.e4, has48.e5, has48.e6, has48.e7] : List (A8 Bool)) x1866).e0), ((ix ([has48.e0, has48.e1, has48.e2, has48.e3, has48.e4, has48.e5, has48.e6, has48.e7] : List (A8 Bool)) x1866).e1), ((ix ([has48.e0, has48.e1, has48.e2, has48.e3, has48.e4, has48.e5, has48.e6, has48.e7] : List (A8 Bool)) x1866).e2), ((ix ([has48.e0, has48.e1, has48.e2, has48.e3, has48.e4, has48.e5, has48.e6, has48.e7] : List (A8 Bool)) x1866).e3), ((ix ([has48.e0, has48.e1, has48.e2, has48.e3, has48.e4, has48.e5, has48.e6, has48.e7] : List (A8 Bool)) x1866).e4), ((ix ([has48.e0, has48.e1, has48.e2, has48.e3, has48.e4, has48.e5, has48.e6, has48.e7] : List (A8 Bool)) x1866).e5), ((ix ([has48.e0, has48.e1, has48.e2, has48.e3, has48.e4, has48.e5, has48.e6, has48.e7] : List (A8 Bool)) x1866).e6), ((ix ([has48.e0, has48.e1, has48.e2, has48.e3, has48.e4, has48.e5, has48.e6, has48.e7] : List (A8 Bool)) x1866).e7)] : List Bool) 0) h3668 h3669 tySize_4 (.inr ⟨tyAgg_4, rfl, rfl⟩)) ?_
                       refine JL.val (.bool (ix ([((ix ([has48.e0, has48.e1, has48.e2, has48.e3, has48.e4, has48.e5, has48.e6, has48.e7] : List (A8 Bool)) x1866).e0), ((ix ([has48.e0, has48.e1, has48.e2, has48.e3, has48.e4, has48.e5, has48.e6, has48.e7] : List (A8 Bool)) x1866).e1), ((ix ([has48.e0, has48.e1, has48.e2, has48.e3, has48.e4, has48.e5, has48.e6, has48.e7] : List (A8 Bool)) x1866).e2), ((ix ([has48.e0, has48.e1, has48.e2, has48.e3, has48.e4, has48.e5, has48.e6, has48.e7] : List (A8 Bool)) x1866).e3), ((ix ([has48.e0, has48.e1, has48.e2, has48.e3, has48.e4, has48.e5, has48.e6, has48.e7] : List (A8 Bool)) x1866).e4), ((ix ([has48.e0, has48.e1, has48.e2, has48.e3, has48.e4, has48.e5, has48.e6, has48.e7] : List (A8 Bool)) x1866).e5), ((ix ([has48.e0, has48.e1, has48.e2, has48.e3, has48.e4, has48.e5, has48.e6, has48.e7] : List (A8 Bool)) x1866).e6), ((ix ([has48.e0, has48.e1, has48.e2, has48.e3, has48.e4, has48.e5, has48.e6, has48.e7] : List (A8 Bool)) x1866).e7)] : List Bool) x3556)) (some 49) (gives_pickT h3667) ?_
                       refine JL.mv (.bool (ix ([((ix ([has48.e0, has48.e1, has48.e2, has48.e3, has48.e4, has48.e5, has48.e6, has48.e7] : List (A8 Bool)) x1866).e0), ((ix ([has48.e0, has48.e1, has48.e2, has48.e3, has48.e4, has48.e5, has48.e6, has48.e7] : List (A8 Bool)) x1866).e1), ((ix ([has48.e0, has48.e1, has48.e2, has48.e3, has48.e4, has48.e5, has48.e6, has48.e7] : List (A8 Bool)) x1866).e2), ((ix ([has48.e0, has48.e1, has48.e2, has48.e3, has48.e4, has48.e5, has48.e6, has48.e7] : List (A8 Bool)) x1866).e3), ((ix ([has48.e0, has48.e1, has48.e2, has48.e3, has48.e4, has48.e5, has48.e6, has48.e7] : List (A8 Bool)) x1866).e4), ((ix ([has48.e0, has48.e1, has48.e2, has48.e3, has48.e4, has48.e5, has48.e6, has48.e7] : List (A8 Bool)) x1866).e5), ((ix ([has48.e0, has48.e1, has48.e2, has48.e3, has48.e4, has48.e5, has48.e6, has48.e7] : List (A8 Bool)) x1866).e6), ((ix ([has48.e0, has48.e1, has48.e2, has48.e3, has48.e4, has48.e5, has48.e6, has48.e7] : List (A8 Bool)) x1866).e7)] : List Bool) x3556)) ?_
                       rcases ite_cases H3 with ⟨h3670, H3⟩ | ⟨h3670, H3⟩
                       · refine JL.on 8 50 h3670 ?_
                         refine JL.mv (.int .i64 x3192) ?_
                         refine JL.on 8 50 h3670 ?_
                         refine JL.mv (.int .i64 x3556) ?_
                         refine JL.on 8 50 h3670 ?_
                         obtain ⟨⟨h3671, h3672⟩, H3⟩ := ite_must H3
                         refine JL.val (.pointer (some ⟨b8, 0 + x3192.toNat * 8, none⟩)) (some 53) (gives_ixArrD (b := b8) (o := 0) (i := x3192) 8 8 .i64 h3671 h3672 Try.underlying113 tySize_112) ?_
                         refine JL.on 8 50 h3670 ?_
                         obtain ⟨⟨h3673, h3674⟩, H3⟩ := ite_must H3
                         refine JL.val (.pointer (some ⟨b8, 0 + (x3192 * 8 + x3556).toNat * 1, none⟩)) (some 54) (gives_ixArrE (b := b8) (o := 0) (i := x3192) (j := x3556) 8 1 .i64 h3671 h3673 h3674 Try.underlying112 tySize_4) ?_
                         refine JL.on 8 50 h3670 ?_
                         refine JL.val (.bool (ix (A8.toLL has48) (x3192 * 8 + x3556))) (some 55) (gives_loadEl (f := flBool) 0 0 (x3192 * 8 + x3556) (elems_arr b8 113 (cl_113 has48) flBool (A8.toLL has48) 0) (two_lo 8 h3671 h3673) (two_hi 8 8 h3672 h3674) tySize_4 (.inr ⟨tyAgg_4, rfl, rfl⟩)) ?_
                         refine JL.val (.bool (ix (A8.toLL has48) (x3192 * 8 + x3556))) (some 56) (gives_pickT h3670) ?_
                         refine JL.en ?_
                         exact JQ.meet (ix (A8.toLL has48) (x3192 * 8 + x3556)) () H3 (fun _ h => Heap.to h)
                       · refine JL.off 8 50 true (some 51) h3670 ?_
                         refine JL.off 8 50 true (some 52) h3670 ?_
                         refine JL.off 8 50 true (some 53) h3670 ?_
                         refine JL.off 8 50 true (some 54) h3670 ?_
                         refine JL.off 8 50 true (some 55) h3670 ?_
                         refine JL.val (.bool false) (some 56) (gives_pickF h3670) ?_
                         refine JL.en ?_
                         exact JQ.meet false () H3 (fun _ h => Heap.to h)
                     · refine JL.off 3 45 true (some 46) h3667 ?_
                       refine JL.off 3 45 true (some 47) h3667 ?_
                       refine JL.off 3 45 true (some 48) h3667 ?_
                       refine JL.val (.bool false) (some 49) (gives_pickF h3667) ?_
                       refine JL.mv (.bool false) ?_
                       refine JL.off 8 50 true (some 51) rfl ?_
                       refine JL.off 8 50 true (some 52) rfl ?_
                       refine JL.off 8 50 true (some 53) rfl ?_
                       refine JL.off 8 50 true (some 54) rfl ?_
                       refine JL.off 8 50 true (some 55) rfl ?_
                       refine JL.val (.bool false) (some 56) (gives_pickF rfl) ?_
                       refine JL.en ?_
                       exact JQ.meet false () H3 (fun _ h => Heap.to h)
                   · clear H3
                     rintro x3659 ⟨⟩ H3
                     replace H3 : closure_Triples.k236 x1866 x3192 out3552 x3556 x3659 = some st3 := H3
                     unfold closure_Triples.k236 at H3
                     refine JQ.sub [(5, .pointer (some ⟨b8, 0, none⟩)), (8, .slice Aa3553 out3552.length c3554), (9, .int .i64 x1866), (10, .pointer (some ⟨b2776, 0, none⟩)), (11, .int .i64 x3192), (12, .int .i64 x3556), (31, mv_113 has48), (32, .int .i64 x1866), (36, .int .i64 x3192), (39, .int .i64 x3556), (56, .bool x3659)] ?_
                     refine JQ.turn (Δ' := [At.box b8 113 (cl_113 has48), At.row Aa3553 c3554 88 ((flArr3 (flInt .i64)).kd) out3552 false, At.box b2776 112 (cl_112 (ix ([has48.e0, has48.e1, has48.e2, has48.e3, has48.e4, has48.e5, has48.e6, has48.e7] : List (A8 Bool)) x1866))]) (fun _ h => h.to) ?_
                     rcases ite_cases H3 with ⟨h3660, H3⟩ | ⟨h3660, H3⟩
                     · refine J.cond_true h3660 ?_
                       refine J.region ?_
                       refine JL.mv (.slice Aa3553 out3552.length c3554) ?_
                       refine JL.mv (.int .i64 x1866) ?_
                       refine JL.mv (.int .i64 x3192) ?_
                       refine JL.mv (.int .i64 x3556) ?_
                       refine JL.pur (.agg #[.int .i64 x1866, .int .i64 x3192, .int .i64 x3556]) (some 61) ?_
                       refine JL.buildSl 88 ((flArr3 (flInt .i64)).kd) (([(⟨x1866, x3192, x3556⟩ : (A3 Int))] : List (A3 Int)) : List (A3 Int)) [.int .i64 x1866, .int .i64 x3192, .int .i64 x3556] false (closes_fl rfl) fun b3661 => ?_
                       obtain ⟨h3664, H3⟩ := ite_must H3
                       refine JL.append false false 1 3 Aa3553 c3554 1 out3552 (elems_row (some ⟨b3661, 0, none⟩) 1 88 ((flArr3 (flInt .i64)).kd) ([(⟨x1866, x3192, x3556⟩ : (A3 Int))] : List (A3 Int)) false) Try.underlying85 info_88 (by omega) (by omega) (fun h => h) (.inr ⟨_, rfl⟩) fun Aa3662 c3663 => ?_
                       refine JL.as (.slice Aa3662 (out3552 ++ ([(⟨x1866, x3192, x3556⟩ : (A3 Int))] : List (A3 Int))).length c3663) ?_
                       refine JL.end_ ?_
                       refine JQ.blk_normal ?_
                       refine JQ.then_normal ?_
                       exact JQ.meet (out3552 ++ ([(⟨x1866, x3192, x3556⟩ : (A3 Int))] : List (A3 Int))) (Aa3662, c3663) H3 (fun _ h => Heap.to (Heap.pick [0, 1, 2] (by decide) h))
                     · refine J.cond_false h3660 ?_
                       refine J.skip ?_
                       refine JQ.blk_normal ?_
                       refine JQ.then_normal ?_
                       exact JQ.meet out3552 (Aa3553, c3554) H3 (fun _ h => Heap.to h)
                 · clear H3
                   rintro out3645 ⟨Aa3646, c3647⟩ H3
                   replace H3 : closure_Triples.k235 x3556 out3645 = some st3 := H3
                   unfold closure_Triples.k235 at H3
                   refine JQ.sub [(5, .pointer (some ⟨b8, 0, none⟩)), (8, .slice Aa3646 out3645.length c3647), (9, .int .i64 x1866), (10, .pointer (some ⟨b2776, 0, none⟩)), (11, .int .i64 x3192), (31, mv_113 has48), (32, .int .i64 x1866), (36, .int .i64 x3192), (39, .int .i64 x3556)] ?_
                   refine JQ.turn (Δ' := [At.box b8 113 (cl_113 has48), At.row Aa3646 c3647 88 ((flArr3 (flInt .i64)).kd) out3645 false, At.box b2776 112 (cl_112 (ix ([has48.e0, has48.e1, has48.e2, has48.e3, has48.e4, has48.e5, has48.e6, has48.e7] : List (A8 Bool)) x1866))]) (fun _ h => h.to) ?_
                   refine J.region ?_
                   refine JL.pur (.int .i64 (w64 (x3556 + 1))) (some 64) ?_
                   refine JL.mv (.int .i64 (w64 (x3556 + 1))) ?_
                   refine JL.en ?_
                   exact JQ.again (out3645, w64 (x3556 + 1)) (Aa3646, c3647) (Option.some.inj H3).symm (fun _ h => Heap.to h)
               · refine J.cond_false h3618 ?_
                 refine J.exit ?_
                 refine JQ.then_exit ?_
                 refine JQ.then_exit ?_
                 refine JQ.blk_exit ?_
                 rw [hb3 _ (Option.some.inj H3).symm, fin_brk] at H2
                 exact JQ.met out3552 (Aa3553, c3554) H2 (fun _ h => Heap.to h)
             · clear hit H2
               rintro out3614 ⟨Aa3615, c3616⟩ H2
               replace H2 : closure_Triples.k233 x3192 out3614 = some st2 := H2
               unfold closure_Triples.k233 at H2
               refine JQ.sub [(5, .pointer (some ⟨b8, 0, none⟩)), (8, .slice Aa3615 out3614.length c3616), (9, .int .i64 x1866), (10, .pointer (some ⟨b2776, 0, none⟩)), (31, mv_113 has48), (32, .int .i64 x1866), (36, .int .i64 x3192)] ?_
               refine JQ.turn (Δ' := [At.box b8 113 (cl_113 has48), At.row Aa3615 c3616 88 ((flArr3 (flInt .i64)).kd) out3614 false, At.box b2776 112 (cl_112 (ix ([has48.e0, has48.e1, has48.e2, has48.e3, has48.e4, has48.e5, has48.e6, has48.e7] : List (A8 Bool)) x1866))]) (fun _ h => h.to) ?_
               refine JQ.blk_normal ?_
               refine JQ.then_normal ?_
               refine J.region ?_
               refine JL.pur (.int .i64 (w64 (x3192 + 1))) (some 65) ?_
               refine JL.mv (.int .i64 (w64 (x3192 + 1))) ?_
               refine JL.en ?_
               exact JQ.again (out3614, w64 (x3192 + 1)) (Aa3615, c3616) (Option.some.inj H2).symm (fun _ h => Heap.to h)
           · refine J.cond_false h3436 ?_
             refine J.exit ?_
             refine JQ.then_exit ?_
             refine JQ.then_exit ?_
             refine JQ.blk_exit ?_
             rw [hb2 _ (Option.some.inj H2).symm, fin_brk] at H1
             exact JQ.met out3188 (Aa3189, c3190) H1 (fun _ h => Heap.to (Heap.pick [0, 1] (by decide) h))
         · clear hit H1
           rintro out3432 ⟨Aa3433, c3434⟩ H1
           replace H1 : closure_Triples.k222 x1866 out3432 = some st1 := H1
           unfold closure_Triples.k222 at H1
           refine JQ.sub [(5, .pointer (some ⟨b8, 0, none⟩)), (8, .slice Aa3433 out3432.length c3434), (31, mv_113 has48), (32, .int .i64 x1866)] ?_
           refine JQ.turn (Δ' := [At.box b8 113 (cl_113 has48), At.row Aa3433 c3434 88 ((flArr3 (flInt .i64)).kd) out3432 false]) (fun _ h => h.to) ?_
           refine JQ.blk_normal ?_
           refine JQ.then_normal ?_
           refine J.region ?_
           refine JL.pur (.int .i64 (w64 (x1866 + 1))) (some 66) ?_
           refine JL.mv (.int .i64 (w64 (x1866 + 1))) ?_
           refine JL.en ?_
           exact JQ.again (out3432, w64 (x1866 + 1)) (Aa3433, c3434) (Option.some.inj H1).symm (fun _ h => Heap.to h)
       · refine J.cond_false h2773 ?_
         refine J.exit ?_
         refine JQ.then_exit ?_
         refine JQ.then_exit ?_
         refine JQ.blk_exit ?_
         rw [hb1 _ (Option.some.inj H1).symm, fin_brk] at H0
         exact JQ.met out1862 (Aa1863, c1864) H0 (fun _ h => Heap.to (Heap.pick [1] (by decide) h))
     · clear hit H0
       rintro out2769 ⟨Aa2770, c2771⟩ H0
       replace H0 : closure_Triples.k178 out2769 = some r := H0
       unfold closure_Triples.k178 at H0
       refine JQ.sub [(8, .slice Aa2770 out2769.length c2771)] ?_
       refine JQ.turn (Δ' := [At.row Aa2770 c2771 88 ((flArr3 (flInt .i64)).kd) out2769 false]) (fun _ h => h.to) ?_
       refine JQ.then_normal ?_
       refine J.sr ?_
       refine JL.mv (.slice Aa2770 out2769.length c2771) ?_
       refine JL.as (.slice Aa2770 out2769.length c2771) ?_
       refine JL.as (.int .i64 0) ?_
       refine JL.es [(2, .slice Aa2770 out2769.length c2771), (3, .int .i64 0)] ?_
       refine J.ret ?_
       obtain rfl := Option.some.inj H0
       exact JQ.done' (rs := [.tmp 2, .tmp 3]) (vs := [.slice Aa2770 out2769.length c2771, .int .i64 0]) [At.row Aa2770 c2771 88 ((flArr3 (flInt .i64)).kd) out2769 false] (.inr rfl) ⟨by kernel_rfl, by kernel_rfl, trivial⟩ (fun _ h => Heap.to h) ⟨Aa2770, c2771, rfl, rfl⟩

theorem closure_station.ok (i1 : Int) (r : Bool) (H0 : closure_station.f i1 = some r) :
    Does Try.prog 89 [.int .i64 i1].toArray [] [] false (fun v Δ => v = .bool r ∧ Δ = []) := by
 refine Does.body (vs := [.int .i64 i1]) Try.func89 rfl trivial trivial fun w S => ?_
 unfold closure_station.f at H0
 refine J.sr ?_
 refine JL.as (.bool false) ?_
 refine JL.es [(0, .int .i64 i1)] ?_
 refine J.sr ?_
 refine JL.mv (.int .i64 i1) ?_
 refine JL.pur (.bool (decide (0 ≤ i1))) (some 4) ?_
 refine JL.mv (.bool (decide (0 ≤ i1))) ?_
 rcases ite_cases H0 with ⟨h2, H0⟩ | ⟨h2, H0⟩
 · refine JL.on 2 5 h2 ?_
   refine JL.mv (.int .i64 i1) ?_
   refine JL.on 2 5 h2 ?_
   refine JL.pur (.bool (decide (i1 < 8))) (some 7) ?_
   refine JL.val (.bool (decide (i1 < 8))) (some 8) (gives_pickT h2) ?_
   refine JL.as (.bool (decide (i1 < 8))) ?_
   refine JL.es [(2, .bool (decide (i1 < 8)))] ?_
   refine J.ret ?_
   obtain rfl := Option.some.inj H0
   exact JQ.done' (rs := [.tmp 2]) (vs := [.bool (decide (i1 < 8))]) [] (.inr rfl) ⟨by kernel_rfl, trivial⟩ (fun _ h => Heap.to h) ⟨rfl, rfl⟩
 · refine JL.off 2 5 true (some 6) h2 ?_
   refine JL.off 2 5 true (some 7) h2 ?_
   refine JL.val (.bool false) (some 8) (gives_pickF h2) ?_
   refine JL.as (.bool false) ?_
   refine JL.es [(2, .bool false)] ?_
   refine J.ret ?_
   obtain rfl := Option.some.inj H0
   exact JQ.done' (rs := [.tmp 2]) (vs := [.bool false]) [] (.inr rfl) ⟨by kernel_rfl, trivial⟩ (fun _ h => Heap.to h) ⟨rfl, rfl⟩

theorem closure_apart.ok (l1 : (List Int)) (Aa2 : Option Addr) (c3 : Nat) (r : Bool) (H0 : closure_apart.f l1 = some r) :
    Does Try.prog 78 [.slice Aa2 l1.length c3].toArray [At.rd Aa2 c3 ((flInt .i64).kd) l1 true] [] false (fun v Δ => v = .bool r ∧ Δ = []) := by
 refine Does.body (vs := [.slice Aa2 l1.length c3]) Try.func78 rfl ⟨.inl rfl, trivial⟩ trivial fun w S => ?_
 unfold closure_apart.f at H0
 refine J.sr ?_
 refine JL.as (.bool false) ?_
 refine JL.es [(0, .slice Aa2 l1.length c3)] ?_
 refine J.sr ?_
 refine JL.alloc (cl_112 zv_112) fun b5 => ?_
 refine JL.en ?_
 refine J.seq ?_
 refine J.sr ?_
 refine JL.mv (.slice Aa2 l1.length c3) ?_
 refine JL.pur (.int .i64 (l1.length : Int)) (some 7) ?_
 refine JL.mv (.int .i64 0) ?_
 refine JL.es [(3, .pointer (some ⟨b5, 0, none⟩)), (6, .slice Aa2 l1.length c3), (7, .int .i64 (l1.length : Int)), (8, .int .i64 0)] ?_
 obtain ⟨o1, hit, H0⟩ := bind_some H0
 refine J.loop (σ := ((A8 Bool) × Int)) (τ := Unit) (G := ((Option Addr) × Nat)) (G' := Unit) _ o1 (fun s g => [(3, .pointer (some ⟨b5, 0, none⟩)), (6, .slice g.1 l1.length g.2), (7, .int .i64 (l1.length : Int)), (8, .int .i64 s.2)]) (fun s g => [At.box b5 112 (cl_112 s.1), At.rd g.1 g.2 ((flInt .i64).kd) l1 true]) (fun t => closure_apart.k5 = some r) (fun t g => []) (fun t g => []) ((⟨false, false, false, false, false, false, false, false⟩ : (A8 Bool)), 0) (Aa2, c3) hit (fun _ h => Heap.to (Heap.pick [1, 0] (by decide) h)) ?_ ?_
 · clear hit
   rintro ⟨seen56, x60⟩ ⟨Aa57, c58⟩ st1 H1 hb1 hr1
   replace H1 : closure_apart.s4 l1 seen56 x60 = some st1 := H1
   unfold closure_apart.s4 at H1
   refine JQ.sub [(3, .pointer (some ⟨b5, 0, none⟩)), (6, .slice Aa57 l1.length c58), (7, .int .i64 (l1.length : Int)), (8, .int .i64 x60)] ?_
   refine JQ.turn (Δ' := [At.box b5 112 (cl_112 seen56), At.rd Aa57 c58 ((flInt .i64).kd) l1 true]) (fun _ h => h.to) ?_
   refine J.sr ?_
   refine JL.pur (.bool (decide (x60 < (l1.length : Int)))) (some 9) ?_
   refine JL.en ?_
   refine J.seq ?_
   rcases ite_cases H1 with ⟨h81, H1⟩ | ⟨h81, H1⟩
   · refine J.cond_true h81 ?_
     refine J.skip ?_
     refine JQ.ts [(3, .pointer (some ⟨b5, 0, none⟩)), (6, .slice Aa57 l1.length c58), (7, .int .i64 (l1.length : Int)), (8, .int .i64 x60)] ?_
     refine J.seq ?_
     refine J.block ?_
     refine J.sr ?_
     obtain ⟨⟨h82, h83⟩, H1⟩ := ite_must H1
     refine JL.ixAddr 1 1 c58 .i64 (elems_rd Aa57 c58 ((flInt .i64).kd) l1 true) Try.underlying90 tySize_3 h82 h83 fun g84 o85 hA => ?_
     subst hA
     refine JL.val (.int .i64 (ix l1 x60)) (some 11) (gives_loadEl (f := (flInt .i64)) 1 0 x60 (elems_rd (some ⟨g84, o85, none⟩) c58 ((flInt .i64).kd) l1 true) h82 h83 tySize_3 (.inr ⟨tyAgg_3, rfl, rfl⟩)) ?_
     refine JL.as (.int .i64 (ix l1 x60)) ?_
     refine JL.es [(3, .pointer (some ⟨b5, 0, none⟩)), (5, .int .i64 (ix l1 x60)), (6, .slice (some ⟨g84, o85, none⟩) l1.length c58), (7, .int .i64 (l1.length : Int)), (8, .int .i64 x60)] ?_
     refine J.seq ?_
     refine J.join (T := Bool) (G := Unit) (fun t => closure_apart.k6 l1 seen56 x60 t = some st1) (fun t g => [(3, .pointer (some ⟨b5, 0, none⟩)), (5, .int .i64 (ix l1 x60)), (6, .slice (some ⟨g84, o85, none⟩) l1.length c58), (7, .int .i64 (l1.length : Int)), (8, .int .i64 x60), (19, .bool t)]) (fun t g => [At.box b5 112 (cl_112 seen56), At.rd (some ⟨g84, o85, none⟩) c58 ((flInt .i64).kd) l1 true]) ?_ ?_
     · refine J.region ?_
       refine JL.mv (.int .i64 (ix l1 x60)) ?_
       obtain ⟨t96, hc97, H1⟩ := bind_some H1
       refine JL.call [] [] [] (closure_station.ok (ix l1 x60) _ hc97) trivial ?_
       rintro _ _ ⟨rfl, rfl⟩
       refine JL.pur (.bool (!t96)) (some 14) ?_
       refine JL.mv (.bool (!t96)) ?_
       rcases ite_cases H1 with ⟨h98, H1⟩ | ⟨h98, H1⟩
       · refine JL.off 3 15 false (some 16) h98 ?_
         refine JL.off 3 15 false (some 17) h98 ?_
         refine JL.off 3 15 false (some 18) h98 ?_
         refine JL.val (.bool true) (some 19) (gives_pickT h98) ?_
         refine JL.en ?_
         exact JQ.meet true () H1 (fun _ h => Heap.to h)
       · refine JL.on 3 15 h98 ?_
         refine JL.mv (.int .i64 (ix l1 x60)) ?_
         refine JL.on 3 15 h98 ?_
         obtain ⟨⟨h99, h100⟩, H1⟩ := ite_must H1
         refine JL.val (.pointer (some ⟨b5, 0 + (ix l1 x60).toNat * 1, none⟩)) (some 17) (gives_ixArrD (b := b5) (o := 0) (i := (ix l1 x60)) 8 1 .i64 h99 h100 Try.underlying112 tySize_4) ?_
         refine JL.on 3 15 h98 ?_
         refine JL.val (.bool (ix ([seen56.e0, seen56.e1, seen56.e2, seen56.e3, seen56.e4, seen56.e5, seen56.e6, seen56.e7] : List Bool) (ix l1 x60))) (some 18) (gives_loadEl (f := flBool) 0 0 (ix l1 x60) (elems_arr b5 112 (cl_112 seen56) flBool ([seen56.e0, seen56.e1, seen56.e2, seen56.e3, seen56.e4, seen56.e5, seen56.e6, seen56.e7] : List Bool) 0) h99 h100 tySize_4 (.inr ⟨tyAgg_4, rfl, rfl⟩)) ?_
         refine JL.val (.bool (ix ([seen56.e0, seen56.e1, seen56.e2, seen56.e3, seen56.e4, seen56.e5, seen56.e6, seen56.e7] : List Bool) (ix l1 x60))) (some 19) (gives_pickF h98) ?_
         refine JL.en ?_
         exact JQ.meet (ix ([seen56.e0, seen56.e1, seen56.e2, seen56.e3, seen56.e4, seen56.e5, seen56.e6, seen56.e7] : List Bool) (ix l1 x60)) () H1 (fun _ h => Heap.to h)
     · clear H1
       rintro x91 ⟨⟩ H1
       replace H1 : closure_apart.k6 l1 seen56 x60 x91 = some st1 := H1
       unfold closure_apart.k6 at H1
       refine JQ.sub [(3, .pointer (some ⟨b5, 0, none⟩)), (5, .int .i64 (ix l1 x60)), (6, .slice (some ⟨g84, o85, none⟩) l1.length c58), (7, .int .i64 (l1.length : Int)), (8, .int .i64 x60), (19, .bool x91)] ?_
       refine JQ.turn (Δ' := [At.box b5 112 (cl_112 seen56), At.rd (some ⟨g84, o85, none⟩) c58 ((flInt .i64).kd) l1 true]) (fun _ h => h.to) ?_
       rcases ite_cases H1 with ⟨h92, H1⟩ | ⟨h92, H1⟩
       · refine J.cond_true h92 ?_
         refine J.sr ?_
         refine JL.as (.bool false) ?_
         refine JL.es [(2, .bool false)] ?_
         refine JQ.mask [] [false, false] ?_
         refine J.ret ?_
         refine JQ.then_ret ?_
         refine JQ.blk_ret ?_
         refine JQ.then_ret ?_
         refine JQ.then_ret ?_
         refine JQ.blk_ret ?_
         refine JQ.met_ret ?_
         refine JQ.then_ret ?_
         rw [hr1 _ (Option.some.inj H1).symm, fin_ret] at H0
         obtain rfl := Option.some.inj H0
         exact JQ.done' (rs := [.tmp 2]) (vs := [.bool false]) [] (.inr rfl) ⟨by kernel_rfl, trivial⟩ (fun _ h => Heap.to h) ⟨rfl, rfl⟩
       · refine J.cond_false h92 ?_
         refine J.skip ?_
         refine JQ.ts [(3, .pointer (some ⟨b5, 0, none⟩)), (5, .int .i64 (ix l1 x60)), (6, .slice (some ⟨g84, o85, none⟩) l1.length c58), (7, .int .i64 (l1.length : Int)), (8, .int .i64 x60)] ?_
         refine J.region ?_
         refine JL.mv (.int .i64 (ix l1 x60)) ?_
         obtain ⟨⟨h93, h94⟩, H1⟩ := ite_must H1
         refine JL.val (.pointer (some ⟨b5, 0 + (ix l1 x60).toNat * 1, none⟩)) (some 21) (gives_ixArrD (b := b5) (o := 0) (i := (ix l1 x60)) 8 1 .i64 h93 h94 Try.underlying112 tySize_4) ?_
         obtain ⟨arr95, earr95, H1⟩ := lt_some H1
         refine JL.storeArr b5 0 0 0 112 flBool ([seen56.e0, seen56.e1, seen56.e2, seen56.e3, seen56.e4, seen56.e5, seen56.e6, seen56.e7] : List Bool) (ix l1 x60) (cl_112 seen56) [] [] true h93 h94 tySize_4 ?_
         rw [ofL8 flBool (l := ([seen56.e0, seen56.e1, seen56.e2, seen56.e3, seen56.e4, seen56.e5, seen56.e6, seen56.e7] : List Bool).set (ix l1 x60).toNat true) (by simp), earr95]
         refine JQ.turn (Δ' := [At.box b5 112 (cl_112 arr95), At.rd (some ⟨g84, o85, none⟩) c58 ((flInt .i64).kd) l1 true]) (fun _ h => h.to) ?_
         refine JL.end_ ?_
         refine JQ.blk_normal ?_
         refine JQ.ts [(3, .pointer (some ⟨b5, 0, none⟩)), (6, .slice (some ⟨g84, o85, none⟩) l1.length c58), (7, .int .i64 (l1.length : Int)), (8, .int .i64 x60)] ?_
         refine J.region ?_
         refine JL.pur (.int .i64 (w64 (x60 + 1))) (some 22) ?_
         refine JL.mv (.int .i64 (w64 (x60 + 1))) ?_
         refine JL.en ?_
         exact JQ.again (arr95, w64 (x60 + 1)) ((some ⟨g84, o85, none⟩), c58) (Option.some.inj H1).symm (fun _ h => Heap.to h)
   · refine J.cond_false h81 ?_
     refine J.exit ?_
     refine JQ.then_exit ?_
     refine JQ.then_exit ?_
     refine JQ.blk_exit ?_
     rw [hb1 _ (Option.some.inj H1).symm, fin_brk] at H0
     exact JQ.met () () H0 (fun _ h => Heap.to (Heap.pick [] (by decide) h))
 · clear hit H0
   rintro ⟨⟩ ⟨⟩ H0
   replace H0 : closure_apart.k5 = some r := H0
   unfold closure_apart.k5 at H0
   refine JQ.sub [] ?_
   refine JQ.turn (Δ' := []) (fun _ h => h.to) ?_
   refine JQ.then_normal ?_
   refine J.sr ?_
   refine JL.as (.bool true) ?_
   refine JL.en ?_
   refine J.ret ?_
   obtain rfl := Option.some.inj H0
   exact JQ.done' (rs := [.tmp 2]) (vs := [.bool true]) [] (.inr rfl) ⟨by kernel_rfl, trivial⟩ (fun _ h => Heap.to h) ⟨rfl, rfl⟩

theorem closure_get_1.ok (v1 : Vis) (v2 : Int) (b3 : Nat) (v4 : Int) (b5 : Nat) (r : Bool) (H0 : closure_get_1.f v1 v2 v4 = some r) :
    Does Try.prog 93 [mv_47 v1, .pointer (some ⟨b3, 0, none⟩), .pointer (some ⟨b5, 0, none⟩)].toArray [] [At.box b3 3 [.int .i64 v2], At.box b5 3 [.int .i64 v4]] false (fun v Δ => v = .bool r ∧ Δ = [At.box b3 3 [.int .i64 v2], At.box b5 3 [.int .i64 v4]]) := by
 refine Does.body (vs := [mv_47 v1, .pointer (some ⟨b3, 0, none⟩), .pointer (some ⟨b5, 0, none⟩)]) Try.func93 rfl trivial ⟨.inr (fun _ _ _ h => h), .inr (fun _ _ _ h => h), trivial⟩ fun w S => ?_
 unfold closure_get_1.f at H0
 refine J.sr ?_
 refine JL.box (cl_47 v1) fun b6 => ?_
 refine JL.as (.bool false) ?_
 refine JL.es [(1, .pointer (some ⟨b3, 0, none⟩)), (2, .pointer (some ⟨b5, 0, none⟩)), (3, .pointer (some ⟨b6, 0, none⟩))] ?_
 refine J.sr ?_
 refine JL.pur (.pointer (some ⟨b6, 0, none⟩)) (some 5) ?_
 refine JL.val (.int .i64 v1.I) (some 6) (yields_load_box 2 0 (holds_box b6 47 (cl_47 v1)) tyAgg_3) ?_
 refine JL.val (.int .i64 v2) (some 7) (yields_load_box 0 0 (holds_box b3 3 [.int .i64 v2]) tyAgg_3) ?_
 refine JL.val (.int .i64 v4) (some 8) (yields_load_box 1 0 (holds_box b5 3 [.int .i64 v4]) tyAgg_3) ?_
 refine JL.pur (.int .i64 (gmin v2 v4)) (some 9) ?_
 refine JL.pur (.bool (decide (v1.I = gmin v2 v4))) (some 10) ?_
 refine JL.mv (.bool (decide (v1.I = gmin v2 v4))) ?_
 rcases ite_cases H0 with ⟨h7, H0⟩ | ⟨h7, H0⟩
 · refine JL.on 6 11 h7 ?_
   refine JL.pur (.pointer (some ⟨b6, 1, none⟩)) (some 12) ?_
   refine JL.on 6 11 h7 ?_
   refine JL.val (.int .i64 v1.J) (some 13) (yields_load_box 2 1 (holds_box b6 47 (cl_47 v1)) tyAgg_3) ?_
   refine JL.on 6 11 h7 ?_
   refine JL.val (.int .i64 v2) (some 14) (yields_load_box 0 0 (holds_box b3 3 [.int .i64 v2]) tyAgg_3) ?_
   refine JL.on 6 11 h7 ?_
   refine JL.val (.int .i64 v4) (some 15) (yields_load_box 1 0 (holds_box b5 3 [.int .i64 v4]) tyAgg_3) ?_
   refine JL.on 6 11 h7 ?_
   refine JL.pur (.int .i64 (gmax v2 v4)) (some 16) ?_
   refine JL.on 6 11 h7 ?_
   refine JL.pur (.bool (decide (v1.J = gmax v2 v4))) (some 17) ?_
   refine JL.val (.bool (decide (v1.J = gmax v2 v4))) (some 18) (gives_pickT h7) ?_
   refine JL.as (.bool (decide (v1.J = gmax v2 v4))) ?_
   refine JL.es [(4, .bool (decide (v1.J = gmax v2 v4)))] ?_
   refine JQ.mask [At.box b3 3 [.int .i64 v2], At.box b5 3 [.int .i64 v4]] [true, true, false] ?_
   refine J.ret ?_
   obtain rfl := Option.some.inj H0
   exact JQ.done' (rs := [.tmp 4]) (vs := [.bool (decide (v1.J = gmax v2 v4))]) [At.box b3 3 [.int .i64 v2], At.box b5 3 [.int .i64 v4]] (.inr rfl) ⟨by kernel_rfl, trivial⟩ (fun _ h => Heap.to h) ⟨rfl, rfl⟩
 · refine JL.off 6 11 true (some 12) h7 ?_
   refine JL.off 6 11 true (some 13) h7 ?_
   refine JL.off 6 11 true (some 14) h7 ?_
   refine JL.off 6 11 true (some 15) h7 ?_
   refine JL.off 6 11 true (some 16) h7 ?_
   refine JL.off 6 11 true (some 17) h7 ?_
   refine JL.val (.bool false) (some 18) (gives_pickF h7) ?_
   refine JL.as (.bool false) ?_
   refine JL.es [(4, .bool false)] ?_
   refine JQ.mask [At.box b3 3 [.int .i64 v2], At.box b5 3 [.int .i64 v4]] [true, true, false] ?_
   refine J.ret ?_
   obtain rfl := Option.some.inj H0
   exact JQ.done' (rs := [.tmp 4]) (vs := [.bool false]) [At.box b3 3 [.int .i64 v2], At.box b5 3 [.int .i64 v4]] (.inr rfl) ⟨by kernel_rfl, trivial⟩ (fun _ h => Heap.to h) ⟨rfl, rfl⟩

theorem slices_IndexFunc__api_Vis_api_Vis__closure_get_1.ok (s1 : (List Vis)) (Aa2 : Option Addr) (c3 : Nat) (v5 : Int) (b6 : Nat) (v7 : Int) (b8 : Nat) (r : Int) (H0 : slices_IndexFunc__api_Vis_api_Vis__closure_get_1.f s1 v5 v7 = some r) :
    Does Try.prog 87 [.slice Aa2 s1.length c3, .func (.func 93) #[] #[.pointer (some ⟨b6, 0, none⟩), .pointer (some ⟨b8, 0, none⟩)]].toArray [At.rd Aa2 c3 fl_Vis.kd s1 true] [At.box b6 3 [.int .i64 v5], At.box b8 3 [.int .i64 v7]] false (fun v Δ => v = .int .i64 r ∧ Δ = [At.box b6 3 [.int .i64 v5], At.box b8 3 [.int .i64 v7]]) := by
 refine Does.body (vs := [.slice Aa2 s1.length c3, .func (.func 93) #[] #[.pointer (some ⟨b6, 0, none⟩), .pointer (some ⟨b8, 0, none⟩)]]) Try.func87 rfl ⟨.inl rfl, trivial⟩ ⟨.inr (fun _ _ _ h => h), .inr (fun _ _ _ h => h), trivial⟩ fun w S => ?_
 unfold slices_IndexFunc__api_Vis_api_Vis__closure_get_1.f at H0
 refine J.sr ?_
 refine JL.as (.int .i64 0) ?_
 refine JL.es [(0, .slice Aa2 s1.length c3), (1, .func (.func 93) #[] #[.pointer (some ⟨b6, 0, none⟩), .pointer (some ⟨b8, 0, none⟩)])] ?_
 refine J.seq ?_
 refine J.sr ?_
 refine JL.mv (.slice Aa2 s1.length c3) ?_
 refine JL.pur (.int .i64 (s1.length : Int)) (some 7) ?_
 refine JL.mv (.int .i64 0) ?_
 refine JL.es [(0, .slice Aa2 s1.length c3), (1, .func (.func 93) #[] #[.pointer (some ⟨b6, 0, none⟩), .pointer (some ⟨b8, 0, none⟩)]), (7, .int .i64 (s1.length : Int)), (8, .int .i64 0)] ?_
 obtain ⟨o1, hit, H0⟩ := bind_some H0
 refine J.loop (σ := Int) (τ := Unit) (G := Unit) (G' := Unit) _ o1 (fun s g => [(0, .slice Aa2 s1.length c3), (1, .func (.func 93) #[] #[.pointer (some ⟨b6, 0, none⟩), .pointer (some ⟨b8, 0, none⟩)]), (7, .int .i64 (s1.length : Int)), (8, .int .i64 s)]) (fun s g => [At.rd Aa2 c3 fl_Vis.kd s1 true, At.box b6 3 [.int .i64 v5], At.box b8 3 [.int .i64 v7]]) (fun t => slices_IndexFunc__api_Vis_api_Vis__closure_get_1.k2 = some r) (fun t g => []) (fun t g => [At.box b6 3 [.int .i64 v5], At.box b8 3 [.int .i64 v7]]) 0 () hit (fun _ h => Heap.to h) ?_ ?_
 · clear hit
   rintro x27 ⟨⟩ st1 H1 hb1 hr1
   replace H1 : slices_IndexFunc__api_Vis_api_Vis__closure_get_1.s1 s1 v5 v7 x27 = some st1 := H1
   unfold slices_IndexFunc__api_Vis_api_Vis__closure_get_1.s1 at H1
   refine JQ.sub [(0, .slice Aa2 s1.length c3), (1, .func (.func 93) #[] #[.pointer (some ⟨b6, 0, none⟩), .pointer (some ⟨b8, 0, none⟩)]), (7, .int .i64 (s1.length : Int)), (8, .int .i64 x27)] ?_
   refine JQ.turn (Δ' := [At.rd Aa2 c3 fl_Vis.kd s1 true, At.box b6 3 [.int .i64 v5], At.box b8 3 [.int .i64 v7]]) (fun _ h => h.to) ?_
   refine J.sr ?_
   refine JL.pur (.bool (decide (x27 < (s1.length : Int)))) (some 9) ?_
   refine JL.en ?_
   refine J.seq ?_
   rcases ite_cases H1 with ⟨h36, H1⟩ | ⟨h36, H1⟩
   · refine J.cond_true h36 ?_
     refine J.skip ?_
     refine JQ.ts [(0, .slice Aa2 s1.length c3), (1, .func (.func 93) #[] #[.pointer (some ⟨b6, 0, none⟩), .pointer (some ⟨b8, 0, none⟩)]), (7, .int .i64 (s1.length : Int)), (8, .int .i64 x27)] ?_
     refine J.seq ?_
     refine J.block ?_
     refine J.sr ?_
     refine JL.mv (.int .i64 x27) ?_
     refine JL.as (.int .i64 x27) ?_
     refine JL.es [(0, .slice Aa2 s1.length c3), (1, .func (.func 93) #[] #[.pointer (some ⟨b6, 0, none⟩), .pointer (some ⟨b8, 0, none⟩)]), (5, .int .i64 x27), (7, .int .i64 (s1.length : Int)), (8, .int .i64 x27)] ?_
     refine J.sr ?_
     refine JL.mv (.func (.func 93) #[] #[.pointer (some ⟨b6, 0, none⟩), .pointer (some ⟨b8, 0, none⟩)]) ?_
     refine JL.mv (.slice Aa2 s1.length c3) ?_
     refine JL.mv (.int .i64 x27) ?_
     obtain ⟨⟨h37, h38⟩, H1⟩ := ite_must H1
     refine JL.ixAddr 0 6 c3 .i64 (elems_rd Aa2 c3 fl_Vis.kd s1 true) Try.underlying48 tySize_47 h37 h38 fun g39 o40 hA => ?_
     subst hA
     refine JL.val (mv_47 (ix s1 x27)) (some 15) (gives_loadEl (f := fl_Vis) 0 0 x27 (elems_rd (some ⟨g39, o40, none⟩) c3 fl_Vis.kd s1 true) h37 h38 tySize_47 (.inl ⟨tyAgg_47, rfl⟩)) ?_
     obtain ⟨t41, hc42, H1⟩ := bind_some H1
     refine JL.call [] [.pointer (some ⟨b6, 0, none⟩), .pointer (some ⟨b8, 0, none⟩)] [false, true, true] (closure_get_1.ok (ix s1 x27) v5 b6 v7 b8 _ hc42) trivial ?_
     rintro _ _ ⟨rfl, rfl⟩
     refine JL.es [(0, .slice (some ⟨g39, o40, none⟩) s1.length c3), (1, .func (.func 93) #[] #[.pointer (some ⟨b6, 0, none⟩), .pointer (some ⟨b8, 0, none⟩)]), (5, .int .i64 x27), (7, .int .i64 (s1.length : Int)), (8, .int .i64 x27), (16, .bool t41)] ?_
     rcases ite_cases H1 with ⟨h43, H1⟩ | ⟨h43, H1⟩
     · refine J.cond_true h43 ?_
       refine J.sr ?_
       refine JL.mv (.int .i64 x27) ?_
       refine JL.as (.int .i64 x27) ?_
       refine JL.es [(4, .int .i64 x27)] ?_
       refine JQ.mask [At.box b6 3 [.int .i64 v5], At.box b8 3 [.int .i64 v7]] [false, true, true] ?_
       refine J.ret ?_
       refine JQ.blk_ret ?_
       refine JQ.then_ret ?_
       refine JQ.then_ret ?_
       refine JQ.blk_ret ?_
       refine JQ.met_ret ?_
       refine JQ.then_ret ?_
       rw [hr1 _ (Option.some.inj H1).symm, fin_ret] at H0
       obtain rfl := Option.some.inj H0
       exact JQ.done' (rs := [.tmp 4]) (vs := [.int .i64 x27]) [At.box b6 3 [.int .i64 v5], At.box b8 3 [.int .i64 v7]] (.inr rfl) ⟨by kernel_rfl, trivial⟩ (fun _ h => Heap.to h) ⟨rfl, rfl⟩
     · refine J.cond_false h43 ?_
       refine J.skip ?_
       refine JQ.blk_normal ?_
       refine JQ.ts [(0, .slice (some ⟨g39, o40, none⟩) s1.length c3), (1, .func (.func 93) #[] #[.pointer (some ⟨b6, 0, none⟩), .pointer (some ⟨b8, 0, none⟩)]), (7, .int .i64 (s1.length : Int)), (8, .int .i64 x27)] ?_
       refine J.region ?_
       refine JL.pur (.int .i64 (w64 (x27 + 1))) (some 18) ?_
       refine JL.mv (.int .i64 (w64 (x27 + 1))) ?_
       refine JL.en ?_
       exact JQ.again (w64 (x27 + 1)) () (Option.some.inj H1).symm (fun _ h => Heap.to h)
   · refine J.cond_false h36 ?_
     refine J.exit ?_
     refine JQ.then_exit ?_
     refine JQ.then_exit ?_
     refine JQ.blk_exit ?_
     rw [hb1 _ (Option.some.inj H1).symm, fin_brk] at H0
     exact JQ.met () () H0 (fun _ h => Heap.to (Heap.pick [1, 2] (by decide) h))
 · clear hit H0
   rintro ⟨⟩ ⟨⟩ H0
   replace H0 : slices_IndexFunc__api_Vis_api_Vis__closure_get_1.k2 = some r := H0
   unfold slices_IndexFunc__api_Vis_api_Vis__closure_get_1.k2 at H0
   refine JQ.sub [] ?_
   refine JQ.turn (Δ' := [At.box b6 3 [.int .i64 v5], At.box b8 3 [.int .i64 v7]]) (fun _ h => h.to) ?_
   refine JQ.then_normal ?_
   refine J.sr ?_
   refine JL.as (.int .i64 (-1)) ?_
   refine JL.en ?_
   refine J.ret ?_
   obtain rfl := Option.some.inj H0
   exact JQ.done' (rs := [.tmp 4]) (vs := [.int .i64 (-1)]) [At.box b6 3 [.int .i64 v5], At.box b8 3 [.int .i64 v7]] (.inr rfl) ⟨by kernel_rfl, trivial⟩ (fun _ h => Heap.to h) ⟨rfl, rfl⟩

theorem closure_get.ok (l1 : (List Vis)) (Aa2 : Option Addr) (c3 : Nat) (i5 : Int) (j6 : Int) (r : (Cx × Int)) (H0 : closure_get.f l1 i5 j6 = some r) :
    Does Try.prog 90 [.slice Aa2 l1.length c3, .int .i64 i5, .int .i64 j6].toArray [At.rd Aa2 c3 fl_Vis.kd l1 true] [] false (fun v Δ => v = .tuple #[mv_23 r.1, .int .i64 r.2] ∧ Δ = []) := by
 refine Does.body (vs := [.slice Aa2 l1.length c3, .int .i64 i5, .int .i64 j6]) Try.func90 rfl ⟨.inl rfl, trivial⟩ trivial fun w S => ?_
 unfold closure_get.f at H0
 refine J.sr ?_
 refine JL.box [.int .i64 i5] fun b7 => ?_
 refine JL.box [.int .i64 j6] fun b8 => ?_
 refine JL.alloc (cl_23 zv_23) fun b9 => ?_
 refine JL.as (.int .i64 0) ?_
 refine JL.es [(0, .slice Aa2 l1.length c3), (4, .pointer (some ⟨b7, 0, none⟩)), (5, .pointer (some ⟨b8, 0, none⟩)), (6, .pointer (some ⟨b9, 0, none⟩))] ?_
 refine J.sr ?_
 refine JL.mv (.slice Aa2 l1.length c3) ?_
 refine JL.pur (.func (.func 93) #[] #[.pointer (some ⟨b7, 0, none⟩), .pointer (some ⟨b8, 0, none⟩)]) (some 11) ?_
 obtain ⟨t10, hc11, H0⟩ := bind_some H0
 refine JL.call [] [] [false, true, true] (slices_IndexFunc__api_Vis_api_Vis__closure_get_1.ok l1 Aa2 c3 i5 b7 j6 b8 _ hc11) ⟨pre_any 0 (view_rd Aa2 c3 fl_Vis.kd l1 true true), trivial⟩ ?_
 rintro _ _ ⟨rfl, rfl⟩
 refine JL.as (.int .i64 t10) ?_
 refine JL.es [(0, .slice Aa2 l1.length c3), (4, .pointer (some ⟨b7, 0, none⟩)), (5, .pointer (some ⟨b8, 0, none⟩)), (6, .pointer (some ⟨b9, 0, none⟩)), (8, .int .i64 t10)] ?_
 refine J.seq ?_
 refine J.sr ?_
 refine JL.mv (.int .i64 t10) ?_
 refine JL.pur (.bool (decide (t10 < 0))) (some 14) ?_
 refine JL.es [(0, .slice Aa2 l1.length c3), (4, .pointer (some ⟨b7, 0, none⟩)), (5, .pointer (some ⟨b8, 0, none⟩)), (6, .pointer (some ⟨b9, 0, none⟩)), (8, .int .i64 t10), (14, .bool (decide (t10 < 0)))] ?_
 rcases ite_cases H0 with ⟨h12, H0⟩ | ⟨h12, H0⟩
 · refine J.cond_true h12 ?_
   refine J.sr ?_
   refine JL.pur (mv_23 zv_23) (some 15) ?_
   refine JL.store 1 b9 0 23 (cl_23 zv_23) (cl_23 zv_23) tySize_23 ?_
   refine JL.as (.int .i64 6) ?_
   refine JL.es [(6, .pointer (some ⟨b9, 0, none⟩)), (7, .int .i64 6)] ?_
   refine JQ.mask [At.box b9 23 (cl_23 zv_23)] [false, true, false, false] ?_
   refine J.ret ?_
   refine JQ.then_ret ?_
   obtain rfl := Option.some.inj H0
   exact JQ.done' (rs := [.cell 6 23, .tmp 7]) (vs := [.agg #[.int .i64 0, .int .i64 0, .int .i64 0], .int .i64 6]) [] (.inr rfl) ⟨⟨b9, 0, _, _, by kernel_rfl, by kernel_rfl, holds_box b9 23 (cl_23 zv_23), .inl ⟨tyAgg_23, tySize_23, rfl⟩⟩, by kernel_rfl, trivial⟩ (fun _ h => Heap.to (Heap.pick [] (by decide) h)) ⟨rfl, rfl⟩
 · refine J.cond_false h12 ?_
   refine J.skip ?_
   refine JQ.ts [(0, .slice Aa2 l1.length c3), (4, .pointer (some ⟨b7, 0, none⟩)), (5, .pointer (some ⟨b8, 0, none⟩)), (6, .pointer (some ⟨b9, 0, none⟩)), (8, .int .i64 t10)] ?_
   refine J.sr ?_
   refine JL.mv (.slice Aa2 l1.length c3) ?_
   refine JL.mv (.int .i64 t10) ?_
   obtain ⟨⟨h13, h14⟩, H0⟩ := ite_must H0
   refine JL.ixAddr 0 6 c3 .i64 (elems_rd Aa2 c3 fl_Vis.kd l1 true) Try.underlying48 tySize_47 h13 h14 fun g15 o16 hA => ?_
   subst hA
   refine JL.pur (.pointer (some ⟨g15, o16 + t10.toNat * 6 + 2, none⟩)) (some 19) ?_
   refine JL.val (mv_23 ((ix l1 t10).V)) (some 20) (gives_loadEl (f := fl_Vis) 0 2 t10 (elems_rd (some ⟨g15, o16, none⟩) c3 fl_Vis.kd l1 true) h13 h14 tySize_23 (.inl ⟨tyAgg_23, rfl⟩)) ?_
   refine JL.alloc (cl_23 zv_23) fun b17 => ?_
   refine JL.store 4 b17 0 23 (cl_23 zv_23) (cl_23 ((ix l1 t10).V)) tySize_23 ?_
   refine JL.es [(4, .pointer (some ⟨b7, 0, none⟩)), (5, .pointer (some ⟨b8, 0, none⟩)), (6, .pointer (some ⟨b9, 0, none⟩)), (9, .pointer (some ⟨b17, 0, none⟩))] ?_
   refine JQ.mask [At.box b9 23 (cl_23 zv_23), At.box b7 3 [.int .i64 i5], At.box b8 3 [.int .i64 j6], At.box b17 23 (cl_23 ((ix l1 t10).V))] [false, true, true, true, true] ?_
   refine J.join (T := Cx) (G := Unit) (fun t => closure_get.k1 t = some r) (fun t g => [(6, .pointer (some ⟨b9, 0, none⟩)), (9, .pointer (some ⟨b17, 0, none⟩))]) (fun t g => [At.box b9 23 (cl_23 zv_23), At.box b17 23 (cl_23 t)]) ?_ ?_
   · refine J.sr ?_
     refine JL.val (.int .i64 i5) (some 21) (yields_load_box 1 0 (holds_box b7 3 [.int .i64 i5]) tyAgg_3) ?_
     refine JL.val (.int .i64 j6) (some 22) (yields_load_box 2 0 (holds_box b8 3 [.int .i64 j6]) tyAgg_3) ?_
     refine JL.pur (.bool (decide (j6 < i5))) (some 23) ?_
     refine JL.es [(6, .pointer (some ⟨b9, 0, none⟩)), (9, .pointer (some ⟨b17, 0, none⟩)), (23, .bool (decide (j6 < i5)))] ?_
     refine JQ.mask [At.box b9 23 (cl_23 zv_23), At.box b17 23 (cl_23 ((ix l1 t10).V))] [true, false, false, true] ?_
     rcases ite_cases H0 with ⟨h20, H0⟩ | ⟨h20, H0⟩
     · refine J.cond_true h20 ?_
       refine J.region ?_
       refine JL.pur (.pointer (some ⟨b17, 1, none⟩)) (some 24) ?_
       refine JL.val (.int .i64 ((ix l1 t10).V.Im)) (some 25) (yields_load_box 1 1 (holds_box b17 23 (cl_23 ((ix l1 t10).V))) tyAgg_2) ?_
       refine JL.pur (.int .i64 (w64 (0 - (ix l1 t10).V.Im))) (some 26) ?_
       refine JL.pur (.pointer (some ⟨b17, 1, none⟩)) (some 27) ?_
       refine JL.store 1 b17 1 23 (cl_23 ((ix l1 t10).V)) [.int .i64 ((ix l1 t10).V.Re), .int .i64 (w64 (0 - (ix l1 t10).V.Im)), .int .i64 ((ix l1 t10).V.Den)] tySize_2 ?_
       refine JL.en ?_
       exact JQ.meet (⟨((ix l1 t10).V.Re), (w64 (0 - (ix l1 t10).V.Im)), ((ix l1 t10).V.Den)⟩ : Cx) () H0 (fun _ h => Heap.to h)
     · refine J.cond_false h20 ?_
       refine J.skip ?_
       refine JQ.then_normal ?_
       exact JQ.meet ((ix l1 t10).V) () H0 (fun _ h => Heap.to h)
   · clear H0
     rintro v19 ⟨⟩ H0
     replace H0 : closure_get.k1 v19 = some r := H0
     unfold closure_get.k1 at H0
     refine JQ.sub [(6, .pointer (some ⟨b9, 0, none⟩)), (9, .pointer (some ⟨b17, 0, none⟩))] ?_
     refine JQ.turn (Δ' := [At.box b9 23 (cl_23 zv_23), At.box b17 23 (cl_23 v19)]) (fun _ h => h.to) ?_
     refine J.sr ?_
     refine JL.val (mv_23 v19) (some 28) (yields_load_boxes 1 0 (cl_23 v19) (holds_box b17 23 (cl_23 v19)) tyAgg_23 tySize_23) ?_
     refine JL.store 0 b9 0 23 (cl_23 zv_23) (cl_23 v19) tySize_23 ?_
     refine JL.as (.int .i64 0) ?_
     refine JL.es [(6, .pointer (some ⟨b9, 0, none⟩)), (7, .int .i64 0)] ?_
     refine JQ.mask [At.box b9 23 (cl_23 v19)] [true, false] ?_
     refine J.ret ?_
     obtain rfl := Option.some.inj H0
     exact JQ.done' (rs := [.cell 6 23, .tmp 7]) (vs := [.agg #[.int .i64 v19.Re, .int .i64 v19.Im, .int .i64 v19.Den], .int .i64 0]) [] (.inr rfl) ⟨⟨b9, 0, _, _, by kernel_rfl, by kernel_rfl, holds_box b9 23 (cl_23 v19), .inl ⟨tyAgg_23, tySize_23, rfl⟩⟩, by kernel_rfl, trivial⟩ (fun _ h => Heap.to (Heap.pick [] (by decide) h)) ⟨rfl, rfl⟩

theorem closure_along.ok (l1 : (List Vis)) (Aa2 : Option Addr) (c3 : Nat) (steps5 : (List Pair)) (Aa6 : Option Addr) (c7 : Nat) (r : ((List Cx) × Int)) (H0 : closure_along.f l1 steps5 = some r) :
    Does Try.prog 79 [.slice Aa2 l1.length c3, .slice Aa6 steps5.length c7].toArray [At.rd Aa2 c3 fl_Vis.kd l1 true, At.rd Aa6 c7 fl_Pair.kd steps5 true] [] false (fun v Δ => ∃ A1001 : Option Addr, ∃ c1001 : Nat, v = .tuple #[.slice A1001 r.1.length c1001, .int .i64 r.2] ∧ Δ = [At.row A1001 c1001 23 fl_Cx.kd r.1 false]) := by
 refine Does.body (vs := [.slice Aa2 l1.length c3, .slice Aa6 steps5.length c7]) Try.func79 rfl ⟨.inl rfl, .inl rfl, trivial⟩ trivial fun w S => ?_
 unfold closure_along.f at H0
 refine J.sr ?_
 refine JL.as (.slice none 0 0) ?_
 refine JL.as (.int .i64 0) ?_
 refine JL.es [(0, .slice Aa2 l1.length c3), (1, .slice Aa6 steps5.length c7)] ?_
 refine J.sr ?_
 refine JL.as (.slice none 0 0) ?_
 refine JL.en ?_
 refine J.sr ?_
 refine JL.as (.int .i64 0) ?_
 refine JL.en ?_
 refine J.seq ?_
 refine J.sr ?_
 refine JL.mv (.slice Aa6 steps5.length c7) ?_
 refine JL.pur (.int .i64 (steps5.length : Int)) (some 13) ?_
 refine JL.mv (.int .i64 0) ?_
 refine JL.es [(0, .slice Aa2 l1.length c3), (6, .slice none 0 0), (7, .int .i64 0), (12, .slice Aa6 steps5.length c7), (13, .int .i64 (steps5.length : Int)), (14, .int .i64 0)] ?_
 obtain ⟨o1, hit, H0⟩ := bind_some H0
 refine J.loop (σ := ((List Cx) × Int × Int)) (τ := ((List Cx) × Int)) (G := ((Option Addr) × Nat × (Option Addr) × Nat)) (G' := ((Option Addr) × Nat)) _ o1 (fun s g => [(0, .slice Aa2 l1.length c3), (6, .slice g.1 s.1.length g.2.1), (7, .int .i64 s.2.1), (12, .slice g.2.2.1 steps5.length g.2.2.2), (13, .int .i64 (steps5.length : Int)), (14, .int .i64 s.2.2)]) (fun s g => [At.rd Aa2 c3 fl_Vis.kd l1 true, At.row g.1 g.2.1 23 fl_Cx.kd s.1 false, At.rd g.2.2.1 g.2.2.2 fl_Pair.kd steps5 true]) (fun t => closure_along.k11 t.1 t.2 = some r) (fun t g => [(6, .slice g.1 t.1.length g.2), (7, .int .i64 t.2)]) (fun t g => [At.row g.1 g.2 23 fl_Cx.kd t.1 false]) ([], 0, 0) (none, 0, Aa6, c7) hit (fun _ h => Heap.to (Heap.pick [0, 2, 1] (by decide) (Heap.addRow0 (α := Cx) 23 fl_Cx.kd false h))) ?_ ?_
 · clear hit
   rintro ⟨out74, zero78, x82⟩ ⟨Aa75, c76, Aa79, c80⟩ st1 H1 hb1 hr1
   replace H1 : closure_along.s10 l1 steps5 out74 zero78 x82 = some st1 := H1
   unfold closure_along.s10 at H1
   refine JQ.sub [(0, .slice Aa2 l1.length c3), (6, .slice Aa75 out74.length c76), (7, .int .i64 zero78), (12, .slice Aa79 steps5.length c80), (13, .int .i64 (steps5.length : Int)), (14, .int .i64 x82)] ?_
   refine JQ.turn (Δ' := [At.rd Aa2 c3 fl_Vis.kd l1 true, At.row Aa75 c76 23 fl_Cx.kd out74 false, At.rd Aa79 c80 fl_Pair.kd steps5 true]) (fun _ h => h.to) ?_
   refine J.sr ?_
   refine JL.pur (.bool (decide (x82 < (steps5.length : Int)))) (some 15) ?_
   refine JL.en ?_
   refine J.seq ?_
   rcases ite_cases H1 with ⟨h111, H1⟩ | ⟨h111, H1⟩
   · refine J.cond_true h111 ?_
     refine J.skip ?_
     refine JQ.ts [(0, .slice Aa2 l1.length c3), (6, .slice Aa75 out74.length c76), (7, .int .i64 zero78), (12, .slice Aa79 steps5.length c80), (13, .int .i64 (steps5.length : Int)), (14, .int .i64 x82)] ?_
     refine J.seq ?_
     refine J.block ?_
     refine J.sr ?_
     obtain ⟨⟨h112, h113⟩, H1⟩ := ite_must H1
     refine JL.ixAddr 2 2 c80 .i64 (elems_rd Aa79 c80 fl_Pair.kd steps5 true) Try.underlying115 tySize_78 h112 h113 fun g114 o115 hA => ?_
     subst hA
     refine JL.val (mv_78 (ix steps5 x82)) (some 17) (gives_loadEl (f := fl_Pair) 2 0 x82 (elems_rd (some ⟨g114, o115, none⟩) c80 fl_Pair.kd steps5 true) h112 h113 tySize_78 (.inl ⟨tyAgg_78, rfl⟩)) ?_
     refine JL.alloc (cl_78 zv_78) fun b116 => ?_
     refine JL.store 3 b116 0 78 (cl_78 zv_78) (cl_78 (ix steps5 x82)) tySize_78 ?_
     refine JL.es [(0, .slice Aa2 l1.length c3), (6, .slice Aa75 out74.length c76), (7, .int .i64 zero78), (9, .pointer (some ⟨b116, 0, none⟩)), (12, .slice (some ⟨g114, o115, none⟩) steps5.length c80), (13, .int .i64 (steps5.length : Int)), (14, .int .i64 x82)] ?_
     refine J.sr ?_
     refine JL.mv (.slice Aa2 l1.length c3) ?_
     refine JL.pur (.pointer (some ⟨b116, 0, none⟩)) (some 20) ?_
     refine JL.val (.int .i64 ((ix steps5 x82).I)) (some 21) (yields_load_box 3 0 (holds_box b116 78 (cl_78 (ix steps5 x82))) tyAgg_3) ?_
     refine JL.pur (.pointer (some ⟨b116, 1, none⟩)) (some 22) ?_
     refine JL.val (.int .i64 ((ix steps5 x82).J)) (some 23) (yields_load_box 3 1 (holds_box b116 78 (cl_78 (ix steps5 x82))) tyAgg_3) ?_
     obtain ⟨t117, hc118, H1⟩ := bind_some H1
     refine JL.call [] [] [] (closure_get.ok l1 Aa2 c3 ((ix steps5 x82).I) ((ix steps5 x82).J) _ hc118) ⟨pre_any 0 (view_rd Aa2 c3 fl_Vis.kd l1 true true), trivial⟩ ?_
     rintro _ _ ⟨rfl, rfl⟩
     refine JL.mv (.tuple #[mv_23 t117.1, .int .i64 t117.2]) ?_
     refine JL.pur (mv_23 t117.1) (some 25) ?_
     refine JL.pur (.int .i64 t117.2) (some 26) ?_
     refine JL.alloc (cl_23 zv_23) fun b119 => ?_
     refine JL.store 4 b119 0 23 (cl_23 zv_23) (cl_23 t117.1) tySize_23 ?_
     refine JL.as (.int .i64 t117.2) ?_
     refine JL.es [(0, .slice Aa2 l1.length c3), (6, .slice Aa75 out74.length c76), (7, .int .i64 zero78), (10, .pointer (some ⟨b119, 0, none⟩)), (11, .int .i64 t117.2), (12, .slice (some ⟨g114, o115, none⟩) steps5.length c80), (13, .int .i64 (steps5.length : Int)), (14, .int .i64 x82)] ?_
     refine JQ.mask [At.rd Aa2 c3 fl_Vis.kd l1 true, At.row Aa75 c76 23 fl_Cx.kd out74 false, At.rd (some ⟨g114, o115, none⟩) c80 fl_Pair.kd steps5 true, At.box b119 23 (cl_23 t117.1)] [true, true, true, false, true] ?_
     refine J.seq ?_
     refine J.sr ?_
     refine JL.mv (.int .i64 t117.2) ?_
     refine JL.pur (.bool (!decide (t117.2 = 0))) (some 28) ?_
     refine JL.es [(0, .slice Aa2 l1.length c3), (6, .slice Aa75 out74.length c76), (7, .int .i64 zero78), (10, .pointer (some ⟨b119, 0, none⟩)), (11, .int .i64 t117.2), (12, .slice (some ⟨g114, o115, none⟩) steps5.length c80), (13, .int .i64 (steps5.length : Int)), (14, .int .i64 x82), (28, .bool (!decide (t117.2 = 0)))] ?_
     rcases ite_cases H1 with ⟨h120, H1⟩ | ⟨h120, H1⟩
     · refine J.cond_true h120 ?_
       refine J.sr ?_
       refine JL.mv (.int .i64 t117.2) ?_
       refine JL.as (.slice none 0 0) ?_
       refine JL.as (.int .i64 t117.2) ?_
       refine JL.es [(4, .slice none 0 0), (5, .int .i64 t117.2)] ?_
       refine JQ.mask [] [false, false, false, false] ?_
       refine J.ret ?_
       refine JQ.then_ret ?_
       refine JQ.blk_ret ?_
       refine JQ.then_ret ?_
       refine JQ.then_ret ?_
       refine JQ.blk_ret ?_
       refine JQ.met_ret ?_
       refine JQ.then_ret ?_
       rw [hr1 _ (Option.some.inj H1).symm, fin_ret] at H0
       obtain rfl := Option.some.inj H0
       exact JQ.done' (rs := [.tmp 4, .tmp 5]) (vs := [.slice none 0 0, .int .i64 t117.2]) [At.row none 0 23 fl_Cx.kd ([] : List Cx) false] (.inr rfl) ⟨by kernel_rfl, by kernel_rfl, trivial⟩ (fun _ h => Heap.to (Heap.addRow0 (α := Cx) 23 fl_Cx.kd false h)) ⟨none, 0, rfl, rfl⟩
     · refine J.cond_false h120 ?_
       refine J.skip ?_
       refine JQ.ts [(0, .slice Aa2 l1.length c3), (6, .slice Aa75 out74.length c76), (7, .int .i64 zero78), (10, .pointer (some ⟨b119, 0, none⟩)), (12, .slice (some ⟨g114, o115, none⟩) steps5.length c80), (13, .int .i64 (steps5.length : Int)), (14, .int .i64 x82)] ?_
       refine J.join (T := Int) (G := Unit) (fun t => closure_along.k13 out74 x82 t117 t = some st1) (fun t g => [(0, .slice Aa2 l1.length c3), (6, .slice Aa75 out74.length c76), (7, .int .i64 t), (10, .pointer (some ⟨b119, 0, none⟩)), (12, .slice (some ⟨g114, o115, none⟩) steps5.length c80), (13, .int .i64 (steps5.length : Int)), (14, .int .i64 x82)]) (fun t g => [At.rd Aa2 c3 fl_Vis.kd l1 true, At.row Aa75 c76 23 fl_Cx.kd out74 false, At.box b119 23 (cl_23 t117.1), At.rd (some ⟨g114, o115, none⟩) c80 fl_Pair.kd steps5 true]) ?_ ?_
       · refine J.join (T := Bool) (G := Unit) (fun t => closure_along.k14 out74 zero78 x82 t117 t = some st1) (fun t g => [(0, .slice Aa2 l1.length c3), (6, .slice Aa75 out74.length c76), (7, .int .i64 zero78), (10, .pointer (some ⟨b119, 0, none⟩)), (12, .slice (some ⟨g114, o115, none⟩) steps5.length c80), (13, .int .i64 (steps5.length : Int)), (14, .int .i64 x82), (37, .bool t)]) (fun t g => [At.rd Aa2 c3 fl_Vis.kd l1 true, At.row Aa75 c76 23 fl_Cx.kd out74 false, At.box b119 23 (cl_23 t117.1), At.rd (some ⟨g114, o115, none⟩) c80 fl_Pair.kd steps5 true]) ?_ ?_
         · refine J.region ?_
           refine JL.pur (.pointer (some ⟨b119, 0, none⟩)) (some 30) ?_
           refine JL.val (.int .i64 t117.1.Re) (some 31) (yields_load_box 3 0 (holds_box b119 23 (cl_23 t117.1)) tyAgg_2) ?_
           refine JL.pur (.bool (decide (t117.1.Re = 0))) (some 32) ?_
           refine JL.mv (.bool (decide (t117.1.Re = 0))) ?_
           rcases ite_cases H1 with ⟨h133, H1⟩ | ⟨h133, H1⟩
           · refine JL.on 3 33 h133 ?_
             refine JL.pur (.pointer (some ⟨b119, 1, none⟩)) (some 34) ?_
             refine JL.on 3 33 h133 ?_
             refine JL.val (.int .i64 t117.1.Im) (some 35) (yields_load_box 3 1 (holds_box b119 23 (cl_23 t117.1)) tyAgg_2) ?_
             refine JL.on 3 33 h133 ?_
             refine JL.pur (.bool (decide (t117.1.Im = 0))) (some 36) ?_
             refine JL.val (.bool (decide (t117.1.Im = 0))) (some 37) (gives_pickT h133) ?_
             refine JL.en ?_
             exact JQ.meet (decide (t117.1.Im = 0)) () H1 (fun _ h => Heap.to (Heap.pick [0, 1, 3, 2] (by decide) h))
           · refine JL.off 3 33 true (some 34) h133 ?_
             refine JL.off 3 33 true (some 35) h133 ?_
             refine JL.off 3 33 true (some 36) h133 ?_
             refine JL.val (.bool false) (some 37) (gives_pickF h133) ?_
             refine JL.en ?_
             exact JQ.meet false () H1 (fun _ h => Heap.to (Heap.pick [0, 1, 3, 2] (by decide) h))
         · clear H1
           rintro x131 ⟨⟩ H1
           replace H1 : closure_along.k14 out74 zero78 x82 t117 x131 = some st1 := H1
           unfold closure_along.k14 at H1
           refine JQ.sub [(0, .slice Aa2 l1.length c3), (6, .slice Aa75 out74.length c76), (7, .int .i64 zero78), (10, .pointer (some ⟨b119, 0, none⟩)), (12, .slice (some ⟨g114, o115, none⟩) steps5.length c80), (13, .int .i64 (steps5.length : Int)), (14, .int .i64 x82), (37, .bool x131)] ?_
           refine JQ.turn (Δ' := [At.rd Aa2 c3 fl_Vis.kd l1 true, At.row Aa75 c76 23 fl_Cx.kd out74 false, At.box b119 23 (cl_23 t117.1), At.rd (some ⟨g114, o115, none⟩) c80 fl_Pair.kd steps5 true]) (fun _ h => h.to) ?_
           rcases ite_cases H1 with ⟨h132, H1⟩ | ⟨h132, H1⟩
           · refine J.cond_true h132 ?_
             refine J.region ?_
             refine JL.as (.int .i64 18) ?_
             refine JL.en ?_
             exact JQ.meet 18 () H1 (fun _ h => Heap.to h)
           · refine J.cond_false h132 ?_
             refine J.skip ?_
             refine JQ.then_normal ?_
             exact JQ.meet zero78 () H1 (fun _ h => Heap.to h)
       · clear H1
         rintro zero125 ⟨⟩ H1
         replace H1 : closure_along.k13 out74 x82 t117 zero125 = some st1 := H1
         unfold closure_along.k13 at H1
         refine JQ.sub [(0, .slice Aa2 l1.length c3), (6, .slice Aa75 out74.length c76), (7, .int .i64 zero125), (10, .pointer (some ⟨b119, 0, none⟩)), (12, .slice (some ⟨g114, o115, none⟩) steps5.length c80), (13, .int .i64 (steps5.length : Int)), (14, .int .i64 x82)] ?_
         refine JQ.turn (Δ' := [At.rd Aa2 c3 fl_Vis.kd l1 true, At.row Aa75 c76 23 fl_Cx.kd out74 false, At.box b119 23 (cl_23 t117.1), At.rd (some ⟨g114, o115, none⟩) c80 fl_Pair.kd steps5 true]) (fun _ h => h.to) ?_
         refine J.region ?_
         refine JL.mv (.slice Aa75 out74.length c76) ?_
         refine JL.val (mv_23 t117.1) (some 39) (yields_load_boxes 2 0 (cl_23 t117.1) (holds_box b119 23 (cl_23 t117.1)) tyAgg_23 tySize_23) ?_
         refine JL.buildSl 23 fl_Cx.kd (([t117.1] : List Cx) : List Cx) [.int .i64 t117.1.Re, .int .i64 t117.1.Im, .int .i64 t117.1.Den] false (closes_fl rfl) fun b126 => ?_
         obtain ⟨h129, H1⟩ := ite_must H1
         refine JL.append false false 1 4 Aa75 c76 1 out74 (elems_row (some ⟨b126, 0, none⟩) 1 23 fl_Cx.kd ([t117.1] : List Cx) false) Try.underlying28 info_23 (by omega) (by omega) (fun h => h) (.inr ⟨_, rfl⟩) fun Aa127 c128 => ?_
         refine JL.as (.slice Aa127 (out74 ++ ([t117.1] : List Cx)).length c128) ?_
         refine JL.end_ ?_
         refine JQ.blk_normal ?_
         refine JQ.ts [(0, .slice Aa2 l1.length c3), (6, .slice Aa127 (out74 ++ ([t117.1] : List Cx)).length c128), (7, .int .i64 zero125), (12, .slice (some ⟨g114, o115, none⟩) steps5.length c80), (13, .int .i64 (steps5.length : Int)), (14, .int .i64 x82)] ?_
         refine JQ.mask [At.rd Aa2 c3 fl_Vis.kd l1 true, At.row Aa127 c128 23 fl_Cx.kd (out74 ++ ([t117.1] : List Cx)) false, At.rd (some ⟨g114, o115, none⟩) c80 fl_Pair.kd steps5 true] [true, true, false, true, false] ?_
         refine J.region ?_
         refine JL.pur (.int .i64 (w64 (x82 + 1))) (some 42) ?_
         refine JL.mv (.int .i64 (w64 (x82 + 1))) ?_
         refine JL.en ?_
         exact JQ.again ((out74 ++ ([t117.1] : List Cx)), zero125, w64 (x82 + 1)) (Aa127, c128, (some ⟨g114, o115, none⟩), c80) (Option.some.inj H1).symm (fun _ h => Heap.to h)
   · refine J.cond_false h111 ?_
     refine J.exit ?_
     refine JQ.then_exit ?_
     refine JQ.then_exit ?_
     refine JQ.blk_exit ?_
     rw [hb1 _ (Option.some.inj H1).symm, fin_brk] at H0
     exact JQ.met (out74, zero78) (Aa75, c76) H0 (fun _ h => Heap.to (Heap.pick [1] (by decide) h))
 · clear hit H0
   rintro ⟨out106, zero110⟩ ⟨Aa107, c108⟩ H0
   replace H0 : closure_along.k11 out106 zero110 = some r := H0
   unfold closure_along.k11 at H0
   refine JQ.sub [(6, .slice Aa107 out106.length c108), (7, .int .i64 zero110)] ?_
   refine JQ.turn (Δ' := [At.row Aa107 c108 23 fl_Cx.kd out106 false]) (fun _ h => h.to) ?_
   refine JQ.then_normal ?_
   refine J.sr ?_
   refine JL.mv (.slice Aa107 out106.length c108) ?_
   refine JL.mv (.int .i64 zero110) ?_
   refine JL.as (.slice Aa107 out106.length c108) ?_
   refine JL.as (.int .i64 zero110) ?_
   refine JL.es [(4, .slice Aa107 out106.length c108), (5, .int .i64 zero110)] ?_
   refine J.ret ?_
   obtain rfl := Option.some.inj H0
   exact JQ.done' (rs := [.tmp 4, .tmp 5]) (vs := [.slice Aa107 out106.length c108, .int .i64 zero110]) [At.row Aa107 c108 23 fl_Cx.kd out106 false] (.inr rfl) ⟨by kernel_rfl, by kernel_rfl, trivial⟩ (fun _ h => Heap.to h) ⟨Aa107, c108, rfl, rfl⟩

theorem cx_Ray.ok (a1 : Cx) (r : (Cx × Int)) (H0 : cx_Ray.f a1 = some r) :
    Does Try.prog 80 [mv_23 a1].toArray [] [] false (fun v Δ => v = .tuple #[mv_23 r.1, .int .i64 r.2] ∧ Δ = []) := by
 refine Does.body (vs := [mv_23 a1]) Try.func80 rfl trivial trivial fun w S => ?_
 unfold cx_Ray.f at H0
 refine J.sr ?_
 refine JL.box (cl_23 a1) fun b2 => ?_
 refine JL.alloc (cl_23 zv_23) fun b3 => ?_
 refine JL.as (.int .i64 0) ?_
 refine JL.es [(1, .pointer (some ⟨b2, 0, none⟩)), (2, .pointer (some ⟨b3, 0, none⟩))] ?_
 refine J.seq ?_
 refine J.sr ?_
 refine JL.val (mv_23 a1) (some 6) (yields_load_boxes 0 0 (cl_23 a1) (holds_box b2 23 (cl_23 a1)) tyAgg_23 tySize_23) ?_
 obtain ⟨t4, hc5, H0⟩ := bind_some H0
 refine JL.call [] [] [] (cx_Check.ok a1 _ hc5) trivial ?_
 rintro _ _ ⟨rfl, rfl⟩
 refine JL.as (.int .i64 t4) ?_
 refine JL.es [(1, .pointer (some ⟨b2, 0, none⟩)), (2, .pointer (some ⟨b3, 0, none⟩)), (4, .int .i64 t4)] ?_
 refine J.sr ?_
 refine JL.mv (.int .i64 t4) ?_
 refine JL.pur (.bool (!decide (t4 = 0))) (some 9) ?_
 refine JL.es [(1, .pointer (some ⟨b2, 0, none⟩)), (2, .pointer (some ⟨b3, 0, none⟩)), (4, .int .i64 t4), (9, .bool (!decide (t4 = 0)))] ?_
 rcases ite_cases H0 with ⟨h6, H0⟩ | ⟨h6, H0⟩
 · refine J.cond_true h6 ?_
   refine J.sr ?_
   refine JL.pur (mv_23 zv_23) (some 10) ?_
   refine JL.mv (.int .i64 t4) ?_
   refine JL.store 1 b3 0 23 (cl_23 zv_23) (cl_23 zv_23) tySize_23 ?_
   refine JL.as (.int .i64 t4) ?_
   refine JL.es [(2, .pointer (some ⟨b3, 0, none⟩)), (3, .int .i64 t4)] ?_
   refine JQ.mask [At.box b3 23 (cl_23 zv_23)] [false, true] ?_
   refine J.ret ?_
   refine JQ.then_ret ?_
   obtain rfl := Option.some.inj H0
   exact JQ.done' (rs := [.cell 2 23, .tmp 3]) (vs := [.agg #[.int .i64 0, .int .i64 0, .int .i64 0], .int .i64 t4]) [] (.inr rfl) ⟨⟨b3, 0, _, _, by kernel_rfl, by kernel_rfl, holds_box b3 23 (cl_23 zv_23), .inl ⟨tyAgg_23, tySize_23, rfl⟩⟩, by kernel_rfl, trivial⟩ (fun _ h => Heap.to (Heap.pick [] (by decide) h)) ⟨rfl, rfl⟩
 · refine J.cond_false h6 ?_
   refine J.skip ?_
   refine JQ.ts [(1, .pointer (some ⟨b2, 0, none⟩)), (2, .pointer (some ⟨b3, 0, none⟩))] ?_
   refine J.seq ?_
   refine J.sr ?_
   refine JL.val (mv_23 a1) (some 12) (yields_load_boxes 0 0 (cl_23 a1) (holds_box b2 23 (cl_23 a1)) tyAgg_23 tySize_23) ?_
   obtain ⟨t7, hc8, H0⟩ := bind_some H0
   refine JL.call [] [] [] (cx_zero.ok a1 _ hc8) trivial ?_
   rintro _ _ ⟨rfl, rfl⟩
   refine JL.es [(1, .pointer (some ⟨b2, 0, none⟩)), (2, .pointer (some ⟨b3, 0, none⟩)), (13, .bool t7)] ?_
   rcases ite_cases H0 with ⟨h9, H0⟩ | ⟨h9, H0⟩
   · refine J.cond_true h9 ?_
     refine J.sr ?_
     refine JL.pur (mv_23 zv_23) (some 14) ?_
     refine JL.store 1 b3 0 23 (cl_23 zv_23) (cl_23 zv_23) tySize_23 ?_
     refine JL.as (.int .i64 18) ?_
     refine JL.es [(2, .pointer (some ⟨b3, 0, none⟩)), (3, .int .i64 18)] ?_
     refine JQ.mask [At.box b3 23 (cl_23 zv_23)] [false, true] ?_
     refine J.ret ?_
     refine JQ.then_ret ?_
     obtain rfl := Option.some.inj H0
     exact JQ.done' (rs := [.cell 2 23, .tmp 3]) (vs := [.agg #[.int .i64 0, .int .i64 0, .int .i64 0], .int .i64 18]) [] (.inr rfl) ⟨⟨b3, 0, _, _, by kernel_rfl, by kernel_rfl, holds_box b3 23 (cl_23 zv_23), .inl ⟨tyAgg_23, tySize_23, rfl⟩⟩, by kernel_rfl, trivial⟩ (fun _ h => Heap.to (Heap.pick [] (by decide) h)) ⟨rfl, rfl⟩
   · refine J.cond_false h9 ?_
     refine J.skip ?_
     refine JQ.ts [(1, .pointer (some ⟨b2, 0, none⟩)), (2, .pointer (some ⟨b3, 0, none⟩))] ?_
     refine J.sr ?_
     refine JL.pur (.pointer (some ⟨b2, 0, none⟩)) (some 15) ?_
     refine JL.val (.int .i64 a1.Re) (some 16) (yields_load_box 0 0 (holds_box b2 23 (cl_23 a1)) tyAgg_2) ?_
     refine JL.pur (.pointer (some ⟨b2, 1, none⟩)) (some 17) ?_
     refine JL.val (.int .i64 a1.Im) (some 18) (yields_load_box 0 1 (holds_box b2 23 (cl_23 a1)) tyAgg_2) ?_
     refine JL.buildSl 2 ((flInt .i64).kd) (([a1.Re, a1.Im] : List Int) : List Int) [.int .i64 a1.Re, .int .i64 a1.Im] false (closes_fl rfl) fun b10 => ?_
     obtain ⟨t11, hc12, H0⟩ := bind_some H0
     refine JL.call [] [] [] (cx_gcd.ok ([a1.Re, a1.Im] : List Int) (some ⟨b10, 0, none⟩) 2 _ hc12) ⟨pre_view 2 (view_row (some ⟨b10, 0, none⟩) 2 2 ((flInt .i64).kd) ([a1.Re, a1.Im] : List Int) false true), trivial⟩ ?_
     rintro _ _ ⟨rfl, rfl⟩
     refine JL.as (.int .i64 t11) ?_
     refine JL.es [(1, .pointer (some ⟨b2, 0, none⟩)), (2, .pointer (some ⟨b3, 0, none⟩)), (5, .int .i64 t11)] ?_
     refine JQ.mask [At.box b2 23 (cl_23 a1), At.box b3 23 (cl_23 zv_23)] [true, true, false] ?_
     refine J.seq ?_
     refine J.drawT 9 ?_
     refine QL.pur (.pointer (some ⟨b2, 0, none⟩)) (some 21) ?_
     refine QL.val (.int .i64 a1.Re) (some 22) (yields_load_box 0 0 (holds_box b2 23 (cl_23 a1)) tyAgg_2) ?_
     refine QL.mv (.int .i64 t11) ?_
     obtain ⟨h13, H0⟩ := ite_must H0
     refine QL.val (.int .i64 (w64 (Int.tdiv a1.Re t11))) (some 24) (gives_quo .i64 a1.Re t11 h13) ?_
     refine QL.pur (.pointer (some ⟨b2, 1, none⟩)) (some 25) ?_
     refine QL.val (.int .i64 a1.Im) (some 26) (yields_load_box 0 1 (holds_box b2 23 (cl_23 a1)) tyAgg_2) ?_
     refine QL.mv (.int .i64 t11) ?_
     obtain ⟨h14, H0⟩ := ite_must H0
     refine QL.val (.int .i64 (w64 (Int.tdiv a1.Im t11))) (some 28) (gives_quo .i64 a1.Im t11 h14) ?_
     refine QL.pur (.agg #[.int .i64 (w64 (Int.tdiv a1.Re t11)), .int .i64 (w64 (Int.tdiv a1.Im t11)), .int .i64 1]) (some 29) ?_
     refine QL.nil ?_
     refine JA.nil ?_
     refine JL.store 1 b3 0 23 (cl_23 zv_23) [.int .i64 (w64 (Int.tdiv a1.Re t11)), .int .i64 (w64 (Int.tdiv a1.Im t11)), .int .i64 1] tySize_23 ?_
     refine JL.as (.int .i64 0) ?_
     refine JL.es [(2, .pointer (some ⟨b3, 0, none⟩)), (3, .int .i64 0)] ?_
     refine JQ.mask [At.box b3 23 [.int .i64 (w64 (Int.tdiv a1.Re t11)), .int .i64 (w64 (Int.tdiv a1.Im t11)), .int .i64 1]] [false, true] ?_
     refine J.ret ?_
     obtain rfl := Option.some.inj H0
     exact JQ.done' (rs := [.cell 2 23, .tmp 3]) (vs := [.agg #[.int .i64 (w64 (Int.tdiv a1.Re t11)), .int .i64 (w64 (Int.tdiv a1.Im t11)), .int .i64 1], .int .i64 0]) [] (.inr rfl) ⟨⟨b3, 0, _, _, by kernel_rfl, by kernel_rfl, holds_box b3 23 [.int .i64 (w64 (Int.tdiv a1.Re t11)), .int .i64 (w64 (Int.tdiv a1.Im t11)), .int .i64 1], .inl ⟨tyAgg_23, tySize_23, rfl⟩⟩, by kernel_rfl, trivial⟩ (fun _ h => Heap.to (Heap.pick [] (by decide) h)) ⟨rfl, rfl⟩

theorem closure_Phase.ok (l1 : (List Vis)) (Aa2 : Option Addr) (c3 : Nat) (circle5 : (List Int)) (Aa6 : Option Addr) (c7 : Nat) (r : (Cx × Int)) (H0 : closure_Phase.f l1 circle5 = some r) :
    Does Try.prog 56 [.slice Aa2 l1.length c3, .slice Aa6 circle5.length c7].toArray [At.rd Aa2 c3 fl_Vis.kd l1 true, At.rd Aa6 c7 ((flInt .i64).kd) circle5 true] [] false (fun v Δ => v = .tuple #[mv_23 r.1, .int .i64 r.2] ∧ Δ = []) := by
 refine Does.body (vs := [.slice Aa2 l1.length c3, .slice Aa6 circle5.length c7]) Try.func56 rfl ⟨.inl rfl, .inl rfl, trivial⟩ trivial fun w S => ?_
 unfold closure_Phase.f at H0
 refine J.sr ?_
 refine JL.alloc (cl_23 zv_23) fun b9 => ?_
 refine JL.as (.int .i64 0) ?_
 refine JL.es [(0, .slice Aa2 l1.length c3), (1, .slice Aa6 circle5.length c7), (4, .pointer (some ⟨b9, 0, none⟩))] ?_
 refine J.seq ?_
 refine J.sr ?_
 refine JL.mv (.slice Aa2 l1.length c3) ?_
 obtain ⟨t10, hc11, H0⟩ := bind_some H0
 refine JL.call [] [] [] (closure_Check.ok l1 Aa2 c3 _ hc11) ⟨pre_any 0 (view_rd Aa2 c3 fl_Vis.kd l1 true true), trivial⟩ ?_
 rintro _ _ ⟨rfl, rfl⟩
 refine JL.as (.int .i64 t10) ?_
 refine JL.es [(0, .slice Aa2 l1.length c3), (1, .slice Aa6 circle5.length c7), (4, .pointer (some ⟨b9, 0, none⟩)), (6, .int .i64 t10)] ?_
 refine J.sr ?_
 refine JL.mv (.int .i64 t10) ?_
 refine JL.pur (.bool (!decide (t10 = 0))) (some 20) ?_
 refine JL.es [(0, .slice Aa2 l1.length c3), (1, .slice Aa6 circle5.length c7), (4, .pointer (some ⟨b9, 0, none⟩)), (6, .int .i64 t10), (20, .bool (!decide (t10 = 0)))] ?_
 rcases ite_cases H0 with ⟨h12, H0⟩ | ⟨h12, H0⟩
 · refine J.cond_true h12 ?_
   refine J.sr ?_
   refine JL.pur (mv_23 zv_23) (some 21) ?_
   refine JL.mv (.int .i64 t10) ?_
   refine JL.store 2 b9 0 23 (cl_23 zv_23) (cl_23 zv_23) tySize_23 ?_
   refine JL.as (.int .i64 t10) ?_
   refine JL.es [(4, .pointer (some ⟨b9, 0, none⟩)), (5, .int .i64 t10)] ?_
   refine JQ.mask [At.box b9 23 (cl_23 zv_23)] [false, false, true] ?_
   refine J.ret ?_
   refine JQ.then_ret ?_
   obtain rfl := Option.some.inj H0
   exact JQ.done' (rs := [.cell 4 23, .tmp 5]) (vs := [.agg #[.int .i64 0, .int .i64 0, .int .i64 0], .int .i64 t10]) [] (.inr rfl) ⟨⟨b9, 0, _, _, by kernel_rfl, by kernel_rfl, holds_box b9 23 (cl_23 zv_23), .inl ⟨tyAgg_23, tySize_23, rfl⟩⟩, by kernel_rfl, trivial⟩ (fun _ h => Heap.to (Heap.pick [] (by decide) h)) ⟨rfl, rfl⟩
 · refine J.cond_false h12 ?_
   refine J.skip ?_
   refine JQ.ts [(0, .slice Aa2 l1.length c3), (1, .slice Aa6 circle5.length c7), (4, .pointer (some ⟨b9, 0, none⟩))] ?_
   refine J.seq ?_
   refine J.join (T := Bool) (G := Unit) (fun t => closure_Phase.k1 l1 circle5 t = some r) (fun t g => [(0, .slice Aa2 l1.length c3), (1, .slice Aa6 circle5.length c7), (4, .pointer (some ⟨b9, 0, none⟩)), (35, .bool t)]) (fun t g => [At.rd Aa2 c3 fl_Vis.kd l1 true, At.rd Aa6 c7 ((flInt .i64).kd) circle5 true, At.box b9 23 (cl_23 zv_23)]) ?_ ?_
   · refine J.region ?_
     refine JL.mv (.slice Aa6 circle5.length c7) ?_
     refine JL.pur (.int .i64 (circle5.length : Int)) (some 24) ?_
     refine JL.pur (.bool (decide ((circle5.length : Int) < 3))) (some 25) ?_
     refine JL.mv (.bool (decide ((circle5.length : Int) < 3))) ?_
     rcases ite_cases H0 with ⟨h168, H0⟩ | ⟨h168, H0⟩
     · refine JL.off 3 26 false (some 27) h168 ?_
       refine JL.off 3 26 false (some 28) h168 ?_
       refine JL.off 3 26 false (some 29) h168 ?_
       refine JL.val (.bool true) (some 30) (gives_pickT h168) ?_
       refine JL.mv (.bool true) ?_
       refine JL.off 8 31 false (some 32) rfl ?_
       refine JL.off 8 31 false (some 33) rfl ?_
       refine JL.off 8 31 false (some 34) rfl ?_
       refine JL.val (.bool true) (some 35) (gives_pickT rfl) ?_
       refine JL.en ?_
       exact JQ.meet true () H0 (fun _ h => Heap.to h)
     · refine JL.on 3 26 h168 ?_
       refine JL.mv (.slice Aa6 circle5.length c7) ?_
       refine JL.on 3 26 h168 ?_
       refine JL.pur (.int .i64 (circle5.length : Int)) (some 28) ?_
       refine JL.on 3 26 h168 ?_
       refine JL.pur (.bool (decide (8 < (circle5.length : Int)))) (some 29) ?_
       refine JL.val (.bool (decide (8 < (circle5.length : Int)))) (some 30) (gives_pickF h168) ?_
       refine JL.mv (.bool (decide (8 < (circle5.length : Int)))) ?_
       rcases ite_cases H0 with ⟨h169, H0⟩ | ⟨h169, H0⟩
       · refine JL.off 8 31 false (some 32) h169 ?_
         refine JL.off 8 31 false (some 33) h169 ?_
         refine JL.off 8 31 false (some 34) h169 ?_
         refine JL.val (.bool true) (some 35) (gives_pickT h169) ?_
         refine JL.en ?_
         exact JQ.meet true () H0 (fun _ h => Heap.to h)
       · refine JL.on 8 31 h169 ?_
         refine JL.mv (.slice Aa6 circle5.length c7) ?_
         refine JL.on 8 31 h169 ?_
         obtain ⟨t170, hc171, H0⟩ := bind_some H0
         refine JL.call [] [] [] (closure_apart.ok circle5 Aa6 c7 _ hc171) ⟨pre_any 1 (view_rd Aa6 c7 ((flInt .i64).kd) circle5 true true), trivial⟩ ?_
         rintro _ _ ⟨rfl, rfl⟩
         refine JL.on 8 31 h169 ?_
         refine JL.pur (.bool (!t170)) (some 34) ?_
         refine JL.val (.bool (!t170)) (some 35) (gives_pickF h169) ?_
         refine JL.en ?_
         exact JQ.meet (!t170) () H0 (fun _ h => Heap.to h)
   · clear H0
     rintro x17 ⟨⟩ H0
     replace H0 : closure_Phase.k1 l1 circle5 x17 = some r := H0
     unfold closure_Phase.k1 at H0
     refine JQ.sub [(0, .slice Aa2 l1.length c3), (1, .slice Aa6 circle5.length c7), (4, .pointer (some ⟨b9, 0, none⟩)), (35, .bool x17)] ?_
     refine JQ.turn (Δ' := [At.rd Aa2 c3 fl_Vis.kd l1 true, At.rd Aa6 c7 ((flInt .i64).kd) circle5 true, At.box b9 23 (cl_23 zv_23)]) (fun _ h => h.to) ?_
     rcases ite_cases H0 with ⟨h18, H0⟩ | ⟨h18, H0⟩
     · refine J.cond_true h18 ?_
       refine J.sr ?_
       refine JL.pur (mv_23 zv_23) (some 36) ?_
       refine JL.store 2 b9 0 23 (cl_23 zv_23) (cl_23 zv_23) tySize_23 ?_
       refine JL.as (.int .i64 2) ?_
       refine JL.es [(4, .pointer (some ⟨b9, 0, none⟩)), (5, .int .i64 2)] ?_
       refine JQ.mask [At.box b9 23 (cl_23 zv_23)] [false, false, true] ?_
       refine J.ret ?_
       refine JQ.then_ret ?_
       obtain rfl := Option.some.inj H0
       exact JQ.done' (rs := [.cell 4 23, .tmp 5]) (vs := [.agg #[.int .i64 0, .int .i64 0, .int .i64 0], .int .i64 2]) [] (.inr rfl) ⟨⟨b9, 0, _, _, by kernel_rfl, by kernel_rfl, holds_box b9 23 (cl_23 zv_23), .inl ⟨tyAgg_23, tySize_23, rfl⟩⟩, by kernel_rfl, trivial⟩ (fun _ h => Heap.to (Heap.pick [] (by decide) h)) ⟨rfl, rfl⟩
     · refine J.cond_false h18 ?_
       refine J.skip ?_
       refine JQ.ts [(0, .slice Aa2 l1.length c3), (1, .slice Aa6 circle5.length c7), (4, .pointer (some ⟨b9, 0, none⟩))] ?_
       refine J.sr ?_
       refine JL.as (.slice none 0 0) ?_
       refine JL.en ?_
       refine J.seq ?_
       refine J.sr ?_
       refine JL.mv (.slice Aa6 circle5.length c7) ?_
       refine JL.pur (.int .i64 (circle5.length : Int)) (some 38) ?_
       refine JL.mv (.int .i64 0) ?_
       refine JL.en ?_
       obtain ⟨o1, hit, H0⟩ := bind_some H0
       refine J.loop (σ := ((List Pair) × Int)) (τ := List Pair) (G := ((Option Addr) × Nat)) (G' := ((Option Addr) × Nat)) _ o1 (fun s g => [(0, .slice Aa2 l1.length c3), (1, .slice Aa6 circle5.length c7), (4, .pointer (some ⟨b9, 0, none⟩)), (7, .slice g.1 s.1.length g.2), (37, .slice Aa6 circle5.length c7), (38, .int .i64 (circle5.length : Int)), (39, .int .i64 s.2)]) (fun s g => [At.rd Aa2 c3 fl_Vis.kd l1 true, At.rd Aa6 c7 ((flInt .i64).kd) circle5 true, At.box b9 23 (cl_23 zv_23), At.row g.1 g.2 78 fl_Pair.kd s.1 false]) (fun t => closure_Phase.k3 l1 t = some r) (fun t g => [(0, .slice Aa2 l1.length c3), (4, .pointer (some ⟨b9, 0, none⟩)), (7, .slice g.1 t.length g.2)]) (fun t g => [At.rd Aa2 c3 fl_Vis.kd l1 true, At.box b9 23 (cl_23 zv_23), At.row g.1 g.2 78 fl_Pair.kd t false]) ([], 0) (none, 0) hit (fun _ h => Heap.to (Heap.addRow0 (α := Pair) 78 fl_Pair.kd false h)) ?_ ?_
       · clear hit
         rintro ⟨steps59, x63⟩ ⟨Aa60, c61⟩ st1 H1 hb1 hr1
         replace H1 : closure_Phase.s2 circle5 steps59 x63 = some st1 := H1
         unfold closure_Phase.s2 at H1
         refine JQ.sub [(0, .slice Aa2 l1.length c3), (1, .slice Aa6 circle5.length c7), (4, .pointer (some ⟨b9, 0, none⟩)), (7, .slice Aa60 steps59.length c61), (37, .slice Aa6 circle5.length c7), (38, .int .i64 (circle5.length : Int)), (39, .int .i64 x63)] ?_
         refine JQ.turn (Δ' := [At.rd Aa2 c3 fl_Vis.kd l1 true, At.rd Aa6 c7 ((flInt .i64).kd) circle5 true, At.box b9 23 (cl_23 zv_23), At.row Aa60 c61 78 fl_Pair.kd steps59 false]) (fun _ h => h.to) ?_
         refine J.sr ?_
         refine JL.pur (.bool (decide (x63 < (circle5.length : Int)))) (some 40) ?_
         refine JL.en ?_
         refine J.seq ?_
         rcases ite_cases H1 with ⟨h153, H1⟩ | ⟨h153, H1⟩
         · refine J.cond_true h153 ?_
           refine J.skip ?_
           refine JQ.ts [(0, .slice Aa2 l1.length c3), (1, .slice Aa6 circle5.length c7), (4, .pointer (some ⟨b9, 0, none⟩)), (7, .slice Aa60 steps59.length c61), (37, .slice Aa6 circle5.length c7), (38, .int .i64 (circle5.length : Int)), (39, .int .i64 x63)] ?_
           refine J.seq ?_
           refine J.block ?_
           refine J.sr ?_
           refine JL.mv (.int .i64 x63) ?_
           obtain ⟨⟨h154, h155⟩, H1⟩ := ite_must H1
           refine JL.ixAddr 1 1 c7 .i64 (elems_rd Aa6 c7 ((flInt .i64).kd) circle5 true) Try.underlying90 tySize_3 h154 h155 fun g156 o157 hA => ?_
           subst hA
           refine JL.val (.int .i64 (ix circle5 x63)) (some 43) (gives_loadEl (f := (flInt .i64)) 1 0 x63 (elems_rd (some ⟨g156, o157, none⟩) c7 ((flInt .i64).kd) circle5 true) h154 h155 tySize_3 (.inr ⟨tyAgg_3, rfl, rfl⟩)) ?_
           refine JL.as (.int .i64 x63) ?_
           obtain ⟨i158, ei158, H1⟩ := lt_some H1
           refine JL.as' (k := .i64) i158 ei158 ?_
           refine JL.es [(0, .slice Aa2 l1.length c3), (1, .slice (some ⟨g156, o157, none⟩) circle5.length c7), (4, .pointer (some ⟨b9, 0, none⟩)), (7, .slice Aa60 steps59.length c61), (8, .int .i64 x63), (9, .int .i64 i158), (37, .slice (some ⟨g156, o157, none⟩) circle5.length c7), (38, .int .i64 (circle5.length : Int)), (39, .int .i64 x63)] ?_
           refine J.region ?_
           refine JL.mv (.slice Aa60 steps59.length c61) ?_
           refine JL.mv (.int .i64 i158) ?_
           refine JL.mv (.slice (some ⟨g156, o157, none⟩) circle5.length c7) ?_
           refine JL.mv (.int .i64 x63) ?_
           refine JL.pur (.int .i64 (w64 (x63 + 1))) (some 48) ?_
           refine JL.mv (.slice (some ⟨g156, o157, none⟩) circle5.length c7) ?_
           refine JL.pur (.int .i64 (circle5.length : Int)) (some 50) ?_
           obtain ⟨h159, H1⟩ := ite_must H1
           refine JL.val (.int .i64 (Int.tmod (w64 (x63 + 1)) (circle5.length : Int))) (some 51) (gives_rem .i64 (w64 (x63 + 1)) (circle5.length : Int) h159) ?_
           obtain ⟨⟨h160, h161⟩, H1⟩ := ite_must H1
           refine JL.ixAddr' 1 1 c7 .i64 (elems_rd (some ⟨g156, o157, none⟩) c7 ((flInt .i64).kd) circle5 true) Try.underlying90 tySize_3 h160 h161 ?_
           refine JL.val (.int .i64 (ix circle5 (Int.tmod (w64 (x63 + 1)) (circle5.length : Int)))) (some 53) (gives_loadEl (f := (flInt .i64)) 1 0 (Int.tmod (w64 (x63 + 1)) (circle5.length : Int)) (elems_rd (some ⟨g156, o157, none⟩) c7 ((flInt .i64).kd) circle5 true) h160 h161 tySize_3 (.inr ⟨tyAgg_3, rfl, rfl⟩)) ?_
           refine JL.pur (.agg #[.int .i64 i158, .int .i64 (ix circle5 (Int.tmod (w64 (x63 + 1)) (circle5.length : Int)))]) (some 54) ?_
           refine JL.buildSl 78 fl_Pair.kd (([(⟨i158, (ix circle5 (Int.tmod (w64 (x63 + 1)) (circle5.length : Int)))⟩ : Pair)] : List Pair) : List Pair) [.int .i64 i158, .int .i64 (ix circle5 (Int.tmod (w64 (x63 + 1)) (circle5.length : Int)))] false (closes_fl rfl) fun b164 => ?_
           obtain ⟨h167, H1⟩ := ite_must H1
           refine JL.append false false 3 4 Aa60 c61 1 steps59 (elems_row (some ⟨b164, 0, none⟩) 1 78 fl_Pair.kd ([(⟨i158, (ix circle5 (Int.tmod (w64 (x63 + 1)) (circle5.length : Int)))⟩ : Pair)] : List Pair) false) Try.underlying115 info_78 (by omega) (by omega) (fun h => h) (.inr ⟨_, rfl⟩) fun Aa165 c166 => ?_
           refine JL.as (.slice Aa165 (steps59 ++ ([(⟨i158, (ix circle5 (Int.tmod (w64 (x63 + 1)) (circle5.length : Int)))⟩ : Pair)] : List Pair)).length c166) ?_
           refine JL.end_ ?_
           refine JQ.blk_normal ?_
           refine JQ.ts [(0, .slice Aa2 l1.length c3), (1, .slice (some ⟨g156, o157, none⟩) circle5.length c7), (4, .pointer (some ⟨b9, 0, none⟩)), (7, .slice Aa165 (steps59 ++ ([(⟨i158, (ix circle5 (Int.tmod (w64 (x63 + 1)) (circle5.length : Int)))⟩ : Pair)] : List Pair)).length c166), (37, .slice (some ⟨g156, o157, none⟩) circle5.length c7), (38, .int .i64 (circle5.length : Int)), (39, .int .i64 x63)] ?_
           refine JQ.mask [At.rd Aa2 c3 fl_Vis.kd l1 true, At.rd (some ⟨g156, o157, none⟩) c7 ((flInt .i64).kd) circle5 true, At.box b9 23 (cl_23 zv_23), At.row Aa165 c166 78 fl_Pair.kd (steps59 ++ ([(⟨i158, (ix circle5 (Int.tmod (w64 (x63 + 1)) (circle5.length : Int)))⟩ : Pair)] : List Pair)) false] [true, true, true, true, false] ?_
           refine J.region ?_
           refine JL.pur (.int .i64 (w64 (x63 + 1))) (some 57) ?_
           refine JL.mv (.int .i64 (w64 (x63 + 1))) ?_
           refine JL.en ?_
           exact JQ.again ((steps59 ++ ([(⟨i158, (ix circle5 (Int.tmod (w64 (x63 + 1)) (circle5.length : Int)))⟩ : Pair)] : List Pair)), w64 (x63 + 1)) (Aa165, c166) (Option.some.inj H1).symm (fun _ h => Heap.to h)
         · refine J.cond_false h153 ?_
           refine J.exit ?_
           refine JQ.then_exit ?_
           refine JQ.then_exit ?_
           refine JQ.blk_exit ?_
           rw [hb1 _ (Option.some.inj H1).symm, fin_brk] at H0
           exact JQ.met steps59 (Aa60, c61) H0 (fun _ h => Heap.to (Heap.pick [0, 2, 3] (by decide) h))
       · clear hit H0
         rintro steps79 ⟨Aa80, c81⟩ H0
         replace H0 : closure_Phase.k3 l1 steps79 = some r := H0
         unfold closure_Phase.k3 at H0
         refine JQ.sub [(0, .slice Aa2 l1.length c3), (4, .pointer (some ⟨b9, 0, none⟩)), (7, .slice Aa80 steps79.length c81)] ?_
         refine JQ.turn (Δ' := [At.rd Aa2 c3 fl_Vis.kd l1 true, At.box b9 23 (cl_23 zv_23), At.row Aa80 c81 78 fl_Pair.kd steps79 false]) (fun _ h => h.to) ?_
         refine JQ.then_normal ?_
         refine J.sr ?_
         refine JL.mv (.slice Aa2 l1.length c3) ?_
         refine JL.mv (.slice Aa80 steps79.length c81) ?_
         obtain ⟨t83, hc84, H0⟩ := bind_some H0
         refine JL.call [] [] [] (closure_along.ok l1 Aa2 c3 steps79 Aa80 c81 _ hc84) ⟨pre_any 0 (view_rd Aa2 c3 fl_Vis.kd l1 true true), ⟨pre_view 2 (view_row Aa80 c81 78 fl_Pair.kd steps79 false true), trivial⟩⟩ ?_
         rintro _ _ ⟨Aa85, c86, rfl, rfl⟩
         refine JL.mv (.tuple #[.slice Aa85 t83.1.length c86, .int .i64 t83.2]) ?_
         refine JL.pur (.slice Aa85 t83.1.length c86) (some 62) ?_
         refine JL.pur (.int .i64 t83.2) (some 63) ?_
         refine JL.as (.slice Aa85 t83.1.length c86) ?_
         refine JL.as (.int .i64 t83.2) ?_
         refine JL.es [(4, .pointer (some ⟨b9, 0, none⟩)), (10, .slice Aa85 t83.1.length c86), (11, .int .i64 t83.2)] ?_
         refine JQ.mask [At.box b9 23 (cl_23 zv_23), At.row Aa85 c86 23 fl_Cx.kd t83.1 false] [false, true, false, true] ?_
         refine J.seq ?_
         refine J.sr ?_
         refine JL.mv (.int .i64 t83.2) ?_
         refine JL.pur (.bool (!decide (t83.2 = 0))) (some 65) ?_
         refine JL.es [(4, .pointer (some ⟨b9, 0, none⟩)), (10, .slice Aa85 t83.1.length c86), (11, .int .i64 t83.2), (65, .bool (!decide (t83.2 = 0)))] ?_
         rcases ite_cases H0 with ⟨h88, H0⟩ | ⟨h88, H0⟩
         · refine J.cond_true h88 ?_
           refine J.sr ?_
           refine JL.pur (mv_23 zv_23) (some 66) ?_
           refine JL.mv (.int .i64 t83.2) ?_
           refine JL.store 0 b9 0 23 (cl_23 zv_23) (cl_23 zv_23) tySize_23 ?_
           refine JL.as (.int .i64 t83.2) ?_
           refine JL.es [(4, .pointer (some ⟨b9, 0, none⟩)), (5, .int .i64 t83.2)] ?_
           refine JQ.mask [At.box b9 23 (cl_23 zv_23)] [true, false] ?_
           refine J.ret ?_
           refine JQ.then_ret ?_
           obtain rfl := Option.some.inj H0
           exact JQ.done' (rs := [.cell 4 23, .tmp 5]) (vs := [.agg #[.int .i64 0, .int .i64 0, .int .i64 0], .int .i64 t83.2]) [] (.inr rfl) ⟨⟨b9, 0, _, _, by kernel_rfl, by kernel_rfl, holds_box b9 23 (cl_23 zv_23), .inl ⟨tyAgg_23, tySize_23, rfl⟩⟩, by kernel_rfl, trivial⟩ (fun _ h => Heap.to (Heap.pick [] (by decide) h)) ⟨rfl, rfl⟩
         · refine J.cond_false h88 ?_
           refine J.skip ?_
           refine JQ.ts [(4, .pointer (some ⟨b9, 0, none⟩)), (10, .slice Aa85 t83.1.length c86)] ?_
           refine J.sr ?_
           refine JL.pur (.agg #[.int .i64 1, .int .i64 0, .int .i64 1]) (some 68) ?_
           refine JL.alloc (cl_23 zv_23) fun b89 => ?_
           refine JL.store 2 b89 0 23 (cl_23 zv_23) [.int .i64 1, .int .i64 0, .int .i64 1] tySize_23 ?_
           refine JL.es [(4, .pointer (some ⟨b9, 0, none⟩)), (10, .slice Aa85 t83.1.length c86), (12, .pointer (some ⟨b89, 0, none⟩))] ?_
           refine J.seq ?_
           refine J.sr ?_
           refine JL.mv (.slice Aa85 t83.1.length c86) ?_
           refine JL.pur (.int .i64 (t83.1.length : Int)) (some 70) ?_
           refine JL.mv (.int .i64 0) ?_
           refine JL.es [(4, .pointer (some ⟨b9, 0, none⟩)), (12, .pointer (some ⟨b89, 0, none⟩)), (69, .slice Aa85 t83.1.length c86), (70, .int .i64 (t83.1.length : Int)), (71, .int .i64 0)] ?_
           obtain ⟨o1, hit, H0⟩ := bind_some H0
           refine J.loop (σ := (Cx × Int)) (τ := Cx) (G := Unit) (G' := Unit) _ o1 (fun s g => [(4, .pointer (some ⟨b9, 0, none⟩)), (12, .pointer (some ⟨b89, 0, none⟩)), (69, .slice Aa85 t83.1.length c86), (70, .int .i64 (t83.1.length : Int)), (71, .int .i64 s.2)]) (fun s g => [At.box b9 23 (cl_23 zv_23), At.box b89 23 (cl_23 s.1), At.row Aa85 c86 23 fl_Cx.kd t83.1 false]) (fun t => closure_Phase.k5 t = some r) (fun t g => [(4, .pointer (some ⟨b9, 0, none⟩)), (12, .pointer (some ⟨b89, 0, none⟩))]) (fun t g => [At.box b9 23 (cl_23 zv_23), At.box b89 23 (cl_23 t)]) ((⟨1, 0, 1⟩ : Cx), 0) () hit (fun _ h => Heap.to (Heap.pick [0, 2, 1] (by decide) h)) ?_ ?_
           · clear hit
             rintro ⟨p122, x123⟩ ⟨⟩ st1 H1 hb1 hr1
             replace H1 : closure_Phase.s4 t83 p122 x123 = some st1 := H1
             unfold closure_Phase.s4 at H1
             refine JQ.sub [(4, .pointer (some ⟨b9, 0, none⟩)), (12, .pointer (some ⟨b89, 0, none⟩)), (69, .slice Aa85 t83.1.length c86), (70, .int .i64 (t83.1.length : Int)), (71, .int .i64 x123)] ?_
             refine JQ.turn (Δ' := [At.box b9 23 (cl_23 zv_23), At.box b89 23 (cl_23 p122), At.row Aa85 c86 23 fl_Cx.kd t83.1 false]) (fun _ h => h.to) ?_
             refine J.sr ?_
             refine JL.pur (.bool (decide (x123 < (t83.1.length : Int)))) (some 72) ?_
             refine JL.en ?_
             refine J.seq ?_
             rcases ite_cases H1 with ⟨h139, H1⟩ | ⟨h139, H1⟩
             · refine J.cond_true h139 ?_
               refine J.skip ?_
               refine JQ.ts [(4, .pointer (some ⟨b9, 0, none⟩)), (12, .pointer (some ⟨b89, 0, none⟩)), (69, .slice Aa85 t83.1.length c86), (70, .int .i64 (t83.1.length : Int)), (71, .int .i64 x123)] ?_
               refine J.seq ?_
               refine J.block ?_
               refine J.sr ?_
               obtain ⟨⟨h140, h141⟩, H1⟩ := ite_must H1
               refine JL.ixAddr 2 3 c86 .i64 (elems_row Aa85 c86 23 fl_Cx.kd t83.1 false) Try.underlying28 tySize_23 h140 h141 fun g142 o143 hA => ?_
               subst hA
               refine JL.val (mv_23 (ix t83.1 x123)) (some 74) (gives_loadEl (f := fl_Cx) 2 0 x123 (elems_row (some ⟨g142, o143, none⟩) c86 23 fl_Cx.kd t83.1 false) h140 h141 tySize_23 (.inl ⟨tyAgg_23, rfl⟩)) ?_
               refine JL.alloc (cl_23 zv_23) fun b144 => ?_
               refine JL.store 3 b144 0 23 (cl_23 zv_23) (cl_23 (ix t83.1 x123)) tySize_23 ?_
               refine JL.es [(4, .pointer (some ⟨b9, 0, none⟩)), (12, .pointer (some ⟨b89, 0, none⟩)), (14, .pointer (some ⟨b144, 0, none⟩)), (69, .slice (some ⟨g142, o143, none⟩) t83.1.length c86), (70, .int .i64 (t83.1.length : Int)), (71, .int .i64 x123)] ?_
               refine J.sr ?_
               refine JL.val (mv_23 (ix t83.1 x123)) (some 76) (yields_load_boxes 3 0 (cl_23 (ix t83.1 x123)) (holds_box b144 23 (cl_23 (ix t83.1 x123))) tyAgg_23 tySize_23) ?_
               obtain ⟨t145, hc146, H1⟩ := bind_some H1
               refine JL.call [] [] [] (cx_Ray.ok (ix t83.1 x123) _ hc146) trivial ?_
               rintro _ _ ⟨rfl, rfl⟩
               refine JL.mv (.tuple #[mv_23 t145.1, .int .i64 t145.2]) ?_
               refine JL.pur (mv_23 t145.1) (some 78) ?_
               refine JL.pur (.int .i64 t145.2) (some 79) ?_
               refine JL.alloc (cl_23 zv_23) fun b147 => ?_
               refine JL.store 4 b147 0 23 (cl_23 zv_23) (cl_23 t145.1) tySize_23 ?_
               refine JL.as (.int .i64 t145.2) ?_
               refine JL.es [(4, .pointer (some ⟨b9, 0, none⟩)), (12, .pointer (some ⟨b89, 0, none⟩)), (15, .pointer (some ⟨b147, 0, none⟩)), (69, .slice (some ⟨g142, o143, none⟩) t83.1.length c86), (70, .int .i64 (t83.1.length : Int)), (71, .int .i64 x123)] ?_
               refine JQ.mask [At.box b9 23 (cl_23 zv_23), At.box b89 23 (cl_23 p122), At.row (some ⟨g142, o143, none⟩) c86 23 fl_Cx.kd t83.1 false, At.box b147 23 (cl_23 t145.1)] [true, true, true, false, true] ?_
               refine J.seq ?_
               refine J.sr ?_
               refine JL.val (mv_23 p122) (some 81) (yields_load_boxes 1 0 (cl_23 p122) (holds_box b89 23 (cl_23 p122)) tyAgg_23 tySize_23) ?_
               refine JL.val (mv_23 t145.1) (some 82) (yields_load_boxes 3 0 (cl_23 t145.1) (holds_box b147 23 (cl_23 t145.1)) tyAgg_23 tySize_23) ?_
               obtain ⟨t148, hc149, H1⟩ := bind_some H1
               refine JL.call [] [] [] (cx_Mul.ok p122 t145.1 _ hc149) trivial ?_
               rintro _ _ ⟨rfl, rfl⟩
               refine JL.mv (.tuple #[mv_23 t148.1, .int .i64 t148.2]) ?_
               refine JL.pur (mv_23 t148.1) (some 84) ?_
               refine JL.pur (.int .i64 t148.2) (some 85) ?_
               refine JL.store 1 b89 0 23 (cl_23 p122) (cl_23 t148.1) tySize_23 ?_
               refine JL.as (.int .i64 t148.2) ?_
               refine JL.es [(4, .pointer (some ⟨b9, 0, none⟩)), (11, .int .i64 t148.2), (12, .pointer (some ⟨b89, 0, none⟩)), (69, .slice (some ⟨g142, o143, none⟩) t83.1.length c86), (70, .int .i64 (t83.1.length : Int)), (71, .int .i64 x123)] ?_
               refine JQ.mask [At.box b9 23 (cl_23 zv_23), At.box b89 23 (cl_23 t148.1), At.row (some ⟨g142, o143, none⟩) c86 23 fl_Cx.kd t83.1 false] [true, true, true, false] ?_
               refine J.sr ?_
               refine JL.mv (.int .i64 t148.2) ?_
               refine JL.pur (.bool (!decide (t148.2 = 0))) (some 87) ?_
               refine JL.es [(4, .pointer (some ⟨b9, 0, none⟩)), (12, .pointer (some ⟨b89, 0, none⟩)), (69, .slice (some ⟨g142, o143, none⟩) t83.1.length c86), (70, .int .i64 (t83.1.length : Int)), (71, .int .i64 x123), (87, .bool (!decide (t148.2 = 0)))] ?_
               rcases ite_cases H1 with ⟨h150, H1⟩ | ⟨h150, H1⟩
               · refine J.cond_true h150 ?_
                 refine J.sr ?_
                 refine JL.pur (mv_23 zv_23) (some 88) ?_
                 refine JL.store 0 b9 0 23 (cl_23 zv_23) (cl_23 zv_23) tySize_23 ?_
                 refine JL.as (.int .i64 16) ?_
                 refine JL.es [(4, .pointer (some ⟨b9, 0, none⟩)), (5, .int .i64 16)] ?_
                 refine JQ.mask [At.box b9 23 (cl_23 zv_23)] [true, false, false] ?_
                 refine J.ret ?_
                 refine JQ.then_ret ?_
                 refine JQ.blk_ret ?_
                 refine JQ.then_ret ?_
                 refine JQ.then_ret ?_
                 refine JQ.blk_ret ?_
                 refine JQ.met_ret ?_
                 refine JQ.then_ret ?_
                 rw [hr1 _ (Option.some.inj H1).symm, fin_ret] at H0
                 obtain rfl := Option.some.inj H0
                 exact JQ.done' (rs := [.cell 4 23, .tmp 5]) (vs := [.agg #[.int .i64 0, .int .i64 0, .int .i64 0], .int .i64 16]) [] (.inr rfl) ⟨⟨b9, 0, _, _, by kernel_rfl, by kernel_rfl, holds_box b9 23 (cl_23 zv_23), .inl ⟨tyAgg_23, tySize_23, rfl⟩⟩, by kernel_rfl, trivial⟩ (fun _ h => Heap.to (Heap.pick [] (by decide) h)) ⟨rfl, rfl⟩
               · refine J.cond_false h150 ?_
                 refine J.skip ?_
                 refine JQ.ts [(4, .pointer (some ⟨b9, 0, none⟩)), (12, .pointer (some ⟨b89, 0, none⟩)), (69, .slice (some ⟨g142, o143, none⟩) t83.1.length c86), (70, .int .i64 (t83.1.length : Int)), (71, .int .i64 x123)] ?_
                 refine J.region ?_
                 refine JL.val (mv_23 t148.1) (some 90) (yields_load_boxes 1 0 (cl_23 t148.1) (holds_box b89 23 (cl_23 t148.1)) tyAgg_23 tySize_23) ?_
                 obtain ⟨t151, hc152, H1⟩ := bind_some H1
                 refine JL.call [] [] [] (cx_Ray.ok t148.1 _ hc152) trivial ?_
                 rintro _ _ ⟨rfl, rfl⟩
                 refine JL.mv (.tuple #[mv_23 t151.1, .int .i64 t151.2]) ?_
                 refine JL.pur (mv_23 t151.1) (some 92) ?_
                 refine JL.pur (.int .i64 t151.2) (some 93) ?_
                 refine JL.store 1 b89 0 23 (cl_23 t148.1) (cl_23 t151.1) tySize_23 ?_
                 refine JL.end_ ?_
                 refine JQ.blk_normal ?_
                 refine JQ.ts [(4, .pointer (some ⟨b9, 0, none⟩)), (12, .pointer (some ⟨b89, 0, none⟩)), (69, .slice (some ⟨g142, o143, none⟩) t83.1.length c86), (70, .int .i64 (t83.1.length : Int)), (71, .int .i64 x123)] ?_
                 refine J.region ?_
                 refine JL.pur (.int .i64 (w64 (x123 + 1))) (some 94) ?_
                 refine JL.mv (.int .i64 (w64 (x123 + 1))) ?_
                 refine JL.en ?_
                 exact JQ.again (t151.1, w64 (x123 + 1)) () (Option.some.inj H1).symm (fun _ h => Heap.to h)
             · refine J.cond_false h139 ?_
               refine J.exit ?_
               refine JQ.then_exit ?_
               refine JQ.then_exit ?_
               refine JQ.blk_exit ?_
               rw [hb1 _ (Option.some.inj H1).symm, fin_brk] at H0
               exact JQ.met p122 () H0 (fun _ h => Heap.to (Heap.pick [0, 1] (by decide) h))
           · clear hit H0
             rintro p138 ⟨⟩ H0
             replace H0 : closure_Phase.k5 p138 = some r := H0
             unfold closure_Phase.k5 at H0
             refine JQ.sub [(4, .pointer (some ⟨b9, 0, none⟩)), (12, .pointer (some ⟨b89, 0, none⟩))] ?_
             refine JQ.turn (Δ' := [At.box b9 23 (cl_23 zv_23), At.box b89 23 (cl_23 p138)]) (fun _ h => h.to) ?_
             refine JQ.then_normal ?_
             refine J.sr ?_
             refine JL.val (mv_23 p138) (some 95) (yields_load_boxes 1 0 (cl_23 p138) (holds_box b89 23 (cl_23 p138)) tyAgg_23 tySize_23) ?_
             refine JL.store 0 b9 0 23 (cl_23 zv_23) (cl_23 p138) tySize_23 ?_
             refine JL.as (.int .i64 0) ?_
             refine JL.es [(4, .pointer (some ⟨b9, 0, none⟩)), (5, .int .i64 0)] ?_
             refine JQ.mask [At.box b9 23 (cl_23 p138)] [true, false] ?_
             refine J.ret ?_
             obtain rfl := Option.some.inj H0
             exact JQ.done' (rs := [.cell 4 23, .tmp 5]) (vs := [.agg #[.int .i64 p138.Re, .int .i64 p138.Im, .int .i64 p138.Den], .int .i64 0]) [] (.inr rfl) ⟨⟨b9, 0, _, _, by kernel_rfl, by kernel_rfl, holds_box b9 23 (cl_23 p138), .inl ⟨tyAgg_23, tySize_23, rfl⟩⟩, by kernel_rfl, trivial⟩ (fun _ h => Heap.to (Heap.pick [] (by decide) h)) ⟨rfl, rfl⟩

theorem corrupt_stations.ok (l1 : (List Vis)) (Aa2 : Option Addr) (c3 : Nat) (r : (List Int)) (H0 : corrupt_stations.f l1 = some r) :
    Does Try.prog 60 [.slice Aa2 l1.length c3].toArray [At.rd Aa2 c3 fl_Vis.kd l1 true] [] false (fun v Δ => ∃ A1001 : Option Addr, ∃ c1001 : Nat, v = .slice A1001 r.length c1001 ∧ Δ = [At.row A1001 c1001 3 ((flInt .i64).kd) r false]) := by
 refine Does.body (vs := [.slice Aa2 l1.length c3]) Try.func60 rfl ⟨.inl rfl, trivial⟩ trivial fun w S => ?_
 unfold corrupt_stations.f at H0
 refine J.sr ?_
 refine JL.as (.slice none 0 0) ?_
 refine JL.es [(0, .slice Aa2 l1.length c3)] ?_
 refine J.sr ?_
 refine JL.as (.slice none 0 0) ?_
 refine JL.en ?_
 refine J.seq ?_
 refine J.sr ?_
 refine JL.mv (.slice Aa2 l1.length c3) ?_
 refine JL.pur (.int .i64 (l1.length : Int)) (some 7) ?_
 refine JL.mv (.int .i64 0) ?_
 refine JL.es [(3, .slice none 0 0), (6, .slice Aa2 l1.length c3), (7, .int .i64 (l1.length : Int)), (8, .int .i64 0)] ?_
 obtain ⟨o1, hit, H0⟩ := bind_some H0
 refine J.loop (σ := ((List Int) × Int)) (τ := List Int) (G := ((Option Addr) × Nat)) (G' := ((Option Addr) × Nat)) _ o1 (fun s g => [(3, .slice g.1 s.1.length g.2), (6, .slice Aa2 l1.length c3), (7, .int .i64 (l1.length : Int)), (8, .int .i64 s.2)]) (fun s g => [At.row g.1 g.2 3 ((flInt .i64).kd) s.1 false, At.rd Aa2 c3 fl_Vis.kd l1 true]) (fun t => corrupt_stations.k2 t = some r) (fun t g => [(3, .slice g.1 t.length g.2)]) (fun t g => [At.row g.1 g.2 3 ((flInt .i64).kd) t false]) ([], 0) (none, 0) hit (fun _ h => Heap.to (Heap.pick [1, 0] (by decide) (Heap.addRow0 (α := Int) 3 ((flInt .i64).kd) false h))) ?_ ?_
 · clear hit
   rintro ⟨out36, x40⟩ ⟨Aa37, c38⟩ st1 H1 hb1 hr1
   replace H1 : corrupt_stations.s1 l1 out36 x40 = some st1 := H1
   unfold corrupt_stations.s1 at H1
   refine JQ.sub [(3, .slice Aa37 out36.length c38), (6, .slice Aa2 l1.length c3), (7, .int .i64 (l1.length : Int)), (8, .int .i64 x40)] ?_
   refine JQ.turn (Δ' := [At.row Aa37 c38 3 ((flInt .i64).kd) out36 false, At.rd Aa2 c3 fl_Vis.kd l1 true]) (fun _ h => h.to) ?_
   refine J.sr ?_
   refine JL.pur (.bool (decide (x40 < (l1.length : Int)))) (some 9) ?_
   refine JL.en ?_
   refine J.seq ?_
   rcases ite_cases H1 with ⟨h60, H1⟩ | ⟨h60, H1⟩
   · refine J.cond_true h60 ?_
     refine J.skip ?_
     refine JQ.ts [(3, .slice Aa37 out36.length c38), (6, .slice Aa2 l1.length c3), (7, .int .i64 (l1.length : Int)), (8, .int .i64 x40)] ?_
     refine J.seq ?_
     refine J.block ?_
     refine J.sr ?_
     obtain ⟨⟨h61, h62⟩, H1⟩ := ite_must H1
     refine JL.ixAddr 1 6 c3 .i64 (elems_rd Aa2 c3 fl_Vis.kd l1 true) Try.underlying48 tySize_47 h61 h62 fun g63 o64 hA => ?_
     subst hA
     refine JL.val (mv_47 (ix l1 x40)) (some 11) (gives_loadEl (f := fl_Vis) 1 0 x40 (elems_rd (some ⟨g63, o64, none⟩) c3 fl_Vis.kd l1 true) h61 h62 tySize_47 (.inl ⟨tyAgg_47, rfl⟩)) ?_
     refine JL.alloc (cl_47 zv_47) fun b65 => ?_
     refine JL.store 2 b65 0 47 (cl_47 zv_47) (cl_47 (ix l1 x40)) tySize_47 ?_
     refine JL.es [(3, .slice Aa37 out36.length c38), (5, .pointer (some ⟨b65, 0, none⟩)), (6, .slice (some ⟨g63, o64, none⟩) l1.length c3), (7, .int .i64 (l1.length : Int)), (8, .int .i64 x40)] ?_
     refine J.region ?_
     refine JL.mv (.slice Aa37 out36.length c38) ?_
     refine JL.pur (.pointer (some ⟨b65, 0, none⟩)) (some 13) ?_
     refine JL.val (.int .i64 ((ix l1 x40).I)) (some 14) (yields_load_box 2 0 (holds_box b65 47 (cl_47 (ix l1 x40))) tyAgg_3) ?_
     refine JL.pur (.pointer (some ⟨b65, 1, none⟩)) (some 15) ?_
     refine JL.val (.int .i64 ((ix l1 x40).J)) (some 16) (yields_load_box 2 1 (holds_box b65 47 (cl_47 (ix l1 x40))) tyAgg_3) ?_
     refine JL.buildSl 3 ((flInt .i64).kd) (([((ix l1 x40).I), ((ix l1 x40).J)] : List Int) : List Int) [.int .i64 ((ix l1 x40).I), .int .i64 ((ix l1 x40).J)] false (closes_fl rfl) fun b66 => ?_
     obtain ⟨h69, H1⟩ := ite_must H1
     refine JL.append false false 0 3 Aa37 c38 2 out36 (elems_row (some ⟨b66, 0, none⟩) 2 3 ((flInt .i64).kd) ([((ix l1 x40).I), ((ix l1 x40).J)] : List Int) false) Try.underlying90 info_3 (by omega) (by omega) (fun h => h) (.inr ⟨_, rfl⟩) fun Aa67 c68 => ?_
     refine JL.as (.slice Aa67 (out36 ++ ([((ix l1 x40).I), ((ix l1 x40).J)] : List Int)).length c68) ?_
     refine JL.end_ ?_
     refine JQ.blk_normal ?_
     refine JQ.ts [(3, .slice Aa67 (out36 ++ ([((ix l1 x40).I), ((ix l1 x40).J)] : List Int)).length c68), (6, .slice (some ⟨g63, o64, none⟩) l1.length c3), (7, .int .i64 (l1.length : Int)), (8, .int .i64 x40)] ?_
     refine JQ.mask [At.row Aa67 c68 3 ((flInt .i64).kd) (out36 ++ ([((ix l1 x40).I), ((ix l1 x40).J)] : List Int)) false, At.rd (some ⟨g63, o64, none⟩) c3 fl_Vis.kd l1 true] [true, true, false, false] ?_
     refine J.region ?_
     refine JL.pur (.int .i64 (w64 (x40 + 1))) (some 19) ?_
     refine JL.mv (.int .i64 (w64 (x40 + 1))) ?_
     refine JL.en ?_
     exact JQ.again ((out36 ++ ([((ix l1 x40).I), ((ix l1 x40).J)] : List Int)), w64 (x40 + 1)) (Aa67, c68) (Option.some.inj H1).symm (fun _ h => Heap.to h)
   · refine J.cond_false h60 ?_
     refine J.exit ?_
     refine JQ.then_exit ?_
     refine JQ.then_exit ?_
     refine JQ.blk_exit ?_
     rw [hb1 _ (Option.some.inj H1).symm, fin_brk] at H0
     exact JQ.met out36 (Aa37, c38) H0 (fun _ h => Heap.to (Heap.pick [0] (by decide) h))
 · clear hit H0
   rintro out51 ⟨Aa52, c53⟩ H0
   replace H0 : corrupt_stations.k2 out51 = some r := H0
   unfold corrupt_stations.k2 at H0
   refine JQ.sub [(3, .slice Aa52 out51.length c53)] ?_
   refine JQ.turn (Δ' := [At.row Aa52 c53 3 ((flInt .i64).kd) out51 false]) (fun _ h => h.to) ?_
   refine JQ.then_normal ?_
   refine J.sr ?_
   refine JL.mv (.slice Aa52 out51.length c53) ?_
   obtain ⟨h56, H0⟩ := ite_must H0
   refine JL.call [] [] [true] (does_ext_83 out51 Aa52 c53 3 h56) trivial ?_
   rintro _ _ ⟨rfl, rfl⟩
   obtain ⟨l55, el55, H0⟩ := lt_some H0
   rw [el55]
   have nl55 : out51.length = l55.length := by rw [← el55]; exact (length_sortI _).symm
   refine JQ.len (fun n : Nat => [(3, .slice Aa52 n c53), (20, .slice Aa52 n c53), (21, .tuple #[])]) nl55 ?_
   refine JQ.sub [(3, .slice Aa52 l55.length c53), (20, .slice Aa52 l55.length c53), (21, .tuple #[])] ?_
   refine JL.es [(3, .slice Aa52 l55.length c53)] ?_
   refine J.sr ?_
   refine JL.mv (.slice Aa52 l55.length c53) ?_
   obtain ⟨h58, H0⟩ := ite_must H0
   refine JL.call [] [] [true] (does_ext_84 l55 Aa52 c53 3 h58) trivial ?_
   rintro _ _ ⟨rfl, rfl⟩
   obtain ⟨l57, el57, H0⟩ := lt_some H0
   rw [el57]
   refine JQ.sub [(23, .slice Aa52 l57.length c53)] ?_
   refine JL.as (.slice Aa52 l57.length c53) ?_
   refine JL.es [(2, .slice Aa52 l57.length c53)] ?_
   refine J.ret ?_
   obtain rfl := Option.some.inj H0
   exact JQ.done' (rs := [.tmp 2]) (vs := [.slice Aa52 l57.length c53]) [At.row Aa52 c53 3 ((flInt .i64).kd) l57 false] (.inr rfl) ⟨by kernel_rfl, trivial⟩ (fun _ h => Heap.to h) ⟨Aa52, c53, rfl, rfl⟩

theorem cx_Norm.ok (a1 : Cx) (r : (Frac × Int)) (H0 : cx_Norm.f a1 = some r) :
    Does Try.prog 82 [mv_23 a1].toArray [] [] false (fun v Δ => v = .tuple #[mv_92 r.1, .int .i64 r.2] ∧ Δ = []) := by
 refine Does.body (vs := [mv_23 a1]) Try.func82 rfl trivial trivial fun w S => ?_
 unfold cx_Norm.f at H0
 refine J.sr ?_
 refine JL.box (cl_23 a1) fun b2 => ?_
 refine JL.alloc (cl_92 zv_92) fun b3 => ?_
 refine JL.as (.int .i64 0) ?_
 refine JL.es [(1, .pointer (some ⟨b2, 0, none⟩)), (2, .pointer (some ⟨b3, 0, none⟩))] ?_
 refine J.seq ?_
 refine J.sr ?_
 refine JL.val (mv_23 a1) (some 8) (yields_load_boxes 0 0 (cl_23 a1) (holds_box b2 23 (cl_23 a1)) tyAgg_23 tySize_23) ?_
 obtain ⟨t4, hc5, H0⟩ := bind_some H0
 refine JL.call [] [] [] (cx_Check.ok a1 _ hc5) trivial ?_
 rintro _ _ ⟨rfl, rfl⟩
 refine JL.as (.int .i64 t4) ?_
 refine JL.es [(1, .pointer (some ⟨b2, 0, none⟩)), (2, .pointer (some ⟨b3, 0, none⟩)), (4, .int .i64 t4)] ?_
 refine J.sr ?_
 refine JL.mv (.int .i64 t4) ?_
 refine JL.pur (.bool (!decide (t4 = 0))) (some 11) ?_
 refine JL.es [(1, .pointer (some ⟨b2, 0, none⟩)), (2, .pointer (some ⟨b3, 0, none⟩)), (4, .int .i64 t4), (11, .bool (!decide (t4 = 0)))] ?_
 rcases ite_cases H0 with ⟨h6, H0⟩ | ⟨h6, H0⟩
 · refine J.cond_true h6 ?_
   refine J.sr ?_
   refine JL.pur (mv_92 zv_92) (some 12) ?_
   refine JL.mv (.int .i64 t4) ?_
   refine JL.store 1 b3 0 92 (cl_92 zv_92) (cl_92 zv_92) tySize_92 ?_
   refine JL.as (.int .i64 t4) ?_
   refine JL.es [(2, .pointer (some ⟨b3, 0, none⟩)), (3, .int .i64 t4)] ?_
   refine JQ.mask [At.box b3 92 (cl_92 zv_92)] [false, true] ?_
   refine J.ret ?_
   refine JQ.then_ret ?_
   obtain rfl := Option.some.inj H0
   exact JQ.done' (rs := [.cell 2 92, .tmp 3]) (vs := [.agg #[.int .i64 0, .int .i64 0], .int .i64 t4]) [] (.inr rfl) ⟨⟨b3, 0, _, _, by kernel_rfl, by kernel_rfl, holds_box b3 92 (cl_92 zv_92), .inl ⟨tyAgg_92, tySize_92, rfl⟩⟩, by kernel_rfl, trivial⟩ (fun _ h => Heap.to (Heap.pick [] (by decide) h)) ⟨rfl, rfl⟩
 · refine J.cond_false h6 ?_
   refine J.skip ?_
   refine JQ.ts [(1, .pointer (some ⟨b2, 0, none⟩)), (2, .pointer (some ⟨b3, 0, none⟩))] ?_
   refine J.seq ?_
   refine J.draw ?_
   refine QL.pur (.pointer (some ⟨b2, 0, none⟩)) (some 14) ?_
   refine QL.val (.int .i64 a1.Re) (some 15) (yields_load_box 0 0 (holds_box b2 23 (cl_23 a1)) tyAgg_2) ?_
   refine QL.pur (.pointer (some ⟨b2, 0, none⟩)) (some 16) ?_
   refine QL.val (.int .i64 a1.Re) (some 17) (yields_load_box 0 0 (holds_box b2 23 (cl_23 a1)) tyAgg_2) ?_
   refine QL.pur (.int .i64 (w64 (a1.Re * a1.Re))) (some 18) ?_
   refine QL.pur (.pointer (some ⟨b2, 1, none⟩)) (some 19) ?_
   refine QL.val (.int .i64 a1.Im) (some 20) (yields_load_box 0 1 (holds_box b2 23 (cl_23 a1)) tyAgg_2) ?_
   refine QL.pur (.pointer (some ⟨b2, 1, none⟩)) (some 21) ?_
   refine QL.val (.int .i64 a1.Im) (some 22) (yields_load_box 0 1 (holds_box b2 23 (cl_23 a1)) tyAgg_2) ?_
   refine QL.pur (.int .i64 (w64 (a1.Im * a1.Im))) (some 23) ?_
   refine QL.pur (.int .i64 (w64 ((w64 (a1.Re * a1.Re)) + (w64 (a1.Im * a1.Im))))) (some 24) ?_
   refine QL.pur (.pointer (some ⟨b2, 2, none⟩)) (some 25) ?_
   refine QL.val (.int .i64 a1.Den) (some 26) (yields_load_box 0 2 (holds_box b2 23 (cl_23 a1)) tyAgg_2) ?_
   refine QL.pur (.pointer (some ⟨b2, 2, none⟩)) (some 27) ?_
   refine QL.val (.int .i64 a1.Den) (some 28) (yields_load_box 0 2 (holds_box b2 23 (cl_23 a1)) tyAgg_2) ?_
   refine QL.pur (.int .i64 (w64 (a1.Den * a1.Den))) (some 29) ?_
   obtain ⟨n7, en7, H0⟩ := lt_some H0
   refine QL.as' (k := .i64) n7 en7 ?_
   obtain ⟨d8, ed8, H0⟩ := lt_some H0
   refine QL.as' (k := .i64) d8 ed8 ?_
   refine QL.nil ?_
   refine JA.nil ?_
   refine JQ.ts [(2, .pointer (some ⟨b3, 0, none⟩)), (5, .int .i64 n7), (6, .int .i64 d8)] ?_
   refine JQ.mask [At.box b3 92 (cl_92 zv_92)] [false, true] ?_
   refine J.sr ?_
   refine JL.mv (.int .i64 n7) ?_
   refine JL.mv (.int .i64 d8) ?_
   refine JL.buildSl 2 ((flInt .i64).kd) (([n7, d8] : List Int) : List Int) [.int .i64 n7, .int .i64 d8] false (closes_fl rfl) fun b9 => ?_
   obtain ⟨t10, hc11, H0⟩ := bind_some H0
   refine JL.call [] [] [] (cx_gcd.ok ([n7, d8] : List Int) (some ⟨b9, 0, none⟩) 2 _ hc11) ⟨pre_view 1 (view_row (some ⟨b9, 0, none⟩) 2 2 ((flInt .i64).kd) ([n7, d8] : List Int) false true), trivial⟩ ?_
   rintro _ _ ⟨rfl, rfl⟩
   refine JL.as (.int .i64 t10) ?_
   refine JL.es [(2, .pointer (some ⟨b3, 0, none⟩)), (5, .int .i64 n7), (6, .int .i64 d8), (7, .int .i64 t10)] ?_
   refine JQ.mask [At.box b3 92 (cl_92 zv_92)] [true, false] ?_
   refine J.seq ?_
   refine J.sr ?_
   refine JL.mv (.int .i64 n7) ?_
   refine JL.mv (.int .i64 t10) ?_
   obtain ⟨h12, H0⟩ := ite_must H0
   refine JL.val (.int .i64 (w64 (Int.tdiv n7 t10))) (some 36) (gives_quo .i64 n7 t10 h12) ?_
   refine JL.pur (.bool (decide (1000000000000000000 < w64 (Int.tdiv n7 t10)))) (some 37) ?_
   refine JL.es [(2, .pointer (some ⟨b3, 0, none⟩)), (5, .int .i64 n7), (6, .int .i64 d8), (7, .int .i64 t10), (37, .bool (decide (1000000000000000000 < w64 (Int.tdiv n7 t10))))] ?_
   rcases ite_cases H0 with ⟨h13, H0⟩ | ⟨h13, H0⟩
   · refine J.cond_true h13 ?_
     refine J.sr ?_
     refine JL.pur (mv_92 zv_92) (some 38) ?_
     refine JL.store 0 b3 0 92 (cl_92 zv_92) (cl_92 zv_92) tySize_92 ?_
     refine JL.as (.int .i64 16) ?_
     refine JL.es [(2, .pointer (some ⟨b3, 0, none⟩)), (3, .int .i64 16)] ?_
     refine J.ret ?_
     refine JQ.then_ret ?_
     obtain rfl := Option.some.inj H0
     exact JQ.done' (rs := [.cell 2 92, .tmp 3]) (vs := [.agg #[.int .i64 0, .int .i64 0], .int .i64 16]) [] (.inr rfl) ⟨⟨b3, 0, _, _, by kernel_rfl, by kernel_rfl, holds_box b3 92 (cl_92 zv_92), .inl ⟨tyAgg_92, tySize_92, rfl⟩⟩, by kernel_rfl, trivial⟩ (fun _ h => Heap.to (Heap.pick [] (by decide) h)) ⟨rfl, rfl⟩
   · refine J.cond_false h13 ?_
     refine J.skip ?_
     refine JQ.ts [(2, .pointer (some ⟨b3, 0, none⟩)), (5, .int .i64 n7), (6, .int .i64 d8), (7, .int .i64 t10)] ?_
     refine J.seq ?_
     refine J.drawT 7 ?_
     refine QL.mv (.int .i64 n7) ?_
     refine QL.mv (.int .i64 t10) ?_
     obtain ⟨h14, H0⟩ := ite_must H0
     refine QL.val (.int .i64 (w64 (Int.tdiv n7 t10))) (some 41) (gives_quo .i64 n7 t10 h14) ?_
     refine QL.mv (.int .i64 d8) ?_
     refine QL.mv (.int .i64 t10) ?_
     obtain ⟨h15, H0⟩ := ite_must H0
     refine QL.val (.int .i64 (w64 (Int.tdiv d8 t10))) (some 44) (gives_quo .i64 d8 t10 h15) ?_
     refine QL.pur (.agg #[.int .i64 (w64 (Int.tdiv n7 t10)), .int .i64 (w64 (Int.tdiv d8 t10))]) (some 45) ?_
     refine QL.nil ?_
     refine JA.nil ?_
     refine JL.store 0 b3 0 92 (cl_92 zv_92) [.int .i64 (w64 (Int.tdiv n7 t10)), .int .i64 (w64 (Int.tdiv d8 t10))] tySize_92 ?_
     refine JL.as (.int .i64 0) ?_
     refine JL.es [(2, .pointer (some ⟨b3, 0, none⟩)), (3, .int .i64 0)] ?_
     refine J.ret ?_
     obtain rfl := Option.some.inj H0
     exact JQ.done' (rs := [.cell 2 92, .tmp 3]) (vs := [.agg #[.int .i64 (w64 (Int.tdiv n7 t10)), .int .i64 (w64 (Int.tdiv d8 t10))], .int .i64 0]) [] (.inr rfl) ⟨⟨b3, 0, _, _, by kernel_rfl, by kernel_rfl, holds_box b3 92 [.int .i64 (w64 (Int.tdiv n7 t10)), .int .i64 (w64 (Int.tdiv d8 t10))], .inl ⟨tyAgg_92, tySize_92, rfl⟩⟩, by kernel_rfl, trivial⟩ (fun _ h => Heap.to (Heap.pick [] (by decide) h)) ⟨rfl, rfl⟩

theorem closure_Amp.ok (l1 : (List Vis)) (Aa2 : Option Addr) (c3 : Nat) (a5 : Int) (b6 : Int) (c7 : Int) (d8 : Int) (r : (Frac × Int)) (H0 : closure_Amp.f l1 a5 b6 c7 d8 = some r) :
    Does Try.prog 58 [.slice Aa2 l1.length c3, .int .i64 a5, .int .i64 b6, .int .i64 c7, .int .i64 d8].toArray [At.rd Aa2 c3 fl_Vis.kd l1 true] [] false (fun v Δ => v = .tuple #[mv_92 r.1, .int .i64 r.2] ∧ Δ = []) := by
 refine Does.body (vs := [.slice Aa2 l1.length c3, .int .i64 a5, .int .i64 b6, .int .i64 c7, .int .i64 d8]) Try.func58 rfl ⟨.inl rfl, trivial⟩ trivial fun w S => ?_
 unfold closure_Amp.f at H0
 refine J.sr ?_
 refine JL.alloc (cl_92 zv_92) fun b9 => ?_
 refine JL.as (.int .i64 0) ?_
 refine JL.es [(0, .slice Aa2 l1.length c3), (1, .int .i64 a5), (2, .int .i64 b6), (3, .int .i64 c7), (4, .int .i64 d8), (10, .pointer (some ⟨b9, 0, none⟩))] ?_
 refine J.seq ?_
 refine J.sr ?_
 refine JL.mv (.slice Aa2 l1.length c3) ?_
 obtain ⟨t10, hc11, H0⟩ := bind_some H0
 refine JL.call [] [] [] (closure_Check.ok l1 Aa2 c3 _ hc11) ⟨pre_any 0 (view_rd Aa2 c3 fl_Vis.kd l1 true true), trivial⟩ ?_
 rintro _ _ ⟨rfl, rfl⟩
 refine JL.as (.int .i64 t10) ?_
 refine JL.es [(0, .slice Aa2 l1.length c3), (1, .int .i64 a5), (2, .int .i64 b6), (3, .int .i64 c7), (4, .int .i64 d8), (10, .pointer (some ⟨b9, 0, none⟩)), (12, .int .i64 t10)] ?_
 refine J.sr ?_
 refine JL.mv (.int .i64 t10) ?_
 refine JL.pur (.bool (!decide (t10 = 0))) (some 23) ?_
 refine JL.es [(0, .slice Aa2 l1.length c3), (1, .int .i64 a5), (2, .int .i64 b6), (3, .int .i64 c7), (4, .int .i64 d8), (10, .pointer (some ⟨b9, 0, none⟩)), (12, .int .i64 t10), (23, .bool (!decide (t10 = 0)))] ?_
 rcases ite_cases H0 with ⟨h12, H0⟩ | ⟨h12, H0⟩
 · refine J.cond_true h12 ?_
   refine J.sr ?_
   refine JL.pur (mv_92 zv_92) (some 24) ?_
   refine JL.mv (.int .i64 t10) ?_
   refine JL.store 1 b9 0 92 (cl_92 zv_92) (cl_92 zv_92) tySize_92 ?_
   refine JL.as (.int .i64 t10) ?_
   refine JL.es [(10, .pointer (some ⟨b9, 0, none⟩)), (11, .int .i64 t10)] ?_
   refine JQ.mask [At.box b9 92 (cl_92 zv_92)] [false, true] ?_
   refine J.ret ?_
   refine JQ.then_ret ?_
   obtain rfl := Option.some.inj H0
   exact JQ.done' (rs := [.cell 10 92, .tmp 11]) (vs := [.agg #[.int .i64 0, .int .i64 0], .int .i64 t10]) [] (.inr rfl) ⟨⟨b9, 0, _, _, by kernel_rfl, by kernel_rfl, holds_box b9 92 (cl_92 zv_92), .inl ⟨tyAgg_92, tySize_92, rfl⟩⟩, by kernel_rfl, trivial⟩ (fun _ h => Heap.to (Heap.pick [] (by decide) h)) ⟨rfl, rfl⟩
 · refine J.cond_false h12 ?_
   refine J.skip ?_
   refine JQ.ts [(0, .slice Aa2 l1.length c3), (1, .int .i64 a5), (2, .int .i64 b6), (3, .int .i64 c7), (4, .int .i64 d8), (10, .pointer (some ⟨b9, 0, none⟩))] ?_
   refine J.seq ?_
   refine J.sr ?_
   refine JL.mv (.int .i64 a5) ?_
   refine JL.mv (.int .i64 b6) ?_
   refine JL.mv (.int .i64 c7) ?_
   refine JL.mv (.int .i64 d8) ?_
   refine JL.buildSl 3 ((flInt .i64).kd) (([a5, b6, c7, d8] : List Int) : List Int) [.int .i64 a5, .int .i64 b6, .int .i64 c7, .int .i64 d8] false (closes_fl rfl) fun b13 => ?_
   obtain ⟨t14, hc15, H0⟩ := bind_some H0
   refine JL.call [] [] [] (closure_apart.ok ([a5, b6, c7, d8] : List Int) (some ⟨b13, 0, none⟩) 4 _ hc15) ⟨pre_view 2 (view_row (some ⟨b13, 0, none⟩) 4 3 ((flInt .i64).kd) ([a5, b6, c7, d8] : List Int) false true), trivial⟩ ?_
   rintro _ _ ⟨rfl, rfl⟩
   refine JL.pur (.bool (!t14)) (some 32) ?_
   refine JL.es [(0, .slice Aa2 l1.length c3), (1, .int .i64 a5), (2, .int .i64 b6), (3, .int .i64 c7), (4, .int .i64 d8), (10, .pointer (some ⟨b9, 0, none⟩)), (32, .bool (!t14))] ?_
   refine JQ.mask [At.rd Aa2 c3 fl_Vis.kd l1 true, At.box b9 92 (cl_92 zv_92)] [true, true, false] ?_
   rcases ite_cases H0 with ⟨h16, H0⟩ | ⟨h16, H0⟩
   · refine J.cond_true h16 ?_
     refine J.sr ?_
     refine JL.pur (mv_92 zv_92) (some 33) ?_
     refine JL.store 1 b9 0 92 (cl_92 zv_92) (cl_92 zv_92) tySize_92 ?_
     refine JL.as (.int .i64 2) ?_
     refine JL.es [(10, .pointer (some ⟨b9, 0, none⟩)), (11, .int .i64 2)] ?_
     refine JQ.mask [At.box b9 92 (cl_92 zv_92)] [false, true] ?_
     refine J.ret ?_
     refine JQ.then_ret ?_
     obtain rfl := Option.some.inj H0
     exact JQ.done' (rs := [.cell 10 92, .tmp 11]) (vs := [.agg #[.int .i64 0, .int .i64 0], .int .i64 2]) [] (.inr rfl) ⟨⟨b9, 0, _, _, by kernel_rfl, by kernel_rfl, holds_box b9 92 (cl_92 zv_92), .inl ⟨tyAgg_92, tySize_92, rfl⟩⟩, by kernel_rfl, trivial⟩ (fun _ h => Heap.to (Heap.pick [] (by decide) h)) ⟨rfl, rfl⟩
   · refine J.cond_false h16 ?_
     refine J.skip ?_
     refine JQ.ts [(0, .slice Aa2 l1.length c3), (1, .int .i64 a5), (2, .int .i64 b6), (3, .int .i64 c7), (4, .int .i64 d8), (10, .pointer (some ⟨b9, 0, none⟩))] ?_
     refine J.sr ?_
     refine JL.mv (.slice Aa2 l1.length c3) ?_
     refine JL.mv (.int .i64 a5) ?_
     refine JL.mv (.int .i64 b6) ?_
     refine JL.pur (.agg #[.int .i64 a5, .int .i64 b6]) (some 38) ?_
     refine JL.mv (.int .i64 c7) ?_
     refine JL.mv (.int .i64 d8) ?_
     refine JL.pur (.agg #[.int .i64 c7, .int .i64 d8]) (some 41) ?_
     refine JL.mv (.int .i64 a5) ?_
     refine JL.mv (.int .i64 c7) ?_
     refine JL.pur (.agg #[.int .i64 a5, .int .i64 c7]) (some 44) ?_
     refine JL.mv (.int .i64 b6) ?_
     refine JL.mv (.int .i64 d8) ?_
     refine JL.pur (.agg #[.int .i64 b6, .int .i64 d8]) (some 47) ?_
     refine JL.buildSl 78 fl_Pair.kd (([(⟨a5, b6⟩ : Pair), (⟨c7, d8⟩ : Pair), (⟨a5, c7⟩ : Pair), (⟨b6, d8⟩ : Pair)] : List Pair) : List Pair) [.int .i64 a5, .int .i64 b6, .int .i64 c7, .int .i64 d8, .int .i64 a5, .int .i64 c7, .int .i64 b6, .int .i64 d8] false (closes_fl rfl) fun b17 => ?_
     obtain ⟨t18, hc19, H0⟩ := bind_some H0
     refine JL.call [] [] [] (closure_along.ok l1 Aa2 c3 ([(⟨a5, b6⟩ : Pair), (⟨c7, d8⟩ : Pair), (⟨a5, c7⟩ : Pair), (⟨b6, d8⟩ : Pair)] : List Pair) (some ⟨b17, 0, none⟩) 4 _ hc19) ⟨pre_any 0 (view_rd Aa2 c3 fl_Vis.kd l1 true true), ⟨pre_view 2 (view_row (some ⟨b17, 0, none⟩) 4 78 fl_Pair.kd ([(⟨a5, b6⟩ : Pair), (⟨c7, d8⟩ : Pair), (⟨a5, c7⟩ : Pair), (⟨b6, d8⟩ : Pair)] : List Pair) false true), trivial⟩⟩ ?_
     rintro _ _ ⟨Aa20, c21, rfl, rfl⟩
     refine JL.mv (.tuple #[.slice Aa20 t18.1.length c21, .int .i64 t18.2]) ?_
     refine JL.pur (.slice Aa20 t18.1.length c21) (some 50) ?_
     refine JL.pur (.int .i64 t18.2) (some 51) ?_
     refine JL.as (.slice Aa20 t18.1.length c21) ?_
     refine JL.as (.int .i64 t18.2) ?_
     refine JL.es [(10, .pointer (some ⟨b9, 0, none⟩)), (13, .slice Aa20 t18.1.length c21), (14, .int .i64 t18.2)] ?_
     refine JQ.mask [At.box b9 92 (cl_92 zv_92), At.row Aa20 c21 23 fl_Cx.kd t18.1 false] [false, true, false, true] ?_
     refine J.seq ?_
     refine J.sr ?_
     refine JL.mv (.int .i64 t18.2) ?_
     refine JL.pur (.bool (!decide (t18.2 = 0))) (some 53) ?_
     refine JL.es [(10, .pointer (some ⟨b9, 0, none⟩)), (13, .slice Aa20 t18.1.length c21), (14, .int .i64 t18.2), (53, .bool (!decide (t18.2 = 0)))] ?_
     rcases ite_cases H0 with ⟨h23, H0⟩ | ⟨h23, H0⟩
     · refine J.cond_true h23 ?_
       refine J.sr ?_
       refine JL.pur (mv_92 zv_92) (some 54) ?_
       refine JL.mv (.int .i64 t18.2) ?_
       refine JL.store 0 b9 0 92 (cl_92 zv_92) (cl_92 zv_92) tySize_92 ?_
       refine JL.as (.int .i64 t18.2) ?_
       refine JL.es [(10, .pointer (some ⟨b9, 0, none⟩)), (11, .int .i64 t18.2)] ?_
       refine JQ.mask [At.box b9 92 (cl_92 zv_92)] [true, false] ?_
       refine J.ret ?_
       refine JQ.then_ret ?_
       obtain rfl := Option.some.inj H0
       exact JQ.done' (rs := [.cell 10 92, .tmp 11]) (vs := [.agg #[.int .i64 0, .int .i64 0], .int .i64 t18.2]) [] (.inr rfl) ⟨⟨b9, 0, _, _, by kernel_rfl, by kernel_rfl, holds_box b9 92 (cl_92 zv_92), .inl ⟨tyAgg_92, tySize_92, rfl⟩⟩, by kernel_rfl, trivial⟩ (fun _ h => Heap.to (Heap.pick [] (by decide) h)) ⟨rfl, rfl⟩
     · refine J.cond_false h23 ?_
       refine J.skip ?_
       refine JQ.ts [(10, .pointer (some ⟨b9, 0, none⟩)), (13, .slice Aa20 t18.1.length c21)] ?_
       refine J.join (T := (Int × Cx)) (G := Nat) (fun t => closure_Amp.k1 t18 t.1 t.2 = some r) (fun t g => [(10, .pointer (some ⟨b9, 0, none⟩)), (13, .slice Aa20 t18.1.length c21), (14, .int .i64 t.1), (15, .pointer (some ⟨g, 0, none⟩))]) (fun t g => [At.box b9 92 (cl_92 zv_92), At.row Aa20 c21 23 fl_Cx.kd t18.1 false, At.box g 23 (cl_23 t.2)]) ?_ ?_
       · obtain ⟨⟨h123, h124⟩, H0⟩ := ite_must H0
         obtain ⟨⟨h127, h128⟩, H0⟩ := ite_must H0
         obtain ⟨t131, hc132, H0⟩ := bind_some H0
         refine JQ.openA 1 (elems_row Aa20 c21 23 fl_Cx.kd t18.1 false) h123 h124 fun g134 o135 hA => ?_
         subst hA
         refine JY.startM [true, true] [] (ba 13 0) ?_
         refine JY.pur (hi := rfl) 0 (ba 13 1) (.slice (some ⟨g134, o135, none⟩) t18.1.length c21) (some 57) want ?_
         obtain ⟨h136, h137⟩ : (0 : Int) ≤ 0 ∧ 0 < (t18.1.length : Int) := ⟨h123, h124⟩
         refine JY.puw (hi := rfl) 1 (ba 13 3) (.pointer (some ⟨g134, o135 + (0 : Int).toNat * 3, none⟩)) (some 58) want (givesW_ixSl (g := g134) (o := o135) (n := t18.1.length) (i := 0) 3 c21 .i64 Try.underlying28 tySize_23 h136 h137) ?_
         refine JY.take (hi := rfl) 2 (ba 13 7) (mv_23 (ix t18.1 0)) (some 59) [true, true] want (gives_loadEl (f := fl_Cx) 1 0 0 (elems_row (some ⟨g134, o135, none⟩) c21 23 fl_Cx.kd t18.1 false) h136 h137 tySize_23 (.inl ⟨tyAgg_23, rfl⟩)) ?_
         refine JY.pur (hi := rfl) 3 (ba 13 15) (.slice (some ⟨g134, o135, none⟩) t18.1.length c21) (some 60) want ?_
         obtain ⟨h140, h141⟩ : (0 : Int) ≤ 1 ∧ 1 < (t18.1.length : Int) := ⟨h127, h128⟩
         refine JY.puw (hi := rfl) 4 (ba 13 31) (.pointer (some ⟨g134, o135 + (1 : Int).toNat * 3, none⟩)) (some 61) want (givesW_ixSl (g := g134) (o := o135) (n := t18.1.length) (i := 1) 3 c21 .i64 Try.underlying28 tySize_23 h140 h141) ?_
         refine JY.take (hi := rfl) 5 (ba 13 63) (mv_23 (ix t18.1 1)) (some 62) [true, true] want (gives_loadEl (f := fl_Cx) 1 0 1 (elems_row (some ⟨g134, o135, none⟩) c21 23 fl_Cx.kd t18.1 false) h140 h141 tySize_23 (.inl ⟨tyAgg_23, rfl⟩)) ?_
         refine JY.all [6, 10] ⟨⟨_, rfl, ?_⟩, ⟨_, rfl, ?_⟩, trivial⟩
         · refine JL.call [] [] [] (cx_Mul.ok (ix t18.1 0) (ix t18.1 1) _ hc132) trivial ?_
           rintro _ _ ⟨rfl, rfl⟩
           refine JL.nil ?_
           refine JY.ran (ba 13 127) [true, true] ?_
           refine JY.pur (hi := rfl) 7 (ba 13 255) (.tuple #[mv_23 t131.1, .int .i64 t131.2]) (some 56) want ?_
           refine JY.pur (hi := rfl) 8 (ba 13 511) (mv_23 t131.1) (some 64) want ?_
           refine JY.pur (hi := rfl) 9 (ba 13 1023) (.int .i64 t131.2) (some 65) want ?_
           refine JY.all [10] ⟨⟨_, rfl, ?_⟩, trivial⟩
           refine JL.alloc (cl_23 zv_23) fun b146 => ?_
           refine JL.nil ?_
           refine JY.ran (ba 13 2047) [true, true, false] ?_
           refine JY.all [11] ⟨⟨_, rfl, ?_⟩, trivial⟩
           refine JL.store 2 b146 0 23 (cl_23 zv_23) (cl_23 t131.1) tySize_23 ?_
           refine JL.nil ?_
           refine JY.ran (ba 13 4095) [true, true, false] ?_
           refine JY.pur (hi := rfl) 12 (ba 13 8191) (.int .i64 t131.2) (some 14) want ?_
           refine JY.done ?_
           refine JQ.then_normal ?_
           exact JQ.meet (t131.2, t131.1) b146 H0 (fun _ h => Heap.to h)
         · refine JL.alloc (cl_23 zv_23) fun b147 => ?_
           refine JL.nil ?_
           refine JY.ran (ba 13 1087) [true, true, false] ?_
           refine JY.all [6] ⟨⟨_, rfl, ?_⟩, trivial⟩
           refine JL.call [] [] [] (cx_Mul.ok (ix t18.1 0) (ix t18.1 1) _ hc132) trivial ?_
           rintro _ _ ⟨rfl, rfl⟩
           refine JL.nil ?_
           refine JY.ran (ba 13 1151) [true, true, false] ?_
           refine JY.pur (hi := rfl) 7 (ba 13 1279) (.tuple #[mv_23 t131.1, .int .i64 t131.2]) (some 56) want ?_
           refine JY.pur (hi := rfl) 8 (ba 13 1535) (mv_23 t131.1) (some 64) want ?_
           refine JY.pur (hi := rfl) 9 (ba 13 2047) (.int .i64 t131.2) (some 65) want ?_
           refine JY.all [11] ⟨⟨_, rfl, ?_⟩, trivial⟩
           refine JL.store 2 b147 0 23 (cl_23 zv_23) (cl_23 t131.1) tySize_23 ?_
           refine JL.nil ?_
           refine JY.ran (ba 13 4095) [true, true, false] ?_
           refine JY.pur (hi := rfl) 12 (ba 13 8191) (.int .i64 t131.2) (some 14) want ?_
           refine JY.done ?_
           refine JQ.then_normal ?_
           exact JQ.meet (t131.2, t131.1) b147 H0 (fun _ h => Heap.to h)
       · clear H0
         rintro ⟨e51, up54⟩ b52 H0
         replace H0 : closure_Amp.k1 t18 e51 up54 = some r := H0
         unfold closure_Amp.k1 at H0
         refine JQ.sub [(10, .pointer (some ⟨b9, 0, none⟩)), (13, .slice Aa20 t18.1.length c21), (14, .int .i64 e51), (15, .pointer (some ⟨b52, 0, none⟩))] ?_
         refine JQ.turn (Δ' := [At.box b9 92 (cl_92 zv_92), At.row Aa20 c21 23 fl_Cx.kd t18.1 false, At.box b52 23 (cl_23 up54)]) (fun _ h => h.to) ?_
         refine J.join (T := (Cx × Int)) (G := Nat) (fun t => closure_Amp.k2 e51 up54 t.1 t.2 = some r) (fun t g => [(10, .pointer (some ⟨b9, 0, none⟩)), (14, .int .i64 e51), (15, .pointer (some ⟨b52, 0, none⟩)), (16, .pointer (some ⟨g, 0, none⟩)), (17, .int .i64 t.2)]) (fun t g => [At.box b9 92 (cl_92 zv_92), At.box b52 23 (cl_23 up54), At.box g 23 (cl_23 t.1)]) ?_ ?_
         · obtain ⟨⟨h96, h97⟩, H0⟩ := ite_must H0
           obtain ⟨⟨h100, h101⟩, H0⟩ := ite_must H0
           obtain ⟨t104, hc105, H0⟩ := bind_some H0
           refine JQ.openA 1 (elems_row Aa20 c21 23 fl_Cx.kd t18.1 false) h96 h97 fun g107 o108 hA => ?_
           subst hA
           refine JY.startM [true, true, true] [] (ba 13 0) ?_
           refine JY.pur (hi := rfl) 0 (ba 13 1) (.slice (some ⟨g107, o108, none⟩) t18.1.length c21) (some 67) want ?_
           obtain ⟨h109, h110⟩ : (0 : Int) ≤ 2 ∧ 2 < (t18.1.length : Int) := ⟨h96, h97⟩
           refine JY.puw (hi := rfl) 1 (ba 13 3) (.pointer (some ⟨g107, o108 + (2 : Int).toNat * 3, none⟩)) (some 68) want (givesW_ixSl (g := g107) (o := o108) (n := t18.1.length) (i := 2) 3 c21 .i64 Try.underlying28 tySize_23 h109 h110) ?_
           refine JY.take (hi := rfl) 2 (ba 13 7) (mv_23 (ix t18.1 2)) (some 69) [true, true, true] want (gives_loadEl (f := fl_Cx) 1 0 2 (elems_row (some ⟨g107, o108, none⟩) c21 23 fl_Cx.kd t18.1 false) h109 h110 tySize_23 (.inl ⟨tyAgg_23, rfl⟩)) ?_
           refine JY.pur (hi := rfl) 3 (ba 13 15) (.slice (some ⟨g107, o108, none⟩) t18.1.length c21) (some 70) want ?_
           obtain ⟨h113, h114⟩ : (0 : Int) ≤ 3 ∧ 3 < (t18.1.length : Int) := ⟨h100, h101⟩
           refine JY.puw (hi := rfl) 4 (ba 13 31) (.pointer (some ⟨g107, o108 + (3 : Int).toNat * 3, none⟩)) (some 71) want (givesW_ixSl (g := g107) (o := o108) (n := t18.1.length) (i := 3) 3 c21 .i64 Try.underlying28 tySize_23 h113 h114) ?_
           refine JY.take (hi := rfl) 5 (ba 13 63) (mv_23 (ix t18.1 3)) (some 72) [true, true, true] want (gives_loadEl (f := fl_Cx) 1 0 3 (elems_row (some ⟨g107, o108, none⟩) c21 23 fl_Cx.kd t18.1 false) h113 h114 tySize_23 (.inl ⟨tyAgg_23, rfl⟩)) ?_
           refine JY.all [6, 10] ⟨⟨_, rfl, ?_⟩, ⟨_, rfl, ?_⟩, trivial⟩
           · refine JL.call [] [] [] (cx_Mul.ok (ix t18.1 2) (ix t18.1 3) _ hc105) trivial ?_
             rintro _ _ ⟨rfl, rfl⟩
             refine JL.nil ?_
             refine JY.ran (ba 13 127) [true, true, true] ?_
             refine JY.pur (hi := rfl) 7 (ba 13 255) (.tuple #[mv_23 t104.1, .int .i64 t104.2]) (some 66) want ?_
             refine JY.pur (hi := rfl) 8 (ba 13 511) (mv_23 t104.1) (some 74) want ?_
             refine JY.pur (hi := rfl) 9 (ba 13 1023) (.int .i64 t104.2) (some 75) want ?_
             refine JY.all [10] ⟨⟨_, rfl, ?_⟩, trivial⟩
             refine JL.alloc (cl_23 zv_23) fun b119 => ?_
             refine JL.nil ?_
             refine JY.ran (ba 13 2047) [true, true, true, false] ?_
             refine JY.all [11] ⟨⟨_, rfl, ?_⟩, trivial⟩
             refine JL.store 3 b119 0 23 (cl_23 zv_23) (cl_23 t104.1) tySize_23 ?_
             refine JL.nil ?_
             refine JY.ran (ba 13 4095) [true, true, true, false] ?_
             refine JY.pur (hi := rfl) 12 (ba 13 8191) (.int .i64 t104.2) (some 17) want ?_
             refine JY.done ?_
             refine JQ.then_normal ?_
             exact JQ.meet (t104.1, t104.2) b119 H0 (fun _ h => Heap.to (Heap.pick [0, 2, 3] (by decide) h))
           · refine JL.alloc (cl_23 zv_23) fun b120 => ?_
             refine JL.nil ?_
             refine JY.ran (ba 13 1087) [true, true, true, false] ?_
             refine JY.all [6] ⟨⟨_, rfl, ?_⟩, trivial⟩
             refine JL.call [] [] [] (cx_Mul.ok (ix t18.1 2) (ix t18.1 3) _ hc105) trivial ?_
             rintro _ _ ⟨rfl, rfl⟩
             refine JL.nil ?_
             refine JY.ran (ba 13 1151) [true, true, true, false] ?_
             refine JY.pur (hi := rfl) 7 (ba 13 1279) (.tuple #[mv_23 t104.1, .int .i64 t104.2]) (some 66) want ?_
             refine JY.pur (hi := rfl) 8 (ba 13 1535) (mv_23 t104.1) (some 74) want ?_
             refine JY.pur (hi := rfl) 9 (ba 13 2047) (.int .i64 t104.2) (some 75) want ?_
             refine JY.all [11] ⟨⟨_, rfl, ?_⟩, trivial⟩
             refine JL.store 3 b120 0 23 (cl_23 zv_23) (cl_23 t104.1) tySize_23 ?_
             refine JL.nil ?_
             refine JY.ran (ba 13 4095) [true, true, true, false] ?_
             refine JY.pur (hi := rfl) 12 (ba 13 8191) (.int .i64 t104.2) (some 17) want ?_
             refine JY.done ?_
             refine JQ.then_normal ?_
             exact JQ.meet (t104.1, t104.2) b120 H0 (fun _ h => Heap.to (Heap.pick [0, 2, 3] (by decide) h))
         · clear H0
           rintro ⟨down84, f85⟩ b82 H0
           replace H0 : closure_Amp.k2 e51 up54 down84 f85 = some r := H0
           unfold closure_Amp.k2 at H0
           refine JQ.sub [(10, .pointer (some ⟨b9, 0, none⟩)), (14, .int .i64 e51), (15, .pointer (some ⟨b52, 0, none⟩)), (16, .pointer (some ⟨b82, 0, none⟩)), (17, .int .i64 f85)] ?_
           refine JQ.turn (Δ' := [At.box b9 92 (cl_92 zv_92), At.box b52 23 (cl_23 up54), At.box b82 23 (cl_23 down84)]) (fun _ h => h.to) ?_
           refine J.seq ?_
           refine J.sr ?_
           refine JL.mv (.int .i64 e51) ?_
           refine JL.mv (.int .i64 f85) ?_
           refine JL.buildSl 29 ((flInt .i64).kd) (([e51, f85] : List Int) : List Int) [.int .i64 e51, .int .i64 f85] false (closes_fl rfl) fun b86 => ?_
           obtain ⟨t87, hc88, H0⟩ := bind_some H0
           refine JL.call [] [] [] (cmp_Or__api_Errno.ok ([e51, f85] : List Int) (some ⟨b86, 0, none⟩) 2 _ hc88) ⟨pre_view 3 (view_row (some ⟨b86, 0, none⟩) 2 29 ((flInt .i64).kd) ([e51, f85] : List Int) false true), trivial⟩ ?_
           rintro _ _ ⟨rfl, rfl⟩
           refine JL.as (.int .i64 t87) ?_
           refine JL.es [(10, .pointer (some ⟨b9, 0, none⟩)), (15, .pointer (some ⟨b52, 0, none⟩)), (16, .pointer (some ⟨b82, 0, none⟩)), (18, .int .i64 t87)] ?_
           refine JQ.mask [At.box b9 92 (cl_92 zv_92), At.box b52 23 (cl_23 up54), At.box b82 23 (cl_23 down84)] [true, true, true, false] ?_
           refine J.sr ?_
           refine JL.mv (.int .i64 t87) ?_
           refine JL.pur (.bool (!decide (t87 = 0))) (some 81) ?_
           refine JL.es [(10, .pointer (some ⟨b9, 0, none⟩)), (15, .pointer (some ⟨b52, 0, none⟩)), (16, .pointer (some ⟨b82, 0, none⟩)), (18, .int .i64 t87), (81, .bool (!decide (t87 = 0)))] ?_
           rcases ite_cases H0 with ⟨h89, H0⟩ | ⟨h89, H0⟩
           · refine J.cond_true h89 ?_
             refine J.sr ?_
             refine JL.pur (mv_92 zv_92) (some 82) ?_
             refine JL.mv (.int .i64 t87) ?_
             refine JL.store 0 b9 0 92 (cl_92 zv_92) (cl_92 zv_92) tySize_92 ?_
             refine JL.as (.int .i64 t87) ?_
             refine JL.es [(10, .pointer (some ⟨b9, 0, none⟩)), (11, .int .i64 t87)] ?_
             refine JQ.mask [At.box b9 92 (cl_92 zv_92)] [true, false, false] ?_
             refine J.ret ?_
             refine JQ.then_ret ?_
             obtain rfl := Option.some.inj H0
             exact JQ.done' (rs := [.cell 10 92, .tmp 11]) (vs := [.agg #[.int .i64 0, .int .i64 0], .int .i64 t87]) [] (.inr rfl) ⟨⟨b9, 0, _, _, by kernel_rfl, by kernel_rfl, holds_box b9 92 (cl_92 zv_92), .inl ⟨tyAgg_92, tySize_92, rfl⟩⟩, by kernel_rfl, trivial⟩ (fun _ h => Heap.to (Heap.pick [] (by decide) h)) ⟨rfl, rfl⟩
           · refine J.cond_false h89 ?_
             refine J.skip ?_
             refine JQ.ts [(10, .pointer (some ⟨b9, 0, none⟩)), (15, .pointer (some ⟨b52, 0, none⟩)), (16, .pointer (some ⟨b82, 0, none⟩))] ?_
             refine J.sr ?_
             refine JL.val (mv_23 up54) (some 85) (yields_load_boxes 1 0 (cl_23 up54) (holds_box b52 23 (cl_23 up54)) tyAgg_23 tySize_23) ?_
             refine JL.val (mv_23 down84) (some 86) (yields_load_boxes 2 0 (cl_23 down84) (holds_box b82 23 (cl_23 down84)) tyAgg_23 tySize_23) ?_
             obtain ⟨t90, hc91, H0⟩ := bind_some H0
             refine JL.call [] [] [] (cx_Div.ok up54 down84 _ hc91) trivial ?_
             rintro _ _ ⟨rfl, rfl⟩
             refine JL.mv (.tuple #[mv_23 t90.1, .int .i64 t90.2]) ?_
             refine JL.pur (mv_23 t90.1) (some 88) ?_
             refine JL.pur (.int .i64 t90.2) (some 89) ?_
             refine JL.alloc (cl_23 zv_23) fun b92 => ?_
             refine JL.store 3 b92 0 23 (cl_23 zv_23) (cl_23 t90.1) tySize_23 ?_
             refine JL.as (.int .i64 t90.2) ?_
             refine JL.es [(10, .pointer (some ⟨b9, 0, none⟩)), (14, .int .i64 t90.2), (19, .pointer (some ⟨b92, 0, none⟩))] ?_
             refine JQ.mask [At.box b9 92 (cl_92 zv_92), At.box b92 23 (cl_23 t90.1)] [true, false, false, true] ?_
             refine J.seq ?_
             refine J.sr ?_
             refine JL.mv (.int .i64 t90.2) ?_
             refine JL.pur (.bool (!decide (t90.2 = 0))) (some 91) ?_
             refine JL.es [(10, .pointer (some ⟨b9, 0, none⟩)), (14, .int .i64 t90.2), (19, .pointer (some ⟨b92, 0, none⟩)), (91, .bool (!decide (t90.2 = 0)))] ?_
             rcases ite_cases H0 with ⟨h93, H0⟩ | ⟨h93, H0⟩
             · refine J.cond_true h93 ?_
               refine J.sr ?_
               refine JL.pur (mv_92 zv_92) (some 92) ?_
               refine JL.mv (.int .i64 t90.2) ?_
               refine JL.store 0 b9 0 92 (cl_92 zv_92) (cl_92 zv_92) tySize_92 ?_
               refine JL.as (.int .i64 t90.2) ?_
               refine JL.es [(10, .pointer (some ⟨b9, 0, none⟩)), (11, .int .i64 t90.2)] ?_
               refine JQ.mask [At.box b9 92 (cl_92 zv_92)] [true, false] ?_
               refine J.ret ?_
               refine JQ.then_ret ?_
               obtain rfl := Option.some.inj H0
               exact JQ.done' (rs := [.cell 10 92, .tmp 11]) (vs := [.agg #[.int .i64 0, .int .i64 0], .int .i64 t90.2]) [] (.inr rfl) ⟨⟨b9, 0, _, _, by kernel_rfl, by kernel_rfl, holds_box b9 92 (cl_92 zv_92), .inl ⟨tyAgg_92, tySize_92, rfl⟩⟩, by kernel_rfl, trivial⟩ (fun _ h => Heap.to (Heap.pick [] (by decide) h)) ⟨rfl, rfl⟩
             · refine J.cond_false h93 ?_
               refine J.skip ?_
               refine JQ.ts [(10, .pointer (some ⟨b9, 0, none⟩)), (19, .pointer (some ⟨b92, 0, none⟩))] ?_
               refine J.sr ?_
               refine JL.val (mv_23 t90.1) (some 94) (yields_load_boxes 1 0 (cl_23 t90.1) (holds_box b92 23 (cl_23 t90.1)) tyAgg_23 tySize_23) ?_
               obtain ⟨t94, hc95, H0⟩ := bind_some H0
               refine JL.call [] [] [] (cx_Norm.ok t90.1 _ hc95) trivial ?_
               rintro _ _ ⟨rfl, rfl⟩
               refine JL.pur (mv_92 t94.1) (some 96) ?_
               refine JL.pur (.int .i64 t94.2) (some 97) ?_
               refine JL.store 0 b9 0 92 (cl_92 zv_92) (cl_92 t94.1) tySize_92 ?_
               refine JL.as (.int .i64 t94.2) ?_
               refine JL.es [(10, .pointer (some ⟨b9, 0, none⟩)), (11, .int .i64 t94.2)] ?_
               refine JQ.mask [At.box b9 92 (cl_92 t94.1)] [true, false] ?_
               refine J.ret ?_
               obtain rfl := Option.some.inj H0
               exact JQ.done' (rs := [.cell 10 92, .tmp 11]) (vs := [.agg #[.int .i64 t94.1.Num, .int .i64 t94.1.Den], .int .i64 t94.2]) [] (.inr rfl) ⟨⟨b9, 0, _, _, by kernel_rfl, by kernel_rfl, holds_box b9 92 (cl_92 t94.1), .inl ⟨tyAgg_92, tySize_92, rfl⟩⟩, by kernel_rfl, trivial⟩ (fun _ h => Heap.to (Heap.pick [] (by decide) h)) ⟨rfl, rfl⟩

theorem corrupt_alike_1.ok (i1 : Int) (j2 : Int) (k3 : Int) (n4 : Int) (v5 : (List Vis)) (b6 : Nat) (Aa7 : Option Addr) (c8 : Nat) (v10 : (List Vis)) (b11 : Nat) (Aa12 : Option Addr) (c13 : Nat) (r : Bool) (H0 : corrupt_alike_1.f i1 j2 k3 n4 v5 v10 = some r) :
    Does Try.prog 57 [.int .i64 i1, .int .i64 j2, .int .i64 k3, .int .i64 n4, .pointer (some ⟨b6, 0, none⟩), .pointer (some ⟨b11, 0, none⟩)].toArray [At.rd Aa7 c8 fl_Vis.kd v5 true, At.rd Aa12 c13 fl_Vis.kd v10 true] [At.box b6 48 [.slice Aa7 v5.length c8], At.box b11 48 [.slice Aa12 v10.length c13]] false (fun v Δ => v = .bool r ∧ Δ = [At.box b6 48 [.slice Aa7 v5.length c8], At.box b11 48 [.slice Aa12 v10.length c13]]) := by
 refine Does.body (vs := [.int .i64 i1, .int .i64 j2, .int .i64 k3, .int .i64 n4, .pointer (some ⟨b6, 0, none⟩), .pointer (some ⟨b11, 0, none⟩)]) Try.func57 rfl ⟨.inl rfl, .inl rfl, trivial⟩ ⟨.inr (fun _ _ _ h => h), .inr (fun _ _ _ h => h), trivial⟩ fun w S => ?_
 unfold corrupt_alike_1.f at H0
 refine J.sr ?_
 refine JL.as (.bool false) ?_
 refine JL.es [(0, .int .i64 i1), (1, .int .i64 j2), (2, .int .i64 k3), (3, .int .i64 n4), (4, .pointer (some ⟨b6, 0, none⟩)), (5, .pointer (some ⟨b11, 0, none⟩))] ?_
 refine J.sr ?_
 refine JL.val (.slice Aa7 v5.length c8) (some 16) (yields_load_box 2 0 (holds_box b6 48 [.slice Aa7 v5.length c8]) tyAgg_48) ?_
 refine JL.mv (.int .i64 i1) ?_
 refine JL.mv (.int .i64 j2) ?_
 refine JL.mv (.int .i64 k3) ?_
 refine JL.mv (.int .i64 n4) ?_
 obtain ⟨t15, hc16, H0⟩ := bind_some H0
 refine JL.call [] [] [] (closure_Amp.ok v5 Aa7 c8 i1 j2 k3 n4 _ hc16) ⟨pre_any 0 (view_rd Aa7 c8 fl_Vis.kd v5 true true), trivial⟩ ?_
 rintro _ _ ⟨rfl, rfl⟩
 refine JL.mv (.tuple #[mv_92 t15.1, .int .i64 t15.2]) ?_
 refine JL.pur (mv_92 t15.1) (some 22) ?_
 refine JL.pur (.int .i64 t15.2) (some 23) ?_
 refine JL.alloc (cl_92 zv_92) fun b17 => ?_
 refine JL.store 4 b17 0 92 (cl_92 zv_92) (cl_92 t15.1) tySize_92 ?_
 refine JL.as (.int .i64 t15.2) ?_
 refine JL.es [(0, .int .i64 i1), (1, .int .i64 j2), (2, .int .i64 k3), (3, .int .i64 n4), (5, .pointer (some ⟨b11, 0, none⟩)), (11, .pointer (some ⟨b17, 0, none⟩)), (12, .int .i64 t15.2)] ?_
 refine J.sr ?_
 refine JL.val (.slice Aa12 v10.length c13) (some 25) (yields_load_box 3 0 (holds_box b11 48 [.slice Aa12 v10.length c13]) tyAgg_48) ?_
 refine JL.mv (.int .i64 i1) ?_
 refine JL.mv (.int .i64 j2) ?_
 refine JL.mv (.int .i64 k3) ?_
 refine JL.mv (.int .i64 n4) ?_
 obtain ⟨t18, hc19, H0⟩ := bind_some H0
 refine JL.call [] [] [] (closure_Amp.ok v10 Aa12 c13 i1 j2 k3 n4 _ hc19) ⟨pre_any 1 (view_rd Aa12 c13 fl_Vis.kd v10 true true), trivial⟩ ?_
 rintro _ _ ⟨rfl, rfl⟩
 refine JL.mv (.tuple #[mv_92 t18.1, .int .i64 t18.2]) ?_
 refine JL.pur (mv_92 t18.1) (some 31) ?_
 refine JL.pur (.int .i64 t18.2) (some 32) ?_
 refine JL.alloc (cl_92 zv_92) fun b20 => ?_
 refine JL.store 5 b20 0 92 (cl_92 zv_92) (cl_92 t18.1) tySize_92 ?_
 refine JL.as (.int .i64 t18.2) ?_
 refine JL.es [(11, .pointer (some ⟨b17, 0, none⟩)), (12, .int .i64 t15.2), (13, .pointer (some ⟨b20, 0, none⟩)), (14, .int .i64 t18.2)] ?_
 refine J.sr ?_
 refine JL.mv (.int .i64 t15.2) ?_
 refine JL.pur (.bool (!decide (t15.2 = 0))) (some 34) ?_
 refine JL.mv (.bool (!decide (t15.2 = 0))) ?_
 rcases ite_cases H0 with ⟨h21, H0⟩ | ⟨h21, H0⟩
 · refine JL.off 2 35 false (some 36) h21 ?_
   refine JL.off 2 35 false (some 37) h21 ?_
   refine JL.val (.bool true) (some 38) (gives_pickT h21) ?_
   refine JL.mv (.bool true) ?_
   refine JL.off 6 39 false (some 40) rfl ?_
   refine JL.off 6 39 false (some 41) rfl ?_
   refine JL.off 6 39 false (some 42) rfl ?_
   refine JL.val (.bool true) (some 43) (gives_pickT rfl) ?_
   refine JL.as (.bool true) ?_
   refine JL.es [(10, .bool true)] ?_
   refine JQ.mask [At.rd Aa7 c8 fl_Vis.kd v5 true, At.rd Aa12 c13 fl_Vis.kd v10 true, At.box b6 48 [.slice Aa7 v5.length c8], At.box b11 48 [.slice Aa12 v10.length c13]] [true, true, true, true, false, false] ?_
   refine J.ret ?_
   obtain rfl := Option.some.inj H0
   exact JQ.done' (rs := [.tmp 10]) (vs := [.bool true]) [At.box b6 48 [.slice Aa7 v5.length c8], At.box b11 48 [.slice Aa12 v10.length c13]] (.inr rfl) ⟨by kernel_rfl, trivial⟩ (fun _ h => Heap.to (Heap.pick [2, 3] (by decide) h)) ⟨rfl, rfl⟩
 · refine JL.on 2 35 h21 ?_
   refine JL.mv (.int .i64 t18.2) ?_
   refine JL.on 2 35 h21 ?_
   refine JL.pur (.bool (!decide (t18.2 = 0))) (some 37) ?_
   refine JL.val (.bool (!decide (t18.2 = 0))) (some 38) (gives_pickF h21) ?_
   refine JL.mv (.bool (!decide (t18.2 = 0))) ?_
   rcases ite_cases H0 with ⟨h22, H0⟩ | ⟨h22, H0⟩
   · refine JL.off 6 39 false (some 40) h22 ?_
     refine JL.off 6 39 false (some 41) h22 ?_
     refine JL.off 6 39 false (some 42) h22 ?_
     refine JL.val (.bool true) (some 43) (gives_pickT h22) ?_
     refine JL.as (.bool true) ?_
     refine JL.es [(10, .bool true)] ?_
     refine JQ.mask [At.rd Aa7 c8 fl_Vis.kd v5 true, At.rd Aa12 c13 fl_Vis.kd v10 true, At.box b6 48 [.slice Aa7 v5.length c8], At.box b11 48 [.slice Aa12 v10.length c13]] [true, true, true, true, false, false] ?_
     refine J.ret ?_
     obtain rfl := Option.some.inj H0
     exact JQ.done' (rs := [.tmp 10]) (vs := [.bool true]) [At.box b6 48 [.slice Aa7 v5.length c8], At.box b11 48 [.slice Aa12 v10.length c13]] (.inr rfl) ⟨by kernel_rfl, trivial⟩ (fun _ h => Heap.to (Heap.pick [2, 3] (by decide) h)) ⟨rfl, rfl⟩
   · refine JL.on 6 39 h22 ?_
     refine JL.val (mv_92 t15.1) (some 40) (yields_load_boxes 4 0 (cl_92 t15.1) (holds_box b17 92 (cl_92 t15.1)) tyAgg_92 tySize_92) ?_
     refine JL.on 6 39 h22 ?_
     refine JL.val (mv_92 t18.1) (some 41) (yields_load_boxes 5 0 (cl_92 t18.1) (holds_box b20 92 (cl_92 t18.1)) tyAgg_92 tySize_92) ?_
     refine JL.on 6 39 h22 ?_
     refine JL.val (.bool (decide (t15.1 = t18.1))) (some 42) (gives_eql eqg_92 (fun w => eqt_92 t15.1 t18.1 w)) ?_
     refine JL.val (.bool (decide (t15.1 = t18.1))) (some 43) (gives_pickF h22) ?_
     refine JL.as (.bool (decide (t15.1 = t18.1))) ?_
     refine JL.es [(10, .bool (decide (t15.1 = t18.1)))] ?_
     refine JQ.mask [At.rd Aa7 c8 fl_Vis.kd v5 true, At.rd Aa12 c13 fl_Vis.kd v10 true, At.box b6 48 [.slice Aa7 v5.length c8], At.box b11 48 [.slice Aa12 v10.length c13]] [true, true, true, true, false, false] ?_
     refine J.ret ?_
     obtain rfl := Option.some.inj H0
     exact JQ.done' (rs := [.tmp 10]) (vs := [.bool (decide (t15.1 = t18.1))]) [At.box b6 48 [.slice Aa7 v5.length c8], At.box b11 48 [.slice Aa12 v10.length c13]] (.inr rfl) ⟨by kernel_rfl, trivial⟩ (fun _ h => Heap.to (Heap.pick [2, 3] (by decide) h)) ⟨rfl, rfl⟩

theorem corrupt_alike_2.ok (i1 : Int) (j2 : Int) (k3 : Int) (n4 : Int) (v5 : (List Vis)) (b6 : Nat) (Aa7 : Option Addr) (c8 : Nat) (v10 : (List Vis)) (b11 : Nat) (Aa12 : Option Addr) (c13 : Nat) (b15 : Nat) (r : Bool) (H0 : corrupt_alike_2.f i1 j2 k3 n4 v5 v10 = some r) :
    Does Try.prog 61 [.int .i64 i1, .int .i64 j2, .int .i64 k3, .int .i64 n4, .pointer (some ⟨b15, 0, none⟩)].toArray [At.rd Aa7 c8 fl_Vis.kd v5 true, At.rd Aa12 c13 fl_Vis.kd v10 true] [At.box b6 48 [.slice Aa7 v5.length c8], At.box b11 48 [.slice Aa12 v10.length c13], At.box b15 95 [.func (.func 57) #[] #[.pointer (some ⟨b6, 0, none⟩), .pointer (some ⟨b11, 0, none⟩)]]] false (fun v Δ => v = .bool r ∧ Δ = [At.box b6 48 [.slice Aa7 v5.length c8], At.box b11 48 [.slice Aa12 v10.length c13], At.box b15 95 [.func (.func 57) #[] #[.pointer (some ⟨b6, 0, none⟩), .pointer (some ⟨b11, 0, none⟩)]]]) := by
 refine Does.body (vs := [.int .i64 i1, .int .i64 j2, .int .i64 k3, .int .i64 n4, .pointer (some ⟨b15, 0, none⟩)]) Try.func61 rfl ⟨.inl rfl, .inl rfl, trivial⟩ ⟨.inr (fun _ _ _ h => h), .inr (fun _ _ _ h => h), .inr (fun _ _ _ h => h), trivial⟩ fun w S => ?_
 unfold corrupt_alike_2.f at H0
 refine J.sr ?_
 refine JL.as (.bool false) ?_
 refine JL.es [(0, .int .i64 i1), (1, .int .i64 j2), (2, .int .i64 k3), (3, .int .i64 n4), (4, .pointer (some ⟨b15, 0, none⟩))] ?_
 refine J.sr ?_
 refine JL.val (.func (.func 57) #[] #[.pointer (some ⟨b6, 0, none⟩), .pointer (some ⟨b11, 0, none⟩)]) (some 10) (yields_load_box 4 0 (holds_box b15 95 [.func (.func 57) #[] #[.pointer (some ⟨b6, 0, none⟩), .pointer (some ⟨b11, 0, none⟩)]]) tyAgg_95) ?_
 refine JL.mv (.int .i64 i1) ?_
 refine JL.mv (.int .i64 j2) ?_
 refine JL.mv (.int .i64 k3) ?_
 refine JL.mv (.int .i64 n4) ?_
 obtain ⟨t16, hc17, H0⟩ := bind_some H0
 refine JL.call [] [.pointer (some ⟨b6, 0, none⟩), .pointer (some ⟨b11, 0, none⟩)] [false, false, true, true] (corrupt_alike_1.ok i1 j2 k3 n4 v5 b6 Aa7 c8 v10 b11 Aa12 c13 _ hc17) ⟨pre_any 0 (view_rd Aa7 c8 fl_Vis.kd v5 true true), ⟨pre_any 1 (view_rd Aa12 c13 fl_Vis.kd v10 true true), trivial⟩⟩ ?_
 rintro _ _ ⟨rfl, rfl⟩
 refine JL.mv (.bool t16) ?_
 rcases ite_cases H0 with ⟨h18, H0⟩ | ⟨h18, H0⟩
 · refine JL.on 6 16 h18 ?_
   refine JL.val (.func (.func 57) #[] #[.pointer (some ⟨b6, 0, none⟩), .pointer (some ⟨b11, 0, none⟩)]) (some 17) (yields_load_box 2 0 (holds_box b15 95 [.func (.func 57) #[] #[.pointer (some ⟨b6, 0, none⟩), .pointer (some ⟨b11, 0, none⟩)]]) tyAgg_95) ?_
   refine JL.on 6 16 h18 ?_
   refine JL.mv (.int .i64 i1) ?_
   refine JL.on 6 16 h18 ?_
   refine JL.mv (.int .i64 k3) ?_
   refine JL.on 6 16 h18 ?_
   refine JL.mv (.int .i64 n4) ?_
   refine JL.on 6 16 h18 ?_
   refine JL.mv (.int .i64 j2) ?_
   refine JL.on 6 16 h18 ?_
   obtain ⟨t19, hc20, H0⟩ := bind_some H0
   refine JL.call [] [.pointer (some ⟨b6, 0, none⟩), .pointer (some ⟨b11, 0, none⟩)] [false, false, false, true, true] (corrupt_alike_1.ok i1 k3 n4 j2 v5 b6 Aa7 c8 v10 b11 Aa12 c13 _ hc20) ⟨pre_any 0 (view_rd Aa7 c8 fl_Vis.kd v5 true true), ⟨pre_any 1 (view_rd Aa12 c13 fl_Vis.kd v10 true true), trivial⟩⟩ ?_
   rintro _ _ ⟨rfl, rfl⟩
   refine JL.val (.bool t19) (some 23) (gives_pickT h18) ?_
   refine JL.as (.bool t19) ?_
   refine JL.es [(9, .bool t19)] ?_
   refine J.ret ?_
   obtain rfl := Option.some.inj H0
   exact JQ.done' (rs := [.tmp 9]) (vs := [.bool t19]) [At.box b6 48 [.slice Aa7 v5.length c8], At.box b11 48 [.slice Aa12 v10.length c13], At.box b15 95 [.func (.func 57) #[] #[.pointer (some ⟨b6, 0, none⟩), .pointer (some ⟨b11, 0, none⟩)]]] (.inr rfl) ⟨by kernel_rfl, trivial⟩ (fun _ h => Heap.to (Heap.pick [3, 4, 2] (by decide) h)) ⟨rfl, rfl⟩
 · refine JL.off 6 16 true (some 17) h18 ?_
   refine JL.off 6 16 true (some 18) h18 ?_
   refine JL.off 6 16 true (some 19) h18 ?_
   refine JL.off 6 16 true (some 20) h18 ?_
   refine JL.off 6 16 true (some 21) h18 ?_
   refine JL.off 6 16 true (some 22) h18 ?_
   refine JL.val (.bool false) (some 23) (gives_pickF h18) ?_
   refine JL.as (.bool false) ?_
   refine JL.es [(9, .bool false)] ?_
   refine J.ret ?_
   obtain rfl := Option.some.inj H0
   exact JQ.done' (rs := [.tmp 9]) (vs := [.bool false]) [At.box b6 48 [.slice Aa7 v5.length c8], At.box b11 48 [.slice Aa12 v10.length c13], At.box b15 95 [.func (.func 57) #[] #[.pointer (some ⟨b6, 0, none⟩), .pointer (some ⟨b11, 0, none⟩)]]] (.inr rfl) ⟨by kernel_rfl, trivial⟩ (fun _ h => Heap.to (Heap.pick [3, 4, 2] (by decide) h)) ⟨rfl, rfl⟩


end Go.Proofs.Ytifpegepdgmmbaa.M
