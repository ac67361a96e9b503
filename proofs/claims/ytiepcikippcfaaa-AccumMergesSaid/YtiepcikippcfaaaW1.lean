import Derived.Test.YtiepcikippcfaaaW0
set_option linter.unusedVariables false
set_option linter.unusedSimpArgs false
set_option maxRecDepth 100000
set_option maxHeartbeats 8000000
namespace Go.Proofs.Ytiepcikippcfaaa.M
open Go.GW Go.Proofs

theorem ref18_Merge.ok (a1 : Acc) (Aa2 : Option Addr) (c3 : Nat) (Aa5 : Option Addr) (c6 : Nat) (Aa8 : Option Addr) (c9 : Nat) (b11 : Acc) (Aa12 : Option Addr) (c13 : Nat) (Aa15 : Option Addr) (c16 : Nat) (Aa18 : Option Addr) (c19 : Nat) (r : (Acc × Int)) (H0 : ref18_Merge.f a1 b11 = some r) :
    Does Try.prog 10 [.agg #[.slice Aa2 a1.Sums.length c3, .slice Aa5 a1.Ns.length c6, .slice Aa8 a1.Spans.length c9], .agg #[.slice Aa12 b11.Sums.length c13, .slice Aa15 b11.Ns.length c16, .slice Aa18 b11.Spans.length c19]].toArray [At.rd Aa2 c3 fl_Count.kd a1.Sums true, At.rd Aa5 c6 fl_Count.kd a1.Ns true, At.rd Aa8 c9 fl_Gap.kd a1.Spans true, At.rd Aa12 c13 fl_Count.kd b11.Sums true, At.rd Aa15 c16 fl_Count.kd b11.Ns true, At.rd Aa18 c19 fl_Gap.kd b11.Spans true] [] false (fun v Δ => ∃ A1001 : Option Addr, ∃ c1001 : Nat, ∃ A1002 : Option Addr, ∃ c1002 : Nat, ∃ A1003 : Option Addr, ∃ c1003 : Nat, v = .tuple #[.agg #[.slice A1001 r.1.Sums.length c1001, .slice A1002 r.1.Ns.length c1002, .slice A1003 r.1.Spans.length c1003], .int .i64 r.2] ∧ Δ = [At.row A1001 c1001 49 fl_Count.kd r.1.Sums false, At.row A1002 c1002 49 fl_Count.kd r.1.Ns false, At.row A1003 c1003 51 fl_Gap.kd r.1.Spans false]) := by
 refine Does.body (vs := [.agg #[.slice Aa2 a1.Sums.length c3, .slice Aa5 a1.Ns.length c6, .slice Aa8 a1.Spans.length c9], .agg #[.slice Aa12 b11.Sums.length c13, .slice Aa15 b11.Ns.length c16, .slice Aa18 b11.Spans.length c19]]) Try.func10 rfl ⟨.inl rfl, .inl rfl, .inl rfl, .inl rfl, .inl rfl, .inl rfl, trivial⟩ trivial fun w S => ?_
 unfold ref18_Merge.f at H0
 refine J.sr ?_
 refine JL.box [.slice Aa2 a1.Sums.length c3, .slice Aa5 a1.Ns.length c6, .slice Aa8 a1.Spans.length c9] fun b21 => ?_
 refine JL.box [.slice Aa12 b11.Sums.length c13, .slice Aa15 b11.Ns.length c16, .slice Aa18 b11.Spans.length c19] fun b22 => ?_
 refine JL.alloc [.slice none 0 0, .slice none 0 0, .slice none 0 0] fun b23 => ?_
 refine JL.as (.int .i64 0) ?_
 refine JL.es [(2, .pointer (some ⟨b21, 0, none⟩)), (3, .pointer (some ⟨b22, 0, none⟩)), (4, .pointer (some ⟨b23, 0, none⟩))] ?_
 refine J.seq ?_
 refine J.sr ?_
 refine JL.val (.agg #[.slice Aa2 a1.Sums.length c3, .slice Aa5 a1.Ns.length c6, .slice Aa8 a1.Spans.length c9]) (some 15) (yields_load_boxes 6 0 [.slice Aa2 a1.Sums.length c3, .slice Aa5 a1.Ns.length c6, .slice Aa8 a1.Spans.length c9] (holds_box b21 25 [.slice Aa2 a1.Sums.length c3, .slice Aa5 a1.Ns.length c6, .slice Aa8 a1.Spans.length c9]) tyAgg_25 tySize_25) ?_
 obtain ⟨t24, hc25, H0⟩ := bind_some H0
 refine JL.call [] [] [] (ref18_Check.ok a1 Aa2 c3 Aa5 c6 Aa8 c9 _ hc25) ⟨pre_any 0 (view_rd Aa2 c3 fl_Count.kd a1.Sums true true), ⟨pre_any 1 (view_rd Aa5 c6 fl_Count.kd a1.Ns true true), ⟨pre_any 2 (view_rd Aa8 c9 fl_Gap.kd a1.Spans true true), trivial⟩⟩⟩ ?_
 rintro _ _ ⟨rfl, rfl⟩
 refine JL.pur (.bool (!decide (t24 = 0))) (some 17) ?_
 refine JL.es [(2, .pointer (some ⟨b21, 0, none⟩)), (3, .pointer (some ⟨b22, 0, none⟩)), (4, .pointer (some ⟨b23, 0, none⟩)), (17, .bool (!decide (t24 = 0)))] ?_
 rcases ite_cases H0 with ⟨h26, H0⟩ | ⟨h26, H0⟩
 · refine J.cond_true h26 ?_
   refine J.sr ?_
   refine JL.pur (.agg #[.slice none 0 0, .slice none 0 0, .slice none 0 0]) (some 18) ?_
   refine JL.val (.agg #[.slice Aa2 a1.Sums.length c3, .slice Aa5 a1.Ns.length c6, .slice Aa8 a1.Spans.length c9]) (some 19) (yields_load_boxes 6 0 [.slice Aa2 a1.Sums.length c3, .slice Aa5 a1.Ns.length c6, .slice Aa8 a1.Spans.length c9] (holds_box b21 25 [.slice Aa2 a1.Sums.length c3, .slice Aa5 a1.Ns.length c6, .slice Aa8 a1.Spans.length c9]) tyAgg_25 tySize_25) ?_
   obtain ⟨t27, hc28, H0⟩ := bind_some H0
   refine JL.call [] [] [] (ref18_Check.ok a1 Aa2 c3 Aa5 c6 Aa8 c9 _ hc28) ⟨pre_any 0 (view_rd Aa2 c3 fl_Count.kd a1.Sums true true), ⟨pre_any 1 (view_rd Aa5 c6 fl_Count.kd a1.Ns true true), ⟨pre_any 2 (view_rd Aa8 c9 fl_Gap.kd a1.Spans true true), trivial⟩⟩⟩ ?_
   rintro _ _ ⟨rfl, rfl⟩
   refine JL.store 8 b23 0 25 [.slice none 0 0, .slice none 0 0, .slice none 0 0] [.slice none 0 0, .slice none 0 0, .slice none 0 0] tySize_25 ?_
   refine JL.as (.int .i64 t27) ?_
   refine JL.es [(4, .pointer (some ⟨b23, 0, none⟩)), (5, .int .i64 t27)] ?_
   refine JQ.mask [At.box b23 25 [.slice none 0 0, .slice none 0 0, .slice none 0 0]] [false, false, false, false, false, false, false, false, true] ?_
   refine J.ret ?_
   refine JQ.then_ret ?_
   obtain rfl := Option.some.inj H0
   exact JQ.done' (rs := [.cell 4 25, .tmp 5]) (vs := [.agg #[.slice none 0 0, .slice none 0 0, .slice none 0 0], .int .i64 t27]) [At.row none 0 49 fl_Count.kd ([] : List Count) false, At.row none 0 49 fl_Count.kd ([] : List Count) false, At.row none 0 51 fl_Gap.kd ([] : List Gap) false] (.inr rfl) ⟨⟨b23, 0, _, _, by kernel_rfl, by kernel_rfl, holds_box b23 25 [.slice none 0 0, .slice none 0 0, .slice none 0 0], .inl ⟨tyAgg_25, tySize_25, rfl⟩⟩, by kernel_rfl, trivial⟩ (fun _ h => Heap.to (Heap.pick [1, 2, 3] (by decide) (Heap.addRow0 (α := Gap) 51 fl_Gap.kd false (Heap.addRow0 (α := Count) 49 fl_Count.kd false (Heap.addRow0 (α := Count) 49 fl_Count.kd false h))))) ⟨none, 0, none, 0, none, 0, rfl, rfl⟩
 · refine J.cond_false h26 ?_
   refine J.skip ?_
   refine JQ.ts [(2, .pointer (some ⟨b21, 0, none⟩)), (3, .pointer (some ⟨b22, 0, none⟩)), (4, .pointer (some ⟨b23, 0, none⟩))] ?_
   refine J.seq ?_
   refine J.sr ?_
   refine JL.val (.agg #[.slice Aa12 b11.Sums.length c13, .slice Aa15 b11.Ns.length c16, .slice Aa18 b11.Spans.length c19]) (some 21) (yields_load_boxes 7 0 [.slice Aa12 b11.Sums.length c13, .slice Aa15 b11.Ns.length c16, .slice Aa18 b11.Spans.length c19] (holds_box b22 25 [.slice Aa12 b11.Sums.length c13, .slice Aa15 b11.Ns.length c16, .slice Aa18 b11.Spans.length c19]) tyAgg_25 tySize_25) ?_
   obtain ⟨t29, hc30, H0⟩ := bind_some H0
   refine JL.call [] [] [] (ref18_Check.ok b11 Aa12 c13 Aa15 c16 Aa18 c19 _ hc30) ⟨pre_any 3 (view_rd Aa12 c13 fl_Count.kd b11.Sums true true), ⟨pre_any 4 (view_rd Aa15 c16 fl_Count.kd b11.Ns true true), ⟨pre_any 5 (view_rd Aa18 c19 fl_Gap.kd b11.Spans true true), trivial⟩⟩⟩ ?_
   rintro _ _ ⟨rfl, rfl⟩
   refine JL.pur (.bool (!decide (t29 = 0))) (some 23) ?_
   refine JL.es [(2, .pointer (some ⟨b21, 0, none⟩)), (3, .pointer (some ⟨b22, 0, none⟩)), (4, .pointer (some ⟨b23, 0, none⟩)), (23, .bool (!decide (t29 = 0)))] ?_
   rcases ite_cases H0 with ⟨h31, H0⟩ | ⟨h31, H0⟩
   · refine J.cond_true h31 ?_
     refine J.sr ?_
     refine JL.pur (.agg #[.slice none 0 0, .slice none 0 0, .slice none 0 0]) (some 24) ?_
     refine JL.val (.agg #[.slice Aa12 b11.Sums.length c13, .slice Aa15 b11.Ns.length c16, .slice Aa18 b11.Spans.length c19]) (some 25) (yields_load_boxes 7 0 [.slice Aa12 b11.Sums.length c13, .slice Aa15 b11.Ns.length c16, .slice Aa18 b11.Spans.length c19] (holds_box b22 25 [.slice Aa12 b11.Sums.length c13, .slice Aa15 b11.Ns.length c16, .slice Aa18 b11.Spans.length c19]) tyAgg_25 tySize_25) ?_
     obtain ⟨t32, hc33, H0⟩ := bind_some H0
     refine JL.call [] [] [] (ref18_Check.ok b11 Aa12 c13 Aa15 c16 Aa18 c19 _ hc33) ⟨pre_any 3 (view_rd Aa12 c13 fl_Count.kd b11.Sums true true), ⟨pre_any 4 (view_rd Aa15 c16 fl_Count.kd b11.Ns true true), ⟨pre_any 5 (view_rd Aa18 c19 fl_Gap.kd b11.Spans true true), trivial⟩⟩⟩ ?_
     rintro _ _ ⟨rfl, rfl⟩
     refine JL.store 8 b23 0 25 [.slice none 0 0, .slice none 0 0, .slice none 0 0] [.slice none 0 0, .slice none 0 0, .slice none 0 0] tySize_25 ?_
     refine JL.as (.int .i64 t32) ?_
     refine JL.es [(4, .pointer (some ⟨b23, 0, none⟩)), (5, .int .i64 t32)] ?_
     refine JQ.mask [At.box b23 25 [.slice none 0 0, .slice none 0 0, .slice none 0 0]] [false, false, false, false, false, false, false, false, true] ?_
     refine J.ret ?_
     refine JQ.then_ret ?_
     obtain rfl := Option.some.inj H0
     exact JQ.done' (rs := [.cell 4 25, .tmp 5]) (vs := [.agg #[.slice none 0 0, .slice none 0 0, .slice none 0 0], .int .i64 t32]) [At.row none 0 49 fl_Count.kd ([] : List Count) false, At.row none 0 49 fl_Count.kd ([] : List Count) false, At.row none 0 51 fl_Gap.kd ([] : List Gap) false] (.inr rfl) ⟨⟨b23, 0, _, _, by kernel_rfl, by kernel_rfl, holds_box b23 25 [.slice none 0 0, .slice none 0 0, .slice none 0 0], .inl ⟨tyAgg_25, tySize_25, rfl⟩⟩, by kernel_rfl, trivial⟩ (fun _ h => Heap.to (Heap.pick [1, 2, 3] (by decide) (Heap.addRow0 (α := Gap) 51 fl_Gap.kd false (Heap.addRow0 (α := Count) 49 fl_Count.kd false (Heap.addRow0 (α := Count) 49 fl_Count.kd false h))))) ⟨none, 0, none, 0, none, 0, rfl, rfl⟩
   · refine J.cond_false h31 ?_
     refine J.skip ?_
     refine JQ.ts [(2, .pointer (some ⟨b21, 0, none⟩)), (3, .pointer (some ⟨b22, 0, none⟩)), (4, .pointer (some ⟨b23, 0, none⟩))] ?_
     refine J.seq ?_
     refine J.sr ?_
     refine JL.pur (.pointer (some ⟨b21, 0, none⟩)) (some 27) ?_
     refine JL.val (.slice Aa2 a1.Sums.length c3) (some 28) (yields_load_box 6 0 (holds_box b21 25 [.slice Aa2 a1.Sums.length c3, .slice Aa5 a1.Ns.length c6, .slice Aa8 a1.Spans.length c9]) tyAgg_22) ?_
     refine JL.pur (.int .i64 (a1.Sums.length : Int)) (some 29) ?_
     refine JL.pur (.pointer (some ⟨b22, 0, none⟩)) (some 30) ?_
     refine JL.val (.slice Aa12 b11.Sums.length c13) (some 31) (yields_load_box 7 0 (holds_box b22 25 [.slice Aa12 b11.Sums.length c13, .slice Aa15 b11.Ns.length c16, .slice Aa18 b11.Spans.length c19]) tyAgg_22) ?_
     refine JL.pur (.int .i64 (b11.Sums.length : Int)) (some 32) ?_
     refine JL.pur (.bool (!decide ((a1.Sums.length : Int) = (b11.Sums.length : Int)))) (some 33) ?_
     refine JL.es [(2, .pointer (some ⟨b21, 0, none⟩)), (3, .pointer (some ⟨b22, 0, none⟩)), (4, .pointer (some ⟨b23, 0, none⟩)), (33, .bool (!decide ((a1.Sums.length : Int) = (b11.Sums.length : Int))))] ?_
     rcases ite_cases H0 with ⟨h34, H0⟩ | ⟨h34, H0⟩
     · refine J.cond_true h34 ?_
       refine J.sr ?_
       refine JL.pur (.agg #[.slice none 0 0, .slice none 0 0, .slice none 0 0]) (some 34) ?_
       refine JL.store 8 b23 0 25 [.slice none 0 0, .slice none 0 0, .slice none 0 0] [.slice none 0 0, .slice none 0 0, .slice none 0 0] tySize_25 ?_
       refine JL.as (.int .i64 2) ?_
       refine JL.es [(4, .pointer (some ⟨b23, 0, none⟩)), (5, .int .i64 2)] ?_
       refine JQ.mask [At.box b23 25 [.slice none 0 0, .slice none 0 0, .slice none 0 0]] [false, false, false, false, false, false, false, false, true] ?_
       refine J.ret ?_
       refine JQ.then_ret ?_
       obtain rfl := Option.some.inj H0
       exact JQ.done' (rs := [.cell 4 25, .tmp 5]) (vs := [.agg #[.slice none 0 0, .slice none 0 0, .slice none 0 0], .int .i64 2]) [At.row none 0 49 fl_Count.kd ([] : List Count) false, At.row none 0 49 fl_Count.kd ([] : List Count) false, At.row none 0 51 fl_Gap.kd ([] : List Gap) false] (.inr rfl) ⟨⟨b23, 0, _, _, by kernel_rfl, by kernel_rfl, holds_box b23 25 [.slice none 0 0, .slice none 0 0, .slice none 0 0], .inl ⟨tyAgg_25, tySize_25, rfl⟩⟩, by kernel_rfl, trivial⟩ (fun _ h => Heap.to (Heap.pick [1, 2, 3] (by decide) (Heap.addRow0 (α := Gap) 51 fl_Gap.kd false (Heap.addRow0 (α := Count) 49 fl_Count.kd false (Heap.addRow0 (α := Count) 49 fl_Count.kd false h))))) ⟨none, 0, none, 0, none, 0, rfl, rfl⟩
     · refine J.cond_false h34 ?_
       refine J.skip ?_
       refine JQ.ts [(2, .pointer (some ⟨b21, 0, none⟩)), (3, .pointer (some ⟨b22, 0, none⟩)), (4, .pointer (some ⟨b23, 0, none⟩))] ?_
       refine J.sr ?_
       refine JL.buildSl 51 fl_Gap.kd (([] : List Gap) : List Gap) [] false (closes_fl rfl) fun b35 => ?_
       refine JL.pur (.pointer (some ⟨b21, 2, none⟩)) (some 36) ?_
       refine JL.val (.slice Aa8 a1.Spans.length c9) (some 37) (yields_load_box 6 2 (holds_box b21 25 [.slice Aa2 a1.Sums.length c3, .slice Aa5 a1.Ns.length c6, .slice Aa8 a1.Spans.length c9]) tyAgg_23) ?_
       obtain ⟨h38, H0⟩ := ite_must H0
       refine JL.append false false 9 2 (some ⟨b35, 0, none⟩) 0 c9 ([] : List Gap) (elems_rd Aa8 c9 fl_Gap.kd a1.Spans true) Try.underlying23 info_51 (by omega) (by omega) (fun h => h) (.inr ⟨_, rfl⟩) fun Aa36 c37 => ?_
       refine JL.pur (.agg #[.slice none 0 0, .slice none 0 0, .slice Aa36 (([] : List Gap) ++ a1.Spans).length c37]) (some 39) ?_
       refine JL.alloc [.slice none 0 0, .slice none 0 0, .slice none 0 0] fun b39 => ?_
       refine JL.store 10 b39 0 25 [.slice none 0 0, .slice none 0 0, .slice none 0 0] [.slice none 0 0, .slice none 0 0, .slice Aa36 (([] : List Gap) ++ a1.Spans).length c37] tySize_25 ?_
       refine JL.es [(2, .pointer (some ⟨b21, 0, none⟩)), (3, .pointer (some ⟨b22, 0, none⟩)), (4, .pointer (some ⟨b23, 0, none⟩)), (6, .pointer (some ⟨b39, 0, none⟩))] ?_
       refine J.seq ?_
       refine J.sr ?_
       refine JL.as (.int .i64 0) ?_
       refine JL.en ?_
       obtain ⟨o1, hit, H0⟩ := bind_some H0
       refine J.loop (σ := ((List Gap) × Int)) (τ := List Gap) (G := ((Option Addr) × Nat)) (G' := ((Option Addr) × Nat)) _ o1 (fun s g => [(2, .pointer (some ⟨b21, 0, none⟩)), (3, .pointer (some ⟨b22, 0, none⟩)), (4, .pointer (some ⟨b23, 0, none⟩)), (6, .pointer (some ⟨b39, 0, none⟩)), (7, .int .i64 s.2)]) (fun s g => [At.box b21 25 [.slice Aa2 a1.Sums.length c3, .slice Aa5 a1.Ns.length c6, .slice Aa8 a1.Spans.length c9], At.rd Aa2 c3 fl_Count.kd a1.Sums true, At.rd Aa5 c6 fl_Count.kd a1.Ns true, At.rd Aa8 c9 fl_Gap.kd a1.Spans true, At.box b22 25 [.slice Aa12 b11.Sums.length c13, .slice Aa15 b11.Ns.length c16, .slice Aa18 b11.Spans.length c19], At.rd Aa12 c13 fl_Count.kd b11.Sums true, At.rd Aa15 c16 fl_Count.kd b11.Ns true, At.rd Aa18 c19 fl_Gap.kd b11.Spans true, At.box b23 25 [.slice none 0 0, .slice none 0 0, .slice none 0 0], At.box b39 25 [.slice none 0 0, .slice none 0 0, .slice g.1 s.1.length g.2], At.row g.1 g.2 51 fl_Gap.kd s.1 false]) (fun t => ref18_Merge.k2 a1 b11 t = some r) (fun t g => [(2, .pointer (some ⟨b21, 0, none⟩)), (3, .pointer (some ⟨b22, 0, none⟩)), (4, .pointer (some ⟨b23, 0, none⟩)), (6, .pointer (some ⟨b39, 0, none⟩))]) (fun t g => [At.box b21 25 [.slice Aa2 a1.Sums.length c3, .slice Aa5 a1.Ns.length c6, .slice Aa8 a1.Spans.length c9], At.rd Aa2 c3 fl_Count.kd a1.Sums true, At.rd Aa5 c6 fl_Count.kd a1.Ns true, At.rd Aa8 c9 fl_Gap.kd a1.Spans true, At.box b22 25 [.slice Aa12 b11.Sums.length c13, .slice Aa15 b11.Ns.length c16, .slice Aa18 b11.Spans.length c19], At.rd Aa12 c13 fl_Count.kd b11.Sums true, At.rd Aa15 c16 fl_Count.kd b11.Ns true, At.rd Aa18 c19 fl_Gap.kd b11.Spans true, At.box b23 25 [.slice none 0 0, .slice none 0 0, .slice none 0 0], At.box b39 25 [.slice none 0 0, .slice none 0 0, .slice g.1 t.length g.2], At.row g.1 g.2 51 fl_Gap.kd t false]) ((([] : List Gap) ++ a1.Spans), 0) (Aa36, c37) hit (fun _ h => Heap.to (Heap.pick [6, 0, 1, 2, 7, 3, 4, 5, 8, 10, 9] (by decide) h)) ?_ ?_
       · clear hit
         rintro ⟨out92, i96⟩ ⟨Aa93, c94⟩ st1 H1 hb1 hr1
         replace H1 : ref18_Merge.s1 b11 out92 i96 = some st1 := H1
         unfold ref18_Merge.s1 at H1
         refine JQ.sub [(2, .pointer (some ⟨b21, 0, none⟩)), (3, .pointer (some ⟨b22, 0, none⟩)), (4, .pointer (some ⟨b23, 0, none⟩)), (6, .pointer (some ⟨b39, 0, none⟩)), (7, .int .i64 i96)] ?_
         refine JQ.turn (Δ' := [At.box b21 25 [.slice Aa2 a1.Sums.length c3, .slice Aa5 a1.Ns.length c6, .slice Aa8 a1.Spans.length c9], At.rd Aa2 c3 fl_Count.kd a1.Sums true, At.rd Aa5 c6 fl_Count.kd a1.Ns true, At.rd Aa8 c9 fl_Gap.kd a1.Spans true, At.box b22 25 [.slice Aa12 b11.Sums.length c13, .slice Aa15 b11.Ns.length c16, .slice Aa18 b11.Spans.length c19], At.rd Aa12 c13 fl_Count.kd b11.Sums true, At.rd Aa15 c16 fl_Count.kd b11.Ns true, At.rd Aa18 c19 fl_Gap.kd b11.Spans true, At.box b23 25 [.slice none 0 0, .slice none 0 0, .slice none 0 0], At.box b39 25 [.slice none 0 0, .slice none 0 0, .slice Aa93 out92.length c94], At.row Aa93 c94 51 fl_Gap.kd out92 false]) (fun _ h => h.to) ?_
         refine J.seq ?_
         refine J.sr ?_
         refine JL.mv (.int .i64 i96) ?_
         refine JL.pur (.pointer (some ⟨b22, 2, none⟩)) (some 41) ?_
         refine JL.val (.slice Aa18 b11.Spans.length c19) (some 42) (yields_load_box 4 2 (holds_box b22 25 [.slice Aa12 b11.Sums.length c13, .slice Aa15 b11.Ns.length c16, .slice Aa18 b11.Spans.length c19]) tyAgg_23) ?_
         refine JL.pur (.int .i64 (b11.Spans.length : Int)) (some 43) ?_
         refine JL.pur (.bool (decide (i96 < (b11.Spans.length : Int)))) (some 44) ?_
         refine JL.es [(2, .pointer (some ⟨b21, 0, none⟩)), (3, .pointer (some ⟨b22, 0, none⟩)), (4, .pointer (some ⟨b23, 0, none⟩)), (6, .pointer (some ⟨b39, 0, none⟩)), (7, .int .i64 i96), (44, .bool (decide (i96 < (b11.Spans.length : Int))))] ?_
         rcases ite_cases H1 with ⟨h2124, H1⟩ | ⟨h2124, H1⟩
         · refine J.cond_true h2124 ?_
           refine J.skip ?_
           refine JQ.ts [(2, .pointer (some ⟨b21, 0, none⟩)), (3, .pointer (some ⟨b22, 0, none⟩)), (4, .pointer (some ⟨b23, 0, none⟩)), (6, .pointer (some ⟨b39, 0, none⟩)), (7, .int .i64 i96)] ?_
           refine J.seq ?_
           refine J.block ?_
           refine J.seq ?_
           obtain ⟨⟨h2125, h2126⟩, H1⟩ := ite_must H1
           obtain ⟨t2129, hc2130, H1⟩ := bind_some H1
           refine JQ.openA 7 (elems_rd Aa18 c19 fl_Gap.kd b11.Spans true) h2125 h2126 fun g2134 o2135 hA => ?_
           subst hA
           refine JY.start [] (ba 13 0) ?_
           refine JY.pur (hi := rfl) 0 (ba 13 1) (.pointer (some ⟨b39, 2, none⟩)) (some 48) want ?_
           refine JY.take (hi := rfl) 1 (ba 13 3) (.slice Aa93 out92.length c94) (some 49) [true, true, true, true, true, true, true, true, true, true, true] want (yields_load_box 9 2 (holds_box b39 25 [.slice none 0 0, .slice none 0 0, .slice Aa93 out92.length c94]) tyAgg_23) ?_
           refine JY.pur (hi := rfl) 2 (ba 13 7) (.pointer (some ⟨b22, 2, none⟩)) (some 50) want ?_
           refine JY.take (hi := rfl) 3 (ba 13 15) (.slice (some ⟨g2134, o2135, none⟩) b11.Spans.length c19) (some 51) [true, true, true, true, true, true, true, true, true, true, true] want (yields_load_box 4 2 (holds_box b22 25 [.slice Aa12 b11.Sums.length c13, .slice Aa15 b11.Ns.length c16, .slice (some ⟨g2134, o2135, none⟩) b11.Spans.length c19]) tyAgg_23) ?_
           refine JY.pur (hi := rfl) 4 (ba 13 31) (.int .i64 i96) (some 52) want ?_
           obtain ⟨h2136, h2137⟩ : 0 ≤ i96 ∧ i96 < (b11.Spans.length : Int) := ⟨h2125, h2126⟩
           refine JY.puw (hi := rfl) 5 (ba 13 63) (.pointer (some ⟨g2134, o2135 + i96.toNat * 2, none⟩)) (some 53) want (givesW_ixSl (g := g2134) (o := o2135) (n := b11.Spans.length) (i := i96) 2 c19 .i64 Try.underlying23 tySize_51 h2136 h2137) ?_
           refine JY.take (hi := rfl) 6 (ba 13 127) (mv_51 (ix b11.Spans i96)) (some 54) [true, true, true, true, true, true, true, true, true, true, true] want (gives_loadEl (f := fl_Gap) 7 0 i96 (elems_rd (some ⟨g2134, o2135, none⟩) c19 fl_Gap.kd b11.Spans true) h2136 h2137 tySize_51 (.inl ⟨tyAgg_51, rfl⟩)) ?_
           refine JY.all [7] ⟨⟨_, rfl, ?_⟩, trivial⟩
           refine JL.call [] [] [] (ref18_together.ok out92 Aa93 c94 (ix b11.Spans i96) _ hc2130) ⟨pre_view 10 (view_row Aa93 c94 51 fl_Gap.kd out92 false true), trivial⟩ ?_
           rintro _ _ ⟨Aa2142, c2143, rfl, rfl⟩
           refine JL.nil ?_
           refine JY.ran (ba 13 255) [true, true, true, true, true, true, true, true, true, true, true, false] ?_
           refine JY.pur (hi := rfl) 8 (ba 13 511) (.tuple #[.slice Aa2142 t2129.1.length c2143, .int .i64 t2129.2]) (some 47) want ?_
           refine JY.pur (hi := rfl) 9 (ba 13 1023) (.slice Aa2142 t2129.1.length c2143) (some 56) want ?_
           refine JY.pur (hi := rfl) 10 (ba 13 2047) (.int .i64 t2129.2) (some 57) want ?_
           refine JY.pur (hi := rfl) 11 (ba 13 4095) (.slice Aa2142 t2129.1.length c2143) (some 8) want ?_
           refine JY.pur (hi := rfl) 12 (ba 13 8191) (.int .i64 t2129.2) (some 9) want ?_
           refine JY.done ?_
           refine JQ.ts [(2, .pointer (some ⟨b21, 0, none⟩)), (3, .pointer (some ⟨b22, 0, none⟩)), (4, .pointer (some ⟨b23, 0, none⟩)), (6, .pointer (some ⟨b39, 0, none⟩)), (7, .int .i64 i96), (8, .slice Aa2142 t2129.1.length c2143), (9, .int .i64 t2129.2)] ?_
           refine J.seq ?_
           refine J.sr ?_
           refine JL.mv (.int .i64 t2129.2) ?_
           refine JL.pur (.bool (!decide (t2129.2 = 0))) (some 59) ?_
           refine JL.es [(2, .pointer (some ⟨b21, 0, none⟩)), (3, .pointer (some ⟨b22, 0, none⟩)), (4, .pointer (some ⟨b23, 0, none⟩)), (6, .pointer (some ⟨b39, 0, none⟩)), (7, .int .i64 i96), (8, .slice Aa2142 t2129.1.length c2143), (9, .int .i64 t2129.2), (59, .bool (!decide (t2129.2 = 0)))] ?_
           rcases ite_cases H1 with ⟨h3134, H1⟩ | ⟨h3134, H1⟩
           · refine J.cond_true h3134 ?_
             refine J.sr ?_
             refine JL.pur (.agg #[.slice none 0 0, .slice none 0 0, .slice none 0 0]) (some 60) ?_
             refine JL.mv (.int .i64 t2129.2) ?_
             refine JL.store 8 b23 0 25 [.slice none 0 0, .slice none 0 0, .slice none 0 0] [.slice none 0 0, .slice none 0 0, .slice none 0 0] tySize_25 ?_
             refine JL.as (.int .i64 t2129.2) ?_
             refine JL.es [(4, .pointer (some ⟨b23, 0, none⟩)), (5, .int .i64 t2129.2)] ?_
             refine JQ.mask [At.box b23 25 [.slice none 0 0, .slice none 0 0, .slice none 0 0]] [false, false, false, false, false, false, false, false, true, false, false, false] ?_
             refine J.ret ?_
             refine JQ.then_ret ?_
             refine JQ.blk_ret ?_
             refine JQ.then_ret ?_
             refine JQ.then_ret ?_
             refine JQ.blk_ret ?_
             refine JQ.met_ret ?_
             refine JQ.then_ret ?_
             rw [hr1 _ (Option.some.inj H1).symm, fin_ret] at H0
             obtain rfl := Option.some.inj H0
             exact JQ.done' (rs := [.cell 4 25, .tmp 5]) (vs := [.agg #[.slice none 0 0, .slice none 0 0, .slice none 0 0], .int .i64 t2129.2]) [At.row none 0 49 fl_Count.kd ([] : List Count) false, At.row none 0 49 fl_Count.kd ([] : List Count) false, At.row none 0 51 fl_Gap.kd ([] : List Gap) false] (.inr rfl) ⟨⟨b23, 0, _, _, by kernel_rfl, by kernel_rfl, holds_box b23 25 [.slice none 0 0, .slice none 0 0, .slice none 0 0], .inl ⟨tyAgg_25, tySize_25, rfl⟩⟩, by kernel_rfl, trivial⟩ (fun _ h => Heap.to (Heap.pick [1, 2, 3] (by decide) (Heap.addRow0 (α := Gap) 51 fl_Gap.kd false (Heap.addRow0 (α := Count) 49 fl_Count.kd false (Heap.addRow0 (α := Count) 49 fl_Count.kd false h))))) ⟨none, 0, none, 0, none, 0, rfl, rfl⟩
           · refine J.cond_false h3134 ?_
             refine J.skip ?_
             refine JQ.ts [(2, .pointer (some ⟨b21, 0, none⟩)), (3, .pointer (some ⟨b22, 0, none⟩)), (4, .pointer (some ⟨b23, 0, none⟩)), (6, .pointer (some ⟨b39, 0, none⟩)), (7, .int .i64 i96), (8, .slice Aa2142 t2129.1.length c2143)] ?_
             refine J.region ?_
             refine JL.mv (.slice Aa2142 t2129.1.length c2143) ?_
             refine JL.pur (.pointer (some ⟨b39, 2, none⟩)) (some 63) ?_
             refine JL.store 9 b39 2 25 [.slice none 0 0, .slice none 0 0, .slice Aa93 out92.length c94] [.slice none 0 0, .slice none 0 0, .slice Aa2142 t2129.1.length c2143] tySize_23 ?_
             refine JL.end_ ?_
             refine JQ.blk_normal ?_
             refine JQ.ts [(2, .pointer (some ⟨b21, 0, none⟩)), (3, .pointer (some ⟨b22, 0, none⟩)), (4, .pointer (some ⟨b23, 0, none⟩)), (6, .pointer (some ⟨b39, 0, none⟩)), (7, .int .i64 i96)] ?_
             refine JQ.mask [At.box b21 25 [.slice Aa2 a1.Sums.length c3, .slice Aa5 a1.Ns.length c6, .slice Aa8 a1.Spans.length c9], At.rd Aa2 c3 fl_Count.kd a1.Sums true, At.rd Aa5 c6 fl_Count.kd a1.Ns true, At.rd Aa8 c9 fl_Gap.kd a1.Spans true, At.box b22 25 [.slice Aa12 b11.Sums.length c13, .slice Aa15 b11.Ns.length c16, .slice (some ⟨g2134, o2135, none⟩) b11.Spans.length c19], At.rd Aa12 c13 fl_Count.kd b11.Sums true, At.rd Aa15 c16 fl_Count.kd b11.Ns true, At.rd (some ⟨g2134, o2135, none⟩) c19 fl_Gap.kd b11.Spans true, At.box b23 25 [.slice none 0 0, .slice none 0 0, .slice none 0 0], At.box b39 25 [.slice none 0 0, .slice none 0 0, .slice Aa2142 t2129.1.length c2143], At.row Aa2142 c2143 51 fl_Gap.kd t2129.1 false] [true, true, true, true, true, true, true, true, true, true, false, true] ?_
             refine J.region ?_
             refine JL.mv (.int .i64 i96) ?_
             refine JL.pur (.int .i64 (w64 (i96 + 1))) (some 46) ?_
             refine JL.as (.int .i64 (w64 (i96 + 1))) ?_
             refine JL.en ?_
             exact JQ.again (t2129.1, w64 (i96 + 1)) (Aa2142, c2143) (Option.some.inj H1).symm (fun _ h => Heap.to h)
         · refine J.cond_false h2124 ?_
           refine J.exit ?_
           refine JQ.then_exit ?_
           refine JQ.then_exit ?_
           refine JQ.blk_exit ?_
           rw [hb1 _ (Option.some.inj H1).symm, fin_brk] at H0
           exact JQ.met out92 (Aa93, c94) H0 (fun _ h => Heap.to h)
       · clear hit H0
         rintro out118 ⟨Aa119, c120⟩ H0
         replace H0 : ref18_Merge.k2 a1 b11 out118 = some r := H0
         unfold ref18_Merge.k2 at H0
         refine JQ.sub [(2, .pointer (some ⟨b21, 0, none⟩)), (3, .pointer (some ⟨b22, 0, none⟩)), (4, .pointer (some ⟨b23, 0, none⟩)), (6, .pointer (some ⟨b39, 0, none⟩))] ?_
         refine JQ.turn (Δ' := [At.box b21 25 [.slice Aa2 a1.Sums.length c3, .slice Aa5 a1.Ns.length c6, .slice Aa8 a1.Spans.length c9], At.rd Aa2 c3 fl_Count.kd a1.Sums true, At.rd Aa5 c6 fl_Count.kd a1.Ns true, At.rd Aa8 c9 fl_Gap.kd a1.Spans true, At.box b22 25 [.slice Aa12 b11.Sums.length c13, .slice Aa15 b11.Ns.length c16, .slice Aa18 b11.Spans.length c19], At.rd Aa12 c13 fl_Count.kd b11.Sums true, At.rd Aa15 c16 fl_Count.kd b11.Ns true, At.rd Aa18 c19 fl_Gap.kd b11.Spans true, At.box b23 25 [.slice none 0 0, .slice none 0 0, .slice none 0 0], At.box b39 25 [.slice none 0 0, .slice none 0 0, .slice Aa119 out118.length c120], At.row Aa119 c120 51 fl_Gap.kd out118 false]) (fun _ h => h.to) ?_
         refine JQ.then_normal ?_
         refine J.seq ?_
         refine J.sr ?_
         refine JL.as (.int .i64 0) ?_
         refine JL.en ?_
         obtain ⟨o1, hit, H0⟩ := bind_some H0
         refine J.loop (σ := ((List Count) × (List Count) × Int)) (τ := ((List Count) × (List Count))) (G := ((Option Addr) × Nat × (Option Addr) × Nat)) (G' := ((Option Addr) × Nat × (Option Addr) × Nat)) _ o1 (fun s g => [(2, .pointer (some ⟨b21, 0, none⟩)), (3, .pointer (some ⟨b22, 0, none⟩)), (4, .pointer (some ⟨b23, 0, none⟩)), (6, .pointer (some ⟨b39, 0, none⟩)), (10, .int .i64 s.2.2)]) (fun s g => [At.box b21 25 [.slice Aa2 a1.Sums.length c3, .slice Aa5 a1.Ns.length c6, .slice Aa8 a1.Spans.length c9], At.rd Aa2 c3 fl_Count.kd a1.Sums true, At.rd Aa5 c6 fl_Count.kd a1.Ns true, At.rd Aa8 c9 fl_Gap.kd a1.Spans true, At.box b22 25 [.slice Aa12 b11.Sums.length c13, .slice Aa15 b11.Ns.length c16, .slice Aa18 b11.Spans.length c19], At.rd Aa12 c13 fl_Count.kd b11.Sums true, At.rd Aa15 c16 fl_Count.kd b11.Ns true, At.rd Aa18 c19 fl_Gap.kd b11.Spans true, At.box b23 25 [.slice none 0 0, .slice none 0 0, .slice none 0 0], At.box b39 25 [.slice g.1 s.1.length g.2.1, .slice g.2.2.1 s.2.1.length g.2.2.2, .slice Aa119 out118.length c120], At.row g.1 g.2.1 49 fl_Count.kd s.1 false, At.row g.2.2.1 g.2.2.2 49 fl_Count.kd s.2.1 false, At.row Aa119 c120 51 fl_Gap.kd out118 false]) (fun t => ref18_Merge.k25 out118 t.1 t.2 = some r) (fun t g => [(4, .pointer (some ⟨b23, 0, none⟩)), (6, .pointer (some ⟨b39, 0, none⟩))]) (fun t g => [At.box b23 25 [.slice none 0 0, .slice none 0 0, .slice none 0 0], At.box b39 25 [.slice g.1 t.1.length g.2.1, .slice g.2.2.1 t.2.length g.2.2.2, .slice Aa119 out118.length c120], At.row g.1 g.2.1 49 fl_Count.kd t.1 false, At.row g.2.2.1 g.2.2.2 49 fl_Count.kd t.2 false, At.row Aa119 c120 51 fl_Gap.kd out118 false]) ([], [], 0) (none, 0, none, 0) hit (fun _ h => Heap.to (Heap.pick [0, 1, 2, 3, 4, 5, 6, 7, 8, 9, 11, 12, 10] (by decide) (Heap.addRow0 (α := Count) 49 fl_Count.kd false (Heap.addRow0 (α := Count) 49 fl_Count.kd false h)))) ?_ ?_
         · clear hit
           rintro ⟨out1130, out1134, i1138⟩ ⟨Aa1131, c1132, Aa1135, c1136⟩ st1 H1 hb1 hr1
           replace H1 : ref18_Merge.s24 a1 b11 out1130 out1134 i1138 = some st1 := H1
           unfold ref18_Merge.s24 at H1
           refine JQ.sub [(2, .pointer (some ⟨b21, 0, none⟩)), (3, .pointer (some ⟨b22, 0, none⟩)), (4, .pointer (some ⟨b23, 0, none⟩)), (6, .pointer (some ⟨b39, 0, none⟩)), (10, .int .i64 i1138)] ?_
           refine JQ.turn (Δ' := [At.box b21 25 [.slice Aa2 a1.Sums.length c3, .slice Aa5 a1.Ns.length c6, .slice Aa8 a1.Spans.length c9], At.rd Aa2 c3 fl_Count.kd a1.Sums true, At.rd Aa5 c6 fl_Count.kd a1.Ns true, At.rd Aa8 c9 fl_Gap.kd a1.Spans true, At.box b22 25 [.slice Aa12 b11.Sums.length c13, .slice Aa15 b11.Ns.length c16, .slice Aa18 b11.Spans.length c19], At.rd Aa12 c13 fl_Count.kd b11.Sums true, At.rd Aa15 c16 fl_Count.kd b11.Ns true, At.rd Aa18 c19 fl_Gap.kd b11.Spans true, At.box b23 25 [.slice none 0 0, .slice none 0 0, .slice none 0 0], At.box b39 25 [.slice Aa1131 out1130.length c1132, .slice Aa1135 out1134.length c1136, .slice Aa119 out118.length c120], At.row Aa1131 c1132 49 fl_Count.kd out1130 false, At.row Aa1135 c1136 49 fl_Count.kd out1134 false, At.row Aa119 c120 51 fl_Gap.kd out118 false]) (fun _ h => h.to) ?_
           refine J.seq ?_
           refine J.sr ?_
           refine JL.mv (.int .i64 i1138) ?_
           refine JL.pur (.pointer (some ⟨b21, 0, none⟩)) (some 65) ?_
           refine JL.val (.slice Aa2 a1.Sums.length c3) (some 66) (yields_load_box 0 0 (holds_box b21 25 [.slice Aa2 a1.Sums.length c3, .slice Aa5 a1.Ns.length c6, .slice Aa8 a1.Spans.length c9]) tyAgg_22) ?_
           refine JL.pur (.int .i64 (a1.Sums.length : Int)) (some 67) ?_
           refine JL.pur (.bool (decide (i1138 < (a1.Sums.length : Int)))) (some 68) ?_
           refine JL.es [(2, .pointer (some ⟨b21, 0, none⟩)), (3, .pointer (some ⟨b22, 0, none⟩)), (4, .pointer (some ⟨b23, 0, none⟩)), (6, .pointer (some ⟨b39, 0, none⟩)), (10, .int .i64 i1138), (68, .bool (decide (i1138 < (a1.Sums.length : Int))))] ?_
           rcases ite_cases H1 with ⟨h1636, H1⟩ | ⟨h1636, H1⟩
           · refine J.cond_true h1636 ?_
             refine J.skip ?_
             refine JQ.ts [(2, .pointer (some ⟨b21, 0, none⟩)), (3, .pointer (some ⟨b22, 0, none⟩)), (4, .pointer (some ⟨b23, 0, none⟩)), (6, .pointer (some ⟨b39, 0, none⟩)), (10, .int .i64 i1138)] ?_
             refine J.join (T := ((List Count) × (List Count))) (G := ((Option Addr) × Nat × (Option Addr) × Nat)) (fun t => ref18_Merge.k29 i1138 t.1 t.2 = some st1) (fun t g => [(2, .pointer (some ⟨b21, 0, none⟩)), (3, .pointer (some ⟨b22, 0, none⟩)), (4, .pointer (some ⟨b23, 0, none⟩)), (6, .pointer (some ⟨b39, 0, none⟩)), (10, .int .i64 i1138)]) (fun t g => [At.box b21 25 [.slice Aa2 a1.Sums.length c3, .slice Aa5 a1.Ns.length c6, .slice Aa8 a1.Spans.length c9], At.rd Aa2 c3 fl_Count.kd a1.Sums true, At.rd Aa5 c6 fl_Count.kd a1.Ns true, At.rd Aa8 c9 fl_Gap.kd a1.Spans true, At.box b22 25 [.slice Aa12 b11.Sums.length c13, .slice Aa15 b11.Ns.length c16, .slice Aa18 b11.Spans.length c19], At.rd Aa12 c13 fl_Count.kd b11.Sums true, At.rd Aa15 c16 fl_Count.kd b11.Ns true, At.rd Aa18 c19 fl_Gap.kd b11.Spans true, At.box b23 25 [.slice none 0 0, .slice none 0 0, .slice none 0 0], At.box b39 25 [.slice g.1 t.1.length g.2.1, .slice g.2.2.1 t.2.length g.2.2.2, .slice Aa119 out118.length c120], At.row g.1 g.2.1 49 fl_Count.kd t.1 false, At.row g.2.2.1 g.2.2.2 49 fl_Count.kd t.2 false, At.row Aa119 c120 51 fl_Gap.kd out118 false]) ?_ ?_
             · refine J.block ?_
               refine J.join (T := (Count × Bool)) (G := Nat) (fun t => ref18_Merge.k30 a1 b11 out1130 out1134 i1138 t.1 t.2 = some st1) (fun t g => [(2, .pointer (some ⟨b21, 0, none⟩)), (3, .pointer (some ⟨b22, 0, none⟩)), (4, .pointer (some ⟨b23, 0, none⟩)), (6, .pointer (some ⟨b39, 0, none⟩)), (10, .int .i64 i1138), (11, .pointer (some ⟨g, 0, none⟩)), (12, .bool t.2)]) (fun t g => [At.box b21 25 [.slice Aa2 a1.Sums.length c3, .slice Aa5 a1.Ns.length c6, .slice Aa8 a1.Spans.length c9], At.rd Aa2 c3 fl_Count.kd a1.Sums true, At.rd Aa5 c6 fl_Count.kd a1.Ns true, At.rd Aa8 c9 fl_Gap.kd a1.Spans true, At.box b22 25 [.slice Aa12 b11.Sums.length c13, .slice Aa15 b11.Ns.length c16, .slice Aa18 b11.Spans.length c19], At.rd Aa12 c13 fl_Count.kd b11.Sums true, At.rd Aa15 c16 fl_Count.kd b11.Ns true, At.rd Aa18 c19 fl_Gap.kd b11.Spans true, At.box b23 25 [.slice none 0 0, .slice none 0 0, .slice none 0 0], At.box b39 25 [.slice Aa1131 out1130.length c1132, .slice Aa1135 out1134.length c1136, .slice Aa119 out118.length c120], At.row Aa1131 c1132 49 fl_Count.kd out1130 false, At.row Aa1135 c1136 49 fl_Count.kd out1134 false, At.row Aa119 c120 51 fl_Gap.kd out118 false, At.box g 49 (cl_49 t.1)]) ?_ ?_
               · obtain ⟨⟨h2075, h2076⟩, H1⟩ := ite_must H1
                 obtain ⟨t2079, hc2080, H1⟩ := bind_some H1
                 obtain ⟨⟨h2081, h2082⟩, H1⟩ := ite_must H1
                 obtain ⟨t2085, hc2086, H1⟩ := bind_some H1
                 obtain ⟨t2087, hc2088, H1⟩ := bind_some H1
                 refine JQ.openA 1 (elems_rd Aa2 c3 fl_Count.kd a1.Sums true) h2075 h2076 fun g2090 o2091 hA => ?_
                 subst hA
                 refine JQ.openA 5 (elems_rd Aa12 c13 fl_Count.kd b11.Sums true) h2081 h2082 fun g2092 o2093 hA => ?_
                 subst hA
                 refine JY.startM [true, true, true, true, true, true, true, true, true, true, true, true, true] [] (ba 20 0) ?_
                 refine JY.pur (hi := rfl) 0 (ba 20 1) (.pointer (some ⟨b21, 0, none⟩)) (some 72) want ?_
                 refine JY.take (hi := rfl) 1 (ba 20 3) (.slice (some ⟨g2090, o2091, none⟩) a1.Sums.length c3) (some 73) [true, true, true, true, true, true, true, true, true, true, true, true, true] want (yields_load_box 0 0 (holds_box b21 25 [.slice (some ⟨g2090, o2091, none⟩) a1.Sums.length c3, .slice Aa5 a1.Ns.length c6, .slice Aa8 a1.Spans.length c9]) tyAgg_22) ?_
                 refine JY.pur (hi := rfl) 2 (ba 20 7) (.int .i64 i1138) (some 74) want ?_
                 obtain ⟨h2094, h2095⟩ : 0 ≤ i1138 ∧ i1138 < (a1.Sums.length : Int) := ⟨h2075, h2076⟩
                 refine JY.puw (hi := rfl) 3 (ba 20 15) (.pointer (some ⟨g2090, o2091 + i1138.toNat * 2, none⟩)) (some 75) want (givesW_ixSl (g := g2090) (o := o2091) (n := a1.Sums.length) (i := i1138) 2 c3 .i64 Try.underlying22 tySize_49 h2094 h2095) ?_
                 refine JY.take (hi := rfl) 4 (ba 20 31) (mv_49 (ix a1.Sums i1138)) (some 76) [true, true, true, true, true, true, true, true, true, true, true, true, true] want (gives_loadEl (f := fl_Count) 1 0 i1138 (elems_rd (some ⟨g2090, o2091, none⟩) c3 fl_Count.kd a1.Sums true) h2094 h2095 tySize_49 (.inl ⟨tyAgg_49, rfl⟩)) ?_
                 refine JY.pur (hi := rfl) 6 (ba 20 95) (.pointer (some ⟨b22, 0, none⟩)) (some 78) want ?_
                 refine JY.take (hi := rfl) 7 (ba 20 223) (.slice (some ⟨g2092, o2093, none⟩) b11.Sums.length c13) (some 79) [true, true, true, true, true, true, true, true, true, true, true, true, true] want (yields_load_box 4 0 (holds_box b22 25 [.slice (some ⟨g2092, o2093, none⟩) b11.Sums.length c13, .slice Aa15 b11.Ns.length c16, .slice Aa18 b11.Spans.length c19]) tyAgg_22) ?_
                 refine JY.pur (hi := rfl) 8 (ba 20 479) (.int .i64 i1138) (some 80) want ?_
                 obtain ⟨h2098, h2099⟩ : 0 ≤ i1138 ∧ i1138 < (b11.Sums.length : Int) := ⟨h2081, h2082⟩
                 refine JY.puw (hi := rfl) 9 (ba 20 991) (.pointer (some ⟨g2092, o2093 + i1138.toNat * 2, none⟩)) (some 81) want (givesW_ixSl (g := g2092) (o := o2093) (n := b11.Sums.length) (i := i1138) 2 c13 .i64 Try.underlying22 tySize_49 h2098 h2099) ?_
                 refine JY.take (hi := rfl) 10 (ba 20 2015) (mv_49 (ix b11.Sums i1138)) (some 82) [true, true, true, true, true, true, true, true, true, true, true, true, true] want (gives_loadEl (f := fl_Count) 5 0 i1138 (elems_rd (some ⟨g2092, o2093, none⟩) c13 fl_Count.kd b11.Sums true) h2098 h2099 tySize_49 (.inl ⟨tyAgg_49, rfl⟩)) ?_
                 refine JY.all [5, 17] ⟨⟨_, rfl, ?_⟩, ⟨_, rfl, ?_⟩, trivial⟩
                 · refine JL.call [] [] [] (ref18_Worth.ok (ix a1.Sums i1138) _ hc2080) trivial ?_
                   rintro _ _ ⟨rfl, rfl⟩
                   refine JL.nil ?_
                   refine JY.ran (ba 20 2047) [true, true, true, true, true, true, true, true, true, true, true, true, true] ?_
                   refine JY.all [11, 17] ⟨⟨_, rfl, ?_⟩, ⟨_, rfl, ?_⟩, trivial⟩
                   · refine JL.call [] [] [] (ref18_Worth.ok (ix b11.Sums i1138) _ hc2086) trivial ?_
                     rintro _ _ ⟨rfl, rfl⟩
                     refine JL.nil ?_
                     refine JY.ran (ba 20 4095) [true, true, true, true, true, true, true, true, true, true, true, true, true] ?_
                     refine JY.pur (hi := rfl) 12 (ba 20 8191) (.int .i64 (w64 (t2079 + t2085))) (some 84) want ?_
                     refine JY.all [13, 17] ⟨⟨_, rfl, ?_⟩, ⟨_, rfl, ?_⟩, trivial⟩
                     · refine JL.call [] [] [] (ref18_counted.ok (w64 (t2079 + t2085)) _ hc2088) trivial ?_
                       rintro _ _ ⟨rfl, rfl⟩
                       refine JL.nil ?_
                       refine JY.ran (ba 20 16383) [true, true, true, true, true, true, true, true, true, true, true, true, true] ?_
                       refine JY.pur (hi := rfl) 14 (ba 20 32767) (.tuple #[mv_49 t2087.1, .bool t2087.2]) (some 71) want ?_
                       refine JY.pur (hi := rfl) 15 (ba 20 65535) (mv_49 t2087.1) (some 86) want ?_
                       refine JY.pur (hi := rfl) 16 (ba 20 131071) (.bool t2087.2) (some 87) want ?_
                       refine JY.all [17] ⟨⟨_, rfl, ?_⟩, trivial⟩
                       refine JL.alloc (cl_49 zv_49) fun b2108 => ?_
                       refine JL.nil ?_
                       refine JY.ran (ba 20 262143) [true, true, true, true, true, true, true, true, true, true, true, true, true, false] ?_
                       refine JY.all [18] ⟨⟨_, rfl, ?_⟩, trivial⟩
                       refine JL.store 13 b2108 0 49 (cl_49 zv_49) (cl_49 t2087.1) tySize_49 ?_
                       refine JL.nil ?_
                       refine JY.ran (ba 20 524287) [true, true, true, true, true, true, true, true, true, true, true, true, true, false] ?_
                       refine JY.pur (hi := rfl) 19 (ba 20 1048575) (.bool t2087.2) (some 12) want ?_
                       refine JY.done ?_
                       refine JQ.then_normal ?_
                       exact JQ.meet (t2087.1, t2087.2) b2108 H1 (fun _ h => Heap.to h)
                     · refine JL.alloc (cl_49 zv_49) fun b2109 => ?_
                       refine JL.nil ?_
                       refine JY.ran (ba 20 139263) [true, true, true, true, true, true, true, true, true, true, true, true, true, false] ?_
                       refine JY.all [13] ⟨⟨_, rfl, ?_⟩, trivial⟩
                       refine JL.call [] [] [] (ref18_counted.ok (w64 (t2079 + t2085)) _ hc2088) trivial ?_
                       rintro _ _ ⟨rfl, rfl⟩
                       refine JL.nil ?_
                       refine JY.ran (ba 20 147455) [true, true, true, true, true, true, true, true, true, true, true, true, true, false] ?_
                       refine JY.pur (hi := rfl) 14 (ba 20 163839) (.tuple #[mv_49 t2087.1, .bool t2087.2]) (some 71) want ?_
                       refine JY.pur (hi := rfl) 15 (ba 20 196607) (mv_49 t2087.1) (some 86) want ?_
                       refine JY.pur (hi := rfl) 16 (ba 20 262143) (.bool t2087.2) (some 87) want ?_
                       refine JY.all [18] ⟨⟨_, rfl, ?_⟩, trivial⟩
                       refine JL.store 13 b2109 0 49 (cl_49 zv_49) (cl_49 t2087.1) tySize_49 ?_
                       refine JL.nil ?_
                       refine JY.ran (ba 20 524287) [true, true, true, true, true, true, true, true, true, true, true, true, true, false] ?_
                       refine JY.pur (hi := rfl) 19 (ba 20 1048575) (.bool t2087.2) (some 12) want ?_
                       refine JY.done ?_
                       refine JQ.then_normal ?_
                       exact JQ.meet (t2087.1, t2087.2) b2109 H1 (fun _ h => Heap.to h)
                   · refine JL.alloc (cl_49 zv_49) fun b2112 => ?_
                     refine JL.nil ?_
                     refine JY.ran (ba 20 133119) [true, true, true, true, true, true, true, true, true, true, true, true, true, false] ?_
                     refine JY.all [11] ⟨⟨_, rfl, ?_⟩, trivial⟩
                     refine JL.call [] [] [] (ref18_Worth.ok (ix b11.Sums i1138) _ hc2086) trivial ?_
                     rintro _ _ ⟨rfl, rfl⟩
                     refine JL.nil ?_
                     refine JY.ran (ba 20 135167) [true, true, true, true, true, true, true, true, true, true, true, true, true, false] ?_
                     refine JY.pur (hi := rfl) 12 (ba 20 139263) (.int .i64 (w64 (t2079 + t2085))) (some 84) want ?_
                     refine JY.all [13] ⟨⟨_, rfl, ?_⟩, trivial⟩
                     refine JL.call [] [] [] (ref18_counted.ok (w64 (t2079 + t2085)) _ hc2088) trivial ?_
                     rintro _ _ ⟨rfl, rfl⟩
                     refine JL.nil ?_
                     refine JY.ran (ba 20 147455) [true, true, true, true, true, true, true, true, true, true, true, true, true, false] ?_
                     refine JY.pur (hi := rfl) 14 (ba 20 163839) (.tuple #[mv_49 t2087.1, .bool t2087.2]) (some 71) want ?_
                     refine JY.pur (hi := rfl) 15 (ba 20 196607) (mv_49 t2087.1) (some 86) want ?_
                     refine JY.pur (hi := rfl) 16 (ba 20 262143) (.bool t2087.2) (some 87) want ?_
                     refine JY.all [18] ⟨⟨_, rfl, ?_⟩, trivial⟩
                     refine JL.store 13 b2112 0 49 (cl_49 zv_49) (cl_49 t2087.1) tySize_49 ?_
                     refine JL.nil ?_
                     refine JY.ran (ba 20 524287) [true, true, true, true, true, true, true, true, true, true, true, true, true, false] ?_
                     refine JY.pur (hi := rfl) 19 (ba 20 1048575) (.bool t2087.2) (some 12) want ?_
                     refine JY.done ?_
                     refine JQ.then_normal ?_
                     exact JQ.meet (t2087.1, t2087.2) b2112 H1 (fun _ h => Heap.to h)
                 · refine JL.alloc (cl_49 zv_49) fun b2117 => ?_
                   refine JL.nil ?_
                   refine JY.ran (ba 20 133087) [true, true, true, true, true, true, true, true, true, true, true, true, true, false] ?_
                   refine JY.all [5] ⟨⟨_, rfl, ?_⟩, trivial⟩
                   refine JL.call [] [] [] (ref18_Worth.ok (ix a1.Sums i1138) _ hc2080) trivial ?_
                   rintro _ _ ⟨rfl, rfl⟩
                   refine JL.nil ?_
                   refine JY.ran (ba 20 133119) [true, true, true, true, true, true, true, true, true, true, true, true, true, false] ?_
                   refine JY.all [11] ⟨⟨_, rfl, ?_⟩, trivial⟩
                   refine JL.call [] [] [] (ref18_Worth.ok (ix b11.Sums i1138) _ hc2086) trivial ?_
                   rintro _ _ ⟨rfl, rfl⟩
                   refine JL.nil ?_
                   refine JY.ran (ba 20 135167) [true, true, true, true, true, true, true, true, true, true, true, true, true, false] ?_
                   refine JY.pur (hi := rfl) 12 (ba 20 139263) (.int .i64 (w64 (t2079 + t2085))) (some 84) want ?_
                   refine JY.all [13] ⟨⟨_, rfl, ?_⟩, trivial⟩
                   refine JL.call [] [] [] (ref18_counted.ok (w64 (t2079 + t2085)) _ hc2088) trivial ?_
                   rintro _ _ ⟨rfl, rfl⟩
                   refine JL.nil ?_
                   refine JY.ran (ba 20 147455) [true, true, true, true, true, true, true, true, true, true, true, true, true, false] ?_
                   refine JY.pur (hi := rfl) 14 (ba 20 163839) (.tuple #[mv_49 t2087.1, .bool t2087.2]) (some 71) want ?_
                   refine JY.pur (hi := rfl) 15 (ba 20 196607) (mv_49 t2087.1) (some 86) want ?_
                   refine JY.pur (hi := rfl) 16 (ba 20 262143) (.bool t2087.2) (some 87) want ?_
                   refine JY.all [18] ⟨⟨_, rfl, ?_⟩, trivial⟩
                   refine JL.store 13 b2117 0 49 (cl_49 zv_49) (cl_49 t2087.1) tySize_49 ?_
                   refine JL.nil ?_
                   refine JY.ran (ba 20 524287) [true, true, true, true, true, true, true, true, true, true, true, true, true, false] ?_
                   refine JY.pur (hi := rfl) 19 (ba 20 1048575) (.bool t2087.2) (some 12) want ?_
                   refine JY.done ?_
                   refine JQ.then_normal ?_
                   exact JQ.meet (t2087.1, t2087.2) b2117 H1 (fun _ h => Heap.to h)
               · clear H1
                 rintro ⟨x1936, is1937⟩ b1934 H1
                 replace H1 : ref18_Merge.k30 a1 b11 out1130 out1134 i1138 x1936 is1937 = some st1 := H1
                 unfold ref18_Merge.k30 at H1
                 refine JQ.sub [(2, .pointer (some ⟨b21, 0, none⟩)), (3, .pointer (some ⟨b22, 0, none⟩)), (4, .pointer (some ⟨b23, 0, none⟩)), (6, .pointer (some ⟨b39, 0, none⟩)), (10, .int .i64 i1138), (11, .pointer (some ⟨b1934, 0, none⟩)), (12, .bool is1937)] ?_
                 refine JQ.turn (Δ' := [At.box b21 25 [.slice Aa2 a1.Sums.length c3, .slice Aa5 a1.Ns.length c6, .slice Aa8 a1.Spans.length c9], At.rd Aa2 c3 fl_Count.kd a1.Sums true, At.rd Aa5 c6 fl_Count.kd a1.Ns true, At.rd Aa8 c9 fl_Gap.kd a1.Spans true, At.box b22 25 [.slice Aa12 b11.Sums.length c13, .slice Aa15 b11.Ns.length c16, .slice Aa18 b11.Spans.length c19], At.rd Aa12 c13 fl_Count.kd b11.Sums true, At.rd Aa15 c16 fl_Count.kd b11.Ns true, At.rd Aa18 c19 fl_Gap.kd b11.Spans true, At.box b23 25 [.slice none 0 0, .slice none 0 0, .slice none 0 0], At.box b39 25 [.slice Aa1131 out1130.length c1132, .slice Aa1135 out1134.length c1136, .slice Aa119 out118.length c120], At.row Aa1131 c1132 49 fl_Count.kd out1130 false, At.row Aa1135 c1136 49 fl_Count.kd out1134 false, At.row Aa119 c120 51 fl_Gap.kd out118 false, At.box b1934 49 (cl_49 x1936)]) (fun _ h => h.to) ?_
                 refine J.join (T := (Count × Bool)) (G := Nat) (fun t => ref18_Merge.k31 out1130 out1134 i1138 x1936 is1937 t.1 t.2 = some st1) (fun t g => [(2, .pointer (some ⟨b21, 0, none⟩)), (3, .pointer (some ⟨b22, 0, none⟩)), (4, .pointer (some ⟨b23, 0, none⟩)), (6, .pointer (some ⟨b39, 0, none⟩)), (10, .int .i64 i1138), (11, .pointer (some ⟨b1934, 0, none⟩)), (12, .bool is1937), (13, .pointer (some ⟨g, 0, none⟩)), (14, .bool t.2)]) (fun t g => [At.box b21 25 [.slice Aa2 a1.Sums.length c3, .slice Aa5 a1.Ns.length c6, .slice Aa8 a1.Spans.length c9], At.rd Aa2 c3 fl_Count.kd a1.Sums true, At.rd Aa5 c6 fl_Count.kd a1.Ns true, At.rd Aa8 c9 fl_Gap.kd a1.Spans true, At.box b22 25 [.slice Aa12 b11.Sums.length c13, .slice Aa15 b11.Ns.length c16, .slice Aa18 b11.Spans.length c19], At.rd Aa12 c13 fl_Count.kd b11.Sums true, At.rd Aa15 c16 fl_Count.kd b11.Ns true, At.rd Aa18 c19 fl_Gap.kd b11.Spans true, At.box b23 25 [.slice none 0 0, .slice none 0 0, .slice none 0 0], At.box b39 25 [.slice Aa1131 out1130.length c1132, .slice Aa1135 out1134.length c1136, .slice Aa119 out118.length c120], At.row Aa1131 c1132 49 fl_Count.kd out1130 false, At.row Aa1135 c1136 49 fl_Count.kd out1134 false, At.row Aa119 c120 51 fl_Gap.kd out118 false, At.box b1934 49 (cl_49 x1936), At.box g 49 (cl_49 t.1)]) ?_ ?_
                 · obtain ⟨⟨h2026, h2027⟩, H1⟩ := ite_must H1
                   obtain ⟨t2030, hc2031, H1⟩ := bind_some H1
                   obtain ⟨⟨h2032, h2033⟩, H1⟩ := ite_must H1
                   obtain ⟨t2036, hc2037, H1⟩ := bind_some H1
                   obtain ⟨t2038, hc2039, H1⟩ := bind_some H1
                   refine JQ.openA 2 (elems_rd Aa5 c6 fl_Count.kd a1.Ns true) h2026 h2027 fun g2041 o2042 hA => ?_
                   subst hA
                   refine JQ.openA 6 (elems_rd Aa15 c16 fl_Count.kd b11.Ns true) h2032 h2033 fun g2043 o2044 hA => ?_
                   subst hA
                   refine JY.startM [true, true, true, true, true, true, true, true, true, true, true, true, true, true] [] (ba 20 0) ?_
                   refine JY.pur (hi := rfl) 0 (ba 20 1) (.pointer (some ⟨b21, 1, none⟩)) (some 89) want ?_
                   refine JY.take (hi := rfl) 1 (ba 20 3) (.slice (some ⟨g2041, o2042, none⟩) a1.Ns.length c6) (some 90) [true, true, true, true, true, true, true, true, true, true, true, true, true, true] want (yields_load_box 0 1 (holds_box b21 25 [.slice Aa2 a1.Sums.length c3, .slice (some ⟨g2041, o2042, none⟩) a1.Ns.length c6, .slice Aa8 a1.Spans.length c9]) tyAgg_22) ?_
                   refine JY.pur (hi := rfl) 2 (ba 20 7) (.int .i64 i1138) (some 91) want ?_
                   obtain ⟨h2045, h2046⟩ : 0 ≤ i1138 ∧ i1138 < (a1.Ns.length : Int) := ⟨h2026, h2027⟩
                   refine JY.puw (hi := rfl) 3 (ba 20 15) (.pointer (some ⟨g2041, o2042 + i1138.toNat * 2, none⟩)) (some 92) want (givesW_ixSl (g := g2041) (o := o2042) (n := a1.Ns.length) (i := i1138) 2 c6 .i64 Try.underlying22 tySize_49 h2045 h2046) ?_
                   refine JY.take (hi := rfl) 4 (ba 20 31) (mv_49 (ix a1.Ns i1138)) (some 93) [true, true, true, true, true, true, true, true, true, true, true, true, true, true] want (gives_loadEl (f := fl_Count) 2 0 i1138 (elems_rd (some ⟨g2041, o2042, none⟩) c6 fl_Count.kd a1.Ns true) h2045 h2046 tySize_49 (.inl ⟨tyAgg_49, rfl⟩)) ?_
                   refine JY.pur (hi := rfl) 6 (ba 20 95) (.pointer (some ⟨b22, 1, none⟩)) (some 95) want ?_
                   refine JY.take (hi := rfl) 7 (ba 20 223) (.slice (some ⟨g2043, o2044, none⟩) b11.Ns.length c16) (some 96) [true, true, true, true, true, true, true, true, true, true, true, true, true, true] want (yields_load_box 4 1 (holds_box b22 25 [.slice Aa12 b11.Sums.length c13, .slice (some ⟨g2043, o2044, none⟩) b11.Ns.length c16, .slice Aa18 b11.Spans.length c19]) tyAgg_22) ?_
                   refine JY.pur (hi := rfl) 8 (ba 20 479) (.int .i64 i1138) (some 97) want ?_
                   obtain ⟨h2049, h2050⟩ : 0 ≤ i1138 ∧ i1138 < (b11.Ns.length : Int) := ⟨h2032, h2033⟩
                   refine JY.puw (hi := rfl) 9 (ba 20 991) (.pointer (some ⟨g2043, o2044 + i1138.toNat * 2, none⟩)) (some 98) want (givesW_ixSl (g := g2043) (o := o2044) (n := b11.Ns.length) (i := i1138) 2 c16 .i64 Try.underlying22 tySize_49 h2049 h2050) ?_
                   refine JY.take (hi := rfl) 10 (ba 20 2015) (mv_49 (ix b11.Ns i1138)) (some 99) [true, true, true, true, true, true, true, true, true, true, true, true, true, true] want (gives_loadEl (f := fl_Count) 6 0 i1138 (elems_rd (some ⟨g2043, o2044, none⟩) c16 fl_Count.kd b11.Ns true) h2049 h2050 tySize_49 (.inl ⟨tyAgg_49, rfl⟩)) ?_
                   refine JY.all [5, 17] ⟨⟨_, rfl, ?_⟩, ⟨_, rfl, ?_⟩, trivial⟩
                   · refine JL.call [] [] [] (ref18_Worth.ok (ix a1.Ns i1138) _ hc2031) trivial ?_
                     rintro _ _ ⟨rfl, rfl⟩
                     refine JL.nil ?_
                     refine JY.ran (ba 20 2047) [true, true, true, true, true, true, true, true, true, true, true, true, true, true] ?_
                     refine JY.all [11, 17] ⟨⟨_, rfl, ?_⟩, ⟨_, rfl, ?_⟩, trivial⟩
                     · refine JL.call [] [] [] (ref18_Worth.ok (ix b11.Ns i1138) _ hc2037) trivial ?_
                       rintro _ _ ⟨rfl, rfl⟩
                       refine JL.nil ?_
                       refine JY.ran (ba 20 4095) [true, true, true, true, true, true, true, true, true, true, true, true, true, true] ?_
                       refine JY.pur (hi := rfl) 12 (ba 20 8191) (.int .i64 (w64 (t2030 + t2036))) (some 101) want ?_
                       refine JY.all [13, 17] ⟨⟨_, rfl, ?_⟩, ⟨_, rfl, ?_⟩, trivial⟩
                       · refine JL.call [] [] [] (ref18_counted.ok (w64 (t2030 + t2036)) _ hc2039) trivial ?_
                         rintro _ _ ⟨rfl, rfl⟩
                         refine JL.nil ?_
                         refine JY.ran (ba 20 16383) [true, true, true, true, true, true, true, true, true, true, true, true, true, true] ?_
                         refine JY.pur (hi := rfl) 14 (ba 20 32767) (.tuple #[mv_49 t2038.1, .bool t2038.2]) (some 88) want ?_
                         refine JY.pur (hi := rfl) 15 (ba 20 65535) (mv_49 t2038.1) (some 103) want ?_
                         refine JY.pur (hi := rfl) 16 (ba 20 131071) (.bool t2038.2) (some 104) want ?_
                         refine JY.all [17] ⟨⟨_, rfl, ?_⟩, trivial⟩
                         refine JL.alloc (cl_49 zv_49) fun b2059 => ?_
                         refine JL.nil ?_
                         refine JY.ran (ba 20 262143) [true, true, true, true, true, true, true, true, true, true, true, true, true, true, false] ?_
                         refine JY.all [18] ⟨⟨_, rfl, ?_⟩, trivial⟩
                         refine JL.store 14 b2059 0 49 (cl_49 zv_49) (cl_49 t2038.1) tySize_49 ?_
                         refine JL.nil ?_
                         refine JY.ran (ba 20 524287) [true, true, true, true, true, true, true, true, true, true, true, true, true, true, false] ?_
                         refine JY.pur (hi := rfl) 19 (ba 20 1048575) (.bool t2038.2) (some 14) want ?_
                         refine JY.done ?_
                         refine JQ.then_normal ?_
                         exact JQ.meet (t2038.1, t2038.2) b2059 H1 (fun _ h => Heap.to h)
                       · refine JL.alloc (cl_49 zv_49) fun b2060 => ?_
                         refine JL.nil ?_
                         refine JY.ran (ba 20 139263) [true, true, true, true, true, true, true, true, true, true, true, true, true, true, false] ?_
                         refine JY.all [13] ⟨⟨_, rfl, ?_⟩, trivial⟩
                         refine JL.call [] [] [] (ref18_counted.ok (w64 (t2030 + t2036)) _ hc2039) trivial ?_
                         rintro _ _ ⟨rfl, rfl⟩
                         refine JL.nil ?_
                         refine JY.ran (ba 20 147455) [true, true, true, true, true, true, true, true, true, true, true, true, true, true, false] ?_
                         refine JY.pur (hi := rfl) 14 (ba 20 163839) (.tuple #[mv_49 t2038.1, .bool t2038.2]) (some 88) want ?_
                         refine JY.pur (hi := rfl) 15 (ba 20 196607) (mv_49 t2038.1) (some 103) want ?_
                         refine JY.pur (hi := rfl) 16 (ba 20 262143) (.bool t2038.2) (some 104) want ?_
                         refine JY.all [18] ⟨⟨_, rfl, ?_⟩, trivial⟩
                         refine JL.store 14 b2060 0 49 (cl_49 zv_49) (cl_49 t2038.1) tySize_49 ?_
                         refine JL.nil ?_
                         refine JY.ran (ba 20 524287) [true, true, true, true, true, true, true, true, true, true, true, true, true, true, false] ?_
                         refine JY.pur (hi := rfl) 19 (ba 20 1048575) (.bool t2038.2) (some 14) want ?_
                         refine JY.done ?_
                         refine JQ.then_normal ?_
                         exact JQ.meet (t2038.1, t2038.2) b2060 H1 (fun _ h => Heap.to h)
                     · refine JL.alloc (cl_49 zv_49) fun b2063 => ?_
                       refine JL.nil ?_
                       refine JY.ran (ba 20 133119) [true, true, true, true, true, true, true, true, true, true, true, true, true, true, false] ?_
                       refine JY.all [11] ⟨⟨_, rfl, ?_⟩, trivial⟩
                       refine JL.call [] [] [] (ref18_Worth.ok (ix b11.Ns i1138) _ hc2037) trivial ?_
                       rintro _ _ ⟨rfl, rfl⟩
                       refine JL.nil ?_
                       refine JY.ran (ba 20 135167) [true, true, true, true, true, true, true, true, true, true, true, true, true, true, false] ?_
                       refine JY.pur (hi := rfl) 12 (ba 20 139263) (.int .i64 (w64 (t2030 + t2036))) (some 101) want ?_
                       refine JY.all [13] ⟨⟨_, rfl, ?_⟩, trivial⟩
                       refine JL.call [] [] [] (ref18_counted.ok (w64 (t2030 + t2036)) _ hc2039) trivial ?_
                       rintro _ _ ⟨rfl, rfl⟩
                       refine JL.nil ?_
                       refine JY.ran (ba 20 147455) [true, true, true, true, true, true, true, true, true, true, true, true, true, true, false] ?_
                       refine JY.pur (hi := rfl) 14 (ba 20 163839) (.tuple #[mv_49 t2038.1, .bool t2038.2]) (some 88) want ?_
                       refine JY.pur (hi := rfl) 15 (ba 20 196607) (mv_49 t2038.1) (some 103) want ?_
                       refine JY.pur (hi := rfl) 16 (ba 20 262143) (.bool t2038.2) (some 104) want ?_
                       refine JY.all [18] ⟨⟨_, rfl, ?_⟩, trivial⟩
                       refine JL.store 14 b2063 0 49 (cl_49 zv_49) (cl_49 t2038.1) tySize_49 ?_
                       refine JL.nil ?_
                       refine JY.ran (ba 20 524287) [true, true, true, true, true, true, true, true, true, true, true, true, true, true, false] ?_
                       refine JY.pur (hi := rfl) 19 (ba 20 1048575) (.bool t2038.2) (some 14) want ?_
                       refine JY.done ?_
                       refine JQ.then_normal ?_
                       exact JQ.meet (t2038.1, t2038.2) b2063 H1 (fun _ h => Heap.to h)
                   · refine JL.alloc (cl_49 zv_49) fun b2068 => ?_
                     refine JL.nil ?_
                     refine JY.ran (ba 20 133087) [true, true, true, true, true, true, true, true, true, true, true, true, true, true, false] ?_
                     refine JY.all [5] ⟨⟨_, rfl, ?_⟩, trivial⟩
                     refine JL.call [] [] [] (ref18_Worth.ok (ix a1.Ns i1138) _ hc2031) trivial ?_
                     rintro _ _ ⟨rfl, rfl⟩
                     refine JL.nil ?_
                     refine JY.ran (ba 20 133119) [true, true, true, true, true, true, true, true, true, true, true, true, true, true, false] ?_
                     refine JY.all [11] ⟨⟨_, rfl, ?_⟩, trivial⟩
                     refine JL.call [] [] [] (ref18_Worth.ok (ix b11.Ns i1138) _ hc2037) trivial ?_
                     rintro _ _ ⟨rfl, rfl⟩
                     refine JL.nil ?_
                     refine JY.ran (ba 20 135167) [true, true, true, true, true, true, true, true, true, true, true, true, true, true, false] ?_
                     refine JY.pur (hi := rfl) 12 (ba 20 139263) (.int .i64 (w64 (t2030 + t2036))) (some 101) want ?_
                     refine JY.all [13] ⟨⟨_, rfl, ?_⟩, trivial⟩
                     refine JL.call [] [] [] (ref18_counted.ok (w64 (t2030 + t2036)) _ hc2039) trivial ?_
                     rintro _ _ ⟨rfl, rfl⟩
                     refine JL.nil ?_
                     refine JY.ran (ba 20 147455) [true, true, true, true, true, true, true, true, true, true, true, true, true, true, false] ?_
                     refine JY.pur (hi := rfl) 14 (ba 20 163839) (.tuple #[mv_49 t2038.1, .bool t2038.2]) (some 88) want ?_
                     refine JY.pur (hi := rfl) 15 (ba 20 196607) (mv_49 t2038.1) (some 103) want ?_
                     refine JY.pur (hi := rfl) 16 (ba 20 262143) (.bool t2038.2) (some 104) want ?_
                     refine JY.all [18] ⟨⟨_, rfl, ?_⟩, trivial⟩
                     refine JL.store 14 b2068 0 49 (cl_49 zv_49) (cl_49 t2038.1) tySize_49 ?_
                     refine JL.nil ?_
                     refine JY.ran (ba 20 524287) [true, true, true, true, true, true, true, true, true, true, true, true, true, true, false] ?_
                     refine JY.pur (hi := rfl) 19 (ba 20 1048575) (.bool t2038.2) (some 14) want ?_
                     refine JY.done ?_
                     refine JQ.then_normal ?_
                     exact JQ.meet (t2038.1, t2038.2) b2068 H1 (fun _ h => Heap.to h)
                 · clear H1
                   rintro ⟨y1989, fine1990⟩ b1987 H1
                   replace H1 : ref18_Merge.k31 out1130 out1134 i1138 x1936 is1937 y1989 fine1990 = some st1 := H1
                   unfold ref18_Merge.k31 at H1
                   refine JQ.sub [(2, .pointer (some ⟨b21, 0, none⟩)), (3, .pointer (some ⟨b22, 0, none⟩)), (4, .pointer (some ⟨b23, 0, none⟩)), (6, .pointer (some ⟨b39, 0, none⟩)), (10, .int .i64 i1138), (11, .pointer (some ⟨b1934, 0, none⟩)), (12, .bool is1937), (13, .pointer (some ⟨b1987, 0, none⟩)), (14, .bool fine1990)] ?_
                   refine JQ.turn (Δ' := [At.box b21 25 [.slice Aa2 a1.Sums.length c3, .slice Aa5 a1.Ns.length c6, .slice Aa8 a1.Spans.length c9], At.rd Aa2 c3 fl_Count.kd a1.Sums true, At.rd Aa5 c6 fl_Count.kd a1.Ns true, At.rd Aa8 c9 fl_Gap.kd a1.Spans true, At.box b22 25 [.slice Aa12 b11.Sums.length c13, .slice Aa15 b11.Ns.length c16, .slice Aa18 b11.Spans.length c19], At.rd Aa12 c13 fl_Count.kd b11.Sums true, At.rd Aa15 c16 fl_Count.kd b11.Ns true, At.rd Aa18 c19 fl_Gap.kd b11.Spans true, At.box b23 25 [.slice none 0 0, .slice none 0 0, .slice none 0 0], At.box b39 25 [.slice Aa1131 out1130.length c1132, .slice Aa1135 out1134.length c1136, .slice Aa119 out118.length c120], At.row Aa1131 c1132 49 fl_Count.kd out1130 false, At.row Aa1135 c1136 49 fl_Count.kd out1134 false, At.row Aa119 c120 51 fl_Gap.kd out118 false, At.box b1934 49 (cl_49 x1936), At.box b1987 49 (cl_49 y1989)]) (fun _ h => h.to) ?_
                   refine J.seq ?_
                   refine J.join (T := Bool) (G := Unit) (fun t => ref18_Merge.k32 out1130 out1134 i1138 x1936 y1989 t = some st1) (fun t g => [(2, .pointer (some ⟨b21, 0, none⟩)), (3, .pointer (some ⟨b22, 0, none⟩)), (4, .pointer (some ⟨b23, 0, none⟩)), (6, .pointer (some ⟨b39, 0, none⟩)), (10, .int .i64 i1138), (11, .pointer (some ⟨b1934, 0, none⟩)), (13, .pointer (some ⟨b1987, 0, none⟩)), (110, .bool t)]) (fun t g => [At.box b21 25 [.slice Aa2 a1.Sums.length c3, .slice Aa5 a1.Ns.length c6, .slice Aa8 a1.Spans.length c9], At.rd Aa2 c3 fl_Count.kd a1.Sums true, At.rd Aa5 c6 fl_Count.kd a1.Ns true, At.rd Aa8 c9 fl_Gap.kd a1.Spans true, At.box b22 25 [.slice Aa12 b11.Sums.length c13, .slice Aa15 b11.Ns.length c16, .slice Aa18 b11.Spans.length c19], At.rd Aa12 c13 fl_Count.kd b11.Sums true, At.rd Aa15 c16 fl_Count.kd b11.Ns true, At.rd Aa18 c19 fl_Gap.kd b11.Spans true, At.box b23 25 [.slice none 0 0, .slice none 0 0, .slice none 0 0], At.box b39 25 [.slice Aa1131 out1130.length c1132, .slice Aa1135 out1134.length c1136, .slice Aa119 out118.length c120], At.row Aa1131 c1132 49 fl_Count.kd out1130 false, At.row Aa1135 c1136 49 fl_Count.kd out1134 false, At.row Aa119 c120 51 fl_Gap.kd out118 false, At.box b1934 49 (cl_49 x1936), At.box b1987 49 (cl_49 y1989)]) ?_ ?_
                   · refine J.region ?_
                     refine JL.mv (.bool is1937) ?_
                     refine JL.pur (.bool (!is1937)) (some 106) ?_
                     refine JL.mv (.bool (!is1937)) ?_
                     rcases ite_cases H1 with ⟨h2025, H1⟩ | ⟨h2025, H1⟩
                     · refine JL.off 2 107 false (some 108) h2025 ?_
                       refine JL.off 2 107 false (some 109) h2025 ?_
                       refine JL.val (.bool true) (some 110) (gives_pickT h2025) ?_
                       refine JL.en ?_
                       exact JQ.meet true () H1 (fun _ h => Heap.to h)
                     · refine JL.on 2 107 h2025 ?_
                       refine JL.mv (.bool fine1990) ?_
                       refine JL.on 2 107 h2025 ?_
                       refine JL.pur (.bool (!fine1990)) (some 109) ?_
                       refine JL.val (.bool (!fine1990)) (some 110) (gives_pickF h2025) ?_
                       refine JL.en ?_
                       exact JQ.meet (!fine1990) () H1 (fun _ h => Heap.to h)
                   · clear H1
                     rintro x1992 ⟨⟩ H1
                     replace H1 : ref18_Merge.k32 out1130 out1134 i1138 x1936 y1989 x1992 = some st1 := H1
                     unfold ref18_Merge.k32 at H1
                     refine JQ.sub [(2, .pointer (some ⟨b21, 0, none⟩)), (3, .pointer (some ⟨b22, 0, none⟩)), (4, .pointer (some ⟨b23, 0, none⟩)), (6, .pointer (some ⟨b39, 0, none⟩)), (10, .int .i64 i1138), (11, .pointer (some ⟨b1934, 0, none⟩)), (13, .pointer (some ⟨b1987, 0, none⟩)), (110, .bool x1992)] ?_
                     refine JQ.turn (Δ' := [At.box b21 25 [.slice Aa2 a1.Sums.length c3, .slice Aa5 a1.Ns.length c6, .slice Aa8 a1.Spans.length c9], At.rd Aa2 c3 fl_Count.kd a1.Sums true, At.rd Aa5 c6 fl_Count.kd a1.Ns true, At.rd Aa8 c9 fl_Gap.kd a1.Spans true, At.box b22 25 [.slice Aa12 b11.Sums.length c13, .slice Aa15 b11.Ns.length c16, .slice Aa18 b11.Spans.length c19], At.rd Aa12 c13 fl_Count.kd b11.Sums true, At.rd Aa15 c16 fl_Count.kd b11.Ns true, At.rd Aa18 c19 fl_Gap.kd b11.Spans true, At.box b23 25 [.slice none 0 0, .slice none 0 0, .slice none 0 0], At.box b39 25 [.slice Aa1131 out1130.length c1132, .slice Aa1135 out1134.length c1136, .slice Aa119 out118.length c120], At.row Aa1131 c1132 49 fl_Count.kd out1130 false, At.row Aa1135 c1136 49 fl_Count.kd out1134 false, At.row Aa119 c120 51 fl_Gap.kd out118 false, At.box b1934 49 (cl_49 x1936), At.box b1987 49 (cl_49 y1989)]) (fun _ h => h.to) ?_
                     rcases ite_cases H1 with ⟨h1993, H1⟩ | ⟨h1993, H1⟩
                     · refine J.cond_true h1993 ?_
                       refine J.sr ?_
                       refine JL.pur (.agg #[.slice none 0 0, .slice none 0 0, .slice none 0 0]) (some 111) ?_
                       refine JL.store 8 b23 0 25 [.slice none 0 0, .slice none 0 0, .slice none 0 0] [.slice none 0 0, .slice none 0 0, .slice none 0 0] tySize_25 ?_
                       refine JL.as (.int .i64 16) ?_
                       refine JL.es [(4, .pointer (some ⟨b23, 0, none⟩)), (5, .int .i64 16)] ?_
                       refine JQ.mask [At.box b23 25 [.slice none 0 0, .slice none 0 0, .slice none 0 0]] [false, false, false, false, false, false, false, false, true, false, false, false, false, false, false] ?_
                       refine J.ret ?_
                       refine JQ.then_ret ?_
                       refine JQ.blk_ret ?_
                       refine JQ.then_ret ?_
                       refine JQ.then_ret ?_
                       refine JQ.blk_ret ?_
                       refine JQ.met_ret ?_
                       refine JQ.then_ret ?_
                       rw [hr1 _ (Option.some.inj H1).symm, fin_ret] at H0
                       obtain rfl := Option.some.inj H0
                       exact JQ.done' (rs := [.cell 4 25, .tmp 5]) (vs := [.agg #[.slice none 0 0, .slice none 0 0, .slice none 0 0], .int .i64 16]) [At.row none 0 49 fl_Count.kd ([] : List Count) false, At.row none 0 49 fl_Count.kd ([] : List Count) false, At.row none 0 51 fl_Gap.kd ([] : List Gap) false] (.inr rfl) ⟨⟨b23, 0, _, _, by kernel_rfl, by kernel_rfl, holds_box b23 25 [.slice none 0 0, .slice none 0 0, .slice none 0 0], .inl ⟨tyAgg_25, tySize_25, rfl⟩⟩, by kernel_rfl, trivial⟩ (fun _ h => Heap.to (Heap.pick [1, 2, 3] (by decide) (Heap.addRow0 (α := Gap) 51 fl_Gap.kd false (Heap.addRow0 (α := Count) 49 fl_Count.kd false (Heap.addRow0 (α := Count) 49 fl_Count.kd false h))))) ⟨none, 0, none, 0, none, 0, rfl, rfl⟩
                     · refine J.cond_false h1993 ?_
                       refine J.skip ?_
                       refine JQ.ts [(2, .pointer (some ⟨b21, 0, none⟩)), (3, .pointer (some ⟨b22, 0, none⟩)), (4, .pointer (some ⟨b23, 0, none⟩)), (6, .pointer (some ⟨b39, 0, none⟩)), (10, .int .i64 i1138), (11, .pointer (some ⟨b1934, 0, none⟩)), (13, .pointer (some ⟨b1987, 0, none⟩))] ?_
                       obtain ⟨h1997, H1⟩ := ite_must H1
                       obtain ⟨h2001, H1⟩ := ite_must H1
                       refine JY.startM [true, true, true, true, true, true, true, true, true, true, false, false, true, true, true] [11, 13] (ba 14 0) ?_
                       refine JY.pur (hi := rfl) 0 (ba 14 1) (.pointer (some ⟨b39, 0, none⟩)) (some 112) want ?_
                       refine JY.take (hi := rfl) 1 (ba 14 3) (.slice Aa1131 out1130.length c1132) (some 113) [true, true, true, true, true, true, true, true, true, true, false, false, true, true, true] want (yields_load_box 9 0 (holds_box b39 25 [.slice Aa1131 out1130.length c1132, .slice Aa1135 out1134.length c1136, .slice Aa119 out118.length c120]) tyAgg_22) ?_
                       refine JY.take (hi := rfl) 2 (ba 14 7) (mv_49 x1936) (some 114) [true, true, true, true, true, true, true, true, true, true, false, false, true, true, true] want (yields_load_boxes 11 0 (cl_49 x1936) (holds_box b1934 49 (cl_49 x1936)) tyAgg_49 tySize_49) ?_
                       refine JY.pur (hi := rfl) 5 (ba 14 39) (.pointer (some ⟨b39, 1, none⟩)) (some 117) want ?_
                       refine JY.take (hi := rfl) 6 (ba 14 103) (.slice Aa1135 out1134.length c1136) (some 118) [true, true, true, true, true, true, true, true, true, true, false, false, true, true, true] want (yields_load_box 9 1 (holds_box b39 25 [.slice Aa1131 out1130.length c1132, .slice Aa1135 out1134.length c1136, .slice Aa119 out118.length c120]) tyAgg_22) ?_
                       refine JY.take (hi := rfl) 7 (ba 14 231) (mv_49 y1989) (some 119) [true, true, true, true, true, true, true, true, true, true, false, false, true, true, true] want (yields_load_boxes 12 0 (cl_49 y1989) (holds_box b1987 49 (cl_49 y1989)) tyAgg_49 tySize_49) ?_
                       refine JY.all [3, 8] ⟨⟨_, rfl, ?_⟩, ⟨_, rfl, ?_⟩, trivial⟩
                       · refine JL.buildSl 49 fl_Count.kd (([x1936] : List Count) : List Count) [.int .i64 x1936.Hi, .int .i64 x1936.Lo] false (closes_fl rfl) fun b2002 => ?_
                         refine JL.nil ?_
                         refine JY.ran (ba 14 239) [true, true, true, true, true, true, true, true, true, true, false, false, true, true, true, false] ?_
                         refine JY.all [4, 8] ⟨⟨_, rfl, ?_⟩, ⟨_, rfl, ?_⟩, trivial⟩
                         · obtain h2005 : out1130.length + ([x1936] : List Count).length ≤ 8796093022208 := h1997
                           refine JL.append false false 10 15 Aa1131 c1132 1 out1130 (elems_row (some ⟨b2002, 0, none⟩) 1 49 fl_Count.kd ([x1936] : List Count) false) Try.underlying22 info_49 (by omega) (by omega) (fun h => h) (.inr ⟨_, rfl⟩) fun Aa2003 c2004 => ?_
                           refine JL.nil ?_
                           refine JY.ran (ba 14 255) [true, true, true, true, true, true, true, true, true, true, false, false, true, true, true, false] ?_
                           refine JY.pur (hi := rfl) 10 (ba 14 1279) (.pointer (some ⟨b39, 0, none⟩)) (some 122) want ?_
                           refine JY.all [8] ⟨⟨_, rfl, ?_⟩, trivial⟩
                           refine JL.buildSl 49 fl_Count.kd (([y1989] : List Count) : List Count) [.int .i64 y1989.Hi, .int .i64 y1989.Lo] false (closes_fl rfl) fun b2006 => ?_
                           refine JL.nil ?_
                           refine JY.ran (ba 14 1535) [true, true, true, true, true, true, true, true, true, true, false, false, true, true, true, false, false] ?_
                           refine JY.all [9] ⟨⟨_, rfl, ?_⟩, trivial⟩
                           obtain h2009 : out1134.length + ([y1989] : List Count).length ≤ 8796093022208 := h2001
                           refine JL.append false false 11 16 Aa1135 c1136 1 out1134 (elems_row (some ⟨b2006, 0, none⟩) 1 49 fl_Count.kd ([y1989] : List Count) false) Try.underlying22 info_49 (by omega) (by omega) (fun h => h) (.inr ⟨_, rfl⟩) fun Aa2007 c2008 => ?_
                           refine JL.nil ?_
                           refine JY.ran (ba 14 2047) [true, true, true, true, true, true, true, true, true, true, false, false, true, true, true, false, false] ?_
                           refine JY.all [11] ⟨⟨_, rfl, ?_⟩, trivial⟩
                           refine JL.store 9 b39 0 25 [.slice Aa1131 out1130.length c1132, .slice Aa1135 out1134.length c1136, .slice Aa119 out118.length c120] [.slice Aa2003 (out1130 ++ ([x1936] : List Count)).length c2004, .slice Aa1135 out1134.length c1136, .slice Aa119 out118.length c120] tySize_22 ?_
                           refine JL.nil ?_
                           refine JY.ranD (ba 14 4095) ?_
                           refine JY.pur (hi := rfl) 12 (ba 14 8191) (.pointer (some ⟨b39, 1, none⟩)) (some 123) want ?_
                           refine JY.all [13] ⟨⟨_, rfl, ?_⟩, trivial⟩
                           refine JL.store 9 b39 1 25 [.slice Aa2003 (out1130 ++ ([x1936] : List Count)).length c2004, .slice Aa1135 out1134.length c1136, .slice Aa119 out118.length c120] [.slice Aa2003 (out1130 ++ ([x1936] : List Count)).length c2004, .slice Aa2007 (out1134 ++ ([y1989] : List Count)).length c2008, .slice Aa119 out118.length c120] tySize_22 ?_
                           refine JL.nil ?_
                           refine JY.ranD (ba 14 16383) ?_
                           refine JY.done ?_
                           refine JQ.blk_normal ?_
                           refine JQ.then_normal ?_
                           exact JQ.meet ((out1130 ++ ([x1936] : List Count)), (out1134 ++ ([y1989] : List Count))) (Aa2003, c2004, Aa2007, c2008) H1 (fun _ h => Heap.to (Heap.pick [0, 1, 2, 3, 4, 5, 6, 7, 8, 9, 10, 11, 12] (by decide) h))
                         · refine JL.buildSl 49 fl_Count.kd (([y1989] : List Count) : List Count) [.int .i64 y1989.Hi, .int .i64 y1989.Lo] false (closes_fl rfl) fun b2010 => ?_
                           refine JL.nil ?_
                           refine JY.ran (ba 14 495) [true, true, true, true, true, true, true, true, true, true, false, false, true, true, true, false, false] ?_
                           refine JY.all [4] ⟨⟨_, rfl, ?_⟩, trivial⟩
                           obtain h2013 : out1130.length + ([x1936] : List Count).length ≤ 8796093022208 := h1997
                           refine JL.append false false 10 15 Aa1131 c1132 1 out1130 (elems_row (some ⟨b2002, 0, none⟩) 1 49 fl_Count.kd ([x1936] : List Count) false) Try.underlying22 info_49 (by omega) (by omega) (fun h => h) (.inr ⟨_, rfl⟩) fun Aa2011 c2012 => ?_
                           refine JL.nil ?_
                           refine JY.ran (ba 14 511) [true, true, true, true, true, true, true, true, true, true, false, false, true, true, true, false, false] ?_
                           refine JY.pur (hi := rfl) 10 (ba 14 1535) (.pointer (some ⟨b39, 0, none⟩)) (some 122) want ?_
                           refine JY.all [9] ⟨⟨_, rfl, ?_⟩, trivial⟩
                           obtain h2016 : out1134.length + ([y1989] : List Count).length ≤ 8796093022208 := h2001
                           refine JL.append false false 11 16 Aa1135 c1136 1 out1134 (elems_row (some ⟨b2010, 0, none⟩) 1 49 fl_Count.kd ([y1989] : List Count) false) Try.underlying22 info_49 (by omega) (by omega) (fun h => h) (.inr ⟨_, rfl⟩) fun Aa2014 c2015 => ?_
                           refine JL.nil ?_
                           refine JY.ran (ba 14 2047) [true, true, true, true, true, true, true, true, true, true, false, false, true, true, true, false, false] ?_
                           refine JY.all [11] ⟨⟨_, rfl, ?_⟩, trivial⟩
                           refine JL.store 9 b39 0 25 [.slice Aa1131 out1130.length c1132, .slice Aa1135 out1134.length c1136, .slice Aa119 out118.length c120] [.slice Aa2011 (out1130 ++ ([x1936] : List Count)).length c2012, .slice Aa1135 out1134.length c1136, .slice Aa119 out118.length c120] tySize_22 ?_
                           refine JL.nil ?_
                           refine JY.ranD (ba 14 4095) ?_
                           refine JY.pur (hi := rfl) 12 (ba 14 8191) (.pointer (some ⟨b39, 1, none⟩)) (some 123) want ?_
                           refine JY.all [13] ⟨⟨_, rfl, ?_⟩, trivial⟩
                           refine JL.store 9 b39 1 25 [.slice Aa2011 (out1130 ++ ([x1936] : List Count)).length c2012, .slice Aa1135 out1134.length c1136, .slice Aa119 out118.length c120] [.slice Aa2011 (out1130 ++ ([x1936] : List Count)).length c2012, .slice Aa2014 (out1134 ++ ([y1989] : List Count)).length c2015, .slice Aa119 out118.length c120] tySize_22 ?_
                           refine JL.nil ?_
                           refine JY.ranD (ba 14 16383) ?_
                           refine JY.done ?_
                           refine JQ.blk_normal ?_
                           refine JQ.then_normal ?_
                           exact JQ.meet ((out1130 ++ ([x1936] : List Count)), (out1134 ++ ([y1989] : List Count))) (Aa2011, c2012, Aa2014, c2015) H1 (fun _ h => Heap.to (Heap.pick [0, 1, 2, 3, 4, 5, 6, 7, 8, 9, 10, 11, 12] (by decide) h))
                       · refine JL.buildSl 49 fl_Count.kd (([y1989] : List Count) : List Count) [.int .i64 y1989.Hi, .int .i64 y1989.Lo] false (closes_fl rfl) fun b2017 => ?_
                         refine JL.nil ?_
                         refine JY.ran (ba 14 487) [true, true, true, true, true, true, true, true, true, true, false, false, true, true, true, false] ?_
                         refine JY.all [3] ⟨⟨_, rfl, ?_⟩, trivial⟩
                         refine JL.buildSl 49 fl_Count.kd (([x1936] : List Count) : List Count) [.int .i64 x1936.Hi, .int .i64 x1936.Lo] false (closes_fl rfl) fun b2018 => ?_
                         refine JL.nil ?_
                         refine JY.ran (ba 14 495) [true, true, true, true, true, true, true, true, true, true, false, false, true, true, true, false, false] ?_
                         refine JY.all [4] ⟨⟨_, rfl, ?_⟩, trivial⟩
                         obtain h2021 : out1130.length + ([x1936] : List Count).length ≤ 8796093022208 := h1997
                         refine JL.append false false 10 16 Aa1131 c1132 1 out1130 (elems_row (some ⟨b2018, 0, none⟩) 1 49 fl_Count.kd ([x1936] : List Count) false) Try.underlying22 info_49 (by omega) (by omega) (fun h => h) (.inr ⟨_, rfl⟩) fun Aa2019 c2020 => ?_
                         refine JL.nil ?_
                         refine JY.ran (ba 14 511) [true, true, true, true, true, true, true, true, true, true, false, false, true, true, true, false, false] ?_
                         refine JY.pur (hi := rfl) 10 (ba 14 1535) (.pointer (some ⟨b39, 0, none⟩)) (some 122) want ?_
                         refine JY.all [9] ⟨⟨_, rfl, ?_⟩, trivial⟩
                         obtain h2024 : out1134.length + ([y1989] : List Count).length ≤ 8796093022208 := h2001
                         refine JL.append false false 11 15 Aa1135 c1136 1 out1134 (elems_row (some ⟨b2017, 0, none⟩) 1 49 fl_Count.kd ([y1989] : List Count) false) Try.underlying22 info_49 (by omega) (by omega) (fun h => h) (.inr ⟨_, rfl⟩) fun Aa2022 c2023 => ?_
                         refine JL.nil ?_
                         refine JY.ran (ba 14 2047) [true, true, true, true, true, true, true, true, true, true, false, false, true, true, true, false, false] ?_
                         refine JY.all [11] ⟨⟨_, rfl, ?_⟩, trivial⟩
                         refine JL.store 9 b39 0 25 [.slice Aa1131 out1130.length c1132, .slice Aa1135 out1134.length c1136, .slice Aa119 out118.length c120] [.slice Aa2019 (out1130 ++ ([x1936] : List Count)).length c2020, .slice Aa1135 out1134.length c1136, .slice Aa119 out118.length c120] tySize_22 ?_
                         refine JL.nil ?_
                         refine JY.ranD (ba 14 4095) ?_
                         refine JY.pur (hi := rfl) 12 (ba 14 8191) (.pointer (some ⟨b39, 1, none⟩)) (some 123) want ?_
                         refine JY.all [13] ⟨⟨_, rfl, ?_⟩, trivial⟩
                         refine JL.store 9 b39 1 25 [.slice Aa2019 (out1130 ++ ([x1936] : List Count)).length c2020, .slice Aa1135 out1134.length c1136, .slice Aa119 out118.length c120] [.slice Aa2019 (out1130 ++ ([x1936] : List Count)).length c2020, .slice Aa2022 (out1134 ++ ([y1989] : List Count)).length c2023, .slice Aa119 out118.length c120] tySize_22 ?_
                         refine JL.nil ?_
                         refine JY.ranD (ba 14 16383) ?_
                         refine JY.done ?_
                         refine JQ.blk_normal ?_
                         refine JQ.then_normal ?_
                         exact JQ.meet ((out1130 ++ ([x1936] : List Count)), (out1134 ++ ([y1989] : List Count))) (Aa2019, c2020, Aa2022, c2023) H1 (fun _ h => Heap.to (Heap.pick [0, 1, 2, 3, 4, 5, 6, 7, 8, 9, 10, 11, 12] (by decide) h))
             · clear H1
               rintro ⟨out1876, out1880⟩ ⟨Aa1877, c1878, Aa1881, c1882⟩ H1
               replace H1 : ref18_Merge.k29 i1138 out1876 out1880 = some st1 := H1
               unfold ref18_Merge.k29 at H1
               refine JQ.sub [(2, .pointer (some ⟨b21, 0, none⟩)), (3, .pointer (some ⟨b22, 0, none⟩)), (4, .pointer (some ⟨b23, 0, none⟩)), (6, .pointer (some ⟨b39, 0, none⟩)), (10, .int .i64 i1138)] ?_
               refine JQ.turn (Δ' := [At.box b21 25 [.slice Aa2 a1.Sums.length c3, .slice Aa5 a1.Ns.length c6, .slice Aa8 a1.Spans.length c9], At.rd Aa2 c3 fl_Count.kd a1.Sums true, At.rd Aa5 c6 fl_Count.kd a1.Ns true, At.rd Aa8 c9 fl_Gap.kd a1.Spans true, At.box b22 25 [.slice Aa12 b11.Sums.length c13, .slice Aa15 b11.Ns.length c16, .slice Aa18 b11.Spans.length c19], At.rd Aa12 c13 fl_Count.kd b11.Sums true, At.rd Aa15 c16 fl_Count.kd b11.Ns true, At.rd Aa18 c19 fl_Gap.kd b11.Spans true, At.box b23 25 [.slice none 0 0, .slice none 0 0, .slice none 0 0], At.box b39 25 [.slice Aa1877 out1876.length c1878, .slice Aa1881 out1880.length c1882, .slice Aa119 out118.length c120], At.row Aa1877 c1878 49 fl_Count.kd out1876 false, At.row Aa1881 c1882 49 fl_Count.kd out1880 false, At.row Aa119 c120 51 fl_Gap.kd out118 false]) (fun _ h => h.to) ?_
               refine J.region ?_
               refine JL.mv (.int .i64 i1138) ?_
               refine JL.pur (.int .i64 (w64 (i1138 + 1))) (some 70) ?_
               obtain ⟨i1884, ei1884, H1⟩ := lt_some H1
               refine JL.as' (k := .i64) i1884 ei1884 ?_
               refine JL.en ?_
               exact JQ.again (out1876, out1880, i1884) (Aa1877, c1878, Aa1881, c1882) (Option.some.inj H1).symm (fun _ h => Heap.to h)
           · refine J.cond_false h1636 ?_
             refine J.exit ?_
             refine JQ.then_exit ?_
             refine JQ.then_exit ?_
             refine JQ.blk_exit ?_
             rw [hb1 _ (Option.some.inj H1).symm, fin_brk] at H0
             exact JQ.met (out1130, out1134) (Aa1131, c1132, Aa1135, c1136) H0 (fun _ h => Heap.to (Heap.pick [8, 9, 10, 11, 12] (by decide) h))
         · clear hit H0
           rintro ⟨out1627, out1631⟩ ⟨Aa1628, c1629, Aa1632, c1633⟩ H0
           replace H0 : ref18_Merge.k25 out118 out1627 out1631 = some r := H0
           unfold ref18_Merge.k25 at H0
           refine JQ.sub [(4, .pointer (some ⟨b23, 0, none⟩)), (6, .pointer (some ⟨b39, 0, none⟩))] ?_
           refine JQ.turn (Δ' := [At.box b23 25 [.slice none 0 0, .slice none 0 0, .slice none 0 0], At.box b39 25 [.slice Aa1628 out1627.length c1629, .slice Aa1632 out1631.length c1633, .slice Aa119 out118.length c120], At.row Aa1628 c1629 49 fl_Count.kd out1627 false, At.row Aa1632 c1633 49 fl_Count.kd out1631 false, At.row Aa119 c120 51 fl_Gap.kd out118 false]) (fun _ h => h.to) ?_
           refine JQ.then_normal ?_
           refine J.seq ?_
           refine J.sr ?_
           refine JL.pur (.pointer (some ⟨b39, 2, none⟩)) (some 124) ?_
           refine JL.val (.slice Aa119 out118.length c120) (some 125) (yields_load_box 1 2 (holds_box b39 25 [.slice Aa1628 out1627.length c1629, .slice Aa1632 out1631.length c1633, .slice Aa119 out118.length c120]) tyAgg_23) ?_
           refine JL.pur (.int .i64 (out118.length : Int)) (some 126) ?_
           refine JL.pur (.bool (decide (64 < (out118.length : Int)))) (some 127) ?_
           refine JL.es [(4, .pointer (some ⟨b23, 0, none⟩)), (6, .pointer (some ⟨b39, 0, none⟩)), (127, .bool (decide (64 < (out118.length : Int))))] ?_
           rcases ite_cases H0 with ⟨h1635, H0⟩ | ⟨h1635, H0⟩
           · refine J.cond_true h1635 ?_
             refine J.sr ?_
             refine JL.pur (.agg #[.slice none 0 0, .slice none 0 0, .slice none 0 0]) (some 128) ?_
             refine JL.store 0 b23 0 25 [.slice none 0 0, .slice none 0 0, .slice none 0 0] [.slice none 0 0, .slice none 0 0, .slice none 0 0] tySize_25 ?_
             refine JL.as (.int .i64 4) ?_
             refine JL.es [(4, .pointer (some ⟨b23, 0, none⟩)), (5, .int .i64 4)] ?_
             refine JQ.mask [At.box b23 25 [.slice none 0 0, .slice none 0 0, .slice none 0 0]] [true, false, false, false, false] ?_
             refine J.ret ?_
             refine JQ.then_ret ?_
             obtain rfl := Option.some.inj H0
             exact JQ.done' (rs := [.cell 4 25, .tmp 5]) (vs := [.agg #[.slice none 0 0, .slice none 0 0, .slice none 0 0], .int .i64 4]) [At.row none 0 49 fl_Count.kd ([] : List Count) false, At.row none 0 49 fl_Count.kd ([] : List Count) false, At.row none 0 51 fl_Gap.kd ([] : List Gap) false] (.inr rfl) ⟨⟨b23, 0, _, _, by kernel_rfl, by kernel_rfl, holds_box b23 25 [.slice none 0 0, .slice none 0 0, .slice none 0 0], .inl ⟨tyAgg_25, tySize_25, rfl⟩⟩, by kernel_rfl, trivial⟩ (fun _ h => Heap.to (Heap.pick [1, 2, 3] (by decide) (Heap.addRow0 (α := Gap) 51 fl_Gap.kd false (Heap.addRow0 (α := Count) 49 fl_Count.kd false (Heap.addRow0 (α := Count) 49 fl_Count.kd false h))))) ⟨none, 0, none, 0, none, 0, rfl, rfl⟩
           · refine J.cond_false h1635 ?_
             refine J.skip ?_
             refine JQ.ts [(4, .pointer (some ⟨b23, 0, none⟩)), (6, .pointer (some ⟨b39, 0, none⟩))] ?_
             refine J.sr ?_
             refine JL.val (.agg #[.slice Aa1628 out1627.length c1629, .slice Aa1632 out1631.length c1633, .slice Aa119 out118.length c120]) (some 129) (yields_load_boxes 1 0 [.slice Aa1628 out1627.length c1629, .slice Aa1632 out1631.length c1633, .slice Aa119 out118.length c120] (holds_box b39 25 [.slice Aa1628 out1627.length c1629, .slice Aa1632 out1631.length c1633, .slice Aa119 out118.length c120]) tyAgg_25 tySize_25) ?_
             refine JL.store 0 b23 0 25 [.slice none 0 0, .slice none 0 0, .slice none 0 0] [.slice Aa1628 out1627.length c1629, .slice Aa1632 out1631.length c1633, .slice Aa119 out118.length c120] tySize_25 ?_
             refine JL.as (.int .i64 0) ?_
             refine JL.es [(4, .pointer (some ⟨b23, 0, none⟩)), (5, .int .i64 0)] ?_
             refine JQ.mask [At.box b23 25 [.slice Aa1628 out1627.length c1629, .slice Aa1632 out1631.length c1633, .slice Aa119 out118.length c120], At.row Aa1628 c1629 49 fl_Count.kd out1627 false, At.row Aa1632 c1633 49 fl_Count.kd out1631 false, At.row Aa119 c120 51 fl_Gap.kd out118 false] [true, false, true, true, true] ?_
             refine J.ret ?_
             obtain rfl := Option.some.inj H0
             exact JQ.done' (rs := [.cell 4 25, .tmp 5]) (vs := [.agg #[.slice Aa1628 out1627.length c1629, .slice Aa1632 out1631.length c1633, .slice Aa119 out118.length c120], .int .i64 0]) [At.row Aa1628 c1629 49 fl_Count.kd out1627 false, At.row Aa1632 c1633 49 fl_Count.kd out1631 false, At.row Aa119 c120 51 fl_Gap.kd out118 false] (.inr rfl) ⟨⟨b23, 0, _, _, by kernel_rfl, by kernel_rfl, holds_box b23 25 [.slice Aa1628 out1627.length c1629, .slice Aa1632 out1631.length c1633, .slice Aa119 out118.length c120], .inl ⟨tyAgg_25, tySize_25, rfl⟩⟩, by kernel_rfl, trivial⟩ (fun _ h => Heap.to (Heap.pick [1, 2, 3] (by decide) h)) ⟨Aa1628, c1629, Aa1632, c1633, Aa119, c120, rfl, rfl⟩

theorem accum_wide_value.ok (w1 : Wide) (r : Int) (H0 : accum_wide_value.f w1 = some r) :
    Does Try.prog 32 [mv_74 w1].toArray [] [] false (fun v Δ => v = .int .i64 r ∧ Δ = []) := by
 refine Does.body (vs := [mv_74 w1]) Try.func32 rfl trivial trivial fun w S => ?_
 unfold accum_wide_value.f at H0
 refine J.sr ?_
 refine JL.box (cl_74 w1) fun b2 => ?_
 refine JL.as (.int .i64 0) ?_
 refine JL.es [(1, .pointer (some ⟨b2, 0, none⟩))] ?_
 refine J.sr ?_
 refine JL.pur (.pointer (some ⟨b2, 0, none⟩)) (some 3) ?_
 refine JL.pur (.pointer (some ⟨b2, 0, none⟩)) (some 4) ?_
 refine JL.val (.int .i64 w1.Count.Hi) (some 5) (yields_load_box 0 0 (holds_box b2 74 (cl_74 w1)) tyAgg_2) ?_
 refine JL.pur (.int .i64 (w64 (w1.Count.Hi * 1000000000))) (some 6) ?_
 refine JL.pur (.pointer (some ⟨b2, 0, none⟩)) (some 7) ?_
 refine JL.pur (.pointer (some ⟨b2, 1, none⟩)) (some 8) ?_
 refine JL.val (.int .i64 w1.Count.Lo) (some 9) (yields_load_box 0 1 (holds_box b2 74 (cl_74 w1)) tyAgg_2) ?_
 refine JL.pur (.int .i64 (w64 ((w64 (w1.Count.Hi * 1000000000)) + w1.Count.Lo))) (some 10) ?_
 refine JL.as (.int .i64 (w64 ((w64 (w1.Count.Hi * 1000000000)) + w1.Count.Lo))) ?_
 refine JL.es [(2, .int .i64 (w64 ((w64 (w1.Count.Hi * 1000000000)) + w1.Count.Lo)))] ?_
 refine JQ.mask [] [false] ?_
 refine J.ret ?_
 obtain rfl := Option.some.inj H0
 exact JQ.done' (rs := [.tmp 2]) (vs := [.int .i64 (w64 ((w64 (w1.Count.Hi * 1000000000)) + w1.Count.Lo))]) [] (.inr rfl) ⟨by kernel_rfl, trivial⟩ (fun _ h => Heap.to h) ⟨rfl, rfl⟩

theorem accum_Value.ok (a1 : Acc) (Aa2 : Option Addr) (c3 : Nat) (Aa5 : Option Addr) (c6 : Nat) (Aa8 : Option Addr) (c9 : Nat) (lag11 : Int) (r : (Int × Int × Int)) (H0 : accum_Value.f a1 lag11 = some r) :
    Does Try.prog 11 [.agg #[.slice Aa2 a1.Sums.length c3, .slice Aa5 a1.Ns.length c6, .slice Aa8 a1.Spans.length c9], .int .i64 lag11].toArray [At.rd Aa2 c3 fl_Count.kd a1.Sums true, At.rd Aa5 c6 fl_Count.kd a1.Ns true, At.rd Aa8 c9 fl_Gap.kd a1.Spans true] [] false (fun v Δ => v = .tuple #[.int .i64 r.1, .int .i64 r.2.1, .int .i64 r.2.2] ∧ Δ = []) := by
 refine Does.body (vs := [.agg #[.slice Aa2 a1.Sums.length c3, .slice Aa5 a1.Ns.length c6, .slice Aa8 a1.Spans.length c9], .int .i64 lag11]) Try.func11 rfl ⟨.inl rfl, .inl rfl, .inl rfl, trivial⟩ trivial fun w S => ?_
 unfold accum_Value.f at H0
 refine J.sr ?_
 refine JL.box [.slice Aa2 a1.Sums.length c3, .slice Aa5 a1.Ns.length c6, .slice Aa8 a1.Spans.length c9] fun b12 => ?_
 refine JL.as (.int .i64 0) ?_
 refine JL.as (.int .i64 0) ?_
 refine JL.as (.int .i64 0) ?_
 refine JL.es [(1, .int .i64 lag11), (2, .pointer (some ⟨b12, 0, none⟩))] ?_
 refine J.seq ?_
 refine J.sr ?_
 refine JL.val (.agg #[.slice Aa2 a1.Sums.length c3, .slice Aa5 a1.Ns.length c6, .slice Aa8 a1.Spans.length c9]) (some 9) (yields_load_boxes 3 0 [.slice Aa2 a1.Sums.length c3, .slice Aa5 a1.Ns.length c6, .slice Aa8 a1.Spans.length c9] (holds_box b12 25 [.slice Aa2 a1.Sums.length c3, .slice Aa5 a1.Ns.length c6, .slice Aa8 a1.Spans.length c9]) tyAgg_25 tySize_25) ?_
 obtain ⟨t13, hc14, H0⟩ := bind_some H0
 refine JL.call [] [] [] (accum_Check.ok a1 Aa2 c3 Aa5 c6 Aa8 c9 _ hc14) ⟨pre_any 0 (view_rd Aa2 c3 fl_Count.kd a1.Sums true true), ⟨pre_any 1 (view_rd Aa5 c6 fl_Count.kd a1.Ns true true), ⟨pre_any 2 (view_rd Aa8 c9 fl_Gap.kd a1.Spans true true), trivial⟩⟩⟩ ?_
 rintro _ _ ⟨rfl, rfl⟩
 refine JL.as (.int .i64 t13) ?_
 refine JL.es [(1, .int .i64 lag11), (2, .pointer (some ⟨b12, 0, none⟩)), (7, .int .i64 t13)] ?_
 refine J.sr ?_
 refine JL.mv (.int .i64 t13) ?_
 refine JL.pur (.bool (!decide (t13 = 0))) (some 12) ?_
 refine JL.es [(1, .int .i64 lag11), (2, .pointer (some ⟨b12, 0, none⟩)), (7, .int .i64 t13), (12, .bool (!decide (t13 = 0)))] ?_
 rcases ite_cases H0 with ⟨h15, H0⟩ | ⟨h15, H0⟩
 · refine J.cond_true h15 ?_
   refine J.sr ?_
   refine JL.mv (.int .i64 t13) ?_
   refine JL.as (.int .i64 0) ?_
   refine JL.as (.int .i64 0) ?_
   refine JL.as (.int .i64 t13) ?_
   refine JL.es [(4, .int .i64 0), (5, .int .i64 0), (6, .int .i64 t13)] ?_
   refine JQ.mask [] [false, false, false, false] ?_
   refine J.ret ?_
   refine JQ.then_ret ?_
   obtain rfl := Option.some.inj H0
   exact JQ.done' (rs := [.tmp 4, .tmp 5, .tmp 6]) (vs := [.int .i64 0, .int .i64 0, .int .i64 t13]) [] (.inr rfl) ⟨by kernel_rfl, by kernel_rfl, by kernel_rfl, trivial⟩ (fun _ h => Heap.to h) ⟨rfl, rfl⟩
 · refine J.cond_false h15 ?_
   refine J.skip ?_
   refine JQ.ts [(1, .int .i64 lag11), (2, .pointer (some ⟨b12, 0, none⟩))] ?_
   refine J.sr ?_
   refine JL.pur (.pointer (some ⟨b12, 0, none⟩)) (some 14) ?_
   refine JL.val (.slice Aa2 a1.Sums.length c3) (some 15) (yields_load_box 3 0 (holds_box b12 25 [.slice Aa2 a1.Sums.length c3, .slice Aa5 a1.Ns.length c6, .slice Aa8 a1.Spans.length c9]) tyAgg_22) ?_
   refine JL.pur (.int .i64 (a1.Sums.length : Int)) (some 16) ?_
   refine JL.pur (.int .i64 (w64 (Int.tdiv (a1.Sums.length : Int) 2))) (some 17) ?_
   obtain ⟨most16, emost16, H0⟩ := lt_some H0
   refine JL.as' (k := .i64) most16 emost16 ?_
   refine JL.es [(1, .int .i64 lag11), (2, .pointer (some ⟨b12, 0, none⟩)), (8, .int .i64 most16)] ?_
   refine J.seq ?_
   refine J.join (T := Bool) (G := Unit) (fun t => accum_Value.k1 a1 lag11 most16 t = some r) (fun t g => [(1, .int .i64 lag11), (2, .pointer (some ⟨b12, 0, none⟩)), (8, .int .i64 most16), (26, .bool t)]) (fun t g => [At.box b12 25 [.slice Aa2 a1.Sums.length c3, .slice Aa5 a1.Ns.length c6, .slice Aa8 a1.Spans.length c9], At.rd Aa2 c3 fl_Count.kd a1.Sums true, At.rd Aa5 c6 fl_Count.kd a1.Ns true, At.rd Aa8 c9 fl_Gap.kd a1.Spans true]) ?_ ?_
   · refine J.region ?_
     refine JL.mv (.int .i64 lag11) ?_
     refine JL.mv (.int .i64 most16) ?_
     refine JL.pur (.int .i64 (w64 (0 - most16))) (some 20) ?_
     refine JL.pur (.bool (decide (lag11 < w64 (0 - most16)))) (some 21) ?_
     refine JL.mv (.bool (decide (lag11 < w64 (0 - most16)))) ?_
     rcases ite_cases H0 with ⟨h32, H0⟩ | ⟨h32, H0⟩
     · refine JL.off 4 22 false (some 23) h32 ?_
       refine JL.off 4 22 false (some 24) h32 ?_
       refine JL.off 4 22 false (some 25) h32 ?_
       refine JL.val (.bool true) (some 26) (gives_pickT h32) ?_
       refine JL.en ?_
       exact JQ.meet true () H0 (fun _ h => Heap.to (Heap.pick [3, 0, 1, 2] (by decide) h))
     · refine JL.on 4 22 h32 ?_
       refine JL.mv (.int .i64 lag11) ?_
       refine JL.on 4 22 h32 ?_
       refine JL.mv (.int .i64 most16) ?_
       refine JL.on 4 22 h32 ?_
       refine JL.pur (.bool (decide (most16 < lag11))) (some 25) ?_
       refine JL.val (.bool (decide (most16 < lag11))) (some 26) (gives_pickF h32) ?_
       refine JL.en ?_
       exact JQ.meet (decide (most16 < lag11)) () H0 (fun _ h => Heap.to (Heap.pick [3, 0, 1, 2] (by decide) h))
   · clear H0
     rintro x18 ⟨⟩ H0
     replace H0 : accum_Value.k1 a1 lag11 most16 x18 = some r := H0
     unfold accum_Value.k1 at H0
     refine JQ.sub [(1, .int .i64 lag11), (2, .pointer (some ⟨b12, 0, none⟩)), (8, .int .i64 most16), (26, .bool x18)] ?_
     refine JQ.turn (Δ' := [At.box b12 25 [.slice Aa2 a1.Sums.length c3, .slice Aa5 a1.Ns.length c6, .slice Aa8 a1.Spans.length c9], At.rd Aa2 c3 fl_Count.kd a1.Sums true, At.rd Aa5 c6 fl_Count.kd a1.Ns true, At.rd Aa8 c9 fl_Gap.kd a1.Spans true]) (fun _ h => h.to) ?_
     rcases ite_cases H0 with ⟨h19, H0⟩ | ⟨h19, H0⟩
     · refine J.cond_true h19 ?_
       refine J.sr ?_
       refine JL.as (.int .i64 0) ?_
       refine JL.as (.int .i64 0) ?_
       refine JL.as (.int .i64 2) ?_
       refine JL.es [(4, .int .i64 0), (5, .int .i64 0), (6, .int .i64 2)] ?_
       refine JQ.mask [] [false, false, false, false] ?_
       refine J.ret ?_
       refine JQ.then_ret ?_
       obtain rfl := Option.some.inj H0
       exact JQ.done' (rs := [.tmp 4, .tmp 5, .tmp 6]) (vs := [.int .i64 0, .int .i64 0, .int .i64 2]) [] (.inr rfl) ⟨by kernel_rfl, by kernel_rfl, by kernel_rfl, trivial⟩ (fun _ h => Heap.to h) ⟨rfl, rfl⟩
     · refine J.cond_false h19 ?_
       refine J.skip ?_
       refine JQ.ts [(1, .int .i64 lag11), (2, .pointer (some ⟨b12, 0, none⟩)), (8, .int .i64 most16)] ?_
       refine J.seq ?_
       refine J.draw ?_
       refine QL.pur (.pointer (some ⟨b12, 0, none⟩)) (some 27) ?_
       refine QL.val (.slice Aa2 a1.Sums.length c3) (some 28) (yields_load_box 0 0 (holds_box b12 25 [.slice Aa2 a1.Sums.length c3, .slice Aa5 a1.Ns.length c6, .slice Aa8 a1.Spans.length c9]) tyAgg_22) ?_
       refine QL.mv (.int .i64 lag11) ?_
       refine QL.mv (.int .i64 most16) ?_
       refine QL.pur (.int .i64 (w64 (lag11 + most16))) (some 31) ?_
       obtain ⟨⟨h20, h21⟩, H0⟩ := ite_must H0
       refine QL.ixAddr 1 2 c3 .i64 (elems_rd Aa2 c3 fl_Count.kd a1.Sums true) Try.underlying22 tySize_49 h20 h21 fun g22 o23 hA => ?_
       subst hA
       refine QL.val (mv_49 (ix a1.Sums (w64 (lag11 + most16)))) (some 33) (gives_loadEl (f := fl_Count) 1 0 (w64 (lag11 + most16)) (elems_rd (some ⟨g22, o23, none⟩) c3 fl_Count.kd a1.Sums true) h20 h21 tySize_49 (.inl ⟨tyAgg_49, rfl⟩)) ?_
       refine QL.pur (.agg #[.int .i64 ((ix a1.Sums (w64 (lag11 + most16))).Hi), .int .i64 ((ix a1.Sums (w64 (lag11 + most16))).Lo)]) (some 34) ?_
       obtain ⟨t24, hc25, H0⟩ := bind_some H0
       refine QL.call [] [] (accum_wide_value.ok (⟨(ix a1.Sums (w64 (lag11 + most16)))⟩ : Wide) _ hc25) trivial ?_
       refine QL.pur (.pointer (some ⟨b12, 1, none⟩)) (some 36) ?_
       refine QL.val (.slice Aa5 a1.Ns.length c6) (some 37) (yields_load_box 0 1 (holds_box b12 25 [.slice (some ⟨g22, o23, none⟩) a1.Sums.length c3, .slice Aa5 a1.Ns.length c6, .slice Aa8 a1.Spans.length c9]) tyAgg_22) ?_
       refine QL.mv (.int .i64 lag11) ?_
       refine QL.mv (.int .i64 most16) ?_
       refine QL.pur (.int .i64 (w64 (lag11 + most16))) (some 40) ?_
       obtain ⟨⟨h26, h27⟩, H0⟩ := ite_must H0
       refine QL.ixAddr 2 2 c6 .i64 (elems_rd Aa5 c6 fl_Count.kd a1.Ns true) Try.underlying22 tySize_49 h26 h27 fun g28 o29 hA => ?_
       subst hA
       refine QL.val (mv_49 (ix a1.Ns (w64 (lag11 + most16)))) (some 42) (gives_loadEl (f := fl_Count) 2 0 (w64 (lag11 + most16)) (elems_rd (some ⟨g28, o29, none⟩) c6 fl_Count.kd a1.Ns true) h26 h27 tySize_49 (.inl ⟨tyAgg_49, rfl⟩)) ?_
       refine QL.pur (.agg #[.int .i64 ((ix a1.Ns (w64 (lag11 + most16))).Hi), .int .i64 ((ix a1.Ns (w64 (lag11 + most16))).Lo)]) (some 43) ?_
       obtain ⟨t30, hc31, H0⟩ := bind_some H0
       refine QL.call [] [] (accum_wide_value.ok (⟨(ix a1.Ns (w64 (lag11 + most16)))⟩ : Wide) _ hc31) trivial ?_
       refine QL.as (.int .i64 t24) ?_
       refine QL.as (.int .i64 t30) ?_
       refine QL.as (.int .i64 0) ?_
       refine QL.nil ?_
       refine JA.nil ?_
       refine JQ.ts [(4, .int .i64 t24), (5, .int .i64 t30), (6, .int .i64 0)] ?_
       refine JQ.mask [] [false, false, false, false] ?_
       refine J.ret ?_
       obtain rfl := Option.some.inj H0
       exact JQ.done' (rs := [.tmp 4, .tmp 5, .tmp 6]) (vs := [.int .i64 t24, .int .i64 t30, .int .i64 0]) [] (.inr rfl) ⟨by kernel_rfl, by kernel_rfl, by kernel_rfl, trivial⟩ (fun _ h => Heap.to h) ⟨rfl, rfl⟩

theorem ref18_Value.ok (a1 : Acc) (Aa2 : Option Addr) (c3 : Nat) (Aa5 : Option Addr) (c6 : Nat) (Aa8 : Option Addr) (c9 : Nat) (lag11 : Int) (r : (Int × Int × Int)) (H0 : ref18_Value.f a1 lag11 = some r) :
    Does Try.prog 12 [.agg #[.slice Aa2 a1.Sums.length c3, .slice Aa5 a1.Ns.length c6, .slice Aa8 a1.Spans.length c9], .int .i64 lag11].toArray [At.rd Aa2 c3 fl_Count.kd a1.Sums true, At.rd Aa5 c6 fl_Count.kd a1.Ns true, At.rd Aa8 c9 fl_Gap.kd a1.Spans true] [] false (fun v Δ => v = .tuple #[.int .i64 r.1, .int .i64 r.2.1, .int .i64 r.2.2] ∧ Δ = []) := by
 refine Does.body (vs := [.agg #[.slice Aa2 a1.Sums.length c3, .slice Aa5 a1.Ns.length c6, .slice Aa8 a1.Spans.length c9], .int .i64 lag11]) Try.func12 rfl ⟨.inl rfl, .inl rfl, .inl rfl, trivial⟩ trivial fun w S => ?_
 unfold ref18_Value.f at H0
 refine J.sr ?_
 refine JL.box [.slice Aa2 a1.Sums.length c3, .slice Aa5 a1.Ns.length c6, .slice Aa8 a1.Spans.length c9] fun b12 => ?_
 refine JL.as (.int .i64 0) ?_
 refine JL.as (.int .i64 0) ?_
 refine JL.as (.int .i64 0) ?_
 refine JL.es [(1, .int .i64 lag11), (2, .pointer (some ⟨b12, 0, none⟩))] ?_
 refine J.seq ?_
 refine J.sr ?_
 refine JL.val (.agg #[.slice Aa2 a1.Sums.length c3, .slice Aa5 a1.Ns.length c6, .slice Aa8 a1.Spans.length c9]) (some 8) (yields_load_boxes 3 0 [.slice Aa2 a1.Sums.length c3, .slice Aa5 a1.Ns.length c6, .slice Aa8 a1.Spans.length c9] (holds_box b12 25 [.slice Aa2 a1.Sums.length c3, .slice Aa5 a1.Ns.length c6, .slice Aa8 a1.Spans.length c9]) tyAgg_25 tySize_25) ?_
 obtain ⟨t13, hc14, H0⟩ := bind_some H0
 refine JL.call [] [] [] (ref18_Check.ok a1 Aa2 c3 Aa5 c6 Aa8 c9 _ hc14) ⟨pre_any 0 (view_rd Aa2 c3 fl_Count.kd a1.Sums true true), ⟨pre_any 1 (view_rd Aa5 c6 fl_Count.kd a1.Ns true true), ⟨pre_any 2 (view_rd Aa8 c9 fl_Gap.kd a1.Spans true true), trivial⟩⟩⟩ ?_
 rintro _ _ ⟨rfl, rfl⟩
 refine JL.pur (.bool (!decide (t13 = 0))) (some 10) ?_
 refine JL.es [(1, .int .i64 lag11), (2, .pointer (some ⟨b12, 0, none⟩)), (10, .bool (!decide (t13 = 0)))] ?_
 rcases ite_cases H0 with ⟨h15, H0⟩ | ⟨h15, H0⟩
 · refine J.cond_true h15 ?_
   refine J.sr ?_
   refine JL.val (.agg #[.slice Aa2 a1.Sums.length c3, .slice Aa5 a1.Ns.length c6, .slice Aa8 a1.Spans.length c9]) (some 11) (yields_load_boxes 3 0 [.slice Aa2 a1.Sums.length c3, .slice Aa5 a1.Ns.length c6, .slice Aa8 a1.Spans.length c9] (holds_box b12 25 [.slice Aa2 a1.Sums.length c3, .slice Aa5 a1.Ns.length c6, .slice Aa8 a1.Spans.length c9]) tyAgg_25 tySize_25) ?_
   obtain ⟨t16, hc17, H0⟩ := bind_some H0
   refine JL.call [] [] [] (ref18_Check.ok a1 Aa2 c3 Aa5 c6 Aa8 c9 _ hc17) ⟨pre_any 0 (view_rd Aa2 c3 fl_Count.kd a1.Sums true true), ⟨pre_any 1 (view_rd Aa5 c6 fl_Count.kd a1.Ns true true), ⟨pre_any 2 (view_rd Aa8 c9 fl_Gap.kd a1.Spans true true), trivial⟩⟩⟩ ?_
   rintro _ _ ⟨rfl, rfl⟩
   refine JL.as (.int .i64 0) ?_
   refine JL.as (.int .i64 0) ?_
   refine JL.as (.int .i64 t16) ?_
   refine JL.es [(4, .int .i64 0), (5, .int .i64 0), (6, .int .i64 t16)] ?_
   refine JQ.mask [] [false, false, false, false] ?_
   refine J.ret ?_
   refine JQ.then_ret ?_
   obtain rfl := Option.some.inj H0
   exact JQ.done' (rs := [.tmp 4, .tmp 5, .tmp 6]) (vs := [.int .i64 0, .int .i64 0, .int .i64 t16]) [] (.inr rfl) ⟨by kernel_rfl, by kernel_rfl, by kernel_rfl, trivial⟩ (fun _ h => Heap.to h) ⟨rfl, rfl⟩
 · refine J.cond_false h15 ?_
   refine J.skip ?_
   refine JQ.ts [(1, .int .i64 lag11), (2, .pointer (some ⟨b12, 0, none⟩))] ?_
   refine J.sr ?_
   refine JL.pur (.pointer (some ⟨b12, 0, none⟩)) (some 13) ?_
   refine JL.val (.slice Aa2 a1.Sums.length c3) (some 14) (yields_load_box 3 0 (holds_box b12 25 [.slice Aa2 a1.Sums.length c3, .slice Aa5 a1.Ns.length c6, .slice Aa8 a1.Spans.length c9]) tyAgg_22) ?_
   refine JL.pur (.int .i64 (a1.Sums.length : Int)) (some 15) ?_
   refine JL.pur (.int .i64 (w64 (Int.tdiv (a1.Sums.length : Int) 2))) (some 16) ?_
   obtain ⟨m18, em18, H0⟩ := lt_some H0
   refine JL.as' (k := .i64) m18 em18 ?_
   refine JL.es [(1, .int .i64 lag11), (2, .pointer (some ⟨b12, 0, none⟩)), (7, .int .i64 m18)] ?_
   refine J.seq ?_
   refine J.join (T := Bool) (G := Unit) (fun t => ref18_Value.k1 a1 lag11 m18 t = some r) (fun t g => [(1, .int .i64 lag11), (2, .pointer (some ⟨b12, 0, none⟩)), (7, .int .i64 m18), (25, .bool t)]) (fun t g => [At.box b12 25 [.slice Aa2 a1.Sums.length c3, .slice Aa5 a1.Ns.length c6, .slice Aa8 a1.Spans.length c9], At.rd Aa2 c3 fl_Count.kd a1.Sums true, At.rd Aa5 c6 fl_Count.kd a1.Ns true, At.rd Aa8 c9 fl_Gap.kd a1.Spans true]) ?_ ?_
   · refine J.region ?_
     refine JL.mv (.int .i64 lag11) ?_
     refine JL.mv (.int .i64 m18) ?_
     refine JL.pur (.int .i64 (w64 (0 - m18))) (some 19) ?_
     refine JL.pur (.bool (decide (lag11 < w64 (0 - m18)))) (some 20) ?_
     refine JL.mv (.bool (decide (lag11 < w64 (0 - m18)))) ?_
     rcases ite_cases H0 with ⟨h34, H0⟩ | ⟨h34, H0⟩
     · refine JL.off 4 21 false (some 22) h34 ?_
       refine JL.off 4 21 false (some 23) h34 ?_
       refine JL.off 4 21 false (some 24) h34 ?_
       refine JL.val (.bool true) (some 25) (gives_pickT h34) ?_
       refine JL.en ?_
       exact JQ.meet true () H0 (fun _ h => Heap.to (Heap.pick [3, 0, 1, 2] (by decide) h))
     · refine JL.on 4 21 h34 ?_
       refine JL.mv (.int .i64 lag11) ?_
       refine JL.on 4 21 h34 ?_
       refine JL.mv (.int .i64 m18) ?_
       refine JL.on 4 21 h34 ?_
       refine JL.pur (.bool (decide (m18 < lag11))) (some 24) ?_
       refine JL.val (.bool (decide (m18 < lag11))) (some 25) (gives_pickF h34) ?_
       refine JL.en ?_
       exact JQ.meet (decide (m18 < lag11)) () H0 (fun _ h => Heap.to (Heap.pick [3, 0, 1, 2] (by decide) h))
   · clear H0
     rintro x20 ⟨⟩ H0
     replace H0 : ref18_Value.k1 a1 lag11 m18 x20 = some r := H0
     unfold ref18_Value.k1 at H0
     refine JQ.sub [(1, .int .i64 lag11), (2, .pointer (some ⟨b12, 0, none⟩)), (7, .int .i64 m18), (25, .bool x20)] ?_
     refine JQ.turn (Δ' := [At.box b12 25 [.slice Aa2 a1.Sums.length c3, .slice Aa5 a1.Ns.length c6, .slice Aa8 a1.Spans.length c9], At.rd Aa2 c3 fl_Count.kd a1.Sums true, At.rd Aa5 c6 fl_Count.kd a1.Ns true, At.rd Aa8 c9 fl_Gap.kd a1.Spans true]) (fun _ h => h.to) ?_
     rcases ite_cases H0 with ⟨h21, H0⟩ | ⟨h21, H0⟩
     · refine J.cond_true h21 ?_
       refine J.sr ?_
       refine JL.as (.int .i64 0) ?_
       refine JL.as (.int .i64 0) ?_
       refine JL.as (.int .i64 2) ?_
       refine JL.es [(4, .int .i64 0), (5, .int .i64 0), (6, .int .i64 2)] ?_
       refine JQ.mask [] [false, false, false, false] ?_
       refine J.ret ?_
       refine JQ.then_ret ?_
       obtain rfl := Option.some.inj H0
       exact JQ.done' (rs := [.tmp 4, .tmp 5, .tmp 6]) (vs := [.int .i64 0, .int .i64 0, .int .i64 2]) [] (.inr rfl) ⟨by kernel_rfl, by kernel_rfl, by kernel_rfl, trivial⟩ (fun _ h => Heap.to h) ⟨rfl, rfl⟩
     · refine J.cond_false h21 ?_
       refine J.skip ?_
       refine JQ.ts [(1, .int .i64 lag11), (2, .pointer (some ⟨b12, 0, none⟩)), (7, .int .i64 m18)] ?_
       refine J.seq ?_
       refine J.draw ?_
       refine QL.pur (.pointer (some ⟨b12, 0, none⟩)) (some 26) ?_
       refine QL.val (.slice Aa2 a1.Sums.length c3) (some 27) (yields_load_box 0 0 (holds_box b12 25 [.slice Aa2 a1.Sums.length c3, .slice Aa5 a1.Ns.length c6, .slice Aa8 a1.Spans.length c9]) tyAgg_22) ?_
       refine QL.mv (.int .i64 m18) ?_
       refine QL.mv (.int .i64 lag11) ?_
       refine QL.pur (.int .i64 (w64 (m18 + lag11))) (some 30) ?_
       obtain ⟨⟨h22, h23⟩, H0⟩ := ite_must H0
       refine QL.ixAddr 1 2 c3 .i64 (elems_rd Aa2 c3 fl_Count.kd a1.Sums true) Try.underlying22 tySize_49 h22 h23 fun g24 o25 hA => ?_
       subst hA
       refine QL.val (mv_49 (ix a1.Sums (w64 (m18 + lag11)))) (some 32) (gives_loadEl (f := fl_Count) 1 0 (w64 (m18 + lag11)) (elems_rd (some ⟨g24, o25, none⟩) c3 fl_Count.kd a1.Sums true) h22 h23 tySize_49 (.inl ⟨tyAgg_49, rfl⟩)) ?_
       obtain ⟨t26, hc27, H0⟩ := bind_some H0
       refine QL.call [] [] (ref18_Worth.ok (ix a1.Sums (w64 (m18 + lag11))) _ hc27) trivial ?_
       refine QL.pur (.pointer (some ⟨b12, 1, none⟩)) (some 34) ?_
       refine QL.val (.slice Aa5 a1.Ns.length c6) (some 35) (yields_load_box 0 1 (holds_box b12 25 [.slice (some ⟨g24, o25, none⟩) a1.Sums.length c3, .slice Aa5 a1.Ns.length c6, .slice Aa8 a1.Spans.length c9]) tyAgg_22) ?_
       refine QL.mv (.int .i64 m18) ?_
       refine QL.mv (.int .i64 lag11) ?_
       refine QL.pur (.int .i64 (w64 (m18 + lag11))) (some 38) ?_
       obtain ⟨⟨h28, h29⟩, H0⟩ := ite_must H0
       refine QL.ixAddr 2 2 c6 .i64 (elems_rd Aa5 c6 fl_Count.kd a1.Ns true) Try.underlying22 tySize_49 h28 h29 fun g30 o31 hA => ?_
       subst hA
       refine QL.val (mv_49 (ix a1.Ns (w64 (m18 + lag11)))) (some 40) (gives_loadEl (f := fl_Count) 2 0 (w64 (m18 + lag11)) (elems_rd (some ⟨g30, o31, none⟩) c6 fl_Count.kd a1.Ns true) h28 h29 tySize_49 (.inl ⟨tyAgg_49, rfl⟩)) ?_
       obtain ⟨t32, hc33, H0⟩ := bind_some H0
       refine QL.call [] [] (ref18_Worth.ok (ix a1.Ns (w64 (m18 + lag11))) _ hc33) trivial ?_
       refine QL.as (.int .i64 t26) ?_
       refine QL.as (.int .i64 t32) ?_
       refine QL.as (.int .i64 0) ?_
       refine QL.nil ?_
       refine JA.nil ?_
       refine JQ.ts [(4, .int .i64 t26), (5, .int .i64 t32), (6, .int .i64 0)] ?_
       refine JQ.mask [] [false, false, false, false] ?_
       refine J.ret ?_
       obtain rfl := Option.some.inj H0
       exact JQ.done' (rs := [.tmp 4, .tmp 5, .tmp 6]) (vs := [.int .i64 t26, .int .i64 t32, .int .i64 0]) [] (.inr rfl) ⟨by kernel_rfl, by kernel_rfl, by kernel_rfl, trivial⟩ (fun _ h => Heap.to h) ⟨rfl, rfl⟩

theorem frac_abs.ok (n1 : Int) (r : Int) (H0 : frac_abs.f n1 = some r) :
    Does Try.prog 50 [.int .i64 n1].toArray [] [] false (fun v Δ => v = .int .u64 r ∧ Δ = []) := by
 refine Does.body (vs := [.int .i64 n1]) Try.func50 rfl trivial trivial fun w S => ?_
 unfold frac_abs.f at H0
 refine J.sr ?_
 refine JL.as (.int .u64 0) ?_
 refine JL.es [(0, .int .i64 n1)] ?_
 refine J.seq ?_
 refine J.sr ?_
 refine JL.mv (.int .i64 n1) ?_
 refine JL.pur (.bool (decide (n1 < 0))) (some 4) ?_
 refine JL.es [(0, .int .i64 n1), (4, .bool (decide (n1 < 0)))] ?_
 rcases ite_cases H0 with ⟨h2, H0⟩ | ⟨h2, H0⟩
 · refine J.cond_true h2 ?_
   refine J.sr ?_
   refine JL.mv (.int .i64 n1) ?_
   refine JL.pur (.int .u64 (wu64 n1)) (some 6) ?_
   refine JL.pur (.int .u64 (wu64 (0 - wu64 n1))) (some 7) ?_
   refine JL.as (.int .u64 (wu64 (0 - wu64 n1))) ?_
   refine JL.es [(2, .int .u64 (wu64 (0 - wu64 n1)))] ?_
   refine J.ret ?_
   refine JQ.then_ret ?_
   obtain rfl := Option.some.inj H0
   exact JQ.done' (rs := [.tmp 2]) (vs := [.int .u64 (wu64 (0 - wu64 n1))]) [] (.inr rfl) ⟨by kernel_rfl, trivial⟩ (fun _ h => Heap.to h) ⟨rfl, rfl⟩
 · refine J.cond_false h2 ?_
   refine J.skip ?_
   refine JQ.ts [(0, .int .i64 n1)] ?_
   refine J.sr ?_
   refine JL.mv (.int .i64 n1) ?_
   refine JL.pur (.int .u64 (wu64 n1)) (some 9) ?_
   refine JL.as (.int .u64 (wu64 n1)) ?_
   refine JL.es [(2, .int .u64 (wu64 n1))] ?_
   refine J.ret ?_
   obtain rfl := Option.some.inj H0
   exact JQ.done' (rs := [.tmp 2]) (vs := [.int .u64 (wu64 n1)]) [] (.inr rfl) ⟨by kernel_rfl, trivial⟩ (fun _ h => Heap.to h) ⟨rfl, rfl⟩

theorem frac_gcd.ok (a1 : Int) (b2 : Int) (r : Int) (H0 : frac_gcd.f a1 b2 = some r) :
    Does Try.prog 51 [.int .u64 a1, .int .u64 b2].toArray [] [] false (fun v Δ => v = .int .u64 r ∧ Δ = []) := by
 refine Does.body (vs := [.int .u64 a1, .int .u64 b2]) Try.func51 rfl trivial trivial fun w S => ?_
 unfold frac_gcd.f at H0
 refine J.sr ?_
 refine JL.as (.int .u64 0) ?_
 refine JL.es [(0, .int .u64 a1), (1, .int .u64 b2)] ?_
 refine J.seq ?_
 obtain ⟨o1, hit, H0⟩ := bind_some H0
 refine J.loop (σ := (Int × Int)) (τ := Int) (G := Unit) (G' := Unit) _ o1 (fun s g => [(0, .int .u64 s.1), (1, .int .u64 s.2)]) (fun s g => []) (fun t => frac_gcd.k2 t = some r) (fun t g => [(0, .int .u64 t)]) (fun t g => []) (a1, b2) () hit (fun _ h => Heap.to h) ?_ ?_
 · clear hit
   rintro ⟨a11, b12⟩ ⟨⟩ st1 H1 hb1 hr1
   replace H1 : frac_gcd.s1 a11 b12 = some st1 := H1
   unfold frac_gcd.s1 at H1
   refine JQ.sub [(0, .int .u64 a11), (1, .int .u64 b12)] ?_
   refine JQ.turn (Δ' := []) (fun _ h => h.to) ?_
   refine J.seq ?_
   refine J.sr ?_
   refine JL.mv (.int .u64 b12) ?_
   refine JL.pur (.bool (decide (0 < b12))) (some 6) ?_
   refine JL.es [(0, .int .u64 a11), (1, .int .u64 b12), (6, .bool (decide (0 < b12)))] ?_
   rcases ite_cases H1 with ⟨h17, H1⟩ | ⟨h17, H1⟩
   · refine J.cond_true h17 ?_
     refine J.skip ?_
     refine JQ.ts [(0, .int .u64 a11), (1, .int .u64 b12)] ?_
     refine J.block ?_
     refine J.draw ?_
     refine QL.mv (.int .u64 b12) ?_
     refine QL.mv (.int .u64 a11) ?_
     refine QL.mv (.int .u64 b12) ?_
     obtain ⟨h18, H1⟩ := ite_must H1
     refine QL.val (.int .u64 (Int.tmod a11 b12)) (some 10) (gives_rem .u64 a11 b12 h18) ?_
     refine QL.as (.int .u64 b12) ?_
     obtain ⟨b19, eb19, H1⟩ := lt_some H1
     refine QL.as' (k := .u64) b19 eb19 ?_
     refine QL.nil ?_
     refine JA.nil ?_
     refine JQ.blk_normal ?_
     refine JQ.then_normal ?_
     exact JQ.again (b12, b19) () (Option.some.inj H1).symm (fun _ h => Heap.to h)
   · refine J.cond_false h17 ?_
     refine J.exit ?_
     refine JQ.then_exit ?_
     refine JQ.then_exit ?_
     refine JQ.blk_exit ?_
     rw [hb1 _ (Option.some.inj H1).symm, fin_brk] at H0
     exact JQ.met a11 () H0 (fun _ h => Heap.to h)
 · clear hit H0
   rintro a16 ⟨⟩ H0
   replace H0 : frac_gcd.k2 a16 = some r := H0
   unfold frac_gcd.k2 at H0
   refine JQ.sub [(0, .int .u64 a16)] ?_
   refine JQ.turn (Δ' := []) (fun _ h => h.to) ?_
   refine JQ.then_normal ?_
   refine J.sr ?_
   refine JL.mv (.int .u64 a16) ?_
   refine JL.as (.int .u64 a16) ?_
   refine JL.es [(4, .int .u64 a16)] ?_
   refine J.ret ?_
   obtain rfl := Option.some.inj H0
   exact JQ.done' (rs := [.tmp 4]) (vs := [.int .u64 a16]) [] (.inr rfl) ⟨by kernel_rfl, trivial⟩ (fun _ h => Heap.to h) ⟨rfl, rfl⟩

theorem frac_made.ok (minus1 : Bool) (num2 : Int) (den3 : Int) (r : (Frac × Int)) (H0 : frac_made.f minus1 num2 den3 = some r) :
    Does Try.prog 52 [.bool minus1, .int .u64 num2, .int .u64 den3].toArray [] [] false (fun v Δ => v = .tuple #[mv_37 r.1, .int .i64 r.2] ∧ Δ = []) := by
 refine Does.body (vs := [.bool minus1, .int .u64 num2, .int .u64 den3]) Try.func52 rfl trivial trivial fun w S => ?_
 unfold frac_made.f at H0
 refine J.sr ?_
 refine JL.alloc (cl_37 zv_37) fun b4 => ?_
 refine JL.as (.int .i64 0) ?_
 refine JL.es [(0, .bool minus1), (1, .int .u64 num2), (2, .int .u64 den3), (6, .pointer (some ⟨b4, 0, none⟩))] ?_
 refine J.seq ?_
 refine J.join (T := Bool) (G := Unit) (fun t => frac_made.k1 minus1 num2 den3 t = some r) (fun t g => [(0, .bool minus1), (1, .int .u64 num2), (2, .int .u64 den3), (6, .pointer (some ⟨b4, 0, none⟩)), (14, .bool t)]) (fun t g => [At.box b4 37 (cl_37 zv_37)]) ?_ ?_
 · refine J.region ?_
   refine JL.mv (.int .u64 num2) ?_
   refine JL.pur (.bool (decide (1000000000000000000 < num2))) (some 10) ?_
   refine JL.mv (.bool (decide (1000000000000000000 < num2))) ?_
   rcases ite_cases H0 with ⟨h12, H0⟩ | ⟨h12, H0⟩
   · refine JL.off 2 11 false (some 12) h12 ?_
     refine JL.off 2 11 false (some 13) h12 ?_
     refine JL.val (.bool true) (some 14) (gives_pickT h12) ?_
     refine JL.en ?_
     exact JQ.meet true () H0 (fun _ h => Heap.to h)
   · refine JL.on 2 11 h12 ?_
     refine JL.mv (.int .u64 den3) ?_
     refine JL.on 2 11 h12 ?_
     refine JL.pur (.bool (decide (1000000000000000000 < den3))) (some 13) ?_
     refine JL.val (.bool (decide (1000000000000000000 < den3))) (some 14) (gives_pickF h12) ?_
     refine JL.en ?_
     exact JQ.meet (decide (1000000000000000000 < den3)) () H0 (fun _ h => Heap.to h)
 · clear H0
   rintro x6 ⟨⟩ H0
   replace H0 : frac_made.k1 minus1 num2 den3 x6 = some r := H0
   unfold frac_made.k1 at H0
   refine JQ.sub [(0, .bool minus1), (1, .int .u64 num2), (2, .int .u64 den3), (6, .pointer (some ⟨b4, 0, none⟩)), (14, .bool x6)] ?_
   refine JQ.turn (Δ' := [At.box b4 37 (cl_37 zv_37)]) (fun _ h => h.to) ?_
   rcases ite_cases H0 with ⟨h7, H0⟩ | ⟨h7, H0⟩
   · refine J.cond_true h7 ?_
     refine J.sr ?_
     refine JL.pur (mv_37 zv_37) (some 15) ?_
     refine JL.store 0 b4 0 37 (cl_37 zv_37) (cl_37 zv_37) tySize_37 ?_
     refine JL.as (.int .i64 16) ?_
     refine JL.es [(6, .pointer (some ⟨b4, 0, none⟩)), (7, .int .i64 16)] ?_
     refine J.ret ?_
     refine JQ.then_ret ?_
     obtain rfl := Option.some.inj H0
     exact JQ.done' (rs := [.cell 6 37, .tmp 7]) (vs := [.agg #[.int .i64 0, .int .i64 0], .int .i64 16]) [] (.inr rfl) ⟨⟨b4, 0, _, _, by kernel_rfl, by kernel_rfl, holds_box b4 37 (cl_37 zv_37), .inl ⟨tyAgg_37, tySize_37, rfl⟩⟩, by kernel_rfl, trivial⟩ (fun _ h => Heap.to (Heap.pick [] (by decide) h)) ⟨rfl, rfl⟩
   · refine J.cond_false h7 ?_
     refine J.skip ?_
     refine JQ.ts [(0, .bool minus1), (1, .int .u64 num2), (2, .int .u64 den3), (6, .pointer (some ⟨b4, 0, none⟩))] ?_
     refine J.sr ?_
     refine JL.mv (.int .u64 num2) ?_
     refine JL.pur (.int .i64 (w64 num2)) (some 17) ?_
     refine JL.mv (.int .u64 den3) ?_
     refine JL.pur (.int .i64 (w64 den3)) (some 19) ?_
     refine JL.pur (.agg #[.int .i64 (w64 num2), .int .i64 (w64 den3)]) (some 20) ?_
     refine JL.alloc (cl_37 zv_37) fun b8 => ?_
     refine JL.store 1 b8 0 37 (cl_37 zv_37) [.int .i64 (w64 num2), .int .i64 (w64 den3)] tySize_37 ?_
     refine JL.es [(0, .bool minus1), (6, .pointer (some ⟨b4, 0, none⟩)), (8, .pointer (some ⟨b8, 0, none⟩))] ?_
     refine J.join (T := Frac) (G := Unit) (fun t => frac_made.k2 t = some r) (fun t g => [(6, .pointer (some ⟨b4, 0, none⟩)), (8, .pointer (some ⟨b8, 0, none⟩))]) (fun t g => [At.box b4 37 (cl_37 zv_37), At.box b8 37 (cl_37 t)]) ?_ ?_
     · refine J.sr ?_
       refine JL.mv (.bool minus1) ?_
       refine JL.es [(6, .pointer (some ⟨b4, 0, none⟩)), (8, .pointer (some ⟨b8, 0, none⟩)), (21, .bool minus1)] ?_
       rcases ite_cases H0 with ⟨h11, H0⟩ | ⟨h11, H0⟩
       · refine J.cond_true h11 ?_
         refine J.region ?_
         refine JL.pur (.pointer (some ⟨b8, 0, none⟩)) (some 22) ?_
         refine JL.val (.int .i64 (w64 num2)) (some 23) (yields_load_box 1 0 (holds_box b8 37 [.int .i64 (w64 num2), .int .i64 (w64 den3)]) tyAgg_2) ?_
         refine JL.pur (.int .i64 (w64 (0 - w64 num2))) (some 24) ?_
         refine JL.pur (.pointer (some ⟨b8, 0, none⟩)) (some 25) ?_
         refine JL.store 1 b8 0 37 [.int .i64 (w64 num2), .int .i64 (w64 den3)] [.int .i64 (w64 (0 - w64 num2)), .int .i64 (w64 den3)] tySize_2 ?_
         refine JL.en ?_
         exact JQ.meet (⟨(w64 (0 - w64 num2)), (w64 den3)⟩ : Frac) () H0 (fun _ h => Heap.to h)
       · refine J.cond_false h11 ?_
         refine J.skip ?_
         refine JQ.then_normal ?_
         exact JQ.meet (⟨(w64 num2), (w64 den3)⟩ : Frac) () H0 (fun _ h => Heap.to h)
     · clear H0
       rintro a10 ⟨⟩ H0
       replace H0 : frac_made.k2 a10 = some r := H0
       unfold frac_made.k2 at H0
       refine JQ.sub [(6, .pointer (some ⟨b4, 0, none⟩)), (8, .pointer (some ⟨b8, 0, none⟩))] ?_
       refine JQ.turn (Δ' := [At.box b4 37 (cl_37 zv_37), At.box b8 37 (cl_37 a10)]) (fun _ h => h.to) ?_
       refine J.sr ?_
       refine JL.val (mv_37 a10) (some 26) (yields_load_boxes 1 0 (cl_37 a10) (holds_box b8 37 (cl_37 a10)) tyAgg_37 tySize_37) ?_
       refine JL.store 0 b4 0 37 (cl_37 zv_37) (cl_37 a10) tySize_37 ?_
       refine JL.as (.int .i64 0) ?_
       refine JL.es [(6, .pointer (some ⟨b4, 0, none⟩)), (7, .int .i64 0)] ?_
       refine JQ.mask [At.box b4 37 (cl_37 a10)] [true, false] ?_
       refine J.ret ?_
       obtain rfl := Option.some.inj H0
       exact JQ.done' (rs := [.cell 6 37, .tmp 7]) (vs := [.agg #[.int .i64 a10.Num, .int .i64 a10.Den], .int .i64 0]) [] (.inr rfl) ⟨⟨b4, 0, _, _, by kernel_rfl, by kernel_rfl, holds_box b4 37 (cl_37 a10), .inl ⟨tyAgg_37, tySize_37, rfl⟩⟩, by kernel_rfl, trivial⟩ (fun _ h => Heap.to (Heap.pick [] (by decide) h)) ⟨rfl, rfl⟩

theorem frac_Make.ok (num1 : Int) (den2 : Int) (r : (Frac × Int)) (H0 : frac_Make.f num1 den2 = some r) :
    Does Try.prog 33 [.int .i64 num1, .int .i64 den2].toArray [] [] false (fun v Δ => v = .tuple #[mv_37 r.1, .int .i64 r.2] ∧ Δ = []) := by
 refine Does.body (vs := [.int .i64 num1, .int .i64 den2]) Try.func33 rfl trivial trivial fun w S => ?_
 unfold frac_Make.f at H0
 refine J.sr ?_
 refine JL.alloc (cl_37 zv_37) fun b3 => ?_
 refine JL.as (.int .i64 0) ?_
 refine JL.es [(0, .int .i64 num1), (1, .int .i64 den2), (4, .pointer (some ⟨b3, 0, none⟩))] ?_
 refine J.seq ?_
 refine J.sr ?_
 refine JL.mv (.int .i64 den2) ?_
 refine JL.pur (.bool (decide (den2 = 0))) (some 10) ?_
 refine JL.es [(0, .int .i64 num1), (1, .int .i64 den2), (4, .pointer (some ⟨b3, 0, none⟩)), (10, .bool (decide (den2 = 0)))] ?_
 rcases ite_cases H0 with ⟨h4, H0⟩ | ⟨h4, H0⟩
 · refine J.cond_true h4 ?_
   refine J.sr ?_
   refine JL.pur (mv_37 zv_37) (some 11) ?_
   refine JL.store 0 b3 0 37 (cl_37 zv_37) (cl_37 zv_37) tySize_37 ?_
   refine JL.as (.int .i64 18) ?_
   refine JL.es [(4, .pointer (some ⟨b3, 0, none⟩)), (5, .int .i64 18)] ?_
   refine J.ret ?_
   refine JQ.then_ret ?_
   obtain rfl := Option.some.inj H0
   exact JQ.done' (rs := [.cell 4 37, .tmp 5]) (vs := [.agg #[.int .i64 0, .int .i64 0], .int .i64 18]) [] (.inr rfl) ⟨⟨b3, 0, _, _, by kernel_rfl, by kernel_rfl, holds_box b3 37 (cl_37 zv_37), .inl ⟨tyAgg_37, tySize_37, rfl⟩⟩, by kernel_rfl, trivial⟩ (fun _ h => Heap.to (Heap.pick [] (by decide) h)) ⟨rfl, rfl⟩
 · refine J.cond_false h4 ?_
   refine J.skip ?_
   refine JQ.ts [(0, .int .i64 num1), (1, .int .i64 den2), (4, .pointer (some ⟨b3, 0, none⟩))] ?_
   refine J.sr ?_
   refine JL.mv (.int .i64 num1) ?_
   obtain ⟨t5, hc6, H0⟩ := bind_some H0
   refine JL.call [] [] [] (frac_abs.ok num1 _ hc6) trivial ?_
   rintro _ _ ⟨rfl, rfl⟩
   refine JL.mv (.int .i64 den2) ?_
   obtain ⟨t7, hc8, H0⟩ := bind_some H0
   refine JL.call [] [] [] (frac_abs.ok den2 _ hc8) trivial ?_
   rintro _ _ ⟨rfl, rfl⟩
   refine JL.as (.int .u64 t5) ?_
   refine JL.as (.int .u64 t7) ?_
   refine JL.es [(0, .int .i64 num1), (1, .int .i64 den2), (4, .pointer (some ⟨b3, 0, none⟩)), (6, .int .u64 t5), (7, .int .u64 t7)] ?_
   refine J.sr ?_
   refine JL.mv (.int .u64 t5) ?_
   refine JL.mv (.int .u64 t7) ?_
   obtain ⟨t9, hc10, H0⟩ := bind_some H0
   refine JL.call [] [] [] (frac_gcd.ok t5 t7 _ hc10) trivial ?_
   rintro _ _ ⟨rfl, rfl⟩
   refine JL.as (.int .u64 t9) ?_
   refine JL.es [(0, .int .i64 num1), (1, .int .i64 den2), (4, .pointer (some ⟨b3, 0, none⟩)), (6, .int .u64 t5), (7, .int .u64 t7), (8, .int .u64 t9)] ?_
   refine J.seq ?_
   refine J.drawT 14 ?_
   refine QL.mv (.int .i64 num1) ?_
   refine QL.pur (.bool (decide (num1 < 0))) (some 20) ?_
   refine QL.mv (.int .i64 den2) ?_
   refine QL.pur (.bool (decide (den2 < 0))) (some 22) ?_
   refine QL.pur (.bool (!((decide (num1 < 0)) == (decide (den2 < 0))))) (some 23) ?_
   refine QL.mv (.int .u64 t5) ?_
   refine QL.mv (.int .u64 t9) ?_
   obtain ⟨h11, H0⟩ := ite_must H0
   refine QL.val (.int .u64 (wu64 (Int.tdiv t5 t9))) (some 26) (gives_quo .u64 t5 t9 h11) ?_
   refine QL.mv (.int .u64 t7) ?_
   refine QL.mv (.int .u64 t9) ?_
   obtain ⟨h12, H0⟩ := ite_must H0
   refine QL.val (.int .u64 (wu64 (Int.tdiv t7 t9))) (some 29) (gives_quo .u64 t7 t9 h12) ?_
   obtain ⟨t13, hc14, H0⟩ := bind_some H0
   refine QL.call [] [] (frac_made.ok (!((decide (num1 < 0)) == (decide (den2 < 0)))) (wu64 (Int.tdiv t5 t9)) (wu64 (Int.tdiv t7 t9)) _ hc14) trivial ?_
   refine QL.pur (mv_37 t13.1) (some 31) ?_
   refine QL.pur (.int .i64 t13.2) (some 32) ?_
   refine QL.nil ?_
   refine JA.nil ?_
   refine JL.store 0 b3 0 37 (cl_37 zv_37) (cl_37 t13.1) tySize_37 ?_
   refine JL.as (.int .i64 t13.2) ?_
   refine JL.es [(4, .pointer (some ⟨b3, 0, none⟩)), (5, .int .i64 t13.2)] ?_
   refine J.ret ?_
   obtain rfl := Option.some.inj H0
   exact JQ.done' (rs := [.cell 4 37, .tmp 5]) (vs := [.agg #[.int .i64 t13.1.Num, .int .i64 t13.1.Den], .int .i64 t13.2]) [] (.inr rfl) ⟨⟨b3, 0, _, _, by kernel_rfl, by kernel_rfl, holds_box b3 37 (cl_37 t13.1), .inl ⟨tyAgg_37, tySize_37, rfl⟩⟩, by kernel_rfl, trivial⟩ (fun _ h => Heap.to (Heap.pick [] (by decide) h)) ⟨rfl, rfl⟩

theorem accum_Mean.ok (a1 : Acc) (Aa2 : Option Addr) (c3 : Nat) (Aa5 : Option Addr) (c6 : Nat) (Aa8 : Option Addr) (c9 : Nat) (lag11 : Int) (r : (Frac × Int)) (H0 : accum_Mean.f a1 lag11 = some r) :
    Does Try.prog 13 [.agg #[.slice Aa2 a1.Sums.length c3, .slice Aa5 a1.Ns.length c6, .slice Aa8 a1.Spans.length c9], .int .i64 lag11].toArray [At.rd Aa2 c3 fl_Count.kd a1.Sums true, At.rd Aa5 c6 fl_Count.kd a1.Ns true, At.rd Aa8 c9 fl_Gap.kd a1.Spans true] [] false (fun v Δ => v = .tuple #[mv_37 r.1, .int .i64 r.2] ∧ Δ = []) := by
 refine Does.body (vs := [.agg #[.slice Aa2 a1.Sums.length c3, .slice Aa5 a1.Ns.length c6, .slice Aa8 a1.Spans.length c9], .int .i64 lag11]) Try.func13 rfl ⟨.inl rfl, .inl rfl, .inl rfl, trivial⟩ trivial fun w S => ?_
 unfold accum_Mean.f at H0
 refine J.sr ?_
 refine JL.box [.slice Aa2 a1.Sums.length c3, .slice Aa5 a1.Ns.length c6, .slice Aa8 a1.Spans.length c9] fun b12 => ?_
 refine JL.alloc (cl_37 zv_37) fun b13 => ?_
 refine JL.as (.int .i64 0) ?_
 refine JL.es [(1, .int .i64 lag11), (2, .pointer (some ⟨b12, 0, none⟩)), (4, .pointer (some ⟨b13, 0, none⟩))] ?_
 refine J.sr ?_
 refine JL.val (.agg #[.slice Aa2 a1.Sums.length c3, .slice Aa5 a1.Ns.length c6, .slice Aa8 a1.Spans.length c9]) (some 10) (yields_load_boxes 3 0 [.slice Aa2 a1.Sums.length c3, .slice Aa5 a1.Ns.length c6, .slice Aa8 a1.Spans.length c9] (holds_box b12 25 [.slice Aa2 a1.Sums.length c3, .slice Aa5 a1.Ns.length c6, .slice Aa8 a1.Spans.length c9]) tyAgg_25 tySize_25) ?_
 refine JL.mv (.int .i64 lag11) ?_
 obtain ⟨t14, hc15, H0⟩ := bind_some H0
 refine JL.call [] [] [] (accum_Value.ok a1 Aa2 c3 Aa5 c6 Aa8 c9 lag11 _ hc15) ⟨pre_any 0 (view_rd Aa2 c3 fl_Count.kd a1.Sums true true), ⟨pre_any 1 (view_rd Aa5 c6 fl_Count.kd a1.Ns true true), ⟨pre_any 2 (view_rd Aa8 c9 fl_Gap.kd a1.Spans true true), trivial⟩⟩⟩ ?_
 rintro _ _ ⟨rfl, rfl⟩
 refine JL.mv (.tuple #[.int .i64 t14.1, .int .i64 t14.2.1, .int .i64 t14.2.2]) ?_
 refine JL.pur (.int .i64 t14.1) (some 13) ?_
 refine JL.pur (.int .i64 t14.2.1) (some 14) ?_
 refine JL.pur (.int .i64 t14.2.2) (some 15) ?_
 refine JL.as (.int .i64 t14.1) ?_
 refine JL.as (.int .i64 t14.2.1) ?_
 refine JL.as (.int .i64 t14.2.2) ?_
 refine JL.es [(4, .pointer (some ⟨b13, 0, none⟩)), (6, .int .i64 t14.1), (7, .int .i64 t14.2.1), (8, .int .i64 t14.2.2)] ?_
 refine JQ.mask [At.box b13 37 (cl_37 zv_37)] [false, false, false, false, true] ?_
 refine J.seq ?_
 refine J.sr ?_
 refine JL.mv (.int .i64 t14.2.2) ?_
 refine JL.pur (.bool (!decide (t14.2.2 = 0))) (some 17) ?_
 refine JL.es [(4, .pointer (some ⟨b13, 0, none⟩)), (6, .int .i64 t14.1), (7, .int .i64 t14.2.1), (8, .int .i64 t14.2.2), (17, .bool (!decide (t14.2.2 = 0)))] ?_
 rcases ite_cases H0 with ⟨h16, H0⟩ | ⟨h16, H0⟩
 · refine J.cond_true h16 ?_
   refine J.sr ?_
   refine JL.pur (mv_37 zv_37) (some 18) ?_
   refine JL.mv (.int .i64 t14.2.2) ?_
   refine JL.store 0 b13 0 37 (cl_37 zv_37) (cl_37 zv_37) tySize_37 ?_
   refine JL.as (.int .i64 t14.2.2) ?_
   refine JL.es [(4, .pointer (some ⟨b13, 0, none⟩)), (5, .int .i64 t14.2.2)] ?_
   refine J.ret ?_
   refine JQ.then_ret ?_
   obtain rfl := Option.some.inj H0
   exact JQ.done' (rs := [.cell 4 37, .tmp 5]) (vs := [.agg #[.int .i64 0, .int .i64 0], .int .i64 t14.2.2]) [] (.inr rfl) ⟨⟨b13, 0, _, _, by kernel_rfl, by kernel_rfl, holds_box b13 37 (cl_37 zv_37), .inl ⟨tyAgg_37, tySize_37, rfl⟩⟩, by kernel_rfl, trivial⟩ (fun _ h => Heap.to (Heap.pick [] (by decide) h)) ⟨rfl, rfl⟩
 · refine J.cond_false h16 ?_
   refine J.skip ?_
   refine JQ.ts [(4, .pointer (some ⟨b13, 0, none⟩)), (6, .int .i64 t14.1), (7, .int .i64 t14.2.1)] ?_
   refine J.seq ?_
   refine J.sr ?_
   refine JL.mv (.int .i64 t14.2.1) ?_
   refine JL.pur (.bool (decide (t14.2.1 = 0))) (some 21) ?_
   refine JL.es [(4, .pointer (some ⟨b13, 0, none⟩)), (6, .int .i64 t14.1), (7, .int .i64 t14.2.1), (21, .bool (decide (t14.2.1 = 0)))] ?_
   rcases ite_cases H0 with ⟨h17, H0⟩ | ⟨h17, H0⟩
   · refine J.cond_true h17 ?_
     refine J.sr ?_
     refine JL.pur (mv_37 zv_37) (some 22) ?_
     refine JL.store 0 b13 0 37 (cl_37 zv_37) (cl_37 zv_37) tySize_37 ?_
     refine JL.as (.int .i64 18) ?_
     refine JL.es [(4, .pointer (some ⟨b13, 0, none⟩)), (5, .int .i64 18)] ?_
     refine J.ret ?_
     refine JQ.then_ret ?_
     obtain rfl := Option.some.inj H0
     exact JQ.done' (rs := [.cell 4 37, .tmp 5]) (vs := [.agg #[.int .i64 0, .int .i64 0], .int .i64 18]) [] (.inr rfl) ⟨⟨b13, 0, _, _, by kernel_rfl, by kernel_rfl, holds_box b13 37 (cl_37 zv_37), .inl ⟨tyAgg_37, tySize_37, rfl⟩⟩, by kernel_rfl, trivial⟩ (fun _ h => Heap.to (Heap.pick [] (by decide) h)) ⟨rfl, rfl⟩
   · refine J.cond_false h17 ?_
     refine J.skip ?_
     refine JQ.ts [(4, .pointer (some ⟨b13, 0, none⟩)), (6, .int .i64 t14.1), (7, .int .i64 t14.2.1)] ?_
     refine J.sr ?_
     refine JL.mv (.int .i64 t14.1) ?_
     refine JL.mv (.int .i64 t14.2.1) ?_
     obtain ⟨t18, hc19, H0⟩ := bind_some H0
     refine JL.call [] [] [] (frac_Make.ok t14.1 t14.2.1 _ hc19) trivial ?_
     rintro _ _ ⟨rfl, rfl⟩
     refine JL.pur (mv_37 t18.1) (some 26) ?_
     refine JL.pur (.int .i64 t18.2) (some 27) ?_
     refine JL.store 0 b13 0 37 (cl_37 zv_37) (cl_37 t18.1) tySize_37 ?_
     refine JL.as (.int .i64 t18.2) ?_
     refine JL.es [(4, .pointer (some ⟨b13, 0, none⟩)), (5, .int .i64 t18.2)] ?_
     refine J.ret ?_
     obtain rfl := Option.some.inj H0
     exact JQ.done' (rs := [.cell 4 37, .tmp 5]) (vs := [.agg #[.int .i64 t18.1.Num, .int .i64 t18.1.Den], .int .i64 t18.2]) [] (.inr rfl) ⟨⟨b13, 0, _, _, by kernel_rfl, by kernel_rfl, holds_box b13 37 (cl_37 t18.1), .inl ⟨tyAgg_37, tySize_37, rfl⟩⟩, by kernel_rfl, trivial⟩ (fun _ h => Heap.to (Heap.pick [] (by decide) h)) ⟨rfl, rfl⟩

theorem ref01_abs.ok (n1 : Int) (r : Int) (H0 : ref01_abs.f n1 = some r) :
    Does Try.prog 44 [.int .i64 n1].toArray [] [] false (fun v Δ => v = .int .u64 r ∧ Δ = []) := by
 refine Does.body (vs := [.int .i64 n1]) Try.func44 rfl trivial trivial fun w S => ?_
 unfold ref01_abs.f at H0
 refine J.sr ?_
 refine JL.as (.int .u64 0) ?_
 refine JL.es [(0, .int .i64 n1)] ?_
 refine J.seq ?_
 refine J.sr ?_
 refine JL.mv (.int .i64 n1) ?_
 refine JL.pur (.bool (decide (0 ≤ n1))) (some 4) ?_
 refine JL.es [(0, .int .i64 n1), (4, .bool (decide (0 ≤ n1)))] ?_
 rcases ite_cases H0 with ⟨h2, H0⟩ | ⟨h2, H0⟩
 · refine J.cond_true h2 ?_
   refine J.sr ?_
   refine JL.mv (.int .i64 n1) ?_
   refine JL.pur (.int .u64 (wu64 n1)) (some 6) ?_
   refine JL.as (.int .u64 (wu64 n1)) ?_
   refine JL.es [(2, .int .u64 (wu64 n1))] ?_
   refine J.ret ?_
   refine JQ.then_ret ?_
   obtain rfl := Option.some.inj H0
   exact JQ.done' (rs := [.tmp 2]) (vs := [.int .u64 (wu64 n1)]) [] (.inr rfl) ⟨by kernel_rfl, trivial⟩ (fun _ h => Heap.to h) ⟨rfl, rfl⟩
 · refine J.cond_false h2 ?_
   refine J.skip ?_
   refine JQ.ts [(0, .int .i64 n1)] ?_
   refine J.sr ?_
   refine JL.mv (.int .i64 n1) ?_
   refine JL.pur (.int .i64 (w64 (n1 + 1))) (some 8) ?_
   refine JL.pur (.int .i64 (w64 (0 - w64 (n1 + 1)))) (some 9) ?_
   refine JL.pur (.int .u64 (wu64 (w64 (0 - w64 (n1 + 1))))) (some 10) ?_
   refine JL.pur (.int .u64 (wu64 ((wu64 (w64 (0 - w64 (n1 + 1)))) + 1))) (some 11) ?_
   refine JL.as (.int .u64 (wu64 ((wu64 (w64 (0 - w64 (n1 + 1)))) + 1))) ?_
   refine JL.es [(2, .int .u64 (wu64 ((wu64 (w64 (0 - w64 (n1 + 1)))) + 1)))] ?_
   refine J.ret ?_
   obtain rfl := Option.some.inj H0
   exact JQ.done' (rs := [.tmp 2]) (vs := [.int .u64 (wu64 ((wu64 (w64 (0 - w64 (n1 + 1)))) + 1))]) [] (.inr rfl) ⟨by kernel_rfl, trivial⟩ (fun _ h => Heap.to h) ⟨rfl, rfl⟩

theorem ref01_gcd.ok (a1 : Int) (b2 : Int) (r : Int) (H0 : ref01_gcd.f a1 b2 = some r) :
    Does Try.prog 43 [.int .u64 a1, .int .u64 b2].toArray [] [] false (fun v Δ => v = .int .u64 r ∧ Δ = []) := by
 refine Does.body (vs := [.int .u64 a1, .int .u64 b2]) Try.func43 rfl trivial trivial fun w S => ?_
 unfold ref01_gcd.f at H0
 refine J.sr ?_
 refine JL.as (.int .u64 0) ?_
 refine JL.es [(0, .int .u64 a1), (1, .int .u64 b2)] ?_
 refine J.seq ?_
 obtain ⟨o1, hit, H0⟩ := bind_some H0
 refine J.loop (σ := (Int × Int)) (τ := Int) (G := Unit) (G' := Unit) _ o1 (fun s g => [(0, .int .u64 s.1), (1, .int .u64 s.2)]) (fun s g => []) (fun t => ref01_gcd.k2 t = some r) (fun t g => [(0, .int .u64 t)]) (fun t g => []) (a1, b2) () hit (fun _ h => Heap.to h) ?_ ?_
 · clear hit
   rintro ⟨a11, b12⟩ ⟨⟩ st1 H1 hb1 hr1
   replace H1 : ref01_gcd.s1 a11 b12 = some st1 := H1
   unfold ref01_gcd.s1 at H1
   refine JQ.sub [(0, .int .u64 a11), (1, .int .u64 b12)] ?_
   refine JQ.turn (Δ' := []) (fun _ h => h.to) ?_
   refine J.seq ?_
   refine J.sr ?_
   refine JL.mv (.int .u64 b12) ?_
   refine JL.pur (.bool (!decide (b12 = 0))) (some 6) ?_
   refine JL.es [(0, .int .u64 a11), (1, .int .u64 b12), (6, .bool (!decide (b12 = 0)))] ?_
   rcases ite_cases H1 with ⟨h17, H1⟩ | ⟨h17, H1⟩
   · refine J.cond_true h17 ?_
     refine J.skip ?_
     refine JQ.ts [(0, .int .u64 a11), (1, .int .u64 b12)] ?_
     refine J.block ?_
     refine J.draw ?_
     refine QL.mv (.int .u64 b12) ?_
     refine QL.mv (.int .u64 a11) ?_
     refine QL.mv (.int .u64 b12) ?_
     obtain ⟨h18, H1⟩ := ite_must H1
     refine QL.val (.int .u64 (Int.tmod a11 b12)) (some 10) (gives_rem .u64 a11 b12 h18) ?_
     refine QL.as (.int .u64 b12) ?_
     obtain ⟨b19, eb19, H1⟩ := lt_some H1
     refine QL.as' (k := .u64) b19 eb19 ?_
     refine QL.nil ?_
     refine JA.nil ?_
     refine JQ.blk_normal ?_
     refine JQ.then_normal ?_
     exact JQ.again (b12, b19) () (Option.some.inj H1).symm (fun _ h => Heap.to h)
   · refine J.cond_false h17 ?_
     refine J.exit ?_
     refine JQ.then_exit ?_
     refine JQ.then_exit ?_
     refine JQ.blk_exit ?_
     rw [hb1 _ (Option.some.inj H1).symm, fin_brk] at H0
     exact JQ.met a11 () H0 (fun _ h => Heap.to h)
 · clear hit H0
   rintro a16 ⟨⟩ H0
   replace H0 : ref01_gcd.k2 a16 = some r := H0
   unfold ref01_gcd.k2 at H0
   refine JQ.sub [(0, .int .u64 a16)] ?_
   refine JQ.turn (Δ' := []) (fun _ h => h.to) ?_
   refine JQ.then_normal ?_
   refine J.sr ?_
   refine JL.mv (.int .u64 a16) ?_
   refine JL.as (.int .u64 a16) ?_
   refine JL.es [(4, .int .u64 a16)] ?_
   refine J.ret ?_
   obtain rfl := Option.some.inj H0
   exact JQ.done' (rs := [.tmp 4]) (vs := [.int .u64 a16]) [] (.inr rfl) ⟨by kernel_rfl, trivial⟩ (fun _ h => Heap.to h) ⟨rfl, rfl⟩

theorem ref01_big.ok (n1 : Int) (r : Big) (H0 : ref01_big.f n1 = some r) :
    Does Try.prog 46 [.int .u64 n1].toArray [] [] false (fun v Δ => v = mv_89 r ∧ Δ = []) := by
 refine Does.body (vs := [.int .u64 n1]) Try.func46 rfl trivial trivial fun w S => ?_
 unfold ref01_big.f at H0
 refine J.sr ?_
 refine JL.alloc (cl_89 zv_89) fun b2 => ?_
 refine JL.en ?_
 refine J.sr ?_
 refine JL.mv (.int .u64 n1) ?_
 refine JL.pur (.int .u64 (gand .u64 n1 4294967295)) (some 4) ?_
 refine JL.mv (.int .u64 n1) ?_
 refine JL.pur (.int .u64 (gshr .u64 n1 32)) (some 6) ?_
 refine JL.pur (.agg #[.int .u64 (gand .u64 n1 4294967295), .int .u64 (gshr .u64 n1 32), .int .u64 0, .int .u64 0]) (some 7) ?_
 refine JL.pur (.agg #[.int .u64 (gand .u64 n1 4294967295), .int .u64 (gshr .u64 n1 32), .int .u64 0, .int .u64 0]) (some 8) ?_
 refine JL.store 0 b2 0 89 (cl_89 zv_89) [.int .u64 (gand .u64 n1 4294967295), .int .u64 (gshr .u64 n1 32), .int .u64 0, .int .u64 0] tySize_89 ?_
 refine JL.es [(2, .pointer (some ⟨b2, 0, none⟩))] ?_
 refine J.ret ?_
 obtain rfl := Option.some.inj H0
 exact JQ.done' (rs := [.cell 2 89]) (vs := [.agg #[.int .u64 (gand .u64 n1 4294967295), .int .u64 (gshr .u64 n1 32), .int .u64 0, .int .u64 0]]) [] (.inr rfl) ⟨⟨b2, 0, _, _, by kernel_rfl, by kernel_rfl, holds_box b2 89 [.int .u64 (gand .u64 n1 4294967295), .int .u64 (gshr .u64 n1 32), .int .u64 0, .int .u64 0], .inl ⟨tyAgg_89, tySize_89, rfl⟩⟩, trivial⟩ (fun _ h => Heap.to (Heap.pick [] (by decide) h)) ⟨rfl, rfl⟩

theorem ref01_Small.ok (a1 : Big) (r : (Int × Bool)) (H0 : ref01_Small.f a1 = some r) :
    Does Try.prog 56 [mv_89 a1].toArray [] [] false (fun v Δ => v = .tuple #[.int .i64 r.1, .bool r.2] ∧ Δ = []) := by
 refine Does.body (vs := [mv_89 a1]) Try.func56 rfl trivial trivial fun w S => ?_
 unfold ref01_Small.f at H0
 refine J.sr ?_
 refine JL.box (cl_89 a1) fun b2 => ?_
 refine JL.as (.int .i64 0) ?_
 refine JL.as (.bool false) ?_
 refine JL.es [(1, .pointer (some ⟨b2, 0, none⟩))] ?_
 refine J.sr ?_
 refine JL.pur (.pointer (some ⟨b2, 0, none⟩)) (some 5) ?_
 refine JL.pur (.pointer (some ⟨b2, 1, none⟩)) (some 6) ?_
 refine JL.val (.int .u64 a1.D.e1) (some 7) (yields_load_box 0 1 (holds_box b2 89 (cl_89 a1)) tyAgg_83) ?_
 refine JL.pur (.int .u64 (gshl .u64 a1.D.e1 32)) (some 8) ?_
 refine JL.pur (.pointer (some ⟨b2, 0, none⟩)) (some 9) ?_
 refine JL.pur (.pointer (some ⟨b2, 0, none⟩)) (some 10) ?_
 refine JL.val (.int .u64 a1.D.e0) (some 11) (yields_load_box 0 0 (holds_box b2 89 (cl_89 a1)) tyAgg_83) ?_
 refine JL.pur (.int .u64 (gor .u64 (gshl .u64 a1.D.e1 32) a1.D.e0)) (some 12) ?_
 obtain ⟨n3, en3, H0⟩ := lt_some H0
 refine JL.as' (k := .u64) n3 en3 ?_
 refine JL.es [(1, .pointer (some ⟨b2, 0, none⟩)), (4, .int .u64 n3)] ?_
 refine J.sr ?_
 refine JL.mv (.int .u64 n3) ?_
 refine JL.pur (.int .u64 (gand .u64 n3 9223372036854775807)) (some 14) ?_
 refine JL.pur (.int .i64 (w64 (gand .u64 n3 9223372036854775807))) (some 15) ?_
 refine JL.pur (.pointer (some ⟨b2, 0, none⟩)) (some 16) ?_
 refine JL.pur (.pointer (some ⟨b2, 2, none⟩)) (some 17) ?_
 refine JL.val (.int .u64 a1.D.e2) (some 18) (yields_load_box 0 2 (holds_box b2 89 (cl_89 a1)) tyAgg_83) ?_
 refine JL.pur (.bool (decide (a1.D.e2 = 0))) (some 19) ?_
 refine JL.mv (.bool (decide (a1.D.e2 = 0))) ?_
 rcases ite_cases H0 with ⟨h4, H0⟩ | ⟨h4, H0⟩
 · refine JL.on 7 20 h4 ?_
   refine JL.pur (.pointer (some ⟨b2, 0, none⟩)) (some 21) ?_
   refine JL.on 7 20 h4 ?_
   refine JL.pur (.pointer (some ⟨b2, 3, none⟩)) (some 22) ?_
   refine JL.on 7 20 h4 ?_
   refine JL.val (.int .u64 a1.D.e3) (some 23) (yields_load_box 0 3 (holds_box b2 89 (cl_89 a1)) tyAgg_83) ?_
   refine JL.on 7 20 h4 ?_
   refine JL.pur (.bool (decide (a1.D.e3 = 0))) (some 24) ?_
   refine JL.val (.bool (decide (a1.D.e3 = 0))) (some 25) (gives_pickT h4) ?_
   refine JL.mv (.bool (decide (a1.D.e3 = 0))) ?_
   rcases ite_cases H0 with ⟨h5, H0⟩ | ⟨h5, H0⟩
   · refine JL.on 13 26 h5 ?_
     refine JL.mv (.int .u64 n3) ?_
     refine JL.on 13 26 h5 ?_
     refine JL.pur (.bool (decide (n3 ≤ 1000000000000000000))) (some 28) ?_
     refine JL.val (.bool (decide (n3 ≤ 1000000000000000000))) (some 29) (gives_pickT h5) ?_
     refine JL.as (.int .i64 (w64 (gand .u64 n3 9223372036854775807))) ?_
     refine JL.as (.bool (decide (n3 ≤ 1000000000000000000))) ?_
     refine JL.es [(2, .int .i64 (w64 (gand .u64 n3 9223372036854775807))), (3, .bool (decide (n3 ≤ 1000000000000000000)))] ?_
     refine JQ.mask [] [false] ?_
     refine J.ret ?_
     obtain rfl := Option.some.inj H0
     exact JQ.done' (rs := [.tmp 2, .tmp 3]) (vs := [.int .i64 (w64 (gand .u64 n3 9223372036854775807)), .bool (decide (n3 ≤ 1000000000000000000))]) [] (.inr rfl) ⟨by kernel_rfl, by kernel_rfl, trivial⟩ (fun _ h => Heap.to h) ⟨rfl, rfl⟩
   · refine JL.off 13 26 true (some 27) h5 ?_
     refine JL.off 13 26 true (some 28) h5 ?_
     refine JL.val (.bool false) (some 29) (gives_pickF h5) ?_
     refine JL.as (.int .i64 (w64 (gand .u64 n3 9223372036854775807))) ?_
     refine JL.as (.bool false) ?_
     refine JL.es [(2, .int .i64 (w64 (gand .u64 n3 9223372036854775807))), (3, .bool false)] ?_
     refine JQ.mask [] [false] ?_
     refine J.ret ?_
     obtain rfl := Option.some.inj H0
     exact JQ.done' (rs := [.tmp 2, .tmp 3]) (vs := [.int .i64 (w64 (gand .u64 n3 9223372036854775807)), .bool false]) [] (.inr rfl) ⟨by kernel_rfl, by kernel_rfl, trivial⟩ (fun _ h => Heap.to h) ⟨rfl, rfl⟩
 · refine JL.off 7 20 true (some 21) h4 ?_
   refine JL.off 7 20 true (some 22) h4 ?_
   refine JL.off 7 20 true (some 23) h4 ?_
   refine JL.off 7 20 true (some 24) h4 ?_
   refine JL.val (.bool false) (some 25) (gives_pickF h4) ?_
   refine JL.mv (.bool false) ?_
   refine JL.off 13 26 true (some 27) rfl ?_
   refine JL.off 13 26 true (some 28) rfl ?_
   refine JL.val (.bool false) (some 29) (gives_pickF rfl) ?_
   refine JL.as (.int .i64 (w64 (gand .u64 n3 9223372036854775807))) ?_
   refine JL.as (.bool false) ?_
   refine JL.es [(2, .int .i64 (w64 (gand .u64 n3 9223372036854775807))), (3, .bool false)] ?_
   refine JQ.mask [] [false] ?_
   refine J.ret ?_
   obtain rfl := Option.some.inj H0
   exact JQ.done' (rs := [.tmp 2, .tmp 3]) (vs := [.int .i64 (w64 (gand .u64 n3 9223372036854775807)), .bool false]) [] (.inr rfl) ⟨by kernel_rfl, by kernel_rfl, trivial⟩ (fun _ h => Heap.to h) ⟨rfl, rfl⟩

theorem ref01_lowest.ok (minus1 : Bool) (num2 : Big) (den3 : Big) (r : (Frac × Int)) (H0 : ref01_lowest.f minus1 num2 den3 = some r) :
    Does Try.prog 45 [.bool minus1, mv_89 num2, mv_89 den3].toArray [] [] false (fun v Δ => v = .tuple #[mv_37 r.1, .int .i64 r.2] ∧ Δ = []) := by
 refine Does.body (vs := [.bool minus1, mv_89 num2, mv_89 den3]) Try.func45 rfl trivial trivial fun w S => ?_
 unfold ref01_lowest.f at H0
 refine J.sr ?_
 refine JL.box (cl_89 num2) fun b4 => ?_
 refine JL.box (cl_89 den3) fun b5 => ?_
 refine JL.alloc (cl_37 zv_37) fun b6 => ?_
 refine JL.as (.int .i64 0) ?_
 refine JL.es [(0, .bool minus1), (4, .pointer (some ⟨b4, 0, none⟩)), (5, .pointer (some ⟨b5, 0, none⟩)), (6, .pointer (some ⟨b6, 0, none⟩))] ?_
 refine J.sr ?_
 refine JL.val (mv_89 num2) (some 13) (yields_load_boxes 0 0 (cl_89 num2) (holds_box b4 89 (cl_89 num2)) tyAgg_89 tySize_89) ?_
 obtain ⟨t7, hc8, H0⟩ := bind_some H0
 refine JL.call [] [] [] (ref01_Small.ok num2 _ hc8) trivial ?_
 rintro _ _ ⟨rfl, rfl⟩
 refine JL.mv (.tuple #[.int .i64 t7.1, .bool t7.2]) ?_
 refine JL.pur (.int .i64 t7.1) (some 15) ?_
 refine JL.pur (.bool t7.2) (some 16) ?_
 refine JL.as (.int .i64 t7.1) ?_
 refine JL.as (.bool t7.2) ?_
 refine JL.es [(0, .bool minus1), (5, .pointer (some ⟨b5, 0, none⟩)), (6, .pointer (some ⟨b6, 0, none⟩)), (8, .int .i64 t7.1), (9, .bool t7.2)] ?_
 refine JQ.mask [At.box b5 89 (cl_89 den3), At.box b6 37 (cl_37 zv_37)] [false, true, true] ?_
 refine J.sr ?_
 refine JL.val (mv_89 den3) (some 18) (yields_load_boxes 0 0 (cl_89 den3) (holds_box b5 89 (cl_89 den3)) tyAgg_89 tySize_89) ?_
 obtain ⟨t9, hc10, H0⟩ := bind_some H0
 refine JL.call [] [] [] (ref01_Small.ok den3 _ hc10) trivial ?_
 rintro _ _ ⟨rfl, rfl⟩
 refine JL.mv (.tuple #[.int .i64 t9.1, .bool t9.2]) ?_
 refine JL.pur (.int .i64 t9.1) (some 20) ?_
 refine JL.pur (.bool t9.2) (some 21) ?_
 refine JL.as (.int .i64 t9.1) ?_
 refine JL.as (.bool t9.2) ?_
 refine JL.es [(0, .bool minus1), (6, .pointer (some ⟨b6, 0, none⟩)), (8, .int .i64 t7.1), (9, .bool t7.2), (10, .int .i64 t9.1), (11, .bool t9.2)] ?_
 refine JQ.mask [At.box b6 37 (cl_37 zv_37)] [false, true] ?_
 refine J.seq ?_
 refine J.join (T := Bool) (G := Unit) (fun t => ref01_lowest.k1 minus1 t7 t9 t = some r) (fun t g => [(0, .bool minus1), (6, .pointer (some ⟨b6, 0, none⟩)), (8, .int .i64 t7.1), (10, .int .i64 t9.1), (27, .bool t)]) (fun t g => [At.box b6 37 (cl_37 zv_37)]) ?_ ?_
 · refine J.region ?_
   refine JL.mv (.bool t7.2) ?_
   refine JL.pur (.bool (!t7.2)) (some 23) ?_
   refine JL.mv (.bool (!t7.2)) ?_
   rcases ite_cases H0 with ⟨h17, H0⟩ | ⟨h17, H0⟩
   · refine JL.off 2 24 false (some 25) h17 ?_
     refine JL.off 2 24 false (some 26) h17 ?_
     refine JL.val (.bool true) (some 27) (gives_pickT h17) ?_
     refine JL.en ?_
     exact JQ.meet true () H0 (fun _ h => Heap.to h)
   · refine JL.on 2 24 h17 ?_
     refine JL.mv (.bool t9.2) ?_
     refine JL.on 2 24 h17 ?_
     refine JL.pur (.bool (!t9.2)) (some 26) ?_
     refine JL.val (.bool (!t9.2)) (some 27) (gives_pickF h17) ?_
     refine JL.en ?_
     exact JQ.meet (!t9.2) () H0 (fun _ h => Heap.to h)
 · clear H0
   rintro x12 ⟨⟩ H0
   replace H0 : ref01_lowest.k1 minus1 t7 t9 x12 = some r := H0
   unfold ref01_lowest.k1 at H0
   refine JQ.sub [(0, .bool minus1), (6, .pointer (some ⟨b6, 0, none⟩)), (8, .int .i64 t7.1), (10, .int .i64 t9.1), (27, .bool x12)] ?_
   refine JQ.turn (Δ' := [At.box b6 37 (cl_37 zv_37)]) (fun _ h => h.to) ?_
   rcases ite_cases H0 with ⟨h13, H0⟩ | ⟨h13, H0⟩
   · refine J.cond_true h13 ?_
     refine J.sr ?_
     refine JL.pur (mv_37 zv_37) (some 28) ?_
     refine JL.store 0 b6 0 37 (cl_37 zv_37) (cl_37 zv_37) tySize_37 ?_
     refine JL.as (.int .i64 16) ?_
     refine JL.es [(6, .pointer (some ⟨b6, 0, none⟩)), (7, .int .i64 16)] ?_
     refine J.ret ?_
     refine JQ.then_ret ?_
     obtain rfl := Option.some.inj H0
     exact JQ.done' (rs := [.cell 6 37, .tmp 7]) (vs := [.agg #[.int .i64 0, .int .i64 0], .int .i64 16]) [] (.inr rfl) ⟨⟨b6, 0, _, _, by kernel_rfl, by kernel_rfl, holds_box b6 37 (cl_37 zv_37), .inl ⟨tyAgg_37, tySize_37, rfl⟩⟩, by kernel_rfl, trivial⟩ (fun _ h => Heap.to (Heap.pick [] (by decide) h)) ⟨rfl, rfl⟩
   · refine J.cond_false h13 ?_
     refine J.skip ?_
     refine JQ.ts [(0, .bool minus1), (6, .pointer (some ⟨b6, 0, none⟩)), (8, .int .i64 t7.1), (10, .int .i64 t9.1)] ?_
     refine J.join (T := Int) (G := Unit) (fun t => ref01_lowest.k2 t9 t = some r) (fun t g => [(6, .pointer (some ⟨b6, 0, none⟩)), (8, .int .i64 t), (10, .int .i64 t9.1)]) (fun t g => [At.box b6 37 (cl_37 zv_37)]) ?_ ?_
     · refine J.sr ?_
       refine JL.mv (.bool minus1) ?_
       refine JL.es [(6, .pointer (some ⟨b6, 0, none⟩)), (8, .int .i64 t7.1), (10, .int .i64 t9.1), (29, .bool minus1)] ?_
       rcases ite_cases H0 with ⟨h16, H0⟩ | ⟨h16, H0⟩
       · refine J.cond_true h16 ?_
         refine J.region ?_
         refine JL.mv (.int .i64 t7.1) ?_
         refine JL.pur (.int .i64 (w64 (0 - t7.1))) (some 31) ?_
         refine JL.as (.int .i64 (w64 (0 - t7.1))) ?_
         refine JL.en ?_
         exact JQ.meet (w64 (0 - t7.1)) () H0 (fun _ h => Heap.to h)
       · refine J.cond_false h16 ?_
         refine J.skip ?_
         refine JQ.then_normal ?_
         exact JQ.meet t7.1 () H0 (fun _ h => Heap.to h)
     · clear H0
       rintro n15 ⟨⟩ H0
       replace H0 : ref01_lowest.k2 t9 n15 = some r := H0
       unfold ref01_lowest.k2 at H0
       refine JQ.sub [(6, .pointer (some ⟨b6, 0, none⟩)), (8, .int .i64 n15), (10, .int .i64 t9.1)] ?_
       refine JQ.turn (Δ' := [At.box b6 37 (cl_37 zv_37)]) (fun _ h => h.to) ?_
       refine J.sr ?_
       refine JL.mv (.int .i64 n15) ?_
       refine JL.mv (.int .i64 t9.1) ?_
       refine JL.pur (.agg #[.int .i64 n15, .int .i64 t9.1]) (some 34) ?_
       refine JL.store 0 b6 0 37 (cl_37 zv_37) [.int .i64 n15, .int .i64 t9.1] tySize_37 ?_
       refine JL.as (.int .i64 0) ?_
       refine JL.es [(6, .pointer (some ⟨b6, 0, none⟩)), (7, .int .i64 0)] ?_
       refine J.ret ?_
       obtain rfl := Option.some.inj H0
       exact JQ.done' (rs := [.cell 6 37, .tmp 7]) (vs := [.agg #[.int .i64 n15, .int .i64 t9.1], .int .i64 0]) [] (.inr rfl) ⟨⟨b6, 0, _, _, by kernel_rfl, by kernel_rfl, holds_box b6 37 [.int .i64 n15, .int .i64 t9.1], .inl ⟨tyAgg_37, tySize_37, rfl⟩⟩, by kernel_rfl, trivial⟩ (fun _ h => Heap.to (Heap.pick [] (by decide) h)) ⟨rfl, rfl⟩

theorem ref01_Make.ok (num1 : Int) (den2 : Int) (r : (Frac × Int)) (H0 : ref01_Make.f num1 den2 = some r) :
    Does Try.prog 27 [.int .i64 num1, .int .i64 den2].toArray [] [] false (fun v Δ => v = .tuple #[mv_37 r.1, .int .i64 r.2] ∧ Δ = []) := by
 refine Does.body (vs := [.int .i64 num1, .int .i64 den2]) Try.func27 rfl trivial trivial fun w S => ?_
 unfold ref01_Make.f at H0
 refine J.sr ?_
 refine JL.alloc (cl_37 zv_37) fun b3 => ?_
 refine JL.as (.int .i64 0) ?_
 refine JL.es [(0, .int .i64 num1), (1, .int .i64 den2), (4, .pointer (some ⟨b3, 0, none⟩))] ?_
 refine J.seq ?_
 refine J.sr ?_
 refine JL.mv (.int .i64 den2) ?_
 refine JL.pur (.bool (decide (den2 = 0))) (some 8) ?_
 refine JL.es [(0, .int .i64 num1), (1, .int .i64 den2), (4, .pointer (some ⟨b3, 0, none⟩)), (8, .bool (decide (den2 = 0)))] ?_
 rcases ite_cases H0 with ⟨h4, H0⟩ | ⟨h4, H0⟩
 · refine J.cond_true h4 ?_
   refine J.sr ?_
   refine JL.pur (mv_37 zv_37) (some 9) ?_
   refine JL.store 0 b3 0 37 (cl_37 zv_37) (cl_37 zv_37) tySize_37 ?_
   refine JL.as (.int .i64 18) ?_
   refine JL.es [(4, .pointer (some ⟨b3, 0, none⟩)), (5, .int .i64 18)] ?_
   refine J.ret ?_
   refine JQ.then_ret ?_
   obtain rfl := Option.some.inj H0
   exact JQ.done' (rs := [.cell 4 37, .tmp 5]) (vs := [.agg #[.int .i64 0, .int .i64 0], .int .i64 18]) [] (.inr rfl) ⟨⟨b3, 0, _, _, by kernel_rfl, by kernel_rfl, holds_box b3 37 (cl_37 zv_37), .inl ⟨tyAgg_37, tySize_37, rfl⟩⟩, by kernel_rfl, trivial⟩ (fun _ h => Heap.to (Heap.pick [] (by decide) h)) ⟨rfl, rfl⟩
 · refine J.cond_false h4 ?_
   refine J.skip ?_
   refine JQ.ts [(0, .int .i64 num1), (1, .int .i64 den2), (4, .pointer (some ⟨b3, 0, none⟩))] ?_
   refine J.sr ?_
   refine JL.mv (.int .i64 num1) ?_
   obtain ⟨t5, hc6, H0⟩ := bind_some H0
   refine JL.call [] [] [] (ref01_abs.ok num1 _ hc6) trivial ?_
   rintro _ _ ⟨rfl, rfl⟩
   refine JL.mv (.int .i64 den2) ?_
   obtain ⟨t7, hc8, H0⟩ := bind_some H0
   refine JL.call [] [] [] (ref01_abs.ok den2 _ hc8) trivial ?_
   rintro _ _ ⟨rfl, rfl⟩
   obtain ⟨t9, hc10, H0⟩ := bind_some H0
   refine JL.call [] [] [] (ref01_gcd.ok t5 t7 _ hc10) trivial ?_
   rintro _ _ ⟨rfl, rfl⟩
   refine JL.as (.int .u64 t9) ?_
   refine JL.es [(0, .int .i64 num1), (1, .int .i64 den2), (4, .pointer (some ⟨b3, 0, none⟩)), (6, .int .u64 t9)] ?_
   refine J.sr ?_
   refine JL.mv (.int .i64 num1) ?_
   refine JL.pur (.bool (decide (num1 < 0))) (some 16) ?_
   refine JL.mv (.int .i64 den2) ?_
   refine JL.pur (.bool (decide (den2 < 0))) (some 18) ?_
   refine JL.pur (.bool (!((decide (num1 < 0)) == (decide (den2 < 0))))) (some 19) ?_
   refine JL.mv (.int .i64 num1) ?_
   obtain ⟨t11, hc12, H0⟩ := bind_some H0
   refine JL.call [] [] [] (ref01_abs.ok num1 _ hc12) trivial ?_
   rintro _ _ ⟨rfl, rfl⟩
   refine JL.mv (.int .u64 t9) ?_
   obtain ⟨h13, H0⟩ := ite_must H0
   refine JL.val (.int .u64 (wu64 (Int.tdiv t11 t9))) (some 23) (gives_quo .u64 t11 t9 h13) ?_
   obtain ⟨t14, hc15, H0⟩ := bind_some H0
   refine JL.call [] [] [] (ref01_big.ok (wu64 (Int.tdiv t11 t9)) _ hc15) trivial ?_
   rintro _ _ ⟨rfl, rfl⟩
   refine JL.mv (.int .i64 den2) ?_
   obtain ⟨t16, hc17, H0⟩ := bind_some H0
   refine JL.call [] [] [] (ref01_abs.ok den2 _ hc17) trivial ?_
   rintro _ _ ⟨rfl, rfl⟩
   refine JL.mv (.int .u64 t9) ?_
   obtain ⟨h18, H0⟩ := ite_must H0
   refine JL.val (.int .u64 (wu64 (Int.tdiv t16 t9))) (some 28) (gives_quo .u64 t16 t9 h18) ?_
   obtain ⟨t19, hc20, H0⟩ := bind_some H0
   refine JL.call [] [] [] (ref01_big.ok (wu64 (Int.tdiv t16 t9)) _ hc20) trivial ?_
   rintro _ _ ⟨rfl, rfl⟩
   obtain ⟨t21, hc22, H0⟩ := bind_some H0
   refine JL.call [] [] [] (ref01_lowest.ok (!((decide (num1 < 0)) == (decide (den2 < 0)))) t14 t19 _ hc22) trivial ?_
   rintro _ _ ⟨rfl, rfl⟩
   refine JL.pur (mv_37 t21.1) (some 31) ?_
   refine JL.pur (.int .i64 t21.2) (some 32) ?_
   refine JL.store 0 b3 0 37 (cl_37 zv_37) (cl_37 t21.1) tySize_37 ?_
   refine JL.as (.int .i64 t21.2) ?_
   refine JL.es [(4, .pointer (some ⟨b3, 0, none⟩)), (5, .int .i64 t21.2)] ?_
   refine J.ret ?_
   obtain rfl := Option.some.inj H0
   exact JQ.done' (rs := [.cell 4 37, .tmp 5]) (vs := [.agg #[.int .i64 t21.1.Num, .int .i64 t21.1.Den], .int .i64 t21.2]) [] (.inr rfl) ⟨⟨b3, 0, _, _, by kernel_rfl, by kernel_rfl, holds_box b3 37 (cl_37 t21.1), .inl ⟨tyAgg_37, tySize_37, rfl⟩⟩, by kernel_rfl, trivial⟩ (fun _ h => Heap.to (Heap.pick [] (by decide) h)) ⟨rfl, rfl⟩

theorem ref18_Mean.ok (a1 : Acc) (Aa2 : Option Addr) (c3 : Nat) (Aa5 : Option Addr) (c6 : Nat) (Aa8 : Option Addr) (c9 : Nat) (lag11 : Int) (r : (Frac × Int)) (H0 : ref18_Mean.f a1 lag11 = some r) :
    Does Try.prog 14 [.agg #[.slice Aa2 a1.Sums.length c3, .slice Aa5 a1.Ns.length c6, .slice Aa8 a1.Spans.length c9], .int .i64 lag11].toArray [At.rd Aa2 c3 fl_Count.kd a1.Sums true, At.rd Aa5 c6 fl_Count.kd a1.Ns true, At.rd Aa8 c9 fl_Gap.kd a1.Spans true] [] false (fun v Δ => v = .tuple #[mv_37 r.1, .int .i64 r.2] ∧ Δ = []) := by
 refine Does.body (vs := [.agg #[.slice Aa2 a1.Sums.length c3, .slice Aa5 a1.Ns.length c6, .slice Aa8 a1.Spans.length c9], .int .i64 lag11]) Try.func14 rfl ⟨.inl rfl, .inl rfl, .inl rfl, trivial⟩ trivial fun w S => ?_
 unfold ref18_Mean.f at H0
 refine J.sr ?_
 refine JL.box [.slice Aa2 a1.Sums.length c3, .slice Aa5 a1.Ns.length c6, .slice Aa8 a1.Spans.length c9] fun b12 => ?_
 refine JL.alloc (cl_37 zv_37) fun b13 => ?_
 refine JL.as (.int .i64 0) ?_
 refine JL.es [(1, .int .i64 lag11), (2, .pointer (some ⟨b12, 0, none⟩)), (4, .pointer (some ⟨b13, 0, none⟩))] ?_
 refine J.sr ?_
 refine JL.val (.agg #[.slice Aa2 a1.Sums.length c3, .slice Aa5 a1.Ns.length c6, .slice Aa8 a1.Spans.length c9]) (some 10) (yields_load_boxes 3 0 [.slice Aa2 a1.Sums.length c3, .slice Aa5 a1.Ns.length c6, .slice Aa8 a1.Spans.length c9] (holds_box b12 25 [.slice Aa2 a1.Sums.length c3, .slice Aa5 a1.Ns.length c6, .slice Aa8 a1.Spans.length c9]) tyAgg_25 tySize_25) ?_
 refine JL.mv (.int .i64 lag11) ?_
 obtain ⟨t14, hc15, H0⟩ := bind_some H0
 refine JL.call [] [] [] (ref18_Value.ok (⟨a1.Sums, a1.Ns, a1.Spans⟩ : Acc) Aa2 c3 Aa5 c6 Aa8 c9 lag11 _ hc15) ⟨pre_any 0 (view_rd Aa2 c3 fl_Count.kd a1.Sums true true), ⟨pre_any 1 (view_rd Aa5 c6 fl_Count.kd a1.Ns true true), ⟨pre_any 2 (view_rd Aa8 c9 fl_Gap.kd a1.Spans true true), trivial⟩⟩⟩ ?_
 rintro _ _ ⟨rfl, rfl⟩
 refine JL.mv (.tuple #[.int .i64 t14.1, .int .i64 t14.2.1, .int .i64 t14.2.2]) ?_
 refine JL.pur (.int .i64 t14.1) (some 13) ?_
 refine JL.pur (.int .i64 t14.2.1) (some 14) ?_
 refine JL.pur (.int .i64 t14.2.2) (some 15) ?_
 refine JL.as (.int .i64 t14.1) ?_
 refine JL.as (.int .i64 t14.2.1) ?_
 refine JL.as (.int .i64 t14.2.2) ?_
 refine JL.es [(4, .pointer (some ⟨b13, 0, none⟩)), (6, .int .i64 t14.1), (7, .int .i64 t14.2.1), (8, .int .i64 t14.2.2)] ?_
 refine JQ.mask [At.box b13 37 (cl_37 zv_37)] [false, false, false, false, true] ?_
 refine J.seq ?_
 refine J.sr ?_
 refine JL.mv (.int .i64 t14.2.2) ?_
 refine JL.pur (.bool (!decide (t14.2.2 = 0))) (some 17) ?_
 refine JL.es [(4, .pointer (some ⟨b13, 0, none⟩)), (6, .int .i64 t14.1), (7, .int .i64 t14.2.1), (8, .int .i64 t14.2.2), (17, .bool (!decide (t14.2.2 = 0)))] ?_
 rcases ite_cases H0 with ⟨h16, H0⟩ | ⟨h16, H0⟩
 · refine J.cond_true h16 ?_
   refine J.sr ?_
   refine JL.pur (mv_37 zv_37) (some 18) ?_
   refine JL.mv (.int .i64 t14.2.2) ?_
   refine JL.store 0 b13 0 37 (cl_37 zv_37) (cl_37 zv_37) tySize_37 ?_
   refine JL.as (.int .i64 t14.2.2) ?_
   refine JL.es [(4, .pointer (some ⟨b13, 0, none⟩)), (5, .int .i64 t14.2.2)] ?_
   refine J.ret ?_
   refine JQ.then_ret ?_
   obtain rfl := Option.some.inj H0
   exact JQ.done' (rs := [.cell 4 37, .tmp 5]) (vs := [.agg #[.int .i64 0, .int .i64 0], .int .i64 t14.2.2]) [] (.inr rfl) ⟨⟨b13, 0, _, _, by kernel_rfl, by kernel_rfl, holds_box b13 37 (cl_37 zv_37), .inl ⟨tyAgg_37, tySize_37, rfl⟩⟩, by kernel_rfl, trivial⟩ (fun _ h => Heap.to (Heap.pick [] (by decide) h)) ⟨rfl, rfl⟩
 · refine J.cond_false h16 ?_
   refine J.skip ?_
   refine JQ.ts [(4, .pointer (some ⟨b13, 0, none⟩)), (6, .int .i64 t14.1), (7, .int .i64 t14.2.1)] ?_
   refine J.seq ?_
   refine J.sr ?_
   refine JL.mv (.int .i64 t14.2.1) ?_
   refine JL.pur (.bool (decide (t14.2.1 = 0))) (some 21) ?_
   refine JL.es [(4, .pointer (some ⟨b13, 0, none⟩)), (6, .int .i64 t14.1), (7, .int .i64 t14.2.1), (21, .bool (decide (t14.2.1 = 0)))] ?_
   rcases ite_cases H0 with ⟨h17, H0⟩ | ⟨h17, H0⟩
   · refine J.cond_true h17 ?_
     refine J.sr ?_
     refine JL.pur (mv_37 zv_37) (some 22) ?_
     refine JL.store 0 b13 0 37 (cl_37 zv_37) (cl_37 zv_37) tySize_37 ?_
     refine JL.as (.int .i64 18) ?_
     refine JL.es [(4, .pointer (some ⟨b13, 0, none⟩)), (5, .int .i64 18)] ?_
     refine J.ret ?_
     refine JQ.then_ret ?_
     obtain rfl := Option.some.inj H0
     exact JQ.done' (rs := [.cell 4 37, .tmp 5]) (vs := [.agg #[.int .i64 0, .int .i64 0], .int .i64 18]) [] (.inr rfl) ⟨⟨b13, 0, _, _, by kernel_rfl, by kernel_rfl, holds_box b13 37 (cl_37 zv_37), .inl ⟨tyAgg_37, tySize_37, rfl⟩⟩, by kernel_rfl, trivial⟩ (fun _ h => Heap.to (Heap.pick [] (by decide) h)) ⟨rfl, rfl⟩
   · refine J.cond_false h17 ?_
     refine J.skip ?_
     refine JQ.ts [(4, .pointer (some ⟨b13, 0, none⟩)), (6, .int .i64 t14.1), (7, .int .i64 t14.2.1)] ?_
     refine J.sr ?_
     refine JL.mv (.int .i64 t14.1) ?_
     refine JL.mv (.int .i64 t14.2.1) ?_
     obtain ⟨t18, hc19, H0⟩ := bind_some H0
     refine JL.call [] [] [] (ref01_Make.ok t14.1 t14.2.1 _ hc19) trivial ?_
     rintro _ _ ⟨rfl, rfl⟩
     refine JL.pur (mv_37 t18.1) (some 26) ?_
     refine JL.pur (.int .i64 t18.2) (some 27) ?_
     refine JL.store 0 b13 0 37 (cl_37 zv_37) (cl_37 t18.1) tySize_37 ?_
     refine JL.as (.int .i64 t18.2) ?_
     refine JL.es [(4, .pointer (some ⟨b13, 0, none⟩)), (5, .int .i64 t18.2)] ?_
     refine J.ret ?_
     obtain rfl := Option.some.inj H0
     exact JQ.done' (rs := [.cell 4 37, .tmp 5]) (vs := [.agg #[.int .i64 t18.1.Num, .int .i64 t18.1.Den], .int .i64 t18.2]) [] (.inr rfl) ⟨⟨b13, 0, _, _, by kernel_rfl, by kernel_rfl, holds_box b13 37 (cl_37 t18.1), .inl ⟨tyAgg_37, tySize_37, rfl⟩⟩, by kernel_rfl, trivial⟩ (fun _ h => Heap.to (Heap.pick [] (by decide) h)) ⟨rfl, rfl⟩

theorem accum_Times.ok (a1 : Acc) (Aa2 : Option Addr) (c3 : Nat) (Aa5 : Option Addr) (c6 : Nat) (Aa8 : Option Addr) (c9 : Nat) (r : (Int × Int)) (H0 : accum_Times.f a1 = some r) :
    Does Try.prog 15 [.agg #[.slice Aa2 a1.Sums.length c3, .slice Aa5 a1.Ns.length c6, .slice Aa8 a1.Spans.length c9]].toArray [At.rd Aa2 c3 fl_Count.kd a1.Sums true, At.rd Aa5 c6 fl_Count.kd a1.Ns true, At.rd Aa8 c9 fl_Gap.kd a1.Spans true] [] false (fun v Δ => v = .tuple #[.int .i64 r.1, .int .i64 r.2] ∧ Δ = []) := by
 refine Does.body (vs := [.agg #[.slice Aa2 a1.Sums.length c3, .slice Aa5 a1.Ns.length c6, .slice Aa8 a1.Spans.length c9]]) Try.func15 rfl ⟨.inl rfl, .inl rfl, .inl rfl, trivial⟩ trivial fun w S => ?_
 unfold accum_Times.f at H0
 refine J.sr ?_
 refine JL.box [.slice Aa2 a1.Sums.length c3, .slice Aa5 a1.Ns.length c6, .slice Aa8 a1.Spans.length c9] fun b11 => ?_
 refine JL.as (.int .i64 0) ?_
 refine JL.as (.int .i64 0) ?_
 refine JL.es [(1, .pointer (some ⟨b11, 0, none⟩))] ?_
 refine J.seq ?_
 refine J.sr ?_
 refine JL.val (.agg #[.slice Aa2 a1.Sums.length c3, .slice Aa5 a1.Ns.length c6, .slice Aa8 a1.Spans.length c9]) (some 8) (yields_load_boxes 3 0 [.slice Aa2 a1.Sums.length c3, .slice Aa5 a1.Ns.length c6, .slice Aa8 a1.Spans.length c9] (holds_box b11 25 [.slice Aa2 a1.Sums.length c3, .slice Aa5 a1.Ns.length c6, .slice Aa8 a1.Spans.length c9]) tyAgg_25 tySize_25) ?_
 obtain ⟨t12, hc13, H0⟩ := bind_some H0
 refine JL.call [] [] [] (accum_Check.ok a1 Aa2 c3 Aa5 c6 Aa8 c9 _ hc13) ⟨pre_any 0 (view_rd Aa2 c3 fl_Count.kd a1.Sums true true), ⟨pre_any 1 (view_rd Aa5 c6 fl_Count.kd a1.Ns true true), ⟨pre_any 2 (view_rd Aa8 c9 fl_Gap.kd a1.Spans true true), trivial⟩⟩⟩ ?_
 rintro _ _ ⟨rfl, rfl⟩
 refine JL.as (.int .i64 t12) ?_
 refine JL.es [(1, .pointer (some ⟨b11, 0, none⟩)), (4, .int .i64 t12)] ?_
 refine J.sr ?_
 refine JL.mv (.int .i64 t12) ?_
 refine JL.pur (.bool (!decide (t12 = 0))) (some 11) ?_
 refine JL.es [(1, .pointer (some ⟨b11, 0, none⟩)), (4, .int .i64 t12), (11, .bool (!decide (t12 = 0)))] ?_
 rcases ite_cases H0 with ⟨h14, H0⟩ | ⟨h14, H0⟩
 · refine J.cond_true h14 ?_
   refine J.sr ?_
   refine JL.mv (.int .i64 t12) ?_
   refine JL.as (.int .i64 0) ?_
   refine JL.as (.int .i64 t12) ?_
   refine JL.es [(2, .int .i64 0), (3, .int .i64 t12)] ?_
   refine JQ.mask [] [false, false, false, false] ?_
   refine J.ret ?_
   refine JQ.then_ret ?_
   obtain rfl := Option.some.inj H0
   exact JQ.done' (rs := [.tmp 2, .tmp 3]) (vs := [.int .i64 0, .int .i64 t12]) [] (.inr rfl) ⟨by kernel_rfl, by kernel_rfl, trivial⟩ (fun _ h => Heap.to h) ⟨rfl, rfl⟩
 · refine J.cond_false h14 ?_
   refine J.skip ?_
   refine JQ.ts [(1, .pointer (some ⟨b11, 0, none⟩))] ?_
   refine J.sr ?_
   refine JL.as (.int .i64 0) ?_
   refine JL.en ?_
   refine J.seq ?_
   refine J.sr ?_
   refine JL.pur (.pointer (some ⟨b11, 2, none⟩)) (some 13) ?_
   refine JL.val (.slice Aa8 a1.Spans.length c9) (some 14) (yields_load_box 3 2 (holds_box b11 25 [.slice Aa2 a1.Sums.length c3, .slice Aa5 a1.Ns.length c6, .slice Aa8 a1.Spans.length c9]) tyAgg_23) ?_
   refine JL.pur (.int .i64 (a1.Spans.length : Int)) (some 15) ?_
   refine JL.mv (.int .i64 0) ?_
   refine JL.es [(5, .int .i64 0), (14, .slice Aa8 a1.Spans.length c9), (15, .int .i64 (a1.Spans.length : Int)), (16, .int .i64 0)] ?_
   refine JQ.mask [At.rd Aa8 c9 fl_Gap.kd a1.Spans true] [false, false, true, false] ?_
   obtain ⟨o1, hit, H0⟩ := bind_some H0
   refine J.loop (σ := (Int × Int)) (τ := Int) (G := Unit) (G' := Unit) _ o1 (fun s g => [(5, .int .i64 s.1), (14, .slice Aa8 a1.Spans.length c9), (15, .int .i64 (a1.Spans.length : Int)), (16, .int .i64 s.2)]) (fun s g => [At.rd Aa8 c9 fl_Gap.kd a1.Spans true]) (fun t => accum_Times.k2 t = some r) (fun t g => [(5, .int .i64 t)]) (fun t g => []) (0, 0) () hit (fun _ h => Heap.to h) ?_ ?_
   · clear hit
     rintro ⟨n33, x34⟩ ⟨⟩ st1 H1 hb1 hr1
     replace H1 : accum_Times.s1 a1 n33 x34 = some st1 := H1
     unfold accum_Times.s1 at H1
     refine JQ.sub [(5, .int .i64 n33), (14, .slice Aa8 a1.Spans.length c9), (15, .int .i64 (a1.Spans.length : Int)), (16, .int .i64 x34)] ?_
     refine JQ.turn (Δ' := [At.rd Aa8 c9 fl_Gap.kd a1.Spans true]) (fun _ h => h.to) ?_
     refine J.sr ?_
     refine JL.pur (.bool (decide (x34 < (a1.Spans.length : Int)))) (some 17) ?_
     refine JL.en ?_
     refine J.seq ?_
     rcases ite_cases H1 with ⟨h43, H1⟩ | ⟨h43, H1⟩
     · refine J.cond_true h43 ?_
       refine J.skip ?_
       refine JQ.ts [(5, .int .i64 n33), (14, .slice Aa8 a1.Spans.length c9), (15, .int .i64 (a1.Spans.length : Int)), (16, .int .i64 x34)] ?_
       refine J.seq ?_
       refine J.block ?_
       refine J.sr ?_
       obtain ⟨⟨h44, h45⟩, H1⟩ := ite_must H1
       refine JL.ixAddr 0 2 c9 .i64 (elems_rd Aa8 c9 fl_Gap.kd a1.Spans true) Try.underlying23 tySize_51 h44 h45 fun g46 o47 hA => ?_
       subst hA
       refine JL.val (mv_51 (ix a1.Spans x34)) (some 19) (gives_loadEl (f := fl_Gap) 0 0 x34 (elems_rd (some ⟨g46, o47, none⟩) c9 fl_Gap.kd a1.Spans true) h44 h45 tySize_51 (.inl ⟨tyAgg_51, rfl⟩)) ?_
       refine JL.alloc (cl_51 zv_51) fun b48 => ?_
       refine JL.store 1 b48 0 51 (cl_51 zv_51) (cl_51 (ix a1.Spans x34)) tySize_51 ?_
       refine JL.es [(5, .int .i64 n33), (7, .pointer (some ⟨b48, 0, none⟩)), (14, .slice (some ⟨g46, o47, none⟩) a1.Spans.length c9), (15, .int .i64 (a1.Spans.length : Int)), (16, .int .i64 x34)] ?_
       refine J.region ?_
       refine JL.mv (.int .i64 n33) ?_
       refine JL.pur (.pointer (some ⟨b48, 1, none⟩)) (some 21) ?_
       refine JL.val (.int .i64 ((ix a1.Spans x34).Many)) (some 22) (yields_load_box 1 1 (holds_box b48 51 (cl_51 (ix a1.Spans x34))) tyAgg_3) ?_
       refine JL.pur (.int .i64 (w64 (n33 + ((ix a1.Spans x34).Many)))) (some 23) ?_
       obtain ⟨n49, en49, H1⟩ := lt_some H1
       refine JL.as' (k := .i64) n49 en49 ?_
       refine JL.end_ ?_
       refine JQ.blk_normal ?_
       refine JQ.ts [(5, .int .i64 n49), (14, .slice (some ⟨g46, o47, none⟩) a1.Spans.length c9), (15, .int .i64 (a1.Spans.length : Int)), (16, .int .i64 x34)] ?_
       refine JQ.mask [At.rd (some ⟨g46, o47, none⟩) c9 fl_Gap.kd a1.Spans true] [true, false] ?_
       refine J.region ?_
       refine JL.pur (.int .i64 (w64 (x34 + 1))) (some 24) ?_
       refine JL.mv (.int .i64 (w64 (x34 + 1))) ?_
       refine JL.en ?_
       exact JQ.again (n49, w64 (x34 + 1)) () (Option.some.inj H1).symm (fun _ h => Heap.to h)
     · refine J.cond_false h43 ?_
       refine J.exit ?_
       refine JQ.then_exit ?_
       refine JQ.then_exit ?_
       refine JQ.blk_exit ?_
       rw [hb1 _ (Option.some.inj H1).symm, fin_brk] at H0
       exact JQ.met n33 () H0 (fun _ h => Heap.to (Heap.pick [] (by decide) h))
   · clear hit H0
     rintro n42 ⟨⟩ H0
     replace H0 : accum_Times.k2 n42 = some r := H0
     unfold accum_Times.k2 at H0
     refine JQ.sub [(5, .int .i64 n42)] ?_
     refine JQ.turn (Δ' := []) (fun _ h => h.to) ?_
     refine JQ.then_normal ?_
     refine J.sr ?_
     refine JL.mv (.int .i64 n42) ?_
     refine JL.as (.int .i64 n42) ?_
     refine JL.as (.int .i64 0) ?_
     refine JL.es [(2, .int .i64 n42), (3, .int .i64 0)] ?_
     refine J.ret ?_
     obtain rfl := Option.some.inj H0
     exact JQ.done' (rs := [.tmp 2, .tmp 3]) (vs := [.int .i64 n42, .int .i64 0]) [] (.inr rfl) ⟨by kernel_rfl, by kernel_rfl, trivial⟩ (fun _ h => Heap.to h) ⟨rfl, rfl⟩

theorem ref18_Times.ok (a1 : Acc) (Aa2 : Option Addr) (c3 : Nat) (Aa5 : Option Addr) (c6 : Nat) (Aa8 : Option Addr) (c9 : Nat) (r : (Int × Int)) (H0 : ref18_Times.f a1 = some r) :
    Does Try.prog 16 [.agg #[.slice Aa2 a1.Sums.length c3, .slice Aa5 a1.Ns.length c6, .slice Aa8 a1.Spans.length c9]].toArray [At.rd Aa2 c3 fl_Count.kd a1.Sums true, At.rd Aa5 c6 fl_Count.kd a1.Ns true, At.rd Aa8 c9 fl_Gap.kd a1.Spans true] [] false (fun v Δ => v = .tuple #[.int .i64 r.1, .int .i64 r.2] ∧ Δ = []) := by
 refine Does.body (vs := [.agg #[.slice Aa2 a1.Sums.length c3, .slice Aa5 a1.Ns.length c6, .slice Aa8 a1.Spans.length c9]]) Try.func16 rfl ⟨.inl rfl, .inl rfl, .inl rfl, trivial⟩ trivial fun w S => ?_
 unfold ref18_Times.f at H0
 refine J.sr ?_
 refine JL.box [.slice Aa2 a1.Sums.length c3, .slice Aa5 a1.Ns.length c6, .slice Aa8 a1.Spans.length c9] fun b11 => ?_
 refine JL.as (.int .i64 0) ?_
 refine JL.as (.int .i64 0) ?_
 refine JL.es [(1, .pointer (some ⟨b11, 0, none⟩))] ?_
 refine J.seq ?_
 refine J.sr ?_
 refine JL.val (.agg #[.slice Aa2 a1.Sums.length c3, .slice Aa5 a1.Ns.length c6, .slice Aa8 a1.Spans.length c9]) (some 6) (yields_load_boxes 3 0 [.slice Aa2 a1.Sums.length c3, .slice Aa5 a1.Ns.length c6, .slice Aa8 a1.Spans.length c9] (holds_box b11 25 [.slice Aa2 a1.Sums.length c3, .slice Aa5 a1.Ns.length c6, .slice Aa8 a1.Spans.length c9]) tyAgg_25 tySize_25) ?_
 obtain ⟨t12, hc13, H0⟩ := bind_some H0
 refine JL.call [] [] [] (ref18_Check.ok a1 Aa2 c3 Aa5 c6 Aa8 c9 _ hc13) ⟨pre_any 0 (view_rd Aa2 c3 fl_Count.kd a1.Sums true true), ⟨pre_any 1 (view_rd Aa5 c6 fl_Count.kd a1.Ns true true), ⟨pre_any 2 (view_rd Aa8 c9 fl_Gap.kd a1.Spans true true), trivial⟩⟩⟩ ?_
 rintro _ _ ⟨rfl, rfl⟩
 refine JL.pur (.bool (!decide (t12 = 0))) (some 8) ?_
 refine JL.es [(1, .pointer (some ⟨b11, 0, none⟩)), (8, .bool (!decide (t12 = 0)))] ?_
 rcases ite_cases H0 with ⟨h14, H0⟩ | ⟨h14, H0⟩
 · refine J.cond_true h14 ?_
   refine J.sr ?_
   refine JL.val (.agg #[.slice Aa2 a1.Sums.length c3, .slice Aa5 a1.Ns.length c6, .slice Aa8 a1.Spans.length c9]) (some 9) (yields_load_boxes 3 0 [.slice Aa2 a1.Sums.length c3, .slice Aa5 a1.Ns.length c6, .slice Aa8 a1.Spans.length c9] (holds_box b11 25 [.slice Aa2 a1.Sums.length c3, .slice Aa5 a1.Ns.length c6, .slice Aa8 a1.Spans.length c9]) tyAgg_25 tySize_25) ?_
   obtain ⟨t15, hc16, H0⟩ := bind_some H0
   refine JL.call [] [] [] (ref18_Check.ok a1 Aa2 c3 Aa5 c6 Aa8 c9 _ hc16) ⟨pre_any 0 (view_rd Aa2 c3 fl_Count.kd a1.Sums true true), ⟨pre_any 1 (view_rd Aa5 c6 fl_Count.kd a1.Ns true true), ⟨pre_any 2 (view_rd Aa8 c9 fl_Gap.kd a1.Spans true true), trivial⟩⟩⟩ ?_
   rintro _ _ ⟨rfl, rfl⟩
   refine JL.as (.int .i64 0) ?_
   refine JL.as (.int .i64 t15) ?_
   refine JL.es [(2, .int .i64 0), (3, .int .i64 t15)] ?_
   refine JQ.mask [] [false, false, false, false] ?_
   refine J.ret ?_
   refine JQ.then_ret ?_
   obtain rfl := Option.some.inj H0
   exact JQ.done' (rs := [.tmp 2, .tmp 3]) (vs := [.int .i64 0, .int .i64 t15]) [] (.inr rfl) ⟨by kernel_rfl, by kernel_rfl, trivial⟩ (fun _ h => Heap.to h) ⟨rfl, rfl⟩
 · refine J.cond_false h14 ?_
   refine J.skip ?_
   refine JQ.ts [(1, .pointer (some ⟨b11, 0, none⟩))] ?_
   refine J.sr ?_
   refine JL.as (.int .i64 0) ?_
   refine JL.en ?_
   refine J.seq ?_
   refine J.sr ?_
   refine JL.as (.int .i64 0) ?_
   refine JL.en ?_
   obtain ⟨o1, hit, H0⟩ := bind_some H0
   refine J.loop (σ := (Int × Int)) (τ := Int) (G := Unit) (G' := Unit) _ o1 (fun s g => [(1, .pointer (some ⟨b11, 0, none⟩)), (4, .int .i64 s.1), (5, .int .i64 s.2)]) (fun s g => [At.box b11 25 [.slice Aa2 a1.Sums.length c3, .slice Aa5 a1.Ns.length c6, .slice Aa8 a1.Spans.length c9], At.rd Aa2 c3 fl_Count.kd a1.Sums true, At.rd Aa5 c6 fl_Count.kd a1.Ns true, At.rd Aa8 c9 fl_Gap.kd a1.Spans true]) (fun t => ref18_Times.k2 t = some r) (fun t g => [(4, .int .i64 t)]) (fun t g => []) (0, 0) () hit (fun _ h => Heap.to (Heap.pick [3, 0, 1, 2] (by decide) h)) ?_ ?_
   · clear hit
     rintro ⟨n33, i34⟩ ⟨⟩ st1 H1 hb1 hr1
     replace H1 : ref18_Times.s1 a1 n33 i34 = some st1 := H1
     unfold ref18_Times.s1 at H1
     refine JQ.sub [(1, .pointer (some ⟨b11, 0, none⟩)), (4, .int .i64 n33), (5, .int .i64 i34)] ?_
     refine JQ.turn (Δ' := [At.box b11 25 [.slice Aa2 a1.Sums.length c3, .slice Aa5 a1.Ns.length c6, .slice Aa8 a1.Spans.length c9], At.rd Aa2 c3 fl_Count.kd a1.Sums true, At.rd Aa5 c6 fl_Count.kd a1.Ns true, At.rd Aa8 c9 fl_Gap.kd a1.Spans true]) (fun _ h => h.to) ?_
     refine J.seq ?_
     refine J.sr ?_
     refine JL.mv (.int .i64 i34) ?_
     refine JL.pur (.pointer (some ⟨b11, 2, none⟩)) (some 12) ?_
     refine JL.val (.slice Aa8 a1.Spans.length c9) (some 13) (yields_load_box 0 2 (holds_box b11 25 [.slice Aa2 a1.Sums.length c3, .slice Aa5 a1.Ns.length c6, .slice Aa8 a1.Spans.length c9]) tyAgg_23) ?_
     refine JL.pur (.int .i64 (a1.Spans.length : Int)) (some 14) ?_
     refine JL.pur (.bool (decide (i34 < (a1.Spans.length : Int)))) (some 15) ?_
     refine JL.es [(1, .pointer (some ⟨b11, 0, none⟩)), (4, .int .i64 n33), (5, .int .i64 i34), (15, .bool (decide (i34 < (a1.Spans.length : Int))))] ?_
     rcases ite_cases H1 with ⟨h42, H1⟩ | ⟨h42, H1⟩
     · refine J.cond_true h42 ?_
       refine J.skip ?_
       refine JQ.ts [(1, .pointer (some ⟨b11, 0, none⟩)), (4, .int .i64 n33), (5, .int .i64 i34)] ?_
       refine J.seq ?_
       refine J.block ?_
       refine J.region ?_
       refine JL.mv (.int .i64 n33) ?_
       refine JL.pur (.pointer (some ⟨b11, 2, none⟩)) (some 19) ?_
       refine JL.val (.slice Aa8 a1.Spans.length c9) (some 20) (yields_load_box 0 2 (holds_box b11 25 [.slice Aa2 a1.Sums.length c3, .slice Aa5 a1.Ns.length c6, .slice Aa8 a1.Spans.length c9]) tyAgg_23) ?_
       refine JL.mv (.int .i64 i34) ?_
       obtain ⟨⟨h43, h44⟩, H1⟩ := ite_must H1
       refine JL.ixAddr 3 2 c9 .i64 (elems_rd Aa8 c9 fl_Gap.kd a1.Spans true) Try.underlying23 tySize_51 h43 h44 fun g45 o46 hA => ?_
       subst hA
       refine JL.pur (.pointer (some ⟨g45, o46 + i34.toNat * 2 + 1, none⟩)) (some 23) ?_
       refine JL.val (.int .i64 ((ix a1.Spans i34).Many)) (some 24) (gives_loadEl (f := fl_Gap) 3 1 i34 (elems_rd (some ⟨g45, o46, none⟩) c9 fl_Gap.kd a1.Spans true) h43 h44 tySize_3 (.inr ⟨tyAgg_3, rfl, rfl⟩)) ?_
       refine JL.pur (.int .i64 (w64 (n33 + ((ix a1.Spans i34).Many)))) (some 25) ?_
       obtain ⟨n47, en47, H1⟩ := lt_some H1
       refine JL.as' (k := .i64) n47 en47 ?_
       refine JL.end_ ?_
       refine JQ.blk_normal ?_
       refine JQ.ts [(1, .pointer (some ⟨b11, 0, none⟩)), (4, .int .i64 n47), (5, .int .i64 i34)] ?_
       refine J.region ?_
       refine JL.mv (.int .i64 i34) ?_
       refine JL.pur (.int .i64 (w64 (i34 + 1))) (some 17) ?_
       refine JL.as (.int .i64 (w64 (i34 + 1))) ?_
       refine JL.en ?_
       exact JQ.again (n47, w64 (i34 + 1)) () (Option.some.inj H1).symm (fun _ h => Heap.to h)
     · refine J.cond_false h42 ?_
       refine J.exit ?_
       refine JQ.then_exit ?_
       refine JQ.then_exit ?_
       refine JQ.blk_exit ?_
       rw [hb1 _ (Option.some.inj H1).symm, fin_brk] at H0
       exact JQ.met n33 () H0 (fun _ h => Heap.to (Heap.pick [] (by decide) h))
   · clear hit H0
     rintro n41 ⟨⟩ H0
     replace H0 : ref18_Times.k2 n41 = some r := H0
     unfold ref18_Times.k2 at H0
     refine JQ.sub [(4, .int .i64 n41)] ?_
     refine JQ.turn (Δ' := []) (fun _ h => h.to) ?_
     refine JQ.then_normal ?_
     refine J.sr ?_
     refine JL.mv (.int .i64 n41) ?_
     refine JL.as (.int .i64 n41) ?_
     refine JL.as (.int .i64 0) ?_
     refine JL.es [(2, .int .i64 n41), (3, .int .i64 0)] ?_
     refine J.ret ?_
     obtain rfl := Option.some.inj H0
     exact JQ.done' (rs := [.tmp 2, .tmp 3]) (vs := [.int .i64 n41, .int .i64 0]) [] (.inr rfl) ⟨by kernel_rfl, by kernel_rfl, trivial⟩ (fun _ h => Heap.to h) ⟨rfl, rfl⟩

theorem ref18_Same.ok (a1 : Acc) (Aa2 : Option Addr) (c3 : Nat) (Aa5 : Option Addr) (c6 : Nat) (Aa8 : Option Addr) (c9 : Nat) (b11 : Acc) (Aa12 : Option Addr) (c13 : Nat) (Aa15 : Option Addr) (c16 : Nat) (Aa18 : Option Addr) (c19 : Nat) (r : Bool) (H0 : ref18_Same.f a1 b11 = some r) :
    Does Try.prog 17 [.agg #[.slice Aa2 a1.Sums.length c3, .slice Aa5 a1.Ns.length c6, .slice Aa8 a1.Spans.length c9], .agg #[.slice Aa12 b11.Sums.length c13, .slice Aa15 b11.Ns.length c16, .slice Aa18 b11.Spans.length c19]].toArray [At.rd Aa2 c3 fl_Count.kd a1.Sums true, At.rd Aa5 c6 fl_Count.kd a1.Ns true, At.rd Aa8 c9 fl_Gap.kd a1.Spans true, At.rd Aa12 c13 fl_Count.kd b11.Sums true, At.rd Aa15 c16 fl_Count.kd b11.Ns true, At.rd Aa18 c19 fl_Gap.kd b11.Spans true] [] false (fun v Δ => v = .bool r ∧ Δ = []) := by
 refine Does.body (vs := [.agg #[.slice Aa2 a1.Sums.length c3, .slice Aa5 a1.Ns.length c6, .slice Aa8 a1.Spans.length c9], .agg #[.slice Aa12 b11.Sums.length c13, .slice Aa15 b11.Ns.length c16, .slice Aa18 b11.Spans.length c19]]) Try.func17 rfl ⟨.inl rfl, .inl rfl, .inl rfl, .inl rfl, .inl rfl, .inl rfl, trivial⟩ trivial fun w S => ?_
 unfold ref18_Same.f at H0
 refine J.sr ?_
 refine JL.box [.slice Aa2 a1.Sums.length c3, .slice Aa5 a1.Ns.length c6, .slice Aa8 a1.Spans.length c9] fun b21 => ?_
 refine JL.box [.slice Aa12 b11.Sums.length c13, .slice Aa15 b11.Ns.length c16, .slice Aa18 b11.Spans.length c19] fun b22 => ?_
 refine JL.as (.bool false) ?_
 refine JL.es [(2, .pointer (some ⟨b21, 0, none⟩)), (3, .pointer (some ⟨b22, 0, none⟩))] ?_
 refine J.seq ?_
 refine J.join (T := Bool) (G := Unit) (fun t => ref18_Same.k1 a1 b11 t = some r) (fun t g => [(2, .pointer (some ⟨b21, 0, none⟩)), (3, .pointer (some ⟨b22, 0, none⟩)), (32, .bool t)]) (fun t g => [At.box b21 25 [.slice Aa2 a1.Sums.length c3, .slice Aa5 a1.Ns.length c6, .slice Aa8 a1.Spans.length c9], At.rd Aa2 c3 fl_Count.kd a1.Sums true, At.rd Aa5 c6 fl_Count.kd a1.Ns true, At.rd Aa8 c9 fl_Gap.kd a1.Spans true, At.box b22 25 [.slice Aa12 b11.Sums.length c13, .slice Aa15 b11.Ns.length c16, .slice Aa18 b11.Spans.length c19], At.rd Aa12 c13 fl_Count.kd b11.Sums true, At.rd Aa15 c16 fl_Count.kd b11.Ns true, At.rd Aa18 c19 fl_Gap.kd b11.Spans true]) ?_ ?_
 · refine J.region ?_
   refine JL.pur (.pointer (some ⟨b21, 0, none⟩)) (some 8) ?_
   refine JL.val (.slice Aa2 a1.Sums.length c3) (some 9) (yields_load_box 6 0 (holds_box b21 25 [.slice Aa2 a1.Sums.length c3, .slice Aa5 a1.Ns.length c6, .slice Aa8 a1.Spans.length c9]) tyAgg_22) ?_
   refine JL.pur (.int .i64 (a1.Sums.length : Int)) (some 10) ?_
   refine JL.pur (.pointer (some ⟨b22, 0, none⟩)) (some 11) ?_
   refine JL.val (.slice Aa12 b11.Sums.length c13) (some 12) (yields_load_box 7 0 (holds_box b22 25 [.slice Aa12 b11.Sums.length c13, .slice Aa15 b11.Ns.length c16, .slice Aa18 b11.Spans.length c19]) tyAgg_22) ?_
   refine JL.pur (.int .i64 (b11.Sums.length : Int)) (some 13) ?_
   refine JL.pur (.bool (!decide ((a1.Sums.length : Int) = (b11.Sums.length : Int)))) (some 14) ?_
   refine JL.mv (.bool (!decide ((a1.Sums.length : Int) = (b11.Sums.length : Int)))) ?_
   rcases ite_cases H0 with ⟨h156, H0⟩ | ⟨h156, H0⟩
   · refine JL.off 7 15 false (some 16) h156 ?_
     refine JL.off 7 15 false (some 17) h156 ?_
     refine JL.off 7 15 false (some 18) h156 ?_
     refine JL.off 7 15 false (some 19) h156 ?_
     refine JL.off 7 15 false (some 20) h156 ?_
     refine JL.off 7 15 false (some 21) h156 ?_
     refine JL.off 7 15 false (some 22) h156 ?_
     refine JL.val (.bool true) (some 23) (gives_pickT h156) ?_
     refine JL.mv (.bool true) ?_
     refine JL.off 16 24 false (some 25) rfl ?_
     refine JL.off 16 24 false (some 26) rfl ?_
     refine JL.off 16 24 false (some 27) rfl ?_
     refine JL.off 16 24 false (some 28) rfl ?_
     refine JL.off 16 24 false (some 29) rfl ?_
     refine JL.off 16 24 false (some 30) rfl ?_
     refine JL.off 16 24 false (some 31) rfl ?_
     refine JL.val (.bool true) (some 32) (gives_pickT rfl) ?_
     refine JL.en ?_
     exact JQ.meet true () H0 (fun _ h => Heap.to (Heap.pick [6, 0, 1, 2, 7, 3, 4, 5] (by decide) h))
   · refine JL.on 7 15 h156 ?_
     refine JL.pur (.pointer (some ⟨b21, 1, none⟩)) (some 16) ?_
     refine JL.on 7 15 h156 ?_
     refine JL.val (.slice Aa5 a1.Ns.length c6) (some 17) (yields_load_box 6 1 (holds_box b21 25 [.slice Aa2 a1.Sums.length c3, .slice Aa5 a1.Ns.length c6, .slice Aa8 a1.Spans.length c9]) tyAgg_22) ?_
     refine JL.on 7 15 h156 ?_
     refine JL.pur (.int .i64 (a1.Ns.length : Int)) (some 18) ?_
     refine JL.on 7 15 h156 ?_
     refine JL.pur (.pointer (some ⟨b22, 1, none⟩)) (some 19) ?_
     refine JL.on 7 15 h156 ?_
     refine JL.val (.slice Aa15 b11.Ns.length c16) (some 20) (yields_load_box 7 1 (holds_box b22 25 [.slice Aa12 b11.Sums.length c13, .slice Aa15 b11.Ns.length c16, .slice Aa18 b11.Spans.length c19]) tyAgg_22) ?_
     refine JL.on 7 15 h156 ?_
     refine JL.pur (.int .i64 (b11.Ns.length : Int)) (some 21) ?_
     refine JL.on 7 15 h156 ?_
     refine JL.pur (.bool (!decide ((a1.Ns.length : Int) = (b11.Ns.length : Int)))) (some 22) ?_
     refine JL.val (.bool (!decide ((a1.Ns.length : Int) = (b11.Ns.length : Int)))) (some 23) (gives_pickF h156) ?_
     refine JL.mv (.bool (!decide ((a1.Ns.length : Int) = (b11.Ns.length : Int)))) ?_
     rcases ite_cases H0 with ⟨h157, H0⟩ | ⟨h157, H0⟩
     · refine JL.off 16 24 false (some 25) h157 ?_
       refine JL.off 16 24 false (some 26) h157 ?_
       refine JL.off 16 24 false (some 27) h157 ?_
       refine JL.off 16 24 false (some 28) h157 ?_
       refine JL.off 16 24 false (some 29) h157 ?_
       refine JL.off 16 24 false (some 30) h157 ?_
       refine JL.off 16 24 false (some 31) h157 ?_
       refine JL.val (.bool true) (some 32) (gives_pickT h157) ?_
       refine JL.en ?_
       exact JQ.meet true () H0 (fun _ h => Heap.to (Heap.pick [6, 0, 1, 2, 7, 3, 4, 5] (by decide) h))
     · refine JL.on 16 24 h157 ?_
       refine JL.pur (.pointer (some ⟨b21, 2, none⟩)) (some 25) ?_
       refine JL.on 16 24 h157 ?_
       refine JL.val (.slice Aa8 a1.Spans.length c9) (some 26) (yields_load_box 6 2 (holds_box b21 25 [.slice Aa2 a1.Sums.length c3, .slice Aa5 a1.Ns.length c6, .slice Aa8 a1.Spans.length c9]) tyAgg_23) ?_
       refine JL.on 16 24 h157 ?_
       refine JL.pur (.int .i64 (a1.Spans.length : Int)) (some 27) ?_
       refine JL.on 16 24 h157 ?_
       refine JL.pur (.pointer (some ⟨b22, 2, none⟩)) (some 28) ?_
       refine JL.on 16 24 h157 ?_
       refine JL.val (.slice Aa18 b11.Spans.length c19) (some 29) (yields_load_box 7 2 (holds_box b22 25 [.slice Aa12 b11.Sums.length c13, .slice Aa15 b11.Ns.length c16, .slice Aa18 b11.Spans.length c19]) tyAgg_23) ?_
       refine JL.on 16 24 h157 ?_
       refine JL.pur (.int .i64 (b11.Spans.length : Int)) (some 30) ?_
       refine JL.on 16 24 h157 ?_
       refine JL.pur (.bool (!decide ((a1.Spans.length : Int) = (b11.Spans.length : Int)))) (some 31) ?_
       refine JL.val (.bool (!decide ((a1.Spans.length : Int) = (b11.Spans.length : Int)))) (some 32) (gives_pickF h157) ?_
       refine JL.en ?_
       exact JQ.meet (!decide ((a1.Spans.length : Int) = (b11.Spans.length : Int))) () H0 (fun _ h => Heap.to (Heap.pick [6, 0, 1, 2, 7, 3, 4, 5] (by decide) h))
 · clear H0
   rintro x25 ⟨⟩ H0
   replace H0 : ref18_Same.k1 a1 b11 x25 = some r := H0
   unfold ref18_Same.k1 at H0
   refine JQ.sub [(2, .pointer (some ⟨b21, 0, none⟩)), (3, .pointer (some ⟨b22, 0, none⟩)), (32, .bool x25)] ?_
   refine JQ.turn (Δ' := [At.box b21 25 [.slice Aa2 a1.Sums.length c3, .slice Aa5 a1.Ns.length c6, .slice Aa8 a1.Spans.length c9], At.rd Aa2 c3 fl_Count.kd a1.Sums true, At.rd Aa5 c6 fl_Count.kd a1.Ns true, At.rd Aa8 c9 fl_Gap.kd a1.Spans true, At.box b22 25 [.slice Aa12 b11.Sums.length c13, .slice Aa15 b11.Ns.length c16, .slice Aa18 b11.Spans.length c19], At.rd Aa12 c13 fl_Count.kd b11.Sums true, At.rd Aa15 c16 fl_Count.kd b11.Ns true, At.rd Aa18 c19 fl_Gap.kd b11.Spans true]) (fun _ h => h.to) ?_
   rcases ite_cases H0 with ⟨h26, H0⟩ | ⟨h26, H0⟩
   · refine J.cond_true h26 ?_
     refine J.sr ?_
     refine JL.as (.bool false) ?_
     refine JL.es [(4, .bool false)] ?_
     refine JQ.mask [] [false, false, false, false, false, false, false, false] ?_
     refine J.ret ?_
     refine JQ.then_ret ?_
     obtain rfl := Option.some.inj H0
     exact JQ.done' (rs := [.tmp 4]) (vs := [.bool false]) [] (.inr rfl) ⟨by kernel_rfl, trivial⟩ (fun _ h => Heap.to h) ⟨rfl, rfl⟩
   · refine J.cond_false h26 ?_
     refine J.skip ?_
     refine JQ.ts [(2, .pointer (some ⟨b21, 0, none⟩)), (3, .pointer (some ⟨b22, 0, none⟩))] ?_
     refine J.seq ?_
     refine J.sr ?_
     refine JL.as (.int .i64 0) ?_
     refine JL.en ?_
     obtain ⟨o1, hit, H0⟩ := bind_some H0
     refine J.loop (σ := Int) (τ := Unit) (G := Unit) (G' := Unit) _ o1 (fun s g => [(2, .pointer (some ⟨b21, 0, none⟩)), (3, .pointer (some ⟨b22, 0, none⟩)), (5, .int .i64 s)]) (fun s g => [At.box b21 25 [.slice Aa2 a1.Sums.length c3, .slice Aa5 a1.Ns.length c6, .slice Aa8 a1.Spans.length c9], At.rd Aa2 c3 fl_Count.kd a1.Sums true, At.rd Aa5 c6 fl_Count.kd a1.Ns true, At.rd Aa8 c9 fl_Gap.kd a1.Spans true, At.box b22 25 [.slice Aa12 b11.Sums.length c13, .slice Aa15 b11.Ns.length c16, .slice Aa18 b11.Spans.length c19], At.rd Aa12 c13 fl_Count.kd b11.Sums true, At.rd Aa15 c16 fl_Count.kd b11.Ns true, At.rd Aa18 c19 fl_Gap.kd b11.Spans true]) (fun t => ref18_Same.k3 a1 b11 = some r) (fun t g => [(2, .pointer (some ⟨b21, 0, none⟩)), (3, .pointer (some ⟨b22, 0, none⟩))]) (fun t g => [At.box b21 25 [.slice Aa2 a1.Sums.length c3, .slice Aa5 a1.Ns.length c6, .slice Aa8 a1.Spans.length c9], At.rd Aa2 c3 fl_Count.kd a1.Sums true, At.rd Aa5 c6 fl_Count.kd a1.Ns true, At.rd Aa8 c9 fl_Gap.kd a1.Spans true, At.box b22 25 [.slice Aa12 b11.Sums.length c13, .slice Aa15 b11.Ns.length c16, .slice Aa18 b11.Spans.length c19], At.rd Aa12 c13 fl_Count.kd b11.Sums true, At.rd Aa15 c16 fl_Count.kd b11.Ns true, At.rd Aa18 c19 fl_Gap.kd b11.Spans true]) 0 () hit (fun _ h => Heap.to h) ?_ ?_
     · clear hit
       rintro i49 ⟨⟩ st1 H1 hb1 hr1
       replace H1 : ref18_Same.s2 a1 b11 i49 = some st1 := H1
       unfold ref18_Same.s2 at H1
       refine JQ.sub [(2, .pointer (some ⟨b21, 0, none⟩)), (3, .pointer (some ⟨b22, 0, none⟩)), (5, .int .i64 i49)] ?_
       refine JQ.turn (Δ' := [At.box b21 25 [.slice Aa2 a1.Sums.length c3, .slice Aa5 a1.Ns.length c6, .slice Aa8 a1.Spans.length c9], At.rd Aa2 c3 fl_Count.kd a1.Sums true, At.rd Aa5 c6 fl_Count.kd a1.Ns true, At.rd Aa8 c9 fl_Gap.kd a1.Spans true, At.box b22 25 [.slice Aa12 b11.Sums.length c13, .slice Aa15 b11.Ns.length c16, .slice Aa18 b11.Spans.length c19], At.rd Aa12 c13 fl_Count.kd b11.Sums true, At.rd Aa15 c16 fl_Count.kd b11.Ns true, At.rd Aa18 c19 fl_Gap.kd b11.Spans true]) (fun _ h => h.to) ?_
       refine J.seq ?_
       refine J.sr ?_
       refine JL.mv (.int .i64 i49) ?_
       refine JL.pur (.pointer (some ⟨b21, 0, none⟩)) (some 34) ?_
       refine JL.val (.slice Aa2 a1.Sums.length c3) (some 35) (yields_load_box 0 0 (holds_box b21 25 [.slice Aa2 a1.Sums.length c3, .slice Aa5 a1.Ns.length c6, .slice Aa8 a1.Spans.length c9]) tyAgg_22) ?_
       refine JL.pur (.int .i64 (a1.Sums.length : Int)) (some 36) ?_
       refine JL.pur (.bool (decide (i49 < (a1.Sums.length : Int)))) (some 37) ?_
       refine JL.es [(2, .pointer (some ⟨b21, 0, none⟩)), (3, .pointer (some ⟨b22, 0, none⟩)), (5, .int .i64 i49), (37, .bool (decide (i49 < (a1.Sums.length : Int))))] ?_
       rcases ite_cases H1 with ⟨h146, H1⟩ | ⟨h146, H1⟩
       · refine J.cond_true h146 ?_
         refine J.skip ?_
         refine JQ.ts [(2, .pointer (some ⟨b21, 0, none⟩)), (3, .pointer (some ⟨b22, 0, none⟩)), (5, .int .i64 i49)] ?_
         refine J.seq ?_
         refine J.block ?_
         refine J.seq ?_
         refine J.draw ?_
         refine QL.pur (.pointer (some ⟨b21, 0, none⟩)) (some 40) ?_
         refine QL.val (.slice Aa2 a1.Sums.length c3) (some 41) (yields_load_box 0 0 (holds_box b21 25 [.slice Aa2 a1.Sums.length c3, .slice Aa5 a1.Ns.length c6, .slice Aa8 a1.Spans.length c9]) tyAgg_22) ?_
         refine QL.mv (.int .i64 i49) ?_
         obtain ⟨⟨h147, h148⟩, H1⟩ := ite_must H1
         refine QL.ixAddr 1 2 c3 .i64 (elems_rd Aa2 c3 fl_Count.kd a1.Sums true) Try.underlying22 tySize_49 h147 h148 fun g149 o150 hA => ?_
         subst hA
         refine QL.val (mv_49 (ix a1.Sums i49)) (some 44) (gives_loadEl (f := fl_Count) 1 0 i49 (elems_rd (some ⟨g149, o150, none⟩) c3 fl_Count.kd a1.Sums true) h147 h148 tySize_49 (.inl ⟨tyAgg_49, rfl⟩)) ?_
         refine QL.pur (.pointer (some ⟨b22, 0, none⟩)) (some 45) ?_
         refine QL.val (.slice Aa12 b11.Sums.length c13) (some 46) (yields_load_box 4 0 (holds_box b22 25 [.slice Aa12 b11.Sums.length c13, .slice Aa15 b11.Ns.length c16, .slice Aa18 b11.Spans.length c19]) tyAgg_22) ?_
         refine QL.mv (.int .i64 i49) ?_
         obtain ⟨⟨h151, h152⟩, H1⟩ := ite_must H1
         refine QL.ixAddr 5 2 c13 .i64 (elems_rd Aa12 c13 fl_Count.kd b11.Sums true) Try.underlying22 tySize_49 h151 h152 fun g153 o154 hA => ?_
         subst hA
         refine QL.val (mv_49 (ix b11.Sums i49)) (some 49) (gives_loadEl (f := fl_Count) 5 0 i49 (elems_rd (some ⟨g153, o154, none⟩) c13 fl_Count.kd b11.Sums true) h151 h152 tySize_49 (.inl ⟨tyAgg_49, rfl⟩)) ?_
         refine QL.val (.bool (!decide ((ix a1.Sums i49) = (ix b11.Sums i49)))) (some 50) (gives_neq eqg_49 (fun w => eqt_49 (ix a1.Sums i49) (ix b11.Sums i49) w)) ?_
         refine QL.nil ?_
         refine JA.nil ?_
         refine JQ.ts [(2, .pointer (some ⟨b21, 0, none⟩)), (3, .pointer (some ⟨b22, 0, none⟩)), (5, .int .i64 i49), (50, .bool (!decide ((ix a1.Sums i49) = (ix b11.Sums i49))))] ?_
         rcases ite_cases H1 with ⟨h155, H1⟩ | ⟨h155, H1⟩
         · refine J.cond_true h155 ?_
           refine J.sr ?_
           refine JL.as (.bool false) ?_
           refine JL.es [(4, .bool false)] ?_
           refine JQ.mask [] [false, false, false, false, false, false, false, false] ?_
           refine J.ret ?_
           refine JQ.blk_ret ?_
           refine JQ.then_ret ?_
           refine JQ.then_ret ?_
           refine JQ.blk_ret ?_
           refine JQ.met_ret ?_
           refine JQ.then_ret ?_
           rw [hr1 _ (Option.some.inj H1).symm, fin_ret] at H0
           obtain rfl := Option.some.inj H0
           exact JQ.done' (rs := [.tmp 4]) (vs := [.bool false]) [] (.inr rfl) ⟨by kernel_rfl, trivial⟩ (fun _ h => Heap.to h) ⟨rfl, rfl⟩
         · refine J.cond_false h155 ?_
           refine J.skip ?_
           refine JQ.blk_normal ?_
           refine JQ.ts [(2, .pointer (some ⟨b21, 0, none⟩)), (3, .pointer (some ⟨b22, 0, none⟩)), (5, .int .i64 i49)] ?_
           refine J.region ?_
           refine JL.mv (.int .i64 i49) ?_
           refine JL.pur (.int .i64 (w64 (i49 + 1))) (some 39) ?_
           refine JL.as (.int .i64 (w64 (i49 + 1))) ?_
           refine JL.en ?_
           exact JQ.again (w64 (i49 + 1)) () (Option.some.inj H1).symm (fun _ h => Heap.to h)
       · refine J.cond_false h146 ?_
         refine J.exit ?_
         refine JQ.then_exit ?_
         refine JQ.then_exit ?_
         refine JQ.blk_exit ?_
         rw [hb1 _ (Option.some.inj H1).symm, fin_brk] at H0
         exact JQ.met () () H0 (fun _ h => Heap.to h)
     · clear hit H0
       rintro ⟨⟩ ⟨⟩ H0
       replace H0 : ref18_Same.k3 a1 b11 = some r := H0
       unfold ref18_Same.k3 at H0
       refine JQ.sub [(2, .pointer (some ⟨b21, 0, none⟩)), (3, .pointer (some ⟨b22, 0, none⟩))] ?_
       refine JQ.turn (Δ' := [At.box b21 25 [.slice Aa2 a1.Sums.length c3, .slice Aa5 a1.Ns.length c6, .slice Aa8 a1.Spans.length c9], At.rd Aa2 c3 fl_Count.kd a1.Sums true, At.rd Aa5 c6 fl_Count.kd a1.Ns true, At.rd Aa8 c9 fl_Gap.kd a1.Spans true, At.box b22 25 [.slice Aa12 b11.Sums.length c13, .slice Aa15 b11.Ns.length c16, .slice Aa18 b11.Spans.length c19], At.rd Aa12 c13 fl_Count.kd b11.Sums true, At.rd Aa15 c16 fl_Count.kd b11.Ns true, At.rd Aa18 c19 fl_Gap.kd b11.Spans true]) (fun _ h => h.to) ?_
       refine JQ.then_normal ?_
       refine J.seq ?_
       refine J.sr ?_
       refine JL.as (.int .i64 0) ?_
       refine JL.en ?_
       obtain ⟨o1, hit, H0⟩ := bind_some H0
       refine J.loop (σ := Int) (τ := Unit) (G := Unit) (G' := Unit) _ o1 (fun s g => [(2, .pointer (some ⟨b21, 0, none⟩)), (3, .pointer (some ⟨b22, 0, none⟩)), (6, .int .i64 s)]) (fun s g => [At.box b21 25 [.slice Aa2 a1.Sums.length c3, .slice Aa5 a1.Ns.length c6, .slice Aa8 a1.Spans.length c9], At.rd Aa2 c3 fl_Count.kd a1.Sums true, At.rd Aa5 c6 fl_Count.kd a1.Ns true, At.rd Aa8 c9 fl_Gap.kd a1.Spans true, At.box b22 25 [.slice Aa12 b11.Sums.length c13, .slice Aa15 b11.Ns.length c16, .slice Aa18 b11.Spans.length c19], At.rd Aa12 c13 fl_Count.kd b11.Sums true, At.rd Aa15 c16 fl_Count.kd b11.Ns true, At.rd Aa18 c19 fl_Gap.kd b11.Spans true]) (fun t => ref18_Same.k5 a1 b11 = some r) (fun t g => [(2, .pointer (some ⟨b21, 0, none⟩)), (3, .pointer (some ⟨b22, 0, none⟩))]) (fun t g => [At.box b21 25 [.slice Aa2 a1.Sums.length c3, .slice Aa5 a1.Ns.length c6, .slice Aa8 a1.Spans.length c9], At.rd Aa2 c3 fl_Count.kd a1.Sums true, At.rd Aa5 c6 fl_Count.kd a1.Ns true, At.rd Aa8 c9 fl_Gap.kd a1.Spans true, At.box b22 25 [.slice Aa12 b11.Sums.length c13, .slice Aa15 b11.Ns.length c16, .slice Aa18 b11.Spans.length c19], At.rd Aa12 c13 fl_Count.kd b11.Sums true, At.rd Aa15 c16 fl_Count.kd b11.Ns true, At.rd Aa18 c19 fl_Gap.kd b11.Spans true]) 0 () hit (fun _ h => Heap.to h) ?_ ?_
       · clear hit
         rintro i82 ⟨⟩ st1 H1 hb1 hr1
         replace H1 : ref18_Same.s4 a1 b11 i82 = some st1 := H1
         unfold ref18_Same.s4 at H1
         refine JQ.sub [(2, .pointer (some ⟨b21, 0, none⟩)), (3, .pointer (some ⟨b22, 0, none⟩)), (6, .int .i64 i82)] ?_
         refine JQ.turn (Δ' := [At.box b21 25 [.slice Aa2 a1.Sums.length c3, .slice Aa5 a1.Ns.length c6, .slice Aa8 a1.Spans.length c9], At.rd Aa2 c3 fl_Count.kd a1.Sums true, At.rd Aa5 c6 fl_Count.kd a1.Ns true, At.rd Aa8 c9 fl_Gap.kd a1.Spans true, At.box b22 25 [.slice Aa12 b11.Sums.length c13, .slice Aa15 b11.Ns.length c16, .slice Aa18 b11.Spans.length c19], At.rd Aa12 c13 fl_Count.kd b11.Sums true, At.rd Aa15 c16 fl_Count.kd b11.Ns true, At.rd Aa18 c19 fl_Gap.kd b11.Spans true]) (fun _ h => h.to) ?_
         refine J.seq ?_
         refine J.sr ?_
         refine JL.mv (.int .i64 i82) ?_
         refine JL.pur (.pointer (some ⟨b21, 1, none⟩)) (some 52) ?_
         refine JL.val (.slice Aa5 a1.Ns.length c6) (some 53) (yields_load_box 0 1 (holds_box b21 25 [.slice Aa2 a1.Sums.length c3, .slice Aa5 a1.Ns.length c6, .slice Aa8 a1.Spans.length c9]) tyAgg_22) ?_
         refine JL.pur (.int .i64 (a1.Ns.length : Int)) (some 54) ?_
         refine JL.pur (.bool (decide (i82 < (a1.Ns.length : Int)))) (some 55) ?_
         refine JL.es [(2, .pointer (some ⟨b21, 0, none⟩)), (3, .pointer (some ⟨b22, 0, none⟩)), (6, .int .i64 i82), (55, .bool (decide (i82 < (a1.Ns.length : Int))))] ?_
         rcases ite_cases H1 with ⟨h136, H1⟩ | ⟨h136, H1⟩
         · refine J.cond_true h136 ?_
           refine J.skip ?_
           refine JQ.ts [(2, .pointer (some ⟨b21, 0, none⟩)), (3, .pointer (some ⟨b22, 0, none⟩)), (6, .int .i64 i82)] ?_
           refine J.seq ?_
           refine J.block ?_
           refine J.seq ?_
           refine J.draw ?_
           refine QL.pur (.pointer (some ⟨b21, 1, none⟩)) (some 58) ?_
           refine QL.val (.slice Aa5 a1.Ns.length c6) (some 59) (yields_load_box 0 1 (holds_box b21 25 [.slice Aa2 a1.Sums.length c3, .slice Aa5 a1.Ns.length c6, .slice Aa8 a1.Spans.length c9]) tyAgg_22) ?_
           refine QL.mv (.int .i64 i82) ?_
           obtain ⟨⟨h137, h138⟩, H1⟩ := ite_must H1
           refine QL.ixAddr 2 2 c6 .i64 (elems_rd Aa5 c6 fl_Count.kd a1.Ns true) Try.underlying22 tySize_49 h137 h138 fun g139 o140 hA => ?_
           subst hA
           refine QL.val (mv_49 (ix a1.Ns i82)) (some 62) (gives_loadEl (f := fl_Count) 2 0 i82 (elems_rd (some ⟨g139, o140, none⟩) c6 fl_Count.kd a1.Ns true) h137 h138 tySize_49 (.inl ⟨tyAgg_49, rfl⟩)) ?_
           refine QL.pur (.pointer (some ⟨b22, 1, none⟩)) (some 63) ?_
           refine QL.val (.slice Aa15 b11.Ns.length c16) (some 64) (yields_load_box 4 1 (holds_box b22 25 [.slice Aa12 b11.Sums.length c13, .slice Aa15 b11.Ns.length c16, .slice Aa18 b11.Spans.length c19]) tyAgg_22) ?_
           refine QL.mv (.int .i64 i82) ?_
           obtain ⟨⟨h141, h142⟩, H1⟩ := ite_must H1
           refine QL.ixAddr 6 2 c16 .i64 (elems_rd Aa15 c16 fl_Count.kd b11.Ns true) Try.underlying22 tySize_49 h141 h142 fun g143 o144 hA => ?_
           subst hA
           refine QL.val (mv_49 (ix b11.Ns i82)) (some 67) (gives_loadEl (f := fl_Count) 6 0 i82 (elems_rd (some ⟨g143, o144, none⟩) c16 fl_Count.kd b11.Ns true) h141 h142 tySize_49 (.inl ⟨tyAgg_49, rfl⟩)) ?_
           refine QL.val (.bool (!decide ((ix a1.Ns i82) = (ix b11.Ns i82)))) (some 68) (gives_neq eqg_49 (fun w => eqt_49 (ix a1.Ns i82) (ix b11.Ns i82) w)) ?_
           refine QL.nil ?_
           refine JA.nil ?_
           refine JQ.ts [(2, .pointer (some ⟨b21, 0, none⟩)), (3, .pointer (some ⟨b22, 0, none⟩)), (6, .int .i64 i82), (68, .bool (!decide ((ix a1.Ns i82) = (ix b11.Ns i82))))] ?_
           rcases ite_cases H1 with ⟨h145, H1⟩ | ⟨h145, H1⟩
           · refine J.cond_true h145 ?_
             refine J.sr ?_
             refine JL.as (.bool false) ?_
             refine JL.es [(4, .bool false)] ?_
             refine JQ.mask [] [false, false, false, false, false, false, false, false] ?_
             refine J.ret ?_
             refine JQ.blk_ret ?_
             refine JQ.then_ret ?_
             refine JQ.then_ret ?_
             refine JQ.blk_ret ?_
             refine JQ.met_ret ?_
             refine JQ.then_ret ?_
             rw [hr1 _ (Option.some.inj H1).symm, fin_ret] at H0
             obtain rfl := Option.some.inj H0
             exact JQ.done' (rs := [.tmp 4]) (vs := [.bool false]) [] (.inr rfl) ⟨by kernel_rfl, trivial⟩ (fun _ h => Heap.to h) ⟨rfl, rfl⟩
           · refine J.cond_false h145 ?_
             refine J.skip ?_
             refine JQ.blk_normal ?_
             refine JQ.ts [(2, .pointer (some ⟨b21, 0, none⟩)), (3, .pointer (some ⟨b22, 0, none⟩)), (6, .int .i64 i82)] ?_
             refine J.region ?_
             refine JL.mv (.int .i64 i82) ?_
             refine JL.pur (.int .i64 (w64 (i82 + 1))) (some 57) ?_
             refine JL.as (.int .i64 (w64 (i82 + 1))) ?_
             refine JL.en ?_
             exact JQ.again (w64 (i82 + 1)) () (Option.some.inj H1).symm (fun _ h => Heap.to h)
         · refine J.cond_false h136 ?_
           refine J.exit ?_
           refine JQ.then_exit ?_
           refine JQ.then_exit ?_
           refine JQ.blk_exit ?_
           rw [hb1 _ (Option.some.inj H1).symm, fin_brk] at H0
           exact JQ.met () () H0 (fun _ h => Heap.to h)
       · clear hit H0
         rintro ⟨⟩ ⟨⟩ H0
         replace H0 : ref18_Same.k5 a1 b11 = some r := H0
         unfold ref18_Same.k5 at H0
         refine JQ.sub [(2, .pointer (some ⟨b21, 0, none⟩)), (3, .pointer (some ⟨b22, 0, none⟩))] ?_
         refine JQ.turn (Δ' := [At.box b21 25 [.slice Aa2 a1.Sums.length c3, .slice Aa5 a1.Ns.length c6, .slice Aa8 a1.Spans.length c9], At.rd Aa2 c3 fl_Count.kd a1.Sums true, At.rd Aa5 c6 fl_Count.kd a1.Ns true, At.rd Aa8 c9 fl_Gap.kd a1.Spans true, At.box b22 25 [.slice Aa12 b11.Sums.length c13, .slice Aa15 b11.Ns.length c16, .slice Aa18 b11.Spans.length c19], At.rd Aa12 c13 fl_Count.kd b11.Sums true, At.rd Aa15 c16 fl_Count.kd b11.Ns true, At.rd Aa18 c19 fl_Gap.kd b11.Spans true]) (fun _ h => h.to) ?_
         refine JQ.then_normal ?_
         refine J.seq ?_
         refine J.sr ?_
         refine JL.as (.int .i64 0) ?_
         refine JL.en ?_
         obtain ⟨o1, hit, H0⟩ := bind_some H0
         refine J.loop (σ := Int) (τ := Unit) (G := Unit) (G' := Unit) _ o1 (fun s g => [(2, .pointer (some ⟨b21, 0, none⟩)), (3, .pointer (some ⟨b22, 0, none⟩)), (7, .int .i64 s)]) (fun s g => [At.box b21 25 [.slice Aa2 a1.Sums.length c3, .slice Aa5 a1.Ns.length c6, .slice Aa8 a1.Spans.length c9], At.rd Aa2 c3 fl_Count.kd a1.Sums true, At.rd Aa5 c6 fl_Count.kd a1.Ns true, At.rd Aa8 c9 fl_Gap.kd a1.Spans true, At.box b22 25 [.slice Aa12 b11.Sums.length c13, .slice Aa15 b11.Ns.length c16, .slice Aa18 b11.Spans.length c19], At.rd Aa12 c13 fl_Count.kd b11.Sums true, At.rd Aa15 c16 fl_Count.kd b11.Ns true, At.rd Aa18 c19 fl_Gap.kd b11.Spans true]) (fun t => ref18_Same.k7 = some r) (fun t g => []) (fun t g => []) 0 () hit (fun _ h => Heap.to h) ?_ ?_
         · clear hit
           rintro i115 ⟨⟩ st1 H1 hb1 hr1
           replace H1 : ref18_Same.s6 a1 b11 i115 = some st1 := H1
           unfold ref18_Same.s6 at H1
           refine JQ.sub [(2, .pointer (some ⟨b21, 0, none⟩)), (3, .pointer (some ⟨b22, 0, none⟩)), (7, .int .i64 i115)] ?_
           refine JQ.turn (Δ' := [At.box b21 25 [.slice Aa2 a1.Sums.length c3, .slice Aa5 a1.Ns.length c6, .slice Aa8 a1.Spans.length c9], At.rd Aa2 c3 fl_Count.kd a1.Sums true, At.rd Aa5 c6 fl_Count.kd a1.Ns true, At.rd Aa8 c9 fl_Gap.kd a1.Spans true, At.box b22 25 [.slice Aa12 b11.Sums.length c13, .slice Aa15 b11.Ns.length c16, .slice Aa18 b11.Spans.length c19], At.rd Aa12 c13 fl_Count.kd b11.Sums true, At.rd Aa15 c16 fl_Count.kd b11.Ns true, At.rd Aa18 c19 fl_Gap.kd b11.Spans true]) (fun _ h => h.to) ?_
           refine J.seq ?_
           refine J.sr ?_
           refine JL.mv (.int .i64 i115) ?_
           refine JL.pur (.pointer (some ⟨b21, 2, none⟩)) (some 70) ?_
           refine JL.val (.slice Aa8 a1.Spans.length c9) (some 71) (yields_load_box 0 2 (holds_box b21 25 [.slice Aa2 a1.Sums.length c3, .slice Aa5 a1.Ns.length c6, .slice Aa8 a1.Spans.length c9]) tyAgg_23) ?_
           refine JL.pur (.int .i64 (a1.Spans.length : Int)) (some 72) ?_
           refine JL.pur (.bool (decide (i115 < (a1.Spans.length : Int)))) (some 73) ?_
           refine JL.es [(2, .pointer (some ⟨b21, 0, none⟩)), (3, .pointer (some ⟨b22, 0, none⟩)), (7, .int .i64 i115), (73, .bool (decide (i115 < (a1.Spans.length : Int))))] ?_
           rcases ite_cases H1 with ⟨h126, H1⟩ | ⟨h126, H1⟩
           · refine J.cond_true h126 ?_
             refine J.skip ?_
             refine JQ.ts [(2, .pointer (some ⟨b21, 0, none⟩)), (3, .pointer (some ⟨b22, 0, none⟩)), (7, .int .i64 i115)] ?_
             refine J.seq ?_
             refine J.block ?_
             refine J.seq ?_
             refine J.draw ?_
             refine QL.pur (.pointer (some ⟨b21, 2, none⟩)) (some 76) ?_
             refine QL.val (.slice Aa8 a1.Spans.length c9) (some 77) (yields_load_box 0 2 (holds_box b21 25 [.slice Aa2 a1.Sums.length c3, .slice Aa5 a1.Ns.length c6, .slice Aa8 a1.Spans.length c9]) tyAgg_23) ?_
             refine QL.mv (.int .i64 i115) ?_
             obtain ⟨⟨h127, h128⟩, H1⟩ := ite_must H1
             refine QL.ixAddr 3 2 c9 .i64 (elems_rd Aa8 c9 fl_Gap.kd a1.Spans true) Try.underlying23 tySize_51 h127 h128 fun g129 o130 hA => ?_
             subst hA
             refine QL.val (mv_51 (ix a1.Spans i115)) (some 80) (gives_loadEl (f := fl_Gap) 3 0 i115 (elems_rd (some ⟨g129, o130, none⟩) c9 fl_Gap.kd a1.Spans true) h127 h128 tySize_51 (.inl ⟨tyAgg_51, rfl⟩)) ?_
             refine QL.pur (.pointer (some ⟨b22, 2, none⟩)) (some 81) ?_
             refine QL.val (.slice Aa18 b11.Spans.length c19) (some 82) (yields_load_box 4 2 (holds_box b22 25 [.slice Aa12 b11.Sums.length c13, .slice Aa15 b11.Ns.length c16, .slice Aa18 b11.Spans.length c19]) tyAgg_23) ?_
             refine QL.mv (.int .i64 i115) ?_
             obtain ⟨⟨h131, h132⟩, H1⟩ := ite_must H1
             refine QL.ixAddr 7 2 c19 .i64 (elems_rd Aa18 c19 fl_Gap.kd b11.Spans true) Try.underlying23 tySize_51 h131 h132 fun g133 o134 hA => ?_
             subst hA
             refine QL.val (mv_51 (ix b11.Spans i115)) (some 85) (gives_loadEl (f := fl_Gap) 7 0 i115 (elems_rd (some ⟨g133, o134, none⟩) c19 fl_Gap.kd b11.Spans true) h131 h132 tySize_51 (.inl ⟨tyAgg_51, rfl⟩)) ?_
             refine QL.val (.bool (!decide ((ix a1.Spans i115) = (ix b11.Spans i115)))) (some 86) (gives_neq eqg_51 (fun w => eqt_51 (ix a1.Spans i115) (ix b11.Spans i115) w)) ?_
             refine QL.nil ?_
             refine JA.nil ?_
             refine JQ.ts [(2, .pointer (some ⟨b21, 0, none⟩)), (3, .pointer (some ⟨b22, 0, none⟩)), (7, .int .i64 i115), (86, .bool (!decide ((ix a1.Spans i115) = (ix b11.Spans i115))))] ?_
             rcases ite_cases H1 with ⟨h135, H1⟩ | ⟨h135, H1⟩
             · refine J.cond_true h135 ?_
               refine J.sr ?_
               refine JL.as (.bool false) ?_
               refine JL.es [(4, .bool false)] ?_
               refine JQ.mask [] [false, false, false, false, false, false, false, false] ?_
               refine J.ret ?_
               refine JQ.blk_ret ?_
               refine JQ.then_ret ?_
               refine JQ.then_ret ?_
               refine JQ.blk_ret ?_
               refine JQ.met_ret ?_
               refine JQ.then_ret ?_
               rw [hr1 _ (Option.some.inj H1).symm, fin_ret] at H0
               obtain rfl := Option.some.inj H0
               exact JQ.done' (rs := [.tmp 4]) (vs := [.bool false]) [] (.inr rfl) ⟨by kernel_rfl, trivial⟩ (fun _ h => Heap.to h) ⟨rfl, rfl⟩
             · refine J.cond_false h135 ?_
               refine J.skip ?_
               refine JQ.blk_normal ?_
               refine JQ.ts [(2, .pointer (some ⟨b21, 0, none⟩)), (3, .pointer (some ⟨b22, 0, none⟩)), (7, .int .i64 i115)] ?_
               refine J.region ?_
               refine JL.mv (.int .i64 i115) ?_
               refine JL.pur (.int .i64 (w64 (i115 + 1))) (some 75) ?_
               refine JL.as (.int .i64 (w64 (i115 + 1))) ?_
               refine JL.en ?_
               exact JQ.again (w64 (i115 + 1)) () (Option.some.inj H1).symm (fun _ h => Heap.to h)
           · refine J.cond_false h126 ?_
             refine J.exit ?_
             refine JQ.then_exit ?_
             refine JQ.then_exit ?_
             refine JQ.blk_exit ?_
             rw [hb1 _ (Option.some.inj H1).symm, fin_brk] at H0
             exact JQ.met () () H0 (fun _ h => Heap.to (Heap.pick [] (by decide) h))
         · clear hit H0
           rintro ⟨⟩ ⟨⟩ H0
           replace H0 : ref18_Same.k7 = some r := H0
           unfold ref18_Same.k7 at H0
           refine JQ.sub [] ?_
           refine JQ.turn (Δ' := []) (fun _ h => h.to) ?_
           refine JQ.then_normal ?_
           refine J.sr ?_
           refine JL.as (.bool true) ?_
           refine JL.en ?_
           refine J.ret ?_
           obtain rfl := Option.some.inj H0
           exact JQ.done' (rs := [.tmp 4]) (vs := [.bool true]) [] (.inr rfl) ⟨by kernel_rfl, trivial⟩ (fun _ h => Heap.to h) ⟨rfl, rfl⟩

theorem law18_AccumMerges.ok (a1 : Acc) (Aa2 : Option Addr) (c3 : Nat) (Aa5 : Option Addr) (c6 : Nat) (Aa8 : Option Addr) (c9 : Nat) (b11 : Acc) (Aa12 : Option Addr) (c13 : Nat) (Aa15 : Option Addr) (c16 : Nat) (Aa18 : Option Addr) (c19 : Nat) (lag21 : Int) (r : Bool) (H0 : law18_AccumMerges.f a1 b11 lag21 = some r) :
    Does Try.prog 3 [.agg #[.slice Aa2 a1.Sums.length c3, .slice Aa5 a1.Ns.length c6, .slice Aa8 a1.Spans.length c9], .agg #[.slice Aa12 b11.Sums.length c13, .slice Aa15 b11.Ns.length c16, .slice Aa18 b11.Spans.length c19], .int .i64 lag21].toArray [At.rd Aa2 c3 fl_Count.kd a1.Sums true, At.rd Aa5 c6 fl_Count.kd a1.Ns true, At.rd Aa8 c9 fl_Gap.kd a1.Spans true, At.rd Aa12 c13 fl_Count.kd b11.Sums true, At.rd Aa15 c16 fl_Count.kd b11.Ns true, At.rd Aa18 c19 fl_Gap.kd b11.Spans true] [] false (fun v Δ => v = .bool r ∧ Δ = []) := by
 refine Does.body (vs := [.agg #[.slice Aa2 a1.Sums.length c3, .slice Aa5 a1.Ns.length c6, .slice Aa8 a1.Spans.length c9], .agg #[.slice Aa12 b11.Sums.length c13, .slice Aa15 b11.Ns.length c16, .slice Aa18 b11.Spans.length c19], .int .i64 lag21]) Try.func3 rfl ⟨.inl rfl, .inl rfl, .inl rfl, .inl rfl, .inl rfl, .inl rfl, trivial⟩ trivial fun w S => ?_
 unfold law18_AccumMerges.f at H0
 refine J.sr ?_
 refine JL.box [.slice Aa2 a1.Sums.length c3, .slice Aa5 a1.Ns.length c6, .slice Aa8 a1.Spans.length c9] fun b22 => ?_
 refine JL.box [.slice Aa12 b11.Sums.length c13, .slice Aa15 b11.Ns.length c16, .slice Aa18 b11.Spans.length c19] fun b23 => ?_
 refine JL.as (.bool false) ?_
 refine JL.es [(2, .int .i64 lag21), (3, .pointer (some ⟨b22, 0, none⟩)), (4, .pointer (some ⟨b23, 0, none⟩))] ?_
 refine J.seq ?_
 refine J.join (T := Bool) (G := Unit) (fun t => law18_AccumMerges.k1 a1 b11 lag21 t = some r) (fun t g => [(2, .int .i64 lag21), (3, .pointer (some ⟨b22, 0, none⟩)), (4, .pointer (some ⟨b23, 0, none⟩)), (30, .bool t)]) (fun t g => [At.box b22 25 [.slice Aa2 a1.Sums.length c3, .slice Aa5 a1.Ns.length c6, .slice Aa8 a1.Spans.length c9], At.rd Aa2 c3 fl_Count.kd a1.Sums true, At.rd Aa5 c6 fl_Count.kd a1.Ns true, At.rd Aa8 c9 fl_Gap.kd a1.Spans true, At.box b23 25 [.slice Aa12 b11.Sums.length c13, .slice Aa15 b11.Ns.length c16, .slice Aa18 b11.Spans.length c19], At.rd Aa12 c13 fl_Count.kd b11.Sums true, At.rd Aa15 c16 fl_Count.kd b11.Ns true, At.rd Aa18 c19 fl_Gap.kd b11.Spans true]) ?_ ?_
 · refine J.region ?_
   refine JL.val (.agg #[.slice Aa2 a1.Sums.length c3, .slice Aa5 a1.Ns.length c6, .slice Aa8 a1.Spans.length c9]) (some 25) (yields_load_boxes 6 0 [.slice Aa2 a1.Sums.length c3, .slice Aa5 a1.Ns.length c6, .slice Aa8 a1.Spans.length c9] (holds_box b22 25 [.slice Aa2 a1.Sums.length c3, .slice Aa5 a1.Ns.length c6, .slice Aa8 a1.Spans.length c9]) tyAgg_25 tySize_25) ?_
   obtain ⟨t79, hc80, H0⟩ := bind_some H0
   refine JL.call [] [] [] (ref18_Great.ok a1 Aa2 c3 Aa5 c6 Aa8 c9 _ hc80) ⟨pre_any 0 (view_rd Aa2 c3 fl_Count.kd a1.Sums true true), ⟨pre_any 1 (view_rd Aa5 c6 fl_Count.kd a1.Ns true true), ⟨pre_any 2 (view_rd Aa8 c9 fl_Gap.kd a1.Spans true true), trivial⟩⟩⟩ ?_
   rintro _ _ ⟨rfl, rfl⟩
   refine JL.mv (.bool t79) ?_
   rcases ite_cases H0 with ⟨h81, H0⟩ | ⟨h81, H0⟩
   · refine JL.off 2 27 false (some 28) h81 ?_
     refine JL.off 2 27 false (some 29) h81 ?_
     refine JL.val (.bool true) (some 30) (gives_pickT h81) ?_
     refine JL.en ?_
     exact JQ.meet true () H0 (fun _ h => Heap.to (Heap.pick [6, 0, 1, 2, 7, 3, 4, 5] (by decide) h))
   · refine JL.on 2 27 h81 ?_
     refine JL.val (.agg #[.slice Aa12 b11.Sums.length c13, .slice Aa15 b11.Ns.length c16, .slice Aa18 b11.Spans.length c19]) (some 28) (yields_load_boxes 7 0 [.slice Aa12 b11.Sums.length c13, .slice Aa15 b11.Ns.length c16, .slice Aa18 b11.Spans.length c19] (holds_box b23 25 [.slice Aa12 b11.Sums.length c13, .slice Aa15 b11.Ns.length c16, .slice Aa18 b11.Spans.length c19]) tyAgg_25 tySize_25) ?_
     refine JL.on 2 27 h81 ?_
     obtain ⟨t82, hc83, H0⟩ := bind_some H0
     refine JL.call [] [] [] (ref18_Great.ok b11 Aa12 c13 Aa15 c16 Aa18 c19 _ hc83) ⟨pre_any 3 (view_rd Aa12 c13 fl_Count.kd b11.Sums true true), ⟨pre_any 4 (view_rd Aa15 c16 fl_Count.kd b11.Ns true true), ⟨pre_any 5 (view_rd Aa18 c19 fl_Gap.kd b11.Spans true true), trivial⟩⟩⟩ ?_
     rintro _ _ ⟨rfl, rfl⟩
     refine JL.val (.bool t82) (some 30) (gives_pickF h81) ?_
     refine JL.en ?_
     exact JQ.meet t82 () H0 (fun _ h => Heap.to (Heap.pick [6, 0, 1, 2, 7, 3, 4, 5] (by decide) h))
 · clear H0
   rintro x29 ⟨⟩ H0
   replace H0 : law18_AccumMerges.k1 a1 b11 lag21 x29 = some r := H0
   unfold law18_AccumMerges.k1 at H0
   refine JQ.sub [(2, .int .i64 lag21), (3, .pointer (some ⟨b22, 0, none⟩)), (4, .pointer (some ⟨b23, 0, none⟩)), (30, .bool x29)] ?_
   refine JQ.turn (Δ' := [At.box b22 25 [.slice Aa2 a1.Sums.length c3, .slice Aa5 a1.Ns.length c6, .slice Aa8 a1.Spans.length c9], At.rd Aa2 c3 fl_Count.kd a1.Sums true, At.rd Aa5 c6 fl_Count.kd a1.Ns true, At.rd Aa8 c9 fl_Gap.kd a1.Spans true, At.box b23 25 [.slice Aa12 b11.Sums.length c13, .slice Aa15 b11.Ns.length c16, .slice Aa18 b11.Spans.length c19], At.rd Aa12 c13 fl_Count.kd b11.Sums true, At.rd Aa15 c16 fl_Count.kd b11.Ns true, At.rd Aa18 c19 fl_Gap.kd b11.Spans true]) (fun _ h => h.to) ?_
   rcases ite_cases H0 with ⟨h30, H0⟩ | ⟨h30, H0⟩
   · refine J.cond_true h30 ?_
     refine J.sr ?_
     refine JL.as (.bool true) ?_
     refine JL.es [(6, .bool true)] ?_
     refine JQ.mask [] [false, false, false, false, false, false, false, false] ?_
     refine J.ret ?_
     refine JQ.then_ret ?_
     obtain rfl := Option.some.inj H0
     exact JQ.done' (rs := [.tmp 6]) (vs := [.bool true]) [] (.inr rfl) ⟨by kernel_rfl, trivial⟩ (fun _ h => Heap.to h) ⟨rfl, rfl⟩
   · refine J.cond_false h30 ?_
     refine J.skip ?_
     refine JQ.ts [(2, .int .i64 lag21), (3, .pointer (some ⟨b22, 0, none⟩)), (4, .pointer (some ⟨b23, 0, none⟩))] ?_
     refine J.sr ?_
     refine JL.val (.agg #[.slice Aa2 a1.Sums.length c3, .slice Aa5 a1.Ns.length c6, .slice Aa8 a1.Spans.length c9]) (some 32) (yields_load_boxes 0 0 [.slice Aa2 a1.Sums.length c3, .slice Aa5 a1.Ns.length c6, .slice Aa8 a1.Spans.length c9] (holds_box b22 25 [.slice Aa2 a1.Sums.length c3, .slice Aa5 a1.Ns.length c6, .slice Aa8 a1.Spans.length c9]) tyAgg_25 tySize_25) ?_
     refine JL.val (.agg #[.slice Aa12 b11.Sums.length c13, .slice Aa15 b11.Ns.length c16, .slice Aa18 b11.Spans.length c19]) (some 33) (yields_load_boxes 4 0 [.slice Aa12 b11.Sums.length c13, .slice Aa15 b11.Ns.length c16, .slice Aa18 b11.Spans.length c19] (holds_box b23 25 [.slice Aa12 b11.Sums.length c13, .slice Aa15 b11.Ns.length c16, .slice Aa18 b11.Spans.length c19]) tyAgg_25 tySize_25) ?_
     obtain ⟨t31, hc32, H0⟩ := bind_some H0
     refine JL.call [] [] [] (accum_Merge.ok a1 Aa2 c3 Aa5 c6 Aa8 c9 b11 Aa12 c13 Aa15 c16 Aa18 c19 _ hc32) ⟨pre_any 1 (view_rd Aa2 c3 fl_Count.kd a1.Sums true true), ⟨pre_any 2 (view_rd Aa5 c6 fl_Count.kd a1.Ns true true), ⟨pre_any 3 (view_rd Aa8 c9 fl_Gap.kd a1.Spans true true), ⟨pre_any 5 (view_rd Aa12 c13 fl_Count.kd b11.Sums true true), ⟨pre_any 6 (view_rd Aa15 c16 fl_Count.kd b11.Ns true true), ⟨pre_any 7 (view_rd Aa18 c19 fl_Gap.kd b11.Spans true true), trivial⟩⟩⟩⟩⟩⟩ ?_
     rintro _ _ ⟨Aa33, c34, Aa36, c37, Aa39, c40, rfl, rfl⟩
     refine JL.mv (.tuple #[.agg #[.slice Aa33 t31.1.Sums.length c34, .slice Aa36 t31.1.Ns.length c37, .slice Aa39 t31.1.Spans.length c40], .int .i64 t31.2]) ?_
     refine JL.pur (.agg #[.slice Aa33 t31.1.Sums.length c34, .slice Aa36 t31.1.Ns.length c37, .slice Aa39 t31.1.Spans.length c40]) (some 35) ?_
     refine JL.pur (.int .i64 t31.2) (some 36) ?_
     refine JL.alloc [.slice none 0 0, .slice none 0 0, .slice none 0 0] fun b42 => ?_
     refine JL.store 11 b42 0 25 [.slice none 0 0, .slice none 0 0, .slice none 0 0] [.slice Aa33 t31.1.Sums.length c34, .slice Aa36 t31.1.Ns.length c37, .slice Aa39 t31.1.Spans.length c40] tySize_25 ?_
     refine JL.as (.int .i64 t31.2) ?_
     refine JL.es [(2, .int .i64 lag21), (3, .pointer (some ⟨b22, 0, none⟩)), (4, .pointer (some ⟨b23, 0, none⟩)), (7, .pointer (some ⟨b42, 0, none⟩)), (8, .int .i64 t31.2)] ?_
     refine J.sr ?_
     refine JL.val (.agg #[.slice Aa2 a1.Sums.length c3, .slice Aa5 a1.Ns.length c6, .slice Aa8 a1.Spans.length c9]) (some 38) (yields_load_boxes 0 0 [.slice Aa2 a1.Sums.length c3, .slice Aa5 a1.Ns.length c6, .slice Aa8 a1.Spans.length c9] (holds_box b22 25 [.slice Aa2 a1.Sums.length c3, .slice Aa5 a1.Ns.length c6, .slice Aa8 a1.Spans.length c9]) tyAgg_25 tySize_25) ?_
     refine JL.val (.agg #[.slice Aa12 b11.Sums.length c13, .slice Aa15 b11.Ns.length c16, .slice Aa18 b11.Spans.length c19]) (some 39) (yields_load_boxes 4 0 [.slice Aa12 b11.Sums.length c13, .slice Aa15 b11.Ns.length c16, .slice Aa18 b11.Spans.length c19] (holds_box b23 25 [.slice Aa12 b11.Sums.length c13, .slice Aa15 b11.Ns.length c16, .slice Aa18 b11.Spans.length c19]) tyAgg_25 tySize_25) ?_
     obtain ⟨t43, hc44, H0⟩ := bind_some H0
     refine JL.call [] [] [] (ref18_Merge.ok a1 Aa2 c3 Aa5 c6 Aa8 c9 b11 Aa12 c13 Aa15 c16 Aa18 c19 _ hc44) ⟨pre_any 1 (view_rd Aa2 c3 fl_Count.kd a1.Sums true true), ⟨pre_any 2 (view_rd Aa5 c6 fl_Count.kd a1.Ns true true), ⟨pre_any 3 (view_rd Aa8 c9 fl_Gap.kd a1.Spans true true), ⟨pre_any 5 (view_rd Aa12 c13 fl_Count.kd b11.Sums true true), ⟨pre_any 6 (view_rd Aa15 c16 fl_Count.kd b11.Ns true true), ⟨pre_any 7 (view_rd Aa18 c19 fl_Gap.kd b11.Spans true true), trivial⟩⟩⟩⟩⟩⟩ ?_
     rintro _ _ ⟨Aa45, c46, Aa48, c49, Aa51, c52, rfl, rfl⟩
     refine JL.mv (.tuple #[.agg #[.slice Aa45 t43.1.Sums.length c46, .slice Aa48 t43.1.Ns.length c49, .slice Aa51 t43.1.Spans.length c52], .int .i64 t43.2]) ?_
     refine JL.pur (.agg #[.slice Aa45 t43.1.Sums.length c46, .slice Aa48 t43.1.Ns.length c49, .slice Aa51 t43.1.Spans.length c52]) (some 41) ?_
     refine JL.pur (.int .i64 t43.2) (some 42) ?_
     refine JL.alloc [.slice none 0 0, .slice none 0 0, .slice none 0 0] fun b54 => ?_
     refine JL.store 15 b54 0 25 [.slice none 0 0, .slice none 0 0, .slice none 0 0] [.slice Aa45 t43.1.Sums.length c46, .slice Aa48 t43.1.Ns.length c49, .slice Aa51 t43.1.Spans.length c52] tySize_25 ?_
     refine JL.as (.int .i64 t43.2) ?_
     refine JL.es [(2, .int .i64 lag21), (3, .pointer (some ⟨b22, 0, none⟩)), (7, .pointer (some ⟨b42, 0, none⟩)), (8, .int .i64 t31.2), (9, .pointer (some ⟨b54, 0, none⟩)), (10, .int .i64 t43.2)] ?_
     refine JQ.mask [At.box b22 25 [.slice Aa2 a1.Sums.length c3, .slice Aa5 a1.Ns.length c6, .slice Aa8 a1.Spans.length c9], At.rd Aa2 c3 fl_Count.kd a1.Sums true, At.rd Aa5 c6 fl_Count.kd a1.Ns true, At.rd Aa8 c9 fl_Gap.kd a1.Spans true, At.row Aa33 c34 49 fl_Count.kd t31.1.Sums false, At.row Aa36 c37 49 fl_Count.kd t31.1.Ns false, At.row Aa39 c40 51 fl_Gap.kd t31.1.Spans false, At.box b42 25 [.slice Aa33 t31.1.Sums.length c34, .slice Aa36 t31.1.Ns.length c37, .slice Aa39 t31.1.Spans.length c40], At.row Aa45 c46 49 fl_Count.kd t43.1.Sums false, At.row Aa48 c49 49 fl_Count.kd t43.1.Ns false, At.row Aa51 c52 51 fl_Gap.kd t43.1.Spans false, At.box b54 25 [.slice Aa45 t43.1.Sums.length c46, .slice Aa48 t43.1.Ns.length c49, .slice Aa51 t43.1.Spans.length c52]] [true, true, true, true, false, false, false, false, true, true, true, true, true, true, true, true] ?_
     refine J.sr ?_
     refine JL.val (.agg #[.slice Aa2 a1.Sums.length c3, .slice Aa5 a1.Ns.length c6, .slice Aa8 a1.Spans.length c9]) (some 44) (yields_load_boxes 0 0 [.slice Aa2 a1.Sums.length c3, .slice Aa5 a1.Ns.length c6, .slice Aa8 a1.Spans.length c9] (holds_box b22 25 [.slice Aa2 a1.Sums.length c3, .slice Aa5 a1.Ns.length c6, .slice Aa8 a1.Spans.length c9]) tyAgg_25 tySize_25) ?_
     refine JL.mv (.int .i64 lag21) ?_
     obtain ⟨t55, hc56, H0⟩ := bind_some H0
     refine JL.call [] [] [] (accum_Value.ok a1 Aa2 c3 Aa5 c6 Aa8 c9 lag21 _ hc56) ⟨pre_any 1 (view_rd Aa2 c3 fl_Count.kd a1.Sums true true), ⟨pre_any 2 (view_rd Aa5 c6 fl_Count.kd a1.Ns true true), ⟨pre_any 3 (view_rd Aa8 c9 fl_Gap.kd a1.Spans true true), trivial⟩⟩⟩ ?_
     rintro _ _ ⟨rfl, rfl⟩
     refine JL.mv (.tuple #[.int .i64 t55.1, .int .i64 t55.2.1, .int .i64 t55.2.2]) ?_
     refine JL.pur (.int .i64 t55.1) (some 47) ?_
     refine JL.pur (.int .i64 t55.2.1) (some 48) ?_
     refine JL.pur (.int .i64 t55.2.2) (some 49) ?_
     refine JL.as (.int .i64 t55.1) ?_
     refine JL.as (.int .i64 t55.2.1) ?_
     refine JL.as (.int .i64 t55.2.2) ?_
     refine JL.es [(2, .int .i64 lag21), (3, .pointer (some ⟨b22, 0, none⟩)), (7, .pointer (some ⟨b42, 0, none⟩)), (8, .int .i64 t31.2), (9, .pointer (some ⟨b54, 0, none⟩)), (10, .int .i64 t43.2), (11, .int .i64 t55.1), (12, .int .i64 t55.2.1), (13, .int .i64 t55.2.2)] ?_
     refine J.sr ?_
     refine JL.val (.agg #[.slice Aa2 a1.Sums.length c3, .slice Aa5 a1.Ns.length c6, .slice Aa8 a1.Spans.length c9]) (some 51) (yields_load_boxes 0 0 [.slice Aa2 a1.Sums.length c3, .slice Aa5 a1.Ns.length c6, .slice Aa8 a1.Spans.length c9] (holds_box b22 25 [.slice Aa2 a1.Sums.length c3, .slice Aa5 a1.Ns.length c6, .slice Aa8 a1.Spans.length c9]) tyAgg_25 tySize_25) ?_
     refine JL.mv (.int .i64 lag21) ?_
     obtain ⟨t57, hc58, H0⟩ := bind_some H0
     refine JL.call [] [] [] (ref18_Value.ok a1 Aa2 c3 Aa5 c6 Aa8 c9 lag21 _ hc58) ⟨pre_any 1 (view_rd Aa2 c3 fl_Count.kd a1.Sums true true), ⟨pre_any 2 (view_rd Aa5 c6 fl_Count.kd a1.Ns true true), ⟨pre_any 3 (view_rd Aa8 c9 fl_Gap.kd a1.Spans true true), trivial⟩⟩⟩ ?_
     rintro _ _ ⟨rfl, rfl⟩
     refine JL.mv (.tuple #[.int .i64 t57.1, .int .i64 t57.2.1, .int .i64 t57.2.2]) ?_
     refine JL.pur (.int .i64 t57.1) (some 54) ?_
     refine JL.pur (.int .i64 t57.2.1) (some 55) ?_
     refine JL.pur (.int .i64 t57.2.2) (some 56) ?_
     refine JL.as (.int .i64 t57.1) ?_
     refine JL.as (.int .i64 t57.2.1) ?_
     refine JL.as (.int .i64 t57.2.2) ?_
     refine JL.es [(2, .int .i64 lag21), (3, .pointer (some ⟨b22, 0, none⟩)), (7, .pointer (some ⟨b42, 0, none⟩)), (8, .int .i64 t31.2), (9, .pointer (some ⟨b54, 0, none⟩)), (10, .int .i64 t43.2), (11, .int .i64 t55.1), (12, .int .i64 t55.2.1), (13, .int .i64 t55.2.2), (14, .int .i64 t57.1), (15, .int .i64 t57.2.1), (16, .int .i64 t57.2.2)] ?_
     refine J.sr ?_
     refine JL.val (.agg #[.slice Aa2 a1.Sums.length c3, .slice Aa5 a1.Ns.length c6, .slice Aa8 a1.Spans.length c9]) (some 58) (yields_load_boxes 0 0 [.slice Aa2 a1.Sums.length c3, .slice Aa5 a1.Ns.length c6, .slice Aa8 a1.Spans.length c9] (holds_box b22 25 [.slice Aa2 a1.Sums.length c3, .slice Aa5 a1.Ns.length c6, .slice Aa8 a1.Spans.length c9]) tyAgg_25 tySize_25) ?_
     refine JL.mv (.int .i64 lag21) ?_
     obtain ⟨t59, hc60, H0⟩ := bind_some H0
     refine JL.call [] [] [] (accum_Mean.ok a1 Aa2 c3 Aa5 c6 Aa8 c9 lag21 _ hc60) ⟨pre_any 1 (view_rd Aa2 c3 fl_Count.kd a1.Sums true true), ⟨pre_any 2 (view_rd Aa5 c6 fl_Count.kd a1.Ns true true), ⟨pre_any 3 (view_rd Aa8 c9 fl_Gap.kd a1.Spans true true), trivial⟩⟩⟩ ?_
     rintro _ _ ⟨rfl, rfl⟩
     refine JL.mv (.tuple #[mv_37 t59.1, .int .i64 t59.2]) ?_
     refine JL.pur (mv_37 t59.1) (some 61) ?_
     refine JL.pur (.int .i64 t59.2) (some 62) ?_
     refine JL.alloc (cl_37 zv_37) fun b61 => ?_
     refine JL.store 12 b61 0 37 (cl_37 zv_37) (cl_37 t59.1) tySize_37 ?_
     refine JL.as (.int .i64 t59.2) ?_
     refine JL.es [(2, .int .i64 lag21), (3, .pointer (some ⟨b22, 0, none⟩)), (7, .pointer (some ⟨b42, 0, none⟩)), (8, .int .i64 t31.2), (9, .pointer (some ⟨b54, 0, none⟩)), (10, .int .i64 t43.2), (11, .int .i64 t55.1), (12, .int .i64 t55.2.1), (13, .int .i64 t55.2.2), (14, .int .i64 t57.1), (15, .int .i64 t57.2.1), (16, .int .i64 t57.2.2), (17, .pointer (some ⟨b61, 0, none⟩)), (18, .int .i64 t59.2)] ?_
     refine J.sr ?_
     refine JL.val (.agg #[.slice Aa2 a1.Sums.length c3, .slice Aa5 a1.Ns.length c6, .slice Aa8 a1.Spans.length c9]) (some 64) (yields_load_boxes 0 0 [.slice Aa2 a1.Sums.length c3, .slice Aa5 a1.Ns.length c6, .slice Aa8 a1.Spans.length c9] (holds_box b22 25 [.slice Aa2 a1.Sums.length c3, .slice Aa5 a1.Ns.length c6, .slice Aa8 a1.Spans.length c9]) tyAgg_25 tySize_25) ?_
     refine JL.mv (.int .i64 lag21) ?_
     obtain ⟨t62, hc63, H0⟩ := bind_some H0
     refine JL.call [] [] [] (ref18_Mean.ok a1 Aa2 c3 Aa5 c6 Aa8 c9 lag21 _ hc63) ⟨pre_any 1 (view_rd Aa2 c3 fl_Count.kd a1.Sums true true), ⟨pre_any 2 (view_rd Aa5 c6 fl_Count.kd a1.Ns true true), ⟨pre_any 3 (view_rd Aa8 c9 fl_Gap.kd a1.Spans true true), trivial⟩⟩⟩ ?_
     rintro _ _ ⟨rfl, rfl⟩
     refine JL.mv (.tuple #[mv_37 t62.1, .int .i64 t62.2]) ?_
     refine JL.pur (mv_37 t62.1) (some 67) ?_
     refine JL.pur (.int .i64 t62.2) (some 68) ?_
     refine JL.alloc (cl_37 zv_37) fun b64 => ?_
     refine JL.store 13 b64 0 37 (cl_37 zv_37) (cl_37 t62.1) tySize_37 ?_
     refine JL.as (.int .i64 t62.2) ?_
     refine JL.es [(3, .pointer (some ⟨b22, 0, none⟩)), (7, .pointer (some ⟨b42, 0, none⟩)), (8, .int .i64 t31.2), (9, .pointer (some ⟨b54, 0, none⟩)), (10, .int .i64 t43.2), (11, .int .i64 t55.1), (12, .int .i64 t55.2.1), (13, .int .i64 t55.2.2), (14, .int .i64 t57.1), (15, .int .i64 t57.2.1), (16, .int .i64 t57.2.2), (17, .pointer (some ⟨b61, 0, none⟩)), (18, .int .i64 t59.2), (19, .pointer (some ⟨b64, 0, none⟩)), (20, .int .i64 t62.2)] ?_
     refine J.sr ?_
     refine JL.val (.agg #[.slice Aa2 a1.Sums.length c3, .slice Aa5 a1.Ns.length c6, .slice Aa8 a1.Spans.length c9]) (some 70) (yields_load_boxes 0 0 [.slice Aa2 a1.Sums.length c3, .slice Aa5 a1.Ns.length c6, .slice Aa8 a1.Spans.length c9] (holds_box b22 25 [.slice Aa2 a1.Sums.length c3, .slice Aa5 a1.Ns.length c6, .slice Aa8 a1.Spans.length c9]) tyAgg_25 tySize_25) ?_
     obtain ⟨t65, hc66, H0⟩ := bind_some H0
     refine JL.call [] [] [] (accum_Times.ok a1 Aa2 c3 Aa5 c6 Aa8 c9 _ hc66) ⟨pre_any 1 (view_rd Aa2 c3 fl_Count.kd a1.Sums true true), ⟨pre_any 2 (view_rd Aa5 c6 fl_Count.kd a1.Ns true true), ⟨pre_any 3 (view_rd Aa8 c9 fl_Gap.kd a1.Spans true true), trivial⟩⟩⟩ ?_
     rintro _ _ ⟨rfl, rfl⟩
     refine JL.mv (.tuple #[.int .i64 t65.1, .int .i64 t65.2]) ?_
     refine JL.pur (.int .i64 t65.1) (some 72) ?_
     refine JL.pur (.int .i64 t65.2) (some 73) ?_
     refine JL.as (.int .i64 t65.1) ?_
     refine JL.as (.int .i64 t65.2) ?_
     refine JL.es [(3, .pointer (some ⟨b22, 0, none⟩)), (7, .pointer (some ⟨b42, 0, none⟩)), (8, .int .i64 t31.2), (9, .pointer (some ⟨b54, 0, none⟩)), (10, .int .i64 t43.2), (11, .int .i64 t55.1), (12, .int .i64 t55.2.1), (13, .int .i64 t55.2.2), (14, .int .i64 t57.1), (15, .int .i64 t57.2.1), (16, .int .i64 t57.2.2), (17, .pointer (some ⟨b61, 0, none⟩)), (18, .int .i64 t59.2), (19, .pointer (some ⟨b64, 0, none⟩)), (20, .int .i64 t62.2), (21, .int .i64 t65.1), (22, .int .i64 t65.2)] ?_
     refine J.sr ?_
     refine JL.val (.agg #[.slice Aa2 a1.Sums.length c3, .slice Aa5 a1.Ns.length c6, .slice Aa8 a1.Spans.length c9]) (some 75) (yields_load_boxes 0 0 [.slice Aa2 a1.Sums.length c3, .slice Aa5 a1.Ns.length c6, .slice Aa8 a1.Spans.length c9] (holds_box b22 25 [.slice Aa2 a1.Sums.length c3, .slice Aa5 a1.Ns.length c6, .slice Aa8 a1.Spans.length c9]) tyAgg_25 tySize_25) ?_
     obtain ⟨t67, hc68, H0⟩ := bind_some H0
     refine JL.call [] [] [] (ref18_Times.ok a1 Aa2 c3 Aa5 c6 Aa8 c9 _ hc68) ⟨pre_any 1 (view_rd Aa2 c3 fl_Count.kd a1.Sums true true), ⟨pre_any 2 (view_rd Aa5 c6 fl_Count.kd a1.Ns true true), ⟨pre_any 3 (view_rd Aa8 c9 fl_Gap.kd a1.Spans true true), trivial⟩⟩⟩ ?_
     rintro _ _ ⟨rfl, rfl⟩
     refine JL.mv (.tuple #[.int .i64 t67.1, .int .i64 t67.2]) ?_
     refine JL.pur (.int .i64 t67.1) (some 77) ?_
     refine JL.pur (.int .i64 t67.2) (some 78) ?_
     refine JL.as (.int .i64 t67.1) ?_
     refine JL.as (.int .i64 t67.2) ?_
     refine JL.es [(7, .pointer (some ⟨b42, 0, none⟩)), (8, .int .i64 t31.2), (9, .pointer (some ⟨b54, 0, none⟩)), (10, .int .i64 t43.2), (11, .int .i64 t55.1), (12, .int .i64 t55.2.1), (13, .int .i64 t55.2.2), (14, .int .i64 t57.1), (15, .int .i64 t57.2.1), (16, .int .i64 t57.2.2), (17, .pointer (some ⟨b61, 0, none⟩)), (18, .int .i64 t59.2), (19, .pointer (some ⟨b64, 0, none⟩)), (20, .int .i64 t62.2), (21, .int .i64 t65.1), (22, .int .i64 t65.2), (23, .int .i64 t67.1), (24, .int .i64 t67.2)] ?_
     refine JQ.mask [At.row Aa33 c34 49 fl_Count.kd t31.1.Sums false, At.row Aa36 c37 49 fl_Count.kd t31.1.Ns false, At.row Aa39 c40 51 fl_Gap.kd t31.1.Spans false, At.box b42 25 [.slice Aa33 t31.1.Sums.length c34, .slice Aa36 t31.1.Ns.length c37, .slice Aa39 t31.1.Spans.length c40], At.row Aa45 c46 49 fl_Count.kd t43.1.Sums false, At.row Aa48 c49 49 fl_Count.kd t43.1.Ns false, At.row Aa51 c52 51 fl_Gap.kd t43.1.Spans false, At.box b54 25 [.slice Aa45 t43.1.Sums.length c46, .slice Aa48 t43.1.Ns.length c49, .slice Aa51 t43.1.Spans.length c52], At.box b61 37 (cl_37 t59.1), At.box b64 37 (cl_37 t62.1)] [false, false, false, false, true, true, true, true, true, true, true, true, true, true] ?_
     refine J.sr ?_
     refine JL.val (.agg #[.slice Aa33 t31.1.Sums.length c34, .slice Aa36 t31.1.Ns.length c37, .slice Aa39 t31.1.Spans.length c40]) (some 79) (yields_load_boxes 3 0 [.slice Aa33 t31.1.Sums.length c34, .slice Aa36 t31.1.Ns.length c37, .slice Aa39 t31.1.Spans.length c40] (holds_box b42 25 [.slice Aa33 t31.1.Sums.length c34, .slice Aa36 t31.1.Ns.length c37, .slice Aa39 t31.1.Spans.length c40]) tyAgg_25 tySize_25) ?_
     refine JL.val (.agg #[.slice Aa45 t43.1.Sums.length c46, .slice Aa48 t43.1.Ns.length c49, .slice Aa51 t43.1.Spans.length c52]) (some 80) (yields_load_boxes 7 0 [.slice Aa45 t43.1.Sums.length c46, .slice Aa48 t43.1.Ns.length c49, .slice Aa51 t43.1.Spans.length c52] (holds_box b54 25 [.slice Aa45 t43.1.Sums.length c46, .slice Aa48 t43.1.Ns.length c49, .slice Aa51 t43.1.Spans.length c52]) tyAgg_25 tySize_25) ?_
     obtain ⟨t69, hc70, H0⟩ := bind_some H0
     refine JL.call [] [] [] (ref18_Same.ok t31.1 Aa33 c34 Aa36 c37 Aa39 c40 t43.1 Aa45 c46 Aa48 c49 Aa51 c52 _ hc70) ⟨pre_view 0 (view_row Aa33 c34 49 fl_Count.kd t31.1.Sums false true), ⟨pre_view 1 (view_row Aa36 c37 49 fl_Count.kd t31.1.Ns false true), ⟨pre_view 2 (view_row Aa39 c40 51 fl_Gap.kd t31.1.Spans false true), ⟨pre_view 4 (view_row Aa45 c46 49 fl_Count.kd t43.1.Sums false true), ⟨pre_view 5 (view_row Aa48 c49 49 fl_Count.kd t43.1.Ns false true), ⟨pre_view 6 (view_row Aa51 c52 51 fl_Gap.kd t43.1.Spans false true), trivial⟩⟩⟩⟩⟩⟩ ?_
     rintro _ _ ⟨rfl, rfl⟩
     refine JL.mv (.bool t69) ?_
     rcases ite_cases H0 with ⟨h71, H0⟩ | ⟨h71, H0⟩
     · refine JL.on 3 82 h71 ?_
       refine JL.mv (.int .i64 t31.2) ?_
       refine JL.on 3 82 h71 ?_
       refine JL.mv (.int .i64 t43.2) ?_
       refine JL.on 3 82 h71 ?_
       refine JL.pur (.bool (decide (t31.2 = t43.2))) (some 85) ?_
       refine JL.val (.bool (decide (t31.2 = t43.2))) (some 86) (gives_pickT h71) ?_
       refine JL.mv (.bool (decide (t31.2 = t43.2))) ?_
       rcases ite_cases H0 with ⟨h72, H0⟩ | ⟨h72, H0⟩
       · refine JL.on 8 87 h72 ?_
         refine JL.mv (.int .i64 t55.1) ?_
         refine JL.on 8 87 h72 ?_
         refine JL.mv (.int .i64 t57.1) ?_
         refine JL.on 8 87 h72 ?_
         refine JL.pur (.bool (decide (t55.1 = t57.1))) (some 90) ?_
         refine JL.val (.bool (decide (t55.1 = t57.1))) (some 91) (gives_pickT h72) ?_
         refine JL.mv (.bool (decide (t55.1 = t57.1))) ?_
         rcases ite_cases H0 with ⟨h73, H0⟩ | ⟨h73, H0⟩
         · refine JL.on 13 92 h73 ?_
           refine JL.mv (.int .i64 t55.2.1) ?_
           refine JL.on 13 92 h73 ?_
           refine JL.mv (.int .i64 t57.2.1) ?_
           refine JL.on 13 92 h73 ?_
           refine JL.pur (.bool (decide (t55.2.1 = t57.2.1))) (some 95) ?_
           refine JL.val (.bool (decide (t55.2.1 = t57.2.1))) (some 96) (gives_pickT h73) ?_
           refine JL.mv (.bool (decide (t55.2.1 = t57.2.1))) ?_
           rcases ite_cases H0 with ⟨h74, H0⟩ | ⟨h74, H0⟩
           · refine JL.on 18 97 h74 ?_
             refine JL.mv (.int .i64 t55.2.2) ?_
             refine JL.on 18 97 h74 ?_
             refine JL.mv (.int .i64 t57.2.2) ?_
             refine JL.on 18 97 h74 ?_
             refine JL.pur (.bool (decide (t55.2.2 = t57.2.2))) (some 100) ?_
             refine JL.val (.bool (decide (t55.2.2 = t57.2.2))) (some 101) (gives_pickT h74) ?_
             refine JL.mv (.bool (decide (t55.2.2 = t57.2.2))) ?_
             rcases ite_cases H0 with ⟨h75, H0⟩ | ⟨h75, H0⟩
             · refine JL.on 23 102 h75 ?_
               refine JL.val (mv_37 t59.1) (some 103) (yields_load_boxes 8 0 (cl_37 t59.1) (holds_box b61 37 (cl_37 t59.1)) tyAgg_37 tySize_37) ?_
               refine JL.on 23 102 h75 ?_
               refine JL.val (mv_37 t62.1) (some 104) (yields_load_boxes 9 0 (cl_37 t62.1) (holds_box b64 37 (cl_37 t62.1)) tyAgg_37 tySize_37) ?_
               refine JL.on 23 102 h75 ?_
               refine JL.val (.bool (decide (t59.1 = t62.1))) (some 105) (gives_eql eqg_37 (fun w => eqt_37 t59.1 t62.1 w)) ?_
               refine JL.val (.bool (decide (t59.1 = t62.1))) (some 106) (gives_pickT h75) ?_
               refine JL.mv (.bool (decide (t59.1 = t62.1))) ?_
               rcases ite_cases H0 with ⟨h76, H0⟩ | ⟨h76, H0⟩
               · refine JL.on 28 107 h76 ?_
                 refine JL.mv (.int .i64 t59.2) ?_
                 refine JL.on 28 107 h76 ?_
                 refine JL.mv (.int .i64 t62.2) ?_
                 refine JL.on 28 107 h76 ?_
                 refine JL.pur (.bool (decide (t59.2 = t62.2))) (some 110) ?_
                 refine JL.val (.bool (decide (t59.2 = t62.2))) (some 111) (gives_pickT h76) ?_
                 refine JL.mv (.bool (decide (t59.2 = t62.2))) ?_
                 rcases ite_cases H0 with ⟨h77, H0⟩ | ⟨h77, H0⟩
                 · refine JL.on 33 112 h77 ?_
                   refine JL.mv (.int .i64 t65.1) ?_
                   refine JL.on 33 112 h77 ?_
                   refine JL.mv (.int .i64 t67.1) ?_
                   refine JL.on 33 112 h77 ?_
                   refine JL.pur (.bool (decide (t65.1 = t67.1))) (some 115) ?_
                   refine JL.val (.bool (decide (t65.1 = t67.1))) (some 116) (gives_pickT h77) ?_
                   refine JL.mv (.bool (decide (t65.1 = t67.1))) ?_
                   rcases ite_cases H0 with ⟨h78, H0⟩ | ⟨h78, H0⟩
                   · refine JL.on 38 117 h78 ?_
                     refine JL.mv (.int .i64 t65.2) ?_
                     refine JL.on 38 117 h78 ?_
                     refine JL.mv (.int .i64 t67.2) ?_
                     refine JL.on 38 117 h78 ?_
                     refine JL.pur (.bool (decide (t65.2 = t67.2))) (some 120) ?_
                     refine JL.val (.bool (decide (t65.2 = t67.2))) (some 121) (gives_pickT h78) ?_
                     refine JL.as (.bool (decide (t65.2 = t67.2))) ?_
                     refine JL.es [(6, .bool (decide (t65.2 = t67.2)))] ?_
                     refine JQ.mask [] [false, false, false, false, false, false, false, false, false, false] ?_
                     refine J.ret ?_
                     obtain rfl := Option.some.inj H0
                     exact JQ.done' (rs := [.tmp 6]) (vs := [.bool (decide (t65.2 = t67.2))]) [] (.inr rfl) ⟨by kernel_rfl, trivial⟩ (fun _ h => Heap.to h) ⟨rfl, rfl⟩
                   · refine JL.off 38 117 true (some 118) h78 ?_
                     refine JL.off 38 117 true (some 119) h78 ?_
                     refine JL.off 38 117 true (some 120) h78 ?_
                     refine JL.val (.bool false) (some 121) (gives_pickF h78) ?_
                     refine JL.as (.bool false) ?_
                     refine JL.es [(6, .bool false)] ?_
                     refine JQ.mask [] [false, false, false, false, false, false, false, false, false, false] ?_
                     refine J.ret ?_
                     obtain rfl := Option.some.inj H0
                     exact JQ.done' (rs := [.tmp 6]) (vs := [.bool false]) [] (.inr rfl) ⟨by kernel_rfl, trivial⟩ (fun _ h => Heap.to h) ⟨rfl, rfl⟩
                 · refine JL.off 33 112 true (some 113) h77 ?_
                   refine JL.off 33 112 true (some 114) h77 ?_
                   refine JL.off 33 112 true (some 115) h77 ?_
                   refine JL.val (.bool false) (some 116) (gives_pickF h77) ?_
                   refine JL.mv (.bool false) ?_
                   refine JL.off 38 117 true (some 118) rfl ?_
                   refine JL.off 38 117 true (some 119) rfl ?_
                   refine JL.off 38 117 true (some 120) rfl ?_
                   refine JL.val (.bool false) (some 121) (gives_pickF rfl) ?_
                   refine JL.as (.bool false) ?_
                   refine JL.es [(6, .bool false)] ?_
                   refine JQ.mask [] [false, false, false, false, false, false, false, false, false, false] ?_
                   refine J.ret ?_
                   obtain rfl := Option.some.inj H0
                   exact JQ.done' (rs := [.tmp 6]) (vs := [.bool false]) [] (.inr rfl) ⟨by kernel_rfl, trivial⟩ (fun _ h => Heap.to h) ⟨rfl, rfl⟩
               · refine JL.off 28 107 true (some 108) h76 ?_
                 refine JL.off 28 107 true (some 109) h76 ?_
                 refine JL.off 28 107 true (some 110) h76 ?_
                 refine JL.val (.bool false) (some 111) (gives_pickF h76) ?_
                 refine JL.mv (.bool false) ?_
                 refine JL.off 33 112 true (some 113) rfl ?_
                 refine JL.off 33 112 true (some 114) rfl ?_
                 refine JL.off 33 112 true (some 115) rfl ?_
                 refine JL.val (.bool false) (some 116) (gives_pickF rfl) ?_
                 refine JL.mv (.bool false) ?_
                 refine JL.off 38 117 true (some 118) rfl ?_
                 refine JL.off 38 117 true (some 119) rfl ?_
                 refine JL.off 38 117 true (some 120) rfl ?_
                 refine JL.val (.bool false) (some 121) (gives_pickF rfl) ?_
                 refine JL.as (.bool false) ?_
                 refine JL.es [(6, .bool false)] ?_
                 refine JQ.mask [] [false, false, false, false, false, false, false, false, false, false] ?_
                 refine J.ret ?_
                 obtain rfl := Option.some.inj H0
                 exact JQ.done' (rs := [.tmp 6]) (vs := [.bool false]) [] (.inr rfl) ⟨by kernel_rfl, trivial⟩ (fun _ h => Heap.to h) ⟨rfl, rfl⟩
             · refine JL.off 23 102 true (some 103) h75 ?_
               refine JL.off 23 102 true (some 104) h75 ?_
               refine JL.off 23 102 true (some 105) h75 ?_
               refine JL.val (.bool false) (some 106) (gives_pickF h75) ?_
               refine JL.mv (.bool false) ?_
               refine JL.off 28 107 true (some 108) rfl ?_
               refine JL.off 28 107 true (some 109) rfl ?_
               refine JL.off 28 107 true (some 110) rfl ?_
               refine JL.val (.bool false) (some 111) (gives_pickF rfl) ?_
               refine JL.mv (.bool false) ?_
               refine JL.off 33 112 true (some 113) rfl ?_
               refine JL.off 33 112 true (some 114) rfl ?_
               refine JL.off 33 112 true (some 115) rfl ?_
               refine JL.val (.bool false) (some 116) (gives_pickF rfl) ?_
               refine JL.mv (.bool false) ?_
               refine JL.off 38 117 true (some 118) rfl ?_
               refine JL.off 38 117 true (some 119) rfl ?_
               refine JL.off 38 117 true (some 120) rfl ?_
               refine JL.val (.bool false) (some 121) (gives_pickF rfl) ?_
               refine JL.as (.bool false) ?_
               refine JL.es [(6, .bool false)] ?_
               refine JQ.mask [] [false, false, false, false, false, false, false, false, false, false] ?_
               refine J.ret ?_
               obtain rfl := Option.some.inj H0
               exact JQ.done' (rs := [.tmp 6]) (vs := [.bool false]) [] (.inr rfl) ⟨by kernel_rfl, trivial⟩ (fun _ h => Heap.to h) ⟨rfl, rfl⟩
           · refine JL.off 18 97 true (some 98) h74 ?_
             refine JL.off 18 97 true (some 99) h74 ?_
             refine JL.off 18 97 true (some 100) h74 ?_
             refine JL.val (.bool false) (some 101) (gives_pickF h74) ?_
             refine JL.mv (.bool false) ?_
             refine JL.off 23 102 true (some 103) rfl ?_
             refine JL.off 23 102 true (some 104) rfl ?_
             refine JL.off 23 102 true (some 105) rfl ?_
             refine JL.val (.bool false) (some 106) (gives_pickF rfl) ?_
             refine JL.mv (.bool false) ?_
             refine JL.off 28 107 true (some 108) rfl ?_
             refine JL.off 28 107 true (some 109) rfl ?_
             refine JL.off 28 107 true (some 110) rfl ?_
             refine JL.val (.bool false) (some 111) (gives_pickF rfl) ?_
             refine JL.mv (.bool false) ?_
             refine JL.off 33 112 true (some 113) rfl ?_
             refine JL.off 33 112 true (some 114) rfl ?_
             refine JL.off 33 112 true (some 115) rfl ?_
             refine JL.val (.bool false) (some 116) (gives_pickF rfl) ?_
             refine JL.mv (.bool false) ?_
             refine JL.off 38 117 true (some 118) rfl ?_
             refine JL.off 38 117 true (some 119) rfl ?_
             refine JL.off 38 117 true (some 120) rfl ?_
             refine JL.val (.bool false) (some 121) (gives_pickF rfl) ?_
             refine JL.as (.bool false) ?_
             refine JL.es [(6, .bool false)] ?_
             refine JQ.mask [] [false, false, false, false, false, false, false, false, false, false] ?_
             refine J.ret ?_
             obtain rfl := Option.some.inj H0
             exact JQ.done' (rs := [.tmp 6]) (vs := [.bool false]) [] (.inr rfl) ⟨by kernel_rfl, trivial⟩ (fun _ h => Heap.to h) ⟨rfl, rfl⟩
         · refine JL.off 13 92 true (some 93) h73 ?_
           refine JL.off 13 92 true (some 94) h73 ?_
           refine JL.off 13 92 true (some 95) h73 ?_
           refine JL.val (.bool false) (some 96) (gives_pickF h73) ?_
           refine JL.mv (.bool false) ?_
           refine JL.off 18 97 true (some 98) rfl ?_
           refine JL.off 18 97 true (some 99) rfl ?_
           refine JL.off 18 97 true (some 100) rfl ?_
           refine JL.val (.bool false) (some 101) (gives_pickF rfl) ?_
           refine JL.mv (.bool false) ?_
           refine JL.off 23 102 true (some 103) rfl ?_
           refine JL.off 23 102 true (some 104) rfl ?_
           refine JL.off 23 102 true (some 105) rfl ?_
           refine JL.val (.bool false) (some 106) (gives_pickF rfl) ?_
           refine JL.mv (.bool false) ?_
           refine JL.off 28 107 true (some 108) rfl ?_
           refine JL.off 28 107 true (some 109) rfl ?_
           refine JL.off 28 107 true (some 110) rfl ?_
           refine JL.val (.bool false) (some 111) (gives_pickF rfl) ?_
           refine JL.mv (.bool false) ?_
           refine JL.off 33 112 true (some 113) rfl ?_
           refine JL.off 33 112 true (some 114) rfl ?_
           refine JL.off 33 112 true (some 115) rfl ?_
           refine JL.val (.bool false) (some 116) (gives_pickF rfl) ?_
           refine JL.mv (.bool false) ?_
           refine JL.off 38 117 true (some 118) rfl ?_
           refine JL.off 38 117 true (some 119) rfl ?_
           refine JL.off 38 117 true (some 120) rfl ?_
           refine JL.val (.bool false) (some 121) (gives_pickF rfl) ?_
           refine JL.as (.bool false) ?_
           refine JL.es [(6, .bool false)] ?_
           refine JQ.mask [] [false, false, false, false, false, false, false, false, false, false] ?_
           refine J.ret ?_
           obtain rfl := Option.some.inj H0
           exact JQ.done' (rs := [.tmp 6]) (vs := [.bool false]) [] (.inr rfl) ⟨by kernel_rfl, trivial⟩ (fun _ h => Heap.to h) ⟨rfl, rfl⟩
       · refine JL.off 8 87 true (some 88) h72 ?_
         refine JL.off 8 87 true (some 89) h72 ?_
         refine JL.off 8 87 true (some 90) h72 ?_
         refine JL.val (.bool false) (some 91) (gives_pickF h72) ?_
         refine JL.mv (.bool false) ?_
         refine JL.off 13 92 true (some 93) rfl ?_
         refine JL.off 13 92 true (some 94) rfl ?_
         refine JL.off 13 92 true (some 95) rfl ?_
         refine JL.val (.bool false) (some 96) (gives_pickF rfl) ?_
         refine JL.mv (.bool false) ?_
         refine JL.off 18 97 true (some 98) rfl ?_
         refine JL.off 18 97 true (some 99) rfl ?_
         refine JL.off 18 97 true (some 100) rfl ?_
         refine JL.val (.bool false) (some 101) (gives_pickF rfl) ?_
         refine JL.mv (.bool false) ?_
         refine JL.off 23 102 true (some 103) rfl ?_
         refine JL.off 23 102 true (some 104) rfl ?_
         refine JL.off 23 102 true (some 105) rfl ?_
         refine JL.val (.bool false) (some 106) (gives_pickF rfl) ?_
         refine JL.mv (.bool false) ?_
         refine JL.off 28 107 true (some 108) rfl ?_
         refine JL.off 28 107 true (some 109) rfl ?_
         refine JL.off 28 107 true (some 110) rfl ?_
         refine JL.val (.bool false) (some 111) (gives_pickF rfl) ?_
         refine JL.mv (.bool false) ?_
         refine JL.off 33 112 true (some 113) rfl ?_
         refine JL.off 33 112 true (some 114) rfl ?_
         refine JL.off 33 112 true (some 115) rfl ?_
         refine JL.val (.bool false) (some 116) (gives_pickF rfl) ?_
         refine JL.mv (.bool false) ?_
         refine JL.off 38 117 true (some 118) rfl ?_
         refine JL.off 38 117 true (some 119) rfl ?_
         refine JL.off 38 117 true (some 120) rfl ?_
         refine JL.val (.bool false) (some 121) (gives_pickF rfl) ?_
         refine JL.as (.bool false) ?_
         refine JL.es [(6, .bool false)] ?_
         refine JQ.mask [] [false, false, false, false, false, false, false, false, false, false] ?_
         refine J.ret ?_
         obtain rfl := Option.some.inj H0
         exact JQ.done' (rs := [.tmp 6]) (vs := [.bool false]) [] (.inr rfl) ⟨by kernel_rfl, trivial⟩ (fun _ h => Heap.to h) ⟨rfl, rfl⟩
     · refine JL.off 3 82 true (some 83) h71 ?_
       refine JL.off 3 82 true (some 84) h71 ?_
       refine JL.off 3 82 true (some 85) h71 ?_
       refine JL.val (.bool false) (some 86) (gives_pickF h71) ?_
       refine JL.mv (.bool false) ?_
       refine JL.off 8 87 true (some 88) rfl ?_
       refine JL.off 8 87 true (some 89) rfl ?_
       refine JL.off 8 87 true (some 90) rfl ?_
       refine JL.val (.bool false) (some 91) (gives_pickF rfl) ?_
       refine JL.mv (.bool false) ?_
       refine JL.off 13 92 true (some 93) rfl ?_
       refine JL.off 13 92 true (some 94) rfl ?_
       refine JL.off 13 92 true (some 95) rfl ?_
       refine JL.val (.bool false) (some 96) (gives_pickF rfl) ?_
       refine JL.mv (.bool false) ?_
       refine JL.off 18 97 true (some 98) rfl ?_
       refine JL.off 18 97 true (some 99) rfl ?_
       refine JL.off 18 97 true (some 100) rfl ?_
       refine JL.val (.bool false) (some 101) (gives_pickF rfl) ?_
       refine JL.mv (.bool false) ?_
       refine JL.off 23 102 true (some 103) rfl ?_
       refine JL.off 23 102 true (some 104) rfl ?_
       refine JL.off 23 102 true (some 105) rfl ?_
       refine JL.val (.bool false) (some 106) (gives_pickF rfl) ?_
       refine JL.mv (.bool false) ?_
       refine JL.off 28 107 true (some 108) rfl ?_
       refine JL.off 28 107 true (some 109) rfl ?_
       refine JL.off 28 107 true (some 110) rfl ?_
       refine JL.val (.bool false) (some 111) (gives_pickF rfl) ?_
       refine JL.mv (.bool false) ?_
       refine JL.off 33 112 true (some 113) rfl ?_
       refine JL.off 33 112 true (some 114) rfl ?_
       refine JL.off 33 112 true (some 115) rfl ?_
       refine JL.val (.bool false) (some 116) (gives_pickF rfl) ?_
       refine JL.mv (.bool false) ?_
       refine JL.off 38 117 true (some 118) rfl ?_
       refine JL.off 38 117 true (some 119) rfl ?_
       refine JL.off 38 117 true (some 120) rfl ?_
       refine JL.val (.bool false) (some 121) (gives_pickF rfl) ?_
       refine JL.as (.bool false) ?_
       refine JL.es [(6, .bool false)] ?_
       refine JQ.mask [] [false, false, false, false, false, false, false, false, false, false] ?_
       refine J.ret ?_
       obtain rfl := Option.some.inj H0
       exact JQ.done' (rs := [.tmp 6]) (vs := [.bool false]) [] (.inr rfl) ⟨by kernel_rfl, trivial⟩ (fun _ h => Heap.to h) ⟨rfl, rfl⟩


end Go.Proofs.Ytiepcikippcfaaa.M
