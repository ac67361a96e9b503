import Derived.Test.YtafploedondfpaaW0
set_option linter.unusedVariables false
set_option linter.unusedSimpArgs false
set_option maxRecDepth 100000
set_option maxHeartbeats 8000000
namespace Go.Proofs.Ytafploedondfpaa.M
open Go.GW Go.Proofs

theorem worker_Open.ok (j1 : Job) (Aa2 : Option Addr) (c3 : Nat) (Aa5 : Option Addr) (c6 : Nat) (n8 : Int) (r : (Work × Int)) (H0 : worker_Open.f j1 n8 = some r) :
    Does Try.prog 9 [.agg #[.slice Aa2 j1.X_.length c3, .slice Aa5 j1.Y.length c6, .int .i64 j1.Most, .int .i64 j1.Size], .int .i64 n8].toArray [At.rd Aa2 c3 ((flInt .i64).kd) j1.X_ true, At.rd Aa5 c6 ((flInt .i64).kd) j1.Y true] [] false (fun v Δ => ∃ A1001 : Option Addr, ∃ c1001 : Nat, ∃ A1002 : Option Addr, ∃ c1002 : Nat, ∃ A1003 : Option Addr, ∃ c1003 : Nat, ∃ A1004 : Option Addr, ∃ c1004 : Nat, ∃ A1005 : Option Addr, ∃ c1005 : Nat, v = .tuple #[.agg #[.slice A1001 r.1.Sum.Sums.length c1001, .slice A1002 r.1.Sum.Ns.length c1002, .slice A1003 r.1.Sum.Spans.length c1003, .slice A1004 r.1.Done.length c1004, .slice A1005 r.1.At.length c1005], .int .i64 r.2] ∧ Δ = [At.row A1001 c1001 74 fl_Count.kd r.1.Sum.Sums false, At.row A1002 c1002 74 fl_Count.kd r.1.Sum.Ns false, At.row A1003 c1003 79 fl_Gap.kd r.1.Sum.Spans false, At.row A1004 c1004 4 flBool.kd r.1.Done false, At.row A1005 c1005 3 ((flInt .i64).kd) r.1.At false]) := by
 refine Does.body (vs := [.agg #[.slice Aa2 j1.X_.length c3, .slice Aa5 j1.Y.length c6, .int .i64 j1.Most, .int .i64 j1.Size], .int .i64 n8]) Try.func9 rfl ⟨.inl rfl, .inl rfl, trivial⟩ trivial fun w S => ?_
 unfold worker_Open.f at H0
 refine J.seq ?_
 refine J.region ?_
 refine JL.box [.slice Aa2 j1.X_.length c3, .slice Aa5 j1.Y.length c6, .int .i64 j1.Most, .int .i64 j1.Size] fun b9 => ?_
 refine JL.alloc [.slice none 0 0, .slice none 0 0, .slice none 0 0, .slice none 0 0, .slice none 0 0] fun b10 => ?_
 refine JL.as (.int .i64 0) ?_
 refine JL.nil ?_
 refine JQ.then_normal ?_
 refine JQ.sub [(1, .int .i64 n8), (2, .pointer (some ⟨b9, 0, none⟩)), (4, .pointer (some ⟨b10, 0, none⟩))] ?_
 refine J.seq ?_
 refine J.seq ?_
 refine J.region ?_
 refine JL.val (.agg #[.slice Aa2 j1.X_.length c3, .slice Aa5 j1.Y.length c6, .int .i64 j1.Most, .int .i64 j1.Size]) (some 9) (yields_load_boxes 2 0 [.slice Aa2 j1.X_.length c3, .slice Aa5 j1.Y.length c6, .int .i64 j1.Most, .int .i64 j1.Size] (holds_box b9 24 [.slice Aa2 j1.X_.length c3, .slice Aa5 j1.Y.length c6, .int .i64 j1.Most, .int .i64 j1.Size]) tyAgg_24 tySize_24) ?_
 obtain ⟨t11, hc12, H0⟩ := bind_some H0
 refine JL.call [] [] [] (worker_Check.ok j1 Aa2 c3 Aa5 c6 _ hc12) ⟨pre_any 0 (view_rd Aa2 c3 ((flInt .i64).kd) j1.X_ true true), ⟨pre_any 1 (view_rd Aa5 c6 ((flInt .i64).kd) j1.Y true true), trivial⟩⟩ ?_
 rintro _ _ ⟨rfl, rfl⟩
 refine JL.as (.int .i64 t11) ?_
 refine JL.nil ?_
 refine JQ.then_normal ?_
 refine JQ.sub [(1, .int .i64 n8), (2, .pointer (some ⟨b9, 0, none⟩)), (4, .pointer (some ⟨b10, 0, none⟩)), (6, .int .i64 t11)] ?_
 refine J.seq ?_
 refine J.region ?_
 refine JL.mv (.int .i64 t11) ?_
 refine JL.pur (.bool (!decide (t11 = 0))) (some 12) ?_
 refine JL.nil ?_
 refine JQ.then_normal ?_
 refine JQ.sub [(1, .int .i64 n8), (2, .pointer (some ⟨b9, 0, none⟩)), (4, .pointer (some ⟨b10, 0, none⟩)), (6, .int .i64 t11), (12, .bool (!decide (t11 = 0)))] ?_
 rcases ite_cases H0 with ⟨h13, H0⟩ | ⟨h13, H0⟩
 · refine J.cond_true h13 ?_
   refine J.seq ?_
   refine J.region ?_
   refine JL.pur (.agg #[.slice none 0 0, .slice none 0 0, .slice none 0 0, .slice none 0 0, .slice none 0 0]) (some 13) ?_
   refine JL.mv (.int .i64 t11) ?_
   refine JL.store 3 b10 0 42 [.slice none 0 0, .slice none 0 0, .slice none 0 0, .slice none 0 0, .slice none 0 0] [.slice none 0 0, .slice none 0 0, .slice none 0 0, .slice none 0 0, .slice none 0 0] tySize_42 ?_
   refine JL.as (.int .i64 t11) ?_
   refine JL.nil ?_
   refine JQ.then_normal ?_
   refine JQ.sub [(4, .pointer (some ⟨b10, 0, none⟩)), (5, .int .i64 t11)] ?_
   refine JQ.mask [At.box b10 42 [.slice none 0 0, .slice none 0 0, .slice none 0 0, .slice none 0 0, .slice none 0 0]] [false, false, false, true] ?_
   refine J.ret ?_
   refine JQ.then_ret ?_
   obtain rfl := Option.some.inj H0
   exact JQ.done' (rs := [.cell 4 42, .tmp 5]) (vs := [.agg #[.slice none 0 0, .slice none 0 0, .slice none 0 0, .slice none 0 0, .slice none 0 0], .int .i64 t11]) [At.row none 0 74 fl_Count.kd ([] : List Count) false, At.row none 0 74 fl_Count.kd ([] : List Count) false, At.row none 0 79 fl_Gap.kd ([] : List Gap) false, At.row none 0 4 flBool.kd ([] : List Bool) false, At.row none 0 3 ((flInt .i64).kd) ([] : List Int) false] (.inr rfl) ⟨⟨b10, 0, _, _, by kernel_rfl, by kernel_rfl, holds_box b10 42 [.slice none 0 0, .slice none 0 0, .slice none 0 0, .slice none 0 0, .slice none 0 0], .inl ⟨tyAgg_42, tySize_42, rfl⟩⟩, by kernel_rfl, trivial⟩ (fun _ h => Heap.to (Heap.pick [1, 2, 3, 4, 5] (by decide) (Heap.addRow0 (α := Int) 3 ((flInt .i64).kd) false (Heap.addRow0 (α := Bool) 4 flBool.kd false (Heap.addRow0 (α := Gap) 79 fl_Gap.kd false (Heap.addRow0 (α := Count) 74 fl_Count.kd false (Heap.addRow0 (α := Count) 74 fl_Count.kd false h))))))) ⟨none, 0, none, 0, none, 0, none, 0, none, 0, rfl, rfl⟩
 · refine J.cond_false h13 ?_
   refine J.skip ?_
   refine JQ.then_normal ?_
   refine JQ.sub [(1, .int .i64 n8), (2, .pointer (some ⟨b9, 0, none⟩)), (4, .pointer (some ⟨b10, 0, none⟩))] ?_
   refine J.seq ?_
   refine J.join (T := Bool) (G := Unit) (fun t => worker_Open.k1 j1 n8 t = some r) (fun t g => [(1, .int .i64 n8), (2, .pointer (some ⟨b9, 0, none⟩)), (4, .pointer (some ⟨b10, 0, none⟩)), (20, .bool t)]) (fun t g => [At.box b9 24 [.slice Aa2 j1.X_.length c3, .slice Aa5 j1.Y.length c6, .int .i64 j1.Most, .int .i64 j1.Size], At.rd Aa2 c3 ((flInt .i64).kd) j1.X_ true, At.rd Aa5 c6 ((flInt .i64).kd) j1.Y true, At.box b10 42 [.slice none 0 0, .slice none 0 0, .slice none 0 0, .slice none 0 0, .slice none 0 0]]) ?_ ?_
   · refine J.region ?_
     refine JL.mv (.int .i64 n8) ?_
     refine JL.pur (.bool (decide (n8 < 1))) (some 16) ?_
     refine JL.mv (.bool (decide (n8 < 1))) ?_
     rcases ite_cases H0 with ⟨h93, H0⟩ | ⟨h93, H0⟩
     · refine JL.off 2 17 false (some 18) h93 ?_
       refine JL.off 2 17 false (some 19) h93 ?_
       refine JL.val (.bool true) (some 20) (gives_pickT h93) ?_
       refine JL.nil ?_
       refine JQ.then_normal ?_
       exact JQ.meet true () H0 (fun _ h => Heap.to (Heap.pick [2, 0, 1, 3] (by decide) h))
     · refine JL.on 2 17 h93 ?_
       refine JL.mv (.int .i64 n8) ?_
       refine JL.on 2 17 h93 ?_
       refine JL.pur (.bool (decide (6 < n8))) (some 19) ?_
       refine JL.val (.bool (decide (6 < n8))) (some 20) (gives_pickF h93) ?_
       refine JL.nil ?_
       refine JQ.then_normal ?_
       exact JQ.meet (decide (6 < n8)) () H0 (fun _ h => Heap.to (Heap.pick [2, 0, 1, 3] (by decide) h))
   · clear H0
     rintro x15 ⟨⟩ H0
     replace H0 : worker_Open.k1 j1 n8 x15 = some r := H0
     unfold worker_Open.k1 at H0
     refine JQ.sub [(1, .int .i64 n8), (2, .pointer (some ⟨b9, 0, none⟩)), (4, .pointer (some ⟨b10, 0, none⟩)), (20, .bool x15)] ?_
     refine JQ.turn (Δ' := [At.box b9 24 [.slice Aa2 j1.X_.length c3, .slice Aa5 j1.Y.length c6, .int .i64 j1.Most, .int .i64 j1.Size], At.rd Aa2 c3 ((flInt .i64).kd) j1.X_ true, At.rd Aa5 c6 ((flInt .i64).kd) j1.Y true, At.box b10 42 [.slice none 0 0, .slice none 0 0, .slice none 0 0, .slice none 0 0, .slice none 0 0]]) (fun _ h => h.to) ?_
     rcases ite_cases H0 with ⟨h16, H0⟩ | ⟨h16, H0⟩
     · refine J.cond_true h16 ?_
       refine J.seq ?_
       refine J.region ?_
       refine JL.pur (.agg #[.slice none 0 0, .slice none 0 0, .slice none 0 0, .slice none 0 0, .slice none 0 0]) (some 21) ?_
       refine JL.store 3 b10 0 42 [.slice none 0 0, .slice none 0 0, .slice none 0 0, .slice none 0 0, .slice none 0 0] [.slice none 0 0, .slice none 0 0, .slice none 0 0, .slice none 0 0, .slice none 0 0] tySize_42 ?_
       refine JL.as (.int .i64 2) ?_
       refine JL.nil ?_
       refine JQ.then_normal ?_
       refine JQ.sub [(4, .pointer (some ⟨b10, 0, none⟩)), (5, .int .i64 2)] ?_
       refine JQ.mask [At.box b10 42 [.slice none 0 0, .slice none 0 0, .slice none 0 0, .slice none 0 0, .slice none 0 0]] [false, false, false, true] ?_
       refine J.ret ?_
       refine JQ.then_ret ?_
       obtain rfl := Option.some.inj H0
       exact JQ.done' (rs := [.cell 4 42, .tmp 5]) (vs := [.agg #[.slice none 0 0, .slice none 0 0, .slice none 0 0, .slice none 0 0, .slice none 0 0], .int .i64 2]) [At.row none 0 74 fl_Count.kd ([] : List Count) false, At.row none 0 74 fl_Count.kd ([] : List Count) false, At.row none 0 79 fl_Gap.kd ([] : List Gap) false, At.row none 0 4 flBool.kd ([] : List Bool) false, At.row none 0 3 ((flInt .i64).kd) ([] : List Int) false] (.inr rfl) ⟨⟨b10, 0, _, _, by kernel_rfl, by kernel_rfl, holds_box b10 42 [.slice none 0 0, .slice none 0 0, .slice none 0 0, .slice none 0 0, .slice none 0 0], .inl ⟨tyAgg_42, tySize_42, rfl⟩⟩, by kernel_rfl, trivial⟩ (fun _ h => Heap.to (Heap.pick [1, 2, 3, 4, 5] (by decide) (Heap.addRow0 (α := Int) 3 ((flInt .i64).kd) false (Heap.addRow0 (α := Bool) 4 flBool.kd false (Heap.addRow0 (α := Gap) 79 fl_Gap.kd false (Heap.addRow0 (α := Count) 74 fl_Count.kd false (Heap.addRow0 (α := Count) 74 fl_Count.kd false h))))))) ⟨none, 0, none, 0, none, 0, none, 0, none, 0, rfl, rfl⟩
     · refine J.cond_false h16 ?_
       refine J.skip ?_
       refine JQ.then_normal ?_
       refine JQ.sub [(1, .int .i64 n8), (2, .pointer (some ⟨b9, 0, none⟩)), (4, .pointer (some ⟨b10, 0, none⟩))] ?_
       refine J.seq ?_
       refine J.region ?_
       refine JL.pur (.pointer (some ⟨b9, 2, none⟩)) (some 23) ?_
       refine JL.val (.int .i64 j1.Most) (some 24) (yields_load_box 0 2 (holds_box b9 24 [.slice Aa2 j1.X_.length c3, .slice Aa5 j1.Y.length c6, .int .i64 j1.Most, .int .i64 j1.Size]) tyAgg_3) ?_
       obtain ⟨t17, hc18, H0⟩ := bind_some H0
       refine JL.call [] [] [] (accum_New.ok j1.Most _ hc18) trivial ?_
       rintro _ _ ⟨Aa19, c20, Aa22, c23, Aa25, c26, rfl, rfl⟩
       refine JL.mv (.tuple #[.agg #[.slice Aa19 t17.1.Sums.length c20, .slice Aa22 t17.1.Ns.length c23, .slice Aa25 t17.1.Spans.length c26], .int .i64 t17.2]) ?_
       refine JL.pur (.agg #[.slice Aa19 t17.1.Sums.length c20, .slice Aa22 t17.1.Ns.length c23, .slice Aa25 t17.1.Spans.length c26]) (some 26) ?_
       refine JL.pur (.int .i64 t17.2) (some 27) ?_
       refine JL.alloc [.slice none 0 0, .slice none 0 0, .slice none 0 0] fun b28 => ?_
       refine JL.store 7 b28 0 39 [.slice none 0 0, .slice none 0 0, .slice none 0 0] [.slice Aa19 t17.1.Sums.length c20, .slice Aa22 t17.1.Ns.length c23, .slice Aa25 t17.1.Spans.length c26] tySize_39 ?_
       refine JL.as (.int .i64 t17.2) ?_
       refine JL.nil ?_
       refine JQ.then_normal ?_
       refine JQ.sub [(1, .int .i64 n8), (2, .pointer (some ⟨b9, 0, none⟩)), (4, .pointer (some ⟨b10, 0, none⟩)), (7, .pointer (some ⟨b28, 0, none⟩))] ?_
       refine J.seq ?_
       obtain ⟨t29, hc30, H0⟩ := bind_some H0
       obtain ⟨⟨h32, h33, h34⟩, H0⟩ := ite_must H0
       obtain ⟨t36, hc37, H0⟩ := bind_some H0
       refine JY.startM [true, true, true, false, true, true, true, true] [] (ba 10 0) ?_
       refine JY.take (hi := rfl) 0 (ba 10 1) (.agg #[.slice Aa19 t17.1.Sums.length c20, .slice Aa22 t17.1.Ns.length c23, .slice Aa25 t17.1.Spans.length c26]) (some 28) [true, true, true, false, true, true, true, true] want (yields_load_boxes 6 0 [.slice Aa19 t17.1.Sums.length c20, .slice Aa22 t17.1.Ns.length c23, .slice Aa25 t17.1.Spans.length c26] (holds_box b28 39 [.slice Aa19 t17.1.Sums.length c20, .slice Aa22 t17.1.Ns.length c23, .slice Aa25 t17.1.Spans.length c26]) tyAgg_39 tySize_39) ?_
       refine JY.take (hi := rfl) 1 (ba 10 3) (.agg #[.slice Aa2 j1.X_.length c3, .slice Aa5 j1.Y.length c6, .int .i64 j1.Most, .int .i64 j1.Size]) (some 29) [true, true, true, false, true, true, true, true] want (yields_load_boxes 0 0 [.slice Aa2 j1.X_.length c3, .slice Aa5 j1.Y.length c6, .int .i64 j1.Most, .int .i64 j1.Size] (holds_box b9 24 [.slice Aa2 j1.X_.length c3, .slice Aa5 j1.Y.length c6, .int .i64 j1.Most, .int .i64 j1.Size]) tyAgg_24 tySize_24) ?_
       refine JY.pur (hi := rfl) 5 (ba 10 35) (.int .i64 n8) (some 33) want ?_
       refine JY.all [2, 4] ⟨⟨_, rfl, ?_⟩, ⟨_, rfl, ?_⟩, trivial⟩
       · refine JL.call [] [] [] (worker_blocks.ok j1 Aa2 c3 Aa5 c6 _ hc30) ⟨pre_any 1 (view_rd Aa2 c3 ((flInt .i64).kd) j1.X_ true true), ⟨pre_any 2 (view_rd Aa5 c6 ((flInt .i64).kd) j1.Y true true), trivial⟩⟩ ?_
         rintro _ _ ⟨rfl, rfl⟩
         refine JL.nil ?_
         refine JY.ran (ba 10 39) [true, true, true, false, true, true, true, true] ?_
         refine JY.all [3, 4] ⟨⟨_, rfl, ?_⟩, ⟨_, rfl, ?_⟩, trivial⟩
         · obtain ⟨h44, h45, h46⟩ : 0 ≤ t29 ∧ t29 ≤ t29 ∧ t29 ≤ 281474976710656 := ⟨h32, h33, h34⟩
           refine JL.makeSl 4 flBool.kd (false : Bool) Try.underlying40 info_4 (fun _ _ => rfl) h44 h45 (by omega) (by omega) fun b43 => ?_
           refine JL.nil ?_
           refine JY.ran (ba 10 47) [true, true, true, false, true, true, true, true, false] ?_
           refine JY.all [4] ⟨⟨_, rfl, ?_⟩, trivial⟩
           refine JL.buildSl 3 ((flInt .i64).kd) (([(-1)] : List Int) : List Int) [.int .i64 (-1)] false (closes_fl rfl) fun b47 => ?_
           refine JL.nil ?_
           refine JY.ran (ba 10 63) [true, true, true, false, true, true, true, true, false, false] ?_
           refine JY.all [6] ⟨⟨_, rfl, ?_⟩, trivial⟩
           refine JL.call [] [] [] (slices_Repeat__int_int.ok ([(-1)] : List Int) (some ⟨b47, 0, none⟩) 1 n8 _ hc37) ⟨pre_view 9 (view_row (some ⟨b47, 0, none⟩) 1 3 ((flInt .i64).kd) ([(-1)] : List Int) false true), trivial⟩ ?_
           rintro _ _ ⟨Aa50, c51, rfl, rfl⟩
           refine JL.nil ?_
           refine JY.ran (ba 10 127) [true, true, true, false, true, true, true, true, false, false, false] ?_
           refine JY.pur (hi := rfl) 7 (ba 10 255) (.agg #[.slice Aa19 t17.1.Sums.length c20, .slice Aa22 t17.1.Ns.length c23, .slice Aa25 t17.1.Spans.length c26, .slice (some ⟨b43, 0, none⟩) (List.replicate t29.toNat (false : Bool)).length t29.toNat, .slice Aa50 t36.length c51]) (some 35) want ?_
           refine JY.all [8] ⟨⟨_, rfl, ?_⟩, trivial⟩
           refine JL.store 3 b10 0 42 [.slice none 0 0, .slice none 0 0, .slice none 0 0, .slice none 0 0, .slice none 0 0] [.slice Aa19 t17.1.Sums.length c20, .slice Aa22 t17.1.Ns.length c23, .slice Aa25 t17.1.Spans.length c26, .slice (some ⟨b43, 0, none⟩) (List.replicate t29.toNat (false : Bool)).length t29.toNat, .slice Aa50 t36.length c51] tySize_42 ?_
           refine JL.nil ?_
           refine JY.ran (ba 10 511) [true, true, true, false, true, true, true, true, false, false, false] ?_
           refine JY.pur (hi := rfl) 9 (ba 10 1023) (.int .i64 0) (some 5) want ?_
           refine JY.done ?_
           refine JQ.then_normal ?_
           refine JQ.sub [(4, .pointer (some ⟨b10, 0, none⟩)), (5, .int .i64 0)] ?_
           refine JQ.mask [At.box b10 42 [.slice Aa19 t17.1.Sums.length c20, .slice Aa22 t17.1.Ns.length c23, .slice Aa25 t17.1.Spans.length c26, .slice (some ⟨b43, 0, none⟩) (List.replicate t29.toNat (false : Bool)).length t29.toNat, .slice Aa50 t36.length c51], At.row Aa19 c20 74 fl_Count.kd t17.1.Sums false, At.row Aa22 c23 74 fl_Count.kd t17.1.Ns false, At.row Aa25 c26 79 fl_Gap.kd t17.1.Spans false, At.row (some ⟨b43, 0, none⟩) t29.toNat 4 flBool.kd (List.replicate t29.toNat (false : Bool)) false, At.row Aa50 c51 3 ((flInt .i64).kd) t36 false] [false, false, false, true, true, true, true, false, true, false, true] ?_
           refine J.ret ?_
           obtain rfl := Option.some.inj H0
           exact JQ.done' (rs := [.cell 4 42, .tmp 5]) (vs := [.agg #[.slice Aa19 t17.1.Sums.length c20, .slice Aa22 t17.1.Ns.length c23, .slice Aa25 t17.1.Spans.length c26, .slice (some ⟨b43, 0, none⟩) (List.replicate t29.toNat (false : Bool)).length t29.toNat, .slice Aa50 t36.length c51], .int .i64 0]) [At.row Aa19 c20 74 fl_Count.kd t17.1.Sums false, At.row Aa22 c23 74 fl_Count.kd t17.1.Ns false, At.row Aa25 c26 79 fl_Gap.kd t17.1.Spans false, At.row (some ⟨b43, 0, none⟩) t29.toNat 4 flBool.kd (List.replicate t29.toNat (false : Bool)) false, At.row Aa50 c51 3 ((flInt .i64).kd) t36 false] (.inr rfl) ⟨⟨b10, 0, _, _, by kernel_rfl, by kernel_rfl, holds_box b10 42 [.slice Aa19 t17.1.Sums.length c20, .slice Aa22 t17.1.Ns.length c23, .slice Aa25 t17.1.Spans.length c26, .slice (some ⟨b43, 0, none⟩) (List.replicate t29.toNat (false : Bool)).length t29.toNat, .slice Aa50 t36.length c51], .inl ⟨tyAgg_42, tySize_42, rfl⟩⟩, by kernel_rfl, trivial⟩ (fun _ h => Heap.to (Heap.pick [1, 2, 3, 4, 5] (by decide) h)) ⟨Aa19, c20, Aa22, c23, Aa25, c26, (some ⟨b43, 0, none⟩), t29.toNat, Aa50, c51, rfl, rfl⟩
         · refine JL.buildSl 3 ((flInt .i64).kd) (([(-1)] : List Int) : List Int) [.int .i64 (-1)] false (closes_fl rfl) fun b53 => ?_
           refine JL.nil ?_
           refine JY.ran (ba 10 55) [true, true, true, false, true, true, true, true, false] ?_
           refine JY.all [3, 6] ⟨⟨_, rfl, ?_⟩, ⟨_, rfl, ?_⟩, trivial⟩
           · obtain ⟨h55, h56, h57⟩ : 0 ≤ t29 ∧ t29 ≤ t29 ∧ t29 ≤ 281474976710656 := ⟨h32, h33, h34⟩
             refine JL.makeSl 4 flBool.kd (false : Bool) Try.underlying40 info_4 (fun _ _ => rfl) h55 h56 (by omega) (by omega) fun b54 => ?_
             refine JL.nil ?_
             refine JY.ran (ba 10 63) [true, true, true, false, true, true, true, true, false, false] ?_
             refine JY.all [6] ⟨⟨_, rfl, ?_⟩, trivial⟩
             refine JL.call [] [] [] (slices_Repeat__int_int.ok ([(-1)] : List Int) (some ⟨b53, 0, none⟩) 1 n8 _ hc37) ⟨pre_view 8 (view_row (some ⟨b53, 0, none⟩) 1 3 ((flInt .i64).kd) ([(-1)] : List Int) false true), trivial⟩ ?_
             rintro _ _ ⟨Aa60, c61, rfl, rfl⟩
             refine JL.nil ?_
             refine JY.ran (ba 10 127) [true, true, true, false, true, true, true, true, false, false, false] ?_
             refine JY.pur (hi := rfl) 7 (ba 10 255) (.agg #[.slice Aa19 t17.1.Sums.length c20, .slice Aa22 t17.1.Ns.length c23, .slice Aa25 t17.1.Spans.length c26, .slice (some ⟨b54, 0, none⟩) (List.replicate t29.toNat (false : Bool)).length t29.toNat, .slice Aa60 t36.length c61]) (some 35) want ?_
             refine JY.all [8] ⟨⟨_, rfl, ?_⟩, trivial⟩
             refine JL.store 3 b10 0 42 [.slice none 0 0, .slice none 0 0, .slice none 0 0, .slice none 0 0, .slice none 0 0] [.slice Aa19 t17.1.Sums.length c20, .slice Aa22 t17.1.Ns.length c23, .slice Aa25 t17.1.Spans.length c26, .slice (some ⟨b54, 0, none⟩) (List.replicate t29.toNat (false : Bool)).length t29.toNat, .slice Aa60 t36.length c61] tySize_42 ?_
             refine JL.nil ?_
             refine JY.ran (ba 10 511) [true, true, true, false, true, true, true, true, false, false, false] ?_
             refine JY.pur (hi := rfl) 9 (ba 10 1023) (.int .i64 0) (some 5) want ?_
             refine JY.done ?_
             refine JQ.then_normal ?_
             refine JQ.sub [(4, .pointer (some ⟨b10, 0, none⟩)), (5, .int .i64 0)] ?_
             refine JQ.mask [At.box b10 42 [.slice Aa19 t17.1.Sums.length c20, .slice Aa22 t17.1.Ns.length c23, .slice Aa25 t17.1.Spans.length c26, .slice (some ⟨b54, 0, none⟩) (List.replicate t29.toNat (false : Bool)).length t29.toNat, .slice Aa60 t36.length c61], At.row Aa19 c20 74 fl_Count.kd t17.1.Sums false, At.row Aa22 c23 74 fl_Count.kd t17.1.Ns false, At.row Aa25 c26 79 fl_Gap.kd t17.1.Spans false, At.row (some ⟨b54, 0, none⟩) t29.toNat 4 flBool.kd (List.replicate t29.toNat (false : Bool)) false, At.row Aa60 c61 3 ((flInt .i64).kd) t36 false] [false, false, false, true, true, true, true, false, false, true, true] ?_
             refine J.ret ?_
             obtain rfl := Option.some.inj H0
             exact JQ.done' (rs := [.cell 4 42, .tmp 5]) (vs := [.agg #[.slice Aa19 t17.1.Sums.length c20, .slice Aa22 t17.1.Ns.length c23, .slice Aa25 t17.1.Spans.length c26, .slice (some ⟨b54, 0, none⟩) (List.replicate t29.toNat (false : Bool)).length t29.toNat, .slice Aa60 t36.length c61], .int .i64 0]) [At.row Aa19 c20 74 fl_Count.kd t17.1.Sums false, At.row Aa22 c23 74 fl_Count.kd t17.1.Ns false, At.row Aa25 c26 79 fl_Gap.kd t17.1.Spans false, At.row (some ⟨b54, 0, none⟩) t29.toNat 4 flBool.kd (List.replicate t29.toNat (false : Bool)) false, At.row Aa60 c61 3 ((flInt .i64).kd) t36 false] (.inr rfl) ⟨⟨b10, 0, _, _, by kernel_rfl, by kernel_rfl, holds_box b10 42 [.slice Aa19 t17.1.Sums.length c20, .slice Aa22 t17.1.Ns.length c23, .slice Aa25 t17.1.Spans.length c26, .slice (some ⟨b54, 0, none⟩) (List.replicate t29.toNat (false : Bool)).length t29.toNat, .slice Aa60 t36.length c61], .inl ⟨tyAgg_42, tySize_42, rfl⟩⟩, by kernel_rfl, trivial⟩ (fun _ h => Heap.to (Heap.pick [1, 2, 3, 4, 5] (by decide) h)) ⟨Aa19, c20, Aa22, c23, Aa25, c26, (some ⟨b54, 0, none⟩), t29.toNat, Aa60, c61, rfl, rfl⟩
           · refine JL.call [] [] [] (slices_Repeat__int_int.ok ([(-1)] : List Int) (some ⟨b53, 0, none⟩) 1 n8 _ hc37) ⟨pre_view 8 (view_row (some ⟨b53, 0, none⟩) 1 3 ((flInt .i64).kd) ([(-1)] : List Int) false true), trivial⟩ ?_
             rintro _ _ ⟨Aa65, c66, rfl, rfl⟩
             refine JL.nil ?_
             refine JY.ran (ba 10 119) [true, true, true, false, true, true, true, true, false, false] ?_
             refine JY.all [3] ⟨⟨_, rfl, ?_⟩, trivial⟩
             obtain ⟨h69, h70, h71⟩ : 0 ≤ t29 ∧ t29 ≤ t29 ∧ t29 ≤ 281474976710656 := ⟨h32, h33, h34⟩
             refine JL.makeSl 4 flBool.kd (false : Bool) Try.underlying40 info_4 (fun _ _ => rfl) h69 h70 (by omega) (by omega) fun b68 => ?_
             refine JL.nil ?_
             refine JY.ran (ba 10 127) [true, true, true, false, true, true, true, true, false, false, false] ?_
             refine JY.pur (hi := rfl) 7 (ba 10 255) (.agg #[.slice Aa19 t17.1.Sums.length c20, .slice Aa22 t17.1.Ns.length c23, .slice Aa25 t17.1.Spans.length c26, .slice (some ⟨b68, 0, none⟩) (List.replicate t29.toNat (false : Bool)).length t29.toNat, .slice Aa65 t36.length c66]) (some 35) want ?_
             refine JY.all [8] ⟨⟨_, rfl, ?_⟩, trivial⟩
             refine JL.store 3 b10 0 42 [.slice none 0 0, .slice none 0 0, .slice none 0 0, .slice none 0 0, .slice none 0 0] [.slice Aa19 t17.1.Sums.length c20, .slice Aa22 t17.1.Ns.length c23, .slice Aa25 t17.1.Spans.length c26, .slice (some ⟨b68, 0, none⟩) (List.replicate t29.toNat (false : Bool)).length t29.toNat, .slice Aa65 t36.length c66] tySize_42 ?_
             refine JL.nil ?_
             refine JY.ran (ba 10 511) [true, true, true, false, true, true, true, true, false, false, false] ?_
             refine JY.pur (hi := rfl) 9 (ba 10 1023) (.int .i64 0) (some 5) want ?_
             refine JY.done ?_
             refine JQ.then_normal ?_
             refine JQ.sub [(4, .pointer (some ⟨b10, 0, none⟩)), (5, .int .i64 0)] ?_
             refine JQ.mask [At.box b10 42 [.slice Aa19 t17.1.Sums.length c20, .slice Aa22 t17.1.Ns.length c23, .slice Aa25 t17.1.Spans.length c26, .slice (some ⟨b68, 0, none⟩) (List.replicate t29.toNat (false : Bool)).length t29.toNat, .slice Aa65 t36.length c66], At.row Aa19 c20 74 fl_Count.kd t17.1.Sums false, At.row Aa22 c23 74 fl_Count.kd t17.1.Ns false, At.row Aa25 c26 79 fl_Gap.kd t17.1.Spans false, At.row Aa65 c66 3 ((flInt .i64).kd) t36 false, At.row (some ⟨b68, 0, none⟩) t29.toNat 4 flBool.kd (List.replicate t29.toNat (false : Bool)) false] [false, false, false, true, true, true, true, false, false, true, true] ?_
             refine J.ret ?_
             obtain rfl := Option.some.inj H0
             exact JQ.done' (rs := [.cell 4 42, .tmp 5]) (vs := [.agg #[.slice Aa19 t17.1.Sums.length c20, .slice Aa22 t17.1.Ns.length c23, .slice Aa25 t17.1.Spans.length c26, .slice (some ⟨b68, 0, none⟩) (List.replicate t29.toNat (false : Bool)).length t29.toNat, .slice Aa65 t36.length c66], .int .i64 0]) [At.row Aa19 c20 74 fl_Count.kd t17.1.Sums false, At.row Aa22 c23 74 fl_Count.kd t17.1.Ns false, At.row Aa25 c26 79 fl_Gap.kd t17.1.Spans false, At.row (some ⟨b68, 0, none⟩) t29.toNat 4 flBool.kd (List.replicate t29.toNat (false : Bool)) false, At.row Aa65 c66 3 ((flInt .i64).kd) t36 false] (.inr rfl) ⟨⟨b10, 0, _, _, by kernel_rfl, by kernel_rfl, holds_box b10 42 [.slice Aa19 t17.1.Sums.length c20, .slice Aa22 t17.1.Ns.length c23, .slice Aa25 t17.1.Spans.length c26, .slice (some ⟨b68, 0, none⟩) (List.replicate t29.toNat (false : Bool)).length t29.toNat, .slice Aa65 t36.length c66], .inl ⟨tyAgg_42, tySize_42, rfl⟩⟩, by kernel_rfl, trivial⟩ (fun _ h => Heap.to (Heap.pick [1, 2, 3, 5, 4] (by decide) h)) ⟨Aa19, c20, Aa22, c23, Aa25, c26, (some ⟨b68, 0, none⟩), t29.toNat, Aa65, c66, rfl, rfl⟩
       · refine JL.buildSl 3 ((flInt .i64).kd) (([(-1)] : List Int) : List Int) [.int .i64 (-1)] false (closes_fl rfl) fun b72 => ?_
         refine JL.nil ?_
         refine JY.ran (ba 10 51) [true, true, true, false, true, true, true, true, false] ?_
         refine JY.all [2] ⟨⟨_, rfl, ?_⟩, trivial⟩
         refine JL.call [] [] [] (worker_blocks.ok j1 Aa2 c3 Aa5 c6 _ hc30) ⟨pre_any 1 (view_rd Aa2 c3 ((flInt .i64).kd) j1.X_ true true), ⟨pre_any 2 (view_rd Aa5 c6 ((flInt .i64).kd) j1.Y true true), trivial⟩⟩ ?_
         rintro _ _ ⟨rfl, rfl⟩
         refine JL.nil ?_
         refine JY.ran (ba 10 55) [true, true, true, false, true, true, true, true, false] ?_
         refine JY.all [3, 6] ⟨⟨_, rfl, ?_⟩, ⟨_, rfl, ?_⟩, trivial⟩
         · obtain ⟨h76, h77, h78⟩ : 0 ≤ t29 ∧ t29 ≤ t29 ∧ t29 ≤ 281474976710656 := ⟨h32, h33, h34⟩
           refine JL.makeSl 4 flBool.kd (false : Bool) Try.underlying40 info_4 (fun _ _ => rfl) h76 h77 (by omega) (by omega) fun b75 => ?_
           refine JL.nil ?_
           refine JY.ran (ba 10 63) [true, true, true, false, true, true, true, true, false, false] ?_
           refine JY.all [6] ⟨⟨_, rfl, ?_⟩, trivial⟩
           refine JL.call [] [] [] (slices_Repeat__int_int.ok ([(-1)] : List Int) (some ⟨b72, 0, none⟩) 1 n8 _ hc37) ⟨pre_view 8 (view_row (some ⟨b72, 0, none⟩) 1 3 ((flInt .i64).kd) ([(-1)] : List Int) false true), trivial⟩ ?_
           rintro _ _ ⟨Aa81, c82, rfl, rfl⟩
           refine JL.nil ?_
           refine JY.ran (ba 10 127) [true, true, true, false, true, true, true, true, false, false, false] ?_
           refine JY.pur (hi := rfl) 7 (ba 10 255) (.agg #[.slice Aa19 t17.1.Sums.length c20, .slice Aa22 t17.1.Ns.length c23, .slice Aa25 t17.1.Spans.length c26, .slice (some ⟨b75, 0, none⟩) (List.replicate t29.toNat (false : Bool)).length t29.toNat, .slice Aa81 t36.length c82]) (some 35) want ?_
           refine JY.all [8] ⟨⟨_, rfl, ?_⟩, trivial⟩
           refine JL.store 3 b10 0 42 [.slice none 0 0, .slice none 0 0, .slice none 0 0, .slice none 0 0, .slice none 0 0] [.slice Aa19 t17.1.Sums.length c20, .slice Aa22 t17.1.Ns.length c23, .slice Aa25 t17.1.Spans.length c26, .slice (some ⟨b75, 0, none⟩) (List.replicate t29.toNat (false : Bool)).length t29.toNat, .slice Aa81 t36.length c82] tySize_42 ?_
           refine JL.nil ?_
           refine JY.ran (ba 10 511) [true, true, true, false, true, true, true, true, false, false, false] ?_
           refine JY.pur (hi := rfl) 9 (ba 10 1023) (.int .i64 0) (some 5) want ?_
           refine JY.done ?_
           refine JQ.then_normal ?_
           refine JQ.sub [(4, .pointer (some ⟨b10, 0, none⟩)), (5, .int .i64 0)] ?_
           refine JQ.mask [At.box b10 42 [.slice Aa19 t17.1.Sums.length c20, .slice Aa22 t17.1.Ns.length c23, .slice Aa25 t17.1.Spans.length c26, .slice (some ⟨b75, 0, none⟩) (List.replicate t29.toNat (false : Bool)).length t29.toNat, .slice Aa81 t36.length c82], At.row Aa19 c20 74 fl_Count.kd t17.1.Sums false, At.row Aa22 c23 74 fl_Count.kd t17.1.Ns false, At.row Aa25 c26 79 fl_Gap.kd t17.1.Spans false, At.row (some ⟨b75, 0, none⟩) t29.toNat 4 flBool.kd (List.replicate t29.toNat (false : Bool)) false, At.row Aa81 c82 3 ((flInt .i64).kd) t36 false] [false, false, false, true, true, true, true, false, false, true, true] ?_
           refine J.ret ?_
           obtain rfl := Option.some.inj H0
           exact JQ.done' (rs := [.cell 4 42, .tmp 5]) (vs := [.agg #[.slice Aa19 t17.1.Sums.length c20, .slice Aa22 t17.1.Ns.length c23, .slice Aa25 t17.1.Spans.length c26, .slice (some ⟨b75, 0, none⟩) (List.replicate t29.toNat (false : Bool)).length t29.toNat, .slice Aa81 t36.length c82], .int .i64 0]) [At.row Aa19 c20 74 fl_Count.kd t17.1.Sums false, At.row Aa22 c23 74 fl_Count.kd t17.1.Ns false, At.row Aa25 c26 79 fl_Gap.kd t17.1.Spans false, At.row (some ⟨b75, 0, none⟩) t29.toNat 4 flBool.kd (List.replicate t29.toNat (false : Bool)) false, At.row Aa81 c82 3 ((flInt .i64).kd) t36 false] (.inr rfl) ⟨⟨b10, 0, _, _, by kernel_rfl, by kernel_rfl, holds_box b10 42 [.slice Aa19 t17.1.Sums.length c20, .slice Aa22 t17.1.Ns.length c23, .slice Aa25 t17.1.Spans.length c26, .slice (some ⟨b75, 0, none⟩) (List.replicate t29.toNat (false : Bool)).length t29.toNat, .slice Aa81 t36.length c82], .inl ⟨tyAgg_42, tySize_42, rfl⟩⟩, by kernel_rfl, trivial⟩ (fun _ h => Heap.to (Heap.pick [1, 2, 3, 4, 5] (by decide) h)) ⟨Aa19, c20, Aa22, c23, Aa25, c26, (some ⟨b75, 0, none⟩), t29.toNat, Aa81, c82, rfl, rfl⟩
         · refine JL.call [] [] [] (slices_Repeat__int_int.ok ([(-1)] : List Int) (some ⟨b72, 0, none⟩) 1 n8 _ hc37) ⟨pre_view 8 (view_row (some ⟨b72, 0, none⟩) 1 3 ((flInt .i64).kd) ([(-1)] : List Int) false true), trivial⟩ ?_
           rintro _ _ ⟨Aa86, c87, rfl, rfl⟩
           refine JL.nil ?_
           refine JY.ran (ba 10 119) [true, true, true, false, true, true, true, true, false, false] ?_
           refine JY.all [3] ⟨⟨_, rfl, ?_⟩, trivial⟩
           obtain ⟨h90, h91, h92⟩ : 0 ≤ t29 ∧ t29 ≤ t29 ∧ t29 ≤ 281474976710656 := ⟨h32, h33, h34⟩
           refine JL.makeSl 4 flBool.kd (false : Bool) Try.underlying40 info_4 (fun _ _ => rfl) h90 h91 (by omega) (by omega) fun b89 => ?_
           refine JL.nil ?_
           refine JY.ran (ba 10 127) [true, true, true, false, true, true, true, true, false, false, false] ?_
           refine JY.pur (hi := rfl) 7 (ba 10 255) (.agg #[.slice Aa19 t17.1.Sums.length c20, .slice Aa22 t17.1.Ns.length c23, .slice Aa25 t17.1.Spans.length c26, .slice (some ⟨b89, 0, none⟩) (List.replicate t29.toNat (false : Bool)).length t29.toNat, .slice Aa86 t36.length c87]) (some 35) want ?_
           refine JY.all [8] ⟨⟨_, rfl, ?_⟩, trivial⟩
           refine JL.store 3 b10 0 42 [.slice none 0 0, .slice none 0 0, .slice none 0 0, .slice none 0 0, .slice none 0 0] [.slice Aa19 t17.1.Sums.length c20, .slice Aa22 t17.1.Ns.length c23, .slice Aa25 t17.1.Spans.length c26, .slice (some ⟨b89, 0, none⟩) (List.replicate t29.toNat (false : Bool)).length t29.toNat, .slice Aa86 t36.length c87] tySize_42 ?_
           refine JL.nil ?_
           refine JY.ran (ba 10 511) [true, true, true, false, true, true, true, true, false, false, false] ?_
           refine JY.pur (hi := rfl) 9 (ba 10 1023) (.int .i64 0) (some 5) want ?_
           refine JY.done ?_
           refine JQ.then_normal ?_
           refine JQ.sub [(4, .pointer (some ⟨b10, 0, none⟩)), (5, .int .i64 0)] ?_
           refine JQ.mask [At.box b10 42 [.slice Aa19 t17.1.Sums.length c20, .slice Aa22 t17.1.Ns.length c23, .slice Aa25 t17.1.Spans.length c26, .slice (some ⟨b89, 0, none⟩) (List.replicate t29.toNat (false : Bool)).length t29.toNat, .slice Aa86 t36.length c87], At.row Aa19 c20 74 fl_Count.kd t17.1.Sums false, At.row Aa22 c23 74 fl_Count.kd t17.1.Ns false, At.row Aa25 c26 79 fl_Gap.kd t17.1.Spans false, At.row Aa86 c87 3 ((flInt .i64).kd) t36 false, At.row (some ⟨b89, 0, none⟩) t29.toNat 4 flBool.kd (List.replicate t29.toNat (false : Bool)) false] [false, false, false, true, true, true, true, false, false, true, true] ?_
           refine J.ret ?_
           obtain rfl := Option.some.inj H0
           exact JQ.done' (rs := [.cell 4 42, .tmp 5]) (vs := [.agg #[.slice Aa19 t17.1.Sums.length c20, .slice Aa22 t17.1.Ns.length c23, .slice Aa25 t17.1.Spans.length c26, .slice (some ⟨b89, 0, none⟩) (List.replicate t29.toNat (false : Bool)).length t29.toNat, .slice Aa86 t36.length c87], .int .i64 0]) [At.row Aa19 c20 74 fl_Count.kd t17.1.Sums false, At.row Aa22 c23 74 fl_Count.kd t17.1.Ns false, At.row Aa25 c26 79 fl_Gap.kd t17.1.Spans false, At.row (some ⟨b89, 0, none⟩) t29.toNat 4 flBool.kd (List.replicate t29.toNat (false : Bool)) false, At.row Aa86 c87 3 ((flInt .i64).kd) t36 false] (.inr rfl) ⟨⟨b10, 0, _, _, by kernel_rfl, by kernel_rfl, holds_box b10 42 [.slice Aa19 t17.1.Sums.length c20, .slice Aa22 t17.1.Ns.length c23, .slice Aa25 t17.1.Spans.length c26, .slice (some ⟨b89, 0, none⟩) (List.replicate t29.toNat (false : Bool)).length t29.toNat, .slice Aa86 t36.length c87], .inl ⟨tyAgg_42, tySize_42, rfl⟩⟩, by kernel_rfl, trivial⟩ (fun _ h => Heap.to (Heap.pick [1, 2, 3, 5, 4] (by decide) h)) ⟨Aa19, c20, Aa22, c23, Aa25, c26, (some ⟨b89, 0, none⟩), t29.toNat, Aa86, c87, rfl, rfl⟩

theorem ref18_New.ok (m1 : Int) (r : (Acc × Int)) (H0 : ref18_New.f m1 = some r) :
    Does Try.prog 24 [.int .i64 m1].toArray [] [] false (fun v Δ => ∃ A1001 : Option Addr, ∃ c1001 : Nat, ∃ A1002 : Option Addr, ∃ c1002 : Nat, ∃ A1003 : Option Addr, ∃ c1003 : Nat, v = .tuple #[.agg #[.slice A1001 r.1.Sums.length c1001, .slice A1002 r.1.Ns.length c1002, .slice A1003 r.1.Spans.length c1003], .int .i64 r.2] ∧ Δ = [At.row A1001 c1001 74 fl_Count.kd r.1.Sums false, At.row A1002 c1002 74 fl_Count.kd r.1.Ns false, At.row A1003 c1003 79 fl_Gap.kd r.1.Spans false]) := by
 refine Does.body (vs := [.int .i64 m1]) Try.func24 rfl trivial trivial fun w S => ?_
 unfold ref18_New.f at H0
 refine J.seq ?_
 refine J.region ?_
 refine JL.alloc [.slice none 0 0, .slice none 0 0, .slice none 0 0] fun b2 => ?_
 refine JL.as (.int .i64 0) ?_
 refine JL.nil ?_
 refine JQ.then_normal ?_
 refine JQ.sub [(0, .int .i64 m1), (2, .pointer (some ⟨b2, 0, none⟩))] ?_
 refine J.seq ?_
 refine J.join (T := Bool) (G := Unit) (fun t => ref18_New.k1 m1 t = some r) (fun t g => [(0, .int .i64 m1), (2, .pointer (some ⟨b2, 0, none⟩)), (11, .bool t)]) (fun t g => [At.box b2 39 [.slice none 0 0, .slice none 0 0, .slice none 0 0]]) ?_ ?_
 · refine J.region ?_
   refine JL.mv (.int .i64 m1) ?_
   refine JL.pur (.bool (decide (m1 < 0))) (some 7) ?_
   refine JL.mv (.bool (decide (m1 < 0))) ?_
   rcases ite_cases H0 with ⟨h80, H0⟩ | ⟨h80, H0⟩
   · refine JL.off 2 8 false (some 9) h80 ?_
     refine JL.off 2 8 false (some 10) h80 ?_
     refine JL.val (.bool true) (some 11) (gives_pickT h80) ?_
     refine JL.nil ?_
     refine JQ.then_normal ?_
     exact JQ.meet true () H0 (fun _ h => Heap.to h)
   · refine JL.on 2 8 h80 ?_
     refine JL.mv (.int .i64 m1) ?_
     refine JL.on 2 8 h80 ?_
     refine JL.pur (.bool (decide (255 < m1))) (some 10) ?_
     refine JL.val (.bool (decide (255 < m1))) (some 11) (gives_pickF h80) ?_
     refine JL.nil ?_
     refine JQ.then_normal ?_
     exact JQ.meet (decide (255 < m1)) () H0 (fun _ h => Heap.to h)
 · clear H0
   rintro x4 ⟨⟩ H0
   replace H0 : ref18_New.k1 m1 x4 = some r := H0
   unfold ref18_New.k1 at H0
   refine JQ.sub [(0, .int .i64 m1), (2, .pointer (some ⟨b2, 0, none⟩)), (11, .bool x4)] ?_
   refine JQ.turn (Δ' := [At.box b2 39 [.slice none 0 0, .slice none 0 0, .slice none 0 0]]) (fun _ h => h.to) ?_
   rcases ite_cases H0 with ⟨h5, H0⟩ | ⟨h5, H0⟩
   · refine J.cond_true h5 ?_
     refine J.seq ?_
     refine J.region ?_
     refine JL.pur (.agg #[.slice none 0 0, .slice none 0 0, .slice none 0 0]) (some 12) ?_
     refine JL.store 0 b2 0 39 [.slice none 0 0, .slice none 0 0, .slice none 0 0] [.slice none 0 0, .slice none 0 0, .slice none 0 0] tySize_39 ?_
     refine JL.as (.int .i64 2) ?_
     refine JL.nil ?_
     refine JQ.then_normal ?_
     refine JQ.sub [(2, .pointer (some ⟨b2, 0, none⟩)), (3, .int .i64 2)] ?_
     refine J.ret ?_
     refine JQ.then_ret ?_
     obtain rfl := Option.some.inj H0
     exact JQ.done' (rs := [.cell 2 39, .tmp 3]) (vs := [.agg #[.slice none 0 0, .slice none 0 0, .slice none 0 0], .int .i64 2]) [At.row none 0 74 fl_Count.kd ([] : List Count) false, At.row none 0 74 fl_Count.kd ([] : List Count) false, At.row none 0 79 fl_Gap.kd ([] : List Gap) false] (.inr rfl) ⟨⟨b2, 0, _, _, by kernel_rfl, by kernel_rfl, holds_box b2 39 [.slice none 0 0, .slice none 0 0, .slice none 0 0], .inl ⟨tyAgg_39, tySize_39, rfl⟩⟩, by kernel_rfl, trivial⟩ (fun _ h => Heap.to (Heap.pick [1, 2, 3] (by decide) (Heap.addRow0 (α := Gap) 79 fl_Gap.kd false (Heap.addRow0 (α := Count) 74 fl_Count.kd false (Heap.addRow0 (α := Count) 74 fl_Count.kd false h))))) ⟨none, 0, none, 0, none, 0, rfl, rfl⟩
   · refine J.cond_false h5 ?_
     refine J.skip ?_
     refine JQ.then_normal ?_
     refine JQ.sub [(0, .int .i64 m1), (2, .pointer (some ⟨b2, 0, none⟩))] ?_
     refine J.seq ?_
     refine J.region ?_
     refine JL.alloc [.slice none 0 0, .slice none 0 0, .slice none 0 0] fun b6 => ?_
     refine JL.nil ?_
     refine JQ.then_normal ?_
     refine J.seq ?_
     refine J.seq ?_
     refine J.region ?_
     refine JL.as (.int .i64 0) ?_
     refine JL.nil ?_
     refine JQ.then_normal ?_
     obtain ⟨o1, hit, H0⟩ := bind_some H0
     refine J.loop (σ := ((List Count) × (List Count) × Int)) (τ := ((List Count) × (List Count))) (G := ((Option Addr) × Nat × (Option Addr) × Nat)) (G' := ((Option Addr) × Nat × (Option Addr) × Nat)) _ o1 (fun s g => [(0, .int .i64 m1), (2, .pointer (some ⟨b2, 0, none⟩)), (4, .pointer (some ⟨b6, 0, none⟩)), (5, .int .i64 s.2.2)]) (fun s g => [At.box b2 39 [.slice none 0 0, .slice none 0 0, .slice none 0 0], At.box b6 39 [.slice g.1 s.1.length g.2.1, .slice g.2.2.1 s.2.1.length g.2.2.2, .slice none 0 0], At.row g.1 g.2.1 74 fl_Count.kd s.1 false, At.row g.2.2.1 g.2.2.2 74 fl_Count.kd s.2.1 false]) (fun t => ref18_New.k3 t.1 t.2 = some r) (fun t g => [(2, .pointer (some ⟨b2, 0, none⟩)), (4, .pointer (some ⟨b6, 0, none⟩))]) (fun t g => [At.box b2 39 [.slice none 0 0, .slice none 0 0, .slice none 0 0], At.box b6 39 [.slice g.1 t.1.length g.2.1, .slice g.2.2.1 t.2.length g.2.2.2, .slice none 0 0], At.row g.1 g.2.1 74 fl_Count.kd t.1 false, At.row g.2.2.1 g.2.2.2 74 fl_Count.kd t.2 false]) ([], [], 0) (none, 0, none, 0) hit (fun _ h => Heap.to (Heap.addRow0 (α := Count) 74 fl_Count.kd false (Heap.addRow0 (α := Count) 74 fl_Count.kd false h))) ?_ ?_
     · clear hit
       rintro ⟨out45, out49, i53⟩ ⟨Aa46, c47, Aa50, c51⟩ st1 H1 hb1 hr1
       replace H1 : ref18_New.s2 m1 out45 out49 i53 = some st1 := H1
       unfold ref18_New.s2 at H1
       refine JQ.sub [(0, .int .i64 m1), (2, .pointer (some ⟨b2, 0, none⟩)), (4, .pointer (some ⟨b6, 0, none⟩)), (5, .int .i64 i53)] ?_
       refine JQ.turn (Δ' := [At.box b2 39 [.slice none 0 0, .slice none 0 0, .slice none 0 0], At.box b6 39 [.slice Aa46 out45.length c47, .slice Aa50 out49.length c51, .slice none 0 0], At.row Aa46 c47 74 fl_Count.kd out45 false, At.row Aa50 c51 74 fl_Count.kd out49 false]) (fun _ h => h.to) ?_
       refine J.seq ?_
       refine J.seq ?_
       refine J.region ?_
       refine JL.mv (.int .i64 i53) ?_
       refine JL.mv (.int .i64 m1) ?_
       refine JL.pur (.int .i64 (w64 (2 * m1))) (some 15) ?_
       refine JL.pur (.int .i64 (w64 ((w64 (2 * m1)) + 1))) (some 16) ?_
       refine JL.pur (.bool (decide (i53 < w64 ((w64 (2 * m1)) + 1)))) (some 17) ?_
       refine JL.nil ?_
       refine JQ.then_normal ?_
       refine JQ.sub [(0, .int .i64 m1), (2, .pointer (some ⟨b2, 0, none⟩)), (4, .pointer (some ⟨b6, 0, none⟩)), (5, .int .i64 i53), (17, .bool (decide (i53 < w64 ((w64 (2 * m1)) + 1))))] ?_
       rcases ite_cases H1 with ⟨h71, H1⟩ | ⟨h71, H1⟩
       · refine J.cond_true h71 ?_
         refine J.skip ?_
         refine JQ.then_normal ?_
         refine JQ.sub [(0, .int .i64 m1), (2, .pointer (some ⟨b2, 0, none⟩)), (4, .pointer (some ⟨b6, 0, none⟩)), (5, .int .i64 i53)] ?_
         refine J.seq ?_
         refine J.block ?_
         refine J.seq ?_
         refine J.region ?_
         refine JL.pur (.pointer (some ⟨b6, 0, none⟩)) (some 20) ?_
         refine JL.val (.slice Aa46 out45.length c47) (some 21) (yields_load_box 1 0 (holds_box b6 39 [.slice Aa46 out45.length c47, .slice Aa50 out49.length c51, .slice none 0 0]) tyAgg_36) ?_
         refine JL.pur (mv_74 zv_74) (some 22) ?_
         refine JL.buildSl 74 fl_Count.kd (([(⟨0, 0⟩ : Count)] : List Count) : List Count) [.int .i64 0, .int .i64 0] false (closes_fl rfl) fun b72 => ?_
         obtain ⟨h75, H1⟩ := ite_must H1
         refine JL.append false false 2 4 Aa46 c47 1 out45 (elems_row (some ⟨b72, 0, none⟩) 1 74 fl_Count.kd ([(⟨0, 0⟩ : Count)] : List Count) false) Try.underlying36 info_74 (by omega) (by omega) (fun h => h) (.inr ⟨_, rfl⟩) fun Aa73 c74 => ?_
         refine JL.pur (.pointer (some ⟨b6, 0, none⟩)) (some 25) ?_
         refine JL.store 1 b6 0 39 [.slice Aa46 out45.length c47, .slice Aa50 out49.length c51, .slice none 0 0] [.slice Aa73 (out45 ++ ([(⟨0, 0⟩ : Count)] : List Count)).length c74, .slice Aa50 out49.length c51, .slice none 0 0] tySize_36 ?_
         refine JL.nil ?_
         refine JQ.then_normal ?_
         refine JQ.sub [(0, .int .i64 m1), (2, .pointer (some ⟨b2, 0, none⟩)), (4, .pointer (some ⟨b6, 0, none⟩)), (5, .int .i64 i53)] ?_
         refine JQ.mask [At.box b2 39 [.slice none 0 0, .slice none 0 0, .slice none 0 0], At.box b6 39 [.slice Aa73 (out45 ++ ([(⟨0, 0⟩ : Count)] : List Count)).length c74, .slice Aa50 out49.length c51, .slice none 0 0], At.row Aa73 c74 74 fl_Count.kd (out45 ++ ([(⟨0, 0⟩ : Count)] : List Count)) false, At.row Aa50 c51 74 fl_Count.kd out49 false] [true, true, true, true, false] ?_
         refine J.region ?_
         refine JL.pur (.pointer (some ⟨b6, 1, none⟩)) (some 26) ?_
         refine JL.val (.slice Aa50 out49.length c51) (some 27) (yields_load_box 1 1 (holds_box b6 39 [.slice Aa73 (out45 ++ ([(⟨0, 0⟩ : Count)] : List Count)).length c74, .slice Aa50 out49.length c51, .slice none 0 0]) tyAgg_36) ?_
         refine JL.pur (mv_74 zv_74) (some 28) ?_
         refine JL.buildSl 74 fl_Count.kd (([(⟨0, 0⟩ : Count)] : List Count) : List Count) [.int .i64 0, .int .i64 0] false (closes_fl rfl) fun b76 => ?_
         obtain ⟨h79, H1⟩ := ite_must H1
         refine JL.append false false 3 4 Aa50 c51 1 out49 (elems_row (some ⟨b76, 0, none⟩) 1 74 fl_Count.kd ([(⟨0, 0⟩ : Count)] : List Count) false) Try.underlying36 info_74 (by omega) (by omega) (fun h => h) (.inr ⟨_, rfl⟩) fun Aa77 c78 => ?_
         refine JL.pur (.pointer (some ⟨b6, 1, none⟩)) (some 31) ?_
         refine JL.store 1 b6 1 39 [.slice Aa73 (out45 ++ ([(⟨0, 0⟩ : Count)] : List Count)).length c74, .slice Aa50 out49.length c51, .slice none 0 0] [.slice Aa73 (out45 ++ ([(⟨0, 0⟩ : Count)] : List Count)).length c74, .slice Aa77 (out49 ++ ([(⟨0, 0⟩ : Count)] : List Count)).length c78, .slice none 0 0] tySize_36 ?_
         refine JL.nil ?_
         refine JQ.blk_normal ?_
         refine JQ.then_normal ?_
         refine JQ.sub [(0, .int .i64 m1), (2, .pointer (some ⟨b2, 0, none⟩)), (4, .pointer (some ⟨b6, 0, none⟩)), (5, .int .i64 i53)] ?_
         refine JQ.mask [At.box b2 39 [.slice none 0 0, .slice none 0 0, .slice none 0 0], At.box b6 39 [.slice Aa73 (out45 ++ ([(⟨0, 0⟩ : Count)] : List Count)).length c74, .slice Aa77 (out49 ++ ([(⟨0, 0⟩ : Count)] : List Count)).length c78, .slice none 0 0], At.row Aa73 c74 74 fl_Count.kd (out45 ++ ([(⟨0, 0⟩ : Count)] : List Count)) false, At.row Aa77 c78 74 fl_Count.kd (out49 ++ ([(⟨0, 0⟩ : Count)] : List Count)) false] [true, true, true, true, false] ?_
         refine J.region ?_
         refine JL.mv (.int .i64 i53) ?_
         refine JL.pur (.int .i64 (w64 (i53 + 1))) (some 19) ?_
         refine JL.as (.int .i64 (w64 (i53 + 1))) ?_
         refine JL.nil ?_
         refine JQ.then_normal ?_
         exact JQ.again ((out45 ++ ([(⟨0, 0⟩ : Count)] : List Count)), (out49 ++ ([(⟨0, 0⟩ : Count)] : List Count)), w64 (i53 + 1)) (Aa73, c74, Aa77, c78) (Option.some.inj H1).symm (fun _ h => Heap.to h)
       · refine J.cond_false h71 ?_
         refine J.exit ?_
         refine JQ.then_exit ?_
         refine JQ.then_exit ?_
         refine JQ.blk_exit ?_
         rw [hb1 _ (Option.some.inj H1).symm, fin_brk] at H0
         exact JQ.met (out45, out49) (Aa46, c47, Aa50, c51) H0 (fun _ h => Heap.to h)
     · clear hit H0
       rintro ⟨out63, out67⟩ ⟨Aa64, c65, Aa68, c69⟩ H0
       replace H0 : ref18_New.k3 out63 out67 = some r := H0
       unfold ref18_New.k3 at H0
       refine JQ.sub [(2, .pointer (some ⟨b2, 0, none⟩)), (4, .pointer (some ⟨b6, 0, none⟩))] ?_
       refine JQ.turn (Δ' := [At.box b2 39 [.slice none 0 0, .slice none 0 0, .slice none 0 0], At.box b6 39 [.slice Aa64 out63.length c65, .slice Aa68 out67.length c69, .slice none 0 0], At.row Aa64 c65 74 fl_Count.kd out63 false, At.row Aa68 c69 74 fl_Count.kd out67 false]) (fun _ h => h.to) ?_
       refine JQ.then_normal ?_
       refine J.seq ?_
       refine J.region ?_
       refine JL.val (.agg #[.slice Aa64 out63.length c65, .slice Aa68 out67.length c69, .slice none 0 0]) (some 32) (yields_load_boxes 1 0 [.slice Aa64 out63.length c65, .slice Aa68 out67.length c69, .slice none 0 0] (holds_box b6 39 [.slice Aa64 out63.length c65, .slice Aa68 out67.length c69, .slice none 0 0]) tyAgg_39 tySize_39) ?_
       refine JL.store 0 b2 0 39 [.slice none 0 0, .slice none 0 0, .slice none 0 0] [.slice Aa64 out63.length c65, .slice Aa68 out67.length c69, .slice none 0 0] tySize_39 ?_
       refine JL.as (.int .i64 0) ?_
       refine JL.nil ?_
       refine JQ.then_normal ?_
       refine JQ.sub [(2, .pointer (some ⟨b2, 0, none⟩)), (3, .int .i64 0)] ?_
       refine JQ.mask [At.box b2 39 [.slice Aa64 out63.length c65, .slice Aa68 out67.length c69, .slice none 0 0], At.row Aa64 c65 74 fl_Count.kd out63 false, At.row Aa68 c69 74 fl_Count.kd out67 false] [true, false, true, true] ?_
       refine J.ret ?_
       obtain rfl := Option.some.inj H0
       exact JQ.done' (rs := [.cell 2 39, .tmp 3]) (vs := [.agg #[.slice Aa64 out63.length c65, .slice Aa68 out67.length c69, .slice none 0 0], .int .i64 0]) [At.row Aa64 c65 74 fl_Count.kd out63 false, At.row Aa68 c69 74 fl_Count.kd out67 false, At.row none 0 79 fl_Gap.kd ([] : List Gap) false] (.inr rfl) ⟨⟨b2, 0, _, _, by kernel_rfl, by kernel_rfl, holds_box b2 39 [.slice Aa64 out63.length c65, .slice Aa68 out67.length c69, .slice none 0 0], .inl ⟨tyAgg_39, tySize_39, rfl⟩⟩, by kernel_rfl, trivial⟩ (fun _ h => Heap.to (Heap.pick [1, 2, 3] (by decide) (Heap.addRow0 (α := Gap) 79 fl_Gap.kd false h))) ⟨Aa64, c65, Aa68, c69, none, 0, rfl, rfl⟩

theorem ref19_Open.ok (j1 : Job) (Aa2 : Option Addr) (c3 : Nat) (Aa5 : Option Addr) (c6 : Nat) (n8 : Int) (r : (Work × Int)) (H0 : ref19_Open.f j1 n8 = some r) :
    Does Try.prog 10 [.agg #[.slice Aa2 j1.X_.length c3, .slice Aa5 j1.Y.length c6, .int .i64 j1.Most, .int .i64 j1.Size], .int .i64 n8].toArray [At.rd Aa2 c3 ((flInt .i64).kd) j1.X_ true, At.rd Aa5 c6 ((flInt .i64).kd) j1.Y true] [] false (fun v Δ => ∃ A1001 : Option Addr, ∃ c1001 : Nat, ∃ A1002 : Option Addr, ∃ c1002 : Nat, ∃ A1003 : Option Addr, ∃ c1003 : Nat, ∃ A1004 : Option Addr, ∃ c1004 : Nat, ∃ A1005 : Option Addr, ∃ c1005 : Nat, v = .tuple #[.agg #[.slice A1001 r.1.Sum.Sums.length c1001, .slice A1002 r.1.Sum.Ns.length c1002, .slice A1003 r.1.Sum.Spans.length c1003, .slice A1004 r.1.Done.length c1004, .slice A1005 r.1.At.length c1005], .int .i64 r.2] ∧ Δ = [At.row A1001 c1001 74 fl_Count.kd r.1.Sum.Sums false, At.row A1002 c1002 74 fl_Count.kd r.1.Sum.Ns false, At.row A1003 c1003 79 fl_Gap.kd r.1.Sum.Spans false, At.row A1004 c1004 4 flBool.kd r.1.Done false, At.row A1005 c1005 3 ((flInt .i64).kd) r.1.At false]) := by
 refine Does.body (vs := [.agg #[.slice Aa2 j1.X_.length c3, .slice Aa5 j1.Y.length c6, .int .i64 j1.Most, .int .i64 j1.Size], .int .i64 n8]) Try.func10 rfl ⟨.inl rfl, .inl rfl, trivial⟩ trivial fun w S => ?_
 unfold ref19_Open.f at H0
 refine J.seq ?_
 refine J.region ?_
 refine JL.box [.slice Aa2 j1.X_.length c3, .slice Aa5 j1.Y.length c6, .int .i64 j1.Most, .int .i64 j1.Size] fun b9 => ?_
 refine JL.alloc [.slice none 0 0, .slice none 0 0, .slice none 0 0, .slice none 0 0, .slice none 0 0] fun b10 => ?_
 refine JL.as (.int .i64 0) ?_
 refine JL.nil ?_
 refine JQ.then_normal ?_
 refine JQ.sub [(1, .int .i64 n8), (2, .pointer (some ⟨b9, 0, none⟩)), (4, .pointer (some ⟨b10, 0, none⟩))] ?_
 refine J.seq ?_
 refine J.seq ?_
 refine J.region ?_
 refine JL.val (.agg #[.slice Aa2 j1.X_.length c3, .slice Aa5 j1.Y.length c6, .int .i64 j1.Most, .int .i64 j1.Size]) (some 8) (yields_load_boxes 2 0 [.slice Aa2 j1.X_.length c3, .slice Aa5 j1.Y.length c6, .int .i64 j1.Most, .int .i64 j1.Size] (holds_box b9 24 [.slice Aa2 j1.X_.length c3, .slice Aa5 j1.Y.length c6, .int .i64 j1.Most, .int .i64 j1.Size]) tyAgg_24 tySize_24) ?_
 obtain ⟨t11, hc12, H0⟩ := bind_some H0
 refine JL.call [] [] [] (ref19_Check.ok j1 Aa2 c3 Aa5 c6 _ hc12) ⟨pre_any 0 (view_rd Aa2 c3 ((flInt .i64).kd) j1.X_ true true), ⟨pre_any 1 (view_rd Aa5 c6 ((flInt .i64).kd) j1.Y true true), trivial⟩⟩ ?_
 rintro _ _ ⟨rfl, rfl⟩
 refine JL.pur (.bool (!decide (t11 = 0))) (some 10) ?_
 refine JL.nil ?_
 refine JQ.then_normal ?_
 refine JQ.sub [(1, .int .i64 n8), (2, .pointer (some ⟨b9, 0, none⟩)), (4, .pointer (some ⟨b10, 0, none⟩)), (10, .bool (!decide (t11 = 0)))] ?_
 rcases ite_cases H0 with ⟨h13, H0⟩ | ⟨h13, H0⟩
 · refine J.cond_true h13 ?_
   refine J.seq ?_
   refine J.region ?_
   refine JL.pur (.agg #[.slice none 0 0, .slice none 0 0, .slice none 0 0, .slice none 0 0, .slice none 0 0]) (some 11) ?_
   refine JL.val (.agg #[.slice Aa2 j1.X_.length c3, .slice Aa5 j1.Y.length c6, .int .i64 j1.Most, .int .i64 j1.Size]) (some 12) (yields_load_boxes 2 0 [.slice Aa2 j1.X_.length c3, .slice Aa5 j1.Y.length c6, .int .i64 j1.Most, .int .i64 j1.Size] (holds_box b9 24 [.slice Aa2 j1.X_.length c3, .slice Aa5 j1.Y.length c6, .int .i64 j1.Most, .int .i64 j1.Size]) tyAgg_24 tySize_24) ?_
   obtain ⟨t14, hc15, H0⟩ := bind_some H0
   refine JL.call [] [] [] (ref19_Check.ok j1 Aa2 c3 Aa5 c6 _ hc15) ⟨pre_any 0 (view_rd Aa2 c3 ((flInt .i64).kd) j1.X_ true true), ⟨pre_any 1 (view_rd Aa5 c6 ((flInt .i64).kd) j1.Y true true), trivial⟩⟩ ?_
   rintro _ _ ⟨rfl, rfl⟩
   refine JL.store 3 b10 0 42 [.slice none 0 0, .slice none 0 0, .slice none 0 0, .slice none 0 0, .slice none 0 0] [.slice none 0 0, .slice none 0 0, .slice none 0 0, .slice none 0 0, .slice none 0 0] tySize_42 ?_
   refine JL.as (.int .i64 t14) ?_
   refine JL.nil ?_
   refine JQ.then_normal ?_
   refine JQ.sub [(4, .pointer (some ⟨b10, 0, none⟩)), (5, .int .i64 t14)] ?_
   refine JQ.mask [At.box b10 42 [.slice none 0 0, .slice none 0 0, .slice none 0 0, .slice none 0 0, .slice none 0 0]] [false, false, false, true] ?_
   refine J.ret ?_
   refine JQ.then_ret ?_
   obtain rfl := Option.some.inj H0
   exact JQ.done' (rs := [.cell 4 42, .tmp 5]) (vs := [.agg #[.slice none 0 0, .slice none 0 0, .slice none 0 0, .slice none 0 0, .slice none 0 0], .int .i64 t14]) [At.row none 0 74 fl_Count.kd ([] : List Count) false, At.row none 0 74 fl_Count.kd ([] : List Count) false, At.row none 0 79 fl_Gap.kd ([] : List Gap) false, At.row none 0 4 flBool.kd ([] : List Bool) false, At.row none 0 3 ((flInt .i64).kd) ([] : List Int) false] (.inr rfl) ⟨⟨b10, 0, _, _, by kernel_rfl, by kernel_rfl, holds_box b10 42 [.slice none 0 0, .slice none 0 0, .slice none 0 0, .slice none 0 0, .slice none 0 0], .inl ⟨tyAgg_42, tySize_42, rfl⟩⟩, by kernel_rfl, trivial⟩ (fun _ h => Heap.to (Heap.pick [1, 2, 3, 4, 5] (by decide) (Heap.addRow0 (α := Int) 3 ((flInt .i64).kd) false (Heap.addRow0 (α := Bool) 4 flBool.kd false (Heap.addRow0 (α := Gap) 79 fl_Gap.kd false (Heap.addRow0 (α := Count) 74 fl_Count.kd false (Heap.addRow0 (α := Count) 74 fl_Count.kd false h))))))) ⟨none, 0, none, 0, none, 0, none, 0, none, 0, rfl, rfl⟩
 · refine J.cond_false h13 ?_
   refine J.skip ?_
   refine JQ.then_normal ?_
   refine JQ.sub [(1, .int .i64 n8), (2, .pointer (some ⟨b9, 0, none⟩)), (4, .pointer (some ⟨b10, 0, none⟩))] ?_
   refine J.seq ?_
   refine J.join (T := Bool) (G := Unit) (fun t => ref19_Open.k1 j1 n8 t = some r) (fun t g => [(1, .int .i64 n8), (2, .pointer (some ⟨b9, 0, none⟩)), (4, .pointer (some ⟨b10, 0, none⟩)), (19, .bool t)]) (fun t g => [At.box b9 24 [.slice Aa2 j1.X_.length c3, .slice Aa5 j1.Y.length c6, .int .i64 j1.Most, .int .i64 j1.Size], At.rd Aa2 c3 ((flInt .i64).kd) j1.X_ true, At.rd Aa5 c6 ((flInt .i64).kd) j1.Y true, At.box b10 42 [.slice none 0 0, .slice none 0 0, .slice none 0 0, .slice none 0 0, .slice none 0 0]]) ?_ ?_
   · refine J.region ?_
     refine JL.mv (.int .i64 n8) ?_
     refine JL.pur (.bool (decide (n8 < 1))) (some 15) ?_
     refine JL.mv (.bool (decide (n8 < 1))) ?_
     rcases ite_cases H0 with ⟨h77, H0⟩ | ⟨h77, H0⟩
     · refine JL.off 2 16 false (some 17) h77 ?_
       refine JL.off 2 16 false (some 18) h77 ?_
       refine JL.val (.bool true) (some 19) (gives_pickT h77) ?_
       refine JL.nil ?_
       refine JQ.then_normal ?_
       exact JQ.meet true () H0 (fun _ h => Heap.to (Heap.pick [2, 0, 1, 3] (by decide) h))
     · refine JL.on 2 16 h77 ?_
       refine JL.mv (.int .i64 n8) ?_
       refine JL.on 2 16 h77 ?_
       refine JL.pur (.bool (decide (6 < n8))) (some 18) ?_
       refine JL.val (.bool (decide (6 < n8))) (some 19) (gives_pickF h77) ?_
       refine JL.nil ?_
       refine JQ.then_normal ?_
       exact JQ.meet (decide (6 < n8)) () H0 (fun _ h => Heap.to (Heap.pick [2, 0, 1, 3] (by decide) h))
   · clear H0
     rintro x17 ⟨⟩ H0
     replace H0 : ref19_Open.k1 j1 n8 x17 = some r := H0
     unfold ref19_Open.k1 at H0
     refine JQ.sub [(1, .int .i64 n8), (2, .pointer (some ⟨b9, 0, none⟩)), (4, .pointer (some ⟨b10, 0, none⟩)), (19, .bool x17)] ?_
     refine JQ.turn (Δ' := [At.box b9 24 [.slice Aa2 j1.X_.length c3, .slice Aa5 j1.Y.length c6, .int .i64 j1.Most, .int .i64 j1.Size], At.rd Aa2 c3 ((flInt .i64).kd) j1.X_ true, At.rd Aa5 c6 ((flInt .i64).kd) j1.Y true, At.box b10 42 [.slice none 0 0, .slice none 0 0, .slice none 0 0, .slice none 0 0, .slice none 0 0]]) (fun _ h => h.to) ?_
     rcases ite_cases H0 with ⟨h18, H0⟩ | ⟨h18, H0⟩
     · refine J.cond_true h18 ?_
       refine J.seq ?_
       refine J.region ?_
       refine JL.pur (.agg #[.slice none 0 0, .slice none 0 0, .slice none 0 0, .slice none 0 0, .slice none 0 0]) (some 20) ?_
       refine JL.store 3 b10 0 42 [.slice none 0 0, .slice none 0 0, .slice none 0 0, .slice none 0 0, .slice none 0 0] [.slice none 0 0, .slice none 0 0, .slice none 0 0, .slice none 0 0, .slice none 0 0] tySize_42 ?_
       refine JL.as (.int .i64 2) ?_
       refine JL.nil ?_
       refine JQ.then_normal ?_
       refine JQ.sub [(4, .pointer (some ⟨b10, 0, none⟩)), (5, .int .i64 2)] ?_
       refine JQ.mask [At.box b10 42 [.slice none 0 0, .slice none 0 0, .slice none 0 0, .slice none 0 0, .slice none 0 0]] [false, false, false, true] ?_
       refine J.ret ?_
       refine JQ.then_ret ?_
       obtain rfl := Option.some.inj H0
       exact JQ.done' (rs := [.cell 4 42, .tmp 5]) (vs := [.agg #[.slice none 0 0, .slice none 0 0, .slice none 0 0, .slice none 0 0, .slice none 0 0], .int .i64 2]) [At.row none 0 74 fl_Count.kd ([] : List Count) false, At.row none 0 74 fl_Count.kd ([] : List Count) false, At.row none 0 79 fl_Gap.kd ([] : List Gap) false, At.row none 0 4 flBool.kd ([] : List Bool) false, At.row none 0 3 ((flInt .i64).kd) ([] : List Int) false] (.inr rfl) ⟨⟨b10, 0, _, _, by kernel_rfl, by kernel_rfl, holds_box b10 42 [.slice none 0 0, .slice none 0 0, .slice none 0 0, .slice none 0 0, .slice none 0 0], .inl ⟨tyAgg_42, tySize_42, rfl⟩⟩, by kernel_rfl, trivial⟩ (fun _ h => Heap.to (Heap.pick [1, 2, 3, 4, 5] (by decide) (Heap.addRow0 (α := Int) 3 ((flInt .i64).kd) false (Heap.addRow0 (α := Bool) 4 flBool.kd false (Heap.addRow0 (α := Gap) 79 fl_Gap.kd false (Heap.addRow0 (α := Count) 74 fl_Count.kd false (Heap.addRow0 (α := Count) 74 fl_Count.kd false h))))))) ⟨none, 0, none, 0, none, 0, none, 0, none, 0, rfl, rfl⟩
     · refine J.cond_false h18 ?_
       refine J.skip ?_
       refine JQ.then_normal ?_
       refine JQ.sub [(1, .int .i64 n8), (2, .pointer (some ⟨b9, 0, none⟩)), (4, .pointer (some ⟨b10, 0, none⟩))] ?_
       refine J.seq ?_
       refine J.region ?_
       refine JL.val (.agg #[.slice Aa2 j1.X_.length c3, .slice Aa5 j1.Y.length c6, .int .i64 j1.Most, .int .i64 j1.Size]) (some 21) (yields_load_boxes 0 0 [.slice Aa2 j1.X_.length c3, .slice Aa5 j1.Y.length c6, .int .i64 j1.Most, .int .i64 j1.Size] (holds_box b9 24 [.slice Aa2 j1.X_.length c3, .slice Aa5 j1.Y.length c6, .int .i64 j1.Most, .int .i64 j1.Size]) tyAgg_24 tySize_24) ?_
       obtain ⟨t19, hc20, H0⟩ := bind_some H0
       refine JL.call [] [] [] (ref19_Count.ok j1 Aa2 c3 Aa5 c6 _ hc20) ⟨pre_any 1 (view_rd Aa2 c3 ((flInt .i64).kd) j1.X_ true true), ⟨pre_any 2 (view_rd Aa5 c6 ((flInt .i64).kd) j1.Y true true), trivial⟩⟩ ?_
       rintro _ _ ⟨rfl, rfl⟩
       obtain ⟨⟨h22, h23, h24⟩, H0⟩ := ite_must H0
       refine JL.makeSl 4 flBool.kd (false : Bool) Try.underlying40 info_4 (fun _ _ => rfl) h22 h23 (by omega) (by omega) fun b21 => ?_
       refine JL.pur (.agg #[.slice none 0 0, .slice none 0 0, .slice none 0 0, .slice (some ⟨b21, 0, none⟩) (List.replicate t19.toNat (false : Bool)).length t19.toNat, .slice none 0 0]) (some 24) ?_
       refine JL.alloc [.slice none 0 0, .slice none 0 0, .slice none 0 0, .slice none 0 0, .slice none 0 0] fun b25 => ?_
       refine JL.store 5 b25 0 42 [.slice none 0 0, .slice none 0 0, .slice none 0 0, .slice none 0 0, .slice none 0 0] [.slice none 0 0, .slice none 0 0, .slice none 0 0, .slice (some ⟨b21, 0, none⟩) (List.replicate t19.toNat (false : Bool)).length t19.toNat, .slice none 0 0] tySize_42 ?_
       refine JL.nil ?_
       refine JQ.then_normal ?_
       refine JQ.sub [(1, .int .i64 n8), (2, .pointer (some ⟨b9, 0, none⟩)), (4, .pointer (some ⟨b10, 0, none⟩)), (6, .pointer (some ⟨b25, 0, none⟩))] ?_
       refine J.seq ?_
       refine J.region ?_
       refine JL.pur (.pointer (some ⟨b9, 2, none⟩)) (some 26) ?_
       refine JL.val (.int .i64 j1.Most) (some 27) (yields_load_box 0 2 (holds_box b9 24 [.slice Aa2 j1.X_.length c3, .slice Aa5 j1.Y.length c6, .int .i64 j1.Most, .int .i64 j1.Size]) tyAgg_3) ?_
       obtain ⟨t26, hc27, H0⟩ := bind_some H0
       refine JL.call [] [] [] (ref18_New.ok j1.Most _ hc27) trivial ?_
       rintro _ _ ⟨Aa28, c29, Aa31, c32, Aa34, c35, rfl, rfl⟩
       refine JL.mv (.tuple #[.agg #[.slice Aa28 t26.1.Sums.length c29, .slice Aa31 t26.1.Ns.length c32, .slice Aa34 t26.1.Spans.length c35], .int .i64 t26.2]) ?_
       refine JL.pur (.agg #[.slice Aa28 t26.1.Sums.length c29, .slice Aa31 t26.1.Ns.length c32, .slice Aa34 t26.1.Spans.length c35]) (some 29) ?_
       refine JL.pur (.int .i64 t26.2) (some 30) ?_
       refine JL.pur (.pointer (some ⟨b25, 0, none⟩)) (some 31) ?_
       refine JL.store 5 b25 0 42 [.slice none 0 0, .slice none 0 0, .slice none 0 0, .slice (some ⟨b21, 0, none⟩) (List.replicate t19.toNat (false : Bool)).length t19.toNat, .slice none 0 0] [.slice Aa28 t26.1.Sums.length c29, .slice Aa31 t26.1.Ns.length c32, .slice Aa34 t26.1.Spans.length c35, .slice (some ⟨b21, 0, none⟩) (List.replicate t19.toNat (false : Bool)).length t19.toNat, .slice none 0 0] tySize_39 ?_
       refine JL.nil ?_
       refine JQ.then_normal ?_
       refine JQ.sub [(1, .int .i64 n8), (4, .pointer (some ⟨b10, 0, none⟩)), (6, .pointer (some ⟨b25, 0, none⟩))] ?_
       refine JQ.mask [At.box b10 42 [.slice none 0 0, .slice none 0 0, .slice none 0 0, .slice none 0 0, .slice none 0 0], At.row (some ⟨b21, 0, none⟩) t19.toNat 4 flBool.kd (List.replicate t19.toNat (false : Bool)) false, At.box b25 42 [.slice Aa28 t26.1.Sums.length c29, .slice Aa31 t26.1.Ns.length c32, .slice Aa34 t26.1.Spans.length c35, .slice (some ⟨b21, 0, none⟩) (List.replicate t19.toNat (false : Bool)).length t19.toNat, .slice none 0 0], At.row Aa28 c29 74 fl_Count.kd t26.1.Sums false, At.row Aa31 c32 74 fl_Count.kd t26.1.Ns false, At.row Aa34 c35 79 fl_Gap.kd t26.1.Spans false] [false, false, false, true, true, true, true, true, true] ?_
       refine J.seq ?_
       refine J.seq ?_
       refine J.region ?_
       refine JL.as (.int .i64 0) ?_
       refine JL.nil ?_
       refine JQ.then_normal ?_
       obtain ⟨o1, hit, H0⟩ := bind_some H0
       refine J.loop (σ := ((List Int) × Int)) (τ := List Int) (G := ((Option Addr) × Nat)) (G' := ((Option Addr) × Nat)) _ o1 (fun s g => [(1, .int .i64 n8), (4, .pointer (some ⟨b10, 0, none⟩)), (6, .pointer (some ⟨b25, 0, none⟩)), (7, .int .i64 s.2)]) (fun s g => [At.box b10 42 [.slice none 0 0, .slice none 0 0, .slice none 0 0, .slice none 0 0, .slice none 0 0], At.box b25 42 [.slice Aa28 t26.1.Sums.length c29, .slice Aa31 t26.1.Ns.length c32, .slice Aa34 t26.1.Spans.length c35, .slice (some ⟨b21, 0, none⟩) (List.replicate t19.toNat (false : Bool)).length t19.toNat, .slice g.1 s.1.length g.2], At.row Aa28 c29 74 fl_Count.kd t26.1.Sums false, At.row Aa31 c32 74 fl_Count.kd t26.1.Ns false, At.row Aa34 c35 79 fl_Gap.kd t26.1.Spans false, At.row (some ⟨b21, 0, none⟩) t19.toNat 4 flBool.kd (List.replicate t19.toNat (false : Bool)) false, At.row g.1 g.2 3 ((flInt .i64).kd) s.1 false]) (fun t => ref19_Open.k3 t19 t26 t = some r) (fun t g => [(4, .pointer (some ⟨b10, 0, none⟩)), (6, .pointer (some ⟨b25, 0, none⟩))]) (fun t g => [At.box b10 42 [.slice none 0 0, .slice none 0 0, .slice none 0 0, .slice none 0 0, .slice none 0 0], At.box b25 42 [.slice Aa28 t26.1.Sums.length c29, .slice Aa31 t26.1.Ns.length c32, .slice Aa34 t26.1.Spans.length c35, .slice (some ⟨b21, 0, none⟩) (List.replicate t19.toNat (false : Bool)).length t19.toNat, .slice g.1 t.length g.2], At.row Aa28 c29 74 fl_Count.kd t26.1.Sums false, At.row Aa31 c32 74 fl_Count.kd t26.1.Ns false, At.row Aa34 c35 79 fl_Gap.kd t26.1.Spans false, At.row (some ⟨b21, 0, none⟩) t19.toNat 4 flBool.kd (List.replicate t19.toNat (false : Bool)) false, At.row g.1 g.2 3 ((flInt .i64).kd) t false]) ([], 0) (none, 0) hit (fun _ h => Heap.to (Heap.pick [0, 2, 3, 4, 5, 1, 6] (by decide) (Heap.addRow0 (α := Int) 3 ((flInt .i64).kd) false h))) ?_ ?_
       · clear hit
         rintro ⟨w58, i62⟩ ⟨Aa59, c60⟩ st1 H1 hb1 hr1
         replace H1 : ref19_Open.s2 n8 w58 i62 = some st1 := H1
         unfold ref19_Open.s2 at H1
         refine JQ.sub [(1, .int .i64 n8), (4, .pointer (some ⟨b10, 0, none⟩)), (6, .pointer (some ⟨b25, 0, none⟩)), (7, .int .i64 i62)] ?_
         refine JQ.turn (Δ' := [At.box b10 42 [.slice none 0 0, .slice none 0 0, .slice none 0 0, .slice none 0 0, .slice none 0 0], At.box b25 42 [.slice Aa28 t26.1.Sums.length c29, .slice Aa31 t26.1.Ns.length c32, .slice Aa34 t26.1.Spans.length c35, .slice (some ⟨b21, 0, none⟩) (List.replicate t19.toNat (false : Bool)).length t19.toNat, .slice Aa59 w58.length c60], At.row Aa28 c29 74 fl_Count.kd t26.1.Sums false, At.row Aa31 c32 74 fl_Count.kd t26.1.Ns false, At.row Aa34 c35 79 fl_Gap.kd t26.1.Spans false, At.row (some ⟨b21, 0, none⟩) t19.toNat 4 flBool.kd (List.replicate t19.toNat (false : Bool)) false, At.row Aa59 c60 3 ((flInt .i64).kd) w58 false]) (fun _ h => h.to) ?_
         refine J.seq ?_
         refine J.seq ?_
         refine J.region ?_
         refine JL.mv (.int .i64 i62) ?_
         refine JL.mv (.int .i64 n8) ?_
         refine JL.pur (.bool (decide (i62 < n8))) (some 34) ?_
         refine JL.nil ?_
         refine JQ.then_normal ?_
         refine JQ.sub [(1, .int .i64 n8), (4, .pointer (some ⟨b10, 0, none⟩)), (6, .pointer (some ⟨b25, 0, none⟩)), (7, .int .i64 i62), (34, .bool (decide (i62 < n8)))] ?_
         rcases ite_cases H1 with ⟨h72, H1⟩ | ⟨h72, H1⟩
         · refine J.cond_true h72 ?_
           refine J.skip ?_
           refine JQ.then_normal ?_
           refine JQ.sub [(1, .int .i64 n8), (4, .pointer (some ⟨b10, 0, none⟩)), (6, .pointer (some ⟨b25, 0, none⟩)), (7, .int .i64 i62)] ?_
           refine J.seq ?_
           refine J.block ?_
           refine J.region ?_
           refine JL.pur (.pointer (some ⟨b25, 4, none⟩)) (some 37) ?_
           refine JL.val (.slice Aa59 w58.length c60) (some 38) (yields_load_box 1 4 (holds_box b25 42 [.slice Aa28 t26.1.Sums.length c29, .slice Aa31 t26.1.Ns.length c32, .slice Aa34 t26.1.Spans.length c35, .slice (some ⟨b21, 0, none⟩) (List.replicate t19.toNat (false : Bool)).length t19.toNat, .slice Aa59 w58.length c60]) tyAgg_22) ?_
           refine JL.buildSl 3 ((flInt .i64).kd) (([(-1)] : List Int) : List Int) [.int .i64 (-1)] false (closes_fl rfl) fun b73 => ?_
           obtain ⟨h76, H1⟩ := ite_must H1
           refine JL.append false false 6 7 Aa59 c60 1 w58 (elems_row (some ⟨b73, 0, none⟩) 1 3 ((flInt .i64).kd) ([(-1)] : List Int) false) Try.underlying22 info_3 (by omega) (by omega) (fun h => h) (.inr ⟨_, rfl⟩) fun Aa74 c75 => ?_
           refine JL.pur (.pointer (some ⟨b25, 4, none⟩)) (some 41) ?_
           refine JL.store 1 b25 4 42 [.slice Aa28 t26.1.Sums.length c29, .slice Aa31 t26.1.Ns.length c32, .slice Aa34 t26.1.Spans.length c35, .slice (some ⟨b21, 0, none⟩) (List.replicate t19.toNat (false : Bool)).length t19.toNat, .slice Aa59 w58.length c60] [.slice Aa28 t26.1.Sums.length c29, .slice Aa31 t26.1.Ns.length c32, .slice Aa34 t26.1.Spans.length c35, .slice (some ⟨b21, 0, none⟩) (List.replicate t19.toNat (false : Bool)).length t19.toNat, .slice Aa74 (w58 ++ ([(-1)] : List Int)).length c75] tySize_22 ?_
           refine JL.nil ?_
           refine JQ.blk_normal ?_
           refine JQ.then_normal ?_
           refine JQ.sub [(1, .int .i64 n8), (4, .pointer (some ⟨b10, 0, none⟩)), (6, .pointer (some ⟨b25, 0, none⟩)), (7, .int .i64 i62)] ?_
           refine JQ.mask [At.box b10 42 [.slice none 0 0, .slice none 0 0, .slice none 0 0, .slice none 0 0, .slice none 0 0], At.box b25 42 [.slice Aa28 t26.1.Sums.length c29, .slice Aa31 t26.1.Ns.length c32, .slice Aa34 t26.1.Spans.length c35, .slice (some ⟨b21, 0, none⟩) (List.replicate t19.toNat (false : Bool)).length t19.toNat, .slice Aa74 (w58 ++ ([(-1)] : List Int)).length c75], At.row Aa28 c29 74 fl_Count.kd t26.1.Sums false, At.row Aa31 c32 74 fl_Count.kd t26.1.Ns false, At.row Aa34 c35 79 fl_Gap.kd t26.1.Spans false, At.row (some ⟨b21, 0, none⟩) t19.toNat 4 flBool.kd (List.replicate t19.toNat (false : Bool)) false, At.row Aa74 c75 3 ((flInt .i64).kd) (w58 ++ ([(-1)] : List Int)) false] [true, true, true, true, true, true, true, false] ?_
           refine J.region ?_
           refine JL.mv (.int .i64 i62) ?_
           refine JL.pur (.int .i64 (w64 (i62 + 1))) (some 36) ?_
           refine JL.as (.int .i64 (w64 (i62 + 1))) ?_
           refine JL.nil ?_
           refine JQ.then_normal ?_
           exact JQ.again ((w58 ++ ([(-1)] : List Int)), w64 (i62 + 1)) (Aa74, c75) (Option.some.inj H1).symm (fun _ h => Heap.to h)
         · refine J.cond_false h72 ?_
           refine J.exit ?_
           refine JQ.then_exit ?_
           refine JQ.then_exit ?_
           refine JQ.blk_exit ?_
           rw [hb1 _ (Option.some.inj H1).symm, fin_brk] at H0
           exact JQ.met w58 (Aa59, c60) H0 (fun _ h => Heap.to h)
       · clear hit H0
         rintro w68 ⟨Aa69, c70⟩ H0
         replace H0 : ref19_Open.k3 t19 t26 w68 = some r := H0
         unfold ref19_Open.k3 at H0
         refine JQ.sub [(4, .pointer (some ⟨b10, 0, none⟩)), (6, .pointer (some ⟨b25, 0, none⟩))] ?_
         refine JQ.turn (Δ' := [At.box b10 42 [.slice none 0 0, .slice none 0 0, .slice none 0 0, .slice none 0 0, .slice none 0 0], At.box b25 42 [.slice Aa28 t26.1.Sums.length c29, .slice Aa31 t26.1.Ns.length c32, .slice Aa34 t26.1.Spans.length c35, .slice (some ⟨b21, 0, none⟩) (List.replicate t19.toNat (false : Bool)).length t19.toNat, .slice Aa69 w68.length c70], At.row Aa28 c29 74 fl_Count.kd t26.1.Sums false, At.row Aa31 c32 74 fl_Count.kd t26.1.Ns false, At.row Aa34 c35 79 fl_Gap.kd t26.1.Spans false, At.row (some ⟨b21, 0, none⟩) t19.toNat 4 flBool.kd (List.replicate t19.toNat (false : Bool)) false, At.row Aa69 c70 3 ((flInt .i64).kd) w68 false]) (fun _ h => h.to) ?_
         refine JQ.then_normal ?_
         refine J.seq ?_
         refine J.region ?_
         refine JL.val (.agg #[.slice Aa28 t26.1.Sums.length c29, .slice Aa31 t26.1.Ns.length c32, .slice Aa34 t26.1.Spans.length c35, .slice (some ⟨b21, 0, none⟩) (List.replicate t19.toNat (false : Bool)).length t19.toNat, .slice Aa69 w68.length c70]) (some 42) (yields_load_boxes 1 0 [.slice Aa28 t26.1.Sums.length c29, .slice Aa31 t26.1.Ns.length c32, .slice Aa34 t26.1.Spans.length c35, .slice (some ⟨b21, 0, none⟩) (List.replicate t19.toNat (false : Bool)).length t19.toNat, .slice Aa69 w68.length c70] (holds_box b25 42 [.slice Aa28 t26.1.Sums.length c29, .slice Aa31 t26.1.Ns.length c32, .slice Aa34 t26.1.Spans.length c35, .slice (some ⟨b21, 0, none⟩) (List.replicate t19.toNat (false : Bool)).length t19.toNat, .slice Aa69 w68.length c70]) tyAgg_42 tySize_42) ?_
         refine JL.store 0 b10 0 42 [.slice none 0 0, .slice none 0 0, .slice none 0 0, .slice none 0 0, .slice none 0 0] [.slice Aa28 t26.1.Sums.length c29, .slice Aa31 t26.1.Ns.length c32, .slice Aa34 t26.1.Spans.length c35, .slice (some ⟨b21, 0, none⟩) (List.replicate t19.toNat (false : Bool)).length t19.toNat, .slice Aa69 w68.length c70] tySize_42 ?_
         refine JL.as (.int .i64 0) ?_
         refine JL.nil ?_
         refine JQ.then_normal ?_
         refine JQ.sub [(4, .pointer (some ⟨b10, 0, none⟩)), (5, .int .i64 0)] ?_
         refine JQ.mask [At.box b10 42 [.slice Aa28 t26.1.Sums.length c29, .slice Aa31 t26.1.Ns.length c32, .slice Aa34 t26.1.Spans.length c35, .slice (some ⟨b21, 0, none⟩) (List.replicate t19.toNat (false : Bool)).length t19.toNat, .slice Aa69 w68.length c70], At.row Aa28 c29 74 fl_Count.kd t26.1.Sums false, At.row Aa31 c32 74 fl_Count.kd t26.1.Ns false, At.row Aa34 c35 79 fl_Gap.kd t26.1.Spans false, At.row (some ⟨b21, 0, none⟩) t19.toNat 4 flBool.kd (List.replicate t19.toNat (false : Bool)) false, At.row Aa69 c70 3 ((flInt .i64).kd) w68 false] [true, false, true, true, true, true, true] ?_
         refine J.ret ?_
         obtain rfl := Option.some.inj H0
         exact JQ.done' (rs := [.cell 4 42, .tmp 5]) (vs := [.agg #[.slice Aa28 t26.1.Sums.length c29, .slice Aa31 t26.1.Ns.length c32, .slice Aa34 t26.1.Spans.length c35, .slice (some ⟨b21, 0, none⟩) (List.replicate t19.toNat (false : Bool)).length t19.toNat, .slice Aa69 w68.length c70], .int .i64 0]) [At.row Aa28 c29 74 fl_Count.kd t26.1.Sums false, At.row Aa31 c32 74 fl_Count.kd t26.1.Ns false, At.row Aa34 c35 79 fl_Gap.kd t26.1.Spans false, At.row (some ⟨b21, 0, none⟩) t19.toNat 4 flBool.kd (List.replicate t19.toNat (false : Bool)) false, At.row Aa69 c70 3 ((flInt .i64).kd) w68 false] (.inr rfl) ⟨⟨b10, 0, _, _, by kernel_rfl, by kernel_rfl, holds_box b10 42 [.slice Aa28 t26.1.Sums.length c29, .slice Aa31 t26.1.Ns.length c32, .slice Aa34 t26.1.Spans.length c35, .slice (some ⟨b21, 0, none⟩) (List.replicate t19.toNat (false : Bool)).length t19.toNat, .slice Aa69 w68.length c70], .inl ⟨tyAgg_42, tySize_42, rfl⟩⟩, by kernel_rfl, trivial⟩ (fun _ h => Heap.to (Heap.pick [1, 2, 3, 4, 5] (by decide) h)) ⟨Aa28, c29, Aa31, c32, Aa34, c35, (some ⟨b21, 0, none⟩), t19.toNat, Aa69, c70, rfl, rfl⟩

theorem ref16_Same.ok (a1 : (List Lag)) (Aa2 : Option Addr) (c3 : Nat) (b5 : (List Lag)) (Aa6 : Option Addr) (c7 : Nat) (r : Bool) (H0 : ref16_Same.f a1 b5 = some r) :
    Does Try.prog 13 [.slice Aa2 a1.length c3, .slice Aa6 b5.length c7].toArray [At.rd Aa2 c3 fl_Lag.kd a1 true, At.rd Aa6 c7 fl_Lag.kd b5 true] [] false (fun v Δ => v = .bool r ∧ Δ = []) := by
 refine Does.body (vs := [.slice Aa2 a1.length c3, .slice Aa6 b5.length c7]) Try.func13 rfl ⟨.inl rfl, .inl rfl, trivial⟩ trivial fun w S => ?_
 unfold ref16_Same.f at H0
 refine J.seq ?_
 refine J.region ?_
 refine JL.as (.bool false) ?_
 refine JL.nil ?_
 refine JQ.then_normal ?_
 refine JQ.sub [(0, .slice Aa2 a1.length c3), (1, .slice Aa6 b5.length c7)] ?_
 refine J.seq ?_
 refine J.seq ?_
 refine J.region ?_
 refine JL.mv (.slice Aa2 a1.length c3) ?_
 refine JL.pur (.int .i64 (a1.length : Int)) (some 7) ?_
 refine JL.mv (.slice Aa6 b5.length c7) ?_
 refine JL.pur (.int .i64 (b5.length : Int)) (some 9) ?_
 refine JL.pur (.bool (!decide ((a1.length : Int) = (b5.length : Int)))) (some 10) ?_
 refine JL.nil ?_
 refine JQ.then_normal ?_
 refine JQ.sub [(0, .slice Aa2 a1.length c3), (1, .slice Aa6 b5.length c7), (10, .bool (!decide ((a1.length : Int) = (b5.length : Int))))] ?_
 rcases ite_cases H0 with ⟨h9, H0⟩ | ⟨h9, H0⟩
 · refine J.cond_true h9 ?_
   refine J.seq ?_
   refine J.region ?_
   refine JL.as (.bool false) ?_
   refine JL.nil ?_
   refine JQ.then_normal ?_
   refine JQ.sub [(4, .bool false)] ?_
   refine JQ.mask [] [false, false] ?_
   refine J.ret ?_
   refine JQ.then_ret ?_
   obtain rfl := Option.some.inj H0
   exact JQ.done' (rs := [.tmp 4]) (vs := [.bool false]) [] (.inr rfl) ⟨by kernel_rfl, trivial⟩ (fun _ h => Heap.to h) ⟨rfl, rfl⟩
 · refine J.cond_false h9 ?_
   refine J.skip ?_
   refine JQ.then_normal ?_
   refine JQ.sub [(0, .slice Aa2 a1.length c3), (1, .slice Aa6 b5.length c7)] ?_
   refine J.seq ?_
   refine J.seq ?_
   refine J.region ?_
   refine JL.as (.int .i64 0) ?_
   refine JL.nil ?_
   refine JQ.then_normal ?_
   obtain ⟨o1, hit, H0⟩ := bind_some H0
   refine J.loop (σ := Int) (τ := Unit) (G := Unit) (G' := Unit) _ o1 (fun s g => [(0, .slice Aa2 a1.length c3), (1, .slice Aa6 b5.length c7), (5, .int .i64 s)]) (fun s g => [At.rd Aa2 c3 fl_Lag.kd a1 true, At.rd Aa6 c7 fl_Lag.kd b5 true]) (fun t => ref16_Same.k2 = some r) (fun t g => []) (fun t g => []) 0 () hit (fun _ h => Heap.to h) ?_ ?_
   · clear hit
     rintro i32 ⟨⟩ st1 H1 hb1 hr1
     replace H1 : ref16_Same.s1 a1 b5 i32 = some st1 := H1
     unfold ref16_Same.s1 at H1
     refine JQ.sub [(0, .slice Aa2 a1.length c3), (1, .slice Aa6 b5.length c7), (5, .int .i64 i32)] ?_
     refine JQ.turn (Δ' := [At.rd Aa2 c3 fl_Lag.kd a1 true, At.rd Aa6 c7 fl_Lag.kd b5 true]) (fun _ h => h.to) ?_
     refine J.seq ?_
     refine J.seq ?_
     refine J.region ?_
     refine JL.mv (.int .i64 i32) ?_
     refine JL.mv (.slice Aa2 a1.length c3) ?_
     refine JL.pur (.int .i64 (a1.length : Int)) (some 13) ?_
     refine JL.pur (.bool (decide (i32 < (a1.length : Int)))) (some 14) ?_
     refine JL.nil ?_
     refine JQ.then_normal ?_
     refine JQ.sub [(0, .slice Aa2 a1.length c3), (1, .slice Aa6 b5.length c7), (5, .int .i64 i32), (14, .bool (decide (i32 < (a1.length : Int))))] ?_
     rcases ite_cases H1 with ⟨h43, H1⟩ | ⟨h43, H1⟩
     · refine J.cond_true h43 ?_
       refine J.skip ?_
       refine JQ.then_normal ?_
       refine JQ.sub [(0, .slice Aa2 a1.length c3), (1, .slice Aa6 b5.length c7), (5, .int .i64 i32)] ?_
       refine J.seq ?_
       refine J.block ?_
       refine J.seq ?_
       refine J.draw ?_
       refine QL.mv (.slice Aa2 a1.length c3) ?_
       refine QL.mv (.int .i64 i32) ?_
       obtain ⟨⟨h44, h45⟩, H1⟩ := ite_must H1
       refine QL.ixAddr 0 2 c3 .i64 (elems_rd Aa2 c3 fl_Lag.kd a1 true) Try.underlying31 tySize_65 h44 h45 fun g46 o47 hA => ?_
       subst hA
       refine QL.val (mv_65 (ix a1 i32)) (some 20) (gives_loadEl (f := fl_Lag) 0 0 i32 (elems_rd (some ⟨g46, o47, none⟩) c3 fl_Lag.kd a1 true) h44 h45 tySize_65 (.inl ⟨tyAgg_65, rfl⟩)) ?_
       refine QL.mv (.slice Aa6 b5.length c7) ?_
       refine QL.mv (.int .i64 i32) ?_
       obtain ⟨⟨h48, h49⟩, H1⟩ := ite_must H1
       refine QL.ixAddr 1 2 c7 .i64 (elems_rd Aa6 c7 fl_Lag.kd b5 true) Try.underlying31 tySize_65 h48 h49 fun g50 o51 hA => ?_
       subst hA
       refine QL.val (mv_65 (ix b5 i32)) (some 24) (gives_loadEl (f := fl_Lag) 1 0 i32 (elems_rd (some ⟨g50, o51, none⟩) c7 fl_Lag.kd b5 true) h48 h49 tySize_65 (.inl ⟨tyAgg_65, rfl⟩)) ?_
       refine QL.val (.bool (!decide ((ix a1 i32) = (ix b5 i32)))) (some 25) (gives_neq eqg_65 (fun w => eqt_65 (ix a1 i32) (ix b5 i32) w)) ?_
       refine QL.nil ?_
       refine JA.nil ?_
       refine JQ.then_normal ?_
       refine JQ.sub [(0, .slice (some ⟨g46, o47, none⟩) a1.length c3), (1, .slice (some ⟨g50, o51, none⟩) b5.length c7), (5, .int .i64 i32), (25, .bool (!decide ((ix a1 i32) = (ix b5 i32))))] ?_
       rcases ite_cases H1 with ⟨h52, H1⟩ | ⟨h52, H1⟩
       · refine J.cond_true h52 ?_
         refine J.seq ?_
         refine J.region ?_
         refine JL.as (.bool false) ?_
         refine JL.nil ?_
         refine JQ.then_normal ?_
         refine JQ.sub [(4, .bool false)] ?_
         refine JQ.mask [] [false, false] ?_
         refine J.ret ?_
         refine JQ.blk_ret ?_
         refine JQ.then_ret ?_
         refine JQ.then_ret ?_
         refine JQ.blk_ret ?_
         refine JQ.met_ret ?_
         refine JQ.then_ret ?_
         rw [hr1 _ (Option.some.inj H1).symm, fin_ret] at H0
         obtain rfl := Option.some.inj H0
         exact JQ.done' (rs := [.tmp 4]) (vs := [.bool false]) [] (.inr rfl) ⟨by kernel_rfl, trivial⟩ (fun _ h => Heap.to h) ⟨rfl, rfl⟩
       · refine J.cond_false h52 ?_
         refine J.skip ?_
         refine JQ.blk_normal ?_
         refine JQ.then_normal ?_
         refine JQ.sub [(0, .slice (some ⟨g46, o47, none⟩) a1.length c3), (1, .slice (some ⟨g50, o51, none⟩) b5.length c7), (5, .int .i64 i32)] ?_
         refine J.region ?_
         refine JL.mv (.int .i64 i32) ?_
         refine JL.pur (.int .i64 (w64 (i32 + 1))) (some 16) ?_
         refine JL.as (.int .i64 (w64 (i32 + 1))) ?_
         refine JL.nil ?_
         refine JQ.then_normal ?_
         exact JQ.again (w64 (i32 + 1)) () (Option.some.inj H1).symm (fun _ h => Heap.to h)
     · refine J.cond_false h43 ?_
       refine J.exit ?_
       refine JQ.then_exit ?_
       refine JQ.then_exit ?_
       refine JQ.blk_exit ?_
       rw [hb1 _ (Option.some.inj H1).symm, fin_brk] at H0
       exact JQ.met () () H0 (fun _ h => Heap.to (Heap.pick [] (by decide) h))
   · clear hit H0
     rintro ⟨⟩ ⟨⟩ H0
     replace H0 : ref16_Same.k2 = some r := H0
     unfold ref16_Same.k2 at H0
     refine JQ.sub [] ?_
     refine JQ.turn (Δ' := []) (fun _ h => h.to) ?_
     refine JQ.then_normal ?_
     refine J.seq ?_
     refine J.region ?_
     refine JL.as (.bool true) ?_
     refine JL.nil ?_
     refine JQ.then_normal ?_
     refine J.ret ?_
     obtain rfl := Option.some.inj H0
     exact JQ.done' (rs := [.tmp 4]) (vs := [.bool true]) [] (.inr rfl) ⟨by kernel_rfl, trivial⟩ (fun _ h => Heap.to h) ⟨rfl, rfl⟩

theorem ref13_Same.ok (a1 : (List Int)) (Aa2 : Option Addr) (c3 : Nat) (b5 : (List Int)) (Aa6 : Option Addr) (c7 : Nat) (r : Bool) (H0 : ref13_Same.f a1 b5 = some r) :
    Does Try.prog 15 [.slice Aa2 a1.length c3, .slice Aa6 b5.length c7].toArray [At.rd Aa2 c3 ((flInt .i64).kd) a1 true, At.rd Aa6 c7 ((flInt .i64).kd) b5 true] [] false (fun v Δ => v = .bool r ∧ Δ = []) := by
 refine Does.body (vs := [.slice Aa2 a1.length c3, .slice Aa6 b5.length c7]) Try.func15 rfl ⟨.inl rfl, .inl rfl, trivial⟩ trivial fun w S => ?_
 unfold ref13_Same.f at H0
 refine J.seq ?_
 refine J.region ?_
 refine JL.as (.bool false) ?_
 refine JL.nil ?_
 refine JQ.then_normal ?_
 refine JQ.sub [(0, .slice Aa2 a1.length c3), (1, .slice Aa6 b5.length c7)] ?_
 refine J.seq ?_
 refine J.seq ?_
 refine J.region ?_
 refine JL.mv (.slice Aa2 a1.length c3) ?_
 refine JL.pur (.int .i64 (a1.length : Int)) (some 7) ?_
 refine JL.mv (.slice Aa6 b5.length c7) ?_
 refine JL.pur (.int .i64 (b5.length : Int)) (some 9) ?_
 refine JL.pur (.bool (!decide ((a1.length : Int) = (b5.length : Int)))) (some 10) ?_
 refine JL.nil ?_
 refine JQ.then_normal ?_
 refine JQ.sub [(0, .slice Aa2 a1.length c3), (1, .slice Aa6 b5.length c7), (10, .bool (!decide ((a1.length : Int) = (b5.length : Int))))] ?_
 rcases ite_cases H0 with ⟨h9, H0⟩ | ⟨h9, H0⟩
 · refine J.cond_true h9 ?_
   refine J.seq ?_
   refine J.region ?_
   refine JL.as (.bool false) ?_
   refine JL.nil ?_
   refine JQ.then_normal ?_
   refine JQ.sub [(4, .bool false)] ?_
   refine JQ.mask [] [false, false] ?_
   refine J.ret ?_
   refine JQ.then_ret ?_
   obtain rfl := Option.some.inj H0
   exact JQ.done' (rs := [.tmp 4]) (vs := [.bool false]) [] (.inr rfl) ⟨by kernel_rfl, trivial⟩ (fun _ h => Heap.to h) ⟨rfl, rfl⟩
 · refine J.cond_false h9 ?_
   refine J.skip ?_
   refine JQ.then_normal ?_
   refine JQ.sub [(0, .slice Aa2 a1.length c3), (1, .slice Aa6 b5.length c7)] ?_
   refine J.seq ?_
   refine J.seq ?_
   refine J.region ?_
   refine JL.as (.int .i64 0) ?_
   refine JL.nil ?_
   refine JQ.then_normal ?_
   obtain ⟨o1, hit, H0⟩ := bind_some H0
   refine J.loop (σ := Int) (τ := Unit) (G := Unit) (G' := Unit) _ o1 (fun s g => [(0, .slice Aa2 a1.length c3), (1, .slice Aa6 b5.length c7), (5, .int .i64 s)]) (fun s g => [At.rd Aa2 c3 ((flInt .i64).kd) a1 true, At.rd Aa6 c7 ((flInt .i64).kd) b5 true]) (fun t => ref13_Same.k2 = some r) (fun t g => []) (fun t g => []) 0 () hit (fun _ h => Heap.to h) ?_ ?_
   · clear hit
     rintro i32 ⟨⟩ st1 H1 hb1 hr1
     replace H1 : ref13_Same.s1 a1 b5 i32 = some st1 := H1
     unfold ref13_Same.s1 at H1
     refine JQ.sub [(0, .slice Aa2 a1.length c3), (1, .slice Aa6 b5.length c7), (5, .int .i64 i32)] ?_
     refine JQ.turn (Δ' := [At.rd Aa2 c3 ((flInt .i64).kd) a1 true, At.rd Aa6 c7 ((flInt .i64).kd) b5 true]) (fun _ h => h.to) ?_
     refine J.seq ?_
     refine J.seq ?_
     refine J.region ?_
     refine JL.mv (.int .i64 i32) ?_
     refine JL.mv (.slice Aa2 a1.length c3) ?_
     refine JL.pur (.int .i64 (a1.length : Int)) (some 13) ?_
     refine JL.pur (.bool (decide (i32 < (a1.length : Int)))) (some 14) ?_
     refine JL.nil ?_
     refine JQ.then_normal ?_
     refine JQ.sub [(0, .slice Aa2 a1.length c3), (1, .slice Aa6 b5.length c7), (5, .int .i64 i32), (14, .bool (decide (i32 < (a1.length : Int))))] ?_
     rcases ite_cases H1 with ⟨h43, H1⟩ | ⟨h43, H1⟩
     · refine J.cond_true h43 ?_
       refine J.skip ?_
       refine JQ.then_normal ?_
       refine JQ.sub [(0, .slice Aa2 a1.length c3), (1, .slice Aa6 b5.length c7), (5, .int .i64 i32)] ?_
       refine J.seq ?_
       refine J.block ?_
       refine J.seq ?_
       refine J.draw ?_
       refine QL.mv (.slice Aa2 a1.length c3) ?_
       refine QL.mv (.int .i64 i32) ?_
       obtain ⟨⟨h44, h45⟩, H1⟩ := ite_must H1
       refine QL.ixAddr 0 1 c3 .i64 (elems_rd Aa2 c3 ((flInt .i64).kd) a1 true) Try.underlying22 tySize_3 h44 h45 fun g46 o47 hA => ?_
       subst hA
       refine QL.val (.int .i64 (ix a1 i32)) (some 20) (gives_loadEl (f := (flInt .i64)) 0 0 i32 (elems_rd (some ⟨g46, o47, none⟩) c3 ((flInt .i64).kd) a1 true) h44 h45 tySize_3 (.inr ⟨tyAgg_3, rfl, rfl⟩)) ?_
       refine QL.mv (.slice Aa6 b5.length c7) ?_
       refine QL.mv (.int .i64 i32) ?_
       obtain ⟨⟨h48, h49⟩, H1⟩ := ite_must H1
       refine QL.ixAddr 1 1 c7 .i64 (elems_rd Aa6 c7 ((flInt .i64).kd) b5 true) Try.underlying22 tySize_3 h48 h49 fun g50 o51 hA => ?_
       subst hA
       refine QL.val (.int .i64 (ix b5 i32)) (some 24) (gives_loadEl (f := (flInt .i64)) 1 0 i32 (elems_rd (some ⟨g50, o51, none⟩) c7 ((flInt .i64).kd) b5 true) h48 h49 tySize_3 (.inr ⟨tyAgg_3, rfl, rfl⟩)) ?_
       refine QL.pur (.bool (!decide ((ix a1 i32) = (ix b5 i32)))) (some 25) ?_
       refine QL.nil ?_
       refine JA.nil ?_
       refine JQ.then_normal ?_
       refine JQ.sub [(0, .slice (some ⟨g46, o47, none⟩) a1.length c3), (1, .slice (some ⟨g50, o51, none⟩) b5.length c7), (5, .int .i64 i32), (25, .bool (!decide ((ix a1 i32) = (ix b5 i32))))] ?_
       rcases ite_cases H1 with ⟨h52, H1⟩ | ⟨h52, H1⟩
       · refine J.cond_true h52 ?_
         refine J.seq ?_
         refine J.region ?_
         refine JL.as (.bool false) ?_
         refine JL.nil ?_
         refine JQ.then_normal ?_
         refine JQ.sub [(4, .bool false)] ?_
         refine JQ.mask [] [false, false] ?_
         refine J.ret ?_
         refine JQ.blk_ret ?_
         refine JQ.then_ret ?_
         refine JQ.then_ret ?_
         refine JQ.blk_ret ?_
         refine JQ.met_ret ?_
         refine JQ.then_ret ?_
         rw [hr1 _ (Option.some.inj H1).symm, fin_ret] at H0
         obtain rfl := Option.some.inj H0
         exact JQ.done' (rs := [.tmp 4]) (vs := [.bool false]) [] (.inr rfl) ⟨by kernel_rfl, trivial⟩ (fun _ h => Heap.to h) ⟨rfl, rfl⟩
       · refine J.cond_false h52 ?_
         refine J.skip ?_
         refine JQ.blk_normal ?_
         refine JQ.then_normal ?_
         refine JQ.sub [(0, .slice (some ⟨g46, o47, none⟩) a1.length c3), (1, .slice (some ⟨g50, o51, none⟩) b5.length c7), (5, .int .i64 i32)] ?_
         refine J.region ?_
         refine JL.mv (.int .i64 i32) ?_
         refine JL.pur (.int .i64 (w64 (i32 + 1))) (some 16) ?_
         refine JL.as (.int .i64 (w64 (i32 + 1))) ?_
         refine JL.nil ?_
         refine JQ.then_normal ?_
         exact JQ.again (w64 (i32 + 1)) () (Option.some.inj H1).symm (fun _ h => Heap.to h)
     · refine J.cond_false h43 ?_
       refine J.exit ?_
       refine JQ.then_exit ?_
       refine JQ.then_exit ?_
       refine JQ.blk_exit ?_
       rw [hb1 _ (Option.some.inj H1).symm, fin_brk] at H0
       exact JQ.met () () H0 (fun _ h => Heap.to (Heap.pick [] (by decide) h))
   · clear hit H0
     rintro ⟨⟩ ⟨⟩ H0
     replace H0 : ref13_Same.k2 = some r := H0
     unfold ref13_Same.k2 at H0
     refine JQ.sub [] ?_
     refine JQ.turn (Δ' := []) (fun _ h => h.to) ?_
     refine JQ.then_normal ?_
     refine J.seq ?_
     refine J.region ?_
     refine JL.as (.bool true) ?_
     refine JL.nil ?_
     refine JQ.then_normal ?_
     refine J.ret ?_
     obtain rfl := Option.some.inj H0
     exact JQ.done' (rs := [.tmp 4]) (vs := [.bool true]) [] (.inr rfl) ⟨by kernel_rfl, trivial⟩ (fun _ h => Heap.to h) ⟨rfl, rfl⟩

theorem ref18_Same.ok (a1 : Acc) (Aa2 : Option Addr) (c3 : Nat) (Aa5 : Option Addr) (c6 : Nat) (Aa8 : Option Addr) (c9 : Nat) (b11 : Acc) (Aa12 : Option Addr) (c13 : Nat) (Aa15 : Option Addr) (c16 : Nat) (Aa18 : Option Addr) (c19 : Nat) (r : Bool) (H0 : ref18_Same.f a1 b11 = some r) :
    Does Try.prog 27 [.agg #[.slice Aa2 a1.Sums.length c3, .slice Aa5 a1.Ns.length c6, .slice Aa8 a1.Spans.length c9], .agg #[.slice Aa12 b11.Sums.length c13, .slice Aa15 b11.Ns.length c16, .slice Aa18 b11.Spans.length c19]].toArray [At.rd Aa2 c3 fl_Count.kd a1.Sums true, At.rd Aa5 c6 fl_Count.kd a1.Ns true, At.rd Aa8 c9 fl_Gap.kd a1.Spans true, At.rd Aa12 c13 fl_Count.kd b11.Sums true, At.rd Aa15 c16 fl_Count.kd b11.Ns true, At.rd Aa18 c19 fl_Gap.kd b11.Spans true] [] false (fun v Δ => v = .bool r ∧ Δ = []) := by
 refine Does.body (vs := [.agg #[.slice Aa2 a1.Sums.length c3, .slice Aa5 a1.Ns.length c6, .slice Aa8 a1.Spans.length c9], .agg #[.slice Aa12 b11.Sums.length c13, .slice Aa15 b11.Ns.length c16, .slice Aa18 b11.Spans.length c19]]) Try.func27 rfl ⟨.inl rfl, .inl rfl, .inl rfl, .inl rfl, .inl rfl, .inl rfl, trivial⟩ trivial fun w S => ?_
 unfold ref18_Same.f at H0
 refine J.seq ?_
 refine J.region ?_
 refine JL.box [.slice Aa2 a1.Sums.length c3, .slice Aa5 a1.Ns.length c6, .slice Aa8 a1.Spans.length c9] fun b21 => ?_
 refine JL.box [.slice Aa12 b11.Sums.length c13, .slice Aa15 b11.Ns.length c16, .slice Aa18 b11.Spans.length c19] fun b22 => ?_
 refine JL.as (.bool false) ?_
 refine JL.nil ?_
 refine JQ.then_normal ?_
 refine JQ.sub [(2, .pointer (some ⟨b21, 0, none⟩)), (3, .pointer (some ⟨b22, 0, none⟩))] ?_
 refine J.seq ?_
 refine J.join (T := Bool) (G := Unit) (fun t => ref18_Same.k1 a1 b11 t = some r) (fun t g => [(2, .pointer (some ⟨b21, 0, none⟩)), (3, .pointer (some ⟨b22, 0, none⟩)), (32, .bool t)]) (fun t g => [At.box b21 39 [.slice Aa2 a1.Sums.length c3, .slice Aa5 a1.Ns.length c6, .slice Aa8 a1.Spans.length c9], At.rd Aa2 c3 fl_Count.kd a1.Sums true, At.rd Aa5 c6 fl_Count.kd a1.Ns true, At.rd Aa8 c9 fl_Gap.kd a1.Spans true, At.box b22 39 [.slice Aa12 b11.Sums.length c13, .slice Aa15 b11.Ns.length c16, .slice Aa18 b11.Spans.length c19], At.rd Aa12 c13 fl_Count.kd b11.Sums true, At.rd Aa15 c16 fl_Count.kd b11.Ns true, At.rd Aa18 c19 fl_Gap.kd b11.Spans true]) ?_ ?_
 · refine J.region ?_
   refine JL.pur (.pointer (some ⟨b21, 0, none⟩)) (some 8) ?_
   refine JL.val (.slice Aa2 a1.Sums.length c3) (some 9) (yields_load_box 6 0 (holds_box b21 39 [.slice Aa2 a1.Sums.length c3, .slice Aa5 a1.Ns.length c6, .slice Aa8 a1.Spans.length c9]) tyAgg_36) ?_
   refine JL.pur (.int .i64 (a1.Sums.length : Int)) (some 10) ?_
   refine JL.pur (.pointer (some ⟨b22, 0, none⟩)) (some 11) ?_
   refine JL.val (.slice Aa12 b11.Sums.length c13) (some 12) (yields_load_box 7 0 (holds_box b22 39 [.slice Aa12 b11.Sums.length c13, .slice Aa15 b11.Ns.length c16, .slice Aa18 b11.Spans.length c19]) tyAgg_36) ?_
   refine JL.pur (.int .i64 (b11.Sums.length : Int)) (some 13) ?_
   refine JL.pur (.bool (!decide ((a1.Sums.length : Int) = (b11.Sums.length : Int)))) (some 14) ?_
   refine JL.mv (.bool (!decide ((a1.Sums.length : Int) = (b11.Sums.length : Int)))) ?_
   rcases ite_cases H0 with ⟨h156, H0⟩ | ⟨h156, H0⟩
   · refine JL.off 7 15 false (some 16) h156 ?_
     refine JL.off 7 15 false (some 17) h156 ?_
     refine JL.off 7 15 false (some 18) h156 ?_
     refine JL.off 7 15 false (some 19) h156 ?_
     refine JL.off 7 15 false (some 20) h156 ?_
     refine JL.off 7 15 false (some 21) h156 ?_
     refine JL.off 7 15 false (some 22) h156 ?_
     refine JL.val (.bool true) (some 23) (gives_pickT h156) ?_
     refine JL.mv (.bool true) ?_
     refine JL.off 16 24 false (some 25) rfl ?_
     refine JL.off 16 24 false (some 26) rfl ?_
     refine JL.off 16 24 false (some 27) rfl ?_
     refine JL.off 16 24 false (some 28) rfl ?_
     refine JL.off 16 24 false (some 29) rfl ?_
     refine JL.off 16 24 false (some 30) rfl ?_
     refine JL.off 16 24 false (some 31) rfl ?_
     refine JL.val (.bool true) (some 32) (gives_pickT rfl) ?_
     refine JL.nil ?_
     refine JQ.then_normal ?_
     exact JQ.meet true () H0 (fun _ h => Heap.to (Heap.pick [6, 0, 1, 2, 7, 3, 4, 5] (by decide) h))
   · refine JL.on 7 15 h156 ?_
     refine JL.pur (.pointer (some ⟨b21, 1, none⟩)) (some 16) ?_
     refine JL.on 7 15 h156 ?_
     refine JL.val (.slice Aa5 a1.Ns.length c6) (some 17) (yields_load_box 6 1 (holds_box b21 39 [.slice Aa2 a1.Sums.length c3, .slice Aa5 a1.Ns.length c6, .slice Aa8 a1.Spans.length c9]) tyAgg_36) ?_
     refine JL.on 7 15 h156 ?_
     refine JL.pur (.int .i64 (a1.Ns.length : Int)) (some 18) ?_
     refine JL.on 7 15 h156 ?_
     refine JL.pur (.pointer (some ⟨b22, 1, none⟩)) (some 19) ?_
     refine JL.on 7 15 h156 ?_
     refine JL.val (.slice Aa15 b11.Ns.length c16) (some 20) (yields_load_box 7 1 (holds_box b22 39 [.slice Aa12 b11.Sums.length c13, .slice Aa15 b11.Ns.length c16, .slice Aa18 b11.Spans.length c19]) tyAgg_36) ?_
     refine JL.on 7 15 h156 ?_
     refine JL.pur (.int .i64 (b11.Ns.length : Int)) (some 21) ?_
     refine JL.on 7 15 h156 ?_
     refine JL.pur (.bool (!decide ((a1.Ns.length : Int) = (b11.Ns.length : Int)))) (some 22) ?_
     refine JL.val (.bool (!decide ((a1.Ns.length : Int) = (b11.Ns.length : Int)))) (some 23) (gives_pickF h156) ?_
     refine JL.mv (.bool (!decide ((a1.Ns.length : Int) = (b11.Ns.length : Int)))) ?_
     rcases ite_cases H0 with ⟨h157, H0⟩ | ⟨h157, H0⟩
     · refine JL.off 16 24 false (some 25) h157 ?_
       refine JL.off 16 24 false (some 26) h157 ?_
       refine JL.off 16 24 false (some 27) h157 ?_
       refine JL.off 16 24 false (some 28) h157 ?_
       refine JL.off 16 24 false (some 29) h157 ?_
       refine JL.off 16 24 false (some 30) h157 ?_
       refine JL.off 16 24 false (some 31) h157 ?_
       refine JL.val (.bool true) (some 32) (gives_pickT h157) ?_
       refine JL.nil ?_
       refine JQ.then_normal ?_
       exact JQ.meet true () H0 (fun _ h => Heap.to (Heap.pick [6, 0, 1, 2, 7, 3, 4, 5] (by decide) h))
     · refine JL.on 16 24 h157 ?_
       refine JL.pur (.pointer (some ⟨b21, 2, none⟩)) (some 25) ?_
       refine JL.on 16 24 h157 ?_
       refine JL.val (.slice Aa8 a1.Spans.length c9) (some 26) (yields_load_box 6 2 (holds_box b21 39 [.slice Aa2 a1.Sums.length c3, .slice Aa5 a1.Ns.length c6, .slice Aa8 a1.Spans.length c9]) tyAgg_37) ?_
       refine JL.on 16 24 h157 ?_
       refine JL.pur (.int .i64 (a1.Spans.length : Int)) (some 27) ?_
       refine JL.on 16 24 h157 ?_
       refine JL.pur (.pointer (some ⟨b22, 2, none⟩)) (some 28) ?_
       refine JL.on 16 24 h157 ?_
       refine JL.val (.slice Aa18 b11.Spans.length c19) (some 29) (yields_load_box 7 2 (holds_box b22 39 [.slice Aa12 b11.Sums.length c13, .slice Aa15 b11.Ns.length c16, .slice Aa18 b11.Spans.length c19]) tyAgg_37) ?_
       refine JL.on 16 24 h157 ?_
       refine JL.pur (.int .i64 (b11.Spans.length : Int)) (some 30) ?_
       refine JL.on 16 24 h157 ?_
       refine JL.pur (.bool (!decide ((a1.Spans.length : Int) = (b11.Spans.length : Int)))) (some 31) ?_
       refine JL.val (.bool (!decide ((a1.Spans.length : Int) = (b11.Spans.length : Int)))) (some 32) (gives_pickF h157) ?_
       refine JL.nil ?_
       refine JQ.then_normal ?_
       exact JQ.meet (!decide ((a1.Spans.length : Int) = (b11.Spans.length : Int))) () H0 (fun _ h => Heap.to (Heap.pick [6, 0, 1, 2, 7, 3, 4, 5] (by decide) h))
 · clear H0
   rintro x25 ⟨⟩ H0
   replace H0 : ref18_Same.k1 a1 b11 x25 = some r := H0
   unfold ref18_Same.k1 at H0
   refine JQ.sub [(2, .pointer (some ⟨b21, 0, none⟩)), (3, .pointer (some ⟨b22, 0, none⟩)), (32, .bool x25)] ?_
   refine JQ.turn (Δ' := [At.box b21 39 [.slice Aa2 a1.Sums.length c3, .slice Aa5 a1.Ns.length c6, .slice Aa8 a1.Spans.length c9], At.rd Aa2 c3 fl_Count.kd a1.Sums true, At.rd Aa5 c6 fl_Count.kd a1.Ns true, At.rd Aa8 c9 fl_Gap.kd a1.Spans true, At.box b22 39 [.slice Aa12 b11.Sums.length c13, .slice Aa15 b11.Ns.length c16, .slice Aa18 b11.Spans.length c19], At.rd Aa12 c13 fl_Count.kd b11.Sums true, At.rd Aa15 c16 fl_Count.kd b11.Ns true, At.rd Aa18 c19 fl_Gap.kd b11.Spans true]) (fun _ h => h.to) ?_
   rcases ite_cases H0 with ⟨h26, H0⟩ | ⟨h26, H0⟩
   · refine J.cond_true h26 ?_
     refine J.seq ?_
     refine J.region ?_
     refine JL.as (.bool false) ?_
     refine JL.nil ?_
     refine JQ.then_normal ?_
     refine JQ.sub [(4, .bool false)] ?_
     refine JQ.mask [] [false, false, false, false, false, false, false, false] ?_
     refine J.ret ?_
     refine JQ.then_ret ?_
     obtain rfl := Option.some.inj H0
     exact JQ.done' (rs := [.tmp 4]) (vs := [.bool false]) [] (.inr rfl) ⟨by kernel_rfl, trivial⟩ (fun _ h => Heap.to h) ⟨rfl, rfl⟩
   · refine J.cond_false h26 ?_
     refine J.skip ?_
     refine JQ.then_normal ?_
     refine JQ.sub [(2, .pointer (some ⟨b21, 0, none⟩)), (3, .pointer (some ⟨b22, 0, none⟩))] ?_
     refine J.seq ?_
     refine J.seq ?_
     refine J.region ?_
     refine JL.as (.int .i64 0) ?_
     refine JL.nil ?_
     refine JQ.then_normal ?_
     obtain ⟨o1, hit, H0⟩ := bind_some H0
     refine J.loop (σ := Int) (τ := Unit) (G := Unit) (G' := Unit) _ o1 (fun s g => [(2, .pointer (some ⟨b21, 0, none⟩)), (3, .pointer (some ⟨b22, 0, none⟩)), (5, .int .i64 s)]) (fun s g => [At.box b21 39 [.slice Aa2 a1.Sums.length c3, .slice Aa5 a1.Ns.length c6, .slice Aa8 a1.Spans.length c9], At.rd Aa2 c3 fl_Count.kd a1.Sums true, At.rd Aa5 c6 fl_Count.kd a1.Ns true, At.rd Aa8 c9 fl_Gap.kd a1.Spans true, At.box b22 39 [.slice Aa12 b11.Sums.length c13, .slice Aa15 b11.Ns.length c16, .slice Aa18 b11.Spans.length c19], At.rd Aa12 c13 fl_Count.kd b11.Sums true, At.rd Aa15 c16 fl_Count.kd b11.Ns true, At.rd Aa18 c19 fl_Gap.kd b11.Spans true]) (fun t => ref18_Same.k3 a1 b11 = some r) (fun t g => [(2, .pointer (some ⟨b21, 0, none⟩)), (3, .pointer (some ⟨b22, 0, none⟩))]) (fun t g => [At.box b21 39 [.slice Aa2 a1.Sums.length c3, .slice Aa5 a1.Ns.length c6, .slice Aa8 a1.Spans.length c9], At.rd Aa2 c3 fl_Count.kd a1.Sums true, At.rd Aa5 c6 fl_Count.kd a1.Ns true, At.rd Aa8 c9 fl_Gap.kd a1.Spans true, At.box b22 39 [.slice Aa12 b11.Sums.length c13, .slice Aa15 b11.Ns.length c16, .slice Aa18 b11.Spans.length c19], At.rd Aa12 c13 fl_Count.kd b11.Sums true, At.rd Aa15 c16 fl_Count.kd b11.Ns true, At.rd Aa18 c19 fl_Gap.kd b11.Spans true]) 0 () hit (fun _ h => Heap.to h) ?_ ?_
     · clear hit
       rintro i49 ⟨⟩ st1 H1 hb1 hr1
       replace H1 : ref18_Same.s2 a1 b11 i49 = some st1 := H1
       unfold ref18_Same.s2 at H1
       refine JQ.sub [(2, .pointer (some ⟨b21, 0, none⟩)), (3, .pointer (some ⟨b22, 0, none⟩)), (5, .int .i64 i49)] ?_
       refine JQ.turn (Δ' := [At.box b21 39 [.slice Aa2 a1.Sums.length c3, .slice Aa5 a1.Ns.length c6, .slice Aa8 a1.Spans.length c9], At.rd Aa2 c3 fl_Count.kd a1.Sums true, At.rd Aa5 c6 fl_Count.kd a1.Ns true, At.rd Aa8 c9 fl_Gap.kd a1.Spans true, At.box b22 39 [.slice Aa12 b11.Sums.length c13, .slice Aa15 b11.Ns.length c16, .slice Aa18 b11.Spans.length c19], At.rd Aa12 c13 fl_Count.kd b11.Sums true, At.rd Aa15 c16 fl_Count.kd b11.Ns true, At.rd Aa18 c19 fl_Gap.kd b11.Spans true]) (fun _ h => h.to) ?_
       refine J.seq ?_
       refine J.seq ?_
       refine J.region ?_
       refine JL.mv (.int .i64 i49) ?_
       refine JL.pur (.pointer (some ⟨b21, 0, none⟩)) (some 34) ?_
       refine JL.val (.slice Aa2 a1.Sums.length c3) (some 35) (yields_load_box 0 0 (holds_box b21 39 [.slice Aa2 a1.Sums.length c3, .slice Aa5 a1.Ns.length c6, .slice Aa8 a1.Spans.length c9]) tyAgg_36) ?_
       refine JL.pur (.int .i64 (a1.Sums.length : Int)) (some 36) ?_
       refine JL.pur (.bool (decide (i49 < (a1.Sums.length : Int)))) (some 37) ?_
       refine JL.nil ?_
       refine JQ.then_normal ?_
       refine JQ.sub [(2, .pointer (some ⟨b21, 0, none⟩)), (3, .pointer (some ⟨b22, 0, none⟩)), (5, .int .i64 i49), (37, .bool (decide (i49 < (a1.Sums.length : Int))))] ?_
       rcases ite_cases H1 with ⟨h146, H1⟩ | ⟨h146, H1⟩
       · refine J.cond_true h146 ?_
         refine J.skip ?_
         refine JQ.then_normal ?_
         refine JQ.sub [(2, .pointer (some ⟨b21, 0, none⟩)), (3, .pointer (some ⟨b22, 0, none⟩)), (5, .int .i64 i49)] ?_
         refine J.seq ?_
         refine J.block ?_
         refine J.seq ?_
         refine J.draw ?_
         refine QL.pur (.pointer (some ⟨b21, 0, none⟩)) (some 40) ?_
         refine QL.val (.slice Aa2 a1.Sums.length c3) (some 41) (yields_load_box 0 0 (holds_box b21 39 [.slice Aa2 a1.Sums.length c3, .slice Aa5 a1.Ns.length c6, .slice Aa8 a1.Spans.length c9]) tyAgg_36) ?_
         refine QL.mv (.int .i64 i49) ?_
         obtain ⟨⟨h147, h148⟩, H1⟩ := ite_must H1
         refine QL.ixAddr 1 2 c3 .i64 (elems_rd Aa2 c3 fl_Count.kd a1.Sums true) Try.underlying36 tySize_74 h147 h148 fun g149 o150 hA => ?_
         subst hA
         refine QL.val (mv_74 (ix a1.Sums i49)) (some 44) (gives_loadEl (f := fl_Count) 1 0 i49 (elems_rd (some ⟨g149, o150, none⟩) c3 fl_Count.kd a1.Sums true) h147 h148 tySize_74 (.inl ⟨tyAgg_74, rfl⟩)) ?_
         refine QL.pur (.pointer (some ⟨b22, 0, none⟩)) (some 45) ?_
         refine QL.val (.slice Aa12 b11.Sums.length c13) (some 46) (yields_load_box 4 0 (holds_box b22 39 [.slice Aa12 b11.Sums.length c13, .slice Aa15 b11.Ns.length c16, .slice Aa18 b11.Spans.length c19]) tyAgg_36) ?_
         refine QL.mv (.int .i64 i49) ?_
         obtain ⟨⟨h151, h152⟩, H1⟩ := ite_must H1
         refine QL.ixAddr 5 2 c13 .i64 (elems_rd Aa12 c13 fl_Count.kd b11.Sums true) Try.underlying36 tySize_74 h151 h152 fun g153 o154 hA => ?_
         subst hA
         refine QL.val (mv_74 (ix b11.Sums i49)) (some 49) (gives_loadEl (f := fl_Count) 5 0 i49 (elems_rd (some ⟨g153, o154, none⟩) c13 fl_Count.kd b11.Sums true) h151 h152 tySize_74 (.inl ⟨tyAgg_74, rfl⟩)) ?_
         refine QL.val (.bool (!decide ((ix a1.Sums i49) = (ix b11.Sums i49)))) (some 50) (gives_neq eqg_74 (fun w => eqt_74 (ix a1.Sums i49) (ix b11.Sums i49) w)) ?_
         refine QL.nil ?_
         refine JA.nil ?_
         refine JQ.then_normal ?_
         refine JQ.sub [(2, .pointer (some ⟨b21, 0, none⟩)), (3, .pointer (some ⟨b22, 0, none⟩)), (5, .int .i64 i49), (50, .bool (!decide ((ix a1.Sums i49) = (ix b11.Sums i49))))] ?_
         rcases ite_cases H1 with ⟨h155, H1⟩ | ⟨h155, H1⟩
         · refine J.cond_true h155 ?_
           refine J.seq ?_
           refine J.region ?_
           refine JL.as (.bool false) ?_
           refine JL.nil ?_
           refine JQ.then_normal ?_
           refine JQ.sub [(4, .bool false)] ?_
           refine JQ.mask [] [false, false, false, false, false, false, false, false] ?_
           refine J.ret ?_
           refine JQ.blk_ret ?_
           refine JQ.then_ret ?_
           refine JQ.then_ret ?_
           refine JQ.blk_ret ?_
           refine JQ.met_ret ?_
           refine JQ.then_ret ?_
           rw [hr1 _ (Option.some.inj H1).symm, fin_ret] at H0
           obtain rfl := Option.some.inj H0
           exact JQ.done' (rs := [.tmp 4]) (vs := [.bool false]) [] (.inr rfl) ⟨by kernel_rfl, trivial⟩ (fun _ h => Heap.to h) ⟨rfl, rfl⟩
         · refine J.cond_false h155 ?_
           refine J.skip ?_
           refine JQ.blk_normal ?_
           refine JQ.then_normal ?_
           refine JQ.sub [(2, .pointer (some ⟨b21, 0, none⟩)), (3, .pointer (some ⟨b22, 0, none⟩)), (5, .int .i64 i49)] ?_
           refine J.region ?_
           refine JL.mv (.int .i64 i49) ?_
           refine JL.pur (.int .i64 (w64 (i49 + 1))) (some 39) ?_
           refine JL.as (.int .i64 (w64 (i49 + 1))) ?_
           refine JL.nil ?_
           refine JQ.then_normal ?_
           exact JQ.again (w64 (i49 + 1)) () (Option.some.inj H1).symm (fun _ h => Heap.to h)
       · refine J.cond_false h146 ?_
         refine J.exit ?_
         refine JQ.then_exit ?_
         refine JQ.then_exit ?_
         refine JQ.blk_exit ?_
         rw [hb1 _ (Option.some.inj H1).symm, fin_brk] at H0
         exact JQ.met () () H0 (fun _ h => Heap.to h)
     · clear hit H0
       rintro ⟨⟩ ⟨⟩ H0
       replace H0 : ref18_Same.k3 a1 b11 = some r := H0
       unfold ref18_Same.k3 at H0
       refine JQ.sub [(2, .pointer (some ⟨b21, 0, none⟩)), (3, .pointer (some ⟨b22, 0, none⟩))] ?_
       refine JQ.turn (Δ' := [At.box b21 39 [.slice Aa2 a1.Sums.length c3, .slice Aa5 a1.Ns.length c6, .slice Aa8 a1.Spans.length c9], At.rd Aa2 c3 fl_Count.kd a1.Sums true, At.rd Aa5 c6 fl_Count.kd a1.Ns true, At.rd Aa8 c9 fl_Gap.kd a1.Spans true, At.box b22 39 [.slice Aa12 b11.Sums.length c13, .slice Aa15 b11.Ns.length c16, .slice Aa18 b11.Spans.length c19], At.rd Aa12 c13 fl_Count.kd b11.Sums true, At.rd Aa15 c16 fl_Count.kd b11.Ns true, At.rd Aa18 c19 fl_Gap.kd b11.Spans true]) (fun _ h => h.to) ?_
       refine JQ.then_normal ?_
       refine J.seq ?_
       refine J.seq ?_
       refine J.region ?_
       refine JL.as (.int .i64 0) ?_
       refine JL.nil ?_
       refine JQ.then_normal ?_
       obtain ⟨o1, hit, H0⟩ := bind_some H0
       refine J.loop (σ := Int) (τ := Unit) (G := Unit) (G' := Unit) _ o1 (fun s g => [(2, .pointer (some ⟨b21, 0, none⟩)), (3, .pointer (some ⟨b22, 0, none⟩)), (6, .int .i64 s)]) (fun s g => [At.box b21 39 [.slice Aa2 a1.Sums.length c3, .slice Aa5 a1.Ns.length c6, .slice Aa8 a1.Spans.length c9], At.rd Aa2 c3 fl_Count.kd a1.Sums true, At.rd Aa5 c6 fl_Count.kd a1.Ns true, At.rd Aa8 c9 fl_Gap.kd a1.Spans true, At.box b22 39 [.slice Aa12 b11.Sums.length c13, .slice Aa15 b11.Ns.length c16, .slice Aa18 b11.Spans.length c19], At.rd Aa12 c13 fl_Count.kd b11.Sums true, At.rd Aa15 c16 fl_Count.kd b11.Ns true, At.rd Aa18 c19 fl_Gap.kd b11.Spans true]) (fun t => ref18_Same.k5 a1 b11 = some r) (fun t g => [(2, .pointer (some ⟨b21, 0, none⟩)), (3, .pointer (some ⟨b22, 0, none⟩))]) (fun t g => [At.box b21 39 [.slice Aa2 a1.Sums.length c3, .slice Aa5 a1.Ns.length c6, .slice Aa8 a1.Spans.length c9], At.rd Aa2 c3 fl_Count.kd a1.Sums true, At.rd Aa5 c6 fl_Count.kd a1.Ns true, At.rd Aa8 c9 fl_Gap.kd a1.Spans true, At.box b22 39 [.slice Aa12 b11.Sums.length c13, .slice Aa15 b11.Ns.length c16, .slice Aa18 b11.Spans.length c19], At.rd Aa12 c13 fl_Count.kd b11.Sums true, At.rd Aa15 c16 fl_Count.kd b11.Ns true, At.rd Aa18 c19 fl_Gap.kd b11.Spans true]) 0 () hit (fun _ h => Heap.to h) ?_ ?_
       · clear hit
         rintro i82 ⟨⟩ st1 H1 hb1 hr1
         replace H1 : ref18_Same.s4 a1 b11 i82 = some st1 := H1
         unfold ref18_Same.s4 at H1
         refine JQ.sub [(2, .pointer (some ⟨b21, 0, none⟩)), (3, .pointer (some ⟨b22, 0, none⟩)), (6, .int .i64 i82)] ?_
         refine JQ.turn (Δ' := [At.box b21 39 [.slice Aa2 a1.Sums.length c3, .slice Aa5 a1.Ns.length c6, .slice Aa8 a1.Spans.length c9], At.rd Aa2 c3 fl_Count.kd a1.Sums true, At.rd Aa5 c6 fl_Count.kd a1.Ns true, At.rd Aa8 c9 fl_Gap.kd a1.Spans true, At.box b22 39 [.slice Aa12 b11.Sums.length c13, .slice Aa15 b11.Ns.length c16, .slice Aa18 b11.Spans.length c19], At.rd Aa12 c13 fl_Count.kd b11.Sums true, At.rd Aa15 c16 fl_Count.kd b11.Ns true, At.rd Aa18 c19 fl_Gap.kd b11.Spans true]) (fun _ h => h.to) ?_
         refine J.seq ?_
         refine J.seq ?_
         refine J.region ?_
         refine JL.mv (.int .i64 i82) ?_
         refine JL.pur (.pointer (some ⟨b21, 1, none⟩)) (some 52) ?_
         refine JL.val (.slice Aa5 a1.Ns.length c6) (some 53) (yields_load_box 0 1 (holds_box b21 39 [.slice Aa2 a1.Sums.length c3, .slice Aa5 a1.Ns.length c6, .slice Aa8 a1.Spans.length c9]) tyAgg_36) ?_
         refine JL.pur (.int .i64 (a1.Ns.length : Int)) (some 54) ?_
         refine JL.pur (.bool (decide (i82 < (a1.Ns.length : Int)))) (some 55) ?_
         refine JL.nil ?_
         refine JQ.then_normal ?_
         refine JQ.sub [(2, .pointer (some ⟨b21, 0, none⟩)), (3, .pointer (some ⟨b22, 0, none⟩)), (6, .int .i64 i82), (55, .bool (decide (i82 < (a1.Ns.length : Int))))] ?_
         rcases ite_cases H1 with ⟨h136, H1⟩ | ⟨h136, H1⟩
         · refine J.cond_true h136 ?_
           refine J.skip ?_
           refine JQ.then_normal ?_
           refine JQ.sub [(2, .pointer (some ⟨b21, 0, none⟩)), (3, .pointer (some ⟨b22, 0, none⟩)), (6, .int .i64 i82)] ?_
           refine J.seq ?_
           refine J.block ?_
           refine J.seq ?_
           refine J.draw ?_
           refine QL.pur (.pointer (some ⟨b21, 1, none⟩)) (some 58) ?_
           refine QL.val (.slice Aa5 a1.Ns.length c6) (some 59) (yields_load_box 0 1 (holds_box b21 39 [.slice Aa2 a1.Sums.length c3, .slice Aa5 a1.Ns.length c6, .slice Aa8 a1.Spans.length c9]) tyAgg_36) ?_
           refine QL.mv (.int .i64 i82) ?_
           obtain ⟨⟨h137, h138⟩, H1⟩ := ite_must H1
           refine QL.ixAddr 2 2 c6 .i64 (elems_rd Aa5 c6 fl_Count.kd a1.Ns true) Try.underlying36 tySize_74 h137 h138 fun g139 o140 hA => ?_
           subst hA
           refine QL.val (mv_74 (ix a1.Ns i82)) (some 62) (gives_loadEl (f := fl_Count) 2 0 i82 (elems_rd (some ⟨g139, o140, none⟩) c6 fl_Count.kd a1.Ns true) h137 h138 tySize_74 (.inl ⟨tyAgg_74, rfl⟩)) ?_
           refine QL.pur (.pointer (some ⟨b22, 1, none⟩)) (some 63) ?_
           refine QL.val (.slice Aa15 b11.Ns.length c16) (some 64) (yields_load_box 4 1 (holds_box b22 39 [.slice Aa12 b11.Sums.length c13, .slice Aa15 b11.Ns.length c16, .slice Aa18 b11.Spans.length c19]) tyAgg_36) ?_
           refine QL.mv (.int .i64 i82) ?_
           obtain ⟨⟨h141, h142⟩, H1⟩ := ite_must H1
           refine QL.ixAddr 6 2 c16 .i64 (elems_rd Aa15 c16 fl_Count.kd b11.Ns true) Try.underlying36 tySize_74 h141 h142 fun g143 o144 hA => ?_
           subst hA
           refine QL.val (mv_74 (ix b11.Ns i82)) (some 67) (gives_loadEl (f := fl_Count) 6 0 i82 (elems_rd (some ⟨g143, o144, none⟩) c16 fl_Count.kd b11.Ns true) h141 h142 tySize_74 (.inl ⟨tyAgg_74, rfl⟩)) ?_
           refine QL.val (.bool (!decide ((ix a1.Ns i82) = (ix b11.Ns i82)))) (some 68) (gives_neq eqg_74 (fun w => eqt_74 (ix a1.Ns i82) (ix b11.Ns i82) w)) ?_
           refine QL.nil ?_
           refine JA.nil ?_
           refine JQ.then_normal ?_
           refine JQ.sub [(2, .pointer (some ⟨b21, 0, none⟩)), (3, .pointer (some ⟨b22, 0, none⟩)), (6, .int .i64 i82), (68, .bool (!decide ((ix a1.Ns i82) = (ix b11.Ns i82))))] ?_
           rcases ite_cases H1 with ⟨h145, H1⟩ | ⟨h145, H1⟩
           · refine J.cond_true h145 ?_
             refine J.seq ?_
             refine J.region ?_
             refine JL.as (.bool false) ?_
             refine JL.nil ?_
             refine JQ.then_normal ?_
             refine JQ.sub [(4, .bool false)] ?_
             refine JQ.mask [] [false, false, false, false, false, false, false, false] ?_
             refine J.ret ?_
             refine JQ.blk_ret ?_
             refine JQ.then_ret ?_
             refine JQ.then_ret ?_
             refine JQ.blk_ret ?_
             refine JQ.met_ret ?_
             refine JQ.then_ret ?_
             rw [hr1 _ (Option.some.inj H1).symm, fin_ret] at H0
             obtain rfl := Option.some.inj H0
             exact JQ.done' (rs := [.tmp 4]) (vs := [.bool false]) [] (.inr rfl) ⟨by kernel_rfl, trivial⟩ (fun _ h => Heap.to h) ⟨rfl, rfl⟩
           · refine J.cond_false h145 ?_
             refine J.skip ?_
             refine JQ.blk_normal ?_
             refine JQ.then_normal ?_
             refine JQ.sub [(2, .pointer (some ⟨b21, 0, none⟩)), (3, .pointer (some ⟨b22, 0, none⟩)), (6, .int .i64 i82)] ?_
             refine J.region ?_
             refine JL.mv (.int .i64 i82) ?_
             refine JL.pur (.int .i64 (w64 (i82 + 1))) (some 57) ?_
             refine JL.as (.int .i64 (w64 (i82 + 1))) ?_
             refine JL.nil ?_
             refine JQ.then_normal ?_
             exact JQ.again (w64 (i82 + 1)) () (Option.some.inj H1).symm (fun _ h => Heap.to h)
         · refine J.cond_false h136 ?_
           refine J.exit ?_
           refine JQ.then_exit ?_
           refine JQ.then_exit ?_
           refine JQ.blk_exit ?_
           rw [hb1 _ (Option.some.inj H1).symm, fin_brk] at H0
           exact JQ.met () () H0 (fun _ h => Heap.to h)
       · clear hit H0
         rintro ⟨⟩ ⟨⟩ H0
         replace H0 : ref18_Same.k5 a1 b11 = some r := H0
         unfold ref18_Same.k5 at H0
         refine JQ.sub [(2, .pointer (some ⟨b21, 0, none⟩)), (3, .pointer (some ⟨b22, 0, none⟩))] ?_
         refine JQ.turn (Δ' := [At.box b21 39 [.slice Aa2 a1.Sums.length c3, .slice Aa5 a1.Ns.length c6, .slice Aa8 a1.Spans.length c9], At.rd Aa2 c3 fl_Count.kd a1.Sums true, At.rd Aa5 c6 fl_Count.kd a1.Ns true, At.rd Aa8 c9 fl_Gap.kd a1.Spans true, At.box b22 39 [.slice Aa12 b11.Sums.length c13, .slice Aa15 b11.Ns.length c16, .slice Aa18 b11.Spans.length c19], At.rd Aa12 c13 fl_Count.kd b11.Sums true, At.rd Aa15 c16 fl_Count.kd b11.Ns true, At.rd Aa18 c19 fl_Gap.kd b11.Spans true]) (fun _ h => h.to) ?_
         refine JQ.then_normal ?_
         refine J.seq ?_
         refine J.seq ?_
         refine J.region ?_
         refine JL.as (.int .i64 0) ?_
         refine JL.nil ?_
         refine JQ.then_normal ?_
         obtain ⟨o1, hit, H0⟩ := bind_some H0
         refine J.loop (σ := Int) (τ := Unit) (G := Unit) (G' := Unit) _ o1 (fun s g => [(2, .pointer (some ⟨b21, 0, none⟩)), (3, .pointer (some ⟨b22, 0, none⟩)), (7, .int .i64 s)]) (fun s g => [At.box b21 39 [.slice Aa2 a1.Sums.length c3, .slice Aa5 a1.Ns.length c6, .slice Aa8 a1.Spans.length c9], At.rd Aa2 c3 fl_Count.kd a1.Sums true, At.rd Aa5 c6 fl_Count.kd a1.Ns true, At.rd Aa8 c9 fl_Gap.kd a1.Spans true, At.box b22 39 [.slice Aa12 b11.Sums.length c13, .slice Aa15 b11.Ns.length c16, .slice Aa18 b11.Spans.length c19], At.rd Aa12 c13 fl_Count.kd b11.Sums true, At.rd Aa15 c16 fl_Count.kd b11.Ns true, At.rd Aa18 c19 fl_Gap.kd b11.Spans true]) (fun t => ref18_Same.k7 = some r) (fun t g => []) (fun t g => []) 0 () hit (fun _ h => Heap.to h) ?_ ?_
         · clear hit
           rintro i115 ⟨⟩ st1 H1 hb1 hr1
           replace H1 : ref18_Same.s6 a1 b11 i115 = some st1 := H1
           unfold ref18_Same.s6 at H1
           refine JQ.sub [(2, .pointer (some ⟨b21, 0, none⟩)), (3, .pointer (some ⟨b22, 0, none⟩)), (7, .int .i64 i115)] ?_
           refine JQ.turn (Δ' := [At.box b21 39 [.slice Aa2 a1.Sums.length c3, .slice Aa5 a1.Ns.length c6, .slice Aa8 a1.Spans.length c9], At.rd Aa2 c3 fl_Count.kd a1.Sums true, At.rd Aa5 c6 fl_Count.kd a1.Ns true, At.rd Aa8 c9 fl_Gap.kd a1.Spans true, At.box b22 39 [.slice Aa12 b11.Sums.length c13, .slice Aa15 b11.Ns.length c16, .slice Aa18 b11.Spans.length c19], At.rd Aa12 c13 fl_Count.kd b11.Sums true, At.rd Aa15 c16 fl_Count.kd b11.Ns true, At.rd Aa18 c19 fl_Gap.kd b11.Spans true]) (fun _ h => h.to) ?_
           refine J.seq ?_
           refine J.seq ?_
           refine J.region ?_
           refine JL.mv (.int .i64 i115) ?_
           refine JL.pur (.pointer (some ⟨b21, 2, none⟩)) (some 70) ?_
           refine JL.val (.slice Aa8 a1.Spans.length c9) (some 71) (yields_load_box 0 2 (holds_box b21 39 [.slice Aa2 a1.Sums.length c3, .slice Aa5 a1.Ns.length c6, .slice Aa8 a1.Spans.length c9]) tyAgg_37) ?_
           refine JL.pur (.int .i64 (a1.Spans.length : Int)) (some 72) ?_
           refine JL.pur (.bool (decide (i115 < (a1.Spans.length : Int)))) (some 73) ?_
           refine JL.nil ?_
           refine JQ.then_normal ?_
           refine JQ.sub [(2, .pointer (some ⟨b21, 0, none⟩)), (3, .pointer (some ⟨b22, 0, none⟩)), (7, .int .i64 i115), (73, .bool (decide (i115 < (a1.Spans.length : Int))))] ?_
           rcases ite_cases H1 with ⟨h126, H1⟩ | ⟨h126, H1⟩
           · refine J.cond_true h126 ?_
             refine J.skip ?_
             refine JQ.then_normal ?_
             refine JQ.sub [(2, .pointer (some ⟨b21, 0, none⟩)), (3, .pointer (some ⟨b22, 0, none⟩)), (7, .int .i64 i115)] ?_
             refine J.seq ?_
             refine J.block ?_
             refine J.seq ?_
             refine J.draw ?_
             refine QL.pur (.pointer (some ⟨b21, 2, none⟩)) (some 76) ?_
             refine QL.val (.slice Aa8 a1.Spans.length c9) (some 77) (yields_load_box 0 2 (holds_box b21 39 [.slice Aa2 a1.Sums.length c3, .slice Aa5 a1.Ns.length c6, .slice Aa8 a1.Spans.length c9]) tyAgg_37) ?_
             refine QL.mv (.int .i64 i115) ?_
             obtain ⟨⟨h127, h128⟩, H1⟩ := ite_must H1
             refine QL.ixAddr 3 2 c9 .i64 (elems_rd Aa8 c9 fl_Gap.kd a1.Spans true) Try.underlying37 tySize_79 h127 h128 fun g129 o130 hA => ?_
             subst hA
             refine QL.val (mv_79 (ix a1.Spans i115)) (some 80) (gives_loadEl (f := fl_Gap) 3 0 i115 (elems_rd (some ⟨g129, o130, none⟩) c9 fl_Gap.kd a1.Spans true) h127 h128 tySize_79 (.inl ⟨tyAgg_79, rfl⟩)) ?_
             refine QL.pur (.pointer (some ⟨b22, 2, none⟩)) (some 81) ?_
             refine QL.val (.slice Aa18 b11.Spans.length c19) (some 82) (yields_load_box 4 2 (holds_box b22 39 [.slice Aa12 b11.Sums.length c13, .slice Aa15 b11.Ns.length c16, .slice Aa18 b11.Spans.length c19]) tyAgg_37) ?_
             refine QL.mv (.int .i64 i115) ?_
             obtain ⟨⟨h131, h132⟩, H1⟩ := ite_must H1
             refine QL.ixAddr 7 2 c19 .i64 (elems_rd Aa18 c19 fl_Gap.kd b11.Spans true) Try.underlying37 tySize_79 h131 h132 fun g133 o134 hA => ?_
             subst hA
             refine QL.val (mv_79 (ix b11.Spans i115)) (some 85) (gives_loadEl (f := fl_Gap) 7 0 i115 (elems_rd (some ⟨g133, o134, none⟩) c19 fl_Gap.kd b11.Spans true) h131 h132 tySize_79 (.inl ⟨tyAgg_79, rfl⟩)) ?_
             refine QL.val (.bool (!decide ((ix a1.Spans i115) = (ix b11.Spans i115)))) (some 86) (gives_neq eqg_79 (fun w => eqt_79 (ix a1.Spans i115) (ix b11.Spans i115) w)) ?_
             refine QL.nil ?_
             refine JA.nil ?_
             refine JQ.then_normal ?_
             refine JQ.sub [(2, .pointer (some ⟨b21, 0, none⟩)), (3, .pointer (some ⟨b22, 0, none⟩)), (7, .int .i64 i115), (86, .bool (!decide ((ix a1.Spans i115) = (ix b11.Spans i115))))] ?_
             rcases ite_cases H1 with ⟨h135, H1⟩ | ⟨h135, H1⟩
             · refine J.cond_true h135 ?_
               refine J.seq ?_
               refine J.region ?_
               refine JL.as (.bool false) ?_
               refine JL.nil ?_
               refine JQ.then_normal ?_
               refine JQ.sub [(4, .bool false)] ?_
               refine JQ.mask [] [false, false, false, false, false, false, false, false] ?_
               refine J.ret ?_
               refine JQ.blk_ret ?_
               refine JQ.then_ret ?_
               refine JQ.then_ret ?_
               refine JQ.blk_ret ?_
               refine JQ.met_ret ?_
               refine JQ.then_ret ?_
               rw [hr1 _ (Option.some.inj H1).symm, fin_ret] at H0
               obtain rfl := Option.some.inj H0
               exact JQ.done' (rs := [.tmp 4]) (vs := [.bool false]) [] (.inr rfl) ⟨by kernel_rfl, trivial⟩ (fun _ h => Heap.to h) ⟨rfl, rfl⟩
             · refine J.cond_false h135 ?_
               refine J.skip ?_
               refine JQ.blk_normal ?_
               refine JQ.then_normal ?_
               refine JQ.sub [(2, .pointer (some ⟨b21, 0, none⟩)), (3, .pointer (some ⟨b22, 0, none⟩)), (7, .int .i64 i115)] ?_
               refine J.region ?_
               refine JL.mv (.int .i64 i115) ?_
               refine JL.pur (.int .i64 (w64 (i115 + 1))) (some 75) ?_
               refine JL.as (.int .i64 (w64 (i115 + 1))) ?_
               refine JL.nil ?_
               refine JQ.then_normal ?_
               exact JQ.again (w64 (i115 + 1)) () (Option.some.inj H1).symm (fun _ h => Heap.to h)
           · refine J.cond_false h126 ?_
             refine J.exit ?_
             refine JQ.then_exit ?_
             refine JQ.then_exit ?_
             refine JQ.blk_exit ?_
             rw [hb1 _ (Option.some.inj H1).symm, fin_brk] at H0
             exact JQ.met () () H0 (fun _ h => Heap.to (Heap.pick [] (by decide) h))
         · clear hit H0
           rintro ⟨⟩ ⟨⟩ H0
           replace H0 : ref18_Same.k7 = some r := H0
           unfold ref18_Same.k7 at H0
           refine JQ.sub [] ?_
           refine JQ.turn (Δ' := []) (fun _ h => h.to) ?_
           refine JQ.then_normal ?_
           refine J.seq ?_
           refine J.region ?_
           refine JL.as (.bool true) ?_
           refine JL.nil ?_
           refine JQ.then_normal ?_
           refine J.ret ?_
           obtain rfl := Option.some.inj H0
           exact JQ.done' (rs := [.tmp 4]) (vs := [.bool true]) [] (.inr rfl) ⟨by kernel_rfl, trivial⟩ (fun _ h => Heap.to h) ⟨rfl, rfl⟩

theorem ref19_Same.ok (a1 : Work) (Aa2 : Option Addr) (c3 : Nat) (Aa5 : Option Addr) (c6 : Nat) (Aa8 : Option Addr) (c9 : Nat) (Aa11 : Option Addr) (c12 : Nat) (Aa14 : Option Addr) (c15 : Nat) (b17 : Work) (Aa18 : Option Addr) (c19 : Nat) (Aa21 : Option Addr) (c22 : Nat) (Aa24 : Option Addr) (c25 : Nat) (Aa27 : Option Addr) (c28 : Nat) (Aa30 : Option Addr) (c31 : Nat) (r : Bool) (H0 : ref19_Same.f a1 b17 = some r) :
    Does Try.prog 14 [.agg #[.slice Aa2 a1.Sum.Sums.length c3, .slice Aa5 a1.Sum.Ns.length c6, .slice Aa8 a1.Sum.Spans.length c9, .slice Aa11 a1.Done.length c12, .slice Aa14 a1.At.length c15], .agg #[.slice Aa18 b17.Sum.Sums.length c19, .slice Aa21 b17.Sum.Ns.length c22, .slice Aa24 b17.Sum.Spans.length c25, .slice Aa27 b17.Done.length c28, .slice Aa30 b17.At.length c31]].toArray [At.rd Aa2 c3 fl_Count.kd a1.Sum.Sums true, At.rd Aa5 c6 fl_Count.kd a1.Sum.Ns true, At.rd Aa8 c9 fl_Gap.kd a1.Sum.Spans true, At.rd Aa11 c12 flBool.kd a1.Done true, At.rd Aa14 c15 ((flInt .i64).kd) a1.At true, At.rd Aa18 c19 fl_Count.kd b17.Sum.Sums true, At.rd Aa21 c22 fl_Count.kd b17.Sum.Ns true, At.rd Aa24 c25 fl_Gap.kd b17.Sum.Spans true, At.rd Aa27 c28 flBool.kd b17.Done true, At.rd Aa30 c31 ((flInt .i64).kd) b17.At true] [] false (fun v Δ => v = .bool r ∧ Δ = []) := by
 refine Does.body (vs := [.agg #[.slice Aa2 a1.Sum.Sums.length c3, .slice Aa5 a1.Sum.Ns.length c6, .slice Aa8 a1.Sum.Spans.length c9, .slice Aa11 a1.Done.length c12, .slice Aa14 a1.At.length c15], .agg #[.slice Aa18 b17.Sum.Sums.length c19, .slice Aa21 b17.Sum.Ns.length c22, .slice Aa24 b17.Sum.Spans.length c25, .slice Aa27 b17.Done.length c28, .slice Aa30 b17.At.length c31]]) Try.func14 rfl ⟨.inl rfl, .inl rfl, .inl rfl, .inl rfl, .inl rfl, .inl rfl, .inl rfl, .inl rfl, .inl rfl, .inl rfl, trivial⟩ trivial fun w S => ?_
 unfold ref19_Same.f at H0
 refine J.seq ?_
 refine J.region ?_
 refine JL.box [.slice Aa2 a1.Sum.Sums.length c3, .slice Aa5 a1.Sum.Ns.length c6, .slice Aa8 a1.Sum.Spans.length c9, .slice Aa11 a1.Done.length c12, .slice Aa14 a1.At.length c15] fun b33 => ?_
 refine JL.box [.slice Aa18 b17.Sum.Sums.length c19, .slice Aa21 b17.Sum.Ns.length c22, .slice Aa24 b17.Sum.Spans.length c25, .slice Aa27 b17.Done.length c28, .slice Aa30 b17.At.length c31] fun b34 => ?_
 refine JL.as (.bool false) ?_
 refine JL.nil ?_
 refine JQ.then_normal ?_
 refine JQ.sub [(2, .pointer (some ⟨b33, 0, none⟩)), (3, .pointer (some ⟨b34, 0, none⟩))] ?_
 refine J.seq ?_
 refine J.join (T := Bool) (G := Unit) (fun t => ref19_Same.k1 a1 b17 t = some r) (fun t g => [(2, .pointer (some ⟨b33, 0, none⟩)), (3, .pointer (some ⟨b34, 0, none⟩)), (28, .bool t)]) (fun t g => [At.box b33 42 [.slice Aa2 a1.Sum.Sums.length c3, .slice Aa5 a1.Sum.Ns.length c6, .slice Aa8 a1.Sum.Spans.length c9, .slice Aa11 a1.Done.length c12, .slice Aa14 a1.At.length c15], At.rd Aa2 c3 fl_Count.kd a1.Sum.Sums true, At.rd Aa5 c6 fl_Count.kd a1.Sum.Ns true, At.rd Aa8 c9 fl_Gap.kd a1.Sum.Spans true, At.rd Aa11 c12 flBool.kd a1.Done true, At.rd Aa14 c15 ((flInt .i64).kd) a1.At true, At.box b34 42 [.slice Aa18 b17.Sum.Sums.length c19, .slice Aa21 b17.Sum.Ns.length c22, .slice Aa24 b17.Sum.Spans.length c25, .slice Aa27 b17.Done.length c28, .slice Aa30 b17.At.length c31], At.rd Aa18 c19 fl_Count.kd b17.Sum.Sums true, At.rd Aa21 c22 fl_Count.kd b17.Sum.Ns true, At.rd Aa24 c25 fl_Gap.kd b17.Sum.Spans true, At.rd Aa27 c28 flBool.kd b17.Done true, At.rd Aa30 c31 ((flInt .i64).kd) b17.At true]) ?_ ?_
 · refine J.region ?_
   refine JL.pur (.pointer (some ⟨b33, 3, none⟩)) (some 6) ?_
   refine JL.val (.slice Aa11 a1.Done.length c12) (some 7) (yields_load_box 10 3 (holds_box b33 42 [.slice Aa2 a1.Sum.Sums.length c3, .slice Aa5 a1.Sum.Ns.length c6, .slice Aa8 a1.Sum.Spans.length c9, .slice Aa11 a1.Done.length c12, .slice Aa14 a1.At.length c15]) tyAgg_40) ?_
   refine JL.pur (.int .i64 (a1.Done.length : Int)) (some 8) ?_
   refine JL.pur (.pointer (some ⟨b34, 3, none⟩)) (some 9) ?_
   refine JL.val (.slice Aa27 b17.Done.length c28) (some 10) (yields_load_box 11 3 (holds_box b34 42 [.slice Aa18 b17.Sum.Sums.length c19, .slice Aa21 b17.Sum.Ns.length c22, .slice Aa24 b17.Sum.Spans.length c25, .slice Aa27 b17.Done.length c28, .slice Aa30 b17.At.length c31]) tyAgg_40) ?_
   refine JL.pur (.int .i64 (b17.Done.length : Int)) (some 11) ?_
   refine JL.pur (.bool (!decide ((a1.Done.length : Int) = (b17.Done.length : Int)))) (some 12) ?_
   refine JL.mv (.bool (!decide ((a1.Done.length : Int) = (b17.Done.length : Int)))) ?_
   rcases ite_cases H0 with ⟨h86, H0⟩ | ⟨h86, H0⟩
   · refine JL.off 7 13 false (some 14) h86 ?_
     refine JL.off 7 13 false (some 15) h86 ?_
     refine JL.off 7 13 false (some 16) h86 ?_
     refine JL.off 7 13 false (some 17) h86 ?_
     refine JL.off 7 13 false (some 18) h86 ?_
     refine JL.off 7 13 false (some 19) h86 ?_
     refine JL.val (.bool true) (some 20) (gives_pickT h86) ?_
     refine JL.mv (.bool true) ?_
     refine JL.off 15 21 false (some 22) rfl ?_
     refine JL.off 15 21 false (some 23) rfl ?_
     refine JL.off 15 21 false (some 24) rfl ?_
     refine JL.off 15 21 false (some 25) rfl ?_
     refine JL.off 15 21 false (some 26) rfl ?_
     refine JL.off 15 21 false (some 27) rfl ?_
     refine JL.val (.bool true) (some 28) (gives_pickT rfl) ?_
     refine JL.nil ?_
     refine JQ.then_normal ?_
     exact JQ.meet true () H0 (fun _ h => Heap.to (Heap.pick [10, 0, 1, 2, 3, 4, 11, 5, 6, 7, 8, 9] (by decide) h))
   · refine JL.on 7 13 h86 ?_
     refine JL.pur (.pointer (some ⟨b33, 4, none⟩)) (some 14) ?_
     refine JL.on 7 13 h86 ?_
     refine JL.val (.slice Aa14 a1.At.length c15) (some 15) (yields_load_box 10 4 (holds_box b33 42 [.slice Aa2 a1.Sum.Sums.length c3, .slice Aa5 a1.Sum.Ns.length c6, .slice Aa8 a1.Sum.Spans.length c9, .slice Aa11 a1.Done.length c12, .slice Aa14 a1.At.length c15]) tyAgg_22) ?_
     refine JL.on 7 13 h86 ?_
     refine JL.pur (.pointer (some ⟨b34, 4, none⟩)) (some 16) ?_
     refine JL.on 7 13 h86 ?_
     refine JL.val (.slice Aa30 b17.At.length c31) (some 17) (yields_load_box 11 4 (holds_box b34 42 [.slice Aa18 b17.Sum.Sums.length c19, .slice Aa21 b17.Sum.Ns.length c22, .slice Aa24 b17.Sum.Spans.length c25, .slice Aa27 b17.Done.length c28, .slice Aa30 b17.At.length c31]) tyAgg_22) ?_
     refine JL.on 7 13 h86 ?_
     obtain ⟨t87, hc88, H0⟩ := bind_some H0
     refine JL.call [] [] [] (ref13_Same.ok a1.At Aa14 c15 b17.At Aa30 c31 _ hc88) ⟨pre_any 4 (view_rd Aa14 c15 ((flInt .i64).kd) a1.At true true), ⟨pre_any 9 (view_rd Aa30 c31 ((flInt .i64).kd) b17.At true true), trivial⟩⟩ ?_
     rintro _ _ ⟨rfl, rfl⟩
     refine JL.on 7 13 h86 ?_
     refine JL.pur (.bool (!t87)) (some 19) ?_
     refine JL.val (.bool (!t87)) (some 20) (gives_pickF h86) ?_
     refine JL.mv (.bool (!t87)) ?_
     rcases ite_cases H0 with ⟨h89, H0⟩ | ⟨h89, H0⟩
     · refine JL.off 15 21 false (some 22) h89 ?_
       refine JL.off 15 21 false (some 23) h89 ?_
       refine JL.off 15 21 false (some 24) h89 ?_
       refine JL.off 15 21 false (some 25) h89 ?_
       refine JL.off 15 21 false (some 26) h89 ?_
       refine JL.off 15 21 false (some 27) h89 ?_
       refine JL.val (.bool true) (some 28) (gives_pickT h89) ?_
       refine JL.nil ?_
       refine JQ.then_normal ?_
       exact JQ.meet true () H0 (fun _ h => Heap.to (Heap.pick [10, 0, 1, 2, 3, 4, 11, 5, 6, 7, 8, 9] (by decide) h))
     · refine JL.on 15 21 h89 ?_
       refine JL.pur (.pointer (some ⟨b33, 0, none⟩)) (some 22) ?_
       refine JL.on 15 21 h89 ?_
       refine JL.val (.agg #[.slice Aa2 a1.Sum.Sums.length c3, .slice Aa5 a1.Sum.Ns.length c6, .slice Aa8 a1.Sum.Spans.length c9]) (some 23) (yields_load_boxes 10 0 [.slice Aa2 a1.Sum.Sums.length c3, .slice Aa5 a1.Sum.Ns.length c6, .slice Aa8 a1.Sum.Spans.length c9] (holds_box b33 42 [.slice Aa2 a1.Sum.Sums.length c3, .slice Aa5 a1.Sum.Ns.length c6, .slice Aa8 a1.Sum.Spans.length c9, .slice Aa11 a1.Done.length c12, .slice Aa14 a1.At.length c15]) tyAgg_39 tySize_39) ?_
       refine JL.on 15 21 h89 ?_
       refine JL.pur (.pointer (some ⟨b34, 0, none⟩)) (some 24) ?_
       refine JL.on 15 21 h89 ?_
       refine JL.val (.agg #[.slice Aa18 b17.Sum.Sums.length c19, .slice Aa21 b17.Sum.Ns.length c22, .slice Aa24 b17.Sum.Spans.length c25]) (some 25) (yields_load_boxes 11 0 [.slice Aa18 b17.Sum.Sums.length c19, .slice Aa21 b17.Sum.Ns.length c22, .slice Aa24 b17.Sum.Spans.length c25] (holds_box b34 42 [.slice Aa18 b17.Sum.Sums.length c19, .slice Aa21 b17.Sum.Ns.length c22, .slice Aa24 b17.Sum.Spans.length c25, .slice Aa27 b17.Done.length c28, .slice Aa30 b17.At.length c31]) tyAgg_39 tySize_39) ?_
       refine JL.on 15 21 h89 ?_
       obtain ⟨t90, hc91, H0⟩ := bind_some H0
       refine JL.call [] [] [] (ref18_Same.ok a1.Sum Aa2 c3 Aa5 c6 Aa8 c9 b17.Sum Aa18 c19 Aa21 c22 Aa24 c25 _ hc91) ⟨pre_any 0 (view_rd Aa2 c3 fl_Count.kd a1.Sum.Sums true true), ⟨pre_any 1 (view_rd Aa5 c6 fl_Count.kd a1.Sum.Ns true true), ⟨pre_any 2 (view_rd Aa8 c9 fl_Gap.kd a1.Sum.Spans true true), ⟨pre_any 5 (view_rd Aa18 c19 fl_Count.kd b17.Sum.Sums true true), ⟨pre_any 6 (view_rd Aa21 c22 fl_Count.kd b17.Sum.Ns true true), ⟨pre_any 7 (view_rd Aa24 c25 fl_Gap.kd b17.Sum.Spans true true), trivial⟩⟩⟩⟩⟩⟩ ?_
       rintro _ _ ⟨rfl, rfl⟩
       refine JL.on 15 21 h89 ?_
       refine JL.pur (.bool (!t90)) (some 27) ?_
       refine JL.val (.bool (!t90)) (some 28) (gives_pickF h89) ?_
       refine JL.nil ?_
       refine JQ.then_normal ?_
       exact JQ.meet (!t90) () H0 (fun _ h => Heap.to (Heap.pick [10, 0, 1, 2, 3, 4, 11, 5, 6, 7, 8, 9] (by decide) h))
 · clear H0
   rintro x41 ⟨⟩ H0
   replace H0 : ref19_Same.k1 a1 b17 x41 = some r := H0
   unfold ref19_Same.k1 at H0
   refine JQ.sub [(2, .pointer (some ⟨b33, 0, none⟩)), (3, .pointer (some ⟨b34, 0, none⟩)), (28, .bool x41)] ?_
   refine JQ.turn (Δ' := [At.box b33 42 [.slice Aa2 a1.Sum.Sums.length c3, .slice Aa5 a1.Sum.Ns.length c6, .slice Aa8 a1.Sum.Spans.length c9, .slice Aa11 a1.Done.length c12, .slice Aa14 a1.At.length c15], At.rd Aa2 c3 fl_Count.kd a1.Sum.Sums true, At.rd Aa5 c6 fl_Count.kd a1.Sum.Ns true, At.rd Aa8 c9 fl_Gap.kd a1.Sum.Spans true, At.rd Aa11 c12 flBool.kd a1.Done true, At.rd Aa14 c15 ((flInt .i64).kd) a1.At true, At.box b34 42 [.slice Aa18 b17.Sum.Sums.length c19, .slice Aa21 b17.Sum.Ns.length c22, .slice Aa24 b17.Sum.Spans.length c25, .slice Aa27 b17.Done.length c28, .slice Aa30 b17.At.length c31], At.rd Aa18 c19 fl_Count.kd b17.Sum.Sums true, At.rd Aa21 c22 fl_Count.kd b17.Sum.Ns true, At.rd Aa24 c25 fl_Gap.kd b17.Sum.Spans true, At.rd Aa27 c28 flBool.kd b17.Done true, At.rd Aa30 c31 ((flInt .i64).kd) b17.At true]) (fun _ h => h.to) ?_
   rcases ite_cases H0 with ⟨h42, H0⟩ | ⟨h42, H0⟩
   · refine J.cond_true h42 ?_
     refine J.seq ?_
     refine J.region ?_
     refine JL.as (.bool false) ?_
     refine JL.nil ?_
     refine JQ.then_normal ?_
     refine JQ.sub [(4, .bool false)] ?_
     refine JQ.mask [] [false, false, false, false, false, false, false, false, false, false, false, false] ?_
     refine J.ret ?_
     refine JQ.then_ret ?_
     obtain rfl := Option.some.inj H0
     exact JQ.done' (rs := [.tmp 4]) (vs := [.bool false]) [] (.inr rfl) ⟨by kernel_rfl, trivial⟩ (fun _ h => Heap.to h) ⟨rfl, rfl⟩
   · refine J.cond_false h42 ?_
     refine J.skip ?_
     refine JQ.then_normal ?_
     refine JQ.sub [(2, .pointer (some ⟨b33, 0, none⟩)), (3, .pointer (some ⟨b34, 0, none⟩))] ?_
     refine J.seq ?_
     refine J.seq ?_
     refine J.region ?_
     refine JL.as (.int .i64 0) ?_
     refine JL.nil ?_
     refine JQ.then_normal ?_
     obtain ⟨o1, hit, H0⟩ := bind_some H0
     refine J.loop (σ := Int) (τ := Unit) (G := Unit) (G' := Unit) _ o1 (fun s g => [(2, .pointer (some ⟨b33, 0, none⟩)), (3, .pointer (some ⟨b34, 0, none⟩)), (5, .int .i64 s)]) (fun s g => [At.box b33 42 [.slice Aa2 a1.Sum.Sums.length c3, .slice Aa5 a1.Sum.Ns.length c6, .slice Aa8 a1.Sum.Spans.length c9, .slice Aa11 a1.Done.length c12, .slice Aa14 a1.At.length c15], At.rd Aa2 c3 fl_Count.kd a1.Sum.Sums true, At.rd Aa5 c6 fl_Count.kd a1.Sum.Ns true, At.rd Aa8 c9 fl_Gap.kd a1.Sum.Spans true, At.rd Aa11 c12 flBool.kd a1.Done true, At.rd Aa14 c15 ((flInt .i64).kd) a1.At true, At.box b34 42 [.slice Aa18 b17.Sum.Sums.length c19, .slice Aa21 b17.Sum.Ns.length c22, .slice Aa24 b17.Sum.Spans.length c25, .slice Aa27 b17.Done.length c28, .slice Aa30 b17.At.length c31], At.rd Aa18 c19 fl_Count.kd b17.Sum.Sums true, At.rd Aa21 c22 fl_Count.kd b17.Sum.Ns true, At.rd Aa24 c25 fl_Gap.kd b17.Sum.Spans true, At.rd Aa27 c28 flBool.kd b17.Done true, At.rd Aa30 c31 ((flInt .i64).kd) b17.At true]) (fun t => ref19_Same.k3 = some r) (fun t g => []) (fun t g => []) 0 () hit (fun _ h => Heap.to h) ?_ ?_
     · clear hit
       rintro i65 ⟨⟩ st1 H1 hb1 hr1
       replace H1 : ref19_Same.s2 a1 b17 i65 = some st1 := H1
       unfold ref19_Same.s2 at H1
       refine JQ.sub [(2, .pointer (some ⟨b33, 0, none⟩)), (3, .pointer (some ⟨b34, 0, none⟩)), (5, .int .i64 i65)] ?_
       refine JQ.turn (Δ' := [At.box b33 42 [.slice Aa2 a1.Sum.Sums.length c3, .slice Aa5 a1.Sum.Ns.length c6, .slice Aa8 a1.Sum.Spans.length c9, .slice Aa11 a1.Done.length c12, .slice Aa14 a1.At.length c15], At.rd Aa2 c3 fl_Count.kd a1.Sum.Sums true, At.rd Aa5 c6 fl_Count.kd a1.Sum.Ns true, At.rd Aa8 c9 fl_Gap.kd a1.Sum.Spans true, At.rd Aa11 c12 flBool.kd a1.Done true, At.rd Aa14 c15 ((flInt .i64).kd) a1.At true, At.box b34 42 [.slice Aa18 b17.Sum.Sums.length c19, .slice Aa21 b17.Sum.Ns.length c22, .slice Aa24 b17.Sum.Spans.length c25, .slice Aa27 b17.Done.length c28, .slice Aa30 b17.At.length c31], At.rd Aa18 c19 fl_Count.kd b17.Sum.Sums true, At.rd Aa21 c22 fl_Count.kd b17.Sum.Ns true, At.rd Aa24 c25 fl_Gap.kd b17.Sum.Spans true, At.rd Aa27 c28 flBool.kd b17.Done true, At.rd Aa30 c31 ((flInt .i64).kd) b17.At true]) (fun _ h => h.to) ?_
       refine J.seq ?_
       refine J.seq ?_
       refine J.region ?_
       refine JL.mv (.int .i64 i65) ?_
       refine JL.pur (.pointer (some ⟨b33, 3, none⟩)) (some 30) ?_
       refine JL.val (.slice Aa11 a1.Done.length c12) (some 31) (yields_load_box 0 3 (holds_box b33 42 [.slice Aa2 a1.Sum.Sums.length c3, .slice Aa5 a1.Sum.Ns.length c6, .slice Aa8 a1.Sum.Spans.length c9, .slice Aa11 a1.Done.length c12, .slice Aa14 a1.At.length c15]) tyAgg_40) ?_
       refine JL.pur (.int .i64 (a1.Done.length : Int)) (some 32) ?_
       refine JL.pur (.bool (decide (i65 < (a1.Done.length : Int)))) (some 33) ?_
       refine JL.nil ?_
       refine JQ.then_normal ?_
       refine JQ.sub [(2, .pointer (some ⟨b33, 0, none⟩)), (3, .pointer (some ⟨b34, 0, none⟩)), (5, .int .i64 i65), (33, .bool (decide (i65 < (a1.Done.length : Int))))] ?_
       rcases ite_cases H1 with ⟨h76, H1⟩ | ⟨h76, H1⟩
       · refine J.cond_true h76 ?_
         refine J.skip ?_
         refine JQ.then_normal ?_
         refine JQ.sub [(2, .pointer (some ⟨b33, 0, none⟩)), (3, .pointer (some ⟨b34, 0, none⟩)), (5, .int .i64 i65)] ?_
         refine J.seq ?_
         refine J.block ?_
         refine J.seq ?_
         refine J.draw ?_
         refine QL.pur (.pointer (some ⟨b33, 3, none⟩)) (some 36) ?_
         refine QL.val (.slice Aa11 a1.Done.length c12) (some 37) (yields_load_box 0 3 (holds_box b33 42 [.slice Aa2 a1.Sum.Sums.length c3, .slice Aa5 a1.Sum.Ns.length c6, .slice Aa8 a1.Sum.Spans.length c9, .slice Aa11 a1.Done.length c12, .slice Aa14 a1.At.length c15]) tyAgg_40) ?_
         refine QL.mv (.int .i64 i65) ?_
         obtain ⟨⟨h77, h78⟩, H1⟩ := ite_must H1
         refine QL.ixAddr 4 1 c12 .i64 (elems_rd Aa11 c12 flBool.kd a1.Done true) Try.underlying40 tySize_4 h77 h78 fun g79 o80 hA => ?_
         subst hA
         refine QL.val (.bool (ix a1.Done i65)) (some 40) (gives_loadEl (f := flBool) 4 0 i65 (elems_rd (some ⟨g79, o80, none⟩) c12 flBool.kd a1.Done true) h77 h78 tySize_4 (.inr ⟨tyAgg_4, rfl, rfl⟩)) ?_
         refine QL.pur (.pointer (some ⟨b34, 3, none⟩)) (some 41) ?_
         refine QL.val (.slice Aa27 b17.Done.length c28) (some 42) (yields_load_box 6 3 (holds_box b34 42 [.slice Aa18 b17.Sum.Sums.length c19, .slice Aa21 b17.Sum.Ns.length c22, .slice Aa24 b17.Sum.Spans.length c25, .slice Aa27 b17.Done.length c28, .slice Aa30 b17.At.length c31]) tyAgg_40) ?_
         refine QL.mv (.int .i64 i65) ?_
         obtain ⟨⟨h81, h82⟩, H1⟩ := ite_must H1
         refine QL.ixAddr 10 1 c28 .i64 (elems_rd Aa27 c28 flBool.kd b17.Done true) Try.underlying40 tySize_4 h81 h82 fun g83 o84 hA => ?_
         subst hA
         refine QL.val (.bool (ix b17.Done i65)) (some 45) (gives_loadEl (f := flBool) 10 0 i65 (elems_rd (some ⟨g83, o84, none⟩) c28 flBool.kd b17.Done true) h81 h82 tySize_4 (.inr ⟨tyAgg_4, rfl, rfl⟩)) ?_
         refine QL.pur (.bool (!((ix a1.Done i65) == (ix b17.Done i65)))) (some 46) ?_
         refine QL.nil ?_
         refine JA.nil ?_
         refine JQ.then_normal ?_
         refine JQ.sub [(2, .pointer (some ⟨b33, 0, none⟩)), (3, .pointer (some ⟨b34, 0, none⟩)), (5, .int .i64 i65), (46, .bool (!((ix a1.Done i65) == (ix b17.Done i65))))] ?_
         rcases ite_cases H1 with ⟨h85, H1⟩ | ⟨h85, H1⟩
         · refine J.cond_true h85 ?_
           refine J.seq ?_
           refine J.region ?_
           refine JL.as (.bool false) ?_
           refine JL.nil ?_
           refine JQ.then_normal ?_
           refine JQ.sub [(4, .bool false)] ?_
           refine JQ.mask [] [false, false, false, false, false, false, false, false, false, false, false, false] ?_
           refine J.ret ?_
           refine JQ.blk_ret ?_
           refine JQ.then_ret ?_
           refine JQ.then_ret ?_
           refine JQ.blk_ret ?_
           refine JQ.met_ret ?_
           refine JQ.then_ret ?_
           rw [hr1 _ (Option.some.inj H1).symm, fin_ret] at H0
           obtain rfl := Option.some.inj H0
           exact JQ.done' (rs := [.tmp 4]) (vs := [.bool false]) [] (.inr rfl) ⟨by kernel_rfl, trivial⟩ (fun _ h => Heap.to h) ⟨rfl, rfl⟩
         · refine J.cond_false h85 ?_
           refine J.skip ?_
           refine JQ.blk_normal ?_
           refine JQ.then_normal ?_
           refine JQ.sub [(2, .pointer (some ⟨b33, 0, none⟩)), (3, .pointer (some ⟨b34, 0, none⟩)), (5, .int .i64 i65)] ?_
           refine J.region ?_
           refine JL.mv (.int .i64 i65) ?_
           refine JL.pur (.int .i64 (w64 (i65 + 1))) (some 35) ?_
           refine JL.as (.int .i64 (w64 (i65 + 1))) ?_
           refine JL.nil ?_
           refine JQ.then_normal ?_
           exact JQ.again (w64 (i65 + 1)) () (Option.some.inj H1).symm (fun _ h => Heap.to h)
       · refine J.cond_false h76 ?_
         refine J.exit ?_
         refine JQ.then_exit ?_
         refine JQ.then_exit ?_
         refine JQ.blk_exit ?_
         rw [hb1 _ (Option.some.inj H1).symm, fin_brk] at H0
         exact JQ.met () () H0 (fun _ h => Heap.to (Heap.pick [] (by decide) h))
     · clear hit H0
       rintro ⟨⟩ ⟨⟩ H0
       replace H0 : ref19_Same.k3 = some r := H0
       unfold ref19_Same.k3 at H0
       refine JQ.sub [] ?_
       refine JQ.turn (Δ' := []) (fun _ h => h.to) ?_
       refine JQ.then_normal ?_
       refine J.seq ?_
       refine J.region ?_
       refine JL.as (.bool true) ?_
       refine JL.nil ?_
       refine JQ.then_normal ?_
       refine J.ret ?_
       obtain rfl := Option.some.inj H0
       exact JQ.done' (rs := [.tmp 4]) (vs := [.bool true]) [] (.inr rfl) ⟨by kernel_rfl, trivial⟩ (fun _ h => Heap.to h) ⟨rfl, rfl⟩

theorem law19_WorkerParts.ok (j1 : Job) (Aa2 : Option Addr) (c3 : Nat) (Aa5 : Option Addr) (c6 : Nat) (block8 : Int) (n9 : Int) (r : Bool) (H0 : law19_WorkerParts.f j1 block8 n9 = some r) :
    Does Try.prog 3 [.agg #[.slice Aa2 j1.X_.length c3, .slice Aa5 j1.Y.length c6, .int .i64 j1.Most, .int .i64 j1.Size], .int .i64 block8, .int .i64 n9].toArray [At.rd Aa2 c3 ((flInt .i64).kd) j1.X_ true, At.rd Aa5 c6 ((flInt .i64).kd) j1.Y true] [] false (fun v Δ => v = .bool r ∧ Δ = []) := by
 refine Does.body (vs := [.agg #[.slice Aa2 j1.X_.length c3, .slice Aa5 j1.Y.length c6, .int .i64 j1.Most, .int .i64 j1.Size], .int .i64 block8, .int .i64 n9]) Try.func3 rfl ⟨.inl rfl, .inl rfl, trivial⟩ trivial fun w S => ?_
 unfold law19_WorkerParts.f at H0
 refine J.seq ?_
 refine J.region ?_
 refine JL.box [.slice Aa2 j1.X_.length c3, .slice Aa5 j1.Y.length c6, .int .i64 j1.Most, .int .i64 j1.Size] fun b10 => ?_
 refine JL.as (.bool false) ?_
 refine JL.nil ?_
 refine JQ.then_normal ?_
 refine JQ.sub [(1, .int .i64 block8), (2, .int .i64 n9), (3, .pointer (some ⟨b10, 0, none⟩))] ?_
 refine J.seq ?_
 refine J.seq ?_
 refine J.region ?_
 refine JL.val (.agg #[.slice Aa2 j1.X_.length c3, .slice Aa5 j1.Y.length c6, .int .i64 j1.Most, .int .i64 j1.Size]) (some 20) (yields_load_boxes 2 0 [.slice Aa2 j1.X_.length c3, .slice Aa5 j1.Y.length c6, .int .i64 j1.Most, .int .i64 j1.Size] (holds_box b10 24 [.slice Aa2 j1.X_.length c3, .slice Aa5 j1.Y.length c6, .int .i64 j1.Most, .int .i64 j1.Size]) tyAgg_24 tySize_24) ?_
 obtain ⟨t11, hc12, H0⟩ := bind_some H0
 refine JL.call [] [] [] (ref19_Great.ok j1 Aa2 c3 Aa5 c6 _ hc12) ⟨pre_any 0 (view_rd Aa2 c3 ((flInt .i64).kd) j1.X_ true true), ⟨pre_any 1 (view_rd Aa5 c6 ((flInt .i64).kd) j1.Y true true), trivial⟩⟩ ?_
 rintro _ _ ⟨rfl, rfl⟩
 refine JL.nil ?_
 refine JQ.then_normal ?_
 refine JQ.sub [(1, .int .i64 block8), (2, .int .i64 n9), (3, .pointer (some ⟨b10, 0, none⟩)), (21, .bool t11)] ?_
 rcases ite_cases H0 with ⟨h13, H0⟩ | ⟨h13, H0⟩
 · refine J.cond_true h13 ?_
   refine J.seq ?_
   refine J.region ?_
   refine JL.as (.bool true) ?_
   refine JL.nil ?_
   refine JQ.then_normal ?_
   refine JQ.sub [(6, .bool true)] ?_
   refine JQ.mask [] [false, false, false] ?_
   refine J.ret ?_
   refine JQ.then_ret ?_
   obtain rfl := Option.some.inj H0
   exact JQ.done' (rs := [.tmp 6]) (vs := [.bool true]) [] (.inr rfl) ⟨by kernel_rfl, trivial⟩ (fun _ h => Heap.to h) ⟨rfl, rfl⟩
 · refine J.cond_false h13 ?_
   refine J.skip ?_
   refine JQ.then_normal ?_
   refine JQ.sub [(1, .int .i64 block8), (2, .int .i64 n9), (3, .pointer (some ⟨b10, 0, none⟩))] ?_
   refine J.join (T := Unit) (G := (Nat × (Option Addr) × Nat × (Option Addr) × Nat)) (fun t => law19_WorkerParts.k1 j1 block8 n9 = some r) (fun t g => [(1, .int .i64 block8), (2, .int .i64 n9), (3, .pointer (some ⟨b10, 0, none⟩)), (7, .pointer (some ⟨g.1, 0, none⟩))]) (fun t g => [At.box b10 24 [.slice Aa2 j1.X_.length c3, .slice Aa5 j1.Y.length c6, .int .i64 j1.Most, .int .i64 j1.Size], At.rd Aa2 c3 ((flInt .i64).kd) j1.X_ true, At.rd Aa5 c6 ((flInt .i64).kd) j1.Y true, At.box g.1 24 [.slice g.2.1 (([] : List Int) ++ j1.X_).length g.2.2.1, .slice g.2.2.2.1 (([] : List Int) ++ j1.Y).length g.2.2.2.2, .int .i64 j1.Most, .int .i64 j1.Size], At.row g.2.1 g.2.2.1 3 ((flInt .i64).kd) (([] : List Int) ++ j1.X_) false, At.row g.2.2.2.1 g.2.2.2.2 3 ((flInt .i64).kd) (([] : List Int) ++ j1.Y) false]) ?_ ?_
   · obtain ⟨h208, H0⟩ := ite_must H0
     obtain ⟨h212, H0⟩ := ite_must H0
     refine JY.startM [true, true, true] [] (ba 15 0) ?_
     refine JY.pur (hi := rfl) 1 (ba 15 2) (.pointer (some ⟨b10, 0, none⟩)) (some 23) want ?_
     refine JY.take (hi := rfl) 2 (ba 15 6) (.slice Aa2 j1.X_.length c3) (some 24) [true, true, true] want (yields_load_box 2 0 (holds_box b10 24 [.slice Aa2 j1.X_.length c3, .slice Aa5 j1.Y.length c6, .int .i64 j1.Most, .int .i64 j1.Size]) tyAgg_22) ?_
     refine JY.pur (hi := rfl) 5 (ba 15 38) (.pointer (some ⟨b10, 1, none⟩)) (some 27) want ?_
     refine JY.take (hi := rfl) 6 (ba 15 102) (.slice Aa5 j1.Y.length c6) (some 28) [true, true, true] want (yields_load_box 2 1 (holds_box b10 24 [.slice Aa2 j1.X_.length c3, .slice Aa5 j1.Y.length c6, .int .i64 j1.Most, .int .i64 j1.Size]) tyAgg_22) ?_
     refine JY.pur (hi := rfl) 8 (ba 15 358) (.pointer (some ⟨b10, 2, none⟩)) (some 30) want ?_
     refine JY.take (hi := rfl) 9 (ba 15 870) (.int .i64 j1.Most) (some 31) [true, true, true] want (yields_load_box 2 2 (holds_box b10 24 [.slice Aa2 j1.X_.length c3, .slice Aa5 j1.Y.length c6, .int .i64 j1.Most, .int .i64 j1.Size]) tyAgg_3) ?_
     refine JY.pur (hi := rfl) 10 (ba 15 1894) (.pointer (some ⟨b10, 3, none⟩)) (some 32) want ?_
     refine JY.take (hi := rfl) 11 (ba 15 3942) (.int .i64 j1.Size) (some 33) [true, true, true] want (yields_load_box 2 3 (holds_box b10 24 [.slice Aa2 j1.X_.length c3, .slice Aa5 j1.Y.length c6, .int .i64 j1.Most, .int .i64 j1.Size]) tyAgg_3) ?_
     refine JY.all [0, 4, 13] ⟨⟨_, rfl, ?_⟩, ⟨_, rfl, ?_⟩, ⟨_, rfl, ?_⟩, trivial⟩
     · refine JL.buildSl 3 ((flInt .i64).kd) (([] : List Int) : List Int) [] false (closes_fl rfl) fun b214 => ?_
       refine JL.nil ?_
       refine JY.ran (ba 15 3943) [true, true, true, false] ?_
       refine JY.all [3, 4, 13] ⟨⟨_, rfl, ?_⟩, ⟨_, rfl, ?_⟩, ⟨_, rfl, ?_⟩, trivial⟩
       · obtain h217 : ([] : List Int).length + j1.X_.length ≤ 17592186044416 := h208
         refine JL.append false false 3 0 (some ⟨b214, 0, none⟩) 0 c3 ([] : List Int) (elems_rd Aa2 c3 ((flInt .i64).kd) j1.X_ true) Try.underlying22 info_3 (by omega) (by omega) (fun h => h) (.inr ⟨_, rfl⟩) fun Aa215 c216 => ?_
         refine JL.nil ?_
         refine JY.ran (ba 15 3951) [true, true, true, false] ?_
         refine JY.all [4, 13] ⟨⟨_, rfl, ?_⟩, ⟨_, rfl, ?_⟩, trivial⟩
         · refine JL.buildSl 3 ((flInt .i64).kd) (([] : List Int) : List Int) [] false (closes_fl rfl) fun b218 => ?_
           refine JL.nil ?_
           refine JY.ran (ba 15 3967) [true, true, true, false, false] ?_
           refine JY.all [7, 13] ⟨⟨_, rfl, ?_⟩, ⟨_, rfl, ?_⟩, trivial⟩
           · obtain h221 : ([] : List Int).length + j1.Y.length ≤ 17592186044416 := h212
             refine JL.append false false 4 1 (some ⟨b218, 0, none⟩) 0 c6 ([] : List Int) (elems_rd Aa5 c6 ((flInt .i64).kd) j1.Y true) Try.underlying22 info_3 (by omega) (by omega) (fun h => h) (.inr ⟨_, rfl⟩) fun Aa219 c220 => ?_
             refine JL.nil ?_
             refine JY.ran (ba 15 4095) [true, true, true, false, false] ?_
             refine JY.pur (hi := rfl) 12 (ba 15 8191) (.agg #[.slice Aa215 (([] : List Int) ++ j1.X_).length c216, .slice Aa219 (([] : List Int) ++ j1.Y).length c220, .int .i64 j1.Most, .int .i64 j1.Size]) (some 34) want ?_
             refine JY.all [13] ⟨⟨_, rfl, ?_⟩, trivial⟩
             refine JL.alloc [.slice none 0 0, .slice none 0 0, .int .i64 0, .int .i64 0] fun b222 => ?_
             refine JL.nil ?_
             refine JY.ran (ba 15 16383) [true, true, true, false, false, false] ?_
             refine JY.all [14] ⟨⟨_, rfl, ?_⟩, trivial⟩
             refine JL.store 5 b222 0 24 [.slice none 0 0, .slice none 0 0, .int .i64 0, .int .i64 0] [.slice Aa215 (([] : List Int) ++ j1.X_).length c216, .slice Aa219 (([] : List Int) ++ j1.Y).length c220, .int .i64 j1.Most, .int .i64 j1.Size] tySize_24 ?_
             refine JL.nil ?_
             refine JY.ran (ba 15 32767) [true, true, true, false, false, false] ?_
             refine JY.done ?_
             refine JQ.then_normal ?_
             exact JQ.meet () (b222, Aa215, c216, Aa219, c220) H0 (fun _ h => Heap.to (Heap.pick [2, 0, 1, 5, 3, 4] (by decide) h))
           · refine JL.alloc [.slice none 0 0, .slice none 0 0, .int .i64 0, .int .i64 0] fun b223 => ?_
             refine JL.nil ?_
             refine JY.ran (ba 15 12159) [true, true, true, false, false, false] ?_
             refine JY.all [7] ⟨⟨_, rfl, ?_⟩, trivial⟩
             obtain h226 : ([] : List Int).length + j1.Y.length ≤ 17592186044416 := h212
             refine JL.append false false 4 1 (some ⟨b218, 0, none⟩) 0 c6 ([] : List Int) (elems_rd Aa5 c6 ((flInt .i64).kd) j1.Y true) Try.underlying22 info_3 (by omega) (by omega) (fun h => h) (.inr ⟨_, rfl⟩) fun Aa224 c225 => ?_
             refine JL.nil ?_
             refine JY.ran (ba 15 12287) [true, true, true, false, false, false] ?_
             refine JY.pur (hi := rfl) 12 (ba 15 16383) (.agg #[.slice Aa215 (([] : List Int) ++ j1.X_).length c216, .slice Aa224 (([] : List Int) ++ j1.Y).length c225, .int .i64 j1.Most, .int .i64 j1.Size]) (some 34) want ?_
             refine JY.all [14] ⟨⟨_, rfl, ?_⟩, trivial⟩
             refine JL.store 5 b223 0 24 [.slice none 0 0, .slice none 0 0, .int .i64 0, .int .i64 0] [.slice Aa215 (([] : List Int) ++ j1.X_).length c216, .slice Aa224 (([] : List Int) ++ j1.Y).length c225, .int .i64 j1.Most, .int .i64 j1.Size] tySize_24 ?_
             refine JL.nil ?_
             refine JY.ran (ba 15 32767) [true, true, true, false, false, false] ?_
             refine JY.done ?_
             refine JQ.then_normal ?_
             exact JQ.meet () (b223, Aa215, c216, Aa224, c225) H0 (fun _ h => Heap.to (Heap.pick [2, 0, 1, 5, 3, 4] (by decide) h))
         · refine JL.alloc [.slice none 0 0, .slice none 0 0, .int .i64 0, .int .i64 0] fun b227 => ?_
           refine JL.nil ?_
           refine JY.ran (ba 15 12143) [true, true, true, false, false] ?_
           refine JY.all [4] ⟨⟨_, rfl, ?_⟩, trivial⟩
           refine JL.buildSl 3 ((flInt .i64).kd) (([] : List Int) : List Int) [] false (closes_fl rfl) fun b228 => ?_
           refine JL.nil ?_
           refine JY.ran (ba 15 12159) [true, true, true, false, false, false] ?_
           refine JY.all [7] ⟨⟨_, rfl, ?_⟩, trivial⟩
           obtain h231 : ([] : List Int).length + j1.Y.length ≤ 17592186044416 := h212
           refine JL.append false false 5 1 (some ⟨b228, 0, none⟩) 0 c6 ([] : List Int) (elems_rd Aa5 c6 ((flInt .i64).kd) j1.Y true) Try.underlying22 info_3 (by omega) (by omega) (fun h => h) (.inr ⟨_, rfl⟩) fun Aa229 c230 => ?_
           refine JL.nil ?_
           refine JY.ran (ba 15 12287) [true, true, true, false, false, false] ?_
           refine JY.pur (hi := rfl) 12 (ba 15 16383) (.agg #[.slice Aa215 (([] : List Int) ++ j1.X_).length c216, .slice Aa229 (([] : List Int) ++ j1.Y).length c230, .int .i64 j1.Most, .int .i64 j1.Size]) (some 34) want ?_
           refine JY.all [14] ⟨⟨_, rfl, ?_⟩, trivial⟩
           refine JL.store 4 b227 0 24 [.slice none 0 0, .slice none 0 0, .int .i64 0, .int .i64 0] [.slice Aa215 (([] : List Int) ++ j1.X_).length c216, .slice Aa229 (([] : List Int) ++ j1.Y).length c230, .int .i64 j1.Most, .int .i64 j1.Size] tySize_24 ?_
           refine JL.nil ?_
           refine JY.ran (ba 15 32767) [true, true, true, false, false, false] ?_
           refine JY.done ?_
           refine JQ.then_normal ?_
           exact JQ.meet () (b227, Aa215, c216, Aa229, c230) H0 (fun _ h => Heap.to (Heap.pick [2, 0, 1, 4, 3, 5] (by decide) h))
       · refine JL.buildSl 3 ((flInt .i64).kd) (([] : List Int) : List Int) [] false (closes_fl rfl) fun b232 => ?_
         refine JL.nil ?_
         refine JY.ran (ba 15 3959) [true, true, true, false, false] ?_
         refine JY.all [3, 13] ⟨⟨_, rfl, ?_⟩, ⟨_, rfl, ?_⟩, trivial⟩
         · obtain h235 : ([] : List Int).length + j1.X_.length ≤ 17592186044416 := h208
           refine JL.append false false 3 0 (some ⟨b214, 0, none⟩) 0 c3 ([] : List Int) (elems_rd Aa2 c3 ((flInt .i64).kd) j1.X_ true) Try.underlying22 info_3 (by omega) (by omega) (fun h => h) (.inr ⟨_, rfl⟩) fun Aa233 c234 => ?_
           refine JL.nil ?_
           refine JY.ran (ba 15 3967) [true, true, true, false, false] ?_
           refine JY.all [7, 13] ⟨⟨_, rfl, ?_⟩, ⟨_, rfl, ?_⟩, trivial⟩
           · obtain h238 : ([] : List Int).length + j1.Y.length ≤ 17592186044416 := h212
             refine JL.append false false 4 1 (some ⟨b232, 0, none⟩) 0 c6 ([] : List Int) (elems_rd Aa5 c6 ((flInt .i64).kd) j1.Y true) Try.underlying22 info_3 (by omega) (by omega) (fun h => h) (.inr ⟨_, rfl⟩) fun Aa236 c237 => ?_
             refine JL.nil ?_
             refine JY.ran (ba 15 4095) [true, true, true, false, false] ?_
             refine JY.pur (hi := rfl) 12 (ba 15 8191) (.agg #[.slice Aa233 (([] : List Int) ++ j1.X_).length c234, .slice Aa236 (([] : List Int) ++ j1.Y).length c237, .int .i64 j1.Most, .int .i64 j1.Size]) (some 34) want ?_
             refine JY.all [13] ⟨⟨_, rfl, ?_⟩, trivial⟩
             refine JL.alloc [.slice none 0 0, .slice none 0 0, .int .i64 0, .int .i64 0] fun b239 => ?_
             refine JL.nil ?_
             refine JY.ran (ba 15 16383) [true, true, true, false, false, false] ?_
             refine JY.all [14] ⟨⟨_, rfl, ?_⟩, trivial⟩
             refine JL.store 5 b239 0 24 [.slice none 0 0, .slice none 0 0, .int .i64 0, .int .i64 0] [.slice Aa233 (([] : List Int) ++ j1.X_).length c234, .slice Aa236 (([] : List Int) ++ j1.Y).length c237, .int .i64 j1.Most, .int .i64 j1.Size] tySize_24 ?_
             refine JL.nil ?_
             refine JY.ran (ba 15 32767) [true, true, true, false, false, false] ?_
             refine JY.done ?_
             refine JQ.then_normal ?_
             exact JQ.meet () (b239, Aa233, c234, Aa236, c237) H0 (fun _ h => Heap.to (Heap.pick [2, 0, 1, 5, 3, 4] (by decide) h))
           · refine JL.alloc [.slice none 0 0, .slice none 0 0, .int .i64 0, .int .i64 0] fun b240 => ?_
             refine JL.nil ?_
             refine JY.ran (ba 15 12159) [true, true, true, false, false, false] ?_
             refine JY.all [7] ⟨⟨_, rfl, ?_⟩, trivial⟩
             obtain h243 : ([] : List Int).length + j1.Y.length ≤ 17592186044416 := h212
             refine JL.append false false 4 1 (some ⟨b232, 0, none⟩) 0 c6 ([] : List Int) (elems_rd Aa5 c6 ((flInt .i64).kd) j1.Y true) Try.underlying22 info_3 (by omega) (by omega) (fun h => h) (.inr ⟨_, rfl⟩) fun Aa241 c242 => ?_
             refine JL.nil ?_
             refine JY.ran (ba 15 12287) [true, true, true, false, false, false] ?_
             refine JY.pur (hi := rfl) 12 (ba 15 16383) (.agg #[.slice Aa233 (([] : List Int) ++ j1.X_).length c234, .slice Aa241 (([] : List Int) ++ j1.Y).length c242, .int .i64 j1.Most, .int .i64 j1.Size]) (some 34) want ?_
             refine JY.all [14] ⟨⟨_, rfl, ?_⟩, trivial⟩
             refine JL.store 5 b240 0 24 [.slice none 0 0, .slice none 0 0, .int .i64 0, .int .i64 0] [.slice Aa233 (([] : List Int) ++ j1.X_).length c234, .slice Aa241 (([] : List Int) ++ j1.Y).length c242, .int .i64 j1.Most, .int .i64 j1.Size] tySize_24 ?_
             refine JL.nil ?_
             refine JY.ran (ba 15 32767) [true, true, true, false, false, false] ?_
             refine JY.done ?_
             refine JQ.then_normal ?_
             exact JQ.meet () (b240, Aa233, c234, Aa241, c242) H0 (fun _ h => Heap.to (Heap.pick [2, 0, 1, 5, 3, 4] (by decide) h))
         · refine JL.alloc [.slice none 0 0, .slice none 0 0, .int .i64 0, .int .i64 0] fun b244 => ?_
           refine JL.nil ?_
           refine JY.ran (ba 15 12151) [true, true, true, false, false, false] ?_
           refine JY.all [3] ⟨⟨_, rfl, ?_⟩, trivial⟩
           obtain h247 : ([] : List Int).length + j1.X_.length ≤ 17592186044416 := h208
           refine JL.append false false 3 0 (some ⟨b214, 0, none⟩) 0 c3 ([] : List Int) (elems_rd Aa2 c3 ((flInt .i64).kd) j1.X_ true) Try.underlying22 info_3 (by omega) (by omega) (fun h => h) (.inr ⟨_, rfl⟩) fun Aa245 c246 => ?_
           refine JL.nil ?_
           refine JY.ran (ba 15 12159) [true, true, true, false, false, false] ?_
           refine JY.all [7] ⟨⟨_, rfl, ?_⟩, trivial⟩
           obtain h250 : ([] : List Int).length + j1.Y.length ≤ 17592186044416 := h212
           refine JL.append false false 4 1 (some ⟨b232, 0, none⟩) 0 c6 ([] : List Int) (elems_rd Aa5 c6 ((flInt .i64).kd) j1.Y true) Try.underlying22 info_3 (by omega) (by omega) (fun h => h) (.inr ⟨_, rfl⟩) fun Aa248 c249 => ?_
           refine JL.nil ?_
           refine JY.ran (ba 15 12287) [true, true, true, false, false, false] ?_
           refine JY.pur (hi := rfl) 12 (ba 15 16383) (.agg #[.slice Aa245 (([] : List Int) ++ j1.X_).length c246, .slice Aa248 (([] : List Int) ++ j1.Y).length c249, .int .i64 j1.Most, .int .i64 j1.Size]) (some 34) want ?_
           refine JY.all [14] ⟨⟨_, rfl, ?_⟩, trivial⟩
           refine JL.store 5 b244 0 24 [.slice none 0 0, .slice none 0 0, .int .i64 0, .int .i64 0] [.slice Aa245 (([] : List Int) ++ j1.X_).length c246, .slice Aa248 (([] : List Int) ++ j1.Y).length c249, .int .i64 j1.Most, .int .i64 j1.Size] tySize_24 ?_
           refine JL.nil ?_
           refine JY.ran (ba 15 32767) [true, true, true, false, false, false] ?_
           refine JY.done ?_
           refine JQ.then_normal ?_
           exact JQ.meet () (b244, Aa245, c246, Aa248, c249) H0 (fun _ h => Heap.to (Heap.pick [2, 0, 1, 5, 3, 4] (by decide) h))
       · refine JL.alloc [.slice none 0 0, .slice none 0 0, .int .i64 0, .int .i64 0] fun b251 => ?_
         refine JL.nil ?_
         refine JY.ran (ba 15 12135) [true, true, true, false, false] ?_
         refine JY.all [3, 4] ⟨⟨_, rfl, ?_⟩, ⟨_, rfl, ?_⟩, trivial⟩
         · obtain h254 : ([] : List Int).length + j1.X_.length ≤ 17592186044416 := h208
           refine JL.append false false 3 0 (some ⟨b214, 0, none⟩) 0 c3 ([] : List Int) (elems_rd Aa2 c3 ((flInt .i64).kd) j1.X_ true) Try.underlying22 info_3 (by omega) (by omega) (fun h => h) (.inr ⟨_, rfl⟩) fun Aa252 c253 => ?_
           refine JL.nil ?_
           refine JY.ran (ba 15 12143) [true, true, true, false, false] ?_
           refine JY.all [4] ⟨⟨_, rfl, ?_⟩, trivial⟩
           refine JL.buildSl 3 ((flInt .i64).kd) (([] : List Int) : List Int) [] false (closes_fl rfl) fun b255 => ?_
           refine JL.nil ?_
           refine JY.ran (ba 15 12159) [true, true, true, false, false, false] ?_
           refine JY.all [7] ⟨⟨_, rfl, ?_⟩, trivial⟩
           obtain h258 : ([] : List Int).length + j1.Y.length ≤ 17592186044416 := h212
           refine JL.append false false 5 1 (some ⟨b255, 0, none⟩) 0 c6 ([] : List Int) (elems_rd Aa5 c6 ((flInt .i64).kd) j1.Y true) Try.underlying22 info_3 (by omega) (by omega) (fun h => h) (.inr ⟨_, rfl⟩) fun Aa256 c257 => ?_
           refine JL.nil ?_
           refine JY.ran (ba 15 12287) [true, true, true, false, false, false] ?_
           refine JY.pur (hi := rfl) 12 (ba 15 16383) (.agg #[.slice Aa252 (([] : List Int) ++ j1.X_).length c253, .slice Aa256 (([] : List Int) ++ j1.Y).length c257, .int .i64 j1.Most, .int .i64 j1.Size]) (some 34) want ?_
           refine JY.all [14] ⟨⟨_, rfl, ?_⟩, trivial⟩
           refine JL.store 4 b251 0 24 [.slice none 0 0, .slice none 0 0, .int .i64 0, .int .i64 0] [.slice Aa252 (([] : List Int) ++ j1.X_).length c253, .slice Aa256 (([] : List Int) ++ j1.Y).length c257, .int .i64 j1.Most, .int .i64 j1.Size] tySize_24 ?_
           refine JL.nil ?_
           refine JY.ran (ba 15 32767) [true, true, true, false, false, false] ?_
           refine JY.done ?_
           refine JQ.then_normal ?_
           exact JQ.meet () (b251, Aa252, c253, Aa256, c257) H0 (fun _ h => Heap.to (Heap.pick [2, 0, 1, 4, 3, 5] (by decide) h))
         · refine JL.buildSl 3 ((flInt .i64).kd) (([] : List Int) : List Int) [] false (closes_fl rfl) fun b259 => ?_
           refine JL.nil ?_
           refine JY.ran (ba 15 12151) [true, true, true, false, false, false] ?_
           refine JY.all [3] ⟨⟨_, rfl, ?_⟩, trivial⟩
           obtain h262 : ([] : List Int).length + j1.X_.length ≤ 17592186044416 := h208
           refine JL.append false false 3 0 (some ⟨b214, 0, none⟩) 0 c3 ([] : List Int) (elems_rd Aa2 c3 ((flInt .i64).kd) j1.X_ true) Try.underlying22 info_3 (by omega) (by omega) (fun h => h) (.inr ⟨_, rfl⟩) fun Aa260 c261 => ?_
           refine JL.nil ?_
           refine JY.ran (ba 15 12159) [true, true, true, false, false, false] ?_
           refine JY.all [7] ⟨⟨_, rfl, ?_⟩, trivial⟩
           obtain h265 : ([] : List Int).length + j1.Y.length ≤ 17592186044416 := h212
           refine JL.append false false 5 1 (some ⟨b259, 0, none⟩) 0 c6 ([] : List Int) (elems_rd Aa5 c6 ((flInt .i64).kd) j1.Y true) Try.underlying22 info_3 (by omega) (by omega) (fun h => h) (.inr ⟨_, rfl⟩) fun Aa263 c264 => ?_
           refine JL.nil ?_
           refine JY.ran (ba 15 12287) [true, true, true, false, false, false] ?_
           refine JY.pur (hi := rfl) 12 (ba 15 16383) (.agg #[.slice Aa260 (([] : List Int) ++ j1.X_).length c261, .slice Aa263 (([] : List Int) ++ j1.Y).length c264, .int .i64 j1.Most, .int .i64 j1.Size]) (some 34) want ?_
           refine JY.all [14] ⟨⟨_, rfl, ?_⟩, trivial⟩
           refine JL.store 4 b251 0 24 [.slice none 0 0, .slice none 0 0, .int .i64 0, .int .i64 0] [.slice Aa260 (([] : List Int) ++ j1.X_).length c261, .slice Aa263 (([] : List Int) ++ j1.Y).length c264, .int .i64 j1.Most, .int .i64 j1.Size] tySize_24 ?_
           refine JL.nil ?_
           refine JY.ran (ba 15 32767) [true, true, true, false, false, false] ?_
           refine JY.done ?_
           refine JQ.then_normal ?_
           exact JQ.meet () (b251, Aa260, c261, Aa263, c264) H0 (fun _ h => Heap.to (Heap.pick [2, 0, 1, 4, 3, 5] (by decide) h))
     · refine JL.buildSl 3 ((flInt .i64).kd) (([] : List Int) : List Int) [] false (closes_fl rfl) fun b266 => ?_
       refine JL.nil ?_
       refine JY.ran (ba 15 3958) [true, true, true, false] ?_
       refine JY.all [0, 13] ⟨⟨_, rfl, ?_⟩, ⟨_, rfl, ?_⟩, trivial⟩
       · refine JL.buildSl 3 ((flInt .i64).kd) (([] : List Int) : List Int) [] false (closes_fl rfl) fun b267 => ?_
         refine JL.nil ?_
         refine JY.ran (ba 15 3959) [true, true, true, false, false] ?_
         refine JY.all [3, 13] ⟨⟨_, rfl, ?_⟩, ⟨_, rfl, ?_⟩, trivial⟩
         · obtain h270 : ([] : List Int).length + j1.X_.length ≤ 17592186044416 := h208
           refine JL.append false false 4 0 (some ⟨b267, 0, none⟩) 0 c3 ([] : List Int) (elems_rd Aa2 c3 ((flInt .i64).kd) j1.X_ true) Try.underlying22 info_3 (by omega) (by omega) (fun h => h) (.inr ⟨_, rfl⟩) fun Aa268 c269 => ?_
           refine JL.nil ?_
           refine JY.ran (ba 15 3967) [true, true, true, false, false] ?_
           refine JY.all [7, 13] ⟨⟨_, rfl, ?_⟩, ⟨_, rfl, ?_⟩, trivial⟩
           · obtain h273 : ([] : List Int).length + j1.Y.length ≤ 17592186044416 := h212
             refine JL.append false false 3 1 (some ⟨b266, 0, none⟩) 0 c6 ([] : List Int) (elems_rd Aa5 c6 ((flInt .i64).kd) j1.Y true) Try.underlying22 info_3 (by omega) (by omega) (fun h => h) (.inr ⟨_, rfl⟩) fun Aa271 c272 => ?_
             refine JL.nil ?_
             refine JY.ran (ba 15 4095) [true, true, true, false, false] ?_
             refine JY.pur (hi := rfl) 12 (ba 15 8191) (.agg #[.slice Aa268 (([] : List Int) ++ j1.X_).length c269, .slice Aa271 (([] : List Int) ++ j1.Y).length c272, .int .i64 j1.Most, .int .i64 j1.Size]) (some 34) want ?_
             refine JY.all [13] ⟨⟨_, rfl, ?_⟩, trivial⟩
             refine JL.alloc [.slice none 0 0, .slice none 0 0, .int .i64 0, .int .i64 0] fun b274 => ?_
             refine JL.nil ?_
             refine JY.ran (ba 15 16383) [true, true, true, false, false, false] ?_
             refine JY.all [14] ⟨⟨_, rfl, ?_⟩, trivial⟩
             refine JL.store 5 b274 0 24 [.slice none 0 0, .slice none 0 0, .int .i64 0, .int .i64 0] [.slice Aa268 (([] : List Int) ++ j1.X_).length c269, .slice Aa271 (([] : List Int) ++ j1.Y).length c272, .int .i64 j1.Most, .int .i64 j1.Size] tySize_24 ?_
             refine JL.nil ?_
             refine JY.ran (ba 15 32767) [true, true, true, false, false, false] ?_
             refine JY.done ?_
             refine JQ.then_normal ?_
             exact JQ.meet () (b274, Aa268, c269, Aa271, c272) H0 (fun _ h => Heap.to (Heap.pick [2, 0, 1, 5, 4, 3] (by decide) h))
           · refine JL.alloc [.slice none 0 0, .slice none 0 0, .int .i64 0, .int .i64 0] fun b275 => ?_
             refine JL.nil ?_
             refine JY.ran (ba 15 12159) [true, true, true, false, false, false] ?_
             refine JY.all [7] ⟨⟨_, rfl, ?_⟩, trivial⟩
             obtain h278 : ([] : List Int).length + j1.Y.length ≤ 17592186044416 := h212
             refine JL.append false false 3 1 (some ⟨b266, 0, none⟩) 0 c6 ([] : List Int) (elems_rd Aa5 c6 ((flInt .i64).kd) j1.Y true) Try.underlying22 info_3 (by omega) (by omega) (fun h => h) (.inr ⟨_, rfl⟩) fun Aa276 c277 => ?_
             refine JL.nil ?_
             refine JY.ran (ba 15 12287) [true, true, true, false, false, false] ?_
             refine JY.pur (hi := rfl) 12 (ba 15 16383) (.agg #[.slice Aa268 (([] : List Int) ++ j1.X_).length c269, .slice Aa276 (([] : List Int) ++ j1.Y).length c277, .int .i64 j1.Most, .int .i64 j1.Size]) (some 34) want ?_
             refine JY.all [14] ⟨⟨_, rfl, ?_⟩, trivial⟩
             refine JL.store 5 b275 0 24 [.slice none 0 0, .slice none 0 0, .int .i64 0, .int .i64 0] [.slice Aa268 (([] : List Int) ++ j1.X_).length c269, .slice Aa276 (([] : List Int) ++ j1.Y).length c277, .int .i64 j1.Most, .int .i64 j1.Size] tySize_24 ?_
             refine JL.nil ?_
             refine JY.ran (ba 15 32767) [true, true, true, false, false, false] ?_
             refine JY.done ?_
             refine JQ.then_normal ?_
             exact JQ.meet () (b275, Aa268, c269, Aa276, c277) H0 (fun _ h => Heap.to (Heap.pick [2, 0, 1, 5, 4, 3] (by decide) h))
         · refine JL.alloc [.slice none 0 0, .slice none 0 0, .int .i64 0, .int .i64 0] fun b279 => ?_
           refine JL.nil ?_
           refine JY.ran (ba 15 12151) [true, true, true, false, false, false] ?_
           refine JY.all [3] ⟨⟨_, rfl, ?_⟩, trivial⟩
           obtain h282 : ([] : List Int).length + j1.X_.length ≤ 17592186044416 := h208
           refine JL.append false false 4 0 (some ⟨b267, 0, none⟩) 0 c3 ([] : List Int) (elems_rd Aa2 c3 ((flInt .i64).kd) j1.X_ true) Try.underlying22 info_3 (by omega) (by omega) (fun h => h) (.inr ⟨_, rfl⟩) fun Aa280 c281 => ?_
           refine JL.nil ?_
           refine JY.ran (ba 15 12159) [true, true, true, false, false, false] ?_
           refine JY.all [7] ⟨⟨_, rfl, ?_⟩, trivial⟩
           obtain h285 : ([] : List Int).length + j1.Y.length ≤ 17592186044416 := h212
           refine JL.append false false 3 1 (some ⟨b266, 0, none⟩) 0 c6 ([] : List Int) (elems_rd Aa5 c6 ((flInt .i64).kd) j1.Y true) Try.underlying22 info_3 (by omega) (by omega) (fun h => h) (.inr ⟨_, rfl⟩) fun Aa283 c284 => ?_
           refine JL.nil ?_
           refine JY.ran (ba 15 12287) [true, true, true, false, false, false] ?_
           refine JY.pur (hi := rfl) 12 (ba 15 16383) (.agg #[.slice Aa280 (([] : List Int) ++ j1.X_).length c281, .slice Aa283 (([] : List Int) ++ j1.Y).length c284, .int .i64 j1.Most, .int .i64 j1.Size]) (some 34) want ?_
           refine JY.all [14] ⟨⟨_, rfl, ?_⟩, trivial⟩
           refine JL.store 5 b279 0 24 [.slice none 0 0, .slice none 0 0, .int .i64 0, .int .i64 0] [.slice Aa280 (([] : List Int) ++ j1.X_).length c281, .slice Aa283 (([] : List Int) ++ j1.Y).length c284, .int .i64 j1.Most, .int .i64 j1.Size] tySize_24 ?_
           refine JL.nil ?_
           refine JY.ran (ba 15 32767) [true, true, true, false, false, false] ?_
           refine JY.done ?_
           refine JQ.then_normal ?_
           exact JQ.meet () (b279, Aa280, c281, Aa283, c284) H0 (fun _ h => Heap.to (Heap.pick [2, 0, 1, 5, 4, 3] (by decide) h))
       · refine JL.alloc [.slice none 0 0, .slice none 0 0, .int .i64 0, .int .i64 0] fun b286 => ?_
         refine JL.nil ?_
         refine JY.ran (ba 15 12150) [true, true, true, false, false] ?_
         refine JY.all [0] ⟨⟨_, rfl, ?_⟩, trivial⟩
         refine JL.buildSl 3 ((flInt .i64).kd) (([] : List Int) : List Int) [] false (closes_fl rfl) fun b287 => ?_
         refine JL.nil ?_
         refine JY.ran (ba 15 12151) [true, true, true, false, false, false] ?_
         refine JY.all [3] ⟨⟨_, rfl, ?_⟩, trivial⟩
         obtain h290 : ([] : List Int).length + j1.X_.length ≤ 17592186044416 := h208
         refine JL.append false false 5 0 (some ⟨b287, 0, none⟩) 0 c3 ([] : List Int) (elems_rd Aa2 c3 ((flInt .i64).kd) j1.X_ true) Try.underlying22 info_3 (by omega) (by omega) (fun h => h) (.inr ⟨_, rfl⟩) fun Aa288 c289 => ?_
         refine JL.nil ?_
         refine JY.ran (ba 15 12159) [true, true, true, false, false, false] ?_
         refine JY.all [7] ⟨⟨_, rfl, ?_⟩, trivial⟩
         obtain h293 : ([] : List Int).length + j1.Y.length ≤ 17592186044416 := h212
         refine JL.append false false 3 1 (some ⟨b266, 0, none⟩) 0 c6 ([] : List Int) (elems_rd Aa5 c6 ((flInt .i64).kd) j1.Y true) Try.underlying22 info_3 (by omega) (by omega) (fun h => h) (.inr ⟨_, rfl⟩) fun Aa291 c292 => ?_
         refine JL.nil ?_
         refine JY.ran (ba 15 12287) [true, true, true, false, false, false] ?_
         refine JY.pur (hi := rfl) 12 (ba 15 16383) (.agg #[.slice Aa288 (([] : List Int) ++ j1.X_).length c289, .slice Aa291 (([] : List Int) ++ j1.Y).length c292, .int .i64 j1.Most, .int .i64 j1.Size]) (some 34) want ?_
         refine JY.all [14] ⟨⟨_, rfl, ?_⟩, trivial⟩
         refine JL.store 4 b286 0 24 [.slice none 0 0, .slice none 0 0, .int .i64 0, .int .i64 0] [.slice Aa288 (([] : List Int) ++ j1.X_).length c289, .slice Aa291 (([] : List Int) ++ j1.Y).length c292, .int .i64 j1.Most, .int .i64 j1.Size] tySize_24 ?_
         refine JL.nil ?_
         refine JY.ran (ba 15 32767) [true, true, true, false, false, false] ?_
         refine JY.done ?_
         refine JQ.then_normal ?_
         exact JQ.meet () (b286, Aa288, c289, Aa291, c292) H0 (fun _ h => Heap.to (Heap.pick [2, 0, 1, 4, 5, 3] (by decide) h))
     · refine JL.alloc [.slice none 0 0, .slice none 0 0, .int .i64 0, .int .i64 0] fun b294 => ?_
       refine JL.nil ?_
       refine JY.ran (ba 15 12134) [true, true, true, false] ?_
       refine JY.all [0, 4] ⟨⟨_, rfl, ?_⟩, ⟨_, rfl, ?_⟩, trivial⟩
       · refine JL.buildSl 3 ((flInt .i64).kd) (([] : List Int) : List Int) [] false (closes_fl rfl) fun b295 => ?_
         refine JL.nil ?_
         refine JY.ran (ba 15 12135) [true, true, true, false, false] ?_
         refine JY.all [3, 4] ⟨⟨_, rfl, ?_⟩, ⟨_, rfl, ?_⟩, trivial⟩
         · obtain h298 : ([] : List Int).length + j1.X_.length ≤ 17592186044416 := h208
           refine JL.append false false 4 0 (some ⟨b295, 0, none⟩) 0 c3 ([] : List Int) (elems_rd Aa2 c3 ((flInt .i64).kd) j1.X_ true) Try.underlying22 info_3 (by omega) (by omega) (fun h => h) (.inr ⟨_, rfl⟩) fun Aa296 c297 => ?_
           refine JL.nil ?_
           refine JY.ran (ba 15 12143) [true, true, true, false, false] ?_
           refine JY.all [4] ⟨⟨_, rfl, ?_⟩, trivial⟩
           refine JL.buildSl 3 ((flInt .i64).kd) (([] : List Int) : List Int) [] false (closes_fl rfl) fun b299 => ?_
           refine JL.nil ?_
           refine JY.ran (ba 15 12159) [true, true, true, false, false, false] ?_
           refine JY.all [7] ⟨⟨_, rfl, ?_⟩, trivial⟩
           obtain h302 : ([] : List Int).length + j1.Y.length ≤ 17592186044416 := h212
           refine JL.append false false 5 1 (some ⟨b299, 0, none⟩) 0 c6 ([] : List Int) (elems_rd Aa5 c6 ((flInt .i64).kd) j1.Y true) Try.underlying22 info_3 (by omega) (by omega) (fun h => h) (.inr ⟨_, rfl⟩) fun Aa300 c301 => ?_
           refine JL.nil ?_
           refine JY.ran (ba 15 12287) [true, true, true, false, false, false] ?_
           refine JY.pur (hi := rfl) 12 (ba 15 16383) (.agg #[.slice Aa296 (([] : List Int) ++ j1.X_).length c297, .slice Aa300 (([] : List Int) ++ j1.Y).length c301, .int .i64 j1.Most, .int .i64 j1.Size]) (some 34) want ?_
           refine JY.all [14] ⟨⟨_, rfl, ?_⟩, trivial⟩
           refine JL.store 3 b294 0 24 [.slice none 0 0, .slice none 0 0, .int .i64 0, .int .i64 0] [.slice Aa296 (([] : List Int) ++ j1.X_).length c297, .slice Aa300 (([] : List Int) ++ j1.Y).length c301, .int .i64 j1.Most, .int .i64 j1.Size] tySize_24 ?_
           refine JL.nil ?_
           refine JY.ran (ba 15 32767) [true, true, true, false, false, false] ?_
           refine JY.done ?_
           refine JQ.then_normal ?_
           exact JQ.meet () (b294, Aa296, c297, Aa300, c301) H0 (fun _ h => Heap.to (Heap.pick [2, 0, 1, 3, 4, 5] (by decide) h))
         · refine JL.buildSl 3 ((flInt .i64).kd) (([] : List Int) : List Int) [] false (closes_fl rfl) fun b303 => ?_
           refine JL.nil ?_
           refine JY.ran (ba 15 12151) [true, true, true, false, false, false] ?_
           refine JY.all [3] ⟨⟨_, rfl, ?_⟩, trivial⟩
           obtain h306 : ([] : List Int).length + j1.X_.length ≤ 17592186044416 := h208
           refine JL.append false false 4 0 (some ⟨b295, 0, none⟩) 0 c3 ([] : List Int) (elems_rd Aa2 c3 ((flInt .i64).kd) j1.X_ true) Try.underlying22 info_3 (by omega) (by omega) (fun h => h) (.inr ⟨_, rfl⟩) fun Aa304 c305 => ?_
           refine JL.nil ?_
           refine JY.ran (ba 15 12159) [true, true, true, false, false, false] ?_
           refine JY.all [7] ⟨⟨_, rfl, ?_⟩, trivial⟩
           obtain h309 : ([] : List Int).length + j1.Y.length ≤ 17592186044416 := h212
           refine JL.append false false 5 1 (some ⟨b303, 0, none⟩) 0 c6 ([] : List Int) (elems_rd Aa5 c6 ((flInt .i64).kd) j1.Y true) Try.underlying22 info_3 (by omega) (by omega) (fun h => h) (.inr ⟨_, rfl⟩) fun Aa307 c308 => ?_
           refine JL.nil ?_
           refine JY.ran (ba 15 12287) [true, true, true, false, false, false] ?_
           refine JY.pur (hi := rfl) 12 (ba 15 16383) (.agg #[.slice Aa304 (([] : List Int) ++ j1.X_).length c305, .slice Aa307 (([] : List Int) ++ j1.Y).length c308, .int .i64 j1.Most, .int .i64 j1.Size]) (some 34) want ?_
           refine JY.all [14] ⟨⟨_, rfl, ?_⟩, trivial⟩
           refine JL.store 3 b294 0 24 [.slice none 0 0, .slice none 0 0, .int .i64 0, .int .i64 0] [.slice Aa304 (([] : List Int) ++ j1.X_).length c305, .slice Aa307 (([] : List Int) ++ j1.Y).length c308, .int .i64 j1.Most, .int .i64 j1.Size] tySize_24 ?_
           refine JL.nil ?_
           refine JY.ran (ba 15 32767) [true, true, true, false, false, false] ?_
           refine JY.done ?_
           refine JQ.then_normal ?_
           exact JQ.meet () (b294, Aa304, c305, Aa307, c308) H0 (fun _ h => Heap.to (Heap.pick [2, 0, 1, 3, 4, 5] (by decide) h))
       · refine JL.buildSl 3 ((flInt .i64).kd) (([] : List Int) : List Int) [] false (closes_fl rfl) fun b310 => ?_
         refine JL.nil ?_
         refine JY.ran (ba 15 12150) [true, true, true, false, false] ?_
         refine JY.all [0] ⟨⟨_, rfl, ?_⟩, trivial⟩
         refine JL.buildSl 3 ((flInt .i64).kd) (([] : List Int) : List Int) [] false (closes_fl rfl) fun b311 => ?_
         refine JL.nil ?_
         refine JY.ran (ba 15 12151) [true, true, true, false, false, false] ?_
         refine JY.all [3] ⟨⟨_, rfl, ?_⟩, trivial⟩
         obtain h314 : ([] : List Int).length + j1.X_.length ≤ 17592186044416 := h208
         refine JL.append false false 5 0 (some ⟨b311, 0, none⟩) 0 c3 ([] : List Int) (elems_rd Aa2 c3 ((flInt .i64).kd) j1.X_ true) Try.underlying22 info_3 (by omega) (by omega) (fun h => h) (.inr ⟨_, rfl⟩) fun Aa312 c313 => ?_
         refine JL.nil ?_
         refine JY.ran (ba 15 12159) [true, true, true, false, false, false] ?_
         refine JY.all [7] ⟨⟨_, rfl, ?_⟩, trivial⟩
         obtain h317 : ([] : List Int).length + j1.Y.length ≤ 17592186044416 := h212
         refine JL.append false false 4 1 (some ⟨b310, 0, none⟩) 0 c6 ([] : List Int) (elems_rd Aa5 c6 ((flInt .i64).kd) j1.Y true) Try.underlying22 info_3 (by omega) (by omega) (fun h => h) (.inr ⟨_, rfl⟩) fun Aa315 c316 => ?_
         refine JL.nil ?_
         refine JY.ran (ba 15 12287) [true, true, true, false, false, false] ?_
         refine JY.pur (hi := rfl) 12 (ba 15 16383) (.agg #[.slice Aa312 (([] : List Int) ++ j1.X_).length c313, .slice Aa315 (([] : List Int) ++ j1.Y).length c316, .int .i64 j1.Most, .int .i64 j1.Size]) (some 34) want ?_
         refine JY.all [14] ⟨⟨_, rfl, ?_⟩, trivial⟩
         refine JL.store 3 b294 0 24 [.slice none 0 0, .slice none 0 0, .int .i64 0, .int .i64 0] [.slice Aa312 (([] : List Int) ++ j1.X_).length c313, .slice Aa315 (([] : List Int) ++ j1.Y).length c316, .int .i64 j1.Most, .int .i64 j1.Size] tySize_24 ?_
         refine JL.nil ?_
         refine JY.ran (ba 15 32767) [true, true, true, false, false, false] ?_
         refine JY.done ?_
         refine JQ.then_normal ?_
         exact JQ.meet () (b294, Aa312, c313, Aa315, c316) H0 (fun _ h => Heap.to (Heap.pick [2, 0, 1, 3, 5, 4] (by decide) h))
   · clear H0
     rintro ⟨⟩ ⟨b127, Aa129, c130, Aa132, c133⟩ H0
     replace H0 : law19_WorkerParts.k1 j1 block8 n9 = some r := H0
     unfold law19_WorkerParts.k1 at H0
     refine JQ.sub [(1, .int .i64 block8), (2, .int .i64 n9), (3, .pointer (some ⟨b10, 0, none⟩)), (7, .pointer (some ⟨b127, 0, none⟩))] ?_
     refine JQ.turn (Δ' := [At.box b10 24 [.slice Aa2 j1.X_.length c3, .slice Aa5 j1.Y.length c6, .int .i64 j1.Most, .int .i64 j1.Size], At.rd Aa2 c3 ((flInt .i64).kd) j1.X_ true, At.rd Aa5 c6 ((flInt .i64).kd) j1.Y true, At.box b127 24 [.slice Aa129 (([] : List Int) ++ j1.X_).length c130, .slice Aa132 (([] : List Int) ++ j1.Y).length c133, .int .i64 j1.Most, .int .i64 j1.Size], At.row Aa129 c130 3 ((flInt .i64).kd) (([] : List Int) ++ j1.X_) false, At.row Aa132 c133 3 ((flInt .i64).kd) (([] : List Int) ++ j1.Y) false]) (fun _ h => h.to) ?_
     refine J.seq ?_
     refine J.region ?_
     refine JL.val (.agg #[.slice Aa129 (([] : List Int) ++ j1.X_).length c130, .slice Aa132 (([] : List Int) ++ j1.Y).length c133, .int .i64 j1.Most, .int .i64 j1.Size]) (some 36) (yields_load_boxes 3 0 [.slice Aa129 (([] : List Int) ++ j1.X_).length c130, .slice Aa132 (([] : List Int) ++ j1.Y).length c133, .int .i64 j1.Most, .int .i64 j1.Size] (holds_box b127 24 [.slice Aa129 (([] : List Int) ++ j1.X_).length c130, .slice Aa132 (([] : List Int) ++ j1.Y).length c133, .int .i64 j1.Most, .int .i64 j1.Size]) tyAgg_24 tySize_24) ?_
     obtain ⟨t135, hc136, H0⟩ := bind_some H0
     refine JL.call [] [] [] (worker_Blocks.ok (⟨(([] : List Int) ++ j1.X_), (([] : List Int) ++ j1.Y), j1.Most, j1.Size⟩ : Job) Aa129 c130 Aa132 c133 _ hc136) ⟨pre_view 4 (view_row Aa129 c130 3 ((flInt .i64).kd) (([] : List Int) ++ j1.X_) false true), ⟨pre_view 5 (view_row Aa132 c133 3 ((flInt .i64).kd) (([] : List Int) ++ j1.Y) false true), trivial⟩⟩ ?_
     rintro _ _ ⟨rfl, rfl⟩
     refine JL.mv (.tuple #[.int .i64 t135.1, .int .i64 t135.2]) ?_
     refine JL.pur (.int .i64 t135.1) (some 38) ?_
     refine JL.pur (.int .i64 t135.2) (some 39) ?_
     refine JL.as (.int .i64 t135.1) ?_
     refine JL.as (.int .i64 t135.2) ?_
     refine JL.nil ?_
     refine JQ.then_normal ?_
     refine JQ.sub [(1, .int .i64 block8), (2, .int .i64 n9), (3, .pointer (some ⟨b10, 0, none⟩)), (7, .pointer (some ⟨b127, 0, none⟩)), (8, .int .i64 t135.1), (9, .int .i64 t135.2)] ?_
     refine J.seq ?_
     refine J.region ?_
     refine JL.val (.agg #[.slice Aa2 j1.X_.length c3, .slice Aa5 j1.Y.length c6, .int .i64 j1.Most, .int .i64 j1.Size]) (some 41) (yields_load_boxes 0 0 [.slice Aa2 j1.X_.length c3, .slice Aa5 j1.Y.length c6, .int .i64 j1.Most, .int .i64 j1.Size] (holds_box b10 24 [.slice Aa2 j1.X_.length c3, .slice Aa5 j1.Y.length c6, .int .i64 j1.Most, .int .i64 j1.Size]) tyAgg_24 tySize_24) ?_
     obtain ⟨t137, hc138, H0⟩ := bind_some H0
     refine JL.call [] [] [] (ref19_Blocks.ok j1 Aa2 c3 Aa5 c6 _ hc138) ⟨pre_any 1 (view_rd Aa2 c3 ((flInt .i64).kd) j1.X_ true true), ⟨pre_any 2 (view_rd Aa5 c6 ((flInt .i64).kd) j1.Y true true), trivial⟩⟩ ?_
     rintro _ _ ⟨rfl, rfl⟩
     refine JL.mv (.tuple #[.int .i64 t137.1, .int .i64 t137.2]) ?_
     refine JL.pur (.int .i64 t137.1) (some 43) ?_
     refine JL.pur (.int .i64 t137.2) (some 44) ?_
     refine JL.as (.int .i64 t137.1) ?_
     refine JL.as (.int .i64 t137.2) ?_
     refine JL.nil ?_
     refine JQ.then_normal ?_
     refine JQ.sub [(1, .int .i64 block8), (2, .int .i64 n9), (3, .pointer (some ⟨b10, 0, none⟩)), (7, .pointer (some ⟨b127, 0, none⟩)), (8, .int .i64 t135.1), (9, .int .i64 t135.2), (10, .int .i64 t137.1), (11, .int .i64 t137.2)] ?_
     refine J.seq ?_
     refine J.region ?_
     refine JL.val (.agg #[.slice Aa129 (([] : List Int) ++ j1.X_).length c130, .slice Aa132 (([] : List Int) ++ j1.Y).length c133, .int .i64 j1.Most, .int .i64 j1.Size]) (some 46) (yields_load_boxes 3 0 [.slice Aa129 (([] : List Int) ++ j1.X_).length c130, .slice Aa132 (([] : List Int) ++ j1.Y).length c133, .int .i64 j1.Most, .int .i64 j1.Size] (holds_box b127 24 [.slice Aa129 (([] : List Int) ++ j1.X_).length c130, .slice Aa132 (([] : List Int) ++ j1.Y).length c133, .int .i64 j1.Most, .int .i64 j1.Size]) tyAgg_24 tySize_24) ?_
     refine JL.mv (.int .i64 block8) ?_
     obtain ⟨t139, hc140, H0⟩ := bind_some H0
     refine JL.call [] [] [] (worker_Part.ok (⟨(([] : List Int) ++ j1.X_), (([] : List Int) ++ j1.Y), j1.Most, j1.Size⟩ : Job) Aa129 c130 Aa132 c133 block8 _ hc140) ⟨pre_view 4 (view_row Aa129 c130 3 ((flInt .i64).kd) (([] : List Int) ++ j1.X_) false true), ⟨pre_view 5 (view_row Aa132 c133 3 ((flInt .i64).kd) (([] : List Int) ++ j1.Y) false true), trivial⟩⟩ ?_
     rintro _ _ ⟨Aa141, c142, rfl, rfl⟩
     refine JL.mv (.tuple #[.slice Aa141 t139.1.length c142, .int .i64 t139.2]) ?_
     refine JL.pur (.slice Aa141 t139.1.length c142) (some 49) ?_
     refine JL.pur (.int .i64 t139.2) (some 50) ?_
     refine JL.as (.slice Aa141 t139.1.length c142) ?_
     refine JL.as (.int .i64 t139.2) ?_
     refine JL.nil ?_
     refine JQ.then_normal ?_
     refine JQ.sub [(1, .int .i64 block8), (2, .int .i64 n9), (3, .pointer (some ⟨b10, 0, none⟩)), (7, .pointer (some ⟨b127, 0, none⟩)), (8, .int .i64 t135.1), (9, .int .i64 t135.2), (10, .int .i64 t137.1), (11, .int .i64 t137.2), (12, .slice Aa141 t139.1.length c142), (13, .int .i64 t139.2)] ?_
     refine J.seq ?_
     refine J.region ?_
     refine JL.val (.agg #[.slice Aa2 j1.X_.length c3, .slice Aa5 j1.Y.length c6, .int .i64 j1.Most, .int .i64 j1.Size]) (some 52) (yields_load_boxes 0 0 [.slice Aa2 j1.X_.length c3, .slice Aa5 j1.Y.length c6, .int .i64 j1.Most, .int .i64 j1.Size] (holds_box b10 24 [.slice Aa2 j1.X_.length c3, .slice Aa5 j1.Y.length c6, .int .i64 j1.Most, .int .i64 j1.Size]) tyAgg_24 tySize_24) ?_
     refine JL.mv (.int .i64 block8) ?_
     obtain ⟨t144, hc145, H0⟩ := bind_some H0
     refine JL.call [] [] [] (ref19_Part.ok j1 Aa2 c3 Aa5 c6 block8 _ hc145) ⟨pre_any 1 (view_rd Aa2 c3 ((flInt .i64).kd) j1.X_ true true), ⟨pre_any 2 (view_rd Aa5 c6 ((flInt .i64).kd) j1.Y true true), trivial⟩⟩ ?_
     rintro _ _ ⟨Aa146, c147, rfl, rfl⟩
     refine JL.mv (.tuple #[.slice Aa146 t144.1.length c147, .int .i64 t144.2]) ?_
     refine JL.pur (.slice Aa146 t144.1.length c147) (some 55) ?_
     refine JL.pur (.int .i64 t144.2) (some 56) ?_
     refine JL.as (.slice Aa146 t144.1.length c147) ?_
     refine JL.as (.int .i64 t144.2) ?_
     refine JL.nil ?_
     refine JQ.then_normal ?_
     refine JQ.sub [(2, .int .i64 n9), (3, .pointer (some ⟨b10, 0, none⟩)), (7, .pointer (some ⟨b127, 0, none⟩)), (8, .int .i64 t135.1), (9, .int .i64 t135.2), (10, .int .i64 t137.1), (11, .int .i64 t137.2), (12, .slice Aa141 t139.1.length c142), (13, .int .i64 t139.2), (14, .slice Aa146 t144.1.length c147), (15, .int .i64 t144.2)] ?_
     refine J.seq ?_
     refine J.region ?_
     refine JL.val (.agg #[.slice Aa129 (([] : List Int) ++ j1.X_).length c130, .slice Aa132 (([] : List Int) ++ j1.Y).length c133, .int .i64 j1.Most, .int .i64 j1.Size]) (some 58) (yields_load_boxes 3 0 [.slice Aa129 (([] : List Int) ++ j1.X_).length c130, .slice Aa132 (([] : List Int) ++ j1.Y).length c133, .int .i64 j1.Most, .int .i64 j1.Size] (holds_box b127 24 [.slice Aa129 (([] : List Int) ++ j1.X_).length c130, .slice Aa132 (([] : List Int) ++ j1.Y).length c133, .int .i64 j1.Most, .int .i64 j1.Size]) tyAgg_24 tySize_24) ?_
     refine JL.mv (.int .i64 n9) ?_
     obtain ⟨t149, hc150, H0⟩ := bind_some H0
     refine JL.call [] [] [] (worker_Open.ok (⟨(([] : List Int) ++ j1.X_), (([] : List Int) ++ j1.Y), j1.Most, j1.Size⟩ : Job) Aa129 c130 Aa132 c133 n9 _ hc150) ⟨pre_view 4 (view_row Aa129 c130 3 ((flInt .i64).kd) (([] : List Int) ++ j1.X_) false true), ⟨pre_view 5 (view_row Aa132 c133 3 ((flInt .i64).kd) (([] : List Int) ++ j1.Y) false true), trivial⟩⟩ ?_
     rintro _ _ ⟨Aa151, c152, Aa154, c155, Aa157, c158, Aa160, c161, Aa163, c164, rfl, rfl⟩
     refine JL.mv (.tuple #[.agg #[.slice Aa151 t149.1.Sum.Sums.length c152, .slice Aa154 t149.1.Sum.Ns.length c155, .slice Aa157 t149.1.Sum.Spans.length c158, .slice Aa160 t149.1.Done.length c161, .slice Aa163 t149.1.At.length c164], .int .i64 t149.2]) ?_
     refine JL.pur (.agg #[.slice Aa151 t149.1.Sum.Sums.length c152, .slice Aa154 t149.1.Sum.Ns.length c155, .slice Aa157 t149.1.Sum.Spans.length c158, .slice Aa160 t149.1.Done.length c161, .slice Aa163 t149.1.At.length c164]) (some 61) ?_
     refine JL.pur (.int .i64 t149.2) (some 62) ?_
     refine JL.alloc [.slice none 0 0, .slice none 0 0, .slice none 0 0, .slice none 0 0, .slice none 0 0] fun b166 => ?_
     refine JL.store 13 b166 0 42 [.slice none 0 0, .slice none 0 0, .slice none 0 0, .slice none 0 0, .slice none 0 0] [.slice Aa151 t149.1.Sum.Sums.length c152, .slice Aa154 t149.1.Sum.Ns.length c155, .slice Aa157 t149.1.Sum.Spans.length c158, .slice Aa160 t149.1.Done.length c161, .slice Aa163 t149.1.At.length c164] tySize_42 ?_
     refine JL.as (.int .i64 t149.2) ?_
     refine JL.nil ?_
     refine JQ.then_normal ?_
     refine JQ.sub [(2, .int .i64 n9), (3, .pointer (some ⟨b10, 0, none⟩)), (7, .pointer (some ⟨b127, 0, none⟩)), (8, .int .i64 t135.1), (9, .int .i64 t135.2), (10, .int .i64 t137.1), (11, .int .i64 t137.2), (12, .slice Aa141 t139.1.length c142), (13, .int .i64 t139.2), (14, .slice Aa146 t144.1.length c147), (15, .int .i64 t144.2), (16, .pointer (some ⟨b166, 0, none⟩)), (17, .int .i64 t149.2)] ?_
     refine J.seq ?_
     refine J.region ?_
     refine JL.val (.agg #[.slice Aa2 j1.X_.length c3, .slice Aa5 j1.Y.length c6, .int .i64 j1.Most, .int .i64 j1.Size]) (some 64) (yields_load_boxes 0 0 [.slice Aa2 j1.X_.length c3, .slice Aa5 j1.Y.length c6, .int .i64 j1.Most, .int .i64 j1.Size] (holds_box b10 24 [.slice Aa2 j1.X_.length c3, .slice Aa5 j1.Y.length c6, .int .i64 j1.Most, .int .i64 j1.Size]) tyAgg_24 tySize_24) ?_
     refine JL.mv (.int .i64 n9) ?_
     obtain ⟨t167, hc168, H0⟩ := bind_some H0
     refine JL.call [] [] [] (ref19_Open.ok j1 Aa2 c3 Aa5 c6 n9 _ hc168) ⟨pre_any 1 (view_rd Aa2 c3 ((flInt .i64).kd) j1.X_ true true), ⟨pre_any 2 (view_rd Aa5 c6 ((flInt .i64).kd) j1.Y true true), trivial⟩⟩ ?_
     rintro _ _ ⟨Aa169, c170, Aa172, c173, Aa175, c176, Aa178, c179, Aa181, c182, rfl, rfl⟩
     refine JL.mv (.tuple #[.agg #[.slice Aa169 t167.1.Sum.Sums.length c170, .slice Aa172 t167.1.Sum.Ns.length c173, .slice Aa175 t167.1.Sum.Spans.length c176, .slice Aa178 t167.1.Done.length c179, .slice Aa181 t167.1.At.length c182], .int .i64 t167.2]) ?_
     refine JL.pur (.agg #[.slice Aa169 t167.1.Sum.Sums.length c170, .slice Aa172 t167.1.Sum.Ns.length c173, .slice Aa175 t167.1.Sum.Spans.length c176, .slice Aa178 t167.1.Done.length c179, .slice Aa181 t167.1.At.length c182]) (some 67) ?_
     refine JL.pur (.int .i64 t167.2) (some 68) ?_
     refine JL.alloc [.slice none 0 0, .slice none 0 0, .slice none 0 0, .slice none 0 0, .slice none 0 0] fun b184 => ?_
     refine JL.store 19 b184 0 42 [.slice none 0 0, .slice none 0 0, .slice none 0 0, .slice none 0 0, .slice none 0 0] [.slice Aa169 t167.1.Sum.Sums.length c170, .slice Aa172 t167.1.Sum.Ns.length c173, .slice Aa175 t167.1.Sum.Spans.length c176, .slice Aa178 t167.1.Done.length c179, .slice Aa181 t167.1.At.length c182] tySize_42 ?_
     refine JL.as (.int .i64 t167.2) ?_
     refine JL.nil ?_
     refine JQ.then_normal ?_
     refine JQ.sub [(3, .pointer (some ⟨b10, 0, none⟩)), (7, .pointer (some ⟨b127, 0, none⟩)), (8, .int .i64 t135.1), (9, .int .i64 t135.2), (10, .int .i64 t137.1), (11, .int .i64 t137.2), (12, .slice Aa141 t139.1.length c142), (13, .int .i64 t139.2), (14, .slice Aa146 t144.1.length c147), (15, .int .i64 t144.2), (16, .pointer (some ⟨b166, 0, none⟩)), (17, .int .i64 t149.2), (18, .pointer (some ⟨b184, 0, none⟩)), (19, .int .i64 t167.2)] ?_
     refine J.seq ?_
     refine J.draw ?_
     refine QL.val (.agg #[.slice Aa129 (([] : List Int) ++ j1.X_).length c130, .slice Aa132 (([] : List Int) ++ j1.Y).length c133, .int .i64 j1.Most, .int .i64 j1.Size]) (some 69) (yields_load_boxes 3 0 [.slice Aa129 (([] : List Int) ++ j1.X_).length c130, .slice Aa132 (([] : List Int) ++ j1.Y).length c133, .int .i64 j1.Most, .int .i64 j1.Size] (holds_box b127 24 [.slice Aa129 (([] : List Int) ++ j1.X_).length c130, .slice Aa132 (([] : List Int) ++ j1.Y).length c133, .int .i64 j1.Most, .int .i64 j1.Size]) tyAgg_24 tySize_24) ?_
     obtain ⟨t185, hc186, H0⟩ := bind_some H0
     refine QL.call [] [] (worker_Check.ok (⟨(([] : List Int) ++ j1.X_), (([] : List Int) ++ j1.Y), j1.Most, j1.Size⟩ : Job) Aa129 c130 Aa132 c133 _ hc186) ⟨pre_view 4 (view_row Aa129 c130 3 ((flInt .i64).kd) (([] : List Int) ++ j1.X_) false true), ⟨pre_view 5 (view_row Aa132 c133 3 ((flInt .i64).kd) (([] : List Int) ++ j1.Y) false true), trivial⟩⟩ ?_
     refine QL.val (.agg #[.slice Aa2 j1.X_.length c3, .slice Aa5 j1.Y.length c6, .int .i64 j1.Most, .int .i64 j1.Size]) (some 71) (yields_load_boxes 0 0 [.slice Aa2 j1.X_.length c3, .slice Aa5 j1.Y.length c6, .int .i64 j1.Most, .int .i64 j1.Size] (holds_box b10 24 [.slice Aa2 j1.X_.length c3, .slice Aa5 j1.Y.length c6, .int .i64 j1.Most, .int .i64 j1.Size]) tyAgg_24 tySize_24) ?_
     obtain ⟨t187, hc188, H0⟩ := bind_some H0
     refine QL.call [] [] (ref19_Check.ok j1 Aa2 c3 Aa5 c6 _ hc188) ⟨pre_any 1 (view_rd Aa2 c3 ((flInt .i64).kd) j1.X_ true true), ⟨pre_any 2 (view_rd Aa5 c6 ((flInt .i64).kd) j1.Y true true), trivial⟩⟩ ?_
     refine QL.pur (.bool (decide (t185 = t187))) (some 73) ?_
     refine QL.mv (.bool (decide (t185 = t187))) ?_
     rcases ite_cases H0 with ⟨h189, H0⟩ | ⟨h189, H0⟩
     · refine QL.on 5 74 h189 ?_
       refine QL.mv (.int .i64 t135.1) ?_
       refine QL.on 5 74 h189 ?_
       refine QL.mv (.int .i64 t137.1) ?_
       refine QL.on 5 74 h189 ?_
       refine QL.pur (.bool (decide (t135.1 = t137.1))) (some 77) ?_
       refine QL.val (.bool (decide (t135.1 = t137.1))) (some 78) (gives_pickT h189) ?_
       refine QL.mv (.bool (decide (t135.1 = t137.1))) ?_
       rcases ite_cases H0 with ⟨h190, H0⟩ | ⟨h190, H0⟩
       · refine QL.on 10 79 h190 ?_
         refine QL.mv (.int .i64 t135.2) ?_
         refine QL.on 10 79 h190 ?_
         refine QL.mv (.int .i64 t137.2) ?_
         refine QL.on 10 79 h190 ?_
         refine QL.pur (.bool (decide (t135.2 = t137.2))) (some 82) ?_
         refine QL.val (.bool (decide (t135.2 = t137.2))) (some 83) (gives_pickT h190) ?_
         refine QL.mv (.bool (decide (t135.2 = t137.2))) ?_
         rcases ite_cases H0 with ⟨h191, H0⟩ | ⟨h191, H0⟩
         · refine QL.on 15 84 h191 ?_
           refine QL.mv (.slice Aa141 t139.1.length c142) ?_
           refine QL.on 15 84 h191 ?_
           refine QL.mv (.slice Aa146 t144.1.length c147) ?_
           refine QL.on 15 84 h191 ?_
           obtain ⟨t192, hc193, H0⟩ := bind_some H0
           refine QL.call [] [] (ref16_Same.ok t139.1 Aa141 c142 t144.1 Aa146 c147 _ hc193) ⟨pre_view 6 (view_row Aa141 c142 65 fl_Lag.kd t139.1 false true), ⟨pre_view 7 (view_row Aa146 c147 65 fl_Lag.kd t144.1 false true), trivial⟩⟩ ?_
           refine QL.val (.bool t192) (some 88) (gives_pickT h191) ?_
           refine QL.mv (.bool t192) ?_
           rcases ite_cases H0 with ⟨h194, H0⟩ | ⟨h194, H0⟩
           · refine QL.on 20 89 h194 ?_
             refine QL.mv (.int .i64 t139.2) ?_
             refine QL.on 20 89 h194 ?_
             refine QL.mv (.int .i64 t144.2) ?_
             refine QL.on 20 89 h194 ?_
             refine QL.pur (.bool (decide (t139.2 = t144.2))) (some 92) ?_
             refine QL.val (.bool (decide (t139.2 = t144.2))) (some 93) (gives_pickT h194) ?_
             refine QL.mv (.bool (decide (t139.2 = t144.2))) ?_
             rcases ite_cases H0 with ⟨h195, H0⟩ | ⟨h195, H0⟩
             · refine QL.on 25 94 h195 ?_
               refine QL.val (.agg #[.slice Aa151 t149.1.Sum.Sums.length c152, .slice Aa154 t149.1.Sum.Ns.length c155, .slice Aa157 t149.1.Sum.Spans.length c158, .slice Aa160 t149.1.Done.length c161, .slice Aa163 t149.1.At.length c164]) (some 95) (yields_load_boxes 13 0 [.slice Aa151 t149.1.Sum.Sums.length c152, .slice Aa154 t149.1.Sum.Ns.length c155, .slice Aa157 t149.1.Sum.Spans.length c158, .slice Aa160 t149.1.Done.length c161, .slice Aa163 t149.1.At.length c164] (holds_box b166 42 [.slice Aa151 t149.1.Sum.Sums.length c152, .slice Aa154 t149.1.Sum.Ns.length c155, .slice Aa157 t149.1.Sum.Spans.length c158, .slice Aa160 t149.1.Done.length c161, .slice Aa163 t149.1.At.length c164]) tyAgg_42 tySize_42) ?_
               refine QL.on 25 94 h195 ?_
               refine QL.val (.agg #[.slice Aa169 t167.1.Sum.Sums.length c170, .slice Aa172 t167.1.Sum.Ns.length c173, .slice Aa175 t167.1.Sum.Spans.length c176, .slice Aa178 t167.1.Done.length c179, .slice Aa181 t167.1.At.length c182]) (some 96) (yields_load_boxes 19 0 [.slice Aa169 t167.1.Sum.Sums.length c170, .slice Aa172 t167.1.Sum.Ns.length c173, .slice Aa175 t167.1.Sum.Spans.length c176, .slice Aa178 t167.1.Done.length c179, .slice Aa181 t167.1.At.length c182] (holds_box b184 42 [.slice Aa169 t167.1.Sum.Sums.length c170, .slice Aa172 t167.1.Sum.Ns.length c173, .slice Aa175 t167.1.Sum.Spans.length c176, .slice Aa178 t167.1.Done.length c179, .slice Aa181 t167.1.At.length c182]) tyAgg_42 tySize_42) ?_
               refine QL.on 25 94 h195 ?_
               obtain ⟨t196, hc197, H0⟩ := bind_some H0
               refine QL.call [] [] (ref19_Same.ok t149.1 Aa151 c152 Aa154 c155 Aa157 c158 Aa160 c161 Aa163 c164 t167.1 Aa169 c170 Aa172 c173 Aa175 c176 Aa178 c179 Aa181 c182 _ hc197) ⟨pre_view 8 (view_row Aa151 c152 74 fl_Count.kd t149.1.Sum.Sums false true), ⟨pre_view 9 (view_row Aa154 c155 74 fl_Count.kd t149.1.Sum.Ns false true), ⟨pre_view 10 (view_row Aa157 c158 79 fl_Gap.kd t149.1.Sum.Spans false true), ⟨pre_view 11 (view_row Aa160 c161 4 flBool.kd t149.1.Done false true), ⟨pre_view 12 (view_row Aa163 c164 3 ((flInt .i64).kd) t149.1.At false true), ⟨pre_view 14 (view_row Aa169 c170 74 fl_Count.kd t167.1.Sum.Sums false true), ⟨pre_view 15 (view_row Aa172 c173 74 fl_Count.kd t167.1.Sum.Ns false true), ⟨pre_view 16 (view_row Aa175 c176 79 fl_Gap.kd t167.1.Sum.Spans false true), ⟨pre_view 17 (view_row Aa178 c179 4 flBool.kd t167.1.Done false true), ⟨pre_view 18 (view_row Aa181 c182 3 ((flInt .i64).kd) t167.1.At false true), trivial⟩⟩⟩⟩⟩⟩⟩⟩⟩⟩ ?_
               refine QL.val (.bool t196) (some 98) (gives_pickT h195) ?_
               refine QL.mv (.bool t196) ?_
               rcases ite_cases H0 with ⟨h198, H0⟩ | ⟨h198, H0⟩
               · refine QL.on 30 99 h198 ?_
                 refine QL.mv (.int .i64 t149.2) ?_
                 refine QL.on 30 99 h198 ?_
                 refine QL.mv (.int .i64 t167.2) ?_
                 refine QL.on 30 99 h198 ?_
                 refine QL.pur (.bool (decide (t149.2 = t167.2))) (some 102) ?_
                 refine QL.val (.bool (decide (t149.2 = t167.2))) (some 103) (gives_pickT h198) ?_
                 refine QL.mv (.bool (decide (t149.2 = t167.2))) ?_
                 rcases ite_cases H0 with ⟨h199, H0⟩ | ⟨h199, H0⟩
                 · refine QL.on 35 104 h199 ?_
                   refine QL.pur (.pointer (some ⟨b127, 0, none⟩)) (some 105) ?_
                   refine QL.on 35 104 h199 ?_
                   refine QL.val (.slice Aa129 (([] : List Int) ++ j1.X_).length c130) (some 106) (yields_load_box 3 0 (holds_box b127 24 [.slice Aa129 (([] : List Int) ++ j1.X_).length c130, .slice Aa132 (([] : List Int) ++ j1.Y).length c133, .int .i64 j1.Most, .int .i64 j1.Size]) tyAgg_22) ?_
                   refine QL.on 35 104 h199 ?_
                   refine QL.pur (.pointer (some ⟨b10, 0, none⟩)) (some 107) ?_
                   refine QL.on 35 104 h199 ?_
                   refine QL.val (.slice Aa2 j1.X_.length c3) (some 108) (yields_load_box 0 0 (holds_box b10 24 [.slice Aa2 j1.X_.length c3, .slice Aa5 j1.Y.length c6, .int .i64 j1.Most, .int .i64 j1.Size]) tyAgg_22) ?_
                   refine QL.on 35 104 h199 ?_
                   obtain ⟨t200, hc201, H0⟩ := bind_some H0
                   refine QL.call [] [] (ref13_Same.ok (([] : List Int) ++ j1.X_) Aa129 c130 j1.X_ Aa2 c3 _ hc201) ⟨pre_view 4 (view_row Aa129 c130 3 ((flInt .i64).kd) (([] : List Int) ++ j1.X_) false true), ⟨pre_any 1 (view_rd Aa2 c3 ((flInt .i64).kd) j1.X_ true true), trivial⟩⟩ ?_
                   refine QL.val (.bool t200) (some 110) (gives_pickT h199) ?_
                   refine QL.mv (.bool t200) ?_
                   rcases ite_cases H0 with ⟨h202, H0⟩ | ⟨h202, H0⟩
                   · refine QL.on 42 111 h202 ?_
                     refine QL.pur (.pointer (some ⟨b127, 1, none⟩)) (some 112) ?_
                     refine QL.on 42 111 h202 ?_
                     refine QL.val (.slice Aa132 (([] : List Int) ++ j1.Y).length c133) (some 113) (yields_load_box 3 1 (holds_box b127 24 [.slice Aa129 (([] : List Int) ++ j1.X_).length c130, .slice Aa132 (([] : List Int) ++ j1.Y).length c133, .int .i64 j1.Most, .int .i64 j1.Size]) tyAgg_22) ?_
                     refine QL.on 42 111 h202 ?_
                     refine QL.pur (.pointer (some ⟨b10, 1, none⟩)) (some 114) ?_
                     refine QL.on 42 111 h202 ?_
                     refine QL.val (.slice Aa5 j1.Y.length c6) (some 115) (yields_load_box 0 1 (holds_box b10 24 [.slice Aa2 j1.X_.length c3, .slice Aa5 j1.Y.length c6, .int .i64 j1.Most, .int .i64 j1.Size]) tyAgg_22) ?_
                     refine QL.on 42 111 h202 ?_
                     obtain ⟨t203, hc204, H0⟩ := bind_some H0
                     refine QL.call [] [] (ref13_Same.ok (([] : List Int) ++ j1.Y) Aa132 c133 j1.Y Aa5 c6 _ hc204) ⟨pre_view 5 (view_row Aa132 c133 3 ((flInt .i64).kd) (([] : List Int) ++ j1.Y) false true), ⟨pre_any 2 (view_rd Aa5 c6 ((flInt .i64).kd) j1.Y true true), trivial⟩⟩ ?_
                     refine QL.val (.bool t203) (some 117) (gives_pickT h202) ?_
                     refine QL.as (.bool t203) ?_
                     refine QL.nil ?_
                     refine JA.nil ?_
                     refine JQ.then_normal ?_
                     refine JQ.sub [(6, .bool t203)] ?_
                     refine JQ.mask [] [false, false, false, false, false, false, false, false, false, false, false, false, false, false, false, false, false, false, false, false] ?_
                     refine J.ret ?_
                     obtain rfl := Option.some.inj H0
                     exact JQ.done' (rs := [.tmp 6]) (vs := [.bool t203]) [] (.inr rfl) ⟨by kernel_rfl, trivial⟩ (fun _ h => Heap.to h) ⟨rfl, rfl⟩
                   · refine QL.off 42 111 true (some 112) h202 ?_
                     refine QL.off 42 111 true (some 113) h202 ?_
                     refine QL.off 42 111 true (some 114) h202 ?_
                     refine QL.off 42 111 true (some 115) h202 ?_
                     refine QL.off 42 111 true (some 116) h202 ?_
                     refine QL.val (.bool false) (some 117) (gives_pickF h202) ?_
                     refine QL.as (.bool false) ?_
                     refine QL.nil ?_
                     refine JA.nil ?_
                     refine JQ.then_normal ?_
                     refine JQ.sub [(6, .bool false)] ?_
                     refine JQ.mask [] [false, false, false, false, false, false, false, false, false, false, false, false, false, false, false, false, false, false, false, false] ?_
                     refine J.ret ?_
                     obtain rfl := Option.some.inj H0
                     exact JQ.done' (rs := [.tmp 6]) (vs := [.bool false]) [] (.inr rfl) ⟨by kernel_rfl, trivial⟩ (fun _ h => Heap.to h) ⟨rfl, rfl⟩
                 · refine QL.off 35 104 true (some 105) h199 ?_
                   refine QL.off 35 104 true (some 106) h199 ?_
                   refine QL.off 35 104 true (some 107) h199 ?_
                   refine QL.off 35 104 true (some 108) h199 ?_
                   refine QL.off 35 104 true (some 109) h199 ?_
                   refine QL.val (.bool false) (some 110) (gives_pickF h199) ?_
                   refine QL.mv (.bool false) ?_
                   refine QL.off 42 111 true (some 112) rfl ?_
                   refine QL.off 42 111 true (some 113) rfl ?_
                   refine QL.off 42 111 true (some 114) rfl ?_
                   refine QL.off 42 111 true (some 115) rfl ?_
                   refine QL.off 42 111 true (some 116) rfl ?_
                   refine QL.val (.bool false) (some 117) (gives_pickF rfl) ?_
                   refine QL.as (.bool false) ?_
                   refine QL.nil ?_
                   refine JA.nil ?_
                   refine JQ.then_normal ?_
                   refine JQ.sub [(6, .bool false)] ?_
                   refine JQ.mask [] [false, false, false, false, false, false, false, false, false, false, false, false, false, false, false, false, false, false, false, false] ?_
                   refine J.ret ?_
                   obtain rfl := Option.some.inj H0
                   exact JQ.done' (rs := [.tmp 6]) (vs := [.bool false]) [] (.inr rfl) ⟨by kernel_rfl, trivial⟩ (fun _ h => Heap.to h) ⟨rfl, rfl⟩
               · refine QL.off 30 99 true (some 100) h198 ?_
                 refine QL.off 30 99 true (some 101) h198 ?_
                 refine QL.off 30 99 true (some 102) h198 ?_
                 refine QL.val (.bool false) (some 103) (gives_pickF h198) ?_
                 refine QL.mv (.bool false) ?_
                 refine QL.off 35 104 true (some 105) rfl ?_
                 refine QL.off 35 104 true (some 106) rfl ?_
                 refine QL.off 35 104 true (some 107) rfl ?_
                 refine QL.off 35 104 true (some 108) rfl ?_
                 refine QL.off 35 104 true (some 109) rfl ?_
                 refine QL.val (.bool false) (some 110) (gives_pickF rfl) ?_
                 refine QL.mv (.bool false) ?_
                 refine QL.off 42 111 true (some 112) rfl ?_
                 refine QL.off 42 111 true (some 113) rfl ?_
                 refine QL.off 42 111 true (some 114) rfl ?_
                 refine QL.off 42 111 true (some 115) rfl ?_
                 refine QL.off 42 111 true (some 116) rfl ?_
                 refine QL.val (.bool false) (some 117) (gives_pickF rfl) ?_
                 refine QL.as (.bool false) ?_
                 refine QL.nil ?_
                 refine JA.nil ?_
                 refine JQ.then_normal ?_
                 refine JQ.sub [(6, .bool false)] ?_
                 refine JQ.mask [] [false, false, false, false, false, false, false, false, false, false, false, false, false, false, false, false, false, false, false, false] ?_
                 refine J.ret ?_
                 obtain rfl := Option.some.inj H0
                 exact JQ.done' (rs := [.tmp 6]) (vs := [.bool false]) [] (.inr rfl) ⟨by kernel_rfl, trivial⟩ (fun _ h => Heap.to h) ⟨rfl, rfl⟩
             · refine QL.off 25 94 true (some 95) h195 ?_
               refine QL.off 25 94 true (some 96) h195 ?_
               refine QL.off 25 94 true (some 97) h195 ?_
               refine QL.val (.bool false) (some 98) (gives_pickF h195) ?_
               refine QL.mv (.bool false) ?_
               refine QL.off 30 99 true (some 100) rfl ?_
               refine QL.off 30 99 true (some 101) rfl ?_
               refine QL.off 30 99 true (some 102) rfl ?_
               refine QL.val (.bool false) (some 103) (gives_pickF rfl) ?_
               refine QL.mv (.bool false) ?_
               refine QL.off 35 104 true (some 105) rfl ?_
               refine QL.off 35 104 true (some 106) rfl ?_
               refine QL.off 35 104 true (some 107) rfl ?_
               refine QL.off 35 104 true (some 108) rfl ?_
               refine QL.off 35 104 true (some 109) rfl ?_
               refine QL.val (.bool false) (some 110) (gives_pickF rfl) ?_
               refine QL.mv (.bool false) ?_
               refine QL.off 42 111 true (some 112) rfl ?_
               refine QL.off 42 111 true (some 113) rfl ?_
               refine QL.off 42 111 true (some 114) rfl ?_
               refine QL.off 42 111 true (some 115) rfl ?_
               refine QL.off 42 111 true (some 116) rfl ?_
               refine QL.val (.bool false) (some 117) (gives_pickF rfl) ?_
               refine QL.as (.bool false) ?_
               refine QL.nil ?_
               refine JA.nil ?_
               refine JQ.then_normal ?_
               refine JQ.sub [(6, .bool false)] ?_
               refine JQ.mask [] [false, false, false, false, false, false, false, false, false, false, false, false, false, false, false, false, false, false, false, false] ?_
               refine J.ret ?_
               obtain rfl := Option.some.inj H0
               exact JQ.done' (rs := [.tmp 6]) (vs := [.bool false]) [] (.inr rfl) ⟨by kernel_rfl, trivial⟩ (fun _ h => Heap.to h) ⟨rfl, rfl⟩
           · refine QL.off 20 89 true (some 90) h194 ?_
             refine QL.off 20 89 true (some 91) h194 ?_
             refine QL.off 20 89 true (some 92) h194 ?_
             refine QL.val (.bool false) (some 93) (gives_pickF h194) ?_
             refine QL.mv (.bool false) ?_
             refine QL.off 25 94 true (some 95) rfl ?_
             refine QL.off 25 94 true (some 96) rfl ?_
             refine QL.off 25 94 true (some 97) rfl ?_
             refine QL.val (.bool false) (some 98) (gives_pickF rfl) ?_
             refine QL.mv (.bool false) ?_
             refine QL.off 30 99 true (some 100) rfl ?_
             refine QL.off 30 99 true (some 101) rfl ?_
             refine QL.off 30 99 true (some 102) rfl ?_
             refine QL.val (.bool false) (some 103) (gives_pickF rfl) ?_
             refine QL.mv (.bool false) ?_
             refine QL.off 35 104 true (some 105) rfl ?_
             refine QL.off 35 104 true (some 106) rfl ?_
             refine QL.off 35 104 true (some 107) rfl ?_
             refine QL.off 35 104 true (some 108) rfl ?_
             refine QL.off 35 104 true (some 109) rfl ?_
             refine QL.val (.bool false) (some 110) (gives_pickF rfl) ?_
             refine QL.mv (.bool false) ?_
             refine QL.off 42 111 true (some 112) rfl ?_
             refine QL.off 42 111 true (some 113) rfl ?_
             refine QL.off 42 111 true (some 114) rfl ?_
             refine QL.off 42 111 true (some 115) rfl ?_
             refine QL.off 42 111 true (some 116) rfl ?_
             refine QL.val (.bool false) (some 117) (gives_pickF rfl) ?_
             refine QL.as (.bool false) ?_
             refine QL.nil ?_
             refine JA.nil ?_
             refine JQ.then_normal ?_
             refine JQ.sub [(6, .bool false)] ?_
             refine JQ.mask [] [false, false, false, false, false, false, false, false, false, false, false, false, false, false, false, false, false, false, false, false] ?_
             refine J.ret ?_
             obtain rfl := Option.some.inj H0
             exact JQ.done' (rs := [.tmp 6]) (vs := [.bool false]) [] (.inr rfl) ⟨by kernel_rfl, trivial⟩ (fun _ h => Heap.to h) ⟨rfl, rfl⟩
         · refine QL.off 15 84 true (some 85) h191 ?_
           refine QL.off 15 84 true (some 86) h191 ?_
           refine QL.off 15 84 true (some 87) h191 ?_
           refine QL.val (.bool false) (some 88) (gives_pickF h191) ?_
           refine QL.mv (.bool false) ?_
           refine QL.off 20 89 true (some 90) rfl ?_
           refine QL.off 20 89 true (some 91) rfl ?_
           refine QL.off 20 89 true (some 92) rfl ?_
           refine QL.val (.bool false) (some 93) (gives_pickF rfl) ?_
           refine QL.mv (.bool false) ?_
           refine QL.off 25 94 true (some 95) rfl ?_
           refine QL.off 25 94 true (some 96) rfl ?_
           refine QL.off 25 94 true (some 97) rfl ?_
           refine QL.val (.bool false) (some 98) (gives_pickF rfl) ?_
           refine QL.mv (.bool false) ?_
           refine QL.off 30 99 true (some 100) rfl ?_
           refine QL.off 30 99 true (some 101) rfl ?_
           refine QL.off 30 99 true (some 102) rfl ?_
           refine QL.val (.bool false) (some 103) (gives_pickF rfl) ?_
           refine QL.mv (.bool false) ?_
           refine QL.off 35 104 true (some 105) rfl ?_
           refine QL.off 35 104 true (some 106) rfl ?_
           refine QL.off 35 104 true (some 107) rfl ?_
           refine QL.off 35 104 true (some 108) rfl ?_
           refine QL.off 35 104 true (some 109) rfl ?_
           refine QL.val (.bool false) (some 110) (gives_pickF rfl) ?_
           refine QL.mv (.bool false) ?_
           refine QL.off 42 111 true (some 112) rfl ?_
           refine QL.off 42 111 true (some 113) rfl ?_
           refine QL.off 42 111 true (some 114) rfl ?_
           refine QL.off 42 111 true (some 115) rfl ?_
           refine QL.off 42 111 true (some 116) rfl ?_
           refine QL.val (.bool false) (some 117) (gives_pickF rfl) ?_
           refine QL.as (.bool false) ?_
           refine QL.nil ?_
           refine JA.nil ?_
           refine JQ.then_normal ?_
           refine JQ.sub [(6, .bool false)] ?_
           refine JQ.mask [] [false, false, false, false, false, false, false, false, false, false, false, false, false, false, false, false, false, false, false, false] ?_
           refine J.ret ?_
           obtain rfl := Option.some.inj H0
           exact JQ.done' (rs := [.tmp 6]) (vs := [.bool false]) [] (.inr rfl) ⟨by kernel_rfl, trivial⟩ (fun _ h => Heap.to h) ⟨rfl, rfl⟩
       · refine QL.off 10 79 true (some 80) h190 ?_
         refine QL.off 10 79 true (some 81) h190 ?_
         refine QL.off 10 79 true (some 82) h190 ?_
         refine QL.val (.bool false) (some 83) (gives_pickF h190) ?_
         refine QL.mv (.bool false) ?_
         refine QL.off 15 84 true (some 85) rfl ?_
         refine QL.off 15 84 true (some 86) rfl ?_
         refine QL.off 15 84 true (some 87) rfl ?_
         refine QL.val (.bool false) (some 88) (gives_pickF rfl) ?_
         refine QL.mv (.bool false) ?_
         refine QL.off 20 89 true (some 90) rfl ?_
         refine QL.off 20 89 true (some 91) rfl ?_
         refine QL.off 20 89 true (some 92) rfl ?_
         refine QL.val (.bool false) (some 93) (gives_pickF rfl) ?_
         refine QL.mv (.bool false) ?_
         refine QL.off 25 94 true (some 95) rfl ?_
         refine QL.off 25 94 true (some 96) rfl ?_
         refine QL.off 25 94 true (some 97) rfl ?_
         refine QL.val (.bool false) (some 98) (gives_pickF rfl) ?_
         refine QL.mv (.bool false) ?_
         refine QL.off 30 99 true (some 100) rfl ?_
         refine QL.off 30 99 true (some 101) rfl ?_
         refine QL.off 30 99 true (some 102) rfl ?_
         refine QL.val (.bool false) (some 103) (gives_pickF rfl) ?_
         refine QL.mv (.bool false) ?_
         refine QL.off 35 104 true (some 105) rfl ?_
         refine QL.off 35 104 true (some 106) rfl ?_
         refine QL.off 35 104 true (some 107) rfl ?_
         refine QL.off 35 104 true (some 108) rfl ?_
         refine QL.off 35 104 true (some 109) rfl ?_
         refine QL.val (.bool false) (some 110) (gives_pickF rfl) ?_
         refine QL.mv (.bool false) ?_
         refine QL.off 42 111 true (some 112) rfl ?_
         refine QL.off 42 111 true (some 113) rfl ?_
         refine QL.off 42 111 true (some 114) rfl ?_
         refine QL.off 42 111 true (some 115) rfl ?_
         refine QL.off 42 111 true (some 116) rfl ?_
         refine QL.val (.bool false) (some 117) (gives_pickF rfl) ?_
         refine QL.as (.bool false) ?_
         refine QL.nil ?_
         refine JA.nil ?_
         refine JQ.then_normal ?_
         refine JQ.sub [(6, .bool false)] ?_
         refine JQ.mask [] [false, false, false, false, false, false, false, false, false, false, false, false, false, false, false, false, false, false, false, false] ?_
         refine J.ret ?_
         obtain rfl := Option.some.inj H0
         exact JQ.done' (rs := [.tmp 6]) (vs := [.bool false]) [] (.inr rfl) ⟨by kernel_rfl, trivial⟩ (fun _ h => Heap.to h) ⟨rfl, rfl⟩
     · refine QL.off 5 74 true (some 75) h189 ?_
       refine QL.off 5 74 true (some 76) h189 ?_
       refine QL.off 5 74 true (some 77) h189 ?_
       refine QL.val (.bool false) (some 78) (gives_pickF h189) ?_
       refine QL.mv (.bool false) ?_
       refine QL.off 10 79 true (some 80) rfl ?_
       refine QL.off 10 79 true (some 81) rfl ?_
       refine QL.off 10 79 true (some 82) rfl ?_
       refine QL.val (.bool false) (some 83) (gives_pickF rfl) ?_
       refine QL.mv (.bool false) ?_
       refine QL.off 15 84 true (some 85) rfl ?_
       refine QL.off 15 84 true (some 86) rfl ?_
       refine QL.off 15 84 true (some 87) rfl ?_
       refine QL.val (.bool false) (some 88) (gives_pickF rfl) ?_
       refine QL.mv (.bool false) ?_
       refine QL.off 20 89 true (some 90) rfl ?_
       refine QL.off 20 89 true (some 91) rfl ?_
       refine QL.off 20 89 true (some 92) rfl ?_
       refine QL.val (.bool false) (some 93) (gives_pickF rfl) ?_
       refine QL.mv (.bool false) ?_
       refine QL.off 25 94 true (some 95) rfl ?_
       refine QL.off 25 94 true (some 96) rfl ?_
       refine QL.off 25 94 true (some 97) rfl ?_
       refine QL.val (.bool false) (some 98) (gives_pickF rfl) ?_
       refine QL.mv (.bool false) ?_
       refine QL.off 30 99 true (some 100) rfl ?_
       refine QL.off 30 99 true (some 101) rfl ?_
       refine QL.off 30 99 true (some 102) rfl ?_
       refine QL.val (.bool false) (some 103) (gives_pickF rfl) ?_
       refine QL.mv (.bool false) ?_
       refine QL.off 35 104 true (some 105) rfl ?_
       refine QL.off 35 104 true (some 106) rfl ?_
       refine QL.off 35 104 true (some 107) rfl ?_
       refine QL.off 35 104 true (some 108) rfl ?_
       refine QL.off 35 104 true (some 109) rfl ?_
       refine QL.val (.bool false) (some 110) (gives_pickF rfl) ?_
       refine QL.mv (.bool false) ?_
       refine QL.off 42 111 true (some 112) rfl ?_
       refine QL.off 42 111 true (some 113) rfl ?_
       refine QL.off 42 111 true (some 114) rfl ?_
       refine QL.off 42 111 true (some 115) rfl ?_
       refine QL.off 42 111 true (some 116) rfl ?_
       refine QL.val (.bool false) (some 117) (gives_pickF rfl) ?_
       refine QL.as (.bool false) ?_
       refine QL.nil ?_
       refine JA.nil ?_
       refine JQ.then_normal ?_
       refine JQ.sub [(6, .bool false)] ?_
       refine JQ.mask [] [false, false, false, false, false, false, false, false, false, false, false, false, false, false, false, false, false, false, false, false] ?_
       refine J.ret ?_
       obtain rfl := Option.some.inj H0
       exact JQ.done' (rs := [.tmp 6]) (vs := [.bool false]) [] (.inr rfl) ⟨by kernel_rfl, trivial⟩ (fun _ h => Heap.to h) ⟨rfl, rfl⟩


end Go.Proofs.Ytafploedondfpaa.M
