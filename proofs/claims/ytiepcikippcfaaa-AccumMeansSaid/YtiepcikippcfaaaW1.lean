import Derived.Test.YtiepcikippcfaaaW0
set_option linter.unusedVariables false
set_option linter.unusedSimpArgs false
set_option maxRecDepth 100000
set_option maxHeartbeats 8000000
namespace Go.Proofs.Ytiepcikippcfaaa.M
open Go.GW Go.Proofs

theorem law18_alive.ok  (r : Bool) (H0 : law18_alive.f = some r) :
    Does Try.prog 21 [].toArray [] [] false (fun v Δ => v = .bool r ∧ Δ = []) := by
 refine Does.body (vs := []) Try.func21 rfl trivial trivial fun w S => ?_
 unfold law18_alive.f at H0
 refine J.sr ?_
 refine JL.as (.bool false) ?_
 refine JL.es [] ?_
 refine J.sr ?_
 obtain ⟨t1, hc2, H0⟩ := bind_some H0
 refine JL.call [] [] [] (accum_New.ok 0 _ hc2) trivial ?_
 rintro _ _ ⟨Aa3, c4, Aa6, c7, Aa9, c10, rfl, rfl⟩
 refine JL.mv (.tuple #[.agg #[.slice Aa3 t1.1.Sums.length c4, .slice Aa6 t1.1.Ns.length c7, .slice Aa9 t1.1.Spans.length c10], .int .i64 t1.2]) ?_
 refine JL.pur (.agg #[.slice Aa3 t1.1.Sums.length c4, .slice Aa6 t1.1.Ns.length c7, .slice Aa9 t1.1.Spans.length c10]) (some 21) ?_
 refine JL.pur (.int .i64 t1.2) (some 22) ?_
 refine JL.alloc [.slice none 0 0, .slice none 0 0, .slice none 0 0] fun b12 => ?_
 refine JL.store 3 b12 0 25 [.slice none 0 0, .slice none 0 0, .slice none 0 0] [.slice Aa3 t1.1.Sums.length c4, .slice Aa6 t1.1.Ns.length c7, .slice Aa9 t1.1.Spans.length c10] tySize_25 ?_
 refine JL.as (.int .i64 t1.2) ?_
 refine JL.es [(1, .pointer (some ⟨b12, 0, none⟩)), (2, .int .i64 t1.2)] ?_
 refine J.sr ?_
 refine JL.val (.agg #[.slice Aa3 t1.1.Sums.length c4, .slice Aa6 t1.1.Ns.length c7, .slice Aa9 t1.1.Spans.length c10]) (some 24) (yields_load_boxes 3 0 [.slice Aa3 t1.1.Sums.length c4, .slice Aa6 t1.1.Ns.length c7, .slice Aa9 t1.1.Spans.length c10] (holds_box b12 25 [.slice Aa3 t1.1.Sums.length c4, .slice Aa6 t1.1.Ns.length c7, .slice Aa9 t1.1.Spans.length c10]) tyAgg_25 tySize_25) ?_
 refine JL.pur (.agg #[.int .i64 5, .int .i64 3]) (some 25) ?_
 refine JL.buildSl 56 fl_Lag.kd (([(⟨5, 3⟩ : Lag)] : List Lag) : List Lag) [.int .i64 5, .int .i64 3] false (closes_fl rfl) fun b13 => ?_
 obtain ⟨t14, hc15, H0⟩ := bind_some H0
 refine JL.call [] [] [] (accum_Add.ok t1.1 Aa3 c4 Aa6 c7 Aa9 c10 ([(⟨5, 3⟩ : Lag)] : List Lag) (some ⟨b13, 0, none⟩) 1 0 3 _ hc15) ⟨pre_view 0 (view_row Aa3 c4 49 fl_Count.kd t1.1.Sums false true), ⟨pre_view 1 (view_row Aa6 c7 49 fl_Count.kd t1.1.Ns false true), ⟨pre_view 2 (view_row Aa9 c10 51 fl_Gap.kd t1.1.Spans false true), ⟨pre_view 4 (view_row (some ⟨b13, 0, none⟩) 1 56 fl_Lag.kd ([(⟨5, 3⟩ : Lag)] : List Lag) false true), trivial⟩⟩⟩⟩ ?_
 rintro _ _ ⟨Aa16, c17, Aa19, c20, Aa22, c23, rfl, rfl⟩
 refine JL.mv (.tuple #[.agg #[.slice Aa16 t14.1.Sums.length c17, .slice Aa19 t14.1.Ns.length c20, .slice Aa22 t14.1.Spans.length c23], .int .i64 t14.2]) ?_
 refine JL.pur (.agg #[.slice Aa16 t14.1.Sums.length c17, .slice Aa19 t14.1.Ns.length c20, .slice Aa22 t14.1.Spans.length c23]) (some 28) ?_
 refine JL.pur (.int .i64 t14.2) (some 29) ?_
 refine JL.alloc [.slice none 0 0, .slice none 0 0, .slice none 0 0] fun b25 => ?_
 refine JL.store 8 b25 0 25 [.slice none 0 0, .slice none 0 0, .slice none 0 0] [.slice Aa16 t14.1.Sums.length c17, .slice Aa19 t14.1.Ns.length c20, .slice Aa22 t14.1.Spans.length c23] tySize_25 ?_
 refine JL.as (.int .i64 t14.2) ?_
 refine JL.es [(1, .pointer (some ⟨b12, 0, none⟩)), (2, .int .i64 t1.2), (3, .pointer (some ⟨b25, 0, none⟩)), (4, .int .i64 t14.2)] ?_
 refine JQ.mask [At.row Aa3 c4 49 fl_Count.kd t1.1.Sums false, At.row Aa6 c7 49 fl_Count.kd t1.1.Ns false, At.row Aa9 c10 51 fl_Gap.kd t1.1.Spans false, At.box b12 25 [.slice Aa3 t1.1.Sums.length c4, .slice Aa6 t1.1.Ns.length c7, .slice Aa9 t1.1.Spans.length c10], At.row Aa16 c17 49 fl_Count.kd t14.1.Sums false, At.row Aa19 c20 49 fl_Count.kd t14.1.Ns false, At.row Aa22 c23 51 fl_Gap.kd t14.1.Spans false, At.box b25 25 [.slice Aa16 t14.1.Sums.length c17, .slice Aa19 t14.1.Ns.length c20, .slice Aa22 t14.1.Spans.length c23]] [true, true, true, true, false, true, true, true, true] ?_
 refine J.sr ?_
 refine JL.val (.agg #[.slice Aa16 t14.1.Sums.length c17, .slice Aa19 t14.1.Ns.length c20, .slice Aa22 t14.1.Spans.length c23]) (some 31) (yields_load_boxes 7 0 [.slice Aa16 t14.1.Sums.length c17, .slice Aa19 t14.1.Ns.length c20, .slice Aa22 t14.1.Spans.length c23] (holds_box b25 25 [.slice Aa16 t14.1.Sums.length c17, .slice Aa19 t14.1.Ns.length c20, .slice Aa22 t14.1.Spans.length c23]) tyAgg_25 tySize_25) ?_
 refine JL.pur (.agg #[.int .i64 7, .int .i64 5]) (some 32) ?_
 refine JL.buildSl 56 fl_Lag.kd (([(⟨7, 5⟩ : Lag)] : List Lag) : List Lag) [.int .i64 7, .int .i64 5] false (closes_fl rfl) fun b26 => ?_
 obtain ⟨t27, hc28, H0⟩ := bind_some H0
 refine JL.call [] [] [] (accum_Add.ok t14.1 Aa16 c17 Aa19 c20 Aa22 c23 ([(⟨7, 5⟩ : Lag)] : List Lag) (some ⟨b26, 0, none⟩) 1 3 5 _ hc28) ⟨pre_view 4 (view_row Aa16 c17 49 fl_Count.kd t14.1.Sums false true), ⟨pre_view 5 (view_row Aa19 c20 49 fl_Count.kd t14.1.Ns false true), ⟨pre_view 6 (view_row Aa22 c23 51 fl_Gap.kd t14.1.Spans false true), ⟨pre_view 8 (view_row (some ⟨b26, 0, none⟩) 1 56 fl_Lag.kd ([(⟨7, 5⟩ : Lag)] : List Lag) false true), trivial⟩⟩⟩⟩ ?_
 rintro _ _ ⟨Aa29, c30, Aa32, c33, Aa35, c36, rfl, rfl⟩
 refine JL.mv (.tuple #[.agg #[.slice Aa29 t27.1.Sums.length c30, .slice Aa32 t27.1.Ns.length c33, .slice Aa35 t27.1.Spans.length c36], .int .i64 t27.2]) ?_
 refine JL.pur (.agg #[.slice Aa29 t27.1.Sums.length c30, .slice Aa32 t27.1.Ns.length c33, .slice Aa35 t27.1.Spans.length c36]) (some 35) ?_
 refine JL.pur (.int .i64 t27.2) (some 36) ?_
 refine JL.alloc [.slice none 0 0, .slice none 0 0, .slice none 0 0] fun b38 => ?_
 refine JL.store 12 b38 0 25 [.slice none 0 0, .slice none 0 0, .slice none 0 0] [.slice Aa29 t27.1.Sums.length c30, .slice Aa32 t27.1.Ns.length c33, .slice Aa35 t27.1.Spans.length c36] tySize_25 ?_
 refine JL.as (.int .i64 t27.2) ?_
 refine JL.es [(1, .pointer (some ⟨b12, 0, none⟩)), (2, .int .i64 t1.2), (4, .int .i64 t14.2), (5, .pointer (some ⟨b38, 0, none⟩)), (6, .int .i64 t27.2)] ?_
 refine JQ.mask [At.row Aa3 c4 49 fl_Count.kd t1.1.Sums false, At.row Aa6 c7 49 fl_Count.kd t1.1.Ns false, At.row Aa9 c10 51 fl_Gap.kd t1.1.Spans false, At.box b12 25 [.slice Aa3 t1.1.Sums.length c4, .slice Aa6 t1.1.Ns.length c7, .slice Aa9 t1.1.Spans.length c10], At.row Aa29 c30 49 fl_Count.kd t27.1.Sums false, At.row Aa32 c33 49 fl_Count.kd t27.1.Ns false, At.row Aa35 c36 51 fl_Gap.kd t27.1.Spans false, At.box b38 25 [.slice Aa29 t27.1.Sums.length c30, .slice Aa32 t27.1.Ns.length c33, .slice Aa35 t27.1.Spans.length c36]] [true, true, true, true, false, false, false, false, false, true, true, true, true] ?_
 refine J.sr ?_
 refine JL.val (.agg #[.slice Aa29 t27.1.Sums.length c30, .slice Aa32 t27.1.Ns.length c33, .slice Aa35 t27.1.Spans.length c36]) (some 38) (yields_load_boxes 7 0 [.slice Aa29 t27.1.Sums.length c30, .slice Aa32 t27.1.Ns.length c33, .slice Aa35 t27.1.Spans.length c36] (holds_box b38 25 [.slice Aa29 t27.1.Sums.length c30, .slice Aa32 t27.1.Ns.length c33, .slice Aa35 t27.1.Spans.length c36]) tyAgg_25 tySize_25) ?_
 obtain ⟨t39, hc40, H0⟩ := bind_some H0
 refine JL.call [] [] [] (accum_Value.ok t27.1 Aa29 c30 Aa32 c33 Aa35 c36 0 _ hc40) ⟨pre_view 4 (view_row Aa29 c30 49 fl_Count.kd t27.1.Sums false true), ⟨pre_view 5 (view_row Aa32 c33 49 fl_Count.kd t27.1.Ns false true), ⟨pre_view 6 (view_row Aa35 c36 51 fl_Gap.kd t27.1.Spans false true), trivial⟩⟩⟩ ?_
 rintro _ _ ⟨rfl, rfl⟩
 refine JL.mv (.tuple #[.int .i64 t39.1, .int .i64 t39.2.1, .int .i64 t39.2.2]) ?_
 refine JL.pur (.int .i64 t39.1) (some 40) ?_
 refine JL.pur (.int .i64 t39.2.1) (some 41) ?_
 refine JL.pur (.int .i64 t39.2.2) (some 42) ?_
 refine JL.as (.int .i64 t39.1) ?_
 refine JL.as (.int .i64 t39.2.1) ?_
 refine JL.as (.int .i64 t39.2.2) ?_
 refine JL.es [(1, .pointer (some ⟨b12, 0, none⟩)), (2, .int .i64 t1.2), (4, .int .i64 t14.2), (5, .pointer (some ⟨b38, 0, none⟩)), (6, .int .i64 t27.2), (7, .int .i64 t39.1), (8, .int .i64 t39.2.1), (9, .int .i64 t39.2.2)] ?_
 refine J.sr ?_
 refine JL.val (.agg #[.slice Aa29 t27.1.Sums.length c30, .slice Aa32 t27.1.Ns.length c33, .slice Aa35 t27.1.Spans.length c36]) (some 44) (yields_load_boxes 7 0 [.slice Aa29 t27.1.Sums.length c30, .slice Aa32 t27.1.Ns.length c33, .slice Aa35 t27.1.Spans.length c36] (holds_box b38 25 [.slice Aa29 t27.1.Sums.length c30, .slice Aa32 t27.1.Ns.length c33, .slice Aa35 t27.1.Spans.length c36]) tyAgg_25 tySize_25) ?_
 obtain ⟨t41, hc42, H0⟩ := bind_some H0
 refine JL.call [] [] [] (accum_Mean.ok t27.1 Aa29 c30 Aa32 c33 Aa35 c36 0 _ hc42) ⟨pre_view 4 (view_row Aa29 c30 49 fl_Count.kd t27.1.Sums false true), ⟨pre_view 5 (view_row Aa32 c33 49 fl_Count.kd t27.1.Ns false true), ⟨pre_view 6 (view_row Aa35 c36 51 fl_Gap.kd t27.1.Spans false true), trivial⟩⟩⟩ ?_
 rintro _ _ ⟨rfl, rfl⟩
 refine JL.mv (.tuple #[mv_37 t41.1, .int .i64 t41.2]) ?_
 refine JL.pur (mv_37 t41.1) (some 46) ?_
 refine JL.pur (.int .i64 t41.2) (some 47) ?_
 refine JL.alloc (cl_37 zv_37) fun b43 => ?_
 refine JL.store 8 b43 0 37 (cl_37 zv_37) (cl_37 t41.1) tySize_37 ?_
 refine JL.as (.int .i64 t41.2) ?_
 refine JL.es [(1, .pointer (some ⟨b12, 0, none⟩)), (2, .int .i64 t1.2), (4, .int .i64 t14.2), (5, .pointer (some ⟨b38, 0, none⟩)), (6, .int .i64 t27.2), (7, .int .i64 t39.1), (8, .int .i64 t39.2.1), (9, .int .i64 t39.2.2), (10, .pointer (some ⟨b43, 0, none⟩)), (11, .int .i64 t41.2)] ?_
 refine J.sr ?_
 refine JL.val (.agg #[.slice Aa29 t27.1.Sums.length c30, .slice Aa32 t27.1.Ns.length c33, .slice Aa35 t27.1.Spans.length c36]) (some 49) (yields_load_boxes 7 0 [.slice Aa29 t27.1.Sums.length c30, .slice Aa32 t27.1.Ns.length c33, .slice Aa35 t27.1.Spans.length c36] (holds_box b38 25 [.slice Aa29 t27.1.Sums.length c30, .slice Aa32 t27.1.Ns.length c33, .slice Aa35 t27.1.Spans.length c36]) tyAgg_25 tySize_25) ?_
 obtain ⟨t44, hc45, H0⟩ := bind_some H0
 refine JL.call [] [] [] (accum_Times.ok t27.1 Aa29 c30 Aa32 c33 Aa35 c36 _ hc45) ⟨pre_view 4 (view_row Aa29 c30 49 fl_Count.kd t27.1.Sums false true), ⟨pre_view 5 (view_row Aa32 c33 49 fl_Count.kd t27.1.Ns false true), ⟨pre_view 6 (view_row Aa35 c36 51 fl_Gap.kd t27.1.Spans false true), trivial⟩⟩⟩ ?_
 rintro _ _ ⟨rfl, rfl⟩
 refine JL.mv (.tuple #[.int .i64 t44.1, .int .i64 t44.2]) ?_
 refine JL.pur (.int .i64 t44.1) (some 51) ?_
 refine JL.pur (.int .i64 t44.2) (some 52) ?_
 refine JL.as (.int .i64 t44.1) ?_
 refine JL.as (.int .i64 t44.2) ?_
 refine JL.es [(1, .pointer (some ⟨b12, 0, none⟩)), (2, .int .i64 t1.2), (4, .int .i64 t14.2), (5, .pointer (some ⟨b38, 0, none⟩)), (6, .int .i64 t27.2), (7, .int .i64 t39.1), (8, .int .i64 t39.2.1), (9, .int .i64 t39.2.2), (10, .pointer (some ⟨b43, 0, none⟩)), (11, .int .i64 t41.2), (12, .int .i64 t44.1), (13, .int .i64 t44.2)] ?_
 refine J.sr ?_
 refine JL.val (.agg #[.slice Aa29 t27.1.Sums.length c30, .slice Aa32 t27.1.Ns.length c33, .slice Aa35 t27.1.Spans.length c36]) (some 54) (yields_load_boxes 7 0 [.slice Aa29 t27.1.Sums.length c30, .slice Aa32 t27.1.Ns.length c33, .slice Aa35 t27.1.Spans.length c36] (holds_box b38 25 [.slice Aa29 t27.1.Sums.length c30, .slice Aa32 t27.1.Ns.length c33, .slice Aa35 t27.1.Spans.length c36]) tyAgg_25 tySize_25) ?_
 refine JL.pur (.agg #[.int .i64 1, .int .i64 1]) (some 55) ?_
 refine JL.buildSl 56 fl_Lag.kd (([(⟨1, 1⟩ : Lag)] : List Lag) : List Lag) [.int .i64 1, .int .i64 1] false (closes_fl rfl) fun b46 => ?_
 obtain ⟨t47, hc48, H0⟩ := bind_some H0
 refine JL.call [] [] [] (accum_Add.ok t27.1 Aa29 c30 Aa32 c33 Aa35 c36 ([(⟨1, 1⟩ : Lag)] : List Lag) (some ⟨b46, 0, none⟩) 1 7 1 _ hc48) ⟨pre_view 4 (view_row Aa29 c30 49 fl_Count.kd t27.1.Sums false true), ⟨pre_view 5 (view_row Aa32 c33 49 fl_Count.kd t27.1.Ns false true), ⟨pre_view 6 (view_row Aa35 c36 51 fl_Gap.kd t27.1.Spans false true), ⟨pre_view 9 (view_row (some ⟨b46, 0, none⟩) 1 56 fl_Lag.kd ([(⟨1, 1⟩ : Lag)] : List Lag) false true), trivial⟩⟩⟩⟩ ?_
 rintro _ _ ⟨Aa49, c50, Aa52, c53, Aa55, c56, rfl, rfl⟩
 refine JL.mv (.tuple #[.agg #[.slice Aa49 t47.1.Sums.length c50, .slice Aa52 t47.1.Ns.length c53, .slice Aa55 t47.1.Spans.length c56], .int .i64 t47.2]) ?_
 refine JL.pur (.agg #[.slice Aa49 t47.1.Sums.length c50, .slice Aa52 t47.1.Ns.length c53, .slice Aa55 t47.1.Spans.length c56]) (some 58) ?_
 refine JL.pur (.int .i64 t47.2) (some 59) ?_
 refine JL.alloc [.slice none 0 0, .slice none 0 0, .slice none 0 0] fun b58 => ?_
 refine JL.store 13 b58 0 25 [.slice none 0 0, .slice none 0 0, .slice none 0 0] [.slice Aa49 t47.1.Sums.length c50, .slice Aa52 t47.1.Ns.length c53, .slice Aa55 t47.1.Spans.length c56] tySize_25 ?_
 refine JL.as (.int .i64 t47.2) ?_
 refine JL.es [(1, .pointer (some ⟨b12, 0, none⟩)), (2, .int .i64 t1.2), (4, .int .i64 t14.2), (5, .pointer (some ⟨b38, 0, none⟩)), (6, .int .i64 t27.2), (7, .int .i64 t39.1), (8, .int .i64 t39.2.1), (9, .int .i64 t39.2.2), (10, .pointer (some ⟨b43, 0, none⟩)), (11, .int .i64 t41.2), (12, .int .i64 t44.1), (13, .int .i64 t44.2), (15, .int .i64 t47.2)] ?_
 refine JQ.mask [At.row Aa3 c4 49 fl_Count.kd t1.1.Sums false, At.row Aa6 c7 49 fl_Count.kd t1.1.Ns false, At.row Aa9 c10 51 fl_Gap.kd t1.1.Spans false, At.box b12 25 [.slice Aa3 t1.1.Sums.length c4, .slice Aa6 t1.1.Ns.length c7, .slice Aa9 t1.1.Spans.length c10], At.row Aa29 c30 49 fl_Count.kd t27.1.Sums false, At.row Aa32 c33 49 fl_Count.kd t27.1.Ns false, At.row Aa35 c36 51 fl_Gap.kd t27.1.Spans false, At.box b38 25 [.slice Aa29 t27.1.Sums.length c30, .slice Aa32 t27.1.Ns.length c33, .slice Aa35 t27.1.Spans.length c36], At.box b43 37 (cl_37 t41.1)] [true, true, true, true, true, true, true, true, true, false, false, false, false, false] ?_
 refine J.sr ?_
 refine JL.val (.agg #[.slice Aa3 t1.1.Sums.length c4, .slice Aa6 t1.1.Ns.length c7, .slice Aa9 t1.1.Spans.length c10]) (some 61) (yields_load_boxes 3 0 [.slice Aa3 t1.1.Sums.length c4, .slice Aa6 t1.1.Ns.length c7, .slice Aa9 t1.1.Spans.length c10] (holds_box b12 25 [.slice Aa3 t1.1.Sums.length c4, .slice Aa6 t1.1.Ns.length c7, .slice Aa9 t1.1.Spans.length c10]) tyAgg_25 tySize_25) ?_
 refine JL.pur (.agg #[.int .i64 (-1), .int .i64 1]) (some 62) ?_
 refine JL.buildSl 56 fl_Lag.kd (([(⟨(-1), 1⟩ : Lag)] : List Lag) : List Lag) [.int .i64 (-1), .int .i64 1] false (closes_fl rfl) fun b59 => ?_
 obtain ⟨t60, hc61, H0⟩ := bind_some H0
 refine JL.call [] [] [] (accum_Add.ok t1.1 Aa3 c4 Aa6 c7 Aa9 c10 ([(⟨(-1), 1⟩ : Lag)] : List Lag) (some ⟨b59, 0, none⟩) 1 0 1 _ hc61) ⟨pre_view 0 (view_row Aa3 c4 49 fl_Count.kd t1.1.Sums false true), ⟨pre_view 1 (view_row Aa6 c7 49 fl_Count.kd t1.1.Ns false true), ⟨pre_view 2 (view_row Aa9 c10 51 fl_Gap.kd t1.1.Spans false true), ⟨pre_view 9 (view_row (some ⟨b59, 0, none⟩) 1 56 fl_Lag.kd ([(⟨(-1), 1⟩ : Lag)] : List Lag) false true), trivial⟩⟩⟩⟩ ?_
 rintro _ _ ⟨Aa62, c63, Aa65, c66, Aa68, c69, rfl, rfl⟩
 refine JL.mv (.tuple #[.agg #[.slice Aa62 t60.1.Sums.length c63, .slice Aa65 t60.1.Ns.length c66, .slice Aa68 t60.1.Spans.length c69], .int .i64 t60.2]) ?_
 refine JL.pur (.agg #[.slice Aa62 t60.1.Sums.length c63, .slice Aa65 t60.1.Ns.length c66, .slice Aa68 t60.1.Spans.length c69]) (some 65) ?_
 refine JL.pur (.int .i64 t60.2) (some 66) ?_
 refine JL.alloc [.slice none 0 0, .slice none 0 0, .slice none 0 0] fun b71 => ?_
 refine JL.store 13 b71 0 25 [.slice none 0 0, .slice none 0 0, .slice none 0 0] [.slice Aa62 t60.1.Sums.length c63, .slice Aa65 t60.1.Ns.length c66, .slice Aa68 t60.1.Spans.length c69] tySize_25 ?_
 refine JL.as (.int .i64 t60.2) ?_
 refine JL.es [(2, .int .i64 t1.2), (4, .int .i64 t14.2), (5, .pointer (some ⟨b38, 0, none⟩)), (6, .int .i64 t27.2), (7, .int .i64 t39.1), (8, .int .i64 t39.2.1), (9, .int .i64 t39.2.2), (10, .pointer (some ⟨b43, 0, none⟩)), (11, .int .i64 t41.2), (12, .int .i64 t44.1), (13, .int .i64 t44.2), (15, .int .i64 t47.2), (16, .pointer (some ⟨b71, 0, none⟩)), (17, .int .i64 t60.2)] ?_
 refine JQ.mask [At.row Aa29 c30 49 fl_Count.kd t27.1.Sums false, At.row Aa32 c33 49 fl_Count.kd t27.1.Ns false, At.row Aa35 c36 51 fl_Gap.kd t27.1.Spans false, At.box b38 25 [.slice Aa29 t27.1.Sums.length c30, .slice Aa32 t27.1.Ns.length c33, .slice Aa35 t27.1.Spans.length c36], At.box b43 37 (cl_37 t41.1), At.row Aa62 c63 49 fl_Count.kd t60.1.Sums false, At.row Aa65 c66 49 fl_Count.kd t60.1.Ns false, At.row Aa68 c69 51 fl_Gap.kd t60.1.Spans false, At.box b71 25 [.slice Aa62 t60.1.Sums.length c63, .slice Aa65 t60.1.Ns.length c66, .slice Aa68 t60.1.Spans.length c69]] [false, false, false, false, true, true, true, true, true, false, true, true, true, true] ?_
 refine J.join (T := Bool) (G := Unit) (fun t => law18_alive.k1 t27 t39 t41 t44 t60 t = some r) (fun t g => [(5, .pointer (some ⟨b38, 0, none⟩)), (7, .int .i64 t39.1), (8, .int .i64 t39.2.1), (10, .pointer (some ⟨b43, 0, none⟩)), (12, .int .i64 t44.1), (16, .pointer (some ⟨b71, 0, none⟩)), (18, .bool t)]) (fun t g => [At.box b38 25 [.slice Aa29 t27.1.Sums.length c30, .slice Aa32 t27.1.Ns.length c33, .slice Aa35 t27.1.Spans.length c36], At.row Aa29 c30 49 fl_Count.kd t27.1.Sums false, At.row Aa32 c33 49 fl_Count.kd t27.1.Ns false, At.row Aa35 c36 51 fl_Gap.kd t27.1.Spans false, At.box b43 37 (cl_37 t41.1), At.box b71 25 [.slice Aa62 t60.1.Sums.length c63, .slice Aa65 t60.1.Ns.length c66, .slice Aa68 t60.1.Spans.length c69], At.row Aa62 c63 49 fl_Count.kd t60.1.Sums false, At.row Aa65 c66 49 fl_Count.kd t60.1.Ns false, At.row Aa68 c69 51 fl_Gap.kd t60.1.Spans false]) ?_ ?_
 · refine J.region ?_
   refine JL.mv (.int .i64 t1.2) ?_
   refine JL.pur (.bool (decide (t1.2 = 0))) (some 68) ?_
   refine JL.mv (.bool (decide (t1.2 = 0))) ?_
   rcases ite_cases H0 with ⟨h96, H0⟩ | ⟨h96, H0⟩
   · refine JL.on 2 69 h96 ?_
     refine JL.mv (.int .i64 t14.2) ?_
     refine JL.on 2 69 h96 ?_
     refine JL.pur (.bool (decide (t14.2 = 0))) (some 71) ?_
     refine JL.val (.bool (decide (t14.2 = 0))) (some 72) (gives_pickT h96) ?_
     refine JL.mv (.bool (decide (t14.2 = 0))) ?_
     rcases ite_cases H0 with ⟨h97, H0⟩ | ⟨h97, H0⟩
     · refine JL.on 6 73 h97 ?_
       refine JL.mv (.int .i64 t27.2) ?_
       refine JL.on 6 73 h97 ?_
       refine JL.pur (.bool (decide (t27.2 = 0))) (some 75) ?_
       refine JL.val (.bool (decide (t27.2 = 0))) (some 76) (gives_pickT h97) ?_
       refine JL.mv (.bool (decide (t27.2 = 0))) ?_
       rcases ite_cases H0 with ⟨h98, H0⟩ | ⟨h98, H0⟩
       · refine JL.on 10 77 h98 ?_
         refine JL.mv (.int .i64 t39.2.2) ?_
         refine JL.on 10 77 h98 ?_
         refine JL.pur (.bool (decide (t39.2.2 = 0))) (some 79) ?_
         refine JL.val (.bool (decide (t39.2.2 = 0))) (some 80) (gives_pickT h98) ?_
         refine JL.mv (.bool (decide (t39.2.2 = 0))) ?_
         rcases ite_cases H0 with ⟨h99, H0⟩ | ⟨h99, H0⟩
         · refine JL.on 14 81 h99 ?_
           refine JL.mv (.int .i64 t41.2) ?_
           refine JL.on 14 81 h99 ?_
           refine JL.pur (.bool (decide (t41.2 = 0))) (some 83) ?_
           refine JL.val (.bool (decide (t41.2 = 0))) (some 84) (gives_pickT h99) ?_
           refine JL.mv (.bool (decide (t41.2 = 0))) ?_
           rcases ite_cases H0 with ⟨h100, H0⟩ | ⟨h100, H0⟩
           · refine JL.on 18 85 h100 ?_
             refine JL.mv (.int .i64 t44.2) ?_
             refine JL.on 18 85 h100 ?_
             refine JL.pur (.bool (decide (t44.2 = 0))) (some 87) ?_
             refine JL.val (.bool (decide (t44.2 = 0))) (some 88) (gives_pickT h100) ?_
             refine JL.mv (.bool (decide (t44.2 = 0))) ?_
             rcases ite_cases H0 with ⟨h101, H0⟩ | ⟨h101, H0⟩
             · refine JL.on 22 89 h101 ?_
               refine JL.mv (.int .i64 t47.2) ?_
               refine JL.on 22 89 h101 ?_
               refine JL.pur (.bool (decide (t47.2 = 14))) (some 91) ?_
               refine JL.val (.bool (decide (t47.2 = 14))) (some 92) (gives_pickT h101) ?_
               refine JL.mv (.bool (decide (t47.2 = 14))) ?_
               rcases ite_cases H0 with ⟨h102, H0⟩ | ⟨h102, H0⟩
               · refine JL.on 26 93 h102 ?_
                 refine JL.mv (.int .i64 t60.2) ?_
                 refine JL.on 26 93 h102 ?_
                 refine JL.pur (.bool (decide (t60.2 = 0))) (some 95) ?_
                 refine JL.val (.bool (decide (t60.2 = 0))) (some 96) (gives_pickT h102) ?_
                 refine JL.as (.bool (decide (t60.2 = 0))) ?_
                 refine JL.en ?_
                 exact JQ.meet (decide (t60.2 = 0)) () H0 (fun _ h => Heap.to (Heap.pick [3, 0, 1, 2, 4, 8, 5, 6, 7] (by decide) h))
               · refine JL.off 26 93 true (some 94) h102 ?_
                 refine JL.off 26 93 true (some 95) h102 ?_
                 refine JL.val (.bool false) (some 96) (gives_pickF h102) ?_
                 refine JL.as (.bool false) ?_
                 refine JL.en ?_
                 exact JQ.meet false () H0 (fun _ h => Heap.to (Heap.pick [3, 0, 1, 2, 4, 8, 5, 6, 7] (by decide) h))
             · refine JL.off 22 89 true (some 90) h101 ?_
               refine JL.off 22 89 true (some 91) h101 ?_
               refine JL.val (.bool false) (some 92) (gives_pickF h101) ?_
               refine JL.mv (.bool false) ?_
               refine JL.off 26 93 true (some 94) rfl ?_
               refine JL.off 26 93 true (some 95) rfl ?_
               refine JL.val (.bool false) (some 96) (gives_pickF rfl) ?_
               refine JL.as (.bool false) ?_
               refine JL.en ?_
               exact JQ.meet false () H0 (fun _ h => Heap.to (Heap.pick [3, 0, 1, 2, 4, 8, 5, 6, 7] (by decide) h))
           · refine JL.off 18 85 true (some 86) h100 ?_
             refine JL.off 18 85 true (some 87) h100 ?_
             refine JL.val (.bool false) (some 88) (gives_pickF h100) ?_
             refine JL.mv (.bool false) ?_
             refine JL.off 22 89 true (some 90) rfl ?_
             refine JL.off 22 89 true (some 91) rfl ?_
             refine JL.val (.bool false) (some 92) (gives_pickF rfl) ?_
             refine JL.mv (.bool false) ?_
             refine JL.off 26 93 true (some 94) rfl ?_
             refine JL.off 26 93 true (some 95) rfl ?_
             refine JL.val (.bool false) (some 96) (gives_pickF rfl) ?_
             refine JL.as (.bool false) ?_
             refine JL.en ?_
             exact JQ.meet false () H0 (fun _ h => Heap.to (Heap.pick [3, 0, 1, 2, 4, 8, 5, 6, 7] (by decide) h))
         · refine JL.off 14 81 true (some 82) h99 ?_
           refine JL.off 14 81 true (some 83) h99 ?_
           refine JL.val (.bool false) (some 84) (gives_pickF h99) ?_
           refine JL.mv (.bool false) ?_
           refine JL.off 18 85 true (some 86) rfl ?_
           refine JL.off 18 85 true (some 87) rfl ?_
           refine JL.val (.bool false) (some 88) (gives_pickF rfl) ?_
           refine JL.mv (.bool false) ?_
           refine JL.off 22 89 true (some 90) rfl ?_
           refine JL.off 22 89 true (some 91) rfl ?_
           refine JL.val (.bool false) (some 92) (gives_pickF rfl) ?_
           refine JL.mv (.bool false) ?_
           refine JL.off 26 93 true (some 94) rfl ?_
           refine JL.off 26 93 true (some 95) rfl ?_
           refine JL.val (.bool false) (some 96) (gives_pickF rfl) ?_
           refine JL.as (.bool false) ?_
           refine JL.en ?_
           exact JQ.meet false () H0 (fun _ h => Heap.to (Heap.pick [3, 0, 1, 2, 4, 8, 5, 6, 7] (by decide) h))
       · refine JL.off 10 77 true (some 78) h98 ?_
         refine JL.off 10 77 true (some 79) h98 ?_
         refine JL.val (.bool false) (some 80) (gives_pickF h98) ?_
         refine JL.mv (.bool false) ?_
         refine JL.off 14 81 true (some 82) rfl ?_
         refine JL.off 14 81 true (some 83) rfl ?_
         refine JL.val (.bool false) (some 84) (gives_pickF rfl) ?_
         refine JL.mv (.bool false) ?_
         refine JL.off 18 85 true (some 86) rfl ?_
         refine JL.off 18 85 true (some 87) rfl ?_
         refine JL.val (.bool false) (some 88) (gives_pickF rfl) ?_
         refine JL.mv (.bool false) ?_
         refine JL.off 22 89 true (some 90) rfl ?_
         refine JL.off 22 89 true (some 91) rfl ?_
         refine JL.val (.bool false) (some 92) (gives_pickF rfl) ?_
         refine JL.mv (.bool false) ?_
         refine JL.off 26 93 true (some 94) rfl ?_
         refine JL.off 26 93 true (some 95) rfl ?_
         refine JL.val (.bool false) (some 96) (gives_pickF rfl) ?_
         refine JL.as (.bool false) ?_
         refine JL.en ?_
         exact JQ.meet false () H0 (fun _ h => Heap.to (Heap.pick [3, 0, 1, 2, 4, 8, 5, 6, 7] (by decide) h))
     · refine JL.off 6 73 true (some 74) h97 ?_
       refine JL.off 6 73 true (some 75) h97 ?_
       refine JL.val (.bool false) (some 76) (gives_pickF h97) ?_
       refine JL.mv (.bool false) ?_
       refine JL.off 10 77 true (some 78) rfl ?_
       refine JL.off 10 77 true (some 79) rfl ?_
       refine JL.val (.bool false) (some 80) (gives_pickF rfl) ?_
       refine JL.mv (.bool false) ?_
       refine JL.off 14 81 true (some 82) rfl ?_
       refine JL.off 14 81 true (some 83) rfl ?_
       refine JL.val (.bool false) (some 84) (gives_pickF rfl) ?_
       refine JL.mv (.bool false) ?_
       refine JL.off 18 85 true (some 86) rfl ?_
       refine JL.off 18 85 true (some 87) rfl ?_
       refine JL.val (.bool false) (some 88) (gives_pickF rfl) ?_
       refine JL.mv (.bool false) ?_
       refine JL.off 22 89 true (some 90) rfl ?_
       refine JL.off 22 89 true (some 91) rfl ?_
       refine JL.val (.bool false) (some 92) (gives_pickF rfl) ?_
       refine JL.mv (.bool false) ?_
       refine JL.off 26 93 true (some 94) rfl ?_
       refine JL.off 26 93 true (some 95) rfl ?_
       refine JL.val (.bool false) (some 96) (gives_pickF rfl) ?_
       refine JL.as (.bool false) ?_
       refine JL.en ?_
       exact JQ.meet false () H0 (fun _ h => Heap.to (Heap.pick [3, 0, 1, 2, 4, 8, 5, 6, 7] (by decide) h))
   · refine JL.off 2 69 true (some 70) h96 ?_
     refine JL.off 2 69 true (some 71) h96 ?_
     refine JL.val (.bool false) (some 72) (gives_pickF h96) ?_
     refine JL.mv (.bool false) ?_
     refine JL.off 6 73 true (some 74) rfl ?_
     refine JL.off 6 73 true (some 75) rfl ?_
     refine JL.val (.bool false) (some 76) (gives_pickF rfl) ?_
     refine JL.mv (.bool false) ?_
     refine JL.off 10 77 true (some 78) rfl ?_
     refine JL.off 10 77 true (some 79) rfl ?_
     refine JL.val (.bool false) (some 80) (gives_pickF rfl) ?_
     refine JL.mv (.bool false) ?_
     refine JL.off 14 81 true (some 82) rfl ?_
     refine JL.off 14 81 true (some 83) rfl ?_
     refine JL.val (.bool false) (some 84) (gives_pickF rfl) ?_
     refine JL.mv (.bool false) ?_
     refine JL.off 18 85 true (some 86) rfl ?_
     refine JL.off 18 85 true (some 87) rfl ?_
     refine JL.val (.bool false) (some 88) (gives_pickF rfl) ?_
     refine JL.mv (.bool false) ?_
     refine JL.off 22 89 true (some 90) rfl ?_
     refine JL.off 22 89 true (some 91) rfl ?_
     refine JL.val (.bool false) (some 92) (gives_pickF rfl) ?_
     refine JL.mv (.bool false) ?_
     refine JL.off 26 93 true (some 94) rfl ?_
     refine JL.off 26 93 true (some 95) rfl ?_
     refine JL.val (.bool false) (some 96) (gives_pickF rfl) ?_
     refine JL.as (.bool false) ?_
     refine JL.en ?_
     exact JQ.meet false () H0 (fun _ h => Heap.to (Heap.pick [3, 0, 1, 2, 4, 8, 5, 6, 7] (by decide) h))
 · clear H0
   rintro ok79 ⟨⟩ H0
   replace H0 : law18_alive.k1 t27 t39 t41 t44 t60 ok79 = some r := H0
   unfold law18_alive.k1 at H0
   refine JQ.sub [(5, .pointer (some ⟨b38, 0, none⟩)), (7, .int .i64 t39.1), (8, .int .i64 t39.2.1), (10, .pointer (some ⟨b43, 0, none⟩)), (12, .int .i64 t44.1), (16, .pointer (some ⟨b71, 0, none⟩)), (18, .bool ok79)] ?_
   refine JQ.turn (Δ' := [At.box b38 25 [.slice Aa29 t27.1.Sums.length c30, .slice Aa32 t27.1.Ns.length c33, .slice Aa35 t27.1.Spans.length c36], At.row Aa29 c30 49 fl_Count.kd t27.1.Sums false, At.row Aa32 c33 49 fl_Count.kd t27.1.Ns false, At.row Aa35 c36 51 fl_Gap.kd t27.1.Spans false, At.box b43 37 (cl_37 t41.1), At.box b71 25 [.slice Aa62 t60.1.Sums.length c63, .slice Aa65 t60.1.Ns.length c66, .slice Aa68 t60.1.Spans.length c69], At.row Aa62 c63 49 fl_Count.kd t60.1.Sums false, At.row Aa65 c66 49 fl_Count.kd t60.1.Ns false, At.row Aa68 c69 51 fl_Gap.kd t60.1.Spans false]) (fun _ h => h.to) ?_
   refine J.sr ?_
   refine JL.mv (.bool ok79) ?_
   refine JL.mv (.bool ok79) ?_
   rcases ite_cases H0 with ⟨h80, H0⟩ | ⟨h80, H0⟩
   · refine JL.on 1 98 h80 ?_
     refine JL.mv (.int .i64 t39.1) ?_
     refine JL.on 1 98 h80 ?_
     refine JL.pur (.bool (decide (t39.1 = 12))) (some 100) ?_
     refine JL.val (.bool (decide (t39.1 = 12))) (some 101) (gives_pickT h80) ?_
     refine JL.mv (.bool (decide (t39.1 = 12))) ?_
     rcases ite_cases H0 with ⟨h81, H0⟩ | ⟨h81, H0⟩
     · refine JL.on 5 102 h81 ?_
       refine JL.mv (.int .i64 t39.2.1) ?_
       refine JL.on 5 102 h81 ?_
       refine JL.pur (.bool (decide (t39.2.1 = 8))) (some 104) ?_
       refine JL.val (.bool (decide (t39.2.1 = 8))) (some 105) (gives_pickT h81) ?_
       refine JL.mv (.bool (decide (t39.2.1 = 8))) ?_
       rcases ite_cases H0 with ⟨h82, H0⟩ | ⟨h82, H0⟩
       · refine JL.on 9 106 h82 ?_
         refine JL.val (mv_37 t41.1) (some 107) (yields_load_boxes 4 0 (cl_37 t41.1) (holds_box b43 37 (cl_37 t41.1)) tyAgg_37 tySize_37) ?_
         refine JL.on 9 106 h82 ?_
         refine JL.pur (.agg #[.int .i64 3, .int .i64 2]) (some 108) ?_
         refine JL.on 9 106 h82 ?_
         refine JL.val (.bool (decide (t41.1 = (⟨3, 2⟩ : Frac)))) (some 109) (gives_eql eqg_37 (fun w => eqt_37 t41.1 (⟨3, 2⟩ : Frac) w)) ?_
         refine JL.val (.bool (decide (t41.1 = (⟨3, 2⟩ : Frac)))) (some 110) (gives_pickT h82) ?_
         refine JL.mv (.bool (decide (t41.1 = (⟨3, 2⟩ : Frac)))) ?_
         rcases ite_cases H0 with ⟨h83, H0⟩ | ⟨h83, H0⟩
         · refine JL.on 14 111 h83 ?_
           refine JL.mv (.int .i64 t44.1) ?_
           refine JL.on 14 111 h83 ?_
           refine JL.pur (.bool (decide (t44.1 = 8))) (some 113) ?_
           refine JL.val (.bool (decide (t44.1 = 8))) (some 114) (gives_pickT h83) ?_
           refine JL.mv (.bool (decide (t44.1 = 8))) ?_
           rcases ite_cases H0 with ⟨h84, H0⟩ | ⟨h84, H0⟩
           · refine JL.on 18 115 h84 ?_
             refine JL.pur (.pointer (some ⟨b38, 2, none⟩)) (some 116) ?_
             refine JL.on 18 115 h84 ?_
             refine JL.val (.slice Aa35 t27.1.Spans.length c36) (some 117) (yields_load_box 0 2 (holds_box b38 25 [.slice Aa29 t27.1.Sums.length c30, .slice Aa32 t27.1.Ns.length c33, .slice Aa35 t27.1.Spans.length c36]) tyAgg_23) ?_
             refine JL.on 18 115 h84 ?_
             refine JL.pur (.int .i64 (t27.1.Spans.length : Int)) (some 118) ?_
             refine JL.on 18 115 h84 ?_
             refine JL.pur (.bool (decide ((t27.1.Spans.length : Int) = 1))) (some 119) ?_
             refine JL.val (.bool (decide ((t27.1.Spans.length : Int) = 1))) (some 120) (gives_pickT h84) ?_
             refine JL.mv (.bool (decide ((t27.1.Spans.length : Int) = 1))) ?_
             rcases ite_cases H0 with ⟨h85, H0⟩ | ⟨h85, H0⟩
             · refine JL.on 24 121 h85 ?_
               refine JL.pur (.pointer (some ⟨b38, 2, none⟩)) (some 122) ?_
               refine JL.on 24 121 h85 ?_
               refine JL.val (.slice Aa35 t27.1.Spans.length c36) (some 123) (yields_load_box 0 2 (holds_box b38 25 [.slice Aa29 t27.1.Sums.length c30, .slice Aa32 t27.1.Ns.length c33, .slice Aa35 t27.1.Spans.length c36]) tyAgg_23) ?_
               refine JL.on 24 121 h85 ?_
               obtain ⟨⟨h86, h87⟩, H0⟩ := ite_must H0
               refine JL.ixAddr 3 2 c36 .i64 (elems_row Aa35 c36 51 fl_Gap.kd t27.1.Spans false) Try.underlying23 tySize_51 h86 h87 fun g88 o89 hA => ?_
               subst hA
               refine JL.on 24 121 h85 ?_
               refine JL.val (mv_51 (ix t27.1.Spans 0)) (some 125) (gives_loadEl (f := fl_Gap) 3 0 0 (elems_row (some ⟨g88, o89, none⟩) c36 51 fl_Gap.kd t27.1.Spans false) h86 h87 tySize_51 (.inl ⟨tyAgg_51, rfl⟩)) ?_
               refine JL.on 24 121 h85 ?_
               refine JL.pur (.agg #[.int .i64 0, .int .i64 8]) (some 126) ?_
               refine JL.on 24 121 h85 ?_
               refine JL.val (.bool (decide ((ix t27.1.Spans 0) = (⟨0, 8⟩ : Gap)))) (some 127) (gives_eql eqg_51 (fun w => eqt_51 (ix t27.1.Spans 0) (⟨0, 8⟩ : Gap) w)) ?_
               refine JL.val (.bool (decide ((ix t27.1.Spans 0) = (⟨0, 8⟩ : Gap)))) (some 128) (gives_pickT h85) ?_
               refine JL.mv (.bool (decide ((ix t27.1.Spans 0) = (⟨0, 8⟩ : Gap)))) ?_
               rcases ite_cases H0 with ⟨h90, H0⟩ | ⟨h90, H0⟩
               · refine JL.on 32 129 h90 ?_
                 refine JL.pur (.pointer (some ⟨b71, 0, none⟩)) (some 130) ?_
                 refine JL.on 32 129 h90 ?_
                 refine JL.val (.slice Aa62 t60.1.Sums.length c63) (some 131) (yields_load_box 5 0 (holds_box b71 25 [.slice Aa62 t60.1.Sums.length c63, .slice Aa65 t60.1.Ns.length c66, .slice Aa68 t60.1.Spans.length c69]) tyAgg_22) ?_
                 refine JL.on 32 129 h90 ?_
                 refine JL.pur (.int .i64 (t60.1.Sums.length : Int)) (some 132) ?_
                 refine JL.on 32 129 h90 ?_
                 refine JL.pur (.bool (decide ((t60.1.Sums.length : Int) = 1))) (some 133) ?_
                 refine JL.val (.bool (decide ((t60.1.Sums.length : Int) = 1))) (some 134) (gives_pickT h90) ?_
                 refine JL.mv (.bool (decide ((t60.1.Sums.length : Int) = 1))) ?_
                 rcases ite_cases H0 with ⟨h91, H0⟩ | ⟨h91, H0⟩
                 · refine JL.on 38 135 h91 ?_
                   refine JL.pur (.pointer (some ⟨b71, 0, none⟩)) (some 136) ?_
                   refine JL.on 38 135 h91 ?_
                   refine JL.val (.slice Aa62 t60.1.Sums.length c63) (some 137) (yields_load_box 5 0 (holds_box b71 25 [.slice Aa62 t60.1.Sums.length c63, .slice Aa65 t60.1.Ns.length c66, .slice Aa68 t60.1.Spans.length c69]) tyAgg_22) ?_
                   refine JL.on 38 135 h91 ?_
                   obtain ⟨⟨h92, h93⟩, H0⟩ := ite_must H0
                   refine JL.ixAddr 6 2 c63 .i64 (elems_row Aa62 c63 49 fl_Count.kd t60.1.Sums false) Try.underlying22 tySize_49 h92 h93 fun g94 o95 hA => ?_
                   subst hA
                   refine JL.on 38 135 h91 ?_
                   refine JL.val (mv_49 (ix t60.1.Sums 0)) (some 139) (gives_loadEl (f := fl_Count) 6 0 0 (elems_row (some ⟨g94, o95, none⟩) c63 49 fl_Count.kd t60.1.Sums false) h92 h93 tySize_49 (.inl ⟨tyAgg_49, rfl⟩)) ?_
                   refine JL.on 38 135 h91 ?_
                   refine JL.pur (.agg #[.int .i64 (-1), .int .i64 999999999]) (some 140) ?_
                   refine JL.on 38 135 h91 ?_
                   refine JL.val (.bool (decide ((ix t60.1.Sums 0) = (⟨(-1), 999999999⟩ : Count)))) (some 141) (gives_eql eqg_49 (fun w => eqt_49 (ix t60.1.Sums 0) (⟨(-1), 999999999⟩ : Count) w)) ?_
                   refine JL.val (.bool (decide ((ix t60.1.Sums 0) = (⟨(-1), 999999999⟩ : Count)))) (some 142) (gives_pickT h91) ?_
                   refine JL.as (.bool (decide ((ix t60.1.Sums 0) = (⟨(-1), 999999999⟩ : Count)))) ?_
                   refine JL.es [(0, .bool (decide ((ix t60.1.Sums 0) = (⟨(-1), 999999999⟩ : Count))))] ?_
                   refine JQ.mask [] [false, false, false, false, false, false, false, false, false] ?_
                   refine J.ret ?_
                   obtain rfl := Option.some.inj H0
                   exact JQ.done' (rs := [.tmp 0]) (vs := [.bool (decide ((ix t60.1.Sums 0) = (⟨(-1), 999999999⟩ : Count)))]) [] (.inr rfl) ⟨by kernel_rfl, trivial⟩ (fun _ h => Heap.to h) ⟨rfl, rfl⟩
                 · refine JL.off 38 135 true (some 136) h91 ?_
                   refine JL.off 38 135 true (some 137) h91 ?_
                   refine JL.off 38 135 true (some 138) h91 ?_
                   refine JL.off 38 135 true (some 139) h91 ?_
                   refine JL.off 38 135 true (some 140) h91 ?_
                   refine JL.off 38 135 true (some 141) h91 ?_
                   refine JL.val (.bool false) (some 142) (gives_pickF h91) ?_
                   refine JL.as (.bool false) ?_
                   refine JL.es [(0, .bool false)] ?_
                   refine JQ.mask [] [false, false, false, false, false, false, false, false, false] ?_
                   refine J.ret ?_
                   obtain rfl := Option.some.inj H0
                   exact JQ.done' (rs := [.tmp 0]) (vs := [.bool false]) [] (.inr rfl) ⟨by kernel_rfl, trivial⟩ (fun _ h => Heap.to h) ⟨rfl, rfl⟩
               · refine JL.off 32 129 true (some 130) h90 ?_
                 refine JL.off 32 129 true (some 131) h90 ?_
                 refine JL.off 32 129 true (some 132) h90 ?_
                 refine JL.off 32 129 true (some 133) h90 ?_
                 refine JL.val (.bool false) (some 134) (gives_pickF h90) ?_
                 refine JL.mv (.bool false) ?_
                 refine JL.off 38 135 true (some 136) rfl ?_
                 refine JL.off 38 135 true (some 137) rfl ?_
                 refine JL.off 38 135 true (some 138) rfl ?_
                 refine JL.off 38 135 true (some 139) rfl ?_
                 refine JL.off 38 135 true (some 140) rfl ?_
                 refine JL.off 38 135 true (some 141) rfl ?_
                 refine JL.val (.bool false) (some 142) (gives_pickF rfl) ?_
                 refine JL.as (.bool false) ?_
                 refine JL.es [(0, .bool false)] ?_
                 refine JQ.mask [] [false, false, false, false, false, false, false, false, false] ?_
                 refine J.ret ?_
                 obtain rfl := Option.some.inj H0
                 exact JQ.done' (rs := [.tmp 0]) (vs := [.bool false]) [] (.inr rfl) ⟨by kernel_rfl, trivial⟩ (fun _ h => Heap.to h) ⟨rfl, rfl⟩
             · refine JL.off 24 121 true (some 122) h85 ?_
               refine JL.off 24 121 true (some 123) h85 ?_
               refine JL.off 24 121 true (some 124) h85 ?_
               refine JL.off 24 121 true (some 125) h85 ?_
               refine JL.off 24 121 true (some 126) h85 ?_
               refine JL.off 24 121 true (some 127) h85 ?_
               refine JL.val (.bool false) (some 128) (gives_pickF h85) ?_
               refine JL.mv (.bool false) ?_
               refine JL.off 32 129 true (some 130) rfl ?_
               refine JL.off 32 129 true (some 131) rfl ?_
               refine JL.off 32 129 true (some 132) rfl ?_
               refine JL.off 32 129 true (some 133) rfl ?_
               refine JL.val (.bool false) (some 134) (gives_pickF rfl) ?_
               refine JL.mv (.bool false) ?_
               refine JL.off 38 135 true (some 136) rfl ?_
               refine JL.off 38 135 true (some 137) rfl ?_
               refine JL.off 38 135 true (some 138) rfl ?_
               refine JL.off 38 135 true (some 139) rfl ?_
               refine JL.off 38 135 true (some 140) rfl ?_
               refine JL.off 38 135 true (some 141) rfl ?_
               refine JL.val (.bool false) (some 142) (gives_pickF rfl) ?_
               refine JL.as (.bool false) ?_
               refine JL.es [(0, .bool false)] ?_
               refine JQ.mask [] [false, false, false, false, false, false, false, false, false] ?_
               refine J.ret ?_
               obtain rfl := Option.some.inj H0
               exact JQ.done' (rs := [.tmp 0]) (vs := [.bool false]) [] (.inr rfl) ⟨by kernel_rfl, trivial⟩ (fun _ h => Heap.to h) ⟨rfl, rfl⟩
           · refine JL.off 18 115 true (some 116) h84 ?_
             refine JL.off 18 115 true (some 117) h84 ?_
             refine JL.off 18 115 true (some 118) h84 ?_
             refine JL.off 18 115 true (some 119) h84 ?_
             refine JL.val (.bool false) (some 120) (gives_pickF h84) ?_
             refine JL.mv (.bool false) ?_
             refine JL.off 24 121 true (some 122) rfl ?_
             refine JL.off 24 121 true (some 123) rfl ?_
             refine JL.off 24 121 true (some 124) rfl ?_
             refine JL.off 24 121 true (some 125) rfl ?_
             refine JL.off 24 121 true (some 126) rfl ?_
             refine JL.off 24 121 true (some 127) rfl ?_
             refine JL.val (.bool false) (some 128) (gives_pickF rfl) ?_
             refine JL.mv (.bool false) ?_
             refine JL.off 32 129 true (some 130) rfl ?_
             refine JL.off 32 129 true (some 131) rfl ?_
             refine JL.off 32 129 true (some 132) rfl ?_
             refine JL.off 32 129 true (some 133) rfl ?_
             refine JL.val (.bool false) (some 134) (gives_pickF rfl) ?_
             refine JL.mv (.bool false) ?_
             refine JL.off 38 135 true (some 136) rfl ?_
             refine JL.off 38 135 true (some 137) rfl ?_
             refine JL.off 38 135 true (some 138) rfl ?_
             refine JL.off 38 135 true (some 139) rfl ?_
             refine JL.off 38 135 true (some 140) rfl ?_
             refine JL.off 38 135 true (some 141) rfl ?_
             refine JL.val (.bool false) (some 142) (gives_pickF rfl) ?_
             refine JL.as (.bool false) ?_
             refine JL.es [(0, .bool false)] ?_
             refine JQ.mask [] [false, false, false, false, false, false, false, false, false] ?_
             refine J.ret ?_
             obtain rfl := Option.some.inj H0
             exact JQ.done' (rs := [.tmp 0]) (vs := [.bool false]) [] (.inr rfl) ⟨by kernel_rfl, trivial⟩ (fun _ h => Heap.to h) ⟨rfl, rfl⟩
         · refine JL.off 14 111 true (some 112) h83 ?_
           refine JL.off 14 111 true (some 113) h83 ?_
           refine JL.val (.bool false) (some 114) (gives_pickF h83) ?_
           refine JL.mv (.bool false) ?_
           refine JL.off 18 115 true (some 116) rfl ?_
           refine JL.off 18 115 true (some 117) rfl ?_
           refine JL.off 18 115 true (some 118) rfl ?_
           refine JL.off 18 115 true (some 119) rfl ?_
           refine JL.val (.bool false) (some 120) (gives_pickF rfl) ?_
           refine JL.mv (.bool false) ?_
           refine JL.off 24 121 true (some 122) rfl ?_
           refine JL.off 24 121 true (some 123) rfl ?_
           refine JL.off 24 121 true (some 124) rfl ?_
           refine JL.off 24 121 true (some 125) rfl ?_
           refine JL.off 24 121 true (some 126) rfl ?_
           refine JL.off 24 121 true (some 127) rfl ?_
           refine JL.val (.bool false) (some 128) (gives_pickF rfl) ?_
           refine JL.mv (.bool false) ?_
           refine JL.off 32 129 true (some 130) rfl ?_
           refine JL.off 32 129 true (some 131) rfl ?_
           refine JL.off 32 129 true (some 132) rfl ?_
           refine JL.off 32 129 true (some 133) rfl ?_
           refine JL.val (.bool false) (some 134) (gives_pickF rfl) ?_
           refine JL.mv (.bool false) ?_
           refine JL.off 38 135 true (some 136) rfl ?_
           refine JL.off 38 135 true (some 137) rfl ?_
           refine JL.off 38 135 true (some 138) rfl ?_
           refine JL.off 38 135 true (some 139) rfl ?_
           refine JL.off 38 135 true (some 140) rfl ?_
           refine JL.off 38 135 true (some 141) rfl ?_
           refine JL.val (.bool false) (some 142) (gives_pickF rfl) ?_
           refine JL.as (.bool false) ?_
           refine JL.es [(0, .bool false)] ?_
           refine JQ.mask [] [false, false, false, false, false, false, false, false, false] ?_
           refine J.ret ?_
           obtain rfl := Option.some.inj H0
           exact JQ.done' (rs := [.tmp 0]) (vs := [.bool false]) [] (.inr rfl) ⟨by kernel_rfl, trivial⟩ (fun _ h => Heap.to h) ⟨rfl, rfl⟩
       · refine JL.off 9 106 true (some 107) h82 ?_
         refine JL.off 9 106 true (some 108) h82 ?_
         refine JL.off 9 106 true (some 109) h82 ?_
         refine JL.val (.bool false) (some 110) (gives_pickF h82) ?_
         refine JL.mv (.bool false) ?_
         refine JL.off 14 111 true (some 112) rfl ?_
         refine JL.off 14 111 true (some 113) rfl ?_
         refine JL.val (.bool false) (some 114) (gives_pickF rfl) ?_
         refine JL.mv (.bool false) ?_
         refine JL.off 18 115 true (some 116) rfl ?_
         refine JL.off 18 115 true (some 117) rfl ?_
         refine JL.off 18 115 true (some 118) rfl ?_
         refine JL.off 18 115 true (some 119) rfl ?_
         refine JL.val (.bool false) (some 120) (gives_pickF rfl) ?_
         refine JL.mv (.bool false) ?_
         refine JL.off 24 121 true (some 122) rfl ?_
         refine JL.off 24 121 true (some 123) rfl ?_
         refine JL.off 24 121 true (some 124) rfl ?_
         refine JL.off 24 121 true (some 125) rfl ?_
         refine JL.off 24 121 true (some 126) rfl ?_
         refine JL.off 24 121 true (some 127) rfl ?_
         refine JL.val (.bool false) (some 128) (gives_pickF rfl) ?_
         refine JL.mv (.bool false) ?_
         refine JL.off 32 129 true (some 130) rfl ?_
         refine JL.off 32 129 true (some 131) rfl ?_
         refine JL.off 32 129 true (some 132) rfl ?_
         refine JL.off 32 129 true (some 133) rfl ?_
         refine JL.val (.bool false) (some 134) (gives_pickF rfl) ?_
         refine JL.mv (.bool false) ?_
         refine JL.off 38 135 true (some 136) rfl ?_
         refine JL.off 38 135 true (some 137) rfl ?_
         refine JL.off 38 135 true (some 138) rfl ?_
         refine JL.off 38 135 true (some 139) rfl ?_
         refine JL.off 38 135 true (some 140) rfl ?_
         refine JL.off 38 135 true (some 141) rfl ?_
         refine JL.val (.bool false) (some 142) (gives_pickF rfl) ?_
         refine JL.as (.bool false) ?_
         refine JL.es [(0, .bool false)] ?_
         refine JQ.mask [] [false, false, false, false, false, false, false, false, false] ?_
         refine J.ret ?_
         obtain rfl := Option.some.inj H0
         exact JQ.done' (rs := [.tmp 0]) (vs := [.bool false]) [] (.inr rfl) ⟨by kernel_rfl, trivial⟩ (fun _ h => Heap.to h) ⟨rfl, rfl⟩
     · refine JL.off 5 102 true (some 103) h81 ?_
       refine JL.off 5 102 true (some 104) h81 ?_
       refine JL.val (.bool false) (some 105) (gives_pickF h81) ?_
       refine JL.mv (.bool false) ?_
       refine JL.off 9 106 true (some 107) rfl ?_
       refine JL.off 9 106 true (some 108) rfl ?_
       refine JL.off 9 106 true (some 109) rfl ?_
       refine JL.val (.bool false) (some 110) (gives_pickF rfl) ?_
       refine JL.mv (.bool false) ?_
       refine JL.off 14 111 true (some 112) rfl ?_
       refine JL.off 14 111 true (some 113) rfl ?_
       refine JL.val (.bool false) (some 114) (gives_pickF rfl) ?_
       refine JL.mv (.bool false) ?_
       refine JL.off 18 115 true (some 116) rfl ?_
       refine JL.off 18 115 true (some 117) rfl ?_
       refine JL.off 18 115 true (some 118) rfl ?_
       refine JL.off 18 115 true (some 119) rfl ?_
       refine JL.val (.bool false) (some 120) (gives_pickF rfl) ?_
       refine JL.mv (.bool false) ?_
       refine JL.off 24 121 true (some 122) rfl ?_
       refine JL.off 24 121 true (some 123) rfl ?_
       refine JL.off 24 121 true (some 124) rfl ?_
       refine JL.off 24 121 true (some 125) rfl ?_
       refine JL.off 24 121 true (some 126) rfl ?_
       refine JL.off 24 121 true (some 127) rfl ?_
       refine JL.val (.bool false) (some 128) (gives_pickF rfl) ?_
       refine JL.mv (.bool false) ?_
       refine JL.off 32 129 true (some 130) rfl ?_
       refine JL.off 32 129 true (some 131) rfl ?_
       refine JL.off 32 129 true (some 132) rfl ?_
       refine JL.off 32 129 true (some 133) rfl ?_
       refine JL.val (.bool false) (some 134) (gives_pickF rfl) ?_
       refine JL.mv (.bool false) ?_
       refine JL.off 38 135 true (some 136) rfl ?_
       refine JL.off 38 135 true (some 137) rfl ?_
       refine JL.off 38 135 true (some 138) rfl ?_
       refine JL.off 38 135 true (some 139) rfl ?_
       refine JL.off 38 135 true (some 140) rfl ?_
       refine JL.off 38 135 true (some 141) rfl ?_
       refine JL.val (.bool false) (some 142) (gives_pickF rfl) ?_
       refine JL.as (.bool false) ?_
       refine JL.es [(0, .bool false)] ?_
       refine JQ.mask [] [false, false, false, false, false, false, false, false, false] ?_
       refine J.ret ?_
       obtain rfl := Option.some.inj H0
       exact JQ.done' (rs := [.tmp 0]) (vs := [.bool false]) [] (.inr rfl) ⟨by kernel_rfl, trivial⟩ (fun _ h => Heap.to h) ⟨rfl, rfl⟩
   · refine JL.off 1 98 true (some 99) h80 ?_
     refine JL.off 1 98 true (some 100) h80 ?_
     refine JL.val (.bool false) (some 101) (gives_pickF h80) ?_
     refine JL.mv (.bool false) ?_
     refine JL.off 5 102 true (some 103) rfl ?_
     refine JL.off 5 102 true (some 104) rfl ?_
     refine JL.val (.bool false) (some 105) (gives_pickF rfl) ?_
     refine JL.mv (.bool false) ?_
     refine JL.off 9 106 true (some 107) rfl ?_
     refine JL.off 9 106 true (some 108) rfl ?_
     refine JL.off 9 106 true (some 109) rfl ?_
     refine JL.val (.bool false) (some 110) (gives_pickF rfl) ?_
     refine JL.mv (.bool false) ?_
     refine JL.off 14 111 true (some 112) rfl ?_
     refine JL.off 14 111 true (some 113) rfl ?_
     refine JL.val (.bool false) (some 114) (gives_pickF rfl) ?_
     refine JL.mv (.bool false) ?_
     refine JL.off 18 115 true (some 116) rfl ?_
     refine JL.off 18 115 true (some 117) rfl ?_
     refine JL.off 18 115 true (some 118) rfl ?_
     refine JL.off 18 115 true (some 119) rfl ?_
     refine JL.val (.bool false) (some 120) (gives_pickF rfl) ?_
     refine JL.mv (.bool false) ?_
     refine JL.off 24 121 true (some 122) rfl ?_
     refine JL.off 24 121 true (some 123) rfl ?_
     refine JL.off 24 121 true (some 124) rfl ?_
     refine JL.off 24 121 true (some 125) rfl ?_
     refine JL.off 24 121 true (some 126) rfl ?_
     refine JL.off 24 121 true (some 127) rfl ?_
     refine JL.val (.bool false) (some 128) (gives_pickF rfl) ?_
     refine JL.mv (.bool false) ?_
     refine JL.off 32 129 true (some 130) rfl ?_
     refine JL.off 32 129 true (some 131) rfl ?_
     refine JL.off 32 129 true (some 132) rfl ?_
     refine JL.off 32 129 true (some 133) rfl ?_
     refine JL.val (.bool false) (some 134) (gives_pickF rfl) ?_
     refine JL.mv (.bool false) ?_
     refine JL.off 38 135 true (some 136) rfl ?_
     refine JL.off 38 135 true (some 137) rfl ?_
     refine JL.off 38 135 true (some 138) rfl ?_
     refine JL.off 38 135 true (some 139) rfl ?_
     refine JL.off 38 135 true (some 140) rfl ?_
     refine JL.off 38 135 true (some 141) rfl ?_
     refine JL.val (.bool false) (some 142) (gives_pickF rfl) ?_
     refine JL.as (.bool false) ?_
     refine JL.es [(0, .bool false)] ?_
     refine JQ.mask [] [false, false, false, false, false, false, false, false, false] ?_
     refine J.ret ?_
     obtain rfl := Option.some.inj H0
     exact JQ.done' (rs := [.tmp 0]) (vs := [.bool false]) [] (.inr rfl) ⟨by kernel_rfl, trivial⟩ (fun _ h => Heap.to h) ⟨rfl, rfl⟩

theorem ref18_Great.ok (a1 : Acc) (Aa2 : Option Addr) (c3 : Nat) (Aa5 : Option Addr) (c6 : Nat) (Aa8 : Option Addr) (c9 : Nat) (r : Bool) (H0 : ref18_Great.f a1 = some r) :
    Does Try.prog 8 [.agg #[.slice Aa2 a1.Sums.length c3, .slice Aa5 a1.Ns.length c6, .slice Aa8 a1.Spans.length c9]].toArray [At.rd Aa2 c3 fl_Count.kd a1.Sums true, At.rd Aa5 c6 fl_Count.kd a1.Ns true, At.rd Aa8 c9 fl_Gap.kd a1.Spans true] [] false (fun v Δ => v = .bool r ∧ Δ = []) := by
 refine Does.body (vs := [.agg #[.slice Aa2 a1.Sums.length c3, .slice Aa5 a1.Ns.length c6, .slice Aa8 a1.Spans.length c9]]) Try.func8 rfl ⟨.inl rfl, .inl rfl, .inl rfl, trivial⟩ trivial fun w S => ?_
 unfold ref18_Great.f at H0
 refine J.sr ?_
 refine JL.box [.slice Aa2 a1.Sums.length c3, .slice Aa5 a1.Ns.length c6, .slice Aa8 a1.Spans.length c9] fun b11 => ?_
 refine JL.as (.bool false) ?_
 refine JL.es [(1, .pointer (some ⟨b11, 0, none⟩))] ?_
 refine J.sr ?_
 refine JL.pur (.pointer (some ⟨b11, 0, none⟩)) (some 3) ?_
 refine JL.val (.slice Aa2 a1.Sums.length c3) (some 4) (yields_load_box 3 0 (holds_box b11 25 [.slice Aa2 a1.Sums.length c3, .slice Aa5 a1.Ns.length c6, .slice Aa8 a1.Spans.length c9]) tyAgg_22) ?_
 refine JL.pur (.int .i64 (a1.Sums.length : Int)) (some 5) ?_
 refine JL.pur (.bool (decide (600 < (a1.Sums.length : Int)))) (some 6) ?_
 refine JL.mv (.bool (decide (600 < (a1.Sums.length : Int)))) ?_
 rcases ite_cases H0 with ⟨h12, H0⟩ | ⟨h12, H0⟩
 · refine JL.off 4 7 false (some 8) h12 ?_
   refine JL.off 4 7 false (some 9) h12 ?_
   refine JL.off 4 7 false (some 10) h12 ?_
   refine JL.off 4 7 false (some 11) h12 ?_
   refine JL.val (.bool true) (some 12) (gives_pickT h12) ?_
   refine JL.mv (.bool true) ?_
   refine JL.off 10 13 false (some 14) rfl ?_
   refine JL.off 10 13 false (some 15) rfl ?_
   refine JL.off 10 13 false (some 16) rfl ?_
   refine JL.off 10 13 false (some 17) rfl ?_
   refine JL.val (.bool true) (some 18) (gives_pickT rfl) ?_
   refine JL.as (.bool true) ?_
   refine JL.es [(2, .bool true)] ?_
   refine JQ.mask [] [false, false, false, false] ?_
   refine J.ret ?_
   obtain rfl := Option.some.inj H0
   exact JQ.done' (rs := [.tmp 2]) (vs := [.bool true]) [] (.inr rfl) ⟨by kernel_rfl, trivial⟩ (fun _ h => Heap.to h) ⟨rfl, rfl⟩
 · refine JL.on 4 7 h12 ?_
   refine JL.pur (.pointer (some ⟨b11, 1, none⟩)) (some 8) ?_
   refine JL.on 4 7 h12 ?_
   refine JL.val (.slice Aa5 a1.Ns.length c6) (some 9) (yields_load_box 3 1 (holds_box b11 25 [.slice Aa2 a1.Sums.length c3, .slice Aa5 a1.Ns.length c6, .slice Aa8 a1.Spans.length c9]) tyAgg_22) ?_
   refine JL.on 4 7 h12 ?_
   refine JL.pur (.int .i64 (a1.Ns.length : Int)) (some 10) ?_
   refine JL.on 4 7 h12 ?_
   refine JL.pur (.bool (decide (600 < (a1.Ns.length : Int)))) (some 11) ?_
   refine JL.val (.bool (decide (600 < (a1.Ns.length : Int)))) (some 12) (gives_pickF h12) ?_
   refine JL.mv (.bool (decide (600 < (a1.Ns.length : Int)))) ?_
   rcases ite_cases H0 with ⟨h13, H0⟩ | ⟨h13, H0⟩
   · refine JL.off 10 13 false (some 14) h13 ?_
     refine JL.off 10 13 false (some 15) h13 ?_
     refine JL.off 10 13 false (some 16) h13 ?_
     refine JL.off 10 13 false (some 17) h13 ?_
     refine JL.val (.bool true) (some 18) (gives_pickT h13) ?_
     refine JL.as (.bool true) ?_
     refine JL.es [(2, .bool true)] ?_
     refine JQ.mask [] [false, false, false, false] ?_
     refine J.ret ?_
     obtain rfl := Option.some.inj H0
     exact JQ.done' (rs := [.tmp 2]) (vs := [.bool true]) [] (.inr rfl) ⟨by kernel_rfl, trivial⟩ (fun _ h => Heap.to h) ⟨rfl, rfl⟩
   · refine JL.on 10 13 h13 ?_
     refine JL.pur (.pointer (some ⟨b11, 2, none⟩)) (some 14) ?_
     refine JL.on 10 13 h13 ?_
     refine JL.val (.slice Aa8 a1.Spans.length c9) (some 15) (yields_load_box 3 2 (holds_box b11 25 [.slice Aa2 a1.Sums.length c3, .slice Aa5 a1.Ns.length c6, .slice Aa8 a1.Spans.length c9]) tyAgg_23) ?_
     refine JL.on 10 13 h13 ?_
     refine JL.pur (.int .i64 (a1.Spans.length : Int)) (some 16) ?_
     refine JL.on 10 13 h13 ?_
     refine JL.pur (.bool (decide (100 < (a1.Spans.length : Int)))) (some 17) ?_
     refine JL.val (.bool (decide (100 < (a1.Spans.length : Int)))) (some 18) (gives_pickF h13) ?_
     refine JL.as (.bool (decide (100 < (a1.Spans.length : Int)))) ?_
     refine JL.es [(2, .bool (decide (100 < (a1.Spans.length : Int))))] ?_
     refine JQ.mask [] [false, false, false, false] ?_
     refine J.ret ?_
     obtain rfl := Option.some.inj H0
     exact JQ.done' (rs := [.tmp 2]) (vs := [.bool (decide (100 < (a1.Spans.length : Int)))]) [] (.inr rfl) ⟨by kernel_rfl, trivial⟩ (fun _ h => Heap.to h) ⟨rfl, rfl⟩

theorem ref18_Runs.ok (l1 : (List Gap)) (Aa2 : Option Addr) (c3 : Nat) (r : Bool) (H0 : ref18_Runs.f l1 = some r) :
    Does Try.prog 40 [.slice Aa2 l1.length c3].toArray [At.rd Aa2 c3 fl_Gap.kd l1 true] [] false (fun v Δ => v = .bool r ∧ Δ = []) := by
 refine Does.body (vs := [.slice Aa2 l1.length c3]) Try.func40 rfl ⟨.inl rfl, trivial⟩ trivial fun w S => ?_
 unfold ref18_Runs.f at H0
 refine J.sr ?_
 refine JL.as (.bool false) ?_
 refine JL.es [(0, .slice Aa2 l1.length c3)] ?_
 refine J.seq ?_
 refine J.sr ?_
 refine JL.as (.int .i64 0) ?_
 refine JL.en ?_
 obtain ⟨o1, hit, H0⟩ := bind_some H0
 refine J.loop (σ := Int) (τ := Unit) (G := Unit) (G' := Unit) _ o1 (fun s g => [(0, .slice Aa2 l1.length c3), (3, .int .i64 s)]) (fun s g => [At.rd Aa2 c3 fl_Gap.kd l1 true]) (fun t => ref18_Runs.k7 = some r) (fun t g => []) (fun t g => []) 0 () hit (fun _ h => Heap.to h) ?_ ?_
 · clear hit
   rintro i133 ⟨⟩ st1 H1 hb1 hr1
   replace H1 : ref18_Runs.s6 l1 i133 = some st1 := H1
   unfold ref18_Runs.s6 at H1
   refine JQ.sub [(0, .slice Aa2 l1.length c3), (3, .int .i64 i133)] ?_
   refine JQ.turn (Δ' := [At.rd Aa2 c3 fl_Gap.kd l1 true]) (fun _ h => h.to) ?_
   refine J.seq ?_
   refine J.sr ?_
   refine JL.mv (.int .i64 i133) ?_
   refine JL.mv (.slice Aa2 l1.length c3) ?_
   refine JL.pur (.int .i64 (l1.length : Int)) (some 6) ?_
   refine JL.pur (.bool (decide (i133 < (l1.length : Int)))) (some 7) ?_
   refine JL.es [(0, .slice Aa2 l1.length c3), (3, .int .i64 i133), (7, .bool (decide (i133 < (l1.length : Int))))] ?_
   rcases ite_cases H1 with ⟨h211, H1⟩ | ⟨h211, H1⟩
   · refine J.cond_true h211 ?_
     refine J.skip ?_
     refine JQ.ts [(0, .slice Aa2 l1.length c3), (3, .int .i64 i133)] ?_
     refine J.seq ?_
     refine J.block ?_
     refine J.seq ?_
     refine J.join (T := Bool) (G := Unit) (fun t => ref18_Runs.k8 l1 i133 t = some st1) (fun t g => [(0, .slice Aa2 l1.length c3), (3, .int .i64 i133), (45, .bool t)]) (fun t g => [At.rd Aa2 c3 fl_Gap.kd l1 true]) ?_ ?_
     · refine J.draw ?_
       refine QL.mv (.slice Aa2 l1.length c3) ?_
       refine QL.mv (.int .i64 i133) ?_
       obtain ⟨⟨h265, h266⟩, H1⟩ := ite_must H1
       refine QL.ixAddr 0 2 c3 .i64 (elems_rd Aa2 c3 fl_Gap.kd l1 true) Try.underlying23 tySize_51 h265 h266 fun g267 o268 hA => ?_
       subst hA
       refine QL.pur (.pointer (some ⟨g267, o268 + i133.toNat * 2, none⟩)) (some 13) ?_
       refine QL.val (.int .i64 ((ix l1 i133).At)) (some 14) (gives_loadEl (f := fl_Gap) 0 0 i133 (elems_rd (some ⟨g267, o268, none⟩) c3 fl_Gap.kd l1 true) h265 h266 tySize_3 (.inr ⟨tyAgg_3, rfl, rfl⟩)) ?_
       refine QL.pur (.bool (decide ((ix l1 i133).At < 0))) (some 15) ?_
       refine QL.mv (.bool (decide ((ix l1 i133).At < 0))) ?_
       rcases ite_cases H1 with ⟨h269, H1⟩ | ⟨h269, H1⟩
       · refine QL.off 6 16 false (some 17) h269 ?_
         refine QL.off 6 16 false (some 18) h269 ?_
         refine QL.off 6 16 false (some 19) h269 ?_
         refine QL.off 6 16 false (some 20) h269 ?_
         refine QL.off 6 16 false (some 21) h269 ?_
         refine QL.off 6 16 false (some 22) h269 ?_
         refine QL.val (.bool true) (some 23) (gives_pickT h269) ?_
         refine QL.mv (.bool true) ?_
         refine QL.off 14 24 false (some 25) rfl ?_
         refine QL.off 14 24 false (some 26) rfl ?_
         refine QL.off 14 24 false (some 27) rfl ?_
         refine QL.off 14 24 false (some 28) rfl ?_
         refine QL.off 14 24 false (some 29) rfl ?_
         refine QL.off 14 24 false (some 30) rfl ?_
         refine QL.val (.bool true) (some 31) (gives_pickT rfl) ?_
         refine QL.mv (.bool true) ?_
         refine QL.off 22 32 false (some 33) rfl ?_
         refine QL.off 22 32 false (some 34) rfl ?_
         refine QL.off 22 32 false (some 35) rfl ?_
         refine QL.off 22 32 false (some 36) rfl ?_
         refine QL.off 22 32 false (some 37) rfl ?_
         refine QL.off 22 32 false (some 38) rfl ?_
         refine QL.off 22 32 false (some 39) rfl ?_
         refine QL.off 22 32 false (some 40) rfl ?_
         refine QL.off 22 32 false (some 41) rfl ?_
         refine QL.off 22 32 false (some 42) rfl ?_
         refine QL.off 22 32 false (some 43) rfl ?_
         refine QL.off 22 32 false (some 44) rfl ?_
         refine QL.val (.bool true) (some 45) (gives_pickT rfl) ?_
         refine QL.nil ?_
         refine JA.nil ?_
         refine JQ.then_normal ?_
         exact JQ.meet true () H1 (fun _ h => Heap.to h)
       · refine QL.on 6 16 h269 ?_
         refine QL.mv (.slice (some ⟨g267, o268, none⟩) l1.length c3) ?_
         refine QL.on 6 16 h269 ?_
         refine QL.mv (.int .i64 i133) ?_
         refine QL.on 6 16 h269 ?_
         refine QL.ixAddr' 0 2 c3 .i64 (elems_rd (some ⟨g267, o268, none⟩) c3 fl_Gap.kd l1 true) Try.underlying23 tySize_51 h265 h266 ?_
         refine QL.on 6 16 h269 ?_
         refine QL.pur (.pointer (some ⟨g267, o268 + i133.toNat * 2, none⟩)) (some 20) ?_
         refine QL.on 6 16 h269 ?_
         refine QL.val (.int .i64 ((ix l1 i133).At)) (some 21) (gives_loadEl (f := fl_Gap) 0 0 i133 (elems_rd (some ⟨g267, o268, none⟩) c3 fl_Gap.kd l1 true) h265 h266 tySize_3 (.inr ⟨tyAgg_3, rfl, rfl⟩)) ?_
         refine QL.on 6 16 h269 ?_
         refine QL.pur (.bool (decide (1000000000 < (ix l1 i133).At))) (some 22) ?_
         refine QL.val (.bool (decide (1000000000 < (ix l1 i133).At))) (some 23) (gives_pickF h269) ?_
         refine QL.mv (.bool (decide (1000000000 < (ix l1 i133).At))) ?_
         rcases ite_cases H1 with ⟨h274, H1⟩ | ⟨h274, H1⟩
         · refine QL.off 14 24 false (some 25) h274 ?_
           refine QL.off 14 24 false (some 26) h274 ?_
           refine QL.off 14 24 false (some 27) h274 ?_
           refine QL.off 14 24 false (some 28) h274 ?_
           refine QL.off 14 24 false (some 29) h274 ?_
           refine QL.off 14 24 false (some 30) h274 ?_
           refine QL.val (.bool true) (some 31) (gives_pickT h274) ?_
           refine QL.mv (.bool true) ?_
           refine QL.off 22 32 false (some 33) rfl ?_
           refine QL.off 22 32 false (some 34) rfl ?_
           refine QL.off 22 32 false (some 35) rfl ?_
           refine QL.off 22 32 false (some 36) rfl ?_
           refine QL.off 22 32 false (some 37) rfl ?_
           refine QL.off 22 32 false (some 38) rfl ?_
           refine QL.off 22 32 false (some 39) rfl ?_
           refine QL.off 22 32 false (some 40) rfl ?_
           refine QL.off 22 32 false (some 41) rfl ?_
           refine QL.off 22 32 false (some 42) rfl ?_
           refine QL.off 22 32 false (some 43) rfl ?_
           refine QL.off 22 32 false (some 44) rfl ?_
           refine QL.val (.bool true) (some 45) (gives_pickT rfl) ?_
           refine QL.nil ?_
           refine JA.nil ?_
           refine JQ.then_normal ?_
           exact JQ.meet true () H1 (fun _ h => Heap.to h)
         · refine QL.on 14 24 h274 ?_
           refine QL.mv (.slice (some ⟨g267, o268, none⟩) l1.length c3) ?_
           refine QL.on 14 24 h274 ?_
           refine QL.mv (.int .i64 i133) ?_
           refine QL.on 14 24 h274 ?_
           refine QL.ixAddr' 0 2 c3 .i64 (elems_rd (some ⟨g267, o268, none⟩) c3 fl_Gap.kd l1 true) Try.underlying23 tySize_51 h265 h266 ?_
           refine QL.on 14 24 h274 ?_
           refine QL.pur (.pointer (some ⟨g267, o268 + i133.toNat * 2 + 1, none⟩)) (some 28) ?_
           refine QL.on 14 24 h274 ?_
           refine QL.val (.int .i64 ((ix l1 i133).Many)) (some 29) (gives_loadEl (f := fl_Gap) 0 1 i133 (elems_rd (some ⟨g267, o268, none⟩) c3 fl_Gap.kd l1 true) h265 h266 tySize_3 (.inr ⟨tyAgg_3, rfl, rfl⟩)) ?_
           refine QL.on 14 24 h274 ?_
           refine QL.pur (.bool (decide ((ix l1 i133).Many < 1))) (some 30) ?_
           refine QL.val (.bool (decide ((ix l1 i133).Many < 1))) (some 31) (gives_pickF h274) ?_
           refine QL.mv (.bool (decide ((ix l1 i133).Many < 1))) ?_
           rcases ite_cases H1 with ⟨h279, H1⟩ | ⟨h279, H1⟩
           · refine QL.off 22 32 false (some 33) h279 ?_
             refine QL.off 22 32 false (some 34) h279 ?_
             refine QL.off 22 32 false (some 35) h279 ?_
             refine QL.off 22 32 false (some 36) h279 ?_
             refine QL.off 22 32 false (some 37) h279 ?_
             refine QL.off 22 32 false (some 38) h279 ?_
             refine QL.off 22 32 false (some 39) h279 ?_
             refine QL.off 22 32 false (some 40) h279 ?_
             refine QL.off 22 32 false (some 41) h279 ?_
             refine QL.off 22 32 false (some 42) h279 ?_
             refine QL.off 22 32 false (some 43) h279 ?_
             refine QL.off 22 32 false (some 44) h279 ?_
             refine QL.val (.bool true) (some 45) (gives_pickT h279) ?_
             refine QL.nil ?_
             refine JA.nil ?_
             refine JQ.then_normal ?_
             exact JQ.meet true () H1 (fun _ h => Heap.to h)
           · refine QL.on 22 32 h279 ?_
             refine QL.mv (.slice (some ⟨g267, o268, none⟩) l1.length c3) ?_
             refine QL.on 22 32 h279 ?_
             refine QL.mv (.int .i64 i133) ?_
             refine QL.on 22 32 h279 ?_
             refine QL.ixAddr' 0 2 c3 .i64 (elems_rd (some ⟨g267, o268, none⟩) c3 fl_Gap.kd l1 true) Try.underlying23 tySize_51 h265 h266 ?_
             refine QL.on 22 32 h279 ?_
             refine QL.pur (.pointer (some ⟨g267, o268 + i133.toNat * 2 + 1, none⟩)) (some 36) ?_
             refine QL.on 22 32 h279 ?_
             refine QL.val (.int .i64 ((ix l1 i133).Many)) (some 37) (gives_loadEl (f := fl_Gap) 0 1 i133 (elems_rd (some ⟨g267, o268, none⟩) c3 fl_Gap.kd l1 true) h265 h266 tySize_3 (.inr ⟨tyAgg_3, rfl, rfl⟩)) ?_
             refine QL.on 22 32 h279 ?_
             refine QL.mv (.slice (some ⟨g267, o268, none⟩) l1.length c3) ?_
             refine QL.on 22 32 h279 ?_
             refine QL.mv (.int .i64 i133) ?_
             refine QL.on 22 32 h279 ?_
             refine QL.ixAddr' 0 2 c3 .i64 (elems_rd (some ⟨g267, o268, none⟩) c3 fl_Gap.kd l1 true) Try.underlying23 tySize_51 h265 h266 ?_
             refine QL.on 22 32 h279 ?_
             refine QL.pur (.pointer (some ⟨g267, o268 + i133.toNat * 2, none⟩)) (some 41) ?_
             refine QL.on 22 32 h279 ?_
             refine QL.val (.int .i64 ((ix l1 i133).At)) (some 42) (gives_loadEl (f := fl_Gap) 0 0 i133 (elems_rd (some ⟨g267, o268, none⟩) c3 fl_Gap.kd l1 true) h265 h266 tySize_3 (.inr ⟨tyAgg_3, rfl, rfl⟩)) ?_
             refine QL.on 22 32 h279 ?_
             refine QL.pur (.int .i64 (w64 (1000000000 - ((ix l1 i133).At)))) (some 43) ?_
             refine QL.on 22 32 h279 ?_
             refine QL.pur (.bool (decide (w64 (1000000000 - ((ix l1 i133).At)) < (ix l1 i133).Many))) (some 44) ?_
             refine QL.val (.bool (decide (w64 (1000000000 - ((ix l1 i133).At)) < (ix l1 i133).Many))) (some 45) (gives_pickF h279) ?_
             refine QL.nil ?_
             refine JA.nil ?_
             refine JQ.then_normal ?_
             exact JQ.meet (decide (w64 (1000000000 - ((ix l1 i133).At)) < (ix l1 i133).Many)) () H1 (fun _ h => Heap.to h)
     · clear H1
       rintro x235 ⟨⟩ H1
       replace H1 : ref18_Runs.k8 l1 i133 x235 = some st1 := H1
       unfold ref18_Runs.k8 at H1
       refine JQ.sub [(0, .slice Aa2 l1.length c3), (3, .int .i64 i133), (45, .bool x235)] ?_
       refine JQ.turn (Δ' := [At.rd Aa2 c3 fl_Gap.kd l1 true]) (fun _ h => h.to) ?_
       rcases ite_cases H1 with ⟨h236, H1⟩ | ⟨h236, H1⟩
       · refine J.cond_true h236 ?_
         refine J.sr ?_
         refine JL.as (.bool false) ?_
         refine JL.es [(2, .bool false)] ?_
         refine JQ.mask [] [false] ?_
         refine J.ret ?_
         refine JQ.then_ret ?_
         refine JQ.blk_ret ?_
         refine JQ.then_ret ?_
         refine JQ.then_ret ?_
         refine JQ.blk_ret ?_
         refine JQ.met_ret ?_
         refine JQ.then_ret ?_
         rw [hr1 _ (Option.some.inj H1).symm, fin_ret] at H0
         obtain rfl := Option.some.inj H0
         exact JQ.done' (rs := [.tmp 2]) (vs := [.bool false]) [] (.inr rfl) ⟨by kernel_rfl, trivial⟩ (fun _ h => Heap.to h) ⟨rfl, rfl⟩
       · refine J.cond_false h236 ?_
         refine J.skip ?_
         refine JQ.ts [(0, .slice Aa2 l1.length c3), (3, .int .i64 i133)] ?_
         refine J.join (T := Bool) (G := Unit) (fun t => ref18_Runs.k9 i133 t = some st1) (fun t g => [(0, .slice Aa2 l1.length c3), (3, .int .i64 i133), (68, .bool t)]) (fun t g => [At.rd Aa2 c3 fl_Gap.kd l1 true]) ?_ ?_
         · refine J.draw ?_
           refine QL.mv (.int .i64 i133) ?_
           refine QL.pur (.bool (decide (0 < i133))) (some 47) ?_
           refine QL.mv (.bool (decide (0 < i133))) ?_
           rcases ite_cases H1 with ⟨h252, H1⟩ | ⟨h252, H1⟩
           · refine QL.on 2 48 h252 ?_
             refine QL.mv (.slice Aa2 l1.length c3) ?_
             refine QL.on 2 48 h252 ?_
             refine QL.mv (.int .i64 i133) ?_
             refine QL.on 2 48 h252 ?_
             obtain ⟨⟨h253, h254⟩, H1⟩ := ite_must H1
             refine QL.ixAddr 0 2 c3 .i64 (elems_rd Aa2 c3 fl_Gap.kd l1 true) Try.underlying23 tySize_51 h253 h254 fun g255 o256 hA => ?_
             subst hA
             refine QL.on 2 48 h252 ?_
             refine QL.pur (.pointer (some ⟨g255, o256 + i133.toNat * 2, none⟩)) (some 52) ?_
             refine QL.on 2 48 h252 ?_
             refine QL.val (.int .i64 ((ix l1 i133).At)) (some 53) (gives_loadEl (f := fl_Gap) 0 0 i133 (elems_rd (some ⟨g255, o256, none⟩) c3 fl_Gap.kd l1 true) h253 h254 tySize_3 (.inr ⟨tyAgg_3, rfl, rfl⟩)) ?_
             refine QL.on 2 48 h252 ?_
             refine QL.mv (.slice (some ⟨g255, o256, none⟩) l1.length c3) ?_
             refine QL.on 2 48 h252 ?_
             refine QL.mv (.int .i64 i133) ?_
             refine QL.on 2 48 h252 ?_
             refine QL.pur (.int .i64 (w64 (i133 - 1))) (some 56) ?_
             refine QL.on 2 48 h252 ?_
             obtain ⟨⟨h257, h258⟩, H1⟩ := ite_must H1
             refine QL.ixAddr' 0 2 c3 .i64 (elems_rd (some ⟨g255, o256, none⟩) c3 fl_Gap.kd l1 true) Try.underlying23 tySize_51 h257 h258 ?_
             refine QL.on 2 48 h252 ?_
             refine QL.pur (.pointer (some ⟨g255, o256 + (w64 (i133 - 1)).toNat * 2, none⟩)) (some 58) ?_
             refine QL.on 2 48 h252 ?_
             refine QL.val (.int .i64 ((ix l1 (w64 (i133 - 1))).At)) (some 59) (gives_loadEl (f := fl_Gap) 0 0 (w64 (i133 - 1)) (elems_rd (some ⟨g255, o256, none⟩) c3 fl_Gap.kd l1 true) h257 h258 tySize_3 (.inr ⟨tyAgg_3, rfl, rfl⟩)) ?_
             refine QL.on 2 48 h252 ?_
             refine QL.mv (.slice (some ⟨g255, o256, none⟩) l1.length c3) ?_
             refine QL.on 2 48 h252 ?_
             refine QL.mv (.int .i64 i133) ?_
             refine QL.on 2 48 h252 ?_
             refine QL.pur (.int .i64 (w64 (i133 - 1))) (some 62) ?_
             refine QL.on 2 48 h252 ?_
             refine QL.ixAddr' 0 2 c3 .i64 (elems_rd (some ⟨g255, o256, none⟩) c3 fl_Gap.kd l1 true) Try.underlying23 tySize_51 h257 h258 ?_
             refine QL.on 2 48 h252 ?_
             refine QL.pur (.pointer (some ⟨g255, o256 + (w64 (i133 - 1)).toNat * 2 + 1, none⟩)) (some 64) ?_
             refine QL.on 2 48 h252 ?_
             refine QL.val (.int .i64 ((ix l1 (w64 (i133 - 1))).Many)) (some 65) (gives_loadEl (f := fl_Gap) 0 1 (w64 (i133 - 1)) (elems_rd (some ⟨g255, o256, none⟩) c3 fl_Gap.kd l1 true) h257 h258 tySize_3 (.inr ⟨tyAgg_3, rfl, rfl⟩)) ?_
             refine QL.on 2 48 h252 ?_
             refine QL.pur (.int .i64 (w64 (((ix l1 (w64 (i133 - 1))).At) + ((ix l1 (w64 (i133 - 1))).Many)))) (some 66) ?_
             refine QL.on 2 48 h252 ?_
             refine QL.pur (.bool (decide ((ix l1 i133).At ≤ w64 (((ix l1 (w64 (i133 - 1))).At) + ((ix l1 (w64 (i133 - 1))).Many))))) (some 67) ?_
             refine QL.val (.bool (decide ((ix l1 i133).At ≤ w64 (((ix l1 (w64 (i133 - 1))).At) + ((ix l1 (w64 (i133 - 1))).Many))))) (some 68) (gives_pickT h252) ?_
             refine QL.nil ?_
             refine JA.nil ?_
             refine JQ.then_normal ?_
             exact JQ.meet (decide ((ix l1 i133).At ≤ w64 (((ix l1 (w64 (i133 - 1))).At) + ((ix l1 (w64 (i133 - 1))).Many)))) () H1 (fun _ h => Heap.to h)
           · refine QL.off 2 48 true (some 49) h252 ?_
             refine QL.off 2 48 true (some 50) h252 ?_
             refine QL.off 2 48 true (some 51) h252 ?_
             refine QL.off 2 48 true (some 52) h252 ?_
             refine QL.off 2 48 true (some 53) h252 ?_
             refine QL.off 2 48 true (some 54) h252 ?_
             refine QL.off 2 48 true (some 55) h252 ?_
             refine QL.off 2 48 true (some 56) h252 ?_
             refine QL.off 2 48 true (some 57) h252 ?_
             refine QL.off 2 48 true (some 58) h252 ?_
             refine QL.off 2 48 true (some 59) h252 ?_
             refine QL.off 2 48 true (some 60) h252 ?_
             refine QL.off 2 48 true (some 61) h252 ?_
             refine QL.off 2 48 true (some 62) h252 ?_
             refine QL.off 2 48 true (some 63) h252 ?_
             refine QL.off 2 48 true (some 64) h252 ?_
             refine QL.off 2 48 true (some 65) h252 ?_
             refine QL.off 2 48 true (some 66) h252 ?_
             refine QL.off 2 48 true (some 67) h252 ?_
             refine QL.val (.bool false) (some 68) (gives_pickF h252) ?_
             refine QL.nil ?_
             refine JA.nil ?_
             refine JQ.then_normal ?_
             exact JQ.meet false () H1 (fun _ h => Heap.to h)
         · clear H1
           rintro x250 ⟨⟩ H1
           replace H1 : ref18_Runs.k9 i133 x250 = some st1 := H1
           unfold ref18_Runs.k9 at H1
           refine JQ.sub [(0, .slice Aa2 l1.length c3), (3, .int .i64 i133), (68, .bool x250)] ?_
           refine JQ.turn (Δ' := [At.rd Aa2 c3 fl_Gap.kd l1 true]) (fun _ h => h.to) ?_
           rcases ite_cases H1 with ⟨h251, H1⟩ | ⟨h251, H1⟩
           · refine J.cond_true h251 ?_
             refine J.sr ?_
             refine JL.as (.bool false) ?_
             refine JL.es [(2, .bool false)] ?_
             refine JQ.mask [] [false] ?_
             refine J.ret ?_
             refine JQ.blk_ret ?_
             refine JQ.then_ret ?_
             refine JQ.then_ret ?_
             refine JQ.blk_ret ?_
             refine JQ.met_ret ?_
             refine JQ.then_ret ?_
             rw [hr1 _ (Option.some.inj H1).symm, fin_ret] at H0
             obtain rfl := Option.some.inj H0
             exact JQ.done' (rs := [.tmp 2]) (vs := [.bool false]) [] (.inr rfl) ⟨by kernel_rfl, trivial⟩ (fun _ h => Heap.to h) ⟨rfl, rfl⟩
           · refine J.cond_false h251 ?_
             refine J.skip ?_
             refine JQ.blk_normal ?_
             refine JQ.ts [(0, .slice Aa2 l1.length c3), (3, .int .i64 i133)] ?_
             refine J.region ?_
             refine JL.mv (.int .i64 i133) ?_
             refine JL.pur (.int .i64 (w64 (i133 + 1))) (some 9) ?_
             refine JL.as (.int .i64 (w64 (i133 + 1))) ?_
             refine JL.en ?_
             exact JQ.again (w64 (i133 + 1)) () (Option.some.inj H1).symm (fun _ h => Heap.to h)
   · refine J.cond_false h211 ?_
     refine J.exit ?_
     refine JQ.then_exit ?_
     refine JQ.then_exit ?_
     refine JQ.blk_exit ?_
     rw [hb1 _ (Option.some.inj H1).symm, fin_brk] at H0
     exact JQ.met () () H0 (fun _ h => Heap.to (Heap.pick [] (by decide) h))
 · clear hit H0
   rintro ⟨⟩ ⟨⟩ H0
   replace H0 : ref18_Runs.k7 = some r := H0
   unfold ref18_Runs.k7 at H0
   refine JQ.sub [] ?_
   refine JQ.turn (Δ' := []) (fun _ h => h.to) ?_
   refine JQ.then_normal ?_
   refine J.sr ?_
   refine JL.as (.bool true) ?_
   refine JL.en ?_
   refine J.ret ?_
   obtain rfl := Option.some.inj H0
   exact JQ.done' (rs := [.tmp 2]) (vs := [.bool true]) [] (.inr rfl) ⟨by kernel_rfl, trivial⟩ (fun _ h => Heap.to h) ⟨rfl, rfl⟩

theorem ref18_Valid.ok (c1 : Count) (r : Bool) (H0 : ref18_Valid.f c1 = some r) :
    Does Try.prog 41 [mv_49 c1].toArray [] [] false (fun v Δ => v = .bool r ∧ Δ = []) := by
 refine Does.body (vs := [mv_49 c1]) Try.func41 rfl trivial trivial fun w S => ?_
 unfold ref18_Valid.f at H0
 refine J.sr ?_
 refine JL.box (cl_49 c1) fun b2 => ?_
 refine JL.as (.bool false) ?_
 refine JL.es [(1, .pointer (some ⟨b2, 0, none⟩))] ?_
 refine J.sr ?_
 refine JL.pur (.pointer (some ⟨b2, 1, none⟩)) (some 3) ?_
 refine JL.val (.int .i64 c1.Lo) (some 4) (yields_load_box 0 1 (holds_box b2 49 (cl_49 c1)) tyAgg_2) ?_
 refine JL.pur (.bool (decide (0 ≤ c1.Lo))) (some 5) ?_
 refine JL.mv (.bool (decide (0 ≤ c1.Lo))) ?_
 rcases ite_cases H0 with ⟨h3, H0⟩ | ⟨h3, H0⟩
 · refine JL.on 3 6 h3 ?_
   refine JL.pur (.pointer (some ⟨b2, 1, none⟩)) (some 7) ?_
   refine JL.on 3 6 h3 ?_
   refine JL.val (.int .i64 c1.Lo) (some 8) (yields_load_box 0 1 (holds_box b2 49 (cl_49 c1)) tyAgg_2) ?_
   refine JL.on 3 6 h3 ?_
   refine JL.pur (.bool (decide (c1.Lo < 1000000000))) (some 9) ?_
   refine JL.val (.bool (decide (c1.Lo < 1000000000))) (some 10) (gives_pickT h3) ?_
   refine JL.mv (.bool (decide (c1.Lo < 1000000000))) ?_
   rcases ite_cases H0 with ⟨h4, H0⟩ | ⟨h4, H0⟩
   · refine JL.on 8 11 h4 ?_
     refine JL.pur (.pointer (some ⟨b2, 0, none⟩)) (some 12) ?_
     refine JL.on 8 11 h4 ?_
     refine JL.val (.int .i64 c1.Hi) (some 13) (yields_load_box 0 0 (holds_box b2 49 (cl_49 c1)) tyAgg_2) ?_
     refine JL.on 8 11 h4 ?_
     refine JL.pur (.bool (decide ((-1000000000) ≤ c1.Hi))) (some 14) ?_
     refine JL.val (.bool (decide ((-1000000000) ≤ c1.Hi))) (some 15) (gives_pickT h4) ?_
     refine JL.mv (.bool (decide ((-1000000000) ≤ c1.Hi))) ?_
     rcases ite_cases H0 with ⟨h5, H0⟩ | ⟨h5, H0⟩
     · refine JL.on 13 16 h5 ?_
       refine JL.pur (.pointer (some ⟨b2, 0, none⟩)) (some 17) ?_
       refine JL.on 13 16 h5 ?_
       refine JL.val (.int .i64 c1.Hi) (some 18) (yields_load_box 0 0 (holds_box b2 49 (cl_49 c1)) tyAgg_2) ?_
       refine JL.on 13 16 h5 ?_
       refine JL.pur (.bool (decide (c1.Hi < 1000000000))) (some 19) ?_
       refine JL.val (.bool (decide (c1.Hi < 1000000000))) (some 20) (gives_pickT h5) ?_
       refine JL.as (.bool (decide (c1.Hi < 1000000000))) ?_
       refine JL.es [(2, .bool (decide (c1.Hi < 1000000000)))] ?_
       refine JQ.mask [] [false] ?_
       refine J.ret ?_
       obtain rfl := Option.some.inj H0
       exact JQ.done' (rs := [.tmp 2]) (vs := [.bool (decide (c1.Hi < 1000000000))]) [] (.inr rfl) ⟨by kernel_rfl, trivial⟩ (fun _ h => Heap.to h) ⟨rfl, rfl⟩
     · refine JL.off 13 16 true (some 17) h5 ?_
       refine JL.off 13 16 true (some 18) h5 ?_
       refine JL.off 13 16 true (some 19) h5 ?_
       refine JL.val (.bool false) (some 20) (gives_pickF h5) ?_
       refine JL.as (.bool false) ?_
       refine JL.es [(2, .bool false)] ?_
       refine JQ.mask [] [false] ?_
       refine J.ret ?_
       obtain rfl := Option.some.inj H0
       exact JQ.done' (rs := [.tmp 2]) (vs := [.bool false]) [] (.inr rfl) ⟨by kernel_rfl, trivial⟩ (fun _ h => Heap.to h) ⟨rfl, rfl⟩
   · refine JL.off 8 11 true (some 12) h4 ?_
     refine JL.off 8 11 true (some 13) h4 ?_
     refine JL.off 8 11 true (some 14) h4 ?_
     refine JL.val (.bool false) (some 15) (gives_pickF h4) ?_
     refine JL.mv (.bool false) ?_
     refine JL.off 13 16 true (some 17) rfl ?_
     refine JL.off 13 16 true (some 18) rfl ?_
     refine JL.off 13 16 true (some 19) rfl ?_
     refine JL.val (.bool false) (some 20) (gives_pickF rfl) ?_
     refine JL.as (.bool false) ?_
     refine JL.es [(2, .bool false)] ?_
     refine JQ.mask [] [false] ?_
     refine J.ret ?_
     obtain rfl := Option.some.inj H0
     exact JQ.done' (rs := [.tmp 2]) (vs := [.bool false]) [] (.inr rfl) ⟨by kernel_rfl, trivial⟩ (fun _ h => Heap.to h) ⟨rfl, rfl⟩
 · refine JL.off 3 6 true (some 7) h3 ?_
   refine JL.off 3 6 true (some 8) h3 ?_
   refine JL.off 3 6 true (some 9) h3 ?_
   refine JL.val (.bool false) (some 10) (gives_pickF h3) ?_
   refine JL.mv (.bool false) ?_
   refine JL.off 8 11 true (some 12) rfl ?_
   refine JL.off 8 11 true (some 13) rfl ?_
   refine JL.off 8 11 true (some 14) rfl ?_
   refine JL.val (.bool false) (some 15) (gives_pickF rfl) ?_
   refine JL.mv (.bool false) ?_
   refine JL.off 13 16 true (some 17) rfl ?_
   refine JL.off 13 16 true (some 18) rfl ?_
   refine JL.off 13 16 true (some 19) rfl ?_
   refine JL.val (.bool false) (some 20) (gives_pickF rfl) ?_
   refine JL.as (.bool false) ?_
   refine JL.es [(2, .bool false)] ?_
   refine JQ.mask [] [false] ?_
   refine J.ret ?_
   obtain rfl := Option.some.inj H0
   exact JQ.done' (rs := [.tmp 2]) (vs := [.bool false]) [] (.inr rfl) ⟨by kernel_rfl, trivial⟩ (fun _ h => Heap.to h) ⟨rfl, rfl⟩

theorem ref18_Worth.ok (c1 : Count) (r : Int) (H0 : ref18_Worth.f c1 = some r) :
    Does Try.prog 31 [mv_49 c1].toArray [] [] false (fun v Δ => v = .int .i64 r ∧ Δ = []) := by
 refine Does.body (vs := [mv_49 c1]) Try.func31 rfl trivial trivial fun w S => ?_
 unfold ref18_Worth.f at H0
 refine J.sr ?_
 refine JL.box (cl_49 c1) fun b2 => ?_
 refine JL.as (.int .i64 0) ?_
 refine JL.es [(1, .pointer (some ⟨b2, 0, none⟩))] ?_
 refine J.sr ?_
 refine JL.pur (.pointer (some ⟨b2, 0, none⟩)) (some 3) ?_
 refine JL.val (.int .i64 c1.Hi) (some 4) (yields_load_box 0 0 (holds_box b2 49 (cl_49 c1)) tyAgg_2) ?_
 refine JL.pur (.int .i64 (w64 (1000000000 * c1.Hi))) (some 5) ?_
 refine JL.pur (.pointer (some ⟨b2, 1, none⟩)) (some 6) ?_
 refine JL.val (.int .i64 c1.Lo) (some 7) (yields_load_box 0 1 (holds_box b2 49 (cl_49 c1)) tyAgg_2) ?_
 refine JL.pur (.int .i64 (w64 ((w64 (1000000000 * c1.Hi)) + c1.Lo))) (some 8) ?_
 refine JL.as (.int .i64 (w64 ((w64 (1000000000 * c1.Hi)) + c1.Lo))) ?_
 refine JL.es [(2, .int .i64 (w64 ((w64 (1000000000 * c1.Hi)) + c1.Lo)))] ?_
 refine JQ.mask [] [false] ?_
 refine J.ret ?_
 obtain rfl := Option.some.inj H0
 exact JQ.done' (rs := [.tmp 2]) (vs := [.int .i64 (w64 ((w64 (1000000000 * c1.Hi)) + c1.Lo))]) [] (.inr rfl) ⟨by kernel_rfl, trivial⟩ (fun _ h => Heap.to h) ⟨rfl, rfl⟩

theorem ref18_Check.ok (a1 : Acc) (Aa2 : Option Addr) (c3 : Nat) (Aa5 : Option Addr) (c6 : Nat) (Aa8 : Option Addr) (c9 : Nat) (r : Int) (H0 : ref18_Check.f a1 = some r) :
    Does Try.prog 23 [.agg #[.slice Aa2 a1.Sums.length c3, .slice Aa5 a1.Ns.length c6, .slice Aa8 a1.Spans.length c9]].toArray [At.rd Aa2 c3 fl_Count.kd a1.Sums true, At.rd Aa5 c6 fl_Count.kd a1.Ns true, At.rd Aa8 c9 fl_Gap.kd a1.Spans true] [] false (fun v Δ => v = .int .i64 r ∧ Δ = []) := by
 refine Does.body (vs := [.agg #[.slice Aa2 a1.Sums.length c3, .slice Aa5 a1.Ns.length c6, .slice Aa8 a1.Spans.length c9]]) Try.func23 rfl ⟨.inl rfl, .inl rfl, .inl rfl, trivial⟩ trivial fun w S => ?_
 unfold ref18_Check.f at H0
 refine J.sr ?_
 refine JL.box [.slice Aa2 a1.Sums.length c3, .slice Aa5 a1.Ns.length c6, .slice Aa8 a1.Spans.length c9] fun b11 => ?_
 refine JL.as (.int .i64 0) ?_
 refine JL.es [(1, .pointer (some ⟨b11, 0, none⟩))] ?_
 refine J.seq ?_
 refine J.join (T := Bool) (G := Unit) (fun t => ref18_Check.k1 a1 t = some r) (fun t g => [(1, .pointer (some ⟨b11, 0, none⟩)), (19, .bool t)]) (fun t g => [At.box b11 25 [.slice Aa2 a1.Sums.length c3, .slice Aa5 a1.Ns.length c6, .slice Aa8 a1.Spans.length c9], At.rd Aa2 c3 fl_Count.kd a1.Sums true, At.rd Aa5 c6 fl_Count.kd a1.Ns true, At.rd Aa8 c9 fl_Gap.kd a1.Spans true]) ?_ ?_
 · refine J.region ?_
   refine JL.pur (.pointer (some ⟨b11, 0, none⟩)) (some 4) ?_
   refine JL.val (.slice Aa2 a1.Sums.length c3) (some 5) (yields_load_box 3 0 (holds_box b11 25 [.slice Aa2 a1.Sums.length c3, .slice Aa5 a1.Ns.length c6, .slice Aa8 a1.Spans.length c9]) tyAgg_22) ?_
   refine JL.pur (.int .i64 (a1.Sums.length : Int)) (some 6) ?_
   refine JL.pur (.bool (decide (511 < (a1.Sums.length : Int)))) (some 7) ?_
   refine JL.mv (.bool (decide (511 < (a1.Sums.length : Int)))) ?_
   rcases ite_cases H0 with ⟨h201, H0⟩ | ⟨h201, H0⟩
   · refine JL.off 4 8 false (some 9) h201 ?_
     refine JL.off 4 8 false (some 10) h201 ?_
     refine JL.off 4 8 false (some 11) h201 ?_
     refine JL.off 4 8 false (some 12) h201 ?_
     refine JL.val (.bool true) (some 13) (gives_pickT h201) ?_
     refine JL.mv (.bool true) ?_
     refine JL.off 10 14 false (some 15) rfl ?_
     refine JL.off 10 14 false (some 16) rfl ?_
     refine JL.off 10 14 false (some 17) rfl ?_
     refine JL.off 10 14 false (some 18) rfl ?_
     refine JL.val (.bool true) (some 19) (gives_pickT rfl) ?_
     refine JL.en ?_
     exact JQ.meet true () H0 (fun _ h => Heap.to (Heap.pick [3, 0, 1, 2] (by decide) h))
   · refine JL.on 4 8 h201 ?_
     refine JL.pur (.pointer (some ⟨b11, 1, none⟩)) (some 9) ?_
     refine JL.on 4 8 h201 ?_
     refine JL.val (.slice Aa5 a1.Ns.length c6) (some 10) (yields_load_box 3 1 (holds_box b11 25 [.slice Aa2 a1.Sums.length c3, .slice Aa5 a1.Ns.length c6, .slice Aa8 a1.Spans.length c9]) tyAgg_22) ?_
     refine JL.on 4 8 h201 ?_
     refine JL.pur (.int .i64 (a1.Ns.length : Int)) (some 11) ?_
     refine JL.on 4 8 h201 ?_
     refine JL.pur (.bool (decide (511 < (a1.Ns.length : Int)))) (some 12) ?_
     refine JL.val (.bool (decide (511 < (a1.Ns.length : Int)))) (some 13) (gives_pickF h201) ?_
     refine JL.mv (.bool (decide (511 < (a1.Ns.length : Int)))) ?_
     rcases ite_cases H0 with ⟨h202, H0⟩ | ⟨h202, H0⟩
     · refine JL.off 10 14 false (some 15) h202 ?_
       refine JL.off 10 14 false (some 16) h202 ?_
       refine JL.off 10 14 false (some 17) h202 ?_
       refine JL.off 10 14 false (some 18) h202 ?_
       refine JL.val (.bool true) (some 19) (gives_pickT h202) ?_
       refine JL.en ?_
       exact JQ.meet true () H0 (fun _ h => Heap.to (Heap.pick [3, 0, 1, 2] (by decide) h))
     · refine JL.on 10 14 h202 ?_
       refine JL.pur (.pointer (some ⟨b11, 2, none⟩)) (some 15) ?_
       refine JL.on 10 14 h202 ?_
       refine JL.val (.slice Aa8 a1.Spans.length c9) (some 16) (yields_load_box 3 2 (holds_box b11 25 [.slice Aa2 a1.Sums.length c3, .slice Aa5 a1.Ns.length c6, .slice Aa8 a1.Spans.length c9]) tyAgg_23) ?_
       refine JL.on 10 14 h202 ?_
       refine JL.pur (.int .i64 (a1.Spans.length : Int)) (some 17) ?_
       refine JL.on 10 14 h202 ?_
       refine JL.pur (.bool (decide (64 < (a1.Spans.length : Int)))) (some 18) ?_
       refine JL.val (.bool (decide (64 < (a1.Spans.length : Int)))) (some 19) (gives_pickF h202) ?_
       refine JL.en ?_
       exact JQ.meet (decide (64 < (a1.Spans.length : Int))) () H0 (fun _ h => Heap.to (Heap.pick [3, 0, 1, 2] (by decide) h))
 · clear H0
   rintro x14 ⟨⟩ H0
   replace H0 : ref18_Check.k1 a1 x14 = some r := H0
   unfold ref18_Check.k1 at H0
   refine JQ.sub [(1, .pointer (some ⟨b11, 0, none⟩)), (19, .bool x14)] ?_
   refine JQ.turn (Δ' := [At.box b11 25 [.slice Aa2 a1.Sums.length c3, .slice Aa5 a1.Ns.length c6, .slice Aa8 a1.Spans.length c9], At.rd Aa2 c3 fl_Count.kd a1.Sums true, At.rd Aa5 c6 fl_Count.kd a1.Ns true, At.rd Aa8 c9 fl_Gap.kd a1.Spans true]) (fun _ h => h.to) ?_
   rcases ite_cases H0 with ⟨h15, H0⟩ | ⟨h15, H0⟩
   · refine J.cond_true h15 ?_
     refine J.sr ?_
     refine JL.as (.int .i64 4) ?_
     refine JL.es [(2, .int .i64 4)] ?_
     refine JQ.mask [] [false, false, false, false] ?_
     refine J.ret ?_
     refine JQ.then_ret ?_
     obtain rfl := Option.some.inj H0
     exact JQ.done' (rs := [.tmp 2]) (vs := [.int .i64 4]) [] (.inr rfl) ⟨by kernel_rfl, trivial⟩ (fun _ h => Heap.to h) ⟨rfl, rfl⟩
   · refine J.cond_false h15 ?_
     refine J.skip ?_
     refine JQ.ts [(1, .pointer (some ⟨b11, 0, none⟩))] ?_
     refine J.seq ?_
     refine J.join (T := Bool) (G := Unit) (fun t => ref18_Check.k2 a1 t = some r) (fun t g => [(1, .pointer (some ⟨b11, 0, none⟩)), (39, .bool t)]) (fun t g => [At.box b11 25 [.slice Aa2 a1.Sums.length c3, .slice Aa5 a1.Ns.length c6, .slice Aa8 a1.Spans.length c9], At.rd Aa2 c3 fl_Count.kd a1.Sums true, At.rd Aa5 c6 fl_Count.kd a1.Ns true, At.rd Aa8 c9 fl_Gap.kd a1.Spans true]) ?_ ?_
     · refine J.region ?_
       refine JL.pur (.pointer (some ⟨b11, 0, none⟩)) (some 20) ?_
       refine JL.val (.slice Aa2 a1.Sums.length c3) (some 21) (yields_load_box 0 0 (holds_box b11 25 [.slice Aa2 a1.Sums.length c3, .slice Aa5 a1.Ns.length c6, .slice Aa8 a1.Spans.length c9]) tyAgg_22) ?_
       refine JL.pur (.int .i64 (a1.Sums.length : Int)) (some 22) ?_
       refine JL.pur (.pointer (some ⟨b11, 1, none⟩)) (some 23) ?_
       refine JL.val (.slice Aa5 a1.Ns.length c6) (some 24) (yields_load_box 0 1 (holds_box b11 25 [.slice Aa2 a1.Sums.length c3, .slice Aa5 a1.Ns.length c6, .slice Aa8 a1.Spans.length c9]) tyAgg_22) ?_
       refine JL.pur (.int .i64 (a1.Ns.length : Int)) (some 25) ?_
       refine JL.pur (.bool (!decide ((a1.Sums.length : Int) = (a1.Ns.length : Int)))) (some 26) ?_
       refine JL.mv (.bool (!decide ((a1.Sums.length : Int) = (a1.Ns.length : Int)))) ?_
       rcases ite_cases H0 with ⟨h197, H0⟩ | ⟨h197, H0⟩
       · refine JL.off 7 27 false (some 28) h197 ?_
         refine JL.off 7 27 false (some 29) h197 ?_
         refine JL.off 7 27 false (some 30) h197 ?_
         refine JL.off 7 27 false (some 31) h197 ?_
         refine JL.off 7 27 false (some 32) h197 ?_
         refine JL.val (.bool true) (some 33) (gives_pickT h197) ?_
         refine JL.mv (.bool true) ?_
         refine JL.off 14 34 false (some 35) rfl ?_
         refine JL.off 14 34 false (some 36) rfl ?_
         refine JL.off 14 34 false (some 37) rfl ?_
         refine JL.off 14 34 false (some 38) rfl ?_
         refine JL.val (.bool true) (some 39) (gives_pickT rfl) ?_
         refine JL.en ?_
         exact JQ.meet true () H0 (fun _ h => Heap.to h)
       · refine JL.on 7 27 h197 ?_
         refine JL.pur (.pointer (some ⟨b11, 0, none⟩)) (some 28) ?_
         refine JL.on 7 27 h197 ?_
         refine JL.val (.slice Aa2 a1.Sums.length c3) (some 29) (yields_load_box 0 0 (holds_box b11 25 [.slice Aa2 a1.Sums.length c3, .slice Aa5 a1.Ns.length c6, .slice Aa8 a1.Spans.length c9]) tyAgg_22) ?_
         refine JL.on 7 27 h197 ?_
         refine JL.pur (.int .i64 (a1.Sums.length : Int)) (some 30) ?_
         refine JL.on 7 27 h197 ?_
         refine JL.pur (.int .i64 (Int.tmod (a1.Sums.length : Int) 2)) (some 31) ?_
         refine JL.on 7 27 h197 ?_
         refine JL.pur (.bool (!decide (Int.tmod (a1.Sums.length : Int) 2 = 1))) (some 32) ?_
         refine JL.val (.bool (!decide (Int.tmod (a1.Sums.length : Int) 2 = 1))) (some 33) (gives_pickF h197) ?_
         refine JL.mv (.bool (!decide (Int.tmod (a1.Sums.length : Int) 2 = 1))) ?_
         rcases ite_cases H0 with ⟨h198, H0⟩ | ⟨h198, H0⟩
         · refine JL.off 14 34 false (some 35) h198 ?_
           refine JL.off 14 34 false (some 36) h198 ?_
           refine JL.off 14 34 false (some 37) h198 ?_
           refine JL.off 14 34 false (some 38) h198 ?_
           refine JL.val (.bool true) (some 39) (gives_pickT h198) ?_
           refine JL.en ?_
           exact JQ.meet true () H0 (fun _ h => Heap.to h)
         · refine JL.on 14 34 h198 ?_
           refine JL.pur (.pointer (some ⟨b11, 2, none⟩)) (some 35) ?_
           refine JL.on 14 34 h198 ?_
           refine JL.val (.slice Aa8 a1.Spans.length c9) (some 36) (yields_load_box 0 2 (holds_box b11 25 [.slice Aa2 a1.Sums.length c3, .slice Aa5 a1.Ns.length c6, .slice Aa8 a1.Spans.length c9]) tyAgg_23) ?_
           refine JL.on 14 34 h198 ?_
           obtain ⟨t199, hc200, H0⟩ := bind_some H0
           refine JL.call [] [] [] (ref18_Runs.ok a1.Spans Aa8 c9 _ hc200) ⟨pre_any 3 (view_rd Aa8 c9 fl_Gap.kd a1.Spans true true), trivial⟩ ?_
           rintro _ _ ⟨rfl, rfl⟩
           refine JL.on 14 34 h198 ?_
           refine JL.pur (.bool (!t199)) (some 38) ?_
           refine JL.val (.bool (!t199)) (some 39) (gives_pickF h198) ?_
           refine JL.en ?_
           exact JQ.meet (!t199) () H0 (fun _ h => Heap.to h)
     · clear H0
       rintro x20 ⟨⟩ H0
       replace H0 : ref18_Check.k2 a1 x20 = some r := H0
       unfold ref18_Check.k2 at H0
       refine JQ.sub [(1, .pointer (some ⟨b11, 0, none⟩)), (39, .bool x20)] ?_
       refine JQ.turn (Δ' := [At.box b11 25 [.slice Aa2 a1.Sums.length c3, .slice Aa5 a1.Ns.length c6, .slice Aa8 a1.Spans.length c9], At.rd Aa2 c3 fl_Count.kd a1.Sums true, At.rd Aa5 c6 fl_Count.kd a1.Ns true, At.rd Aa8 c9 fl_Gap.kd a1.Spans true]) (fun _ h => h.to) ?_
       rcases ite_cases H0 with ⟨h21, H0⟩ | ⟨h21, H0⟩
       · refine J.cond_true h21 ?_
         refine J.sr ?_
         refine JL.as (.int .i64 8) ?_
         refine JL.es [(2, .int .i64 8)] ?_
         refine JQ.mask [] [false, false, false, false] ?_
         refine J.ret ?_
         refine JQ.then_ret ?_
         obtain rfl := Option.some.inj H0
         exact JQ.done' (rs := [.tmp 2]) (vs := [.int .i64 8]) [] (.inr rfl) ⟨by kernel_rfl, trivial⟩ (fun _ h => Heap.to h) ⟨rfl, rfl⟩
       · refine J.cond_false h21 ?_
         refine J.skip ?_
         refine JQ.ts [(1, .pointer (some ⟨b11, 0, none⟩))] ?_
         refine J.seq ?_
         refine J.sr ?_
         refine JL.as (.int .i64 0) ?_
         refine JL.en ?_
         obtain ⟨o1, hit, H0⟩ := bind_some H0
         refine J.loop (σ := Int) (τ := Unit) (G := Unit) (G' := Unit) _ o1 (fun s g => [(1, .pointer (some ⟨b11, 0, none⟩)), (3, .int .i64 s)]) (fun s g => [At.box b11 25 [.slice Aa2 a1.Sums.length c3, .slice Aa5 a1.Ns.length c6, .slice Aa8 a1.Spans.length c9], At.rd Aa2 c3 fl_Count.kd a1.Sums true, At.rd Aa5 c6 fl_Count.kd a1.Ns true, At.rd Aa8 c9 fl_Gap.kd a1.Spans true]) (fun t => ref18_Check.k7 = some r) (fun t g => []) (fun t g => []) 0 () hit (fun _ h => Heap.to h) ?_ ?_
         · clear hit
           rintro i110 ⟨⟩ st1 H1 hb1 hr1
           replace H1 : ref18_Check.s6 a1 i110 = some st1 := H1
           unfold ref18_Check.s6 at H1
           refine JQ.sub [(1, .pointer (some ⟨b11, 0, none⟩)), (3, .int .i64 i110)] ?_
           refine JQ.turn (Δ' := [At.box b11 25 [.slice Aa2 a1.Sums.length c3, .slice Aa5 a1.Ns.length c6, .slice Aa8 a1.Spans.length c9], At.rd Aa2 c3 fl_Count.kd a1.Sums true, At.rd Aa5 c6 fl_Count.kd a1.Ns true, At.rd Aa8 c9 fl_Gap.kd a1.Spans true]) (fun _ h => h.to) ?_
           refine J.seq ?_
           refine J.sr ?_
           refine JL.mv (.int .i64 i110) ?_
           refine JL.pur (.pointer (some ⟨b11, 0, none⟩)) (some 41) ?_
           refine JL.val (.slice Aa2 a1.Sums.length c3) (some 42) (yields_load_box 0 0 (holds_box b11 25 [.slice Aa2 a1.Sums.length c3, .slice Aa5 a1.Ns.length c6, .slice Aa8 a1.Spans.length c9]) tyAgg_22) ?_
           refine JL.pur (.int .i64 (a1.Sums.length : Int)) (some 43) ?_
           refine JL.pur (.bool (decide (i110 < (a1.Sums.length : Int)))) (some 44) ?_
           refine JL.es [(1, .pointer (some ⟨b11, 0, none⟩)), (3, .int .i64 i110), (44, .bool (decide (i110 < (a1.Sums.length : Int))))] ?_
           rcases ite_cases H1 with ⟨h154, H1⟩ | ⟨h154, H1⟩
           · refine J.cond_true h154 ?_
             refine J.skip ?_
             refine JQ.ts [(1, .pointer (some ⟨b11, 0, none⟩)), (3, .int .i64 i110)] ?_
             refine J.seq ?_
             refine J.block ?_
             refine J.join (T := Bool) (G := Unit) (fun t => ref18_Check.k8 i110 t = some st1) (fun t g => [(1, .pointer (some ⟨b11, 0, none⟩)), (3, .int .i64 i110), (71, .bool t)]) (fun t g => [At.box b11 25 [.slice Aa2 a1.Sums.length c3, .slice Aa5 a1.Ns.length c6, .slice Aa8 a1.Spans.length c9], At.rd Aa2 c3 fl_Count.kd a1.Sums true, At.rd Aa5 c6 fl_Count.kd a1.Ns true, At.rd Aa8 c9 fl_Gap.kd a1.Spans true]) ?_ ?_
             · refine J.region ?_
               refine JL.pur (.pointer (some ⟨b11, 0, none⟩)) (some 47) ?_
               refine JL.val (.slice Aa2 a1.Sums.length c3) (some 48) (yields_load_box 0 0 (holds_box b11 25 [.slice Aa2 a1.Sums.length c3, .slice Aa5 a1.Ns.length c6, .slice Aa8 a1.Spans.length c9]) tyAgg_22) ?_
               refine JL.mv (.int .i64 i110) ?_
               obtain ⟨⟨h177, h178⟩, H1⟩ := ite_must H1
               refine JL.ixAddr 1 2 c3 .i64 (elems_rd Aa2 c3 fl_Count.kd a1.Sums true) Try.underlying22 tySize_49 h177 h178 fun g179 o180 hA => ?_
               subst hA
               refine JL.val (mv_49 (ix a1.Sums i110)) (some 51) (gives_loadEl (f := fl_Count) 1 0 i110 (elems_rd (some ⟨g179, o180, none⟩) c3 fl_Count.kd a1.Sums true) h177 h178 tySize_49 (.inl ⟨tyAgg_49, rfl⟩)) ?_
               obtain ⟨t181, hc182, H1⟩ := bind_some H1
               refine JL.call [] [] [] (ref18_Valid.ok (ix a1.Sums i110) _ hc182) trivial ?_
               rintro _ _ ⟨rfl, rfl⟩
               refine JL.pur (.bool (!t181)) (some 53) ?_
               refine JL.mv (.bool (!t181)) ?_
               rcases ite_cases H1 with ⟨h183, H1⟩ | ⟨h183, H1⟩
               · refine JL.off 7 54 false (some 55) h183 ?_
                 refine JL.off 7 54 false (some 56) h183 ?_
                 refine JL.off 7 54 false (some 57) h183 ?_
                 refine JL.off 7 54 false (some 58) h183 ?_
                 refine JL.off 7 54 false (some 59) h183 ?_
                 refine JL.off 7 54 false (some 60) h183 ?_
                 refine JL.off 7 54 false (some 61) h183 ?_
                 refine JL.val (.bool true) (some 62) (gives_pickT h183) ?_
                 refine JL.mv (.bool true) ?_
                 refine JL.off 16 63 false (some 64) rfl ?_
                 refine JL.off 16 63 false (some 65) rfl ?_
                 refine JL.off 16 63 false (some 66) rfl ?_
                 refine JL.off 16 63 false (some 67) rfl ?_
                 refine JL.off 16 63 false (some 68) rfl ?_
                 refine JL.off 16 63 false (some 69) rfl ?_
                 refine JL.off 16 63 false (some 70) rfl ?_
                 refine JL.val (.bool true) (some 71) (gives_pickT rfl) ?_
                 refine JL.en ?_
                 exact JQ.meet true () H1 (fun _ h => Heap.to h)
               · refine JL.on 7 54 h183 ?_
                 refine JL.pur (.pointer (some ⟨b11, 1, none⟩)) (some 55) ?_
                 refine JL.on 7 54 h183 ?_
                 refine JL.val (.slice Aa5 a1.Ns.length c6) (some 56) (yields_load_box 0 1 (holds_box b11 25 [.slice (some ⟨g179, o180, none⟩) a1.Sums.length c3, .slice Aa5 a1.Ns.length c6, .slice Aa8 a1.Spans.length c9]) tyAgg_22) ?_
                 refine JL.on 7 54 h183 ?_
                 refine JL.mv (.int .i64 i110) ?_
                 refine JL.on 7 54 h183 ?_
                 obtain ⟨⟨h184, h185⟩, H1⟩ := ite_must H1
                 refine JL.ixAddr 2 2 c6 .i64 (elems_rd Aa5 c6 fl_Count.kd a1.Ns true) Try.underlying22 tySize_49 h184 h185 fun g186 o187 hA => ?_
                 subst hA
                 refine JL.on 7 54 h183 ?_
                 refine JL.val (mv_49 (ix a1.Ns i110)) (some 59) (gives_loadEl (f := fl_Count) 2 0 i110 (elems_rd (some ⟨g186, o187, none⟩) c6 fl_Count.kd a1.Ns true) h184 h185 tySize_49 (.inl ⟨tyAgg_49, rfl⟩)) ?_
                 refine JL.on 7 54 h183 ?_
                 obtain ⟨t188, hc189, H1⟩ := bind_some H1
                 refine JL.call [] [] [] (ref18_Valid.ok (ix a1.Ns i110) _ hc189) trivial ?_
                 rintro _ _ ⟨rfl, rfl⟩
                 refine JL.on 7 54 h183 ?_
                 refine JL.pur (.bool (!t188)) (some 61) ?_
                 refine JL.val (.bool (!t188)) (some 62) (gives_pickF h183) ?_
                 refine JL.mv (.bool (!t188)) ?_
                 rcases ite_cases H1 with ⟨h190, H1⟩ | ⟨h190, H1⟩
                 · refine JL.off 16 63 false (some 64) h190 ?_
                   refine JL.off 16 63 false (some 65) h190 ?_
                   refine JL.off 16 63 false (some 66) h190 ?_
                   refine JL.off 16 63 false (some 67) h190 ?_
                   refine JL.off 16 63 false (some 68) h190 ?_
                   refine JL.off 16 63 false (some 69) h190 ?_
                   refine JL.off 16 63 false (some 70) h190 ?_
                   refine JL.val (.bool true) (some 71) (gives_pickT h190) ?_
                   refine JL.en ?_
                   exact JQ.meet true () H1 (fun _ h => Heap.to h)
                 · refine JL.on 16 63 h190 ?_
                   refine JL.pur (.pointer (some ⟨b11, 1, none⟩)) (some 64) ?_
                   refine JL.on 16 63 h190 ?_
                   refine JL.val (.slice (some ⟨g186, o187, none⟩) a1.Ns.length c6) (some 65) (yields_load_box 0 1 (holds_box b11 25 [.slice (some ⟨g179, o180, none⟩) a1.Sums.length c3, .slice (some ⟨g186, o187, none⟩) a1.Ns.length c6, .slice Aa8 a1.Spans.length c9]) tyAgg_22) ?_
                   refine JL.on 16 63 h190 ?_
                   refine JL.mv (.int .i64 i110) ?_
                   refine JL.on 16 63 h190 ?_
                   refine JL.ixAddr' 2 2 c6 .i64 (elems_rd (some ⟨g186, o187, none⟩) c6 fl_Count.kd a1.Ns true) Try.underlying22 tySize_49 h184 h185 ?_
                   refine JL.on 16 63 h190 ?_
                   refine JL.val (mv_49 (ix a1.Ns i110)) (some 68) (gives_loadEl (f := fl_Count) 2 0 i110 (elems_rd (some ⟨g186, o187, none⟩) c6 fl_Count.kd a1.Ns true) h184 h185 tySize_49 (.inl ⟨tyAgg_49, rfl⟩)) ?_
                   refine JL.on 16 63 h190 ?_
                   obtain ⟨t195, hc196, H1⟩ := bind_some H1
                   refine JL.call [] [] [] (ref18_Worth.ok (ix a1.Ns i110) _ hc196) trivial ?_
                   rintro _ _ ⟨rfl, rfl⟩
                   refine JL.on 16 63 h190 ?_
                   refine JL.pur (.bool (decide (t195 < 0))) (some 70) ?_
                   refine JL.val (.bool (decide (t195 < 0))) (some 71) (gives_pickF h190) ?_
                   refine JL.en ?_
                   exact JQ.meet (decide (t195 < 0)) () H1 (fun _ h => Heap.to h)
             · clear H1
               rintro x175 ⟨⟩ H1
               replace H1 : ref18_Check.k8 i110 x175 = some st1 := H1
               unfold ref18_Check.k8 at H1
               refine JQ.sub [(1, .pointer (some ⟨b11, 0, none⟩)), (3, .int .i64 i110), (71, .bool x175)] ?_
               refine JQ.turn (Δ' := [At.box b11 25 [.slice Aa2 a1.Sums.length c3, .slice Aa5 a1.Ns.length c6, .slice Aa8 a1.Spans.length c9], At.rd Aa2 c3 fl_Count.kd a1.Sums true, At.rd Aa5 c6 fl_Count.kd a1.Ns true, At.rd Aa8 c9 fl_Gap.kd a1.Spans true]) (fun _ h => h.to) ?_
               rcases ite_cases H1 with ⟨h176, H1⟩ | ⟨h176, H1⟩
               · refine J.cond_true h176 ?_
                 refine J.sr ?_
                 refine JL.as (.int .i64 8) ?_
                 refine JL.es [(2, .int .i64 8)] ?_
                 refine JQ.mask [] [false, false, false, false] ?_
                 refine J.ret ?_
                 refine JQ.blk_ret ?_
                 refine JQ.then_ret ?_
                 refine JQ.then_ret ?_
                 refine JQ.blk_ret ?_
                 refine JQ.met_ret ?_
                 refine JQ.then_ret ?_
                 rw [hr1 _ (Option.some.inj H1).symm, fin_ret] at H0
                 obtain rfl := Option.some.inj H0
                 exact JQ.done' (rs := [.tmp 2]) (vs := [.int .i64 8]) [] (.inr rfl) ⟨by kernel_rfl, trivial⟩ (fun _ h => Heap.to h) ⟨rfl, rfl⟩
               · refine J.cond_false h176 ?_
                 refine J.skip ?_
                 refine JQ.blk_normal ?_
                 refine JQ.ts [(1, .pointer (some ⟨b11, 0, none⟩)), (3, .int .i64 i110)] ?_
                 refine J.region ?_
                 refine JL.mv (.int .i64 i110) ?_
                 refine JL.pur (.int .i64 (w64 (i110 + 1))) (some 46) ?_
                 refine JL.as (.int .i64 (w64 (i110 + 1))) ?_
                 refine JL.en ?_
                 exact JQ.again (w64 (i110 + 1)) () (Option.some.inj H1).symm (fun _ h => Heap.to h)
           · refine J.cond_false h154 ?_
             refine J.exit ?_
             refine JQ.then_exit ?_
             refine JQ.then_exit ?_
             refine JQ.blk_exit ?_
             rw [hb1 _ (Option.some.inj H1).symm, fin_brk] at H0
             exact JQ.met () () H0 (fun _ h => Heap.to (Heap.pick [] (by decide) h))
         · clear hit H0
           rintro ⟨⟩ ⟨⟩ H0
           replace H0 : ref18_Check.k7 = some r := H0
           unfold ref18_Check.k7 at H0
           refine JQ.sub [] ?_
           refine JQ.turn (Δ' := []) (fun _ h => h.to) ?_
           refine JQ.then_normal ?_
           refine J.sr ?_
           refine JL.as (.int .i64 0) ?_
           refine JL.en ?_
           refine J.ret ?_
           obtain rfl := Option.some.inj H0
           exact JQ.done' (rs := [.tmp 2]) (vs := [.int .i64 0]) [] (.inr rfl) ⟨by kernel_rfl, trivial⟩ (fun _ h => Heap.to h) ⟨rfl, rfl⟩

theorem law18_fit.ok (a1 : Acc) (Aa2 : Option Addr) (c3 : Nat) (Aa5 : Option Addr) (c6 : Nat) (Aa8 : Option Addr) (c9 : Nat) (r : Bool) (H0 : law18_fit.f a1 = some r) :
    Does Try.prog 22 [.agg #[.slice Aa2 a1.Sums.length c3, .slice Aa5 a1.Ns.length c6, .slice Aa8 a1.Spans.length c9]].toArray [At.rd Aa2 c3 fl_Count.kd a1.Sums true, At.rd Aa5 c6 fl_Count.kd a1.Ns true, At.rd Aa8 c9 fl_Gap.kd a1.Spans true] [] false (fun v Δ => v = .bool r ∧ Δ = []) := by
 refine Does.body (vs := [.agg #[.slice Aa2 a1.Sums.length c3, .slice Aa5 a1.Ns.length c6, .slice Aa8 a1.Spans.length c9]]) Try.func22 rfl ⟨.inl rfl, .inl rfl, .inl rfl, trivial⟩ trivial fun w S => ?_
 unfold law18_fit.f at H0
 refine J.sr ?_
 refine JL.box [.slice Aa2 a1.Sums.length c3, .slice Aa5 a1.Ns.length c6, .slice Aa8 a1.Spans.length c9] fun b11 => ?_
 refine JL.as (.bool false) ?_
 refine JL.es [(1, .pointer (some ⟨b11, 0, none⟩))] ?_
 refine J.sr ?_
 refine JL.val (.agg #[.slice Aa2 a1.Sums.length c3, .slice Aa5 a1.Ns.length c6, .slice Aa8 a1.Spans.length c9]) (some 3) (yields_load_boxes 3 0 [.slice Aa2 a1.Sums.length c3, .slice Aa5 a1.Ns.length c6, .slice Aa8 a1.Spans.length c9] (holds_box b11 25 [.slice Aa2 a1.Sums.length c3, .slice Aa5 a1.Ns.length c6, .slice Aa8 a1.Spans.length c9]) tyAgg_25 tySize_25) ?_
 obtain ⟨t12, hc13, H0⟩ := bind_some H0
 refine JL.call [] [] [] (ref18_Great.ok a1 Aa2 c3 Aa5 c6 Aa8 c9 _ hc13) ⟨pre_any 0 (view_rd Aa2 c3 fl_Count.kd a1.Sums true true), ⟨pre_any 1 (view_rd Aa5 c6 fl_Count.kd a1.Ns true true), ⟨pre_any 2 (view_rd Aa8 c9 fl_Gap.kd a1.Spans true true), trivial⟩⟩⟩ ?_
 rintro _ _ ⟨rfl, rfl⟩
 refine JL.pur (.bool (!t12)) (some 5) ?_
 refine JL.mv (.bool (!t12)) ?_
 rcases ite_cases H0 with ⟨h14, H0⟩ | ⟨h14, H0⟩
 · refine JL.on 3 6 h14 ?_
   refine JL.val (.agg #[.slice Aa2 a1.Sums.length c3, .slice Aa5 a1.Ns.length c6, .slice Aa8 a1.Spans.length c9]) (some 7) (yields_load_boxes 3 0 [.slice Aa2 a1.Sums.length c3, .slice Aa5 a1.Ns.length c6, .slice Aa8 a1.Spans.length c9] (holds_box b11 25 [.slice Aa2 a1.Sums.length c3, .slice Aa5 a1.Ns.length c6, .slice Aa8 a1.Spans.length c9]) tyAgg_25 tySize_25) ?_
   refine JL.on 3 6 h14 ?_
   obtain ⟨t15, hc16, H0⟩ := bind_some H0
   refine JL.call [] [] [] (ref18_Check.ok a1 Aa2 c3 Aa5 c6 Aa8 c9 _ hc16) ⟨pre_any 0 (view_rd Aa2 c3 fl_Count.kd a1.Sums true true), ⟨pre_any 1 (view_rd Aa5 c6 fl_Count.kd a1.Ns true true), ⟨pre_any 2 (view_rd Aa8 c9 fl_Gap.kd a1.Spans true true), trivial⟩⟩⟩ ?_
   rintro _ _ ⟨rfl, rfl⟩
   refine JL.on 3 6 h14 ?_
   refine JL.pur (.bool (decide (t15 = 0))) (some 9) ?_
   refine JL.val (.bool (decide (t15 = 0))) (some 10) (gives_pickT h14) ?_
   refine JL.as (.bool (decide (t15 = 0))) ?_
   refine JL.es [(2, .bool (decide (t15 = 0)))] ?_
   refine JQ.mask [] [false, false, false, false] ?_
   refine J.ret ?_
   obtain rfl := Option.some.inj H0
   exact JQ.done' (rs := [.tmp 2]) (vs := [.bool (decide (t15 = 0))]) [] (.inr rfl) ⟨by kernel_rfl, trivial⟩ (fun _ h => Heap.to h) ⟨rfl, rfl⟩
 · refine JL.off 3 6 true (some 7) h14 ?_
   refine JL.off 3 6 true (some 8) h14 ?_
   refine JL.off 3 6 true (some 9) h14 ?_
   refine JL.val (.bool false) (some 10) (gives_pickF h14) ?_
   refine JL.as (.bool false) ?_
   refine JL.es [(2, .bool false)] ?_
   refine JQ.mask [] [false, false, false, false] ?_
   refine J.ret ?_
   obtain rfl := Option.some.inj H0
   exact JQ.done' (rs := [.tmp 2]) (vs := [.bool false]) [] (.inr rfl) ⟨by kernel_rfl, trivial⟩ (fun _ h => Heap.to h) ⟨rfl, rfl⟩

theorem accum_Merge.ok (a1 : Acc) (Aa2 : Option Addr) (c3 : Nat) (Aa5 : Option Addr) (c6 : Nat) (Aa8 : Option Addr) (c9 : Nat) (b11 : Acc) (Aa12 : Option Addr) (c13 : Nat) (Aa15 : Option Addr) (c16 : Nat) (Aa18 : Option Addr) (c19 : Nat) (r : (Acc × Int)) (H0 : accum_Merge.f a1 b11 = some r) :
    Does Try.prog 9 [.agg #[.slice Aa2 a1.Sums.length c3, .slice Aa5 a1.Ns.length c6, .slice Aa8 a1.Spans.length c9], .agg #[.slice Aa12 b11.Sums.length c13, .slice Aa15 b11.Ns.length c16, .slice Aa18 b11.Spans.length c19]].toArray [At.rd Aa2 c3 fl_Count.kd a1.Sums true, At.rd Aa5 c6 fl_Count.kd a1.Ns true, At.rd Aa8 c9 fl_Gap.kd a1.Spans true, At.rd Aa12 c13 fl_Count.kd b11.Sums true, At.rd Aa15 c16 fl_Count.kd b11.Ns true, At.rd Aa18 c19 fl_Gap.kd b11.Spans true] [] false (fun v Δ => ∃ A1001 : Option Addr, ∃ c1001 : Nat, ∃ A1002 : Option Addr, ∃ c1002 : Nat, ∃ A1003 : Option Addr, ∃ c1003 : Nat, v = .tuple #[.agg #[.slice A1001 r.1.Sums.length c1001, .slice A1002 r.1.Ns.length c1002, .slice A1003 r.1.Spans.length c1003], .int .i64 r.2] ∧ Δ = [At.row A1001 c1001 49 fl_Count.kd r.1.Sums false, At.row A1002 c1002 49 fl_Count.kd r.1.Ns false, At.row A1003 c1003 51 fl_Gap.kd r.1.Spans false]) := by
 refine Does.body (vs := [.agg #[.slice Aa2 a1.Sums.length c3, .slice Aa5 a1.Ns.length c6, .slice Aa8 a1.Spans.length c9], .agg #[.slice Aa12 b11.Sums.length c13, .slice Aa15 b11.Ns.length c16, .slice Aa18 b11.Spans.length c19]]) Try.func9 rfl ⟨.inl rfl, .inl rfl, .inl rfl, .inl rfl, .inl rfl, .inl rfl, trivial⟩ trivial fun w S => ?_
 unfold accum_Merge.f at H0
 refine J.sr ?_
 refine JL.box [.slice Aa2 a1.Sums.length c3, .slice Aa5 a1.Ns.length c6, .slice Aa8 a1.Spans.length c9] fun b21 => ?_
 refine JL.box [.slice Aa12 b11.Sums.length c13, .slice Aa15 b11.Ns.length c16, .slice Aa18 b11.Spans.length c19] fun b22 => ?_
 refine JL.alloc [.slice none 0 0, .slice none 0 0, .slice none 0 0] fun b23 => ?_
 refine JL.as (.int .i64 0) ?_
 refine JL.es [(2, .pointer (some ⟨b21, 0, none⟩)), (3, .pointer (some ⟨b22, 0, none⟩)), (4, .pointer (some ⟨b23, 0, none⟩))] ?_
 refine J.seq ?_
 refine J.sr ?_
 refine JL.val (.agg #[.slice Aa2 a1.Sums.length c3, .slice Aa5 a1.Ns.length c6, .slice Aa8 a1.Spans.length c9]) (some 8) (yields_load_boxes 6 0 [.slice Aa2 a1.Sums.length c3, .slice Aa5 a1.Ns.length c6, .slice Aa8 a1.Spans.length c9] (holds_box b21 25 [.slice Aa2 a1.Sums.length c3, .slice Aa5 a1.Ns.length c6, .slice Aa8 a1.Spans.length c9]) tyAgg_25 tySize_25) ?_
 obtain ⟨t24, hc25, H0⟩ := bind_some H0
 refine JL.call [] [] [] (accum_Check.ok a1 Aa2 c3 Aa5 c6 Aa8 c9 _ hc25) ⟨pre_any 0 (view_rd Aa2 c3 fl_Count.kd a1.Sums true true), ⟨pre_any 1 (view_rd Aa5 c6 fl_Count.kd a1.Ns true true), ⟨pre_any 2 (view_rd Aa8 c9 fl_Gap.kd a1.Spans true true), trivial⟩⟩⟩ ?_
 rintro _ _ ⟨rfl, rfl⟩
 refine JL.as (.int .i64 t24) ?_
 refine JL.es [(2, .pointer (some ⟨b21, 0, none⟩)), (3, .pointer (some ⟨b22, 0, none⟩)), (4, .pointer (some ⟨b23, 0, none⟩)), (6, .int .i64 t24)] ?_
 refine J.sr ?_
 refine JL.mv (.int .i64 t24) ?_
 refine JL.pur (.bool (!decide (t24 = 0))) (some 11) ?_
 refine JL.es [(2, .pointer (some ⟨b21, 0, none⟩)), (3, .pointer (some ⟨b22, 0, none⟩)), (4, .pointer (some ⟨b23, 0, none⟩)), (6, .int .i64 t24), (11, .bool (!decide (t24 = 0)))] ?_
 rcases ite_cases H0 with ⟨h26, H0⟩ | ⟨h26, H0⟩
 · refine J.cond_true h26 ?_
   refine J.sr ?_
   refine JL.pur (.agg #[.slice none 0 0, .slice none 0 0, .slice none 0 0]) (some 12) ?_
   refine JL.mv (.int .i64 t24) ?_
   refine JL.store 8 b23 0 25 [.slice none 0 0, .slice none 0 0, .slice none 0 0] [.slice none 0 0, .slice none 0 0, .slice none 0 0] tySize_25 ?_
   refine JL.as (.int .i64 t24) ?_
   refine JL.es [(4, .pointer (some ⟨b23, 0, none⟩)), (5, .int .i64 t24)] ?_
   refine JQ.mask [At.box b23 25 [.slice none 0 0, .slice none 0 0, .slice none 0 0]] [false, false, false, false, false, false, false, false, true] ?_
   refine J.ret ?_
   refine JQ.then_ret ?_
   obtain rfl := Option.some.inj H0
   exact JQ.done' (rs := [.cell 4 25, .tmp 5]) (vs := [.agg #[.slice none 0 0, .slice none 0 0, .slice none 0 0], .int .i64 t24]) [At.row none 0 49 fl_Count.kd ([] : List Count) false, At.row none 0 49 fl_Count.kd ([] : List Count) false, At.row none 0 51 fl_Gap.kd ([] : List Gap) false] (.inr rfl) ⟨⟨b23, 0, _, _, by kernel_rfl, by kernel_rfl, holds_box b23 25 [.slice none 0 0, .slice none 0 0, .slice none 0 0], .inl ⟨tyAgg_25, tySize_25, rfl⟩⟩, by kernel_rfl, trivial⟩ (fun _ h => Heap.to (Heap.pick [1, 2, 3] (by decide) (Heap.addRow0 (α := Gap) 51 fl_Gap.kd false (Heap.addRow0 (α := Count) 49 fl_Count.kd false (Heap.addRow0 (α := Count) 49 fl_Count.kd false h))))) ⟨none, 0, none, 0, none, 0, rfl, rfl⟩
 · refine J.cond_false h26 ?_
   refine J.skip ?_
   refine JQ.ts [(2, .pointer (some ⟨b21, 0, none⟩)), (3, .pointer (some ⟨b22, 0, none⟩)), (4, .pointer (some ⟨b23, 0, none⟩))] ?_
   refine J.seq ?_
   refine J.sr ?_
   refine JL.val (.agg #[.slice Aa12 b11.Sums.length c13, .slice Aa15 b11.Ns.length c16, .slice Aa18 b11.Spans.length c19]) (some 14) (yields_load_boxes 7 0 [.slice Aa12 b11.Sums.length c13, .slice Aa15 b11.Ns.length c16, .slice Aa18 b11.Spans.length c19] (holds_box b22 25 [.slice Aa12 b11.Sums.length c13, .slice Aa15 b11.Ns.length c16, .slice Aa18 b11.Spans.length c19]) tyAgg_25 tySize_25) ?_
   obtain ⟨t27, hc28, H0⟩ := bind_some H0
   refine JL.call [] [] [] (accum_Check.ok b11 Aa12 c13 Aa15 c16 Aa18 c19 _ hc28) ⟨pre_any 3 (view_rd Aa12 c13 fl_Count.kd b11.Sums true true), ⟨pre_any 4 (view_rd Aa15 c16 fl_Count.kd b11.Ns true true), ⟨pre_any 5 (view_rd Aa18 c19 fl_Gap.kd b11.Spans true true), trivial⟩⟩⟩ ?_
   rintro _ _ ⟨rfl, rfl⟩
   refine JL.as (.int .i64 t27) ?_
   refine JL.es [(2, .pointer (some ⟨b21, 0, none⟩)), (3, .pointer (some ⟨b22, 0, none⟩)), (4, .pointer (some ⟨b23, 0, none⟩)), (7, .int .i64 t27)] ?_
   refine J.sr ?_
   refine JL.mv (.int .i64 t27) ?_
   refine JL.pur (.bool (!decide (t27 = 0))) (some 17) ?_
   refine JL.es [(2, .pointer (some ⟨b21, 0, none⟩)), (3, .pointer (some ⟨b22, 0, none⟩)), (4, .pointer (some ⟨b23, 0, none⟩)), (7, .int .i64 t27), (17, .bool (!decide (t27 = 0)))] ?_
   rcases ite_cases H0 with ⟨h29, H0⟩ | ⟨h29, H0⟩
   · refine J.cond_true h29 ?_
     refine J.sr ?_
     refine JL.pur (.agg #[.slice none 0 0, .slice none 0 0, .slice none 0 0]) (some 18) ?_
     refine JL.mv (.int .i64 t27) ?_
     refine JL.store 8 b23 0 25 [.slice none 0 0, .slice none 0 0, .slice none 0 0] [.slice none 0 0, .slice none 0 0, .slice none 0 0] tySize_25 ?_
     refine JL.as (.int .i64 t27) ?_
     refine JL.es [(4, .pointer (some ⟨b23, 0, none⟩)), (5, .int .i64 t27)] ?_
     refine JQ.mask [At.box b23 25 [.slice none 0 0, .slice none 0 0, .slice none 0 0]] [false, false, false, false, false, false, false, false, true] ?_
     refine J.ret ?_
     refine JQ.then_ret ?_
     obtain rfl := Option.some.inj H0
     exact JQ.done' (rs := [.cell 4 25, .tmp 5]) (vs := [.agg #[.slice none 0 0, .slice none 0 0, .slice none 0 0], .int .i64 t27]) [At.row none 0 49 fl_Count.kd ([] : List Count) false, At.row none 0 49 fl_Count.kd ([] : List Count) false, At.row none 0 51 fl_Gap.kd ([] : List Gap) false] (.inr rfl) ⟨⟨b23, 0, _, _, by kernel_rfl, by kernel_rfl, holds_box b23 25 [.slice none 0 0, .slice none 0 0, .slice none 0 0], .inl ⟨tyAgg_25, tySize_25, rfl⟩⟩, by kernel_rfl, trivial⟩ (fun _ h => Heap.to (Heap.pick [1, 2, 3] (by decide) (Heap.addRow0 (α := Gap) 51 fl_Gap.kd false (Heap.addRow0 (α := Count) 49 fl_Count.kd false (Heap.addRow0 (α := Count) 49 fl_Count.kd false h))))) ⟨none, 0, none, 0, none, 0, rfl, rfl⟩
   · refine J.cond_false h29 ?_
     refine J.skip ?_
     refine JQ.ts [(2, .pointer (some ⟨b21, 0, none⟩)), (3, .pointer (some ⟨b22, 0, none⟩)), (4, .pointer (some ⟨b23, 0, none⟩))] ?_
     refine J.seq ?_
     refine J.sr ?_
     refine JL.pur (.pointer (some ⟨b21, 0, none⟩)) (some 20) ?_
     refine JL.val (.slice Aa2 a1.Sums.length c3) (some 21) (yields_load_box 6 0 (holds_box b21 25 [.slice Aa2 a1.Sums.length c3, .slice Aa5 a1.Ns.length c6, .slice Aa8 a1.Spans.length c9]) tyAgg_22) ?_
     refine JL.pur (.int .i64 (a1.Sums.length : Int)) (some 22) ?_
     refine JL.pur (.pointer (some ⟨b22, 0, none⟩)) (some 23) ?_
     refine JL.val (.slice Aa12 b11.Sums.length c13) (some 24) (yields_load_box 7 0 (holds_box b22 25 [.slice Aa12 b11.Sums.length c13, .slice Aa15 b11.Ns.length c16, .slice Aa18 b11.Spans.length c19]) tyAgg_22) ?_
     refine JL.pur (.int .i64 (b11.Sums.length : Int)) (some 25) ?_
     refine JL.pur (.bool (!decide ((a1.Sums.length : Int) = (b11.Sums.length : Int)))) (some 26) ?_
     refine JL.es [(2, .pointer (some ⟨b21, 0, none⟩)), (3, .pointer (some ⟨b22, 0, none⟩)), (4, .pointer (some ⟨b23, 0, none⟩)), (26, .bool (!decide ((a1.Sums.length : Int) = (b11.Sums.length : Int))))] ?_
     rcases ite_cases H0 with ⟨h30, H0⟩ | ⟨h30, H0⟩
     · refine J.cond_true h30 ?_
       refine J.sr ?_
       refine JL.pur (.agg #[.slice none 0 0, .slice none 0 0, .slice none 0 0]) (some 27) ?_
       refine JL.store 8 b23 0 25 [.slice none 0 0, .slice none 0 0, .slice none 0 0] [.slice none 0 0, .slice none 0 0, .slice none 0 0] tySize_25 ?_
       refine JL.as (.int .i64 2) ?_
       refine JL.es [(4, .pointer (some ⟨b23, 0, none⟩)), (5, .int .i64 2)] ?_
       refine JQ.mask [At.box b23 25 [.slice none 0 0, .slice none 0 0, .slice none 0 0]] [false, false, false, false, false, false, false, false, true] ?_
       refine J.ret ?_
       refine JQ.then_ret ?_
       obtain rfl := Option.some.inj H0
       exact JQ.done' (rs := [.cell 4 25, .tmp 5]) (vs := [.agg #[.slice none 0 0, .slice none 0 0, .slice none 0 0], .int .i64 2]) [At.row none 0 49 fl_Count.kd ([] : List Count) false, At.row none 0 49 fl_Count.kd ([] : List Count) false, At.row none 0 51 fl_Gap.kd ([] : List Gap) false] (.inr rfl) ⟨⟨b23, 0, _, _, by kernel_rfl, by kernel_rfl, holds_box b23 25 [.slice none 0 0, .slice none 0 0, .slice none 0 0], .inl ⟨tyAgg_25, tySize_25, rfl⟩⟩, by kernel_rfl, trivial⟩ (fun _ h => Heap.to (Heap.pick [1, 2, 3] (by decide) (Heap.addRow0 (α := Gap) 51 fl_Gap.kd false (Heap.addRow0 (α := Count) 49 fl_Count.kd false (Heap.addRow0 (α := Count) 49 fl_Count.kd false h))))) ⟨none, 0, none, 0, none, 0, rfl, rfl⟩
     · refine J.cond_false h30 ?_
       refine J.skip ?_
       refine JQ.ts [(2, .pointer (some ⟨b21, 0, none⟩)), (3, .pointer (some ⟨b22, 0, none⟩)), (4, .pointer (some ⟨b23, 0, none⟩))] ?_
       refine J.sr ?_
       refine JL.val (.agg #[.slice Aa2 a1.Sums.length c3, .slice Aa5 a1.Ns.length c6, .slice Aa8 a1.Spans.length c9]) (some 28) (yields_load_boxes 6 0 [.slice Aa2 a1.Sums.length c3, .slice Aa5 a1.Ns.length c6, .slice Aa8 a1.Spans.length c9] (holds_box b21 25 [.slice Aa2 a1.Sums.length c3, .slice Aa5 a1.Ns.length c6, .slice Aa8 a1.Spans.length c9]) tyAgg_25 tySize_25) ?_
       refine JL.val (.agg #[.slice Aa12 b11.Sums.length c13, .slice Aa15 b11.Ns.length c16, .slice Aa18 b11.Spans.length c19]) (some 29) (yields_load_boxes 7 0 [.slice Aa12 b11.Sums.length c13, .slice Aa15 b11.Ns.length c16, .slice Aa18 b11.Spans.length c19] (holds_box b22 25 [.slice Aa12 b11.Sums.length c13, .slice Aa15 b11.Ns.length c16, .slice Aa18 b11.Spans.length c19]) tyAgg_25 tySize_25) ?_
       obtain ⟨t31, hc32, H0⟩ := bind_some H0
       refine JL.call [] [] [] (accum_merge.ok a1 Aa2 c3 Aa5 c6 Aa8 c9 b11 Aa12 c13 Aa15 c16 Aa18 c19 _ hc32) ⟨pre_any 0 (view_rd Aa2 c3 fl_Count.kd a1.Sums true true), ⟨pre_any 1 (view_rd Aa5 c6 fl_Count.kd a1.Ns true true), ⟨pre_any 2 (view_rd Aa8 c9 fl_Gap.kd a1.Spans true true), ⟨pre_any 3 (view_rd Aa12 c13 fl_Count.kd b11.Sums true true), ⟨pre_any 4 (view_rd Aa15 c16 fl_Count.kd b11.Ns true true), ⟨pre_any 5 (view_rd Aa18 c19 fl_Gap.kd b11.Spans true true), trivial⟩⟩⟩⟩⟩⟩ ?_
       rintro _ _ ⟨Aa33, c34, Aa36, c37, Aa39, c40, rfl, rfl⟩
       refine JL.pur (.agg #[.slice Aa33 t31.1.Sums.length c34, .slice Aa36 t31.1.Ns.length c37, .slice Aa39 t31.1.Spans.length c40]) (some 31) ?_
       refine JL.pur (.int .i64 t31.2) (some 32) ?_
       refine JL.store 8 b23 0 25 [.slice none 0 0, .slice none 0 0, .slice none 0 0] [.slice Aa33 t31.1.Sums.length c34, .slice Aa36 t31.1.Ns.length c37, .slice Aa39 t31.1.Spans.length c40] tySize_25 ?_
       refine JL.as (.int .i64 t31.2) ?_
       refine JL.es [(4, .pointer (some ⟨b23, 0, none⟩)), (5, .int .i64 t31.2)] ?_
       refine JQ.mask [At.box b23 25 [.slice Aa33 t31.1.Sums.length c34, .slice Aa36 t31.1.Ns.length c37, .slice Aa39 t31.1.Spans.length c40], At.row Aa33 c34 49 fl_Count.kd t31.1.Sums false, At.row Aa36 c37 49 fl_Count.kd t31.1.Ns false, At.row Aa39 c40 51 fl_Gap.kd t31.1.Spans false] [false, false, false, false, false, false, false, false, true, true, true, true] ?_
       refine J.ret ?_
       obtain rfl := Option.some.inj H0
       exact JQ.done' (rs := [.cell 4 25, .tmp 5]) (vs := [.agg #[.slice Aa33 t31.1.Sums.length c34, .slice Aa36 t31.1.Ns.length c37, .slice Aa39 t31.1.Spans.length c40], .int .i64 t31.2]) [At.row Aa33 c34 49 fl_Count.kd t31.1.Sums false, At.row Aa36 c37 49 fl_Count.kd t31.1.Ns false, At.row Aa39 c40 51 fl_Gap.kd t31.1.Spans false] (.inr rfl) ⟨⟨b23, 0, _, _, by kernel_rfl, by kernel_rfl, holds_box b23 25 [.slice Aa33 t31.1.Sums.length c34, .slice Aa36 t31.1.Ns.length c37, .slice Aa39 t31.1.Spans.length c40], .inl ⟨tyAgg_25, tySize_25, rfl⟩⟩, by kernel_rfl, trivial⟩ (fun _ h => Heap.to (Heap.pick [1, 2, 3] (by decide) h)) ⟨Aa33, c34, Aa36, c37, Aa39, c40, rfl, rfl⟩

theorem ref01_abs.ok (n1 : Int) (r : Int) (H0 : ref01_abs.f n1 = some r) :
    Does Try.prog 44 [.int .i64 n1].toArray [] [] false (fun v Δ => v = .int .u64 r ∧ Δ = []) := by
 refine Does.body (vs := [.int .i64 n1]) Try.func44 rfl trivial trivial fun w S => ?_
 unfold ref01_abs.f at H0
 refine J.sr ?_
 refine JL.as (.int .u64 0) ?_
 refine JL.es [(0, .int .i64 n1)] ?_
 refine J.seq ?_
 refine J.sr ?_
 refine JL.mv (.int .i64 n1) ?_
 refine JL.pur (.bool (decide (0 ≤ n1))) (some 4) ?_
 refine JL.es [(0, .int .i64 n1), (4, .bool (decide (0 ≤ n1)))] ?_
 rcases ite_cases H0 with ⟨h2, H0⟩ | ⟨h2, H0⟩
 · refine J.cond_true h2 ?_
   refine J.sr ?_
   refine JL.mv (.int .i64 n1) ?_
   refine JL.pur (.int .u64 (wu64 n1)) (some 6) ?_
   refine JL.as (.int .u64 (wu64 n1)) ?_
   refine JL.es [(2, .int .u64 (wu64 n1))] ?_
   refine J.ret ?_
   refine JQ.then_ret ?_
   obtain rfl := Option.some.inj H0
   exact JQ.done' (rs := [.tmp 2]) (vs := [.int .u64 (wu64 n1)]) [] (.inr rfl) ⟨by kernel_rfl, trivial⟩ (fun _ h => Heap.to h) ⟨rfl, rfl⟩
 · refine J.cond_false h2 ?_
   refine J.skip ?_
   refine JQ.ts [(0, .int .i64 n1)] ?_
   refine J.sr ?_
   refine JL.mv (.int .i64 n1) ?_
   refine JL.pur (.int .i64 (w64 (n1 + 1))) (some 8) ?_
   refine JL.pur (.int .i64 (w64 (0 - w64 (n1 + 1)))) (some 9) ?_
   refine JL.pur (.int .u64 (wu64 (w64 (0 - w64 (n1 + 1))))) (some 10) ?_
   refine JL.pur (.int .u64 (wu64 ((wu64 (w64 (0 - w64 (n1 + 1)))) + 1))) (some 11) ?_
   refine JL.as (.int .u64 (wu64 ((wu64 (w64 (0 - w64 (n1 + 1)))) + 1))) ?_
   refine JL.es [(2, .int .u64 (wu64 ((wu64 (w64 (0 - w64 (n1 + 1)))) + 1)))] ?_
   refine J.ret ?_
   obtain rfl := Option.some.inj H0
   exact JQ.done' (rs := [.tmp 2]) (vs := [.int .u64 (wu64 ((wu64 (w64 (0 - w64 (n1 + 1)))) + 1))]) [] (.inr rfl) ⟨by kernel_rfl, trivial⟩ (fun _ h => Heap.to h) ⟨rfl, rfl⟩

theorem ref01_gcd.ok (a1 : Int) (b2 : Int) (r : Int) (H0 : ref01_gcd.f a1 b2 = some r) :
    Does Try.prog 43 [.int .u64 a1, .int .u64 b2].toArray [] [] false (fun v Δ => v = .int .u64 r ∧ Δ = []) := by
 refine Does.body (vs := [.int .u64 a1, .int .u64 b2]) Try.func43 rfl trivial trivial fun w S => ?_
 unfold ref01_gcd.f at H0
 refine J.sr ?_
 refine JL.as (.int .u64 0) ?_
 refine JL.es [(0, .int .u64 a1), (1, .int .u64 b2)] ?_
 refine J.seq ?_
 obtain ⟨o1, hit, H0⟩ := bind_some H0
 refine J.loop (σ := (Int × Int)) (τ := Int) (G := Unit) (G' := Unit) _ o1 (fun s g => [(0, .int .u64 s.1), (1, .int .u64 s.2)]) (fun s g => []) (fun t => ref01_gcd.k2 t = some r) (fun t g => [(0, .int .u64 t)]) (fun t g => []) (a1, b2) () hit (fun _ h => Heap.to h) ?_ ?_
 · clear hit
   rintro ⟨a11, b12⟩ ⟨⟩ st1 H1 hb1 hr1
   replace H1 : ref01_gcd.s1 a11 b12 = some st1 := H1
   unfold ref01_gcd.s1 at H1
   refine JQ.sub [(0, .int .u64 a11), (1, .int .u64 b12)] ?_
   refine JQ.turn (Δ' := []) (fun _ h => h.to) ?_
   refine J.seq ?_
   refine J.sr ?_
   refine JL.mv (.int .u64 b12) ?_
   refine JL.pur (.bool (!decide (b12 = 0))) (some 6) ?_
   refine JL.es [(0, .int .u64 a11), (1, .int .u64 b12), (6, .bool (!decide (b12 = 0)))] ?_
   rcases ite_cases H1 with ⟨h17, H1⟩ | ⟨h17, H1⟩
   · refine J.cond_true h17 ?_
     refine J.skip ?_
     refine JQ.ts [(0, .int .u64 a11), (1, .int .u64 b12)] ?_
     refine J.block ?_
     refine J.draw ?_
     refine QL.mv (.int .u64 b12) ?_
     refine QL.mv (.int .u64 a11) ?_
     refine QL.mv (.int .u64 b12) ?_
     obtain ⟨h18, H1⟩ := ite_must H1
     refine QL.val (.int .u64 (Int.tmod a11 b12)) (some 10) (gives_rem .u64 a11 b12 h18) ?_
     refine QL.as (.int .u64 b12) ?_
     obtain ⟨b19, eb19, H1⟩ := lt_some H1
     refine QL.as' (k := .u64) b19 eb19 ?_
     refine QL.nil ?_
     refine JA.nil ?_
     refine JQ.blk_normal ?_
     refine JQ.then_normal ?_
     exact JQ.again (b12, b19) () (Option.some.inj H1).symm (fun _ h => Heap.to h)
   · refine J.cond_false h17 ?_
     refine J.exit ?_
     refine JQ.then_exit ?_
     refine JQ.then_exit ?_
     refine JQ.blk_exit ?_
     rw [hb1 _ (Option.some.inj H1).symm, fin_brk] at H0
     exact JQ.met a11 () H0 (fun _ h => Heap.to h)
 · clear hit H0
   rintro a16 ⟨⟩ H0
   replace H0 : ref01_gcd.k2 a16 = some r := H0
   unfold ref01_gcd.k2 at H0
   refine JQ.sub [(0, .int .u64 a16)] ?_
   refine JQ.turn (Δ' := []) (fun _ h => h.to) ?_
   refine JQ.then_normal ?_
   refine J.sr ?_
   refine JL.mv (.int .u64 a16) ?_
   refine JL.as (.int .u64 a16) ?_
   refine JL.es [(4, .int .u64 a16)] ?_
   refine J.ret ?_
   obtain rfl := Option.some.inj H0
   exact JQ.done' (rs := [.tmp 4]) (vs := [.int .u64 a16]) [] (.inr rfl) ⟨by kernel_rfl, trivial⟩ (fun _ h => Heap.to h) ⟨rfl, rfl⟩

theorem ref01_big.ok (n1 : Int) (r : Big) (H0 : ref01_big.f n1 = some r) :
    Does Try.prog 46 [.int .u64 n1].toArray [] [] false (fun v Δ => v = mv_89 r ∧ Δ = []) := by
 refine Does.body (vs := [.int .u64 n1]) Try.func46 rfl trivial trivial fun w S => ?_
 unfold ref01_big.f at H0
 refine J.sr ?_
 refine JL.alloc (cl_89 zv_89) fun b2 => ?_
 refine JL.en ?_
 refine J.sr ?_
 refine JL.mv (.int .u64 n1) ?_
 refine JL.pur (.int .u64 (gand .u64 n1 4294967295)) (some 4) ?_
 refine JL.mv (.int .u64 n1) ?_
 refine JL.pur (.int .u64 (gshr .u64 n1 32)) (some 6) ?_
 refine JL.pur (.agg #[.int .u64 (gand .u64 n1 4294967295), .int .u64 (gshr .u64 n1 32), .int .u64 0, .int .u64 0]) (some 7) ?_
 refine JL.pur (.agg #[.int .u64 (gand .u64 n1 4294967295), .int .u64 (gshr .u64 n1 32), .int .u64 0, .int .u64 0]) (some 8) ?_
 refine JL.store 0 b2 0 89 (cl_89 zv_89) [.int .u64 (gand .u64 n1 4294967295), .int .u64 (gshr .u64 n1 32), .int .u64 0, .int .u64 0] tySize_89 ?_
 refine JL.es [(2, .pointer (some ⟨b2, 0, none⟩))] ?_
 refine J.ret ?_
 obtain rfl := Option.some.inj H0
 exact JQ.done' (rs := [.cell 2 89]) (vs := [.agg #[.int .u64 (gand .u64 n1 4294967295), .int .u64 (gshr .u64 n1 32), .int .u64 0, .int .u64 0]]) [] (.inr rfl) ⟨⟨b2, 0, _, _, by kernel_rfl, by kernel_rfl, holds_box b2 89 [.int .u64 (gand .u64 n1 4294967295), .int .u64 (gshr .u64 n1 32), .int .u64 0, .int .u64 0], .inl ⟨tyAgg_89, tySize_89, rfl⟩⟩, trivial⟩ (fun _ h => Heap.to (Heap.pick [] (by decide) h)) ⟨rfl, rfl⟩

theorem ref01_Small.ok (a1 : Big) (r : (Int × Bool)) (H0 : ref01_Small.f a1 = some r) :
    Does Try.prog 56 [mv_89 a1].toArray [] [] false (fun v Δ => v = .tuple #[.int .i64 r.1, .bool r.2] ∧ Δ = []) := by
 refine Does.body (vs := [mv_89 a1]) Try.func56 rfl trivial trivial fun w S => ?_
 unfold ref01_Small.f at H0
 refine J.sr ?_
 refine JL.box (cl_89 a1) fun b2 => ?_
 refine JL.as (.int .i64 0) ?_
 refine JL.as (.bool false) ?_
 refine JL.es [(1, .pointer (some ⟨b2, 0, none⟩))] ?_
 refine J.sr ?_
 refine JL.pur (.pointer (some ⟨b2, 0, none⟩)) (some 5) ?_
 refine JL.pur (.pointer (some ⟨b2, 1, none⟩)) (some 6) ?_
 refine JL.val (.int .u64 a1.D.e1) (some 7) (yields_load_box 0 1 (holds_box b2 89 (cl_89 a1)) tyAgg_83) ?_
 refine JL.pur (.int .u64 (gshl .u64 a1.D.e1 32)) (some 8) ?_
 refine JL.pur (.pointer (some ⟨b2, 0, none⟩)) (some 9) ?_
 refine JL.pur (.pointer (some ⟨b2, 0, none⟩)) (some 10) ?_
 refine JL.val (.int .u64 a1.D.e0) (some 11) (yields_load_box 0 0 (holds_box b2 89 (cl_89 a1)) tyAgg_83) ?_
 refine JL.pur (.int .u64 (gor .u64 (gshl .u64 a1.D.e1 32) a1.D.e0)) (some 12) ?_
 obtain ⟨n3, en3, H0⟩ := lt_some H0
 refine JL.as' (k := .u64) n3 en3 ?_
 refine JL.es [(1, .pointer (some ⟨b2, 0, none⟩)), (4, .int .u64 n3)] ?_
 refine J.sr ?_
 refine JL.mv (.int .u64 n3) ?_
 refine JL.pur (.int .u64 (gand .u64 n3 9223372036854775807)) (some 14) ?_
 refine JL.pur (.int .i64 (w64 (gand .u64 n3 9223372036854775807))) (some 15) ?_
 refine JL.pur (.pointer (some ⟨b2, 0, none⟩)) (some 16) ?_
 refine JL.pur (.pointer (some ⟨b2, 2, none⟩)) (some 17) ?_
 refine JL.val (.int .u64 a1.D.e2) (some 18) (yields_load_box 0 2 (holds_box b2 89 (cl_89 a1)) tyAgg_83) ?_
 refine JL.pur (.bool (decide (a1.D.e2 = 0))) (some 19) ?_
 refine JL.mv (.bool (decide (a1.D.e2 = 0))) ?_
 rcases ite_cases H0 with ⟨h4, H0⟩ | ⟨h4, H0⟩
 · refine JL.on 7 20 h4 ?_
   refine JL.pur (.pointer (some ⟨b2, 0, none⟩)) (some 21) ?_
   refine JL.on 7 20 h4 ?_
   refine JL.pur (.pointer (some ⟨b2, 3, none⟩)) (some 22) ?_
   refine JL.on 7 20 h4 ?_
   refine JL.val (.int .u64 a1.D.e3) (some 23) (yields_load_box 0 3 (holds_box b2 89 (cl_89 a1)) tyAgg_83) ?_
   refine JL.on 7 20 h4 ?_
   refine JL.pur (.bool (decide (a1.D.e3 = 0))) (some 24) ?_
   refine JL.val (.bool (decide (a1.D.e3 = 0))) (some 25) (gives_pickT h4) ?_
   refine JL.mv (.bool (decide (a1.D.e3 = 0))) ?_
   rcases ite_cases H0 with ⟨h5, H0⟩ | ⟨h5, H0⟩
   · refine JL.on 13 26 h5 ?_
     refine JL.mv (.int .u64 n3) ?_
     refine JL.on 13 26 h5 ?_
     refine JL.pur (.bool (decide (n3 ≤ 1000000000000000000))) (some 28) ?_
     refine JL.val (.bool (decide (n3 ≤ 1000000000000000000))) (some 29) (gives_pickT h5) ?_
     refine JL.as (.int .i64 (w64 (gand .u64 n3 9223372036854775807))) ?_
     refine JL.as (.bool (decide (n3 ≤ 1000000000000000000))) ?_
     refine JL.es [(2, .int .i64 (w64 (gand .u64 n3 9223372036854775807))), (3, .bool (decide (n3 ≤ 1000000000000000000)))] ?_
     refine JQ.mask [] [false] ?_
     refine J.ret ?_
     obtain rfl := Option.some.inj H0
     exact JQ.done' (rs := [.tmp 2, .tmp 3]) (vs := [.int .i64 (w64 (gand .u64 n3 9223372036854775807)), .bool (decide (n3 ≤ 1000000000000000000))]) [] (.inr rfl) ⟨by kernel_rfl, by kernel_rfl, trivial⟩ (fun _ h => Heap.to h) ⟨rfl, rfl⟩
   · refine JL.off 13 26 true (some 27) h5 ?_
     refine JL.off 13 26 true (some 28) h5 ?_
     refine JL.val (.bool false) (some 29) (gives_pickF h5) ?_
     refine JL.as (.int .i64 (w64 (gand .u64 n3 9223372036854775807))) ?_
     refine JL.as (.bool false) ?_
     refine JL.es [(2, .int .i64 (w64 (gand .u64 n3 9223372036854775807))), (3, .bool false)] ?_
     refine JQ.mask [] [false] ?_
     refine J.ret ?_
     obtain rfl := Option.some.inj H0
     exact JQ.done' (rs := [.tmp 2, .tmp 3]) (vs := [.int .i64 (w64 (gand .u64 n3 9223372036854775807)), .bool false]) [] (.inr rfl) ⟨by kernel_rfl, by kernel_rfl, trivial⟩ (fun _ h => Heap.to h) ⟨rfl, rfl⟩
 · refine JL.off 7 20 true (some 21) h4 ?_
   refine JL.off 7 20 true (some 22) h4 ?_
   refine JL.off 7 20 true (some 23) h4 ?_
   refine JL.off 7 20 true (some 24) h4 ?_
   refine JL.val (.bool false) (some 25) (gives_pickF h4) ?_
   refine JL.mv (.bool false) ?_
   refine JL.off 13 26 true (some 27) rfl ?_
   refine JL.off 13 26 true (some 28) rfl ?_
   refine JL.val (.bool false) (some 29) (gives_pickF rfl) ?_
   refine JL.as (.int .i64 (w64 (gand .u64 n3 9223372036854775807))) ?_
   refine JL.as (.bool false) ?_
   refine JL.es [(2, .int .i64 (w64 (gand .u64 n3 9223372036854775807))), (3, .bool false)] ?_
   refine JQ.mask [] [false] ?_
   refine J.ret ?_
   obtain rfl := Option.some.inj H0
   exact JQ.done' (rs := [.tmp 2, .tmp 3]) (vs := [.int .i64 (w64 (gand .u64 n3 9223372036854775807)), .bool false]) [] (.inr rfl) ⟨by kernel_rfl, by kernel_rfl, trivial⟩ (fun _ h => Heap.to h) ⟨rfl, rfl⟩

theorem ref01_lowest.ok (minus1 : Bool) (num2 : Big) (den3 : Big) (r : (Frac × Int)) (H0 : ref01_lowest.f minus1 num2 den3 = some r) :
    Does Try.prog 45 [.bool minus1, mv_89 num2, mv_89 den3].toArray [] [] false (fun v Δ => v = .tuple #[mv_37 r.1, .int .i64 r.2] ∧ Δ = []) := by
 refine Does.body (vs := [.bool minus1, mv_89 num2, mv_89 den3]) Try.func45 rfl trivial trivial fun w S => ?_
 unfold ref01_lowest.f at H0
 refine J.sr ?_
 refine JL.box (cl_89 num2) fun b4 => ?_
 refine JL.box (cl_89 den3) fun b5 => ?_
 refine JL.alloc (cl_37 zv_37) fun b6 => ?_
 refine JL.as (.int .i64 0) ?_
 refine JL.es [(0, .bool minus1), (4, .pointer (some ⟨b4, 0, none⟩)), (5, .pointer (some ⟨b5, 0, none⟩)), (6, .pointer (some ⟨b6, 0, none⟩))] ?_
 refine J.sr ?_
 refine JL.val (mv_89 num2) (some 13) (yields_load_boxes 0 0 (cl_89 num2) (holds_box b4 89 (cl_89 num2)) tyAgg_89 tySize_89) ?_
 obtain ⟨t7, hc8, H0⟩ := bind_some H0
 refine JL.call [] [] [] (ref01_Small.ok num2 _ hc8) trivial ?_
 rintro _ _ ⟨rfl, rfl⟩
 refine JL.mv (.tuple #[.int .i64 t7.1, .bool t7.2]) ?_
 refine JL.pur (.int .i64 t7.1) (some 15) ?_
 refine JL.pur (.bool t7.2) (some 16) ?_
 refine JL.as (.int .i64 t7.1) ?_
 refine JL.as (.bool t7.2) ?_
 refine JL.es [(0, .bool minus1), (5, .pointer (some ⟨b5, 0, none⟩)), (6, .pointer (some ⟨b6, 0, none⟩)), (8, .int .i64 t7.1), (9, .bool t7.2)] ?_
 refine JQ.mask [At.box b5 89 (cl_89 den3), At.box b6 37 (cl_37 zv_37)] [false, true, true] ?_
 refine J.sr ?_
 refine JL.val (mv_89 den3) (some 18) (yields_load_boxes 0 0 (cl_89 den3) (holds_box b5 89 (cl_89 den3)) tyAgg_89 tySize_89) ?_
 obtain ⟨t9, hc10, H0⟩ := bind_some H0
 refine JL.call [] [] [] (ref01_Small.ok den3 _ hc10) trivial ?_
 rintro _ _ ⟨rfl, rfl⟩
 refine JL.mv (.tuple #[.int .i64 t9.1, .bool t9.2]) ?_
 refine JL.pur (.int .i64 t9.1) (some 20) ?_
 refine JL.pur (.bool t9.2) (some 21) ?_
 refine JL.as (.int .i64 t9.1) ?_
 refine JL.as (.bool t9.2) ?_
 refine JL.es [(0, .bool minus1), (6, .pointer (some ⟨b6, 0, none⟩)), (8, .int .i64 t7.1), (9, .bool t7.2), (10, .int .i64 t9.1), (11, .bool t9.2)] ?_
 refine JQ.mask [At.box b6 37 (cl_37 zv_37)] [false, true] ?_
 refine J.seq ?_
 refine J.join (T := Bool) (G := Unit) (fun t => ref01_lowest.k1 minus1 t7 t9 t = some r) (fun t g => [(0, .bool minus1), (6, .pointer (some ⟨b6, 0, none⟩)), (8, .int .i64 t7.1), (10, .int .i64 t9.1), (27, .bool t)]) (fun t g => [At.box b6 37 (cl_37 zv_37)]) ?_ ?_
 · refine J.region ?_
   refine JL.mv (.bool t7.2) ?_
   refine JL.pur (.bool (!t7.2)) (some 23) ?_
   refine JL.mv (.bool (!t7.2)) ?_
   rcases ite_cases H0 with ⟨h17, H0⟩ | ⟨h17, H0⟩
   · refine JL.off 2 24 false (some 25) h17 ?_
     refine JL.off 2 24 false (some 26) h17 ?_
     refine JL.val (.bool true) (some 27) (gives_pickT h17) ?_
     refine JL.en ?_
     exact JQ.meet true () H0 (fun _ h => Heap.to h)
   · refine JL.on 2 24 h17 ?_
     refine JL.mv (.bool t9.2) ?_
     refine JL.on 2 24 h17 ?_
     refine JL.pur (.bool (!t9.2)) (some 26) ?_
     refine JL.val (.bool (!t9.2)) (some 27) (gives_pickF h17) ?_
     refine JL.en ?_
     exact JQ.meet (!t9.2) () H0 (fun _ h => Heap.to h)
 · clear H0
   rintro x12 ⟨⟩ H0
   replace H0 : ref01_lowest.k1 minus1 t7 t9 x12 = some r := H0
   unfold ref01_lowest.k1 at H0
   refine JQ.sub [(0, .bool minus1), (6, .pointer (some ⟨b6, 0, none⟩)), (8, .int .i64 t7.1), (10, .int .i64 t9.1), (27, .bool x12)] ?_
   refine JQ.turn (Δ' := [At.box b6 37 (cl_37 zv_37)]) (fun _ h => h.to) ?_
   rcases ite_cases H0 with ⟨h13, H0⟩ | ⟨h13, H0⟩
   · refine J.cond_true h13 ?_
     refine J.sr ?_
     refine JL.pur (mv_37 zv_37) (some 28) ?_
     refine JL.store 0 b6 0 37 (cl_37 zv_37) (cl_37 zv_37) tySize_37 ?_
     refine JL.as (.int .i64 16) ?_
     refine JL.es [(6, .pointer (some ⟨b6, 0, none⟩)), (7, .int .i64 16)] ?_
     refine J.ret ?_
     refine JQ.then_ret ?_
     obtain rfl := Option.some.inj H0
     exact JQ.done' (rs := [.cell 6 37, .tmp 7]) (vs := [.agg #[.int .i64 0, .int .i64 0], .int .i64 16]) [] (.inr rfl) ⟨⟨b6, 0, _, _, by kernel_rfl, by kernel_rfl, holds_box b6 37 (cl_37 zv_37), .inl ⟨tyAgg_37, tySize_37, rfl⟩⟩, by kernel_rfl, trivial⟩ (fun _ h => Heap.to (Heap.pick [] (by decide) h)) ⟨rfl, rfl⟩
   · refine J.cond_false h13 ?_
     refine J.skip ?_
     refine JQ.ts [(0, .bool minus1), (6, .pointer (some ⟨b6, 0, none⟩)), (8, .int .i64 t7.1), (10, .int .i64 t9.1)] ?_
     refine J.join (T := Int) (G := Unit) (fun t => ref01_lowest.k2 t9 t = some r) (fun t g => [(6, .pointer (some ⟨b6, 0, none⟩)), (8, .int .i64 t), (10, .int .i64 t9.1)]) (fun t g => [At.box b6 37 (cl_37 zv_37)]) ?_ ?_
     · refine J.sr ?_
       refine JL.mv (.bool minus1) ?_
       refine JL.es [(6, .pointer (some ⟨b6, 0, none⟩)), (8, .int .i64 t7.1), (10, .int .i64 t9.1), (29, .bool minus1)] ?_
       rcases ite_cases H0 with ⟨h16, H0⟩ | ⟨h16, H0⟩
       · refine J.cond_true h16 ?_
         refine J.region ?_
         refine JL.mv (.int .i64 t7.1) ?_
         refine JL.pur (.int .i64 (w64 (0 - t7.1))) (some 31) ?_
         refine JL.as (.int .i64 (w64 (0 - t7.1))) ?_
         refine JL.en ?_
         exact JQ.meet (w64 (0 - t7.1)) () H0 (fun _ h => Heap.to h)
       · refine J.cond_false h16 ?_
         refine J.skip ?_
         refine JQ.then_normal ?_
         exact JQ.meet t7.1 () H0 (fun _ h => Heap.to h)
     · clear H0
       rintro n15 ⟨⟩ H0
       replace H0 : ref01_lowest.k2 t9 n15 = some r := H0
       unfold ref01_lowest.k2 at H0
       refine JQ.sub [(6, .pointer (some ⟨b6, 0, none⟩)), (8, .int .i64 n15), (10, .int .i64 t9.1)] ?_
       refine JQ.turn (Δ' := [At.box b6 37 (cl_37 zv_37)]) (fun _ h => h.to) ?_
       refine J.sr ?_
       refine JL.mv (.int .i64 n15) ?_
       refine JL.mv (.int .i64 t9.1) ?_
       refine JL.pur (.agg #[.int .i64 n15, .int .i64 t9.1]) (some 34) ?_
       refine JL.store 0 b6 0 37 (cl_37 zv_37) [.int .i64 n15, .int .i64 t9.1] tySize_37 ?_
       refine JL.as (.int .i64 0) ?_
       refine JL.es [(6, .pointer (some ⟨b6, 0, none⟩)), (7, .int .i64 0)] ?_
       refine J.ret ?_
       obtain rfl := Option.some.inj H0
       exact JQ.done' (rs := [.cell 6 37, .tmp 7]) (vs := [.agg #[.int .i64 n15, .int .i64 t9.1], .int .i64 0]) [] (.inr rfl) ⟨⟨b6, 0, _, _, by kernel_rfl, by kernel_rfl, holds_box b6 37 [.int .i64 n15, .int .i64 t9.1], .inl ⟨tyAgg_37, tySize_37, rfl⟩⟩, by kernel_rfl, trivial⟩ (fun _ h => Heap.to (Heap.pick [] (by decide) h)) ⟨rfl, rfl⟩

theorem ref01_Make.ok (num1 : Int) (den2 : Int) (r : (Frac × Int)) (H0 : ref01_Make.f num1 den2 = some r) :
    Does Try.prog 27 [.int .i64 num1, .int .i64 den2].toArray [] [] false (fun v Δ => v = .tuple #[mv_37 r.1, .int .i64 r.2] ∧ Δ = []) := by
 refine Does.body (vs := [.int .i64 num1, .int .i64 den2]) Try.func27 rfl trivial trivial fun w S => ?_
 unfold ref01_Make.f at H0
 refine J.sr ?_
 refine JL.alloc (cl_37 zv_37) fun b3 => ?_
 refine JL.as (.int .i64 0) ?_
 refine JL.es [(0, .int .i64 num1), (1, .int .i64 den2), (4, .pointer (some ⟨b3, 0, none⟩))] ?_
 refine J.seq ?_
 refine J.sr ?_
 refine JL.mv (.int .i64 den2) ?_
 refine JL.pur (.bool (decide (den2 = 0))) (some 8) ?_
 refine JL.es [(0, .int .i64 num1), (1, .int .i64 den2), (4, .pointer (some ⟨b3, 0, none⟩)), (8, .bool (decide (den2 = 0)))] ?_
 rcases ite_cases H0 with ⟨h4, H0⟩ | ⟨h4, H0⟩
 · refine J.cond_true h4 ?_
   refine J.sr ?_
   refine JL.pur (mv_37 zv_37) (some 9) ?_
   refine JL.store 0 b3 0 37 (cl_37 zv_37) (cl_37 zv_37) tySize_37 ?_
   refine JL.as (.int .i64 18) ?_
   refine JL.es [(4, .pointer (some ⟨b3, 0, none⟩)), (5, .int .i64 18)] ?_
   refine J.ret ?_
   refine JQ.then_ret ?_
   obtain rfl := Option.some.inj H0
   exact JQ.done' (rs := [.cell 4 37, .tmp 5]) (vs := [.agg #[.int .i64 0, .int .i64 0], .int .i64 18]) [] (.inr rfl) ⟨⟨b3, 0, _, _, by kernel_rfl, by kernel_rfl, holds_box b3 37 (cl_37 zv_37), .inl ⟨tyAgg_37, tySize_37, rfl⟩⟩, by kernel_rfl, trivial⟩ (fun _ h => Heap.to (Heap.pick [] (by decide) h)) ⟨rfl, rfl⟩
 · refine J.cond_false h4 ?_
   refine J.skip ?_
   refine JQ.ts [(0, .int .i64 num1), (1, .int .i64 den2), (4, .pointer (some ⟨b3, 0, none⟩))] ?_
   refine J.sr ?_
   refine JL.mv (.int .i64 num1) ?_
   obtain ⟨t5, hc6, H0⟩ := bind_some H0
   refine JL.call [] [] [] (ref01_abs.ok num1 _ hc6) trivial ?_
   rintro _ _ ⟨rfl, rfl⟩
   refine JL.mv (.int .i64 den2) ?_
   obtain ⟨t7, hc8, H0⟩ := bind_some H0
   refine JL.call [] [] [] (ref01_abs.ok den2 _ hc8) trivial ?_
   rintro _ _ ⟨rfl, rfl⟩
   obtain ⟨t9, hc10, H0⟩ := bind_some H0
   refine JL.call [] [] [] (ref01_gcd.ok t5 t7 _ hc10) trivial ?_
   rintro _ _ ⟨rfl, rfl⟩
   refine JL.as (.int .u64 t9) ?_
   refine JL.es [(0, .int .i64 num1), (1, .int .i64 den2), (4, .pointer (some ⟨b3, 0, none⟩)), (6, .int .u64 t9)] ?_
   refine J.sr ?_
   refine JL.mv (.int .i64 num1) ?_
   refine JL.pur (.bool (decide (num1 < 0))) (some 16) ?_
   refine JL.mv (.int .i64 den2) ?_
   refine JL.pur (.bool (decide (den2 < 0))) (some 18) ?_
   refine JL.pur (.bool (!((decide (num1 < 0)) == (decide (den2 < 0))))) (some 19) ?_
   refine JL.mv (.int .i64 num1) ?_
   obtain ⟨t11, hc12, H0⟩ := bind_some H0
   refine JL.call [] [] [] (ref01_abs.ok num1 _ hc12) trivial ?_
   rintro _ _ ⟨rfl, rfl⟩
   refine JL.mv (.int .u64 t9) ?_
   obtain ⟨h13, H0⟩ := ite_must H0
   refine JL.val (.int .u64 (wu64 (Int.tdiv t11 t9))) (some 23) (gives_quo .u64 t11 t9 h13) ?_
   obtain ⟨t14, hc15, H0⟩ := bind_some H0
   refine JL.call [] [] [] (ref01_big.ok (wu64 (Int.tdiv t11 t9)) _ hc15) trivial ?_
   rintro _ _ ⟨rfl, rfl⟩
   refine JL.mv (.int .i64 den2) ?_
   obtain ⟨t16, hc17, H0⟩ := bind_some H0
   refine JL.call [] [] [] (ref01_abs.ok den2 _ hc17) trivial ?_
   rintro _ _ ⟨rfl, rfl⟩
   refine JL.mv (.int .u64 t9) ?_
   obtain ⟨h18, H0⟩ := ite_must H0
   refine JL.val (.int .u64 (wu64 (Int.tdiv t16 t9))) (some 28) (gives_quo .u64 t16 t9 h18) ?_
   obtain ⟨t19, hc20, H0⟩ := bind_some H0
   refine JL.call [] [] [] (ref01_big.ok (wu64 (Int.tdiv t16 t9)) _ hc20) trivial ?_
   rintro _ _ ⟨rfl, rfl⟩
   obtain ⟨t21, hc22, H0⟩ := bind_some H0
   refine JL.call [] [] [] (ref01_lowest.ok (!((decide (num1 < 0)) == (decide (den2 < 0)))) t14 t19 _ hc22) trivial ?_
   rintro _ _ ⟨rfl, rfl⟩
   refine JL.pur (mv_37 t21.1) (some 31) ?_
   refine JL.pur (.int .i64 t21.2) (some 32) ?_
   refine JL.store 0 b3 0 37 (cl_37 zv_37) (cl_37 t21.1) tySize_37 ?_
   refine JL.as (.int .i64 t21.2) ?_
   refine JL.es [(4, .pointer (some ⟨b3, 0, none⟩)), (5, .int .i64 t21.2)] ?_
   refine J.ret ?_
   obtain rfl := Option.some.inj H0
   exact JQ.done' (rs := [.cell 4 37, .tmp 5]) (vs := [.agg #[.int .i64 t21.1.Num, .int .i64 t21.1.Den], .int .i64 t21.2]) [] (.inr rfl) ⟨⟨b3, 0, _, _, by kernel_rfl, by kernel_rfl, holds_box b3 37 (cl_37 t21.1), .inl ⟨tyAgg_37, tySize_37, rfl⟩⟩, by kernel_rfl, trivial⟩ (fun _ h => Heap.to (Heap.pick [] (by decide) h)) ⟨rfl, rfl⟩

theorem law18_AccumMeans.ok (a1 : Acc) (Aa2 : Option Addr) (c3 : Nat) (Aa5 : Option Addr) (c6 : Nat) (Aa8 : Option Addr) (c9 : Nat) (lag11 : Int) (r : Bool) (H0 : law18_AccumMeans.f a1 lag11 = some r) :
    Does Try.prog 7 [.agg #[.slice Aa2 a1.Sums.length c3, .slice Aa5 a1.Ns.length c6, .slice Aa8 a1.Spans.length c9], .int .i64 lag11].toArray [At.rd Aa2 c3 fl_Count.kd a1.Sums true, At.rd Aa5 c6 fl_Count.kd a1.Ns true, At.rd Aa8 c9 fl_Gap.kd a1.Spans true] [] false (fun v Δ => v = .bool r ∧ Δ = []) := by
 refine Does.body (vs := [.agg #[.slice Aa2 a1.Sums.length c3, .slice Aa5 a1.Ns.length c6, .slice Aa8 a1.Spans.length c9], .int .i64 lag11]) Try.func7 rfl ⟨.inl rfl, .inl rfl, .inl rfl, trivial⟩ trivial fun w S => ?_
 unfold law18_AccumMeans.f at H0
 refine J.sr ?_
 refine JL.box [.slice Aa2 a1.Sums.length c3, .slice Aa5 a1.Ns.length c6, .slice Aa8 a1.Spans.length c9] fun b12 => ?_
 refine JL.as (.bool false) ?_
 refine JL.es [(1, .int .i64 lag11), (2, .pointer (some ⟨b12, 0, none⟩))] ?_
 refine J.sr ?_
 obtain ⟨t13, hc14, H0⟩ := bind_some H0
 refine JL.call [] [] [] (law18_alive.ok _ hc14) trivial ?_
 rintro _ _ ⟨rfl, rfl⟩
 refine JL.as (.bool t13) ?_
 refine JL.es [(1, .int .i64 lag11), (2, .pointer (some ⟨b12, 0, none⟩)), (5, .bool t13)] ?_
 refine J.seq ?_
 refine J.join (T := Bool) (G := Unit) (fun t => law18_AccumMeans.k1 a1 lag11 t13 t = some r) (fun t g => [(1, .int .i64 lag11), (2, .pointer (some ⟨b12, 0, none⟩)), (5, .bool t13), (22, .bool t)]) (fun t g => [At.box b12 25 [.slice Aa2 a1.Sums.length c3, .slice Aa5 a1.Ns.length c6, .slice Aa8 a1.Spans.length c9], At.rd Aa2 c3 fl_Count.kd a1.Sums true, At.rd Aa5 c6 fl_Count.kd a1.Ns true, At.rd Aa8 c9 fl_Gap.kd a1.Spans true]) ?_ ?_
 · refine J.region ?_
   refine JL.val (.agg #[.slice Aa2 a1.Sums.length c3, .slice Aa5 a1.Ns.length c6, .slice Aa8 a1.Spans.length c9]) (some 16) (yields_load_boxes 3 0 [.slice Aa2 a1.Sums.length c3, .slice Aa5 a1.Ns.length c6, .slice Aa8 a1.Spans.length c9] (holds_box b12 25 [.slice Aa2 a1.Sums.length c3, .slice Aa5 a1.Ns.length c6, .slice Aa8 a1.Spans.length c9]) tyAgg_25 tySize_25) ?_
   obtain ⟨t61, hc62, H0⟩ := bind_some H0
   refine JL.call [] [] [] (law18_fit.ok (⟨a1.Sums, a1.Ns, a1.Spans⟩ : Acc) Aa2 c3 Aa5 c6 Aa8 c9 _ hc62) ⟨pre_any 0 (view_rd Aa2 c3 fl_Count.kd a1.Sums true true), ⟨pre_any 1 (view_rd Aa5 c6 fl_Count.kd a1.Ns true true), ⟨pre_any 2 (view_rd Aa8 c9 fl_Gap.kd a1.Spans true true), trivial⟩⟩⟩ ?_
   rintro _ _ ⟨rfl, rfl⟩
   refine JL.pur (.bool (!t61)) (some 18) ?_
   refine JL.mv (.bool (!t61)) ?_
   rcases ite_cases H0 with ⟨h63, H0⟩ | ⟨h63, H0⟩
   · refine JL.off 3 19 false (some 20) h63 ?_
     refine JL.off 3 19 false (some 21) h63 ?_
     refine JL.val (.bool true) (some 22) (gives_pickT h63) ?_
     refine JL.en ?_
     exact JQ.meet true () H0 (fun _ h => Heap.to (Heap.pick [3, 0, 1, 2] (by decide) h))
   · refine JL.on 3 19 h63 ?_
     refine JL.mv (.bool t13) ?_
     refine JL.on 3 19 h63 ?_
     refine JL.pur (.bool (!t13)) (some 21) ?_
     refine JL.val (.bool (!t13)) (some 22) (gives_pickF h63) ?_
     refine JL.en ?_
     exact JQ.meet (!t13) () H0 (fun _ h => Heap.to (Heap.pick [3, 0, 1, 2] (by decide) h))
 · clear H0
   rintro x18 ⟨⟩ H0
   replace H0 : law18_AccumMeans.k1 a1 lag11 t13 x18 = some r := H0
   unfold law18_AccumMeans.k1 at H0
   refine JQ.sub [(1, .int .i64 lag11), (2, .pointer (some ⟨b12, 0, none⟩)), (5, .bool t13), (22, .bool x18)] ?_
   refine JQ.turn (Δ' := [At.box b12 25 [.slice Aa2 a1.Sums.length c3, .slice Aa5 a1.Ns.length c6, .slice Aa8 a1.Spans.length c9], At.rd Aa2 c3 fl_Count.kd a1.Sums true, At.rd Aa5 c6 fl_Count.kd a1.Ns true, At.rd Aa8 c9 fl_Gap.kd a1.Spans true]) (fun _ h => h.to) ?_
   rcases ite_cases H0 with ⟨h19, H0⟩ | ⟨h19, H0⟩
   · refine J.cond_true h19 ?_
     refine J.sr ?_
     refine JL.mv (.bool t13) ?_
     refine JL.as (.bool t13) ?_
     refine JL.es [(4, .bool t13)] ?_
     refine JQ.mask [] [false, false, false, false] ?_
     refine J.ret ?_
     refine JQ.then_ret ?_
     obtain rfl := Option.some.inj H0
     exact JQ.done' (rs := [.tmp 4]) (vs := [.bool t13]) [] (.inr rfl) ⟨by kernel_rfl, trivial⟩ (fun _ h => Heap.to h) ⟨rfl, rfl⟩
   · refine J.cond_false h19 ?_
     refine J.skip ?_
     refine JQ.ts [(1, .int .i64 lag11), (2, .pointer (some ⟨b12, 0, none⟩)), (5, .bool t13)] ?_
     refine J.sr ?_
     refine JL.val (.agg #[.slice Aa2 a1.Sums.length c3, .slice Aa5 a1.Ns.length c6, .slice Aa8 a1.Spans.length c9]) (some 25) (yields_load_boxes 0 0 [.slice Aa2 a1.Sums.length c3, .slice Aa5 a1.Ns.length c6, .slice Aa8 a1.Spans.length c9] (holds_box b12 25 [.slice Aa2 a1.Sums.length c3, .slice Aa5 a1.Ns.length c6, .slice Aa8 a1.Spans.length c9]) tyAgg_25 tySize_25) ?_
     refine JL.val (.agg #[.slice Aa2 a1.Sums.length c3, .slice Aa5 a1.Ns.length c6, .slice Aa8 a1.Spans.length c9]) (some 26) (yields_load_boxes 0 0 [.slice Aa2 a1.Sums.length c3, .slice Aa5 a1.Ns.length c6, .slice Aa8 a1.Spans.length c9] (holds_box b12 25 [.slice Aa2 a1.Sums.length c3, .slice Aa5 a1.Ns.length c6, .slice Aa8 a1.Spans.length c9]) tyAgg_25 tySize_25) ?_
     obtain ⟨t20, hc21, H0⟩ := bind_some H0
     refine JL.call [] [] [] (accum_Merge.ok (⟨a1.Sums, a1.Ns, a1.Spans⟩ : Acc) Aa2 c3 Aa5 c6 Aa8 c9 (⟨a1.Sums, a1.Ns, a1.Spans⟩ : Acc) Aa2 c3 Aa5 c6 Aa8 c9 _ hc21) ⟨pre_any 1 (view_rd Aa2 c3 fl_Count.kd a1.Sums true true), ⟨pre_any 2 (view_rd Aa5 c6 fl_Count.kd a1.Ns true true), ⟨pre_any 3 (view_rd Aa8 c9 fl_Gap.kd a1.Spans true true), ⟨pre_any 1 (view_rd Aa2 c3 fl_Count.kd a1.Sums true true), ⟨pre_any 2 (view_rd Aa5 c6 fl_Count.kd a1.Ns true true), ⟨pre_any 3 (view_rd Aa8 c9 fl_Gap.kd a1.Spans true true), trivial⟩⟩⟩⟩⟩⟩ ?_
     rintro _ _ ⟨Aa22, c23, Aa25, c26, Aa28, c29, rfl, rfl⟩
     refine JL.mv (.tuple #[.agg #[.slice Aa22 t20.1.Sums.length c23, .slice Aa25 t20.1.Ns.length c26, .slice Aa28 t20.1.Spans.length c29], .int .i64 t20.2]) ?_
     refine JL.pur (.agg #[.slice Aa22 t20.1.Sums.length c23, .slice Aa25 t20.1.Ns.length c26, .slice Aa28 t20.1.Spans.length c29]) (some 28) ?_
     refine JL.pur (.int .i64 t20.2) (some 29) ?_
     refine JL.alloc [.slice none 0 0, .slice none 0 0, .slice none 0 0] fun b31 => ?_
     refine JL.store 7 b31 0 25 [.slice none 0 0, .slice none 0 0, .slice none 0 0] [.slice Aa22 t20.1.Sums.length c23, .slice Aa25 t20.1.Ns.length c26, .slice Aa28 t20.1.Spans.length c29] tySize_25 ?_
     refine JL.as (.int .i64 t20.2) ?_
     refine JL.es [(1, .int .i64 lag11), (2, .pointer (some ⟨b12, 0, none⟩)), (5, .bool t13), (7, .int .i64 t20.2)] ?_
     refine JQ.mask [At.box b12 25 [.slice Aa2 a1.Sums.length c3, .slice Aa5 a1.Ns.length c6, .slice Aa8 a1.Spans.length c9], At.rd Aa2 c3 fl_Count.kd a1.Sums true, At.rd Aa5 c6 fl_Count.kd a1.Ns true, At.rd Aa8 c9 fl_Gap.kd a1.Spans true] [true, true, true, true, false, false, false, false] ?_
     refine J.seq ?_
     refine J.join (T := Bool) (G := Unit) (fun t => law18_AccumMeans.k2 a1 lag11 t13 t = some r) (fun t g => [(1, .int .i64 lag11), (2, .pointer (some ⟨b12, 0, none⟩)), (5, .bool t13), (47, .bool t)]) (fun t g => [At.box b12 25 [.slice Aa2 a1.Sums.length c3, .slice Aa5 a1.Ns.length c6, .slice Aa8 a1.Spans.length c9], At.rd Aa2 c3 fl_Count.kd a1.Sums true, At.rd Aa5 c6 fl_Count.kd a1.Ns true, At.rd Aa8 c9 fl_Gap.kd a1.Spans true]) ?_ ?_
     · refine J.region ?_
       refine JL.pur (.pointer (some ⟨b12, 2, none⟩)) (some 30) ?_
       refine JL.val (.slice Aa8 a1.Spans.length c9) (some 31) (yields_load_box 0 2 (holds_box b12 25 [.slice Aa2 a1.Sums.length c3, .slice Aa5 a1.Ns.length c6, .slice Aa8 a1.Spans.length c9]) tyAgg_23) ?_
       refine JL.pur (.int .i64 (a1.Spans.length : Int)) (some 32) ?_
       refine JL.pur (.bool (decide (0 < (a1.Spans.length : Int)))) (some 33) ?_
       refine JL.mv (.bool (decide (0 < (a1.Spans.length : Int)))) ?_
       rcases ite_cases H0 with ⟨h57, H0⟩ | ⟨h57, H0⟩
       · refine JL.on 4 34 h57 ?_
         refine JL.mv (.int .i64 t20.2) ?_
         refine JL.on 4 34 h57 ?_
         refine JL.pur (.bool (!decide (t20.2 = 14))) (some 36) ?_
         refine JL.val (.bool (!decide (t20.2 = 14))) (some 37) (gives_pickT h57) ?_
         refine JL.mv (.bool (!decide (t20.2 = 14))) ?_
         rcases ite_cases H0 with ⟨h58, H0⟩ | ⟨h58, H0⟩
         · refine JL.off 8 38 false (some 39) h58 ?_
           refine JL.off 8 38 false (some 40) h58 ?_
           refine JL.off 8 38 false (some 41) h58 ?_
           refine JL.off' 11 41 true (some 42) ?_
           refine JL.off' 11 41 true (some 43) ?_
           refine JL.off' 11 41 true (some 44) ?_
           refine JL.off' 11 41 true (some 45) ?_
           refine JL.off 8 38 false (some 46) h58 ?_
           refine JL.val (.bool true) (some 47) (gives_pickT h58) ?_
           refine JL.en ?_
           exact JQ.meet true () H0 (fun _ h => Heap.to h)
         · refine JL.on 8 38 h58 ?_
           refine JL.mv (.int .i64 t20.2) ?_
           refine JL.on 8 38 h58 ?_
           refine JL.pur (.bool (decide (t20.2 = 14))) (some 40) ?_
           refine JL.on 8 38 h58 ?_
           refine JL.mv (.bool (decide (t20.2 = 14))) ?_
           rcases ite_cases H0 with ⟨h59, H0⟩ | ⟨h59, H0⟩
           · refine JL.on 11 41 h59 ?_
             refine JL.pur (.pointer (some ⟨b12, 2, none⟩)) (some 42) ?_
             refine JL.on 11 41 h59 ?_
             refine JL.val (.slice Aa8 a1.Spans.length c9) (some 43) (yields_load_box 0 2 (holds_box b12 25 [.slice Aa2 a1.Sums.length c3, .slice Aa5 a1.Ns.length c6, .slice Aa8 a1.Spans.length c9]) tyAgg_23) ?_
             refine JL.on 11 41 h59 ?_
             refine JL.pur (.int .i64 (a1.Spans.length : Int)) (some 44) ?_
             refine JL.on 11 41 h59 ?_
             refine JL.pur (.bool (decide ((a1.Spans.length : Int) = 0))) (some 45) ?_
             refine JL.on 8 38 h58 ?_
             refine JL.val (.bool (decide ((a1.Spans.length : Int) = 0))) (some 46) (gives_pickT h59) ?_
             refine JL.val (.bool (decide ((a1.Spans.length : Int) = 0))) (some 47) (gives_pickF h58) ?_
             refine JL.en ?_
             exact JQ.meet (decide ((a1.Spans.length : Int) = 0)) () H0 (fun _ h => Heap.to h)
           · refine JL.off 11 41 true (some 42) h59 ?_
             refine JL.off 11 41 true (some 43) h59 ?_
             refine JL.off 11 41 true (some 44) h59 ?_
             refine JL.off 11 41 true (some 45) h59 ?_
             refine JL.on 8 38 h58 ?_
             refine JL.val (.bool false) (some 46) (gives_pickF h59) ?_
             refine JL.val (.bool false) (some 47) (gives_pickF h58) ?_
             refine JL.en ?_
             exact JQ.meet false () H0 (fun _ h => Heap.to h)
       · refine JL.off 4 34 true (some 35) h57 ?_
         refine JL.off 4 34 true (some 36) h57 ?_
         refine JL.val (.bool false) (some 37) (gives_pickF h57) ?_
         refine JL.mv (.bool false) ?_
         refine JL.on 8 38 (rfl : (false) = false) ?_
         refine JL.mv (.int .i64 t20.2) ?_
         refine JL.on 8 38 (rfl : (false) = false) ?_
         refine JL.pur (.bool (decide (t20.2 = 14))) (some 40) ?_
         refine JL.on 8 38 (rfl : (false) = false) ?_
         refine JL.mv (.bool (decide (t20.2 = 14))) ?_
         rcases ite_cases H0 with ⟨h60, H0⟩ | ⟨h60, H0⟩
         · refine JL.on 11 41 h60 ?_
           refine JL.pur (.pointer (some ⟨b12, 2, none⟩)) (some 42) ?_
           refine JL.on 11 41 h60 ?_
           refine JL.val (.slice Aa8 a1.Spans.length c9) (some 43) (yields_load_box 0 2 (holds_box b12 25 [.slice Aa2 a1.Sums.length c3, .slice Aa5 a1.Ns.length c6, .slice Aa8 a1.Spans.length c9]) tyAgg_23) ?_
           refine JL.on 11 41 h60 ?_
           refine JL.pur (.int .i64 (a1.Spans.length : Int)) (some 44) ?_
           refine JL.on 11 41 h60 ?_
           refine JL.pur (.bool (decide ((a1.Spans.length : Int) = 0))) (some 45) ?_
           refine JL.on 8 38 (rfl : (false) = false) ?_
           refine JL.val (.bool (decide ((a1.Spans.length : Int) = 0))) (some 46) (gives_pickT h60) ?_
           refine JL.val (.bool (decide ((a1.Spans.length : Int) = 0))) (some 47) (gives_pickF rfl) ?_
           refine JL.en ?_
           exact JQ.meet (decide ((a1.Spans.length : Int) = 0)) () H0 (fun _ h => Heap.to h)
         · refine JL.off 11 41 true (some 42) h60 ?_
           refine JL.off 11 41 true (some 43) h60 ?_
           refine JL.off 11 41 true (some 44) h60 ?_
           refine JL.off 11 41 true (some 45) h60 ?_
           refine JL.on 8 38 (rfl : (false) = false) ?_
           refine JL.val (.bool false) (some 46) (gives_pickF h60) ?_
           refine JL.val (.bool false) (some 47) (gives_pickF rfl) ?_
           refine JL.en ?_
           exact JQ.meet false () H0 (fun _ h => Heap.to h)
     · clear H0
       rintro x36 ⟨⟩ H0
       replace H0 : law18_AccumMeans.k2 a1 lag11 t13 x36 = some r := H0
       unfold law18_AccumMeans.k2 at H0
       refine JQ.sub [(1, .int .i64 lag11), (2, .pointer (some ⟨b12, 0, none⟩)), (5, .bool t13), (47, .bool x36)] ?_
       refine JQ.turn (Δ' := [At.box b12 25 [.slice Aa2 a1.Sums.length c3, .slice Aa5 a1.Ns.length c6, .slice Aa8 a1.Spans.length c9], At.rd Aa2 c3 fl_Count.kd a1.Sums true, At.rd Aa5 c6 fl_Count.kd a1.Ns true, At.rd Aa8 c9 fl_Gap.kd a1.Spans true]) (fun _ h => h.to) ?_
       rcases ite_cases H0 with ⟨h37, H0⟩ | ⟨h37, H0⟩
       · refine J.cond_true h37 ?_
         refine J.sr ?_
         refine JL.as (.bool false) ?_
         refine JL.es [(4, .bool false)] ?_
         refine JQ.mask [] [false, false, false, false] ?_
         refine J.ret ?_
         refine JQ.then_ret ?_
         obtain rfl := Option.some.inj H0
         exact JQ.done' (rs := [.tmp 4]) (vs := [.bool false]) [] (.inr rfl) ⟨by kernel_rfl, trivial⟩ (fun _ h => Heap.to h) ⟨rfl, rfl⟩
       · refine J.cond_false h37 ?_
         refine J.skip ?_
         refine JQ.ts [(1, .int .i64 lag11), (2, .pointer (some ⟨b12, 0, none⟩)), (5, .bool t13)] ?_
         refine J.sr ?_
         refine JL.val (.agg #[.slice Aa2 a1.Sums.length c3, .slice Aa5 a1.Ns.length c6, .slice Aa8 a1.Spans.length c9]) (some 49) (yields_load_boxes 0 0 [.slice Aa2 a1.Sums.length c3, .slice Aa5 a1.Ns.length c6, .slice Aa8 a1.Spans.length c9] (holds_box b12 25 [.slice Aa2 a1.Sums.length c3, .slice Aa5 a1.Ns.length c6, .slice Aa8 a1.Spans.length c9]) tyAgg_25 tySize_25) ?_
         refine JL.mv (.int .i64 lag11) ?_
         obtain ⟨t38, hc39, H0⟩ := bind_some H0
         refine JL.call [] [] [] (accum_Value.ok (⟨a1.Sums, a1.Ns, a1.Spans⟩ : Acc) Aa2 c3 Aa5 c6 Aa8 c9 lag11 _ hc39) ⟨pre_any 1 (view_rd Aa2 c3 fl_Count.kd a1.Sums true true), ⟨pre_any 2 (view_rd Aa5 c6 fl_Count.kd a1.Ns true true), ⟨pre_any 3 (view_rd Aa8 c9 fl_Gap.kd a1.Spans true true), trivial⟩⟩⟩ ?_
         rintro _ _ ⟨rfl, rfl⟩
         refine JL.mv (.tuple #[.int .i64 t38.1, .int .i64 t38.2.1, .int .i64 t38.2.2]) ?_
         refine JL.pur (.int .i64 t38.1) (some 52) ?_
         refine JL.pur (.int .i64 t38.2.1) (some 53) ?_
         refine JL.pur (.int .i64 t38.2.2) (some 54) ?_
         refine JL.as (.int .i64 t38.1) ?_
         refine JL.as (.int .i64 t38.2.1) ?_
         refine JL.as (.int .i64 t38.2.2) ?_
         refine JL.es [(1, .int .i64 lag11), (2, .pointer (some ⟨b12, 0, none⟩)), (5, .bool t13), (8, .int .i64 t38.1), (9, .int .i64 t38.2.1), (10, .int .i64 t38.2.2)] ?_
         refine J.sr ?_
         refine JL.val (.agg #[.slice Aa2 a1.Sums.length c3, .slice Aa5 a1.Ns.length c6, .slice Aa8 a1.Spans.length c9]) (some 56) (yields_load_boxes 0 0 [.slice Aa2 a1.Sums.length c3, .slice Aa5 a1.Ns.length c6, .slice Aa8 a1.Spans.length c9] (holds_box b12 25 [.slice Aa2 a1.Sums.length c3, .slice Aa5 a1.Ns.length c6, .slice Aa8 a1.Spans.length c9]) tyAgg_25 tySize_25) ?_
         refine JL.mv (.int .i64 lag11) ?_
         obtain ⟨t40, hc41, H0⟩ := bind_some H0
         refine JL.call [] [] [] (accum_Mean.ok (⟨a1.Sums, a1.Ns, a1.Spans⟩ : Acc) Aa2 c3 Aa5 c6 Aa8 c9 lag11 _ hc41) ⟨pre_any 1 (view_rd Aa2 c3 fl_Count.kd a1.Sums true true), ⟨pre_any 2 (view_rd Aa5 c6 fl_Count.kd a1.Ns true true), ⟨pre_any 3 (view_rd Aa8 c9 fl_Gap.kd a1.Spans true true), trivial⟩⟩⟩ ?_
         rintro _ _ ⟨rfl, rfl⟩
         refine JL.mv (.tuple #[mv_37 t40.1, .int .i64 t40.2]) ?_
         refine JL.pur (mv_37 t40.1) (some 59) ?_
         refine JL.pur (.int .i64 t40.2) (some 60) ?_
         refine JL.alloc (cl_37 zv_37) fun b42 => ?_
         refine JL.store 4 b42 0 37 (cl_37 zv_37) (cl_37 t40.1) tySize_37 ?_
         refine JL.as (.int .i64 t40.2) ?_
         refine JL.es [(5, .bool t13), (8, .int .i64 t38.1), (9, .int .i64 t38.2.1), (10, .int .i64 t38.2.2), (11, .pointer (some ⟨b42, 0, none⟩)), (12, .int .i64 t40.2)] ?_
         refine JQ.mask [At.box b42 37 (cl_37 t40.1)] [false, false, false, false, true] ?_
         refine J.seq ?_
         refine J.join (T := Bool) (G := Unit) (fun t => law18_AccumMeans.k3 t13 t38 t40 t = some r) (fun t g => [(5, .bool t13), (8, .int .i64 t38.1), (9, .int .i64 t38.2.1), (10, .int .i64 t38.2.2), (11, .pointer (some ⟨b42, 0, none⟩)), (12, .int .i64 t40.2), (66, .bool t)]) (fun t g => [At.box b42 37 (cl_37 t40.1)]) ?_ ?_
         · refine J.region ?_
           refine JL.mv (.int .i64 t38.2.2) ?_
           refine JL.pur (.bool (!decide (t38.2.2 = 0))) (some 62) ?_
           refine JL.mv (.bool (!decide (t38.2.2 = 0))) ?_
           rcases ite_cases H0 with ⟨h56, H0⟩ | ⟨h56, H0⟩
           · refine JL.off 2 63 false (some 64) h56 ?_
             refine JL.off 2 63 false (some 65) h56 ?_
             refine JL.val (.bool true) (some 66) (gives_pickT h56) ?_
             refine JL.en ?_
             exact JQ.meet true () H0 (fun _ h => Heap.to h)
           · refine JL.on 2 63 h56 ?_
             refine JL.mv (.int .i64 t38.2.1) ?_
             refine JL.on 2 63 h56 ?_
             refine JL.pur (.bool (decide (t38.2.1 = 0))) (some 65) ?_
             refine JL.val (.bool (decide (t38.2.1 = 0))) (some 66) (gives_pickF h56) ?_
             refine JL.en ?_
             exact JQ.meet (decide (t38.2.1 = 0)) () H0 (fun _ h => Heap.to h)
         · clear H0
           rintro x44 ⟨⟩ H0
           replace H0 : law18_AccumMeans.k3 t13 t38 t40 x44 = some r := H0
           unfold law18_AccumMeans.k3 at H0
           refine JQ.sub [(5, .bool t13), (8, .int .i64 t38.1), (9, .int .i64 t38.2.1), (10, .int .i64 t38.2.2), (11, .pointer (some ⟨b42, 0, none⟩)), (12, .int .i64 t40.2), (66, .bool x44)] ?_
           refine JQ.turn (Δ' := [At.box b42 37 (cl_37 t40.1)]) (fun _ h => h.to) ?_
           rcases ite_cases H0 with ⟨h45, H0⟩ | ⟨h45, H0⟩
           · refine J.cond_true h45 ?_
             refine J.sr ?_
             refine JL.mv (.bool t13) ?_
             refine JL.mv (.bool t13) ?_
             rcases ite_cases H0 with ⟨h46, H0⟩ | ⟨h46, H0⟩
             · refine JL.on 1 68 h46 ?_
               refine JL.mv (.int .i64 t38.2.2) ?_
               refine JL.on 1 68 h46 ?_
               refine JL.pur (.bool (!decide (t38.2.2 = 0))) (some 70) ?_
               refine JL.on 1 68 h46 ?_
               refine JL.mv (.bool (!decide (t38.2.2 = 0))) ?_
               rcases ite_cases H0 with ⟨h47, H0⟩ | ⟨h47, H0⟩
               · refine JL.on 4 71 h47 ?_
                 refine JL.mv (.int .i64 t40.2) ?_
                 refine JL.on 4 71 h47 ?_
                 refine JL.mv (.int .i64 t38.2.2) ?_
                 refine JL.on 4 71 h47 ?_
                 refine JL.pur (.bool (decide (t40.2 = t38.2.2))) (some 74) ?_
                 refine JL.on 1 68 h46 ?_
                 refine JL.val (.bool (decide (t40.2 = t38.2.2))) (some 75) (gives_pickT h47) ?_
                 refine JL.on 1 68 h46 ?_
                 refine JL.mv (.bool (decide (t40.2 = t38.2.2))) ?_
                 rcases ite_cases H0 with ⟨h48, H0⟩ | ⟨h48, H0⟩
                 · refine JL.off 9 76 false (some 77) h48 ?_
                   refine JL.off 9 76 false (some 78) h48 ?_
                   refine JL.off 9 76 false (some 79) h48 ?_
                   refine JL.off' 12 79 true (some 80) ?_
                   refine JL.off' 12 79 true (some 81) ?_
                   refine JL.off 9 76 false (some 82) h48 ?_
                   refine JL.on 1 68 h46 ?_
                   refine JL.val (.bool true) (some 83) (gives_pickT h48) ?_
                   refine JL.val (.bool true) (some 84) (gives_pickT h46) ?_
                   refine JL.as (.bool true) ?_
                   refine JL.es [(4, .bool true)] ?_
                   refine JQ.mask [] [false] ?_
                   refine J.ret ?_
                   refine JQ.then_ret ?_
                   obtain rfl := Option.some.inj H0
                   exact JQ.done' (rs := [.tmp 4]) (vs := [.bool true]) [] (.inr rfl) ⟨by kernel_rfl, trivial⟩ (fun _ h => Heap.to h) ⟨rfl, rfl⟩
                 · refine JL.on 9 76 h48 ?_
                   refine JL.mv (.int .i64 t38.2.2) ?_
                   refine JL.on 9 76 h48 ?_
                   refine JL.pur (.bool (decide (t38.2.2 = 0))) (some 78) ?_
                   refine JL.on 9 76 h48 ?_
                   refine JL.mv (.bool (decide (t38.2.2 = 0))) ?_
                   rcases ite_cases H0 with ⟨h49, H0⟩ | ⟨h49, H0⟩
                   · refine JL.on 12 79 h49 ?_
                     refine JL.mv (.int .i64 t40.2) ?_
                     refine JL.on 12 79 h49 ?_
                     refine JL.pur (.bool (decide (t40.2 = 18))) (some 81) ?_
                     refine JL.on 9 76 h48 ?_
                     refine JL.val (.bool (decide (t40.2 = 18))) (some 82) (gives_pickT h49) ?_
                     refine JL.on 1 68 h46 ?_
                     refine JL.val (.bool (decide (t40.2 = 18))) (some 83) (gives_pickF h48) ?_
                     refine JL.val (.bool (decide (t40.2 = 18))) (some 84) (gives_pickT h46) ?_
                     refine JL.as (.bool (decide (t40.2 = 18))) ?_
                     refine JL.es [(4, .bool (decide (t40.2 = 18)))] ?_
                     refine JQ.mask [] [false] ?_
                     refine J.ret ?_
                     refine JQ.then_ret ?_
                     obtain rfl := Option.some.inj H0
                     exact JQ.done' (rs := [.tmp 4]) (vs := [.bool (decide (t40.2 = 18))]) [] (.inr rfl) ⟨by kernel_rfl, trivial⟩ (fun _ h => Heap.to h) ⟨rfl, rfl⟩
                   · refine JL.off 12 79 true (some 80) h49 ?_
                     refine JL.off 12 79 true (some 81) h49 ?_
                     refine JL.on 9 76 h48 ?_
                     refine JL.val (.bool false) (some 82) (gives_pickF h49) ?_
                     refine JL.on 1 68 h46 ?_
                     refine JL.val (.bool false) (some 83) (gives_pickF h48) ?_
                     refine JL.val (.bool false) (some 84) (gives_pickT h46) ?_
                     refine JL.as (.bool false) ?_
                     refine JL.es [(4, .bool false)] ?_
                     refine JQ.mask [] [false] ?_
                     refine J.ret ?_
                     refine JQ.then_ret ?_
                     obtain rfl := Option.some.inj H0
                     exact JQ.done' (rs := [.tmp 4]) (vs := [.bool false]) [] (.inr rfl) ⟨by kernel_rfl, trivial⟩ (fun _ h => Heap.to h) ⟨rfl, rfl⟩
               · refine JL.off 4 71 true (some 72) h47 ?_
                 refine JL.off 4 71 true (some 73) h47 ?_
                 refine JL.off 4 71 true (some 74) h47 ?_
                 refine JL.on 1 68 h46 ?_
                 refine JL.val (.bool false) (some 75) (gives_pickF h47) ?_
                 refine JL.on 1 68 h46 ?_
                 refine JL.mv (.bool false) ?_
                 refine JL.on 9 76 (rfl : (false) = false) ?_
                 refine JL.mv (.int .i64 t38.2.2) ?_
                 refine JL.on 9 76 (rfl : (false) = false) ?_
                 refine JL.pur (.bool (decide (t38.2.2 = 0))) (some 78) ?_
                 refine JL.on 9 76 (rfl : (false) = false) ?_
                 refine JL.mv (.bool (decide (t38.2.2 = 0))) ?_
                 rcases ite_cases H0 with ⟨h50, H0⟩ | ⟨h50, H0⟩
                 · refine JL.on 12 79 h50 ?_
                   refine JL.mv (.int .i64 t40.2) ?_
                   refine JL.on 12 79 h50 ?_
                   refine JL.pur (.bool (decide (t40.2 = 18))) (some 81) ?_
                   refine JL.on 9 76 (rfl : (false) = false) ?_
                   refine JL.val (.bool (decide (t40.2 = 18))) (some 82) (gives_pickT h50) ?_
                   refine JL.on 1 68 h46 ?_
                   refine JL.val (.bool (decide (t40.2 = 18))) (some 83) (gives_pickF rfl) ?_
                   refine JL.val (.bool (decide (t40.2 = 18))) (some 84) (gives_pickT h46) ?_
                   refine JL.as (.bool (decide (t40.2 = 18))) ?_
                   refine JL.es [(4, .bool (decide (t40.2 = 18)))] ?_
                   refine JQ.mask [] [false] ?_
                   refine J.ret ?_
                   refine JQ.then_ret ?_
                   obtain rfl := Option.some.inj H0
                   exact JQ.done' (rs := [.tmp 4]) (vs := [.bool (decide (t40.2 = 18))]) [] (.inr rfl) ⟨by kernel_rfl, trivial⟩ (fun _ h => Heap.to h) ⟨rfl, rfl⟩
                 · refine JL.off 12 79 true (some 80) h50 ?_
                   refine JL.off 12 79 true (some 81) h50 ?_
                   refine JL.on 9 76 (rfl : (false) = false) ?_
                   refine JL.val (.bool false) (some 82) (gives_pickF h50) ?_
                   refine JL.on 1 68 h46 ?_
                   refine JL.val (.bool false) (some 83) (gives_pickF rfl) ?_
                   refine JL.val (.bool false) (some 84) (gives_pickT h46) ?_
                   refine JL.as (.bool false) ?_
                   refine JL.es [(4, .bool false)] ?_
                   refine JQ.mask [] [false] ?_
                   refine J.ret ?_
                   refine JQ.then_ret ?_
                   obtain rfl := Option.some.inj H0
                   exact JQ.done' (rs := [.tmp 4]) (vs := [.bool false]) [] (.inr rfl) ⟨by kernel_rfl, trivial⟩ (fun _ h => Heap.to h) ⟨rfl, rfl⟩
             · refine JL.off 1 68 true (some 69) h46 ?_
               refine JL.off 1 68 true (some 70) h46 ?_
               refine JL.off 1 68 true (some 71) h46 ?_
               refine JL.off' 4 71 true (some 72) ?_
               refine JL.off' 4 71 true (some 73) ?_
               refine JL.off' 4 71 true (some 74) ?_
               refine JL.off 1 68 true (some 75) h46 ?_
               refine JL.off 1 68 true (some 76) h46 ?_
               refine JL.off' 9 76 false (some 77) ?_
               refine JL.off' 9 76 false (some 78) ?_
               refine JL.off' 9 76 false (some 79) ?_
               refine JL.off' 12 79 true (some 80) ?_
               refine JL.off' 12 79 true (some 81) ?_
               refine JL.off' 9 76 false (some 82) ?_
               refine JL.off 1 68 true (some 83) h46 ?_
               refine JL.val (.bool false) (some 84) (gives_pickF h46) ?_
               refine JL.as (.bool false) ?_
               refine JL.es [(4, .bool false)] ?_
               refine JQ.mask [] [false] ?_
               refine J.ret ?_
               refine JQ.then_ret ?_
               obtain rfl := Option.some.inj H0
               exact JQ.done' (rs := [.tmp 4]) (vs := [.bool false]) [] (.inr rfl) ⟨by kernel_rfl, trivial⟩ (fun _ h => Heap.to h) ⟨rfl, rfl⟩
           · refine J.cond_false h45 ?_
             refine J.skip ?_
             refine JQ.ts [(5, .bool t13), (8, .int .i64 t38.1), (9, .int .i64 t38.2.1), (11, .pointer (some ⟨b42, 0, none⟩)), (12, .int .i64 t40.2)] ?_
             refine J.sr ?_
             refine JL.mv (.int .i64 t38.1) ?_
             refine JL.mv (.int .i64 t38.2.1) ?_
             obtain ⟨t51, hc52, H0⟩ := bind_some H0
             refine JL.call [] [] [] (ref01_Make.ok t38.1 t38.2.1 _ hc52) trivial ?_
             rintro _ _ ⟨rfl, rfl⟩
             refine JL.mv (.tuple #[mv_37 t51.1, .int .i64 t51.2]) ?_
             refine JL.pur (mv_37 t51.1) (some 89) ?_
             refine JL.pur (.int .i64 t51.2) (some 90) ?_
             refine JL.alloc (cl_37 zv_37) fun b53 => ?_
             refine JL.store 1 b53 0 37 (cl_37 zv_37) (cl_37 t51.1) tySize_37 ?_
             refine JL.as (.int .i64 t51.2) ?_
             refine JL.es [(5, .bool t13), (11, .pointer (some ⟨b42, 0, none⟩)), (12, .int .i64 t40.2), (13, .pointer (some ⟨b53, 0, none⟩)), (14, .int .i64 t51.2)] ?_
             refine J.sr ?_
             refine JL.mv (.bool t13) ?_
             refine JL.mv (.bool t13) ?_
             rcases ite_cases H0 with ⟨h54, H0⟩ | ⟨h54, H0⟩
             · refine JL.on 1 92 h54 ?_
               refine JL.mv (.int .i64 t40.2) ?_
               refine JL.on 1 92 h54 ?_
               refine JL.mv (.int .i64 t51.2) ?_
               refine JL.on 1 92 h54 ?_
               refine JL.pur (.bool (decide (t40.2 = t51.2))) (some 95) ?_
               refine JL.val (.bool (decide (t40.2 = t51.2))) (some 96) (gives_pickT h54) ?_
               refine JL.mv (.bool (decide (t40.2 = t51.2))) ?_
               rcases ite_cases H0 with ⟨h55, H0⟩ | ⟨h55, H0⟩
               · refine JL.on 6 97 h55 ?_
                 refine JL.val (mv_37 t40.1) (some 98) (yields_load_boxes 0 0 (cl_37 t40.1) (holds_box b42 37 (cl_37 t40.1)) tyAgg_37 tySize_37) ?_
                 refine JL.on 6 97 h55 ?_
                 refine JL.val (mv_37 t51.1) (some 99) (yields_load_boxes 1 0 (cl_37 t51.1) (holds_box b53 37 (cl_37 t51.1)) tyAgg_37 tySize_37) ?_
                 refine JL.on 6 97 h55 ?_
                 refine JL.val (.bool (decide (t40.1 = t51.1))) (some 100) (gives_eql eqg_37 (fun w => eqt_37 t40.1 t51.1 w)) ?_
                 refine JL.val (.bool (decide (t40.1 = t51.1))) (some 101) (gives_pickT h55) ?_
                 refine JL.as (.bool (decide (t40.1 = t51.1))) ?_
                 refine JL.es [(4, .bool (decide (t40.1 = t51.1)))] ?_
                 refine JQ.mask [] [false, false] ?_
                 refine J.ret ?_
                 obtain rfl := Option.some.inj H0
                 exact JQ.done' (rs := [.tmp 4]) (vs := [.bool (decide (t40.1 = t51.1))]) [] (.inr rfl) ⟨by kernel_rfl, trivial⟩ (fun _ h => Heap.to h) ⟨rfl, rfl⟩
               · refine JL.off 6 97 true (some 98) h55 ?_
                 refine JL.off 6 97 true (some 99) h55 ?_
                 refine JL.off 6 97 true (some 100) h55 ?_
                 refine JL.val (.bool false) (some 101) (gives_pickF h55) ?_
                 refine JL.as (.bool false) ?_
                 refine JL.es [(4, .bool false)] ?_
                 refine JQ.mask [] [false, false] ?_
                 refine J.ret ?_
                 obtain rfl := Option.some.inj H0
                 exact JQ.done' (rs := [.tmp 4]) (vs := [.bool false]) [] (.inr rfl) ⟨by kernel_rfl, trivial⟩ (fun _ h => Heap.to h) ⟨rfl, rfl⟩
             · refine JL.off 1 92 true (some 93) h54 ?_
               refine JL.off 1 92 true (some 94) h54 ?_
               refine JL.off 1 92 true (some 95) h54 ?_
               refine JL.val (.bool false) (some 96) (gives_pickF h54) ?_
               refine JL.mv (.bool false) ?_
               refine JL.off 6 97 true (some 98) rfl ?_
               refine JL.off 6 97 true (some 99) rfl ?_
               refine JL.off 6 97 true (some 100) rfl ?_
               refine JL.val (.bool false) (some 101) (gives_pickF rfl) ?_
               refine JL.as (.bool false) ?_
               refine JL.es [(4, .bool false)] ?_
               refine JQ.mask [] [false, false] ?_
               refine J.ret ?_
               obtain rfl := Option.some.inj H0
               exact JQ.done' (rs := [.tmp 4]) (vs := [.bool false]) [] (.inr rfl) ⟨by kernel_rfl, trivial⟩ (fun _ h => Heap.to h) ⟨rfl, rfl⟩


end Go.Proofs.Ytiepcikippcfaaa.M
