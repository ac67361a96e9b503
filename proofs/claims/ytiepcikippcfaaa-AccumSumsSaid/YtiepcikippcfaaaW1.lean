import Derived.Test.YtiepcikippcfaaaW0
set_option linter.unusedVariables false
set_option linter.unusedSimpArgs false
set_option maxRecDepth 100000
set_option maxHeartbeats 8000000
namespace Go.Proofs.Ytiepcikippcfaaa.M
open Go.GW Go.Proofs

theorem law18_alive.ok  (r : Bool) (H0 : law18_alive.f = some r) :
    Does Try.prog 21 [].toArray [] [] false (fun v Δ => v = .bool r ∧ Δ = []) := by
 refine Does.body (vs := []) Try.func21 rfl trivial trivial fun w S => ?_
 unfold law18_alive.f at H0
 refine J.sr ?_
 refine JL.as (.bool false) ?_
 refine JL.es [] ?_
 refine J.sr ?_
 obtain ⟨t1, hc2, H0⟩ := bind_some H0
 refine JL.call [] [] [] (accum_New.ok 0 _ hc2) trivial ?_
 rintro _ _ ⟨Aa3, c4, Aa6, c7, Aa9, c10, rfl, rfl⟩
 refine JL.mv (.tuple #[.agg #[.slice Aa3 t1.1.Sums.length c4, .slice Aa6 t1.1.Ns.length c7, .slice Aa9 t1.1.Spans.length c10], .int .i64 t1.2]) ?_
 refine JL.pur (.agg #[.slice Aa3 t1.1.Sums.length c4, .slice Aa6 t1.1.Ns.length c7, .slice Aa9 t1.1.Spans.length c10]) (some 21) ?_
 refine JL.pur (.int .i64 t1.2) (some 22) ?_
 refine JL.alloc [.slice none 0 0, .slice none 0 0, .slice none 0 0] fun b12 => ?_
 refine JL.store 3 b12 0 25 [.slice none 0 0, .slice none 0 0, .slice none 0 0] [.slice Aa3 t1.1.Sums.length c4, .slice Aa6 t1.1.Ns.length c7, .slice Aa9 t1.1.Spans.length c10] tySize_25 ?_
 refine JL.as (.int .i64 t1.2) ?_
 refine JL.es [(1, .pointer (some ⟨b12, 0, none⟩)), (2, .int .i64 t1.2)] ?_
 refine J.sr ?_
 refine JL.val (.agg #[.slice Aa3 t1.1.Sums.length c4, .slice Aa6 t1.1.Ns.length c7, .slice Aa9 t1.1.Spans.length c10]) (some 24) (yields_load_boxes 3 0 [.slice Aa3 t1.1.Sums.length c4, .slice Aa6 t1.1.Ns.length c7, .slice Aa9 t1.1.Spans.length c10] (holds_box b12 25 [.slice Aa3 t1.1.Sums.length c4, .slice Aa6 t1.1.Ns.length c7, .slice Aa9 t1.1.Spans.length c10]) tyAgg_25 tySize_25) ?_
 refine JL.pur (.agg #[.int .i64 5, .int .i64 3]) (some 25) ?_
 refine JL.buildSl 56 fl_Lag.kd (([(⟨5, 3⟩ : Lag)] : List Lag) : List Lag) [.int .i64 5, .int .i64 3] false (closes_fl rfl) fun b13 => ?_
 obtain ⟨t14, hc15, H0⟩ := bind_some H0
 refine JL.call [] [] [] (accum_Add.ok t1.1 Aa3 c4 Aa6 c7 Aa9 c10 ([(⟨5, 3⟩ : Lag)] : List Lag) (some ⟨b13, 0, none⟩) 1 0 3 _ hc15) ⟨pre_view 0 (view_row Aa3 c4 49 fl_Count.kd t1.1.Sums false true), ⟨pre_view 1 (view_row Aa6 c7 49 fl_Count.kd t1.1.Ns false true), ⟨pre_view 2 (view_row Aa9 c10 51 fl_Gap.kd t1.1.Spans false true), ⟨pre_view 4 (view_row (some ⟨b13, 0, none⟩) 1 56 fl_Lag.kd ([(⟨5, 3⟩ : Lag)] : List Lag) false true), trivial⟩⟩⟩⟩ ?_
 rintro _ _ ⟨Aa16, c17, Aa19, c20, Aa22, c23, rfl, rfl⟩
 refine JL.mv (.tuple #[.agg #[.slice Aa16 t14.1.Sums.length c17, .slice Aa19 t14.1.Ns.length c20, .slice Aa22 t14.1.Spans.length c23], .int .i64 t14.2]) ?_
 refine JL.pur (.agg #[.slice Aa16 t14.1.Sums.length c17, .slice Aa19 t14.1.Ns.length c20, .slice Aa22 t14.1.Spans.length c23]) (some 28) ?_
 refine JL.pur (.int .i64 t14.2) (some 29) ?_
 refine JL.alloc [.slice none 0 0, .slice none 0 0, .slice none 0 0] fun b25 => ?_
 refine JL.store 8 b25 0 25 [.slice none 0 0, .slice none 0 0, .slice none 0 0] [.slice Aa16 t14.1.Sums.length c17, .slice Aa19 t14.1.Ns.length c20, .slice Aa22 t14.1.Spans.length c23] tySize_25 ?_
 refine JL.as (.int .i64 t14.2) ?_
 refine JL.es [(1, .pointer (some ⟨b12, 0, none⟩)), (2, .int .i64 t1.2), (3, .pointer (some ⟨b25, 0, none⟩)), (4, .int .i64 t14.2)] ?_
 refine JQ.mask [At.row Aa3 c4 49 fl_Count.kd t1.1.Sums false, At.row Aa6 c7 49 fl_Count.kd t1.1.Ns false, At.row Aa9 c10 51 fl_Gap.kd t1.1.Spans false, At.box b12 25 [.slice Aa3 t1.1.Sums.length c4, .slice Aa6 t1.1.Ns.length c7, .slice Aa9 t1.1.Spans.length c10], At.row Aa16 c17 49 fl_Count.kd t14.1.Sums false, At.row Aa19 c20 49 fl_Count.kd t14.1.Ns false, At.row Aa22 c23 51 fl_Gap.kd t14.1.Spans false, At.box b25 25 [.slice Aa16 t14.1.Sums.length c17, .slice Aa19 t14.1.Ns.length c20, .slice Aa22 t14.1.Spans.length c23]] [true, true, true, true, false, true, true, true, true] ?_
 refine J.sr ?_
 refine JL.val (.agg #[.slice Aa16 t14.1.Sums.length c17, .slice Aa19 t14.1.Ns.length c20, .slice Aa22 t14.1.Spans.length c23]) (some 31) (yields_load_boxes 7 0 [.slice Aa16 t14.1.Sums.length c17, .slice Aa19 t14.1.Ns.length c20, .slice Aa22 t14.1.Spans.length c23] (holds_box b25 25 [.slice Aa16 t14.1.Sums.length c17, .slice Aa19 t14.1.Ns.length c20, .slice Aa22 t14.1.Spans.length c23]) tyAgg_25 tySize_25) ?_
 refine JL.pur (.agg #[.int .i64 7, .int .i64 5]) (some 32) ?_
 refine JL.buildSl 56 fl_Lag.kd (([(⟨7, 5⟩ : Lag)] : List Lag) : List Lag) [.int .i64 7, .int .i64 5] false (closes_fl rfl) fun b26 => ?_
 obtain ⟨t27, hc28, H0⟩ := bind_some H0
 refine JL.call [] [] [] (accum_Add.ok t14.1 Aa16 c17 Aa19 c20 Aa22 c23 ([(⟨7, 5⟩ : Lag)] : List Lag) (some ⟨b26, 0, none⟩) 1 3 5 _ hc28) ⟨pre_view 4 (view_row Aa16 c17 49 fl_Count.kd t14.1.Sums false true), ⟨pre_view 5 (view_row Aa19 c20 49 fl_Count.kd t14.1.Ns false true), ⟨pre_view 6 (view_row Aa22 c23 51 fl_Gap.kd t14.1.Spans false true), ⟨pre_view 8 (view_row (some ⟨b26, 0, none⟩) 1 56 fl_Lag.kd ([(⟨7, 5⟩ : Lag)] : List Lag) false true), trivial⟩⟩⟩⟩ ?_
 rintro _ _ ⟨Aa29, c30, Aa32, c33, Aa35, c36, rfl, rfl⟩
 refine JL.mv (.tuple #[.agg #[.slice Aa29 t27.1.Sums.length c30, .slice Aa32 t27.1.Ns.length c33, .slice Aa35 t27.1.Spans.length c36], .int .i64 t27.2]) ?_
 refine JL.pur (.agg #[.slice Aa29 t27.1.Sums.length c30, .slice Aa32 t27.1.Ns.length c33, .slice Aa35 t27.1.Spans.length c36]) (some 35) ?_
 refine JL.pur (.int .i64 t27.2) (some 36) ?_
 refine JL.alloc [.slice none 0 0, .slice none 0 0, .slice none 0 0] fun b38 => ?_
 refine JL.store 12 b38 0 25 [.slice none 0 0, .slice none 0 0, .slice none 0 0] [.slice Aa29 t27.1.Sums.length c30, .slice Aa32 t27.1.Ns.length c33, .slice Aa35 t27.1.Spans.length c36] tySize_25 ?_
 refine JL.as (.int .i64 t27.2) ?_
 refine JL.es [(1, .pointer (some ⟨b12, 0, none⟩)), (2, .int .i64 t1.2), (4, .int .i64 t14.2), (5, .pointer (some ⟨b38, 0, none⟩)), (6, .int .i64 t27.2)] ?_
 refine JQ.mask [At.row Aa3 c4 49 fl_Count.kd t1.1.Sums false, At.row Aa6 c7 49 fl_Count.kd t1.1.Ns false, At.row Aa9 c10 51 fl_Gap.kd t1.1.Spans false, At.box b12 25 [.slice Aa3 t1.1.Sums.length c4, .slice Aa6 t1.1.Ns.length c7, .slice Aa9 t1.1.Spans.length c10], At.row Aa29 c30 49 fl_Count.kd t27.1.Sums false, At.row Aa32 c33 49 fl_Count.kd t27.1.Ns false, At.row Aa35 c36 51 fl_Gap.kd t27.1.Spans false, At.box b38 25 [.slice Aa29 t27.1.Sums.length c30, .slice Aa32 t27.1.Ns.length c33, .slice Aa35 t27.1.Spans.length c36]] [true, true, true, true, false, false, false, false, false, true, true, true, true] ?_
 refine J.sr ?_
 refine JL.val (.agg #[.slice Aa29 t27.1.Sums.length c30, .slice Aa32 t27.1.Ns.length c33, .slice Aa35 t27.1.Spans.length c36]) (some 38) (yields_load_boxes 7 0 [.slice Aa29 t27.1.Sums.length c30, .slice Aa32 t27.1.Ns.length c33, .slice Aa35 t27.1.Spans.length c36] (holds_box b38 25 [.slice Aa29 t27.1.Sums.length c30, .slice Aa32 t27.1.Ns.length c33, .slice Aa35 t27.1.Spans.length c36]) tyAgg_25 tySize_25) ?_
 obtain ⟨t39, hc40, H0⟩ := bind_some H0
 refine JL.call [] [] [] (accum_Value.ok t27.1 Aa29 c30 Aa32 c33 Aa35 c36 0 _ hc40) ⟨pre_view 4 (view_row Aa29 c30 49 fl_Count.kd t27.1.Sums false true), ⟨pre_view 5 (view_row Aa32 c33 49 fl_Count.kd t27.1.Ns false true), ⟨pre_view 6 (view_row Aa35 c36 51 fl_Gap.kd t27.1.Spans false true), trivial⟩⟩⟩ ?_
 rintro _ _ ⟨rfl, rfl⟩
 refine JL.mv (.tuple #[.int .i64 t39.1, .int .i64 t39.2.1, .int .i64 t39.2.2]) ?_
 refine JL.pur (.int .i64 t39.1) (some 40) ?_
 refine JL.pur (.int .i64 t39.2.1) (some 41) ?_
 refine JL.pur (.int .i64 t39.2.2) (some 42) ?_
 refine JL.as (.int .i64 t39.1) ?_
 refine JL.as (.int .i64 t39.2.1) ?_
 refine JL.as (.int .i64 t39.2.2) ?_
 refine JL.es [(1, .pointer (some ⟨b12, 0, none⟩)), (2, .int .i64 t1.2), (4, .int .i64 t14.2), (5, .pointer (some ⟨b38, 0, none⟩)), (6, .int .i64 t27.2), (7, .int .i64 t39.1), (8, .int .i64 t39.2.1), (9, .int .i64 t39.2.2)] ?_
 refine J.sr ?_
 refine JL.val (.agg #[.slice Aa29 t27.1.Sums.length c30, .slice Aa32 t27.1.Ns.length c33, .slice Aa35 t27.1.Spans.length c36]) (some 44) (yields_load_boxes 7 0 [.slice Aa29 t27.1.Sums.length c30, .slice Aa32 t27.1.Ns.length c33, .slice Aa35 t27.1.Spans.length c36] (holds_box b38 25 [.slice Aa29 t27.1.Sums.length c30, .slice Aa32 t27.1.Ns.length c33, .slice Aa35 t27.1.Spans.length c36]) tyAgg_25 tySize_25) ?_
 obtain ⟨t41, hc42, H0⟩ := bind_some H0
 refine JL.call [] [] [] (accum_Mean.ok t27.1 Aa29 c30 Aa32 c33 Aa35 c36 0 _ hc42) ⟨pre_view 4 (view_row Aa29 c30 49 fl_Count.kd t27.1.Sums false true), ⟨pre_view 5 (view_row Aa32 c33 49 fl_Count.kd t27.1.Ns false true), ⟨pre_view 6 (view_row Aa35 c36 51 fl_Gap.kd t27.1.Spans false true), trivial⟩⟩⟩ ?_
 rintro _ _ ⟨rfl, rfl⟩
 refine JL.mv (.tuple #[mv_37 t41.1, .int .i64 t41.2]) ?_
 refine JL.pur (mv_37 t41.1) (some 46) ?_
 refine JL.pur (.int .i64 t41.2) (some 47) ?_
 refine JL.alloc (cl_37 zv_37) fun b43 => ?_
 refine JL.store 8 b43 0 37 (cl_37 zv_37) (cl_37 t41.1) tySize_37 ?_
 refine JL.as (.int .i64 t41.2) ?_
 refine JL.es [(1, .pointer (some ⟨b12, 0, none⟩)), (2, .int .i64 t1.2), (4, .int .i64 t14.2), (5, .pointer (some ⟨b38, 0, none⟩)), (6, .int .i64 t27.2), (7, .int .i64 t39.1), (8, .int .i64 t39.2.1), (9, .int .i64 t39.2.2), (10, .pointer (some ⟨b43, 0, none⟩)), (11, .int .i64 t41.2)] ?_
 refine J.sr ?_
 refine JL.val (.agg #[.slice Aa29 t27.1.Sums.length c30, .slice Aa32 t27.1.Ns.length c33, .slice Aa35 t27.1.Spans.length c36]) (some 49) (yields_load_boxes 7 0 [.slice Aa29 t27.1.Sums.length c30, .slice Aa32 t27.1.Ns.length c33, .slice Aa35 t27.1.Spans.length c36] (holds_box b38 25 [.slice Aa29 t27.1.Sums.length c30, .slice Aa32 t27.1.Ns.length c33, .slice Aa35 t27.1.Spans.length c36]) tyAgg_25 tySize_25) ?_
 obtain ⟨t44, hc45, H0⟩ := bind_some H0
 refine JL.call [] [] [] (accum_Times.ok t27.1 Aa29 c30 Aa32 c33 Aa35 c36 _ hc45) ⟨pre_view 4 (view_row Aa29 c30 49 fl_Count.kd t27.1.Sums false true), ⟨pre_view 5 (view_row Aa32 c33 49 fl_Count.kd t27.1.Ns false true), ⟨pre_view 6 (view_row Aa35 c36 51 fl_Gap.kd t27.1.Spans false true), trivial⟩⟩⟩ ?_
 rintro _ _ ⟨rfl, rfl⟩
 refine JL.mv (.tuple #[.int .i64 t44.1, .int .i64 t44.2]) ?_
 refine JL.pur (.int .i64 t44.1) (some 51) ?_
 refine JL.pur (.int .i64 t44.2) (some 52) ?_
 refine JL.as (.int .i64 t44.1) ?_
 refine JL.as (.int .i64 t44.2) ?_
 refine JL.es [(1, .pointer (some ⟨b12, 0, none⟩)), (2, .int .i64 t1.2), (4, .int .i64 t14.2), (5, .pointer (some ⟨b38, 0, none⟩)), (6, .int .i64 t27.2), (7, .int .i64 t39.1), (8, .int .i64 t39.2.1), (9, .int .i64 t39.2.2), (10, .pointer (some ⟨b43, 0, none⟩)), (11, .int .i64 t41.2), (12, .int .i64 t44.1), (13, .int .i64 t44.2)] ?_
 refine J.sr ?_
 refine JL.val (.agg #[.slice Aa29 t27.1.Sums.length c30, .slice Aa32 t27.1.Ns.length c33, .slice Aa35 t27.1.Spans.length c36]) (some 54) (yields_load_boxes 7 0 [.slice Aa29 t27.1.Sums.length c30, .slice Aa32 t27.1.Ns.length c33, .slice Aa35 t27.1.Spans.length c36] (holds_box b38 25 [.slice Aa29 t27.1.Sums.length c30, .slice Aa32 t27.1.Ns.length c33, .slice Aa35 t27.1.Spans.length c36]) tyAgg_25 tySize_25) ?_
 refine JL.pur (.agg #[.int .i64 1, .int .i64 1]) (some 55) ?_
 refine JL.buildSl 56 fl_Lag.kd (([(⟨1, 1⟩ : Lag)] : List Lag) : List Lag) [.int .i64 1, .int .i64 1] false (closes_fl rfl) fun b46 => ?_
 obtain ⟨t47, hc48, H0⟩ := bind_some H0
 refine JL.call [] [] [] (accum_Add.ok t27.1 Aa29 c30 Aa32 c33 Aa35 c36 ([(⟨1, 1⟩ : Lag)] : List Lag) (some ⟨b46, 0, none⟩) 1 7 1 _ hc48) ⟨pre_view 4 (view_row Aa29 c30 49 fl_Count.kd t27.1.Sums false true), ⟨pre_view 5 (view_row Aa32 c33 49 fl_Count.kd t27.1.Ns false true), ⟨pre_view 6 (view_row Aa35 c36 51 fl_Gap.kd t27.1.Spans false true), ⟨pre_view 9 (view_row (some ⟨b46, 0, none⟩) 1 56 fl_Lag.kd ([(⟨1, 1⟩ : Lag)] : List Lag) false true), trivial⟩⟩⟩⟩ ?_
 rintro _ _ ⟨Aa49, c50, Aa52, c53, Aa55, c56, rfl, rfl⟩
 refine JL.mv (.tuple #[.agg #[.slice Aa49 t47.1.Sums.length c50, .slice Aa52 t47.1.Ns.length c53, .slice Aa55 t47.1.Spans.length c56], .int .i64 t47.2]) ?_
 refine JL.pur (.agg #[.slice Aa49 t47.1.Sums.length c50, .slice Aa52 t47.1.Ns.length c53, .slice Aa55 t47.1.Spans.length c56]) (some 58) ?_
 refine JL.pur (.int .i64 t47.2) (some 59) ?_
 refine JL.alloc [.slice none 0 0, .slice none 0 0, .slice none 0 0] fun b58 => ?_
 refine JL.store 13 b58 0 25 [.slice none 0 0, .slice none 0 0, .slice none 0 0] [.slice Aa49 t47.1.Sums.length c50, .slice Aa52 t47.1.Ns.length c53, .slice Aa55 t47.1.Spans.length c56] tySize_25 ?_
 refine JL.as (.int .i64 t47.2) ?_
 refine JL.es [(1, .pointer (some ⟨b12, 0, none⟩)), (2, .int .i64 t1.2), (4, .int .i64 t14.2), (5, .pointer (some ⟨b38, 0, none⟩)), (6, .int .i64 t27.2), (7, .int .i64 t39.1), (8, .int .i64 t39.2.1), (9, .int .i64 t39.2.2), (10, .pointer (some ⟨b43, 0, none⟩)), (11, .int .i64 t41.2), (12, .int .i64 t44.1), (13, .int .i64 t44.2), (15, .int .i64 t47.2)] ?_
 refine JQ.mask [At.row Aa3 c4 49 fl_Count.kd t1.1.Sums false, At.row Aa6 c7 49 fl_Count.kd t1.1.Ns false, At.row Aa9 c10 51 fl_Gap.kd t1.1.Spans false, At.box b12 25 [.slice Aa3 t1.1.Sums.length c4, .slice Aa6 t1.1.Ns.length c7, .slice Aa9 t1.1.Spans.length c10], At.row Aa29 c30 49 fl_Count.kd t27.1.Sums false, At.row Aa32 c33 49 fl_Count.kd t27.1.Ns false, At.row Aa35 c36 51 fl_Gap.kd t27.1.Spans false, At.box b38 25 [.slice Aa29 t27.1.Sums.length c30, .slice Aa32 t27.1.Ns.length c33, .slice Aa35 t27.1.Spans.length c36], At.box b43 37 (cl_37 t41.1)] [true, true, true, true, true, true, true, true, true, false, false, false, false, false] ?_
 refine J.sr ?_
 refine JL.val (.agg #[.slice Aa3 t1.1.Sums.length c4, .slice Aa6 t1.1.Ns.length c7, .slice Aa9 t1.1.Spans.length c10]) (some 61) (yields_load_boxes 3 0 [.slice Aa3 t1.1.Sums.length c4, .slice Aa6 t1.1.Ns.length c7, .slice Aa9 t1.1.Spans.length c10] (holds_box b12 25 [.slice Aa3 t1.1.Sums.length c4, .slice Aa6 t1.1.Ns.length c7, .slice Aa9 t1.1.Spans.length c10]) tyAgg_25 tySize_25) ?_
 refine JL.pur (.agg #[.int .i64 (-1), .int .i64 1]) (some 62) ?_
 refine JL.buildSl 56 fl_Lag.kd (([(⟨(-1), 1⟩ : Lag)] : List Lag) : List Lag) [.int .i64 (-1), .int .i64 1] false (closes_fl rfl) fun b59 => ?_
 obtain ⟨t60, hc61, H0⟩ := bind_some H0
 refine JL.call [] [] [] (accum_Add.ok t1.1 Aa3 c4 Aa6 c7 Aa9 c10 ([(⟨(-1), 1⟩ : Lag)] : List Lag) (some ⟨b59, 0, none⟩) 1 0 1 _ hc61) ⟨pre_view 0 (view_row Aa3 c4 49 fl_Count.kd t1.1.Sums false true), ⟨pre_view 1 (view_row Aa6 c7 49 fl_Count.kd t1.1.Ns false true), ⟨pre_view 2 (view_row Aa9 c10 51 fl_Gap.kd t1.1.Spans false true), ⟨pre_view 9 (view_row (some ⟨b59, 0, none⟩) 1 56 fl_Lag.kd ([(⟨(-1), 1⟩ : Lag)] : List Lag) false true), trivial⟩⟩⟩⟩ ?_
 rintro _ _ ⟨Aa62, c63, Aa65, c66, Aa68, c69, rfl, rfl⟩
 refine JL.mv (.tuple #[.agg #[.slice Aa62 t60.1.Sums.length c63, .slice Aa65 t60.1.Ns.length c66, .slice Aa68 t60.1.Spans.length c69], .int .i64 t60.2]) ?_
 refine JL.pur (.agg #[.slice Aa62 t60.1.Sums.length c63, .slice Aa65 t60.1.Ns.length c66, .slice Aa68 t60.1.Spans.length c69]) (some 65) ?_
 refine JL.pur (.int .i64 t60.2) (some 66) ?_
 refine JL.alloc [.slice none 0 0, .slice none 0 0, .slice none 0 0] fun b71 => ?_
 refine JL.store 13 b71 0 25 [.slice none 0 0, .slice none 0 0, .slice none 0 0] [.slice Aa62 t60.1.Sums.length c63, .slice Aa65 t60.1.Ns.length c66, .slice Aa68 t60.1.Spans.length c69] tySize_25 ?_
 refine JL.as (.int .i64 t60.2) ?_
 refine JL.es [(2, .int .i64 t1.2), (4, .int .i64 t14.2), (5, .pointer (some ⟨b38, 0, none⟩)), (6, .int .i64 t27.2), (7, .int .i64 t39.1), (8, .int .i64 t39.2.1), (9, .int .i64 t39.2.2), (10, .pointer (some ⟨b43, 0, none⟩)), (11, .int .i64 t41.2), (12, .int .i64 t44.1), (13, .int .i64 t44.2), (15, .int .i64 t47.2), (16, .pointer (some ⟨b71, 0, none⟩)), (17, .int .i64 t60.2)] ?_
 refine JQ.mask [At.row Aa29 c30 49 fl_Count.kd t27.1.Sums false, At.row Aa32 c33 49 fl_Count.kd t27.1.Ns false, At.row Aa35 c36 51 fl_Gap.kd t27.1.Spans false, At.box b38 25 [.slice Aa29 t27.1.Sums.length c30, .slice Aa32 t27.1.Ns.length c33, .slice Aa35 t27.1.Spans.length c36], At.box b43 37 (cl_37 t41.1), At.row Aa62 c63 49 fl_Count.kd t60.1.Sums false, At.row Aa65 c66 49 fl_Count.kd t60.1.Ns false, At.row Aa68 c69 51 fl_Gap.kd t60.1.Spans false, At.box b71 25 [.slice Aa62 t60.1.Sums.length c63, .slice Aa65 t60.1.Ns.length c66, .slice Aa68 t60.1.Spans.length c69]] [false, false, false, false, true, true, true, true, true, false, true, true, true, true] ?_
 refine J.join (T := Bool) (G := Unit) (fun t => law18_alive.k1 t27 t39 t41 t44 t60 t = some r) (fun t g => [(5, .pointer (some ⟨b38, 0, none⟩)), (7, .int .i64 t39.1), (8, .int .i64 t39.2.1), (10, .pointer (some ⟨b43, 0, none⟩)), (12, .int .i64 t44.1), (16, .pointer (some ⟨b71, 0, none⟩)), (18, .bool t)]) (fun t g => [At.box b38 25 [.slice Aa29 t27.1.Sums.length c30, .slice Aa32 t27.1.Ns.length c33, .slice Aa35 t27.1.Spans.length c36], At.row Aa29 c30 49 fl_Count.kd t27.1.Sums false, At.row Aa32 c33 49 fl_Count.kd t27.1.Ns false, At.row Aa35 c36 51 fl_Gap.kd t27.1.Spans false, At.box b43 37 (cl_37 t41.1), At.box b71 25 [.slice Aa62 t60.1.Sums.length c63, .slice Aa65 t60.1.Ns.length c66, .slice Aa68 t60.1.Spans.length c69], At.row Aa62 c63 49 fl_Count.kd t60.1.Sums false, At.row Aa65 c66 49 fl_Count.kd t60.1.Ns false, At.row Aa68 c69 51 fl_Gap.kd t60.1.Spans false]) ?_ ?_
 · refine J.region ?_
   refine JL.mv (.int .i64 t1.2) ?_
   refine JL.pur (.bool (decide (t1.2 = 0))) (some 68) ?_
   refine JL.mv (.bool (decide (t1.2 = 0))) ?_
   rcases ite_cases H0 with ⟨h96, H0⟩ | ⟨h96, H0⟩
   · refine JL.on 2 69 h96 ?_
     refine JL.mv (.int .i64 t14.2) ?_
     refine JL.on 2 69 h96 ?_
     refine JL.pur (.bool (decide (t14.2 = 0))) (some 71) ?_
     refine JL.val (.bool (decide (t14.2 = 0))) (some 72) (gives_pickT h96) ?_
     refine JL.mv (.bool (decide (t14.2 = 0))) ?_
     rcases ite_cases H0 with ⟨h97, H0⟩ | ⟨h97, H0⟩
     · refine JL.on 6 73 h97 ?_
       refine JL.mv (.int .i64 t27.2) ?_
       refine JL.on 6 73 h97 ?_
       refine JL.pur (.bool (decide (t27.2 = 0))) (some 75) ?_
       refine JL.val (.bool (decide (t27.2 = 0))) (some 76) (gives_pickT h97) ?_
       refine JL.mv (.bool (decide (t27.2 = 0))) ?_
       rcases ite_cases H0 with ⟨h98, H0⟩ | ⟨h98, H0⟩
       · refine JL.on 10 77 h98 ?_
         refine JL.mv (.int .i64 t39.2.2) ?_
         refine JL.on 10 77 h98 ?_
         refine JL.pur (.bool (decide (t39.2.2 = 0))) (some 79) ?_
         refine JL.val (.bool (decide (t39.2.2 = 0))) (some 80) (gives_pickT h98) ?_
         refine JL.mv (.bool (decide (t39.2.2 = 0))) ?_
         rcases ite_cases H0 with ⟨h99, H0⟩ | ⟨h99, H0⟩
         · refine JL.on 14 81 h99 ?_
           refine JL.mv (.int .i64 t41.2) ?_
           refine JL.on 14 81 h99 ?_
           refine JL.pur (.bool (decide (t41.2 = 0))) (some 83) ?_
           refine JL.val (.bool (decide (t41.2 = 0))) (some 84) (gives_pickT h99) ?_
           refine JL.mv (.bool (decide (t41.2 = 0))) ?_
           rcases ite_cases H0 with ⟨h100, H0⟩ | ⟨h100, H0⟩
           · refine JL.on 18 85 h100 ?_
             refine JL.mv (.int .i64 t44.2) ?_
             refine JL.on 18 85 h100 ?_
             refine JL.pur (.bool (decide (t44.2 = 0))) (some 87) ?_
             refine JL.val (.bool (decide (t44.2 = 0))) (some 88) (gives_pickT h100) ?_
             refine JL.mv (.bool (decide (t44.2 = 0))) ?_
             rcases ite_cases H0 with ⟨h101, H0⟩ | ⟨h101, H0⟩
             · refine JL.on 22 89 h101 ?_
               refine JL.mv (.int .i64 t47.2) ?_
               refine JL.on 22 89 h101 ?_
               refine JL.pur (.bool (decide (t47.2 = 14))) (some 91) ?_
               refine JL.val (.bool (decide (t47.2 = 14))) (some 92) (gives_pickT h101) ?_
               refine JL.mv (.bool (decide (t47.2 = 14))) ?_
               rcases ite_cases H0 with ⟨h102, H0⟩ | ⟨h102, H0⟩
               · refine JL.on 26 93 h102 ?_
                 refine JL.mv (.int .i64 t60.2) ?_
                 refine JL.on 26 93 h102 ?_
                 refine JL.pur (.bool (decide (t60.2 = 0))) (some 95) ?_
                 refine JL.val (.bool (decide (t60.2 = 0))) (some 96) (gives_pickT h102) ?_
                 refine JL.as (.bool (decide (t60.2 = 0))) ?_
                 refine JL.en ?_
                 exact JQ.meet (decide (t60.2 = 0)) () H0 (fun _ h => Heap.to (Heap.pick [3, 0, 1, 2, 4, 8, 5, 6, 7] (by decide) h))
               · refine JL.off 26 93 true (some 94) h102 ?_
                 refine JL.off 26 93 true (some 95) h102 ?_
                 refine JL.val (.bool false) (some 96) (gives_pickF h102) ?_
                 refine JL.as (.bool false) ?_
                 refine JL.en ?_
                 exact JQ.meet false () H0 (fun _ h => Heap.to (Heap.pick [3, 0, 1, 2, 4, 8, 5, 6, 7] (by decide) h))
             · refine JL.off 22 89 true (some 90) h101 ?_
               refine JL.off 22 89 true (some 91) h101 ?_
               refine JL.val (.bool false) (some 92) (gives_pickF h101) ?_
               refine JL.mv (.bool false) ?_
               refine JL.off 26 93 true (some 94) rfl ?_
               refine JL.off 26 93 true (some 95) rfl ?_
               refine JL.val (.bool false) (some 96) (gives_pickF rfl) ?_
               refine JL.as (.bool false) ?_
               refine JL.en ?_
               exact JQ.meet false () H0 (fun _ h => Heap.to (Heap.pick [3, 0, 1, 2, 4, 8, 5, 6, 7] (by decide) h))
           · refine JL.off 18 85 true (some 86) h100 ?_
             refine JL.off 18 85 true (some 87) h100 ?_
             refine JL.val (.bool false) (some 88) (gives_pickF h100) ?_
             refine JL.mv (.bool false) ?_
             refine JL.off 22 89 true (some 90) rfl ?_
             refine JL.off 22 89 true (some 91) rfl ?_
             refine JL.val (.bool false) (some 92) (gives_pickF rfl) ?_
             refine JL.mv (.bool false) ?_
             refine JL.off 26 93 true (some 94) rfl ?_
             refine JL.off 26 93 true (some 95) rfl ?_
             refine JL.val (.bool false) (some 96) (gives_pickF rfl) ?_
             refine JL.as (.bool false) ?_
             refine JL.en ?_
             exact JQ.meet false () H0 (fun _ h => Heap.to (Heap.pick [3, 0, 1, 2, 4, 8, 5, 6, 7] (by decide) h))
         · refine JL.off 14 81 true (some 82) h99 ?_
           refine JL.off 14 81 true (some 83) h99 ?_
           refine JL.val (.bool false) (some 84) (gives_pickF h99) ?_
           refine JL.mv (.bool false) ?_
           refine JL.off 18 85 true (some 86) rfl ?_
           refine JL.off 18 85 true (some 87) rfl ?_
           refine JL.val (.bool false) (some 88) (gives_pickF rfl) ?_
           refine JL.mv (.bool false) ?_
           refine JL.off 22 89 true (some 90) rfl ?_
           refine JL.off 22 89 true (some 91) rfl ?_
           refine JL.val (.bool false) (some 92) (gives_pickF rfl) ?_
           refine JL.mv (.bool false) ?_
           refine JL.off 26 93 true (some 94) rfl ?_
           refine JL.off 26 93 true (some 95) rfl ?_
           refine JL.val (.bool false) (some 96) (gives_pickF rfl) ?_
           refine JL.as (.bool false) ?_
           refine JL.en ?_
           exact JQ.meet false () H0 (fun _ h => Heap.to (Heap.pick [3, 0, 1, 2, 4, 8, 5, 6, 7] (by decide) h))
       · refine JL.off 10 77 true (some 78) h98 ?_
         refine JL.off 10 77 true (some 79) h98 ?_
         refine JL.val (.bool false) (some 80) (gives_pickF h98) ?_
         refine JL.mv (.bool false) ?_
         refine JL.off 14 81 true (some 82) rfl ?_
         refine JL.off 14 81 true (some 83) rfl ?_
         refine JL.val (.bool false) (some 84) (gives_pickF rfl) ?_
         refine JL.mv (.bool false) ?_
         refine JL.off 18 85 true (some 86) rfl ?_
         refine JL.off 18 85 true (some 87) rfl ?_
         refine JL.val (.bool false) (some 88) (gives_pickF rfl) ?_
         refine JL.mv (.bool false) ?_
         refine JL.off 22 89 true (some 90) rfl ?_
         refine JL.off 22 89 true (some 91) rfl ?_
         refine JL.val (.bool false) (some 92) (gives_pickF rfl) ?_
         refine JL.mv (.bool false) ?_
         refine JL.off 26 93 true (some 94) rfl ?_
         refine JL.off 26 93 true (some 95) rfl ?_
         refine JL.val (.bool false) (some 96) (gives_pickF rfl) ?_
         refine JL.as (.bool false) ?_
         refine JL.en ?_
         exact JQ.meet false () H0 (fun _ h => Heap.to (Heap.pick [3, 0, 1, 2, 4, 8, 5, 6, 7] (by decide) h))
     · refine JL.off 6 73 true (some 74) h97 ?_
       refine JL.off 6 73 true (some 75) h97 ?_
       refine JL.val (.bool false) (some 76) (gives_pickF h97) ?_
       refine JL.mv (.bool false) ?_
       refine JL.off 10 77 true (some 78) rfl ?_
       refine JL.off 10 77 true (some 79) rfl ?_
       refine JL.val (.bool false) (some 80) (gives_pickF rfl) ?_
       refine JL.mv (.bool false) ?_
       refine JL.off 14 81 true (some 82) rfl ?_
       refine JL.off 14 81 true (some 83) rfl ?_
       refine JL.val (.bool false) (some 84) (gives_pickF rfl) ?_
       refine JL.mv (.bool false) ?_
       refine JL.off 18 85 true (some 86) rfl ?_
       refine JL.off 18 85 true (some 87) rfl ?_
       refine JL.val (.bool false) (some 88) (gives_pickF rfl) ?_
       refine JL.mv (.bool false) ?_
       refine JL.off 22 89 true (some 90) rfl ?_
       refine JL.off 22 89 true (some 91) rfl ?_
       refine JL.val (.bool false) (some 92) (gives_pickF rfl) ?_
       refine JL.mv (.bool false) ?_
       refine JL.off 26 93 true (some 94) rfl ?_
       refine JL.off 26 93 true (some 95) rfl ?_
       refine JL.val (.bool false) (some 96) (gives_pickF rfl) ?_
       refine JL.as (.bool false) ?_
       refine JL.en ?_
       exact JQ.meet false () H0 (fun _ h => Heap.to (Heap.pick [3, 0, 1, 2, 4, 8, 5, 6, 7] (by decide) h))
   · refine JL.off 2 69 true (some 70) h96 ?_
     refine JL.off 2 69 true (some 71) h96 ?_
     refine JL.val (.bool false) (some 72) (gives_pickF h96) ?_
     refine JL.mv (.bool false) ?_
     refine JL.off 6 73 true (some 74) rfl ?_
     refine JL.off 6 73 true (some 75) rfl ?_
     refine JL.val (.bool false) (some 76) (gives_pickF rfl) ?_
     refine JL.mv (.bool false) ?_
     refine JL.off 10 77 true (some 78) rfl ?_
     refine JL.off 10 77 true (some 79) rfl ?_
     refine JL.val (.bool false) (some 80) (gives_pickF rfl) ?_
     refine JL.mv (.bool false) ?_
     refine JL.off 14 81 true (some 82) rfl ?_
     refine JL.off 14 81 true (some 83) rfl ?_
     refine JL.val (.bool false) (some 84) (gives_pickF rfl) ?_
     refine JL.mv (.bool false) ?_
     refine JL.off 18 85 true (some 86) rfl ?_
     refine JL.off 18 85 true (some 87) rfl ?_
     refine JL.val (.bool false) (some 88) (gives_pickF rfl) ?_
     refine JL.mv (.bool false) ?_
     refine JL.off 22 89 true (some 90) rfl ?_
     refine JL.off 22 89 true (some 91) rfl ?_
     refine JL.val (.bool false) (some 92) (gives_pickF rfl) ?_
     refine JL.mv (.bool false) ?_
     refine JL.off 26 93 true (some 94) rfl ?_
     refine JL.off 26 93 true (some 95) rfl ?_
     refine JL.val (.bool false) (some 96) (gives_pickF rfl) ?_
     refine JL.as (.bool false) ?_
     refine JL.en ?_
     exact JQ.meet false () H0 (fun _ h => Heap.to (Heap.pick [3, 0, 1, 2, 4, 8, 5, 6, 7] (by decide) h))
 · clear H0
   rintro ok79 ⟨⟩ H0
   replace H0 : law18_alive.k1 t27 t39 t41 t44 t60 ok79 = some r := H0
   unfold law18_alive.k1 at H0
   refine JQ.sub [(5, .pointer (some ⟨b38, 0, none⟩)), (7, .int .i64 t39.1), (8, .int .i64 t39.2.1), (10, .pointer (some ⟨b43, 0, none⟩)), (12, .int .i64 t44.1), (16, .pointer (some ⟨b71, 0, none⟩)), (18, .bool ok79)] ?_
   refine JQ.turn (Δ' := [At.box b38 25 [.slice Aa29 t27.1.Sums.length c30, .slice Aa32 t27.1.Ns.length c33, .slice Aa35 t27.1.Spans.length c36], At.row Aa29 c30 49 fl_Count.kd t27.1.Sums false, At.row Aa32 c33 49 fl_Count.kd t27.1.Ns false, At.row Aa35 c36 51 fl_Gap.kd t27.1.Spans false, At.box b43 37 (cl_37 t41.1), At.box b71 25 [.slice Aa62 t60.1.Sums.length c63, .slice Aa65 t60.1.Ns.length c66, .slice Aa68 t60.1.Spans.length c69], At.row Aa62 c63 49 fl_Count.kd t60.1.Sums false, At.row Aa65 c66 49 fl_Count.kd t60.1.Ns false, At.row Aa68 c69 51 fl_Gap.kd t60.1.Spans false]) (fun _ h => h.to) ?_
   refine J.sr ?_
   refine JL.mv (.bool ok79) ?_
   refine JL.mv (.bool ok79) ?_
   rcases ite_cases H0 with ⟨h80, H0⟩ | ⟨h80, H0⟩
   · refine JL.on 1 98 h80 ?_
     refine JL.mv (.int .i64 t39.1) ?_
     refine JL.on 1 98 h80 ?_
     refine JL.pur (.bool (decide (t39.1 = 12))) (some 100) ?_
     refine JL.val (.bool (decide (t39.1 = 12))) (some 101) (gives_pickT h80) ?_
     refine JL.mv (.bool (decide (t39.1 = 12))) ?_
     rcases ite_cases H0 with ⟨h81, H0⟩ | ⟨h81, H0⟩
     · refine JL.on 5 102 h81 ?_
       refine JL.mv (.int .i64 t39.2.1) ?_
       refine JL.on 5 102 h81 ?_
       refine JL.pur (.bool (decide (t39.2.1 = 8))) (some 104) ?_
       refine JL.val (.bool (decide (t39.2.1 = 8))) (some 105) (gives_pickT h81) ?_
       refine JL.mv (.bool (decide (t39.2.1 = 8))) ?_
       rcases ite_cases H0 with ⟨h82, H0⟩ | ⟨h82, H0⟩
       · refine JL.on 9 106 h82 ?_
         refine JL.val (mv_37 t41.1) (some 107) (yields_load_boxes 4 0 (cl_37 t41.1) (holds_box b43 37 (cl_37 t41.1)) tyAgg_37 tySize_37) ?_
         refine JL.on 9 106 h82 ?_
         refine JL.pur (.agg #[.int .i64 3, .int .i64 2]) (some 108) ?_
         refine JL.on 9 106 h82 ?_
         refine JL.val (.bool (decide (t41.1 = (⟨3, 2⟩ : Frac)))) (some 109) (gives_eql eqg_37 (fun w => eqt_37 t41.1 (⟨3, 2⟩ : Frac) w)) ?_
         refine JL.val (.bool (decide (t41.1 = (⟨3, 2⟩ : Frac)))) (some 110) (gives_pickT h82) ?_
         refine JL.mv (.bool (decide (t41.1 = (⟨3, 2⟩ : Frac)))) ?_
         rcases ite_cases H0 with ⟨h83, H0⟩ | ⟨h83, H0⟩
         · refine JL.on 14 111 h83 ?_
           refine JL.mv (.int .i64 t44.1) ?_
           refine JL.on 14 111 h83 ?_
           refine JL.pur (.bool (decide (t44.1 = 8))) (some 113) ?_
           refine JL.val (.bool (decide (t44.1 = 8))) (some 114) (gives_pickT h83) ?_
           refine JL.mv (.bool (decide (t44.1 = 8))) ?_
           rcases ite_cases H0 with ⟨h84, H0⟩ | ⟨h84, H0⟩
           · refine JL.on 18 115 h84 ?_
             refine JL.pur (.pointer (some ⟨b38, 2, none⟩)) (some 116) ?_
             refine JL.on 18 115 h84 ?_
             refine JL.val (.slice Aa35 t27.1.Spans.length c36) (some 117) (yields_load_box 0 2 (holds_box b38 25 [.slice Aa29 t27.1.Sums.length c30, .slice Aa32 t27.1.Ns.length c33, .slice Aa35 t27.1.Spans.length c36]) tyAgg_23) ?_
             refine JL.on 18 115 h84 ?_
             refine JL.pur (.int .i64 (t27.1.Spans.length : Int)) (some 118) ?_
             refine JL.on 18 115 h84 ?_
             refine JL.pur (.bool (decide ((t27.1.Spans.length : Int) = 1))) (some 119) ?_
             refine JL.val (.bool (decide ((t27.1.Spans.length : Int) = 1))) (some 120) (gives_pickT h84) ?_
             refine JL.mv (.bool (decide ((t27.1.Spans.length : Int) = 1))) ?_
             rcases ite_cases H0 with ⟨h85, H0⟩ | ⟨h85, H0⟩
             · refine JL.on 24 121 h85 ?_
               refine JL.pur (.pointer (some ⟨b38, 2, none⟩)) (some 122) ?_
               refine JL.on 24 121 h85 ?_
               refine JL.val (.slice Aa35 t27.1.Spans.length c36) (some 123) (yields_load_box 0 2 (holds_box b38 25 [.slice Aa29 t27.1.Sums.length c30, .slice Aa32 t27.1.Ns.length c33, .slice Aa35 t27.1.Spans.length c36]) tyAgg_23) ?_
               refine JL.on 24 121 h85 ?_
               obtain ⟨⟨h86, h87⟩, H0⟩ := ite_must H0
               refine JL.ixAddr 3 2 c36 .i64 (elems_row Aa35 c36 51 fl_Gap.kd t27.1.Spans false) Try.underlying23 tySize_51 h86 h87 fun g88 o89 hA => ?_
               subst hA
               refine JL.on 24 121 h85 ?_
               refine JL.val (mv_51 (ix t27.1.Spans 0)) (some 125) (gives_loadEl (f := fl_Gap) 3 0 0 (elems_row (some ⟨g88, o89, none⟩) c36 51 fl_Gap.kd t27.1.Spans false) h86 h87 tySize_51 (.inl ⟨tyAgg_51, rfl⟩)) ?_
               refine JL.on 24 121 h85 ?_
               refine JL.pur (.agg #[.int .i64 0, .int .i64 8]) (some 126) ?_
               refine JL.on 24 121 h85 ?_
               refine JL.val (.bool (decide ((ix t27.1.Spans 0) = (⟨0, 8⟩ : Gap)))) (some 127) (gives_eql eqg_51 (fun w => eqt_51 (ix t27.1.Spans 0) (⟨0, 8⟩ : Gap) w)) ?_
               refine JL.val (.bool (decide ((ix t27.1.Spans 0) = (⟨0, 8⟩ : Gap)))) (some 128) (gives_pickT h85) ?_
               refine JL.mv (.bool (decide ((ix t27.1.Spans 0) = (⟨0, 8⟩ : Gap)))) ?_
               rcases ite_cases H0 with ⟨h90, H0⟩ | ⟨h90, H0⟩
               · refine JL.on 32 129 h90 ?_
                 refine JL.pur (.pointer (some ⟨b71, 0, none⟩)) (some 130) ?_
                 refine JL.on 32 129 h90 ?_
                 refine JL.val (.slice Aa62 t60.1.Sums.length c63) (some 131) (yields_load_box 5 0 (holds_box b71 25 [.slice Aa62 t60.1.Sums.length c63, .slice Aa65 t60.1.Ns.length c66, .slice Aa68 t60.1.Spans.length c69]) tyAgg_22) ?_
                 refine JL.on 32 129 h90 ?_
                 refine JL.pur (.int .i64 (t60.1.Sums.length : Int)) (some 132) ?_
                 refine JL.on 32 129 h90 ?_
                 refine JL.pur (.bool (decide ((t60.1.Sums.length : Int) = 1))) (some 133) ?_
                 refine JL.val (.bool (decide ((t60.1.Sums.length : Int) = 1))) (some 134) (gives_pickT h90) ?_
                 refine JL.mv (.bool (decide ((t60.1.Sums.length : Int) = 1))) ?_
                 rcases ite_cases H0 with ⟨h91, H0⟩ | ⟨h91, H0⟩
                 · refine JL.on 38 135 h91 ?_
                   refine JL.pur (.pointer (some ⟨b71, 0, none⟩)) (some 136) ?_
                   refine JL.on 38 135 h91 ?_
                   refine JL.val (.slice Aa62 t60.1.Sums.length c63) (some 137) (yields_load_box 5 0 (holds_box b71 25 [.slice Aa62 t60.1.Sums.length c63, .slice Aa65 t60.1.Ns.length c66, .slice Aa68 t60.1.Spans.length c69]) tyAgg_22) ?_
                   refine JL.on 38 135 h91 ?_
                   obtain ⟨⟨h92, h93⟩, H0⟩ := ite_must H0
                   refine JL.ixAddr 6 2 c63 .i64 (elems_row Aa62 c63 49 fl_Count.kd t60.1.Sums false) Try.underlying22 tySize_49 h92 h93 fun g94 o95 hA => ?_
                   subst hA
                   refine JL.on 38 135 h91 ?_
                   refine JL.val (mv_49 (ix t60.1.Sums 0)) (some 139) (gives_loadEl (f := fl_Count) 6 0 0 (elems_row (some ⟨g94, o95, none⟩) c63 49 fl_Count.kd t60.1.Sums false) h92 h93 tySize_49 (.inl ⟨tyAgg_49, rfl⟩)) ?_
                   refine JL.on 38 135 h91 ?_
                   refine JL.pur (.agg #[.int .i64 (-1), .int .i64 999999999]) (some 140) ?_
                   refine JL.on 38 135 h91 ?_
                   refine JL.val (.bool (decide ((ix t60.1.Sums 0) = (⟨(-1), 999999999⟩ : Count)))) (some 141) (gives_eql eqg_49 (fun w => eqt_49 (ix t60.1.Sums 0) (⟨(-1), 999999999⟩ : Count) w)) ?_
                   refine JL.val (.bool (decide ((ix t60.1.Sums 0) = (⟨(-1), 999999999⟩ : Count)))) (some 142) (gives_pickT h91) ?_
                   refine JL.as (.bool (decide ((ix t60.1.Sums 0) = (⟨(-1), 999999999⟩ : Count)))) ?_
                   refine JL.es [(0, .bool (decide ((ix t60.1.Sums 0) = (⟨(-1), 999999999⟩ : Count))))] ?_
                   refine JQ.mask [] [false, false, false, false, false, false, false, false, false] ?_
                   refine J.ret ?_
                   obtain rfl := Option.some.inj H0
                   exact JQ.done' (rs := [.tmp 0]) (vs := [.bool (decide ((ix t60.1.Sums 0) = (⟨(-1), 999999999⟩ : Count)))]) [] (.inr rfl) ⟨by kernel_rfl, trivial⟩ (fun _ h => Heap.to h) ⟨rfl, rfl⟩
                 · refine JL.off 38 135 true (some 136) h91 ?_
                   refine JL.off 38 135 true (some 137) h91 ?_
                   refine JL.off 38 135 true (some 138) h91 ?_
                   refine JL.off 38 135 true (some 139) h91 ?_
                   refine JL.off 38 135 true (some 140) h91 ?_
                   refine JL.off 38 135 true (some 141) h91 ?_
                   refine JL.val (.bool false) (some 142) (gives_pickF h91) ?_
                   refine JL.as (.bool false) ?_
                   refine JL.es [(0, .bool false)] ?_
                   refine JQ.mask [] [false, false, false, false, false, false, false, false, false] ?_
                   refine J.ret ?_
                   obtain rfl := Option.some.inj H0
                   exact JQ.done' (rs := [.tmp 0]) (vs := [.bool false]) [] (.inr rfl) ⟨by kernel_rfl, trivial⟩ (fun _ h => Heap.to h) ⟨rfl, rfl⟩
               · refine JL.off 32 129 true (some 130) h90 ?_
                 refine JL.off 32 129 true (some 131) h90 ?_
                 refine JL.off 32 129 true (some 132) h90 ?_
                 refine JL.off 32 129 true (some 133) h90 ?_
                 refine JL.val (.bool false) (some 134) (gives_pickF h90) ?_
                 refine JL.mv (.bool false) ?_
                 refine JL.off 38 135 true (some 136) rfl ?_
                 refine JL.off 38 135 true (some 137) rfl ?_
                 refine JL.off 38 135 true (some 138) rfl ?_
                 refine JL.off 38 135 true (some 139) rfl ?_
                 refine JL.off 38 135 true (some 140) rfl ?_
                 refine JL.off 38 135 true (some 141) rfl ?_
                 refine JL.val (.bool false) (some 142) (gives_pickF rfl) ?_
                 refine JL.as (.bool false) ?_
                 refine JL.es [(0, .bool false)] ?_
                 refine JQ.mask [] [false, false, false, false, false, false, false, false, false] ?_
                 refine J.ret ?_
                 obtain rfl := Option.some.inj H0
                 exact JQ.done' (rs := [.tmp 0]) (vs := [.bool false]) [] (.inr rfl) ⟨by kernel_rfl, trivial⟩ (fun _ h => Heap.to h) ⟨rfl, rfl⟩
             · refine JL.off 24 121 true (some 122) h85 ?_
               refine JL.off 24 121 true (some 123) h85 ?_
               refine JL.off 24 121 true (some 124) h85 ?_
               refine JL.off 24 121 true (some 125) h85 ?_
               refine JL.off 24 121 true (some 126) h85 ?_
               refine JL.off 24 121 true (some 127) h85 ?_
               refine JL.val (.bool false) (some 128) (gives_pickF h85) ?_
               refine JL.mv (.bool false) ?_
               refine JL.off 32 129 true (some 130) rfl ?_
               refine JL.off 32 129 true (some 131) rfl ?_
               refine JL.off 32 129 true (some 132) rfl ?_
               refine JL.off 32 129 true (some 133) rfl ?_
               refine JL.val (.bool false) (some 134) (gives_pickF rfl) ?_
               refine JL.mv (.bool false) ?_
               refine JL.off 38 135 true (some 136) rfl ?_
               refine JL.off 38 135 true (some 137) rfl ?_
               refine JL.off 38 135 true (some 138) rfl ?_
               refine JL.off 38 135 true (some 139) rfl ?_
               refine JL.off 38 135 true (some 140) rfl ?_
               refine JL.off 38 135 true (some 141) rfl ?_
               refine JL.val (.bool false) (some 142) (gives_pickF rfl) ?_
               refine JL.as (.bool false) ?_
               refine JL.es [(0, .bool false)] ?_
               refine JQ.mask [] [false, false, false, false, false, false, false, false, false] ?_
               refine J.ret ?_
               obtain rfl := Option.some.inj H0
               exact JQ.done' (rs := [.tmp 0]) (vs := [.bool false]) [] (.inr rfl) ⟨by kernel_rfl, trivial⟩ (fun _ h => Heap.to h) ⟨rfl, rfl⟩
           · refine JL.off 18 115 true (some 116) h84 ?_
             refine JL.off 18 115 true (some 117) h84 ?_
             refine JL.off 18 115 true (some 118) h84 ?_
             refine JL.off 18 115 true (some 119) h84 ?_
             refine JL.val (.bool false) (some 120) (gives_pickF h84) ?_
             refine JL.mv (.bool false) ?_
             refine JL.off 24 121 true (some 122) rfl ?_
             refine JL.off 24 121 true (some 123) rfl ?_
             refine JL.off 24 121 true (some 124) rfl ?_
             refine JL.off 24 121 true (some 125) rfl ?_
             refine JL.off 24 121 true (some 126) rfl ?_
             refine JL.off 24 121 true (some 127) rfl ?_
             refine JL.val (.bool false) (some 128) (gives_pickF rfl) ?_
             refine JL.mv (.bool false) ?_
             refine JL.off 32 129 true (some 130) rfl ?_
             refine JL.off 32 129 true (some 131) rfl ?_
             refine JL.off 32 129 true (some 132) rfl ?_
             refine JL.off 32 129 true (some 133) rfl ?_
             refine JL.val (.bool false) (some 134) (gives_pickF rfl) ?_
             refine JL.mv (.bool false) ?_
             refine JL.off 38 135 true (some 136) rfl ?_
             refine JL.off 38 135 true (some 137) rfl ?_
             refine JL.off 38 135 true (some 138) rfl ?_
             refine JL.off 38 135 true (some 139) rfl ?_
             refine JL.off 38 135 true (some 140) rfl ?_
             refine JL.off 38 135 true (some 141) rfl ?_
             refine JL.val (.bool false) (some 142) (gives_pickF rfl) ?_
             refine JL.as (.bool false) ?_
             refine JL.es [(0, .bool false)] ?_
             refine JQ.mask [] [false, false, false, false, false, false, false, false, false] ?_
             refine J.ret ?_
             obtain rfl := Option.some.inj H0
             exact JQ.done' (rs := [.tmp 0]) (vs := [.bool false]) [] (.inr rfl) ⟨by kernel_rfl, trivial⟩ (fun _ h => Heap.to h) ⟨rfl, rfl⟩
         · refine JL.off 14 111 true (some 112) h83 ?_
           refine JL.off 14 111 true (some 113) h83 ?_
           refine JL.val (.bool false) (some 114) (gives_pickF h83) ?_
           refine JL.mv (.bool false) ?_
           refine JL.off 18 115 true (some 116) rfl ?_
           refine JL.off 18 115 true (some 117) rfl ?_
           refine JL.off 18 115 true (some 118) rfl ?_
           refine JL.off 18 115 true (some 119) rfl ?_
           refine JL.val (.bool false) (some 120) (gives_pickF rfl) ?_
           refine JL.mv (.bool false) ?_
           refine JL.off 24 121 true (some 122) rfl ?_
           refine JL.off 24 121 true (some 123) rfl ?_
           refine JL.off 24 121 true (some 124) rfl ?_
           refine JL.off 24 121 true (some 125) rfl ?_
           refine JL.off 24 121 true (some 126) rfl ?_
           refine JL.off 24 121 true (some 127) rfl ?_
           refine JL.val (.bool false) (some 128) (gives_pickF rfl) ?_
           refine JL.mv (.bool false) ?_
           refine JL.off 32 129 true (some 130) rfl ?_
           refine JL.off 32 129 true (some 131) rfl ?_
           refine JL.off 32 129 true (some 132) rfl ?_
           refine JL.off 32 129 true (some 133) rfl ?_
           refine JL.val (.bool false) (some 134) (gives_pickF rfl) ?_
           refine JL.mv (.bool false) ?_
           refine JL.off 38 135 true (some 136) rfl ?_
           refine JL.off 38 135 true (some 137) rfl ?_
           refine JL.off 38 135 true (some 138) rfl ?_
           refine JL.off 38 135 true (some 139) rfl ?_
           refine JL.off 38 135 true (some 140) rfl ?_
           refine JL.off 38 135 true (some 141) rfl ?_
           refine JL.val (.bool false) (some 142) (gives_pickF rfl) ?_
           refine JL.as (.bool false) ?_
           refine JL.es [(0, .bool false)] ?_
           refine JQ.mask [] [false, false, false, false, false, false, false, false, false] ?_
           refine J.ret ?_
           obtain rfl := Option.some.inj H0
           exact JQ.done' (rs := [.tmp 0]) (vs := [.bool false]) [] (.inr rfl) ⟨by kernel_rfl, trivial⟩ (fun _ h => Heap.to h) ⟨rfl, rfl⟩
       · refine JL.off 9 106 true (some 107) h82 ?_
         refine JL.off 9 106 true (some 108) h82 ?_
         refine JL.off 9 106 true (some 109) h82 ?_
         refine JL.val (.bool false) (some 110) (gives_pickF h82) ?_
         refine JL.mv (.bool false) ?_
         refine JL.off 14 111 true (some 112) rfl ?_
         refine JL.off 14 111 true (some 113) rfl ?_
         refine JL.val (.bool false) (some 114) (gives_pickF rfl) ?_
         refine JL.mv (.bool false) ?_
         refine JL.off 18 115 true (some 116) rfl ?_
         refine JL.off 18 115 true (some 117) rfl ?_
         refine JL.off 18 115 true (some 118) rfl ?_
         refine JL.off 18 115 true (some 119) rfl ?_
         refine JL.val (.bool false) (some 120) (gives_pickF rfl) ?_
         refine JL.mv (.bool false) ?_
         refine JL.off 24 121 true (some 122) rfl ?_
         refine JL.off 24 121 true (some 123) rfl ?_
         refine JL.off 24 121 true (some 124) rfl ?_
         refine JL.off 24 121 true (some 125) rfl ?_
         refine JL.off 24 121 true (some 126) rfl ?_
         refine JL.off 24 121 true (some 127) rfl ?_
         refine JL.val (.bool false) (some 128) (gives_pickF rfl) ?_
         refine JL.mv (.bool false) ?_
         refine JL.off 32 129 true (some 130) rfl ?_
         refine JL.off 32 129 true (some 131) rfl ?_
         refine JL.off 32 129 true (some 132) rfl ?_
         refine JL.off 32 129 true (some 133) rfl ?_
         refine JL.val (.bool false) (some 134) (gives_pickF rfl) ?_
         refine JL.mv (.bool false) ?_
         refine JL.off 38 135 true (some 136) rfl ?_
         refine JL.off 38 135 true (some 137) rfl ?_
         refine JL.off 38 135 true (some 138) rfl ?_
         refine JL.off 38 135 true (some 139) rfl ?_
         refine JL.off 38 135 true (some 140) rfl ?_
         refine JL.off 38 135 true (some 141) rfl ?_
         refine JL.val (.bool false) (some 142) (gives_pickF rfl) ?_
         refine JL.as (.bool false) ?_
         refine JL.es [(0, .bool false)] ?_
         refine JQ.mask [] [false, false, false, false, false, false, false, false, false] ?_
         refine J.ret ?_
         obtain rfl := Option.some.inj H0
         exact JQ.done' (rs := [.tmp 0]) (vs := [.bool false]) [] (.inr rfl) ⟨by kernel_rfl, trivial⟩ (fun _ h => Heap.to h) ⟨rfl, rfl⟩
     · refine JL.off 5 102 true (some 103) h81 ?_
       refine JL.off 5 102 true (some 104) h81 ?_
       refine JL.val (.bool false) (some 105) (gives_pickF h81) ?_
       refine JL.mv (.bool false) ?_
       refine JL.off 9 106 true (some 107) rfl ?_
       refine JL.off 9 106 true (some 108) rfl ?_
       refine JL.off 9 106 true (some 109) rfl ?_
       refine JL.val (.bool false) (some 110) (gives_pickF rfl) ?_
       refine JL.mv (.bool false) ?_
       refine JL.off 14 111 true (some 112) rfl ?_
       refine JL.off 14 111 true (some 113) rfl ?_
       refine JL.val (.bool false) (some 114) (gives_pickF rfl) ?_
       refine JL.mv (.bool false) ?_
       refine JL.off 18 115 true (some 116) rfl ?_
       refine JL.off 18 115 true (some 117) rfl ?_
       refine JL.off 18 115 true (some 118) rfl ?_
       refine JL.off 18 115 true (some 119) rfl ?_
       refine JL.val (.bool false) (some 120) (gives_pickF rfl) ?_
       refine JL.mv (.bool false) ?_
       refine JL.off 24 121 true (some 122) rfl ?_
       refine JL.off 24 121 true (some 123) rfl ?_
       refine JL.off 24 121 true (some 124) rfl ?_
       refine JL.off 24 121 true (some 125) rfl ?_
       refine JL.off 24 121 true (some 126) rfl ?_
       refine JL.off 24 121 true (some 127) rfl ?_
       refine JL.val (.bool false) (some 128) (gives_pickF rfl) ?_
       refine JL.mv (.bool false) ?_
       refine JL.off 32 129 true (some 130) rfl ?_
       refine JL.off 32 129 true (some 131) rfl ?_
       refine JL.off 32 129 true (some 132) rfl ?_
       refine JL.off 32 129 true (some 133) rfl ?_
       refine JL.val (.bool false) (some 134) (gives_pickF rfl) ?_
       refine JL.mv (.bool false) ?_
       refine JL.off 38 135 true (some 136) rfl ?_
       refine JL.off 38 135 true (some 137) rfl ?_
       refine JL.off 38 135 true (some 138) rfl ?_
       refine JL.off 38 135 true (some 139) rfl ?_
       refine JL.off 38 135 true (some 140) rfl ?_
       refine JL.off 38 135 true (some 141) rfl ?_
       refine JL.val (.bool false) (some 142) (gives_pickF rfl) ?_
       refine JL.as (.bool false) ?_
       refine JL.es [(0, .bool false)] ?_
       refine JQ.mask [] [false, false, false, false, false, false, false, false, false] ?_
       refine J.ret ?_
       obtain rfl := Option.some.inj H0
       exact JQ.done' (rs := [.tmp 0]) (vs := [.bool false]) [] (.inr rfl) ⟨by kernel_rfl, trivial⟩ (fun _ h => Heap.to h) ⟨rfl, rfl⟩
   · refine JL.off 1 98 true (some 99) h80 ?_
     refine JL.off 1 98 true (some 100) h80 ?_
     refine JL.val (.bool false) (some 101) (gives_pickF h80) ?_
     refine JL.mv (.bool false) ?_
     refine JL.off 5 102 true (some 103) rfl ?_
     refine JL.off 5 102 true (some 104) rfl ?_
     refine JL.val (.bool false) (some 105) (gives_pickF rfl) ?_
     refine JL.mv (.bool false) ?_
     refine JL.off 9 106 true (some 107) rfl ?_
     refine JL.off 9 106 true (some 108) rfl ?_
     refine JL.off 9 106 true (some 109) rfl ?_
     refine JL.val (.bool false) (some 110) (gives_pickF rfl) ?_
     refine JL.mv (.bool false) ?_
     refine JL.off 14 111 true (some 112) rfl ?_
     refine JL.off 14 111 true (some 113) rfl ?_
     refine JL.val (.bool false) (some 114) (gives_pickF rfl) ?_
     refine JL.mv (.bool false) ?_
     refine JL.off 18 115 true (some 116) rfl ?_
     refine JL.off 18 115 true (some 117) rfl ?_
     refine JL.off 18 115 true (some 118) rfl ?_
     refine JL.off 18 115 true (some 119) rfl ?_
     refine JL.val (.bool false) (some 120) (gives_pickF rfl) ?_
     refine JL.mv (.bool false) ?_
     refine JL.off 24 121 true (some 122) rfl ?_
     refine JL.off 24 121 true (some 123) rfl ?_
     refine JL.off 24 121 true (some 124) rfl ?_
     refine JL.off 24 121 true (some 125) rfl ?_
     refine JL.off 24 121 true (some 126) rfl ?_
     refine JL.off 24 121 true (some 127) rfl ?_
     refine JL.val (.bool false) (some 128) (gives_pickF rfl) ?_
     refine JL.mv (.bool false) ?_
     refine JL.off 32 129 true (some 130) rfl ?_
     refine JL.off 32 129 true (some 131) rfl ?_
     refine JL.off 32 129 true (some 132) rfl ?_
     refine JL.off 32 129 true (some 133) rfl ?_
     refine JL.val (.bool false) (some 134) (gives_pickF rfl) ?_
     refine JL.mv (.bool false) ?_
     refine JL.off 38 135 true (some 136) rfl ?_
     refine JL.off 38 135 true (some 137) rfl ?_
     refine JL.off 38 135 true (some 138) rfl ?_
     refine JL.off 38 135 true (some 139) rfl ?_
     refine JL.off 38 135 true (some 140) rfl ?_
     refine JL.off 38 135 true (some 141) rfl ?_
     refine JL.val (.bool false) (some 142) (gives_pickF rfl) ?_
     refine JL.as (.bool false) ?_
     refine JL.es [(0, .bool false)] ?_
     refine JQ.mask [] [false, false, false, false, false, false, false, false, false] ?_
     refine J.ret ?_
     obtain rfl := Option.some.inj H0
     exact JQ.done' (rs := [.tmp 0]) (vs := [.bool false]) [] (.inr rfl) ⟨by kernel_rfl, trivial⟩ (fun _ h => Heap.to h) ⟨rfl, rfl⟩

theorem ref18_Great.ok (a1 : Acc) (Aa2 : Option Addr) (c3 : Nat) (Aa5 : Option Addr) (c6 : Nat) (Aa8 : Option Addr) (c9 : Nat) (r : Bool) (H0 : ref18_Great.f a1 = some r) :
    Does Try.prog 8 [.agg #[.slice Aa2 a1.Sums.length c3, .slice Aa5 a1.Ns.length c6, .slice Aa8 a1.Spans.length c9]].toArray [At.rd Aa2 c3 fl_Count.kd a1.Sums true, At.rd Aa5 c6 fl_Count.kd a1.Ns true, At.rd Aa8 c9 fl_Gap.kd a1.Spans true] [] false (fun v Δ => v = .bool r ∧ Δ = []) := by
 refine Does.body (vs := [.agg #[.slice Aa2 a1.Sums.length c3, .slice Aa5 a1.Ns.length c6, .slice Aa8 a1.Spans.length c9]]) Try.func8 rfl ⟨.inl rfl, .inl rfl, .inl rfl, trivial⟩ trivial fun w S => ?_
 unfold ref18_Great.f at H0
 refine J.sr ?_
 refine JL.box [.slice Aa2 a1.Sums.length c3, .slice Aa5 a1.Ns.length c6, .slice Aa8 a1.Spans.length c9] fun b11 => ?_
 refine JL.as (.bool false) ?_
 refine JL.es [(1, .pointer (some ⟨b11, 0, none⟩))] ?_
 refine J.sr ?_
 refine JL.pur (.pointer (some ⟨b11, 0, none⟩)) (some 3) ?_
 refine JL.val (.slice Aa2 a1.Sums.length c3) (some 4) (yields_load_box 3 0 (holds_box b11 25 [.slice Aa2 a1.Sums.length c3, .slice Aa5 a1.Ns.length c6, .slice Aa8 a1.Spans.length c9]) tyAgg_22) ?_
 refine JL.pur (.int .i64 (a1.Sums.length : Int)) (some 5) ?_
 refine JL.pur (.bool (decide (600 < (a1.Sums.length : Int)))) (some 6) ?_
 refine JL.mv (.bool (decide (600 < (a1.Sums.length : Int)))) ?_
 rcases ite_cases H0 with ⟨h12, H0⟩ | ⟨h12, H0⟩
 · refine JL.off 4 7 false (some 8) h12 ?_
   refine JL.off 4 7 false (some 9) h12 ?_
   refine JL.off 4 7 false (some 10) h12 ?_
   refine JL.off 4 7 false (some 11) h12 ?_
   refine JL.val (.bool true) (some 12) (gives_pickT h12) ?_
   refine JL.mv (.bool true) ?_
   refine JL.off 10 13 false (some 14) rfl ?_
   refine JL.off 10 13 false (some 15) rfl ?_
   refine JL.off 10 13 false (some 16) rfl ?_
   refine JL.off 10 13 false (some 17) rfl ?_
   refine JL.val (.bool true) (some 18) (gives_pickT rfl) ?_
   refine JL.as (.bool true) ?_
   refine JL.es [(2, .bool true)] ?_
   refine JQ.mask [] [false, false, false, false] ?_
   refine J.ret ?_
   obtain rfl := Option.some.inj H0
   exact JQ.done' (rs := [.tmp 2]) (vs := [.bool true]) [] (.inr rfl) ⟨by kernel_rfl, trivial⟩ (fun _ h => Heap.to h) ⟨rfl, rfl⟩
 · refine JL.on 4 7 h12 ?_
   refine JL.pur (.pointer (some ⟨b11, 1, none⟩)) (some 8) ?_
   refine JL.on 4 7 h12 ?_
   refine JL.val (.slice Aa5 a1.Ns.length c6) (some 9) (yields_load_box 3 1 (holds_box b11 25 [.slice Aa2 a1.Sums.length c3, .slice Aa5 a1.Ns.length c6, .slice Aa8 a1.Spans.length c9]) tyAgg_22) ?_
   refine JL.on 4 7 h12 ?_
   refine JL.pur (.int .i64 (a1.Ns.length : Int)) (some 10) ?_
   refine JL.on 4 7 h12 ?_
   refine JL.pur (.bool (decide (600 < (a1.Ns.length : Int)))) (some 11) ?_
   refine JL.val (.bool (decide (600 < (a1.Ns.length : Int)))) (some 12) (gives_pickF h12) ?_
   refine JL.mv (.bool (decide (600 < (a1.Ns.length : Int)))) ?_
   rcases ite_cases H0 with ⟨h13, H0⟩ | ⟨h13, H0⟩
   · refine JL.off 10 13 false (some 14) h13 ?_
     refine JL.off 10 13 false (some 15) h13 ?_
     refine JL.off 10 13 false (some 16) h13 ?_
     refine JL.off 10 13 false (some 17) h13 ?_
     refine JL.val (.bool true) (some 18) (gives_pickT h13) ?_
     refine JL.as (.bool true) ?_
     refine JL.es [(2, .bool true)] ?_
     refine JQ.mask [] [false, false, false, false] ?_
     refine J.ret ?_
     obtain rfl := Option.some.inj H0
     exact JQ.done' (rs := [.tmp 2]) (vs := [.bool true]) [] (.inr rfl) ⟨by kernel_rfl, trivial⟩ (fun _ h => Heap.to h) ⟨rfl, rfl⟩
   · refine JL.on 10 13 h13 ?_
     refine JL.pur (.pointer (some ⟨b11, 2, none⟩)) (some 14) ?_
     refine JL.on 10 13 h13 ?_
     refine JL.val (.slice Aa8 a1.Spans.length c9) (some 15) (yields_load_box 3 2 (holds_box b11 25 [.slice Aa2 a1.Sums.length c3, .slice Aa5 a1.Ns.length c6, .slice Aa8 a1.Spans.length c9]) tyAgg_23) ?_
     refine JL.on 10 13 h13 ?_
     refine JL.pur (.int .i64 (a1.Spans.length : Int)) (some 16) ?_
     refine JL.on 10 13 h13 ?_
     refine JL.pur (.bool (decide (100 < (a1.Spans.length : Int)))) (some 17) ?_
     refine JL.val (.bool (decide (100 < (a1.Spans.length : Int)))) (some 18) (gives_pickF h13) ?_
     refine JL.as (.bool (decide (100 < (a1.Spans.length : Int)))) ?_
     refine JL.es [(2, .bool (decide (100 < (a1.Spans.length : Int))))] ?_
     refine JQ.mask [] [false, false, false, false] ?_
     refine J.ret ?_
     obtain rfl := Option.some.inj H0
     exact JQ.done' (rs := [.tmp 2]) (vs := [.bool (decide (100 < (a1.Spans.length : Int)))]) [] (.inr rfl) ⟨by kernel_rfl, trivial⟩ (fun _ h => Heap.to h) ⟨rfl, rfl⟩

theorem ref18_Runs.ok (l1 : (List Gap)) (Aa2 : Option Addr) (c3 : Nat) (r : Bool) (H0 : ref18_Runs.f l1 = some r) :
    Does Try.prog 40 [.slice Aa2 l1.length c3].toArray [At.rd Aa2 c3 fl_Gap.kd l1 true] [] false (fun v Δ => v = .bool r ∧ Δ = []) := by
 refine Does.body (vs := [.slice Aa2 l1.length c3]) Try.func40 rfl ⟨.inl rfl, trivial⟩ trivial fun w S => ?_
 unfold ref18_Runs.f at H0
 refine J.sr ?_
 refine JL.as (.bool false) ?_
 refine JL.es [(0, .slice Aa2 l1.length c3)] ?_
 refine J.seq ?_
 refine J.sr ?_
 refine JL.as (.int .i64 0) ?_
 refine JL.en ?_
 obtain ⟨o1, hit, H0⟩ := bind_some H0
 refine J.loop (σ := Int) (τ := Unit) (G := Unit) (G' := Unit) _ o1 (fun s g => [(0, .slice Aa2 l1.length c3), (3, .int .i64 s)]) (fun s g => [At.rd Aa2 c3 fl_Gap.kd l1 true]) (fun t => ref18_Runs.k7 = some r) (fun t g => []) (fun t g => []) 0 () hit (fun _ h => Heap.to h) ?_ ?_
 · clear hit
   rintro i133 ⟨⟩ st1 H1 hb1 hr1
   replace H1 : ref18_Runs.s6 l1 i133 = some st1 := H1
   unfold ref18_Runs.s6 at H1
   refine JQ.sub [(0, .slice Aa2 l1.length c3), (3, .int .i64 i133)] ?_
   refine JQ.turn (Δ' := [At.rd Aa2 c3 fl_Gap.kd l1 true]) (fun _ h => h.to) ?_
   refine J.seq ?_
   refine J.sr ?_
   refine JL.mv (.int .i64 i133) ?_
   refine JL.mv (.slice Aa2 l1.length c3) ?_
   refine JL.pur (.int .i64 (l1.length : Int)) (some 6) ?_
   refine JL.pur (.bool (decide (i133 < (l1.length : Int)))) (some 7) ?_
   refine JL.es [(0, .slice Aa2 l1.length c3), (3, .int .i64 i133), (7, .bool (decide (i133 < (l1.length : Int))))] ?_
   rcases ite_cases H1 with ⟨h211, H1⟩ | ⟨h211, H1⟩
   · refine J.cond_true h211 ?_
     refine J.skip ?_
     refine JQ.ts [(0, .slice Aa2 l1.length c3), (3, .int .i64 i133)] ?_
     refine J.seq ?_
     refine J.block ?_
     refine J.seq ?_
     refine J.join (T := Bool) (G := Unit) (fun t => ref18_Runs.k8 l1 i133 t = some st1) (fun t g => [(0, .slice Aa2 l1.length c3), (3, .int .i64 i133), (45, .bool t)]) (fun t g => [At.rd Aa2 c3 fl_Gap.kd l1 true]) ?_ ?_
     · refine J.draw ?_
       refine QL.mv (.slice Aa2 l1.length c3) ?_
       refine QL.mv (.int .i64 i133) ?_
       obtain ⟨⟨h265, h266⟩, H1⟩ := ite_must H1
       refine QL.ixAddr 0 2 c3 .i64 (elems_rd Aa2 c3 fl_Gap.kd l1 true) Try.underlying23 tySize_51 h265 h266 fun g267 o268 hA => ?_
       subst hA
       refine QL.pur (.pointer (some ⟨g267, o268 + i133.toNat * 2, none⟩)) (some 13) ?_
       refine QL.val (.int .i64 ((ix l1 i133).At)) (some 14) (gives_loadEl (f := fl_Gap) 0 0 i133 (elems_rd (some ⟨g267, o268, none⟩) c3 fl_Gap.kd l1 true) h265 h266 tySize_3 (.inr ⟨tyAgg_3, rfl, rfl⟩)) ?_
       refine QL.pur (.bool (decide ((ix l1 i133).At < 0))) (some 15) ?_
       refine QL.mv (.bool (decide ((ix l1 i133).At < 0))) ?_
       rcases ite_cases H1 with ⟨h269, H1⟩ | ⟨h269, H1⟩
       · refine QL.off 6 16 false (some 17) h269 ?_
         refine QL.off 6 16 false (some 18) h269 ?_
         refine QL.off 6 16 false (some 19) h269 ?_
         refine QL.off 6 16 false (some 20) h269 ?_
         refine QL.off 6 16 false (some 21) h269 ?_
         refine QL.off 6 16 false (some 22) h269 ?_
         refine QL.val (.bool true) (some 23) (gives_pickT h269) ?_
         refine QL.mv (.bool true) ?_
         refine QL.off 14 24 false (some 25) rfl ?_
         refine QL.off 14 24 false (some 26) rfl ?_
         refine QL.off 14 24 false (some 27) rfl ?_
         refine QL.off 14 24 false (some 28) rfl ?_
         refine QL.off 14 24 false (some 29) rfl ?_
         refine QL.off 14 24 false (some 30) rfl ?_
         refine QL.val (.bool true) (some 31) (gives_pickT rfl) ?_
         refine QL.mv (.bool true) ?_
         refine QL.off 22 32 false (some 33) rfl ?_
         refine QL.off 22 32 false (some 34) rfl ?_
         refine QL.off 22 32 false (some 35) rfl ?_
         refine QL.off 22 32 false (some 36) rfl ?_
         refine QL.off 22 32 false (some 37) rfl ?_
         refine QL.off 22 32 false (some 38) rfl ?_
         refine QL.off 22 32 false (some 39) rfl ?_
         refine QL.off 22 32 false (some 40) rfl ?_
         refine QL.off 22 32 false (some 41) rfl ?_
         refine QL.off 22 32 false (some 42) rfl ?_
         refine QL.off 22 32 false (some 43) rfl ?_
         refine QL.off 22 32 false (some 44) rfl ?_
         refine QL.val (.bool true) (some 45) (gives_pickT rfl) ?_
         refine QL.nil ?_
         refine JA.nil ?_
         refine JQ.then_normal ?_
         exact JQ.meet true () H1 (fun _ h => Heap.to h)
       · refine QL.on 6 16 h269 ?_
         refine QL.mv (.slice (some ⟨g267, o268, none⟩) l1.length c3) ?_
         refine QL.on 6 16 h269 ?_
         refine QL.mv (.int .i64 i133) ?_
         refine QL.on 6 16 h269 ?_
         refine QL.ixAddr' 0 2 c3 .i64 (elems_rd (some ⟨g267, o268, none⟩) c3 fl_Gap.kd l1 true) Try.underlying23 tySize_51 h265 h266 ?_
         refine QL.on 6 16 h269 ?_
         refine QL.pur (.pointer (some ⟨g267, o268 + i133.toNat * 2, none⟩)) (some 20) ?_
         refine QL.on 6 16 h269 ?_
         refine QL.val (.int .i64 ((ix l1 i133).At)) (some 21) (gives_loadEl (f := fl_Gap) 0 0 i133 (elems_rd (some ⟨g267, o268, none⟩) c3 fl_Gap.kd l1 true) h265 h266 tySize_3 (.inr ⟨tyAgg_3, rfl, rfl⟩)) ?_
         refine QL.on 6 16 h269 ?_
         refine QL.pur (.bool (decide (1000000000 < (ix l1 i133).At))) (some 22) ?_
         refine QL.val (.bool (decide (1000000000 < (ix l1 i133).At))) (some 23) (gives_pickF h269) ?_
         refine QL.mv (.bool (decide (1000000000 < (ix l1 i133).At))) ?_
         rcases ite_cases H1 with ⟨h274, H1⟩ | ⟨h274, H1⟩
         · refine QL.off 14 24 false (some 25) h274 ?_
           refine QL.off 14 24 false (some 26) h274 ?_
           refine QL.off 14 24 false (some 27) h274 ?_
           refine QL.off 14 24 false (some 28) h274 ?_
           refine QL.off 14 24 false (some 29) h274 ?_
           refine QL.off 14 24 false (some 30) h274 ?_
           refine QL.val (.bool true) (some 31) (gives_pickT h274) ?_
           refine QL.mv (.bool true) ?_
           refine QL.off 22 32 false (some 33) rfl ?_
           refine QL.off 22 32 false (some 34) rfl ?_
           refine QL.off 22 32 false (some 35) rfl ?_
           refine QL.off 22 32 false (some 36) rfl ?_
           refine QL.off 22 32 false (some 37) rfl ?_
           refine QL.off 22 32 false (some 38) rfl ?_
           refine QL.off 22 32 false (some 39) rfl ?_
           refine QL.off 22 32 false (some 40) rfl ?_
           refine QL.off 22 32 false (some 41) rfl ?_
           refine QL.off 22 32 false (some 42) rfl ?_
           refine QL.off 22 32 false (some 43) rfl ?_
           refine QL.off 22 32 false (some 44) rfl ?_
           refine QL.val (.bool true) (some 45) (gives_pickT rfl) ?_
           refine QL.nil ?_
           refine JA.nil ?_
           refine JQ.then_normal ?_
           exact JQ.meet true () H1 (fun _ h => Heap.to h)
         · refine QL.on 14 24 h274 ?_
           refine QL.mv (.slice (some ⟨g267, o268, none⟩) l1.length c3) ?_
           refine QL.on 14 24 h274 ?_
           refine QL.mv (.int .i64 i133) ?_
           refine QL.on 14 24 h274 ?_
           refine QL.ixAddr' 0 2 c3 .i64 (elems_rd (some ⟨g267, o268, none⟩) c3 fl_Gap.kd l1 true) Try.underlying23 tySize_51 h265 h266 ?_
           refine QL.on 14 24 h274 ?_
           refine QL.pur (.pointer (some ⟨g267, o268 + i133.toNat * 2 + 1, none⟩)) (some 28) ?_
           refine QL.on 14 24 h274 ?_
           refine QL.val (.int .i64 ((ix l1 i133).Many)) (some 29) (gives_loadEl (f := fl_Gap) 0 1 i133 (elems_rd (some ⟨g267, o268, none⟩) c3 fl_Gap.kd l1 true) h265 h266 tySize_3 (.inr ⟨tyAgg_3, rfl, rfl⟩)) ?_
           refine QL.on 14 24 h274 ?_
           refine QL.pur (.bool (decide ((ix l1 i133).Many < 1))) (some 30) ?_
           refine QL.val (.bool (decide ((ix l1 i133).Many < 1))) (some 31) (gives_pickF h274) ?_
           refine QL.mv (.bool (decide ((ix l1 i133).Many < 1))) ?_
           rcases ite_cases H1 with ⟨h279, H1⟩ | ⟨h279, H1⟩
           · refine QL.off 22 32 false (some 33) h279 ?_
             refine QL.off 22 32 false (some 34) h279 ?_
             refine QL.off 22 32 false (some 35) h279 ?_
             refine QL.off 22 32 false (some 36) h279 ?_
             refine QL.off 22 32 false (some 37) h279 ?_
             refine QL.off 22 32 false (some 38) h279 ?_
             refine QL.off 22 32 false (some 39) h279 ?_
             refine QL.off 22 32 false (some 40) h279 ?_
             refine QL.off 22 32 false (some 41) h279 ?_
             refine QL.off 22 32 false (some 42) h279 ?_
             refine QL.off 22 32 false (some 43) h279 ?_
             refine QL.off 22 32 false (some 44) h279 ?_
             refine QL.val (.bool true) (some 45) (gives_pickT h279) ?_
             refine QL.nil ?_
             refine JA.nil ?_
             refine JQ.then_normal ?_
             exact JQ.meet true () H1 (fun _ h => Heap.to h)
           · refine QL.on 22 32 h279 ?_
             refine QL.mv (.slice (some ⟨g267, o268, none⟩) l1.length c3) ?_
             refine QL.on 22 32 h279 ?_
             refine QL.mv (.int .i64 i133) ?_
             refine QL.on 22 32 h279 ?_
             refine QL.ixAddr' 0 2 c3 .i64 (elems_rd (some ⟨g267, o268, none⟩) c3 fl_Gap.kd l1 true) Try.underlying23 tySize_51 h265 h266 ?_
             refine QL.on 22 32 h279 ?_
             refine QL.pur (.pointer (some ⟨g267, o268 + i133.toNat * 2 + 1, none⟩)) (some 36) ?_
             refine QL.on 22 32 h279 ?_
             refine QL.val (.int .i64 ((ix l1 i133).Many)) (some 37) (gives_loadEl (f := fl_Gap) 0 1 i133 (elems_rd (some ⟨g267, o268, none⟩) c3 fl_Gap.kd l1 true) h265 h266 tySize_3 (.inr ⟨tyAgg_3, rfl, rfl⟩)) ?_
             refine QL.on 22 32 h279 ?_
             refine QL.mv (.slice (some ⟨g267, o268, none⟩) l1.length c3) ?_
             refine QL.on 22 32 h279 ?_
             refine QL.mv (.int .i64 i133) ?_
             refine QL.on 22 32 h279 ?_
             refine QL.ixAddr' 0 2 c3 .i64 (elems_rd (some ⟨g267, o268, none⟩) c3 fl_Gap.kd l1 true) Try.underlying23 tySize_51 h265 h266 ?_
             refine QL.on 22 32 h279 ?_
             refine QL.pur (.pointer (some ⟨g267, o268 + i133.toNat * 2, none⟩)) (some 41) ?_
             refine QL.on 22 32 h279 ?_
             refine QL.val (.int .i64 ((ix l1 i133).At)) (some 42) (gives_loadEl (f := fl_Gap) 0 0 i133 (elems_rd (some ⟨g267, o268, none⟩) c3 fl_Gap.kd l1 true) h265 h266 tySize_3 (.inr ⟨tyAgg_3, rfl, rfl⟩)) ?_
             refine QL.on 22 32 h279 ?_
             refine QL.pur (.int .i64 (w64 (1000000000 - ((ix l1 i133).At)))) (some 43) ?_
             refine QL.on 22 32 h279 ?_
             refine QL.pur (.bool (decide (w64 (1000000000 - ((ix l1 i133).At)) < (ix l1 i133).Many))) (some 44) ?_
             refine QL.val (.bool (decide (w64 (1000000000 - ((ix l1 i133).At)) < (ix l1 i133).Many))) (some 45) (gives_pickF h279) ?_
             refine QL.nil ?_
             refine JA.nil ?_
             refine JQ.then_normal ?_
             exact JQ.meet (decide (w64 (1000000000 - ((ix l1 i133).At)) < (ix l1 i133).Many)) () H1 (fun _ h => Heap.to h)
     · clear H1
       rintro x235 ⟨⟩ H1
       replace H1 : ref18_Runs.k8 l1 i133 x235 = some st1 := H1
       unfold ref18_Runs.k8 at H1
       refine JQ.sub [(0, .slice Aa2 l1.length c3), (3, .int .i64 i133), (45, .bool x235)] ?_
       refine JQ.turn (Δ' := [At.rd Aa2 c3 fl_Gap.kd l1 true]) (fun _ h => h.to) ?_
       rcases ite_cases H1 with ⟨h236, H1⟩ | ⟨h236, H1⟩
       · refine J.cond_true h236 ?_
         refine J.sr ?_
         refine JL.as (.bool false) ?_
         refine JL.es [(2, .bool false)] ?_
         refine JQ.mask [] [false] ?_
         refine J.ret ?_
         refine JQ.then_ret ?_
         refine JQ.blk_ret ?_
         refine JQ.then_ret ?_
         refine JQ.then_ret ?_
         refine JQ.blk_ret ?_
         refine JQ.met_ret ?_
         refine JQ.then_ret ?_
         rw [hr1 _ (Option.some.inj H1).symm, fin_ret] at H0
         obtain rfl := Option.some.inj H0
         exact JQ.done' (rs := [.tmp 2]) (vs := [.bool false]) [] (.inr rfl) ⟨by kernel_rfl, trivial⟩ (fun _ h => Heap.to h) ⟨rfl, rfl⟩
       · refine J.cond_false h236 ?_
         refine J.skip ?_
         refine JQ.ts [(0, .slice Aa2 l1.length c3), (3, .int .i64 i133)] ?_
         refine J.join (T := Bool) (G := Unit) (fun t => ref18_Runs.k9 i133 t = some st1) (fun t g => [(0, .slice Aa2 l1.length c3), (3, .int .i64 i133), (68, .bool t)]) (fun t g => [At.rd Aa2 c3 fl_Gap.kd l1 true]) ?_ ?_
         · refine J.draw ?_
           refine QL.mv (.int .i64 i133) ?_
           refine QL.pur (.bool (decide (0 < i133))) (some 47) ?_
           refine QL.mv (.bool (decide (0 < i133))) ?_
           rcases ite_cases H1 with ⟨h252, H1⟩ | ⟨h252, H1⟩
           · refine QL.on 2 48 h252 ?_
             refine QL.mv (.slice Aa2 l1.length c3) ?_
             refine QL.on 2 48 h252 ?_
             refine QL.mv (.int .i64 i133) ?_
             refine QL.on 2 48 h252 ?_
             obtain ⟨⟨h253, h254⟩, H1⟩ := ite_must H1
             refine QL.ixAddr 0 2 c3 .i64 (elems_rd Aa2 c3 fl_Gap.kd l1 true) Try.underlying23 tySize_51 h253 h254 fun g255 o256 hA => ?_
             subst hA
             refine QL.on 2 48 h252 ?_
             refine QL.pur (.pointer (some ⟨g255, o256 + i133.toNat * 2, none⟩)) (some 52) ?_
             refine QL.on 2 48 h252 ?_
             refine QL.val (.int .i64 ((ix l1 i133).At)) (some 53) (gives_loadEl (f := fl_Gap) 0 0 i133 (elems_rd (some ⟨g255, o256, none⟩) c3 fl_Gap.kd l1 true) h253 h254 tySize_3 (.inr ⟨tyAgg_3, rfl, rfl⟩)) ?_
             refine QL.on 2 48 h252 ?_
             refine QL.mv (.slice (some ⟨g255, o256, none⟩) l1.length c3) ?_
             refine QL.on 2 48 h252 ?_
             refine QL.mv (.int .i64 i133) ?_
             refine QL.on 2 48 h252 ?_
             refine QL.pur (.int .i64 (w64 (i133 - 1))) (some 56) ?_
             refine QL.on 2 48 h252 ?_
             obtain ⟨⟨h257, h258⟩, H1⟩ := ite_must H1
             refine QL.ixAddr' 0 2 c3 .i64 (elems_rd (some ⟨g255, o256, none⟩) c3 fl_Gap.kd l1 true) Try.underlying23 tySize_51 h257 h258 ?_
             refine QL.on 2 48 h252 ?_
             refine QL.pur (.pointer (some ⟨g255, o256 + (w64 (i133 - 1)).toNat * 2, none⟩)) (some 58) ?_
             refine QL.on 2 48 h252 ?_
             refine QL.val (.int .i64 ((ix l1 (w64 (i133 - 1))).At)) (some 59) (gives_loadEl (f := fl_Gap) 0 0 (w64 (i133 - 1)) (elems_rd (some ⟨g255, o256, none⟩) c3 fl_Gap.kd l1 true) h257 h258 tySize_3 (.inr ⟨tyAgg_3, rfl, rfl⟩)) ?_
             refine QL.on 2 48 h252 ?_
             refine QL.mv (.slice (some ⟨g255, o256, none⟩) l1.length c3) ?_
             refine QL.on 2 48 h252 ?_
             refine QL.mv (.int .i64 i133) ?_
             refine QL.on 2 48 h252 ?_
             refine QL.pur (.int .i64 (w64 (i133 - 1))) (some 62) ?_
             refine QL.on 2 48 h252 ?_
             refine QL.ixAddr' 0 2 c3 .i64 (elems_rd (some ⟨g255, o256, none⟩) c3 fl_Gap.kd l1 true) Try.underlying23 tySize_51 h257 h258 ?_
             refine QL.on 2 48 h252 ?_
             refine QL.pur (.pointer (some ⟨g255, o256 + (w64 (i133 - 1)).toNat * 2 + 1, none⟩)) (some 64) ?_
             refine QL.on 2 48 h252 ?_
             refine QL.val (.int .i64 ((ix l1 (w64 (i133 - 1))).Many)) (some 65) (gives_loadEl (f := fl_Gap) 0 1 (w64 (i133 - 1)) (elems_rd (some ⟨g255, o256, none⟩) c3 fl_Gap.kd l1 true) h257 h258 tySize_3 (.inr ⟨tyAgg_3, rfl, rfl⟩)) ?_
             refine QL.on 2 48 h252 ?_
             refine QL.pur (.int .i64 (w64 (((ix l1 (w64 (i133 - 1))).At) + ((ix l1 (w64 (i133 - 1))).Many)))) (some 66) ?_
             refine QL.on 2 48 h252 ?_
             refine QL.pur (.bool (decide ((ix l1 i133).At ≤ w64 (((ix l1 (w64 (i133 - 1))).At) + ((ix l1 (w64 (i133 - 1))).Many))))) (some 67) ?_
             refine QL.val (.bool (decide ((ix l1 i133).At ≤ w64 (((ix l1 (w64 (i133 - 1))).At) + ((ix l1 (w64 (i133 - 1))).Many))))) (some 68) (gives_pickT h252) ?_
             refine QL.nil ?_
             refine JA.nil ?_
             refine JQ.then_normal ?_
             exact JQ.meet (decide ((ix l1 i133).At ≤ w64 (((ix l1 (w64 (i133 - 1))).At) + ((ix l1 (w64 (i133 - 1))).Many)))) () H1 (fun _ h => Heap.to h)
           · refine QL.off 2 48 true (some 49) h252 ?_
             refine QL.off 2 48 true (some 50) h252 ?_
             refine QL.off 2 48 true (some 51) h252 ?_
             refine QL.off 2 48 true (some 52) h252 ?_
             refine QL.off 2 48 true (some 53) h252 ?_
             refine QL.off 2 48 true (some 54) h252 ?_
             refine QL.off 2 48 true (some 55) h252 ?_
             refine QL.off 2 48 true (some 56) h252 ?_
             refine QL.off 2 48 true (some 57) h252 ?_
             refine QL.off 2 48 true (some 58) h252 ?_
             refine QL.off 2 48 true (some 59) h252 ?_
             refine QL.off 2 48 true (some 60) h252 ?_
             refine QL.off 2 48 true (some 61) h252 ?_
             refine QL.off 2 48 true (some 62) h252 ?_
             refine QL.off 2 48 true (some 63) h252 ?_
             refine QL.off 2 48 true (some 64) h252 ?_
             refine QL.off 2 48 true (some 65) h252 ?_
             refine QL.off 2 48 true (some 66) h252 ?_
             refine QL.off 2 48 true (some 67) h252 ?_
             refine QL.val (.bool false) (some 68) (gives_pickF h252) ?_
             refine QL.nil ?_
             refine JA.nil ?_
             refine JQ.then_normal ?_
             exact JQ.meet false () H1 (fun _ h => Heap.to h)
         · clear H1
           rintro x250 ⟨⟩ H1
           replace H1 : ref18_Runs.k9 i133 x250 = some st1 := H1
           unfold ref18_Runs.k9 at H1
           refine JQ.sub [(0, .slice Aa2 l1.length c3), (3, .int .i64 i133), (68, .bool x250)] ?_
           refine JQ.turn (Δ' := [At.rd Aa2 c3 fl_Gap.kd l1 true]) (fun _ h => h.to) ?_
           rcases ite_cases H1 with ⟨h251, H1⟩ | ⟨h251, H1⟩
           · refine J.cond_true h251 ?_
             refine J.sr ?_
             refine JL.as (.bool false) ?_
             refine JL.es [(2, .bool false)] ?_
             refine JQ.mask [] [false] ?_
             refine J.ret ?_
             refine JQ.blk_ret ?_
             refine JQ.then_ret ?_
             refine JQ.then_ret ?_
             refine JQ.blk_ret ?_
             refine JQ.met_ret ?_
             refine JQ.then_ret ?_
             rw [hr1 _ (Option.some.inj H1).symm, fin_ret] at H0
             obtain rfl := Option.some.inj H0
             exact JQ.done' (rs := [.tmp 2]) (vs := [.bool false]) [] (.inr rfl) ⟨by kernel_rfl, trivial⟩ (fun _ h => Heap.to h) ⟨rfl, rfl⟩
           · refine J.cond_false h251 ?_
             refine J.skip ?_
             refine JQ.blk_normal ?_
             refine JQ.ts [(0, .slice Aa2 l1.length c3), (3, .int .i64 i133)] ?_
             refine J.region ?_
             refine JL.mv (.int .i64 i133) ?_
             refine JL.pur (.int .i64 (w64 (i133 + 1))) (some 9) ?_
             refine JL.as (.int .i64 (w64 (i133 + 1))) ?_
             refine JL.en ?_
             exact JQ.again (w64 (i133 + 1)) () (Option.some.inj H1).symm (fun _ h => Heap.to h)
   · refine J.cond_false h211 ?_
     refine J.exit ?_
     refine JQ.then_exit ?_
     refine JQ.then_exit ?_
     refine JQ.blk_exit ?_
     rw [hb1 _ (Option.some.inj H1).symm, fin_brk] at H0
     exact JQ.met () () H0 (fun _ h => Heap.to (Heap.pick [] (by decide) h))
 · clear hit H0
   rintro ⟨⟩ ⟨⟩ H0
   replace H0 : ref18_Runs.k7 = some r := H0
   unfold ref18_Runs.k7 at H0
   refine JQ.sub [] ?_
   refine JQ.turn (Δ' := []) (fun _ h => h.to) ?_
   refine JQ.then_normal ?_
   refine J.sr ?_
   refine JL.as (.bool true) ?_
   refine JL.en ?_
   refine J.ret ?_
   obtain rfl := Option.some.inj H0
   exact JQ.done' (rs := [.tmp 2]) (vs := [.bool true]) [] (.inr rfl) ⟨by kernel_rfl, trivial⟩ (fun _ h => Heap.to h) ⟨rfl, rfl⟩

theorem ref18_Valid.ok (c1 : Count) (r : Bool) (H0 : ref18_Valid.f c1 = some r) :
    Does Try.prog 41 [mv_49 c1].toArray [] [] false (fun v Δ => v = .bool r ∧ Δ = []) := by
 refine Does.body (vs := [mv_49 c1]) Try.func41 rfl trivial trivial fun w S => ?_
 unfold ref18_Valid.f at H0
 refine J.sr ?_
 refine JL.box (cl_49 c1) fun b2 => ?_
 refine JL.as (.bool false) ?_
 refine JL.es [(1, .pointer (some ⟨b2, 0, none⟩))] ?_
 refine J.sr ?_
 refine JL.pur (.pointer (some ⟨b2, 1, none⟩)) (some 3) ?_
 refine JL.val (.int .i64 c1.Lo) (some 4) (yields_load_box 0 1 (holds_box b2 49 (cl_49 c1)) tyAgg_2) ?_
 refine JL.pur (.bool (decide (0 ≤ c1.Lo))) (some 5) ?_
 refine JL.mv (.bool (decide (0 ≤ c1.Lo))) ?_
 rcases ite_cases H0 with ⟨h3, H0⟩ | ⟨h3, H0⟩
 · refine JL.on 3 6 h3 ?_
   refine JL.pur (.pointer (some ⟨b2, 1, none⟩)) (some 7) ?_
   refine JL.on 3 6 h3 ?_
   refine JL.val (.int .i64 c1.Lo) (some 8) (yields_load_box 0 1 (holds_box b2 49 (cl_49 c1)) tyAgg_2) ?_
   refine JL.on 3 6 h3 ?_
   refine JL.pur (.bool (decide (c1.Lo < 1000000000))) (some 9) ?_
   refine JL.val (.bool (decide (c1.Lo < 1000000000))) (some 10) (gives_pickT h3) ?_
   refine JL.mv (.bool (decide (c1.Lo < 1000000000))) ?_
   rcases ite_cases H0 with ⟨h4, H0⟩ | ⟨h4, H0⟩
   · refine JL.on 8 11 h4 ?_
     refine JL.pur (.pointer (some ⟨b2, 0, none⟩)) (some 12) ?_
     refine JL.on 8 11 h4 ?_
     refine JL.val (.int .i64 c1.Hi) (some 13) (yields_load_box 0 0 (holds_box b2 49 (cl_49 c1)) tyAgg_2) ?_
     refine JL.on 8 11 h4 ?_
     refine JL.pur (.bool (decide ((-1000000000) ≤ c1.Hi))) (some 14) ?_
     refine JL.val (.bool (decide ((-1000000000) ≤ c1.Hi))) (some 15) (gives_pickT h4) ?_
     refine JL.mv (.bool (decide ((-1000000000) ≤ c1.Hi))) ?_
     rcases ite_cases H0 with ⟨h5, H0⟩ | ⟨h5, H0⟩
     · refine JL.on 13 16 h5 ?_
       refine JL.pur (.pointer (some ⟨b2, 0, none⟩)) (some 17) ?_
       refine JL.on 13 16 h5 ?_
       refine JL.val (.int .i64 c1.Hi) (some 18) (yields_load_box 0 0 (holds_box b2 49 (cl_49 c1)) tyAgg_2) ?_
       refine JL.on 13 16 h5 ?_
       refine JL.pur (.bool (decide (c1.Hi < 1000000000))) (some 19) ?_
       refine JL.val (.bool (decide (c1.Hi < 1000000000))) (some 20) (gives_pickT h5) ?_
       refine JL.as (.bool (decide (c1.Hi < 1000000000))) ?_
       refine JL.es [(2, .bool (decide (c1.Hi < 1000000000)))] ?_
       refine JQ.mask [] [false] ?_
       refine J.ret ?_
       obtain rfl := Option.some.inj H0
       exact JQ.done' (rs := [.tmp 2]) (vs := [.bool (decide (c1.Hi < 1000000000))]) [] (.inr rfl) ⟨by kernel_rfl, trivial⟩ (fun _ h => Heap.to h) ⟨rfl, rfl⟩
     · refine JL.off 13 16 true (some 17) h5 ?_
       refine JL.off 13 16 true (some 18) h5 ?_
       refine JL.off 13 16 true (some 19) h5 ?_
       refine JL.val (.bool false) (some 20) (gives_pickF h5) ?_
       refine JL.as (.bool false) ?_
       refine JL.es [(2, .bool false)] ?_
       refine JQ.mask [] [false] ?_
       refine J.ret ?_
       obtain rfl := Option.some.inj H0
       exact JQ.done' (rs := [.tmp 2]) (vs := [.bool false]) [] (.inr rfl) ⟨by kernel_rfl, trivial⟩ (fun _ h => Heap.to h) ⟨rfl, rfl⟩
   · refine JL.off 8 11 true (some 12) h4 ?_
     refine JL.off 8 11 true (some 13) h4 ?_
     refine JL.off 8 11 true (some 14) h4 ?_
     refine JL.val (.bool false) (some 15) (gives_pickF h4) ?_
     refine JL.mv (.bool false) ?_
     refine JL.off 13 16 true (some 17) rfl ?_
     refine JL.off 13 16 true (some 18) rfl ?_
     refine JL.off 13 16 true (some 19) rfl ?_
     refine JL.val (.bool false) (some 20) (gives_pickF rfl) ?_
     refine JL.as (.bool false) ?_
     refine JL.es [(2, .bool false)] ?_
     refine JQ.mask [] [false] ?_
     refine J.ret ?_
     obtain rfl := Option.some.inj H0
     exact JQ.done' (rs := [.tmp 2]) (vs := [.bool false]) [] (.inr rfl) ⟨by kernel_rfl, trivial⟩ (fun _ h => Heap.to h) ⟨rfl, rfl⟩
 · refine JL.off 3 6 true (some 7) h3 ?_
   refine JL.off 3 6 true (some 8) h3 ?_
   refine JL.off 3 6 true (some 9) h3 ?_
   refine JL.val (.bool false) (some 10) (gives_pickF h3) ?_
   refine JL.mv (.bool false) ?_
   refine JL.off 8 11 true (some 12) rfl ?_
   refine JL.off 8 11 true (some 13) rfl ?_
   refine JL.off 8 11 true (some 14) rfl ?_
   refine JL.val (.bool false) (some 15) (gives_pickF rfl) ?_
   refine JL.mv (.bool false) ?_
   refine JL.off 13 16 true (some 17) rfl ?_
   refine JL.off 13 16 true (some 18) rfl ?_
   refine JL.off 13 16 true (some 19) rfl ?_
   refine JL.val (.bool false) (some 20) (gives_pickF rfl) ?_
   refine JL.as (.bool false) ?_
   refine JL.es [(2, .bool false)] ?_
   refine JQ.mask [] [false] ?_
   refine J.ret ?_
   obtain rfl := Option.some.inj H0
   exact JQ.done' (rs := [.tmp 2]) (vs := [.bool false]) [] (.inr rfl) ⟨by kernel_rfl, trivial⟩ (fun _ h => Heap.to h) ⟨rfl, rfl⟩

theorem ref18_Worth.ok (c1 : Count) (r : Int) (H0 : ref18_Worth.f c1 = some r) :
    Does Try.prog 31 [mv_49 c1].toArray [] [] false (fun v Δ => v = .int .i64 r ∧ Δ = []) := by
 refine Does.body (vs := [mv_49 c1]) Try.func31 rfl trivial trivial fun w S => ?_
 unfold ref18_Worth.f at H0
 refine J.sr ?_
 refine JL.box (cl_49 c1) fun b2 => ?_
 refine JL.as (.int .i64 0) ?_
 refine JL.es [(1, .pointer (some ⟨b2, 0, none⟩))] ?_
 refine J.sr ?_
 refine JL.pur (.pointer (some ⟨b2, 0, none⟩)) (some 3) ?_
 refine JL.val (.int .i64 c1.Hi) (some 4) (yields_load_box 0 0 (holds_box b2 49 (cl_49 c1)) tyAgg_2) ?_
 refine JL.pur (.int .i64 (w64 (1000000000 * c1.Hi))) (some 5) ?_
 refine JL.pur (.pointer (some ⟨b2, 1, none⟩)) (some 6) ?_
 refine JL.val (.int .i64 c1.Lo) (some 7) (yields_load_box 0 1 (holds_box b2 49 (cl_49 c1)) tyAgg_2) ?_
 refine JL.pur (.int .i64 (w64 ((w64 (1000000000 * c1.Hi)) + c1.Lo))) (some 8) ?_
 refine JL.as (.int .i64 (w64 ((w64 (1000000000 * c1.Hi)) + c1.Lo))) ?_
 refine JL.es [(2, .int .i64 (w64 ((w64 (1000000000 * c1.Hi)) + c1.Lo)))] ?_
 refine JQ.mask [] [false] ?_
 refine J.ret ?_
 obtain rfl := Option.some.inj H0
 exact JQ.done' (rs := [.tmp 2]) (vs := [.int .i64 (w64 ((w64 (1000000000 * c1.Hi)) + c1.Lo))]) [] (.inr rfl) ⟨by kernel_rfl, trivial⟩ (fun _ h => Heap.to h) ⟨rfl, rfl⟩

theorem ref18_Check.ok (a1 : Acc) (Aa2 : Option Addr) (c3 : Nat) (Aa5 : Option Addr) (c6 : Nat) (Aa8 : Option Addr) (c9 : Nat) (r : Int) (H0 : ref18_Check.f a1 = some r) :
    Does Try.prog 23 [.agg #[.slice Aa2 a1.Sums.length c3, .slice Aa5 a1.Ns.length c6, .slice Aa8 a1.Spans.length c9]].toArray [At.rd Aa2 c3 fl_Count.kd a1.Sums true, At.rd Aa5 c6 fl_Count.kd a1.Ns true, At.rd Aa8 c9 fl_Gap.kd a1.Spans true] [] false (fun v Δ => v = .int .i64 r ∧ Δ = []) := by
 refine Does.body (vs := [.agg #[.slice Aa2 a1.Sums.length c3, .slice Aa5 a1.Ns.length c6, .slice Aa8 a1.Spans.length c9]]) Try.func23 rfl ⟨.inl rfl, .inl rfl, .inl rfl, trivial⟩ trivial fun w S => ?_
 unfold ref18_Check.f at H0
 refine J.sr ?_
 refine JL.box [.slice Aa2 a1.Sums.length c3, .slice Aa5 a1.Ns.length c6, .slice Aa8 a1.Spans.length c9] fun b11 => ?_
 refine JL.as (.int .i64 0) ?_
 refine JL.es [(1, .pointer (some ⟨b11, 0, none⟩))] ?_
 refine J.seq ?_
 refine J.join (T := Bool) (G := Unit) (fun t => ref18_Check.k1 a1 t = some r) (fun t g => [(1, .pointer (some ⟨b11, 0, none⟩)), (19, .bool t)]) (fun t g => [At.box b11 25 [.slice Aa2 a1.Sums.length c3, .slice Aa5 a1.Ns.length c6, .slice Aa8 a1.Spans.length c9], At.rd Aa2 c3 fl_Count.kd a1.Sums true, At.rd Aa5 c6 fl_Count.kd a1.Ns true, At.rd Aa8 c9 fl_Gap.kd a1.Spans true]) ?_ ?_
 · refine J.region ?_
   refine JL.pur (.pointer (some ⟨b11, 0, none⟩)) (some 4) ?_
   refine JL.val (.slice Aa2 a1.Sums.length c3) (some 5) (yields_load_box 3 0 (holds_box b11 25 [.slice Aa2 a1.Sums.length c3, .slice Aa5 a1.Ns.length c6, .slice Aa8 a1.Spans.length c9]) tyAgg_22) ?_
   refine JL.pur (.int .i64 (a1.Sums.length : Int)) (some 6) ?_
   refine JL.pur (.bool (decide (511 < (a1.Sums.length : Int)))) (some 7) ?_
   refine JL.mv (.bool (decide (511 < (a1.Sums.length : Int)))) ?_
   rcases ite_cases H0 with ⟨h201, H0⟩ | ⟨h201, H0⟩
   · refine JL.off 4 8 false (some 9) h201 ?_
     refine JL.off 4 8 false (some 10) h201 ?_
     refine JL.off 4 8 false (some 11) h201 ?_
     refine JL.off 4 8 false (some 12) h201 ?_
     refine JL.val (.bool true) (some 13) (gives_pickT h201) ?_
     refine JL.mv (.bool true) ?_
     refine JL.off 10 14 false (some 15) rfl ?_
     refine JL.off 10 14 false (some 16) rfl ?_
     refine JL.off 10 14 false (some 17) rfl ?_
     refine JL.off 10 14 false (some 18) rfl ?_
     refine JL.val (.bool true) (some 19) (gives_pickT rfl) ?_
     refine JL.en ?_
     exact JQ.meet true () H0 (fun _ h => Heap.to (Heap.pick [3, 0, 1, 2] (by decide) h))
   · refine JL.on 4 8 h201 ?_
     refine JL.pur (.pointer (some ⟨b11, 1, none⟩)) (some 9) ?_
     refine JL.on 4 8 h201 ?_
     refine JL.val (.slice Aa5 a1.Ns.length c6) (some 10) (yields_load_box 3 1 (holds_box b11 25 [.slice Aa2 a1.Sums.length c3, .slice Aa5 a1.Ns.length c6, .slice Aa8 a1.Spans.length c9]) tyAgg_22) ?_
     refine JL.on 4 8 h201 ?_
     refine JL.pur (.int .i64 (a1.Ns.length : Int)) (some 11) ?_
     refine JL.on 4 8 h201 ?_
     refine JL.pur (.bool (decide (511 < (a1.Ns.length : Int)))) (some 12) ?_
     refine JL.val (.bool (decide (511 < (a1.Ns.length : Int)))) (some 13) (gives_pickF h201) ?_
     refine JL.mv (.bool (decide (511 < (a1.Ns.length : Int)))) ?_
     rcases ite_cases H0 with ⟨h202, H0⟩ | ⟨h202, H0⟩
     · refine JL.off 10 14 false (some 15) h202 ?_
       refine JL.off 10 14 false (some 16) h202 ?_
       refine JL.off 10 14 false (some 17) h202 ?_
       refine JL.off 10 14 false (some 18) h202 ?_
       refine JL.val (.bool true) (some 19) (gives_pickT h202) ?_
       refine JL.en ?_
       exact JQ.meet true () H0 (fun _ h => Heap.to (Heap.pick [3, 0, 1, 2] (by decide) h))
     · refine JL.on 10 14 h202 ?_
       refine JL.pur (.pointer (some ⟨b11, 2, none⟩)) (some 15) ?_
       refine JL.on 10 14 h202 ?_
       refine JL.val (.slice Aa8 a1.Spans.length c9) (some 16) (yields_load_box 3 2 (holds_box b11 25 [.slice Aa2 a1.Sums.length c3, .slice Aa5 a1.Ns.length c6, .slice Aa8 a1.Spans.length c9]) tyAgg_23) ?_
       refine JL.on 10 14 h202 ?_
       refine JL.pur (.int .i64 (a1.Spans.length : Int)) (some 17) ?_
       refine JL.on 10 14 h202 ?_
       refine JL.pur (.bool (decide (64 < (a1.Spans.length : Int)))) (some 18) ?_
       refine JL.val (.bool (decide (64 < (a1.Spans.length : Int)))) (some 19) (gives_pickF h202) ?_
       refine JL.en ?_
       exact JQ.meet (decide (64 < (a1.Spans.length : Int))) () H0 (fun _ h => Heap.to (Heap.pick [3, 0, 1, 2] (by decide) h))
 · clear H0
   rintro x14 ⟨⟩ H0
   replace H0 : ref18_Check.k1 a1 x14 = some r := H0
   unfold ref18_Check.k1 at H0
   refine JQ.sub [(1, .pointer (some ⟨b11, 0, none⟩)), (19, .bool x14)] ?_
   refine JQ.turn (Δ' := [At.box b11 25 [.slice Aa2 a1.Sums.length c3, .slice Aa5 a1.Ns.length c6, .slice Aa8 a1.Spans.length c9], At.rd Aa2 c3 fl_Count.kd a1.Sums true, At.rd Aa5 c6 fl_Count.kd a1.Ns true, At.rd Aa8 c9 fl_Gap.kd a1.Spans true]) (fun _ h => h.to) ?_
   rcases ite_cases H0 with ⟨h15, H0⟩ | ⟨h15, H0⟩
   · refine J.cond_true h15 ?_
     refine J.sr ?_
     refine JL.as (.int .i64 4) ?_
     refine JL.es [(2, .int .i64 4)] ?_
     refine JQ.mask [] [false, false, false, false] ?_
     refine J.ret ?_
     refine JQ.then_ret ?_
     obtain rfl := Option.some.inj H0
     exact JQ.done' (rs := [.tmp 2]) (vs := [.int .i64 4]) [] (.inr rfl) ⟨by kernel_rfl, trivial⟩ (fun _ h => Heap.to h) ⟨rfl, rfl⟩
   · refine J.cond_false h15 ?_
     refine J.skip ?_
     refine JQ.ts [(1, .pointer (some ⟨b11, 0, none⟩))] ?_
     refine J.seq ?_
     refine J.join (T := Bool) (G := Unit) (fun t => ref18_Check.k2 a1 t = some r) (fun t g => [(1, .pointer (some ⟨b11, 0, none⟩)), (39, .bool t)]) (fun t g => [At.box b11 25 [.slice Aa2 a1.Sums.length c3, .slice Aa5 a1.Ns.length c6, .slice Aa8 a1.Spans.length c9], At.rd Aa2 c3 fl_Count.kd a1.Sums true, At.rd Aa5 c6 fl_Count.kd a1.Ns true, At.rd Aa8 c9 fl_Gap.kd a1.Spans true]) ?_ ?_
     · refine J.region ?_
       refine JL.pur (.pointer (some ⟨b11, 0, none⟩)) (some 20) ?_
       refine JL.val (.slice Aa2 a1.Sums.length c3) (some 21) (yields_load_box 0 0 (holds_box b11 25 [.slice Aa2 a1.Sums.length c3, .slice Aa5 a1.Ns.length c6, .slice Aa8 a1.Spans.length c9]) tyAgg_22) ?_
       refine JL.pur (.int .i64 (a1.Sums.length : Int)) (some 22) ?_
       refine JL.pur (.pointer (some ⟨b11, 1, none⟩)) (some 23) ?_
       refine JL.val (.slice Aa5 a1.Ns.length c6) (some 24) (yields_load_box 0 1 (holds_box b11 25 [.slice Aa2 a1.Sums.length c3, .slice Aa5 a1.Ns.length c6, .slice Aa8 a1.Spans.length c9]) tyAgg_22) ?_
       refine JL.pur (.int .i64 (a1.Ns.length : Int)) (some 25) ?_
       refine JL.pur (.bool (!decide ((a1.Sums.length : Int) = (a1.Ns.length : Int)))) (some 26) ?_
       refine JL.mv (.bool (!decide ((a1.Sums.length : Int) = (a1.Ns.length : Int)))) ?_
       rcases ite_cases H0 with ⟨h197, H0⟩ | ⟨h197, H0⟩
       · refine JL.off 7 27 false (some 28) h197 ?_
         refine JL.off 7 27 false (some 29) h197 ?_
         refine JL.off 7 27 false (some 30) h197 ?_
         refine JL.off 7 27 false (some 31) h197 ?_
         refine JL.off 7 27 false (some 32) h197 ?_
         refine JL.val (.bool true) (some 33) (gives_pickT h197) ?_
         refine JL.mv (.bool true) ?_
         refine JL.off 14 34 false (some 35) rfl ?_
         refine JL.off 14 34 false (some 36) rfl ?_
         refine JL.off 14 34 false (some 37) rfl ?_
         refine JL.off 14 34 false (some 38) rfl ?_
         refine JL.val (.bool true) (some 39) (gives_pickT rfl) ?_
         refine JL.en ?_
         exact JQ.meet true () H0 (fun _ h => Heap.to h)
       · refine JL.on 7 27 h197 ?_
         refine JL.pur (.pointer (some ⟨b11, 0, none⟩)) (some 28) ?_
         refine JL.on 7 27 h197 ?_
         refine JL.val (.slice Aa2 a1.Sums.length c3) (some 29) (yields_load_box 0 0 (holds_box b11 25 [.slice Aa2 a1.Sums.length c3, .slice Aa5 a1.Ns.length c6, .slice Aa8 a1.Spans.length c9]) tyAgg_22) ?_
         refine JL.on 7 27 h197 ?_
         refine JL.pur (.int .i64 (a1.Sums.length : Int)) (some 30) ?_
         refine JL.on 7 27 h197 ?_
         refine JL.pur (.int .i64 (Int.tmod (a1.Sums.length : Int) 2)) (some 31) ?_
         refine JL.on 7 27 h197 ?_
         refine JL.pur (.bool (!decide (Int.tmod (a1.Sums.length : Int) 2 = 1))) (some 32) ?_
         refine JL.val (.bool (!decide (Int.tmod (a1.Sums.length : Int) 2 = 1))) (some 33) (gives_pickF h197) ?_
         refine JL.mv (.bool (!decide (Int.tmod (a1.Sums.length : Int) 2 = 1))) ?_
         rcases ite_cases H0 with ⟨h198, H0⟩ | ⟨h198, H0⟩
         · refine JL.off 14 34 false (some 35) h198 ?_
           refine JL.off 14 34 false (some 36) h198 ?_
           refine JL.off 14 34 false (some 37) h198 ?_
           refine JL.off 14 34 false (some 38) h198 ?_
           refine JL.val (.bool true) (some 39) (gives_pickT h198) ?_
           refine JL.en ?_
           exact JQ.meet true () H0 (fun _ h => Heap.to h)
         · refine JL.on 14 34 h198 ?_
           refine JL.pur (.pointer (some ⟨b11, 2, none⟩)) (some 35) ?_
           refine JL.on 14 34 h198 ?_
           refine JL.val (.slice Aa8 a1.Spans.length c9) (some 36) (yields_load_box 0 2 (holds_box b11 25 [.slice Aa2 a1.Sums.length c3, .slice Aa5 a1.Ns.length c6, .slice Aa8 a1.Spans.length c9]) tyAgg_23) ?_
           refine JL.on 14 34 h198 ?_
           obtain ⟨t199, hc200, H0⟩ := bind_some H0
           refine JL.call [] [] [] (ref18_Runs.ok a1.Spans Aa8 c9 _ hc200) ⟨pre_any 3 (view_rd Aa8 c9 fl_Gap.kd a1.Spans true true), trivial⟩ ?_
           rintro _ _ ⟨rfl, rfl⟩
           refine JL.on 14 34 h198 ?_
           refine JL.pur (.bool (!t199)) (some 38) ?_
           refine JL.val (.bool (!t199)) (some 39) (gives_pickF h198) ?_
           refine JL.en ?_
           exact JQ.meet (!t199) () H0 (fun _ h => Heap.to h)
     · clear H0
       rintro x20 ⟨⟩ H0
       replace H0 : ref18_Check.k2 a1 x20 = some r := H0
       unfold ref18_Check.k2 at H0
       refine JQ.sub [(1, .pointer (some ⟨b11, 0, none⟩)), (39, .bool x20)] ?_
       refine JQ.turn (Δ' := [At.box b11 25 [.slice Aa2 a1.Sums.length c3, .slice Aa5 a1.Ns.length c6, .slice Aa8 a1.Spans.length c9], At.rd Aa2 c3 fl_Count.kd a1.Sums true, At.rd Aa5 c6 fl_Count.kd a1.Ns true, At.rd Aa8 c9 fl_Gap.kd a1.Spans true]) (fun _ h => h.to) ?_
       rcases ite_cases H0 with ⟨h21, H0⟩ | ⟨h21, H0⟩
       · refine J.cond_true h21 ?_
         refine J.sr ?_
         refine JL.as (.int .i64 8) ?_
         refine JL.es [(2, .int .i64 8)] ?_
         refine JQ.mask [] [false, false, false, false] ?_
         refine J.ret ?_
         refine JQ.then_ret ?_
         obtain rfl := Option.some.inj H0
         exact JQ.done' (rs := [.tmp 2]) (vs := [.int .i64 8]) [] (.inr rfl) ⟨by kernel_rfl, trivial⟩ (fun _ h => Heap.to h) ⟨rfl, rfl⟩
       · refine J.cond_false h21 ?_
         refine J.skip ?_
         refine JQ.ts [(1, .pointer (some ⟨b11, 0, none⟩))] ?_
         refine J.seq ?_
         refine J.sr ?_
         refine JL.as (.int .i64 0) ?_
         refine JL.en ?_
         obtain ⟨o1, hit, H0⟩ := bind_some H0
         refine J.loop (σ := Int) (τ := Unit) (G := Unit) (G' := Unit) _ o1 (fun s g => [(1, .pointer (some ⟨b11, 0, none⟩)), (3, .int .i64 s)]) (fun s g => [At.box b11 25 [.slice Aa2 a1.Sums.length c3, .slice Aa5 a1.Ns.length c6, .slice Aa8 a1.Spans.length c9], At.rd Aa2 c3 fl_Count.kd a1.Sums true, At.rd Aa5 c6 fl_Count.kd a1.Ns true, At.rd Aa8 c9 fl_Gap.kd a1.Spans true]) (fun t => ref18_Check.k7 = some r) (fun t g => []) (fun t g => []) 0 () hit (fun _ h => Heap.to h) ?_ ?_
         · clear hit
           rintro i110 ⟨⟩ st1 H1 hb1 hr1
           replace H1 : ref18_Check.s6 a1 i110 = some st1 := H1
           unfold ref18_Check.s6 at H1
           refine JQ.sub [(1, .pointer (some ⟨b11, 0, none⟩)), (3, .int .i64 i110)] ?_
           refine JQ.turn (Δ' := [At.box b11 25 [.slice Aa2 a1.Sums.length c3, .slice Aa5 a1.Ns.length c6, .slice Aa8 a1.Spans.length c9], At.rd Aa2 c3 fl_Count.kd a1.Sums true, At.rd Aa5 c6 fl_Count.kd a1.Ns true, At.rd Aa8 c9 fl_Gap.kd a1.Spans true]) (fun _ h => h.to) ?_
           refine J.seq ?_
           refine J.sr ?_
           refine JL.mv (.int .i64 i110) ?_
           refine JL.pur (.pointer (some ⟨b11, 0, none⟩)) (some 41) ?_
           refine JL.val (.slice Aa2 a1.Sums.length c3) (some 42) (yields_load_box 0 0 (holds_box b11 25 [.slice Aa2 a1.Sums.length c3, .slice Aa5 a1.Ns.length c6, .slice Aa8 a1.Spans.length c9]) tyAgg_22) ?_
           refine JL.pur (.int .i64 (a1.Sums.length : Int)) (some 43) ?_
           refine JL.pur (.bool (decide (i110 < (a1.Sums.length : Int)))) (some 44) ?_
           refine JL.es [(1, .pointer (some ⟨b11, 0, none⟩)), (3, .int .i64 i110), (44, .bool (decide (i110 < (a1.Sums.length : Int))))] ?_
           rcases ite_cases H1 with ⟨h154, H1⟩ | ⟨h154, H1⟩
           · refine J.cond_true h154 ?_
             refine J.skip ?_
             refine JQ.ts [(1, .pointer (some ⟨b11, 0, none⟩)), (3, .int .i64 i110)] ?_
             refine J.seq ?_
             refine J.block ?_
             refine J.join (T := Bool) (G := Unit) (fun t => ref18_Check.k8 i110 t = some st1) (fun t g => [(1, .pointer (some ⟨b11, 0, none⟩)), (3, .int .i64 i110), (71, .bool t)]) (fun t g => [At.box b11 25 [.slice Aa2 a1.Sums.length c3, .slice Aa5 a1.Ns.length c6, .slice Aa8 a1.Spans.length c9], At.rd Aa2 c3 fl_Count.kd a1.Sums true, At.rd Aa5 c6 fl_Count.kd a1.Ns true, At.rd Aa8 c9 fl_Gap.kd a1.Spans true]) ?_ ?_
             · refine J.region ?_
               refine JL.pur (.pointer (some ⟨b11, 0, none⟩)) (some 47) ?_
               refine JL.val (.slice Aa2 a1.Sums.length c3) (some 48) (yields_load_box 0 0 (holds_box b11 25 [.slice Aa2 a1.Sums.length c3, .slice Aa5 a1.Ns.length c6, .slice Aa8 a1.Spans.length c9]) tyAgg_22) ?_
               refine JL.mv (.int .i64 i110) ?_
               obtain ⟨⟨h177, h178⟩, H1⟩ := ite_must H1
               refine JL.ixAddr 1 2 c3 .i64 (elems_rd Aa2 c3 fl_Count.kd a1.Sums true) Try.underlying22 tySize_49 h177 h178 fun g179 o180 hA => ?_
               subst hA
               refine JL.val (mv_49 (ix a1.Sums i110)) (some 51) (gives_loadEl (f := fl_Count) 1 0 i110 (elems_rd (some ⟨g179, o180, none⟩) c3 fl_Count.kd a1.Sums true) h177 h178 tySize_49 (.inl ⟨tyAgg_49, rfl⟩)) ?_
               obtain ⟨t181, hc182, H1⟩ := bind_some H1
               refine JL.call [] [] [] (ref18_Valid.ok (ix a1.Sums i110) _ hc182) trivial ?_
               rintro _ _ ⟨rfl, rfl⟩
               refine JL.pur (.bool (!t181)) (some 53) ?_
               refine JL.mv (.bool (!t181)) ?_
               rcases ite_cases H1 with ⟨h183, H1⟩ | ⟨h183, H1⟩
               · refine JL.off 7 54 false (some 55) h183 ?_
                 refine JL.off 7 54 false (some 56) h183 ?_
                 refine JL.off 7 54 false (some 57) h183 ?_
                 refine JL.off 7 54 false (some 58) h183 ?_
                 refine JL.off 7 54 false (some 59) h183 ?_
                 refine JL.off 7 54 false (some 60) h183 ?_
                 refine JL.off 7 54 false (some 61) h183 ?_
                 refine JL.val (.bool true) (some 62) (gives_pickT h183) ?_
                 refine JL.mv (.bool true) ?_
                 refine JL.off 16 63 false (some 64) rfl ?_
                 refine JL.off 16 63 false (some 65) rfl ?_
                 refine JL.off 16 63 false (some 66) rfl ?_
                 refine JL.off 16 63 false (some 67) rfl ?_
                 refine JL.off 16 63 false (some 68) rfl ?_
                 refine JL.off 16 63 false (some 69) rfl ?_
                 refine JL.off 16 63 false (some 70) rfl ?_
                 refine JL.val (.bool true) (some 71) (gives_pickT rfl) ?_
                 refine JL.en ?_
                 exact JQ.meet true () H1 (fun _ h => Heap.to h)
               · refine JL.on 7 54 h183 ?_
                 refine JL.pur (.pointer (some ⟨b11, 1, none⟩)) (some 55) ?_
                 refine JL.on 7 54 h183 ?_
                 refine JL.val (.slice Aa5 a1.Ns.length c6) (some 56) (yields_load_box 0 1 (holds_box b11 25 [.slice (some ⟨g179, o180, none⟩) a1.Sums.length c3, .slice Aa5 a1.Ns.length c6, .slice Aa8 a1.Spans.length c9]) tyAgg_22) ?_
                 refine JL.on 7 54 h183 ?_
                 refine JL.mv (.int .i64 i110) ?_
                 refine JL.on 7 54 h183 ?_
                 obtain ⟨⟨h184, h185⟩, H1⟩ := ite_must H1
                 refine JL.ixAddr 2 2 c6 .i64 (elems_rd Aa5 c6 fl_Count.kd a1.Ns true) Try.underlying22 tySize_49 h184 h185 fun g186 o187 hA => ?_
                 subst hA
                 refine JL.on 7 54 h183 ?_
                 refine JL.val (mv_49 (ix a1.Ns i110)) (some 59) (gives_loadEl (f := fl_Count) 2 0 i110 (elems_rd (some ⟨g186, o187, none⟩) c6 fl_Count.kd a1.Ns true) h184 h185 tySize_49 (.inl ⟨tyAgg_49, rfl⟩)) ?_
                 refine JL.on 7 54 h183 ?_
                 obtain ⟨t188, hc189, H1⟩ := bind_some H1
                 refine JL.call [] [] [] (ref18_Valid.ok (ix a1.Ns i110) _ hc189) trivial ?_
                 rintro _ _ ⟨rfl, rfl⟩
                 refine JL.on 7 54 h183 ?_
                 refine JL.pur (.bool (!t188)) (some 61) ?_
                 refine JL.val (.bool (!t188)) (some 62) (gives_pickF h183) ?_
                 refine JL.mv (.bool (!t188)) ?_
                 rcases ite_cases H1 with ⟨h190, H1⟩ | ⟨h190, H1⟩
                 · refine JL.off 16 63 false (some 64) h190 ?_
                   refine JL.off 16 63 false (some 65) h190 ?_
                   refine JL.off 16 63 false (some 66) h190 ?_
                   refine JL.off 16 63 false (some 67) h190 ?_
                   refine JL.off 16 63 false (some 68) h190 ?_
                   refine JL.off 16 63 false (some 69) h190 ?_
                   refine JL.off 16 63 false (some 70) h190 ?_
                   refine JL.val (.bool true) (some 71) (gives_pickT h190) ?_
                   refine JL.en ?_
                   exact JQ.meet true () H1 (fun _ h => Heap.to h)
                 · refine JL.on 16 63 h190 ?_
                   refine JL.pur (.pointer (some ⟨b11, 1, none⟩)) (some 64) ?_
                   refine JL.on 16 63 h190 ?_
                   refine JL.val (.slice (some ⟨g186, o187, none⟩) a1.Ns.length c6) (some 65) (yields_load_box 0 1 (holds_box b11 25 [.slice (some ⟨g179, o180, none⟩) a1.Sums.length c3, .slice (some ⟨g186, o187, none⟩) a1.Ns.length c6, .slice Aa8 a1.Spans.length c9]) tyAgg_22) ?_
                   refine JL.on 16 63 h190 ?_
                   refine JL.mv (.int .i64 i110) ?_
                   refine JL.on 16 63 h190 ?_
                   refine JL.ixAddr' 2 2 c6 .i64 (elems_rd (some ⟨g186, o187, none⟩) c6 fl_Count.kd a1.Ns true) Try.underlying22 tySize_49 h184 h185 ?_
                   refine JL.on 16 63 h190 ?_
                   refine JL.val (mv_49 (ix a1.Ns i110)) (some 68) (gives_loadEl (f := fl_Count) 2 0 i110 (elems_rd (some ⟨g186, o187, none⟩) c6 fl_Count.kd a1.Ns true) h184 h185 tySize_49 (.inl ⟨tyAgg_49, rfl⟩)) ?_
                   refine JL.on 16 63 h190 ?_
                   obtain ⟨t195, hc196, H1⟩ := bind_some H1
                   refine JL.call [] [] [] (ref18_Worth.ok (ix a1.Ns i110) _ hc196) trivial ?_
                   rintro _ _ ⟨rfl, rfl⟩
                   refine JL.on 16 63 h190 ?_
                   refine JL.pur (.bool (decide (t195 < 0))) (some 70) ?_
                   refine JL.val (.bool (decide (t195 < 0))) (some 71) (gives_pickF h190) ?_
                   refine JL.en ?_
                   exact JQ.meet (decide (t195 < 0)) () H1 (fun _ h => Heap.to h)
             · clear H1
               rintro x175 ⟨⟩ H1
               replace H1 : ref18_Check.k8 i110 x175 = some st1 := H1
               unfold ref18_Check.k8 at H1
               refine JQ.sub [(1, .pointer (some ⟨b11, 0, none⟩)), (3, .int .i64 i110), (71, .bool x175)] ?_
               refine JQ.turn (Δ' := [At.box b11 25 [.slice Aa2 a1.Sums.length c3, .slice Aa5 a1.Ns.length c6, .slice Aa8 a1.Spans.length c9], At.rd Aa2 c3 fl_Count.kd a1.Sums true, At.rd Aa5 c6 fl_Count.kd a1.Ns true, At.rd Aa8 c9 fl_Gap.kd a1.Spans true]) (fun _ h => h.to) ?_
               rcases ite_cases H1 with ⟨h176, H1⟩ | ⟨h176, H1⟩
               · refine J.cond_true h176 ?_
                 refine J.sr ?_
                 refine JL.as (.int .i64 8) ?_
                 refine JL.es [(2, .int .i64 8)] ?_
                 refine JQ.mask [] [false, false, false, false] ?_
                 refine J.ret ?_
                 refine JQ.blk_ret ?_
                 refine JQ.then_ret ?_
                 refine JQ.then_ret ?_
                 refine JQ.blk_ret ?_
                 refine JQ.met_ret ?_
                 refine JQ.then_ret ?_
                 rw [hr1 _ (Option.some.inj H1).symm, fin_ret] at H0
                 obtain rfl := Option.some.inj H0
                 exact JQ.done' (rs := [.tmp 2]) (vs := [.int .i64 8]) [] (.inr rfl) ⟨by kernel_rfl, trivial⟩ (fun _ h => Heap.to h) ⟨rfl, rfl⟩
               · refine J.cond_false h176 ?_
                 refine J.skip ?_
                 refine JQ.blk_normal ?_
                 refine JQ.ts [(1, .pointer (some ⟨b11, 0, none⟩)), (3, .int .i64 i110)] ?_
                 refine J.region ?_
                 refine JL.mv (.int .i64 i110) ?_
                 refine JL.pur (.int .i64 (w64 (i110 + 1))) (some 46) ?_
                 refine JL.as (.int .i64 (w64 (i110 + 1))) ?_
                 refine JL.en ?_
                 exact JQ.again (w64 (i110 + 1)) () (Option.some.inj H1).symm (fun _ h => Heap.to h)
           · refine J.cond_false h154 ?_
             refine J.exit ?_
             refine JQ.then_exit ?_
             refine JQ.then_exit ?_
             refine JQ.blk_exit ?_
             rw [hb1 _ (Option.some.inj H1).symm, fin_brk] at H0
             exact JQ.met () () H0 (fun _ h => Heap.to (Heap.pick [] (by decide) h))
         · clear hit H0
           rintro ⟨⟩ ⟨⟩ H0
           replace H0 : ref18_Check.k7 = some r := H0
           unfold ref18_Check.k7 at H0
           refine JQ.sub [] ?_
           refine JQ.turn (Δ' := []) (fun _ h => h.to) ?_
           refine JQ.then_normal ?_
           refine J.sr ?_
           refine JL.as (.int .i64 0) ?_
           refine JL.en ?_
           refine J.ret ?_
           obtain rfl := Option.some.inj H0
           exact JQ.done' (rs := [.tmp 2]) (vs := [.int .i64 0]) [] (.inr rfl) ⟨by kernel_rfl, trivial⟩ (fun _ h => Heap.to h) ⟨rfl, rfl⟩

theorem law18_fit.ok (a1 : Acc) (Aa2 : Option Addr) (c3 : Nat) (Aa5 : Option Addr) (c6 : Nat) (Aa8 : Option Addr) (c9 : Nat) (r : Bool) (H0 : law18_fit.f a1 = some r) :
    Does Try.prog 22 [.agg #[.slice Aa2 a1.Sums.length c3, .slice Aa5 a1.Ns.length c6, .slice Aa8 a1.Spans.length c9]].toArray [At.rd Aa2 c3 fl_Count.kd a1.Sums true, At.rd Aa5 c6 fl_Count.kd a1.Ns true, At.rd Aa8 c9 fl_Gap.kd a1.Spans true] [] false (fun v Δ => v = .bool r ∧ Δ = []) := by
 refine Does.body (vs := [.agg #[.slice Aa2 a1.Sums.length c3, .slice Aa5 a1.Ns.length c6, .slice Aa8 a1.Spans.length c9]]) Try.func22 rfl ⟨.inl rfl, .inl rfl, .inl rfl, trivial⟩ trivial fun w S => ?_
 unfold law18_fit.f at H0
 refine J.sr ?_
 refine JL.box [.slice Aa2 a1.Sums.length c3, .slice Aa5 a1.Ns.length c6, .slice Aa8 a1.Spans.length c9] fun b11 => ?_
 refine JL.as (.bool false) ?_
 refine JL.es [(1, .pointer (some ⟨b11, 0, none⟩))] ?_
 refine J.sr ?_
 refine JL.val (.agg #[.slice Aa2 a1.Sums.length c3, .slice Aa5 a1.Ns.length c6, .slice Aa8 a1.Spans.length c9]) (some 3) (yields_load_boxes 3 0 [.slice Aa2 a1.Sums.length c3, .slice Aa5 a1.Ns.length c6, .slice Aa8 a1.Spans.length c9] (holds_box b11 25 [.slice Aa2 a1.Sums.length c3, .slice Aa5 a1.Ns.length c6, .slice Aa8 a1.Spans.length c9]) tyAgg_25 tySize_25) ?_
 obtain ⟨t12, hc13, H0⟩ := bind_some H0
 refine JL.call [] [] [] (ref18_Great.ok a1 Aa2 c3 Aa5 c6 Aa8 c9 _ hc13) ⟨pre_any 0 (view_rd Aa2 c3 fl_Count.kd a1.Sums true true), ⟨pre_any 1 (view_rd Aa5 c6 fl_Count.kd a1.Ns true true), ⟨pre_any 2 (view_rd Aa8 c9 fl_Gap.kd a1.Spans true true), trivial⟩⟩⟩ ?_
 rintro _ _ ⟨rfl, rfl⟩
 refine JL.pur (.bool (!t12)) (some 5) ?_
 refine JL.mv (.bool (!t12)) ?_
 rcases ite_cases H0 with ⟨h14, H0⟩ | ⟨h14, H0⟩
 · refine JL.on 3 6 h14 ?_
   refine JL.val (.agg #[.slice Aa2 a1.Sums.length c3, .slice Aa5 a1.Ns.length c6, .slice Aa8 a1.Spans.length c9]) (some 7) (yields_load_boxes 3 0 [.slice Aa2 a1.Sums.length c3, .slice Aa5 a1.Ns.length c6, .slice Aa8 a1.Spans.length c9] (holds_box b11 25 [.slice Aa2 a1.Sums.length c3, .slice Aa5 a1.Ns.length c6, .slice Aa8 a1.Spans.length c9]) tyAgg_25 tySize_25) ?_
   refine JL.on 3 6 h14 ?_
   obtain ⟨t15, hc16, H0⟩ := bind_some H0
   refine JL.call [] [] [] (ref18_Check.ok a1 Aa2 c3 Aa5 c6 Aa8 c9 _ hc16) ⟨pre_any 0 (view_rd Aa2 c3 fl_Count.kd a1.Sums true true), ⟨pre_any 1 (view_rd Aa5 c6 fl_Count.kd a1.Ns true true), ⟨pre_any 2 (view_rd Aa8 c9 fl_Gap.kd a1.Spans true true), trivial⟩⟩⟩ ?_
   rintro _ _ ⟨rfl, rfl⟩
   refine JL.on 3 6 h14 ?_
   refine JL.pur (.bool (decide (t15 = 0))) (some 9) ?_
   refine JL.val (.bool (decide (t15 = 0))) (some 10) (gives_pickT h14) ?_
   refine JL.as (.bool (decide (t15 = 0))) ?_
   refine JL.es [(2, .bool (decide (t15 = 0)))] ?_
   refine JQ.mask [] [false, false, false, false] ?_
   refine J.ret ?_
   obtain rfl := Option.some.inj H0
   exact JQ.done' (rs := [.tmp 2]) (vs := [.bool (decide (t15 = 0))]) [] (.inr rfl) ⟨by kernel_rfl, trivial⟩ (fun _ h => Heap.to h) ⟨rfl, rfl⟩
 · refine JL.off 3 6 true (some 7) h14 ?_
   refine JL.off 3 6 true (some 8) h14 ?_
   refine JL.off 3 6 true (some 9) h14 ?_
   refine JL.val (.bool false) (some 10) (gives_pickF h14) ?_
   refine JL.as (.bool false) ?_
   refine JL.es [(2, .bool false)] ?_
   refine JQ.mask [] [false, false, false, false] ?_
   refine J.ret ?_
   obtain rfl := Option.some.inj H0
   exact JQ.done' (rs := [.tmp 2]) (vs := [.bool false]) [] (.inr rfl) ⟨by kernel_rfl, trivial⟩ (fun _ h => Heap.to h) ⟨rfl, rfl⟩

theorem ref16_Long.ok (l1 : (List Lag)) (Aa2 : Option Addr) (c3 : Nat) (r : Bool) (H0 : ref16_Long.f l1 = some r) :
    Does Try.prog 24 [.slice Aa2 l1.length c3].toArray [At.rd Aa2 c3 fl_Lag.kd l1 true] [] false (fun v Δ => v = .bool r ∧ Δ = []) := by
 refine Does.body (vs := [.slice Aa2 l1.length c3]) Try.func24 rfl ⟨.inl rfl, trivial⟩ trivial fun w S => ?_
 unfold ref16_Long.f at H0
 refine J.sr ?_
 refine JL.as (.bool false) ?_
 refine JL.es [(0, .slice Aa2 l1.length c3)] ?_
 refine J.sr ?_
 refine JL.mv (.slice Aa2 l1.length c3) ?_
 refine JL.pur (.int .i64 (l1.length : Int)) (some 4) ?_
 refine JL.pur (.bool (decide (600 < (l1.length : Int)))) (some 5) ?_
 refine JL.as (.bool (decide (600 < (l1.length : Int)))) ?_
 refine JL.es [(2, .bool (decide (600 < (l1.length : Int))))] ?_
 refine JQ.mask [] [false] ?_
 refine J.ret ?_
 obtain rfl := Option.some.inj H0
 exact JQ.done' (rs := [.tmp 2]) (vs := [.bool (decide (600 < (l1.length : Int)))]) [] (.inr rfl) ⟨by kernel_rfl, trivial⟩ (fun _ h => Heap.to h) ⟨rfl, rfl⟩

theorem ref16_even.ok (n1 : Int) (r : Bool) (H0 : ref16_even.f n1 = some r) :
    Does Try.prog 42 [.int .i64 n1].toArray [] [] false (fun v Δ => v = .bool r ∧ Δ = []) := by
 refine Does.body (vs := [.int .i64 n1]) Try.func42 rfl trivial trivial fun w S => ?_
 unfold ref16_even.f at H0
 refine J.sr ?_
 refine JL.as (.bool false) ?_
 refine JL.es [(0, .int .i64 n1)] ?_
 refine J.sr ?_
 refine JL.mv (.int .i64 n1) ?_
 refine JL.pur (.int .i64 (Int.tmod n1 2)) (some 4) ?_
 refine JL.pur (.bool (decide (Int.tmod n1 2 = 0))) (some 5) ?_
 refine JL.as (.bool (decide (Int.tmod n1 2 = 0))) ?_
 refine JL.es [(2, .bool (decide (Int.tmod n1 2 = 0)))] ?_
 refine J.ret ?_
 obtain rfl := Option.some.inj H0
 exact JQ.done' (rs := [.tmp 2]) (vs := [.bool (decide (Int.tmod n1 2 = 0))]) [] (.inr rfl) ⟨by kernel_rfl, trivial⟩ (fun _ h => Heap.to h) ⟨rfl, rfl⟩

theorem ref16_Check.ok (l1 : (List Lag)) (Aa2 : Option Addr) (c3 : Nat) (r : Int) (H0 : ref16_Check.f l1 = some r) :
    Does Try.prog 25 [.slice Aa2 l1.length c3].toArray [At.rd Aa2 c3 fl_Lag.kd l1 true] [] false (fun v Δ => v = .int .i64 r ∧ Δ = []) := by
 refine Does.body (vs := [.slice Aa2 l1.length c3]) Try.func25 rfl ⟨.inl rfl, trivial⟩ trivial fun w S => ?_
 unfold ref16_Check.f at H0
 refine J.sr ?_
 refine JL.as (.int .i64 0) ?_
 refine JL.es [(0, .slice Aa2 l1.length c3)] ?_
 refine J.seq ?_
 refine J.sr ?_
 refine JL.mv (.slice Aa2 l1.length c3) ?_
 refine JL.pur (.int .i64 (l1.length : Int)) (some 6) ?_
 refine JL.pur (.bool (decide (511 < (l1.length : Int)))) (some 7) ?_
 refine JL.es [(0, .slice Aa2 l1.length c3), (7, .bool (decide (511 < (l1.length : Int))))] ?_
 rcases ite_cases H0 with ⟨h5, H0⟩ | ⟨h5, H0⟩
 · refine J.cond_true h5 ?_
   refine J.sr ?_
   refine JL.as (.int .i64 4) ?_
   refine JL.es [(2, .int .i64 4)] ?_
   refine JQ.mask [] [false] ?_
   refine J.ret ?_
   refine JQ.then_ret ?_
   obtain rfl := Option.some.inj H0
   exact JQ.done' (rs := [.tmp 2]) (vs := [.int .i64 4]) [] (.inr rfl) ⟨by kernel_rfl, trivial⟩ (fun _ h => Heap.to h) ⟨rfl, rfl⟩
 · refine J.cond_false h5 ?_
   refine J.skip ?_
   refine JQ.ts [(0, .slice Aa2 l1.length c3)] ?_
   refine J.seq ?_
   refine J.sr ?_
   refine JL.mv (.slice Aa2 l1.length c3) ?_
   refine JL.pur (.int .i64 (l1.length : Int)) (some 9) ?_
   obtain ⟨t6, hc7, H0⟩ := bind_some H0
   refine JL.call [] [] [] (ref16_even.ok (l1.length : Int) _ hc7) trivial ?_
   rintro _ _ ⟨rfl, rfl⟩
   refine JL.es [(0, .slice Aa2 l1.length c3), (10, .bool t6)] ?_
   rcases ite_cases H0 with ⟨h8, H0⟩ | ⟨h8, H0⟩
   · refine J.cond_true h8 ?_
     refine J.sr ?_
     refine JL.as (.int .i64 8) ?_
     refine JL.es [(2, .int .i64 8)] ?_
     refine JQ.mask [] [false] ?_
     refine J.ret ?_
     refine JQ.then_ret ?_
     obtain rfl := Option.some.inj H0
     exact JQ.done' (rs := [.tmp 2]) (vs := [.int .i64 8]) [] (.inr rfl) ⟨by kernel_rfl, trivial⟩ (fun _ h => Heap.to h) ⟨rfl, rfl⟩
   · refine J.cond_false h8 ?_
     refine J.skip ?_
     refine JQ.ts [(0, .slice Aa2 l1.length c3)] ?_
     refine J.seq ?_
     refine J.sr ?_
     refine JL.as (.int .i64 0) ?_
     refine JL.en ?_
     obtain ⟨o1, hit, H0⟩ := bind_some H0
     refine J.loop (σ := Int) (τ := Unit) (G := ((Option Addr) × Nat)) (G' := Unit) _ o1 (fun s g => [(0, .slice g.1 l1.length g.2), (3, .int .i64 s)]) (fun s g => [At.rd g.1 g.2 fl_Lag.kd l1 true]) (fun t => ref16_Check.k5 = some r) (fun t g => []) (fun t g => []) 0 (Aa2, c3) hit (fun _ h => Heap.to h) ?_ ?_
     · clear hit
       rintro i68 ⟨Aa65, c66⟩ st1 H1 hb1 hr1
       replace H1 : ref16_Check.s4 l1 i68 = some st1 := H1
       unfold ref16_Check.s4 at H1
       refine JQ.sub [(0, .slice Aa65 l1.length c66), (3, .int .i64 i68)] ?_
       refine JQ.turn (Δ' := [At.rd Aa65 c66 fl_Lag.kd l1 true]) (fun _ h => h.to) ?_
       refine J.seq ?_
       refine J.sr ?_
       refine JL.mv (.int .i64 i68) ?_
       refine JL.mv (.slice Aa65 l1.length c66) ?_
       refine JL.pur (.int .i64 (l1.length : Int)) (some 13) ?_
       refine JL.pur (.bool (decide (i68 < (l1.length : Int)))) (some 14) ?_
       refine JL.es [(0, .slice Aa65 l1.length c66), (3, .int .i64 i68), (14, .bool (decide (i68 < (l1.length : Int))))] ?_
       rcases ite_cases H1 with ⟨h93, H1⟩ | ⟨h93, H1⟩
       · refine J.cond_true h93 ?_
         refine J.skip ?_
         refine JQ.ts [(0, .slice Aa65 l1.length c66), (3, .int .i64 i68)] ?_
         refine J.seq ?_
         refine J.block ?_
         refine J.sr ?_
         refine JL.mv (.slice Aa65 l1.length c66) ?_
         refine JL.mv (.int .i64 i68) ?_
         obtain ⟨⟨h94, h95⟩, H1⟩ := ite_must H1
         refine JL.ixAddr 0 2 c66 .i64 (elems_rd Aa65 c66 fl_Lag.kd l1 true) Try.underlying57 tySize_56 h94 h95 fun g96 o97 hA => ?_
         subst hA
         refine JL.val (mv_56 (ix l1 i68)) (some 20) (gives_loadEl (f := fl_Lag) 0 0 i68 (elems_rd (some ⟨g96, o97, none⟩) c66 fl_Lag.kd l1 true) h94 h95 tySize_56 (.inl ⟨tyAgg_56, rfl⟩)) ?_
         refine JL.alloc (cl_56 zv_56) fun b98 => ?_
         refine JL.store 1 b98 0 56 (cl_56 zv_56) (cl_56 (ix l1 i68)) tySize_56 ?_
         refine JL.es [(0, .slice (some ⟨g96, o97, none⟩) l1.length c66), (3, .int .i64 i68), (4, .pointer (some ⟨b98, 0, none⟩))] ?_
         refine J.join (T := Bool) (G := Unit) (fun t => ref16_Check.k6 i68 t = some st1) (fun t g => [(0, .slice (some ⟨g96, o97, none⟩) l1.length c66), (3, .int .i64 i68), (53, .bool t)]) (fun t g => [At.rd (some ⟨g96, o97, none⟩) c66 fl_Lag.kd l1 true]) ?_ ?_
         · refine J.draw ?_
           refine QL.pur (.pointer (some ⟨b98, 1, none⟩)) (some 21) ?_
           refine QL.val (.int .i64 ((ix l1 i68).N)) (some 22) (yields_load_box 1 1 (holds_box b98 56 (cl_56 (ix l1 i68))) tyAgg_3) ?_
           refine QL.pur (.bool (decide ((ix l1 i68).N < 0))) (some 23) ?_
           refine QL.mv (.bool (decide ((ix l1 i68).N < 0))) ?_
           rcases ite_cases H1 with ⟨h109, H1⟩ | ⟨h109, H1⟩
           · refine QL.off 3 24 false (some 25) h109 ?_
             refine QL.off 3 24 false (some 26) h109 ?_
             refine QL.off 3 24 false (some 27) h109 ?_
             refine QL.val (.bool true) (some 28) (gives_pickT h109) ?_
             refine QL.mv (.bool true) ?_
             refine QL.off 8 29 false (some 30) rfl ?_
             refine QL.off 8 29 false (some 31) rfl ?_
             refine QL.off 8 29 false (some 32) rfl ?_
             refine QL.off 8 29 false (some 33) rfl ?_
             refine QL.off 8 29 false (some 34) rfl ?_
             refine QL.off 8 29 false (some 35) rfl ?_
             refine QL.val (.bool true) (some 36) (gives_pickT rfl) ?_
             refine QL.mv (.bool true) ?_
             refine QL.off 16 37 false (some 38) rfl ?_
             refine QL.off 16 37 false (some 39) rfl ?_
             refine QL.off 16 37 false (some 40) rfl ?_
             refine QL.off 16 37 false (some 41) rfl ?_
             refine QL.off 16 37 false (some 42) rfl ?_
             refine QL.off 16 37 false (some 43) rfl ?_
             refine QL.val (.bool true) (some 44) (gives_pickT rfl) ?_
             refine QL.mv (.bool true) ?_
             refine QL.off 24 45 false (some 46) rfl ?_
             refine QL.off 24 45 false (some 47) rfl ?_
             refine QL.off 24 45 false (some 48) rfl ?_
             refine QL.off 24 45 false (some 49) rfl ?_
             refine QL.off 24 45 false (some 50) rfl ?_
             refine QL.off 24 45 false (some 51) rfl ?_
             refine QL.off 24 45 false (some 52) rfl ?_
             refine QL.val (.bool true) (some 53) (gives_pickT rfl) ?_
             refine QL.nil ?_
             refine JA.nil ?_
             refine JQ.then_normal ?_
             exact JQ.meet true () H1 (fun _ h => Heap.to (Heap.pick [0] (by decide) h))
           · refine QL.on 3 24 h109 ?_
             refine QL.pur (.pointer (some ⟨b98, 1, none⟩)) (some 25) ?_
             refine QL.on 3 24 h109 ?_
             refine QL.val (.int .i64 ((ix l1 i68).N)) (some 26) (yields_load_box 1 1 (holds_box b98 56 (cl_56 (ix l1 i68))) tyAgg_3) ?_
             refine QL.on 3 24 h109 ?_
             refine QL.pur (.bool (decide (256 < (ix l1 i68).N))) (some 27) ?_
             refine QL.val (.bool (decide (256 < (ix l1 i68).N))) (some 28) (gives_pickF h109) ?_
             refine QL.mv (.bool (decide (256 < (ix l1 i68).N))) ?_
             rcases ite_cases H1 with ⟨h110, H1⟩ | ⟨h110, H1⟩
             · refine QL.off 8 29 false (some 30) h110 ?_
               refine QL.off 8 29 false (some 31) h110 ?_
               refine QL.off 8 29 false (some 32) h110 ?_
               refine QL.off 8 29 false (some 33) h110 ?_
               refine QL.off 8 29 false (some 34) h110 ?_
               refine QL.off 8 29 false (some 35) h110 ?_
               refine QL.val (.bool true) (some 36) (gives_pickT h110) ?_
               refine QL.mv (.bool true) ?_
               refine QL.off 16 37 false (some 38) rfl ?_
               refine QL.off 16 37 false (some 39) rfl ?_
               refine QL.off 16 37 false (some 40) rfl ?_
               refine QL.off 16 37 false (some 41) rfl ?_
               refine QL.off 16 37 false (some 42) rfl ?_
               refine QL.off 16 37 false (some 43) rfl ?_
               refine QL.val (.bool true) (some 44) (gives_pickT rfl) ?_
               refine QL.mv (.bool true) ?_
               refine QL.off 24 45 false (some 46) rfl ?_
               refine QL.off 24 45 false (some 47) rfl ?_
               refine QL.off 24 45 false (some 48) rfl ?_
               refine QL.off 24 45 false (some 49) rfl ?_
               refine QL.off 24 45 false (some 50) rfl ?_
               refine QL.off 24 45 false (some 51) rfl ?_
               refine QL.off 24 45 false (some 52) rfl ?_
               refine QL.val (.bool true) (some 53) (gives_pickT rfl) ?_
               refine QL.nil ?_
               refine JA.nil ?_
               refine JQ.then_normal ?_
               exact JQ.meet true () H1 (fun _ h => Heap.to (Heap.pick [0] (by decide) h))
             · refine QL.on 8 29 h110 ?_
               refine QL.pur (.pointer (some ⟨b98, 0, none⟩)) (some 30) ?_
               refine QL.on 8 29 h110 ?_
               refine QL.val (.int .i64 ((ix l1 i68).Sum)) (some 31) (yields_load_box 1 0 (holds_box b98 56 (cl_56 (ix l1 i68))) tyAgg_3) ?_
               refine QL.on 8 29 h110 ?_
               refine QL.pur (.pointer (some ⟨b98, 1, none⟩)) (some 32) ?_
               refine QL.on 8 29 h110 ?_
               refine QL.val (.int .i64 ((ix l1 i68).N)) (some 33) (yields_load_box 1 1 (holds_box b98 56 (cl_56 (ix l1 i68))) tyAgg_3) ?_
               refine QL.on 8 29 h110 ?_
               refine QL.pur (.int .i64 (w64 ((-9) * ((ix l1 i68).N)))) (some 34) ?_
               refine QL.on 8 29 h110 ?_
               refine QL.pur (.bool (decide ((ix l1 i68).Sum < w64 ((-9) * ((ix l1 i68).N))))) (some 35) ?_
               refine QL.val (.bool (decide ((ix l1 i68).Sum < w64 ((-9) * ((ix l1 i68).N))))) (some 36) (gives_pickF h110) ?_
               refine QL.mv (.bool (decide ((ix l1 i68).Sum < w64 ((-9) * ((ix l1 i68).N))))) ?_
               rcases ite_cases H1 with ⟨h111, H1⟩ | ⟨h111, H1⟩
               · refine QL.off 16 37 false (some 38) h111 ?_
                 refine QL.off 16 37 false (some 39) h111 ?_
                 refine QL.off 16 37 false (some 40) h111 ?_
                 refine QL.off 16 37 false (some 41) h111 ?_
                 refine QL.off 16 37 false (some 42) h111 ?_
                 refine QL.off 16 37 false (some 43) h111 ?_
                 refine QL.val (.bool true) (some 44) (gives_pickT h111) ?_
                 refine QL.mv (.bool true) ?_
                 refine QL.off 24 45 false (some 46) rfl ?_
                 refine QL.off 24 45 false (some 47) rfl ?_
                 refine QL.off 24 45 false (some 48) rfl ?_
                 refine QL.off 24 45 false (some 49) rfl ?_
                 refine QL.off 24 45 false (some 50) rfl ?_
                 refine QL.off 24 45 false (some 51) rfl ?_
                 refine QL.off 24 45 false (some 52) rfl ?_
                 refine QL.val (.bool true) (some 53) (gives_pickT rfl) ?_
                 refine QL.nil ?_
                 refine JA.nil ?_
                 refine JQ.then_normal ?_
                 exact JQ.meet true () H1 (fun _ h => Heap.to (Heap.pick [0] (by decide) h))
               · refine QL.on 16 37 h111 ?_
                 refine QL.pur (.pointer (some ⟨b98, 0, none⟩)) (some 38) ?_
                 refine QL.on 16 37 h111 ?_
                 refine QL.val (.int .i64 ((ix l1 i68).Sum)) (some 39) (yields_load_box 1 0 (holds_box b98 56 (cl_56 (ix l1 i68))) tyAgg_3) ?_
                 refine QL.on 16 37 h111 ?_
                 refine QL.pur (.pointer (some ⟨b98, 1, none⟩)) (some 40) ?_
                 refine QL.on 16 37 h111 ?_
                 refine QL.val (.int .i64 ((ix l1 i68).N)) (some 41) (yields_load_box 1 1 (holds_box b98 56 (cl_56 (ix l1 i68))) tyAgg_3) ?_
                 refine QL.on 16 37 h111 ?_
                 refine QL.pur (.int .i64 (w64 (9 * ((ix l1 i68).N)))) (some 42) ?_
                 refine QL.on 16 37 h111 ?_
                 refine QL.pur (.bool (decide (w64 (9 * ((ix l1 i68).N)) < (ix l1 i68).Sum))) (some 43) ?_
                 refine QL.val (.bool (decide (w64 (9 * ((ix l1 i68).N)) < (ix l1 i68).Sum))) (some 44) (gives_pickF h111) ?_
                 refine QL.mv (.bool (decide (w64 (9 * ((ix l1 i68).N)) < (ix l1 i68).Sum))) ?_
                 rcases ite_cases H1 with ⟨h112, H1⟩ | ⟨h112, H1⟩
                 · refine QL.off 24 45 false (some 46) h112 ?_
                   refine QL.off 24 45 false (some 47) h112 ?_
                   refine QL.off 24 45 false (some 48) h112 ?_
                   refine QL.off 24 45 false (some 49) h112 ?_
                   refine QL.off 24 45 false (some 50) h112 ?_
                   refine QL.off 24 45 false (some 51) h112 ?_
                   refine QL.off 24 45 false (some 52) h112 ?_
                   refine QL.val (.bool true) (some 53) (gives_pickT h112) ?_
                   refine QL.nil ?_
                   refine JA.nil ?_
                   refine JQ.then_normal ?_
                   exact JQ.meet true () H1 (fun _ h => Heap.to (Heap.pick [0] (by decide) h))
                 · refine QL.on 24 45 h112 ?_
                   refine QL.pur (.pointer (some ⟨b98, 0, none⟩)) (some 46) ?_
                   refine QL.on 24 45 h112 ?_
                   refine QL.val (.int .i64 ((ix l1 i68).Sum)) (some 47) (yields_load_box 1 0 (holds_box b98 56 (cl_56 (ix l1 i68))) tyAgg_3) ?_
                   refine QL.on 24 45 h112 ?_
                   obtain ⟨t113, hc114, H1⟩ := bind_some H1
                   refine QL.call [] [] (ref16_even.ok ((ix l1 i68).Sum) _ hc114) trivial ?_
                   refine QL.on 24 45 h112 ?_
                   refine QL.pur (.pointer (some ⟨b98, 1, none⟩)) (some 49) ?_
                   refine QL.on 24 45 h112 ?_
                   refine QL.val (.int .i64 ((ix l1 i68).N)) (some 50) (yields_load_box 1 1 (holds_box b98 56 (cl_56 (ix l1 i68))) tyAgg_3) ?_
                   refine QL.on 24 45 h112 ?_
                   obtain ⟨t115, hc116, H1⟩ := bind_some H1
                   refine QL.call [] [] (ref16_even.ok ((ix l1 i68).N) _ hc116) trivial ?_
                   refine QL.on 24 45 h112 ?_
                   refine QL.pur (.bool (!(t113 == t115))) (some 52) ?_
                   refine QL.val (.bool (!(t113 == t115))) (some 53) (gives_pickF h112) ?_
                   refine QL.nil ?_
                   refine JA.nil ?_
                   refine JQ.then_normal ?_
                   exact JQ.meet (!(t113 == t115)) () H1 (fun _ h => Heap.to (Heap.pick [0] (by decide) h))
         · clear H1
           rintro x107 ⟨⟩ H1
           replace H1 : ref16_Check.k6 i68 x107 = some st1 := H1
           unfold ref16_Check.k6 at H1
           refine JQ.sub [(0, .slice (some ⟨g96, o97, none⟩) l1.length c66), (3, .int .i64 i68), (53, .bool x107)] ?_
           refine JQ.turn (Δ' := [At.rd (some ⟨g96, o97, none⟩) c66 fl_Lag.kd l1 true]) (fun _ h => h.to) ?_
           rcases ite_cases H1 with ⟨h108, H1⟩ | ⟨h108, H1⟩
           · refine J.cond_true h108 ?_
             refine J.sr ?_
             refine JL.as (.int .i64 8) ?_
             refine JL.es [(2, .int .i64 8)] ?_
             refine JQ.mask [] [false] ?_
             refine J.ret ?_
             refine JQ.blk_ret ?_
             refine JQ.then_ret ?_
             refine JQ.then_ret ?_
             refine JQ.blk_ret ?_
             refine JQ.met_ret ?_
             refine JQ.then_ret ?_
             rw [hr1 _ (Option.some.inj H1).symm, fin_ret] at H0
             obtain rfl := Option.some.inj H0
             exact JQ.done' (rs := [.tmp 2]) (vs := [.int .i64 8]) [] (.inr rfl) ⟨by kernel_rfl, trivial⟩ (fun _ h => Heap.to h) ⟨rfl, rfl⟩
           · refine J.cond_false h108 ?_
             refine J.skip ?_
             refine JQ.blk_normal ?_
             refine JQ.ts [(0, .slice (some ⟨g96, o97, none⟩) l1.length c66), (3, .int .i64 i68)] ?_
             refine J.region ?_
             refine JL.mv (.int .i64 i68) ?_
             refine JL.pur (.int .i64 (w64 (i68 + 1))) (some 16) ?_
             refine JL.as (.int .i64 (w64 (i68 + 1))) ?_
             refine JL.en ?_
             exact JQ.again (w64 (i68 + 1)) ((some ⟨g96, o97, none⟩), c66) (Option.some.inj H1).symm (fun _ h => Heap.to h)
       · refine J.cond_false h93 ?_
         refine J.exit ?_
         refine JQ.then_exit ?_
         refine JQ.then_exit ?_
         refine JQ.blk_exit ?_
         rw [hb1 _ (Option.some.inj H1).symm, fin_brk] at H0
         exact JQ.met () () H0 (fun _ h => Heap.to (Heap.pick [] (by decide) h))
     · clear hit H0
       rintro ⟨⟩ ⟨⟩ H0
       replace H0 : ref16_Check.k5 = some r := H0
       unfold ref16_Check.k5 at H0
       refine JQ.sub [] ?_
       refine JQ.turn (Δ' := []) (fun _ h => h.to) ?_
       refine JQ.then_normal ?_
       refine J.sr ?_
       refine JL.as (.int .i64 0) ?_
       refine JL.en ?_
       refine J.ret ?_
       obtain rfl := Option.some.inj H0
       exact JQ.done' (rs := [.tmp 2]) (vs := [.int .i64 0]) [] (.inr rfl) ⟨by kernel_rfl, trivial⟩ (fun _ h => Heap.to h) ⟨rfl, rfl⟩

theorem ref18_In.ok (l1 : (List Gap)) (Aa2 : Option Addr) (c3 : Nat) (t5 : Int) (r : Bool) (H0 : ref18_In.f l1 t5 = some r) :
    Does Try.prog 26 [.slice Aa2 l1.length c3, .int .i64 t5].toArray [At.rd Aa2 c3 fl_Gap.kd l1 true] [] false (fun v Δ => v = .bool r ∧ Δ = []) := by
 refine Does.body (vs := [.slice Aa2 l1.length c3, .int .i64 t5]) Try.func26 rfl ⟨.inl rfl, trivial⟩ trivial fun w S => ?_
 unfold ref18_In.f at H0
 refine J.sr ?_
 refine JL.as (.bool false) ?_
 refine JL.es [(0, .slice Aa2 l1.length c3), (1, .int .i64 t5)] ?_
 refine J.seq ?_
 refine J.sr ?_
 refine JL.as (.int .i64 0) ?_
 refine JL.en ?_
 obtain ⟨o1, hit, H0⟩ := bind_some H0
 refine J.loop (σ := Int) (τ := Unit) (G := Unit) (G' := Unit) _ o1 (fun s g => [(0, .slice Aa2 l1.length c3), (1, .int .i64 t5), (5, .int .i64 s)]) (fun s g => [At.rd Aa2 c3 fl_Gap.kd l1 true]) (fun t => ref18_In.k5 = some r) (fun t g => []) (fun t g => []) 0 () hit (fun _ h => Heap.to h) ?_ ?_
 · clear hit
   rintro i66 ⟨⟩ st1 H1 hb1 hr1
   replace H1 : ref18_In.s4 l1 t5 i66 = some st1 := H1
   unfold ref18_In.s4 at H1
   refine JQ.sub [(0, .slice Aa2 l1.length c3), (1, .int .i64 t5), (5, .int .i64 i66)] ?_
   refine JQ.turn (Δ' := [At.rd Aa2 c3 fl_Gap.kd l1 true]) (fun _ h => h.to) ?_
   refine J.seq ?_
   refine J.sr ?_
   refine JL.mv (.int .i64 i66) ?_
   refine JL.mv (.slice Aa2 l1.length c3) ?_
   refine JL.pur (.int .i64 (l1.length : Int)) (some 8) ?_
   refine JL.pur (.bool (decide (i66 < (l1.length : Int)))) (some 9) ?_
   refine JL.es [(0, .slice Aa2 l1.length c3), (1, .int .i64 t5), (5, .int .i64 i66), (9, .bool (decide (i66 < (l1.length : Int))))] ?_
   rcases ite_cases H1 with ⟨h96, H1⟩ | ⟨h96, H1⟩
   · refine J.cond_true h96 ?_
     refine J.skip ?_
     refine JQ.ts [(0, .slice Aa2 l1.length c3), (1, .int .i64 t5), (5, .int .i64 i66)] ?_
     refine J.seq ?_
     refine J.block ?_
     refine J.join (T := Bool) (G := Unit) (fun t => ref18_In.k6 i66 t = some st1) (fun t g => [(0, .slice Aa2 l1.length c3), (1, .int .i64 t5), (5, .int .i64 i66), (33, .bool t)]) (fun t g => [At.rd Aa2 c3 fl_Gap.kd l1 true]) ?_ ?_
     · refine J.draw ?_
       refine QL.mv (.int .i64 t5) ?_
       refine QL.mv (.slice Aa2 l1.length c3) ?_
       refine QL.mv (.int .i64 i66) ?_
       obtain ⟨⟨h112, h113⟩, H1⟩ := ite_must H1
       refine QL.ixAddr 0 2 c3 .i64 (elems_rd Aa2 c3 fl_Gap.kd l1 true) Try.underlying23 tySize_51 h112 h113 fun g114 o115 hA => ?_
       subst hA
       refine QL.pur (.pointer (some ⟨g114, o115 + i66.toNat * 2, none⟩)) (some 16) ?_
       refine QL.val (.int .i64 ((ix l1 i66).At)) (some 17) (gives_loadEl (f := fl_Gap) 0 0 i66 (elems_rd (some ⟨g114, o115, none⟩) c3 fl_Gap.kd l1 true) h112 h113 tySize_3 (.inr ⟨tyAgg_3, rfl, rfl⟩)) ?_
       refine QL.pur (.bool (decide ((ix l1 i66).At ≤ t5))) (some 18) ?_
       refine QL.mv (.bool (decide ((ix l1 i66).At ≤ t5))) ?_
       rcases ite_cases H1 with ⟨h116, H1⟩ | ⟨h116, H1⟩
       · refine QL.on 7 19 h116 ?_
         refine QL.mv (.int .i64 t5) ?_
         refine QL.on 7 19 h116 ?_
         refine QL.mv (.slice (some ⟨g114, o115, none⟩) l1.length c3) ?_
         refine QL.on 7 19 h116 ?_
         refine QL.mv (.int .i64 i66) ?_
         refine QL.on 7 19 h116 ?_
         refine QL.ixAddr' 0 2 c3 .i64 (elems_rd (some ⟨g114, o115, none⟩) c3 fl_Gap.kd l1 true) Try.underlying23 tySize_51 h112 h113 ?_
         refine QL.on 7 19 h116 ?_
         refine QL.pur (.pointer (some ⟨g114, o115 + i66.toNat * 2, none⟩)) (some 24) ?_
         refine QL.on 7 19 h116 ?_
         refine QL.val (.int .i64 ((ix l1 i66).At)) (some 25) (gives_loadEl (f := fl_Gap) 0 0 i66 (elems_rd (some ⟨g114, o115, none⟩) c3 fl_Gap.kd l1 true) h112 h113 tySize_3 (.inr ⟨tyAgg_3, rfl, rfl⟩)) ?_
         refine QL.on 7 19 h116 ?_
         refine QL.mv (.slice (some ⟨g114, o115, none⟩) l1.length c3) ?_
         refine QL.on 7 19 h116 ?_
         refine QL.mv (.int .i64 i66) ?_
         refine QL.on 7 19 h116 ?_
         refine QL.ixAddr' 0 2 c3 .i64 (elems_rd (some ⟨g114, o115, none⟩) c3 fl_Gap.kd l1 true) Try.underlying23 tySize_51 h112 h113 ?_
         refine QL.on 7 19 h116 ?_
         refine QL.pur (.pointer (some ⟨g114, o115 + i66.toNat * 2 + 1, none⟩)) (some 29) ?_
         refine QL.on 7 19 h116 ?_
         refine QL.val (.int .i64 ((ix l1 i66).Many)) (some 30) (gives_loadEl (f := fl_Gap) 0 1 i66 (elems_rd (some ⟨g114, o115, none⟩) c3 fl_Gap.kd l1 true) h112 h113 tySize_3 (.inr ⟨tyAgg_3, rfl, rfl⟩)) ?_
         refine QL.on 7 19 h116 ?_
         refine QL.pur (.int .i64 (w64 (((ix l1 i66).At) + ((ix l1 i66).Many)))) (some 31) ?_
         refine QL.on 7 19 h116 ?_
         refine QL.pur (.bool (decide (t5 < w64 (((ix l1 i66).At) + ((ix l1 i66).Many))))) (some 32) ?_
         refine QL.val (.bool (decide (t5 < w64 (((ix l1 i66).At) + ((ix l1 i66).Many))))) (some 33) (gives_pickT h116) ?_
         refine QL.nil ?_
         refine JA.nil ?_
         refine JQ.then_normal ?_
         exact JQ.meet (decide (t5 < w64 (((ix l1 i66).At) + ((ix l1 i66).Many)))) () H1 (fun _ h => Heap.to h)
       · refine QL.off 7 19 true (some 20) h116 ?_
         refine QL.off 7 19 true (some 21) h116 ?_
         refine QL.off 7 19 true (some 22) h116 ?_
         refine QL.off 7 19 true (some 23) h116 ?_
         refine QL.off 7 19 true (some 24) h116 ?_
         refine QL.off 7 19 true (some 25) h116 ?_
         refine QL.off 7 19 true (some 26) h116 ?_
         refine QL.off 7 19 true (some 27) h116 ?_
         refine QL.off 7 19 true (some 28) h116 ?_
         refine QL.off 7 19 true (some 29) h116 ?_
         refine QL.off 7 19 true (some 30) h116 ?_
         refine QL.off 7 19 true (some 31) h116 ?_
         refine QL.off 7 19 true (some 32) h116 ?_
         refine QL.val (.bool false) (some 33) (gives_pickF h116) ?_
         refine QL.nil ?_
         refine JA.nil ?_
         refine JQ.then_normal ?_
         exact JQ.meet false () H1 (fun _ h => Heap.to h)
     · clear H1
       rintro x110 ⟨⟩ H1
       replace H1 : ref18_In.k6 i66 x110 = some st1 := H1
       unfold ref18_In.k6 at H1
       refine JQ.sub [(0, .slice Aa2 l1.length c3), (1, .int .i64 t5), (5, .int .i64 i66), (33, .bool x110)] ?_
       refine JQ.turn (Δ' := [At.rd Aa2 c3 fl_Gap.kd l1 true]) (fun _ h => h.to) ?_
       rcases ite_cases H1 with ⟨h111, H1⟩ | ⟨h111, H1⟩
       · refine J.cond_true h111 ?_
         refine J.sr ?_
         refine JL.as (.bool true) ?_
         refine JL.es [(4, .bool true)] ?_
         refine JQ.mask [] [false] ?_
         refine J.ret ?_
         refine JQ.blk_ret ?_
         refine JQ.then_ret ?_
         refine JQ.then_ret ?_
         refine JQ.blk_ret ?_
         refine JQ.met_ret ?_
         refine JQ.then_ret ?_
         rw [hr1 _ (Option.some.inj H1).symm, fin_ret] at H0
         obtain rfl := Option.some.inj H0
         exact JQ.done' (rs := [.tmp 4]) (vs := [.bool true]) [] (.inr rfl) ⟨by kernel_rfl, trivial⟩ (fun _ h => Heap.to h) ⟨rfl, rfl⟩
       · refine J.cond_false h111 ?_
         refine J.skip ?_
         refine JQ.blk_normal ?_
         refine JQ.ts [(0, .slice Aa2 l1.length c3), (1, .int .i64 t5), (5, .int .i64 i66)] ?_
         refine J.region ?_
         refine JL.mv (.int .i64 i66) ?_
         refine JL.pur (.int .i64 (w64 (i66 + 1))) (some 11) ?_
         refine JL.as (.int .i64 (w64 (i66 + 1))) ?_
         refine JL.en ?_
         exact JQ.again (w64 (i66 + 1)) () (Option.some.inj H1).symm (fun _ h => Heap.to h)
   · refine J.cond_false h96 ?_
     refine J.exit ?_
     refine JQ.then_exit ?_
     refine JQ.then_exit ?_
     refine JQ.blk_exit ?_
     rw [hb1 _ (Option.some.inj H1).symm, fin_brk] at H0
     exact JQ.met () () H0 (fun _ h => Heap.to (Heap.pick [] (by decide) h))
 · clear hit H0
   rintro ⟨⟩ ⟨⟩ H0
   replace H0 : ref18_In.k5 = some r := H0
   unfold ref18_In.k5 at H0
   refine JQ.sub [] ?_
   refine JQ.turn (Δ' := []) (fun _ h => h.to) ?_
   refine JQ.then_normal ?_
   refine J.sr ?_
   refine JL.as (.bool false) ?_
   refine JL.en ?_
   refine J.ret ?_
   obtain rfl := Option.some.inj H0
   exact JQ.done' (rs := [.tmp 4]) (vs := [.bool false]) [] (.inr rfl) ⟨by kernel_rfl, trivial⟩ (fun _ h => Heap.to h) ⟨rfl, rfl⟩

theorem accum_Merge.ok (a1 : Acc) (Aa2 : Option Addr) (c3 : Nat) (Aa5 : Option Addr) (c6 : Nat) (Aa8 : Option Addr) (c9 : Nat) (b11 : Acc) (Aa12 : Option Addr) (c13 : Nat) (Aa15 : Option Addr) (c16 : Nat) (Aa18 : Option Addr) (c19 : Nat) (r : (Acc × Int)) (H0 : accum_Merge.f a1 b11 = some r) :
    Does Try.prog 9 [.agg #[.slice Aa2 a1.Sums.length c3, .slice Aa5 a1.Ns.length c6, .slice Aa8 a1.Spans.length c9], .agg #[.slice Aa12 b11.Sums.length c13, .slice Aa15 b11.Ns.length c16, .slice Aa18 b11.Spans.length c19]].toArray [At.rd Aa2 c3 fl_Count.kd a1.Sums true, At.rd Aa5 c6 fl_Count.kd a1.Ns true, At.rd Aa8 c9 fl_Gap.kd a1.Spans true, At.rd Aa12 c13 fl_Count.kd b11.Sums true, At.rd Aa15 c16 fl_Count.kd b11.Ns true, At.rd Aa18 c19 fl_Gap.kd b11.Spans true] [] false (fun v Δ => ∃ A1001 : Option Addr, ∃ c1001 : Nat, ∃ A1002 : Option Addr, ∃ c1002 : Nat, ∃ A1003 : Option Addr, ∃ c1003 : Nat, v = .tuple #[.agg #[.slice A1001 r.1.Sums.length c1001, .slice A1002 r.1.Ns.length c1002, .slice A1003 r.1.Spans.length c1003], .int .i64 r.2] ∧ Δ = [At.row A1001 c1001 49 fl_Count.kd r.1.Sums false, At.row A1002 c1002 49 fl_Count.kd r.1.Ns false, At.row A1003 c1003 51 fl_Gap.kd r.1.Spans false]) := by
 refine Does.body (vs := [.agg #[.slice Aa2 a1.Sums.length c3, .slice Aa5 a1.Ns.length c6, .slice Aa8 a1.Spans.length c9], .agg #[.slice Aa12 b11.Sums.length c13, .slice Aa15 b11.Ns.length c16, .slice Aa18 b11.Spans.length c19]]) Try.func9 rfl ⟨.inl rfl, .inl rfl, .inl rfl, .inl rfl, .inl rfl, .inl rfl, trivial⟩ trivial fun w S => ?_
 unfold accum_Merge.f at H0
 refine J.sr ?_
 refine JL.box [.slice Aa2 a1.Sums.length c3, .slice Aa5 a1.Ns.length c6, .slice Aa8 a1.Spans.length c9] fun b21 => ?_
 refine JL.box [.slice Aa12 b11.Sums.length c13, .slice Aa15 b11.Ns.length c16, .slice Aa18 b11.Spans.length c19] fun b22 => ?_
 refine JL.alloc [.slice none 0 0, .slice none 0 0, .slice none 0 0] fun b23 => ?_
 refine JL.as (.int .i64 0) ?_
 refine JL.es [(2, .pointer (some ⟨b21, 0, none⟩)), (3, .pointer (some ⟨b22, 0, none⟩)), (4, .pointer (some ⟨b23, 0, none⟩))] ?_
 refine J.seq ?_
 refine J.sr ?_
 refine JL.val (.agg #[.slice Aa2 a1.Sums.length c3, .slice Aa5 a1.Ns.length c6, .slice Aa8 a1.Spans.length c9]) (some 8) (yields_load_boxes 6 0 [.slice Aa2 a1.Sums.length c3, .slice Aa5 a1.Ns.length c6, .slice Aa8 a1.Spans.length c9] (holds_box b21 25 [.slice Aa2 a1.Sums.length c3, .slice Aa5 a1.Ns.length c6, .slice Aa8 a1.Spans.length c9]) tyAgg_25 tySize_25) ?_
 obtain ⟨t24, hc25, H0⟩ := bind_some H0
 refine JL.call [] [] [] (accum_Check.ok a1 Aa2 c3 Aa5 c6 Aa8 c9 _ hc25) ⟨pre_any 0 (view_rd Aa2 c3 fl_Count.kd a1.Sums true true), ⟨pre_any 1 (view_rd Aa5 c6 fl_Count.kd a1.Ns true true), ⟨pre_any 2 (view_rd Aa8 c9 fl_Gap.kd a1.Spans true true), trivial⟩⟩⟩ ?_
 rintro _ _ ⟨rfl, rfl⟩
 refine JL.as (.int .i64 t24) ?_
 refine JL.es [(2, .pointer (some ⟨b21, 0, none⟩)), (3, .pointer (some ⟨b22, 0, none⟩)), (4, .pointer (some ⟨b23, 0, none⟩)), (6, .int .i64 t24)] ?_
 refine J.sr ?_
 refine JL.mv (.int .i64 t24) ?_
 refine JL.pur (.bool (!decide (t24 = 0))) (some 11) ?_
 refine JL.es [(2, .pointer (some ⟨b21, 0, none⟩)), (3, .pointer (some ⟨b22, 0, none⟩)), (4, .pointer (some ⟨b23, 0, none⟩)), (6, .int .i64 t24), (11, .bool (!decide (t24 = 0)))] ?_
 rcases ite_cases H0 with ⟨h26, H0⟩ | ⟨h26, H0⟩
 · refine J.cond_true h26 ?_
   refine J.sr ?_
   refine JL.pur (.agg #[.slice none 0 0, .slice none 0 0, .slice none 0 0]) (some 12) ?_
   refine JL.mv (.int .i64 t24) ?_
   refine JL.store 8 b23 0 25 [.slice none 0 0, .slice none 0 0, .slice none 0 0] [.slice none 0 0, .slice none 0 0, .slice none 0 0] tySize_25 ?_
   refine JL.as (.int .i64 t24) ?_
   refine JL.es [(4, .pointer (some ⟨b23, 0, none⟩)), (5, .int .i64 t24)] ?_
   refine JQ.mask [At.box b23 25 [.slice none 0 0, .slice none 0 0, .slice none 0 0]] [false, false, false, false, false, false, false, false, true] ?_
   refine J.ret ?_
   refine JQ.then_ret ?_
   obtain rfl := Option.some.inj H0
   exact JQ.done' (rs := [.cell 4 25, .tmp 5]) (vs := [.agg #[.slice none 0 0, .slice none 0 0, .slice none 0 0], .int .i64 t24]) [At.row none 0 49 fl_Count.kd ([] : List Count) false, At.row none 0 49 fl_Count.kd ([] : List Count) false, At.row none 0 51 fl_Gap.kd ([] : List Gap) false] (.inr rfl) ⟨⟨b23, 0, _, _, by kernel_rfl, by kernel_rfl, holds_box b23 25 [.slice none 0 0, .slice none 0 0, .slice none 0 0], .inl ⟨tyAgg_25, tySize_25, rfl⟩⟩, by kernel_rfl, trivial⟩ (fun _ h => Heap.to (Heap.pick [1, 2, 3] (by decide) (Heap.addRow0 (α := Gap) 51 fl_Gap.kd false (Heap.addRow0 (α := Count) 49 fl_Count.kd false (Heap.addRow0 (α := Count) 49 fl_Count.kd false h))))) ⟨none, 0, none, 0, none, 0, rfl, rfl⟩
 · refine J.cond_false h26 ?_
   refine J.skip ?_
   refine JQ.ts [(2, .pointer (some ⟨b21, 0, none⟩)), (3, .pointer (some ⟨b22, 0, none⟩)), (4, .pointer (some ⟨b23, 0, none⟩))] ?_
   refine J.seq ?_
   refine J.sr ?_
   refine JL.val (.agg #[.slice Aa12 b11.Sums.length c13, .slice Aa15 b11.Ns.length c16, .slice Aa18 b11.Spans.length c19]) (some 14) (yields_load_boxes 7 0 [.slice Aa12 b11.Sums.length c13, .slice Aa15 b11.Ns.length c16, .slice Aa18 b11.Spans.length c19] (holds_box b22 25 [.slice Aa12 b11.Sums.length c13, .slice Aa15 b11.Ns.length c16, .slice Aa18 b11.Spans.length c19]) tyAgg_25 tySize_25) ?_
   obtain ⟨t27, hc28, H0⟩ := bind_some H0
   refine JL.call [] [] [] (accum_Check.ok b11 Aa12 c13 Aa15 c16 Aa18 c19 _ hc28) ⟨pre_any 3 (view_rd Aa12 c13 fl_Count.kd b11.Sums true true), ⟨pre_any 4 (view_rd Aa15 c16 fl_Count.kd b11.Ns true true), ⟨pre_any 5 (view_rd Aa18 c19 fl_Gap.kd b11.Spans true true), trivial⟩⟩⟩ ?_
   rintro _ _ ⟨rfl, rfl⟩
   refine JL.as (.int .i64 t27) ?_
   refine JL.es [(2, .pointer (some ⟨b21, 0, none⟩)), (3, .pointer (some ⟨b22, 0, none⟩)), (4, .pointer (some ⟨b23, 0, none⟩)), (7, .int .i64 t27)] ?_
   refine J.sr ?_
   refine JL.mv (.int .i64 t27) ?_
   refine JL.pur (.bool (!decide (t27 = 0))) (some 17) ?_
   refine JL.es [(2, .pointer (some ⟨b21, 0, none⟩)), (3, .pointer (some ⟨b22, 0, none⟩)), (4, .pointer (some ⟨b23, 0, none⟩)), (7, .int .i64 t27), (17, .bool (!decide (t27 = 0)))] ?_
   rcases ite_cases H0 with ⟨h29, H0⟩ | ⟨h29, H0⟩
   · refine J.cond_true h29 ?_
     refine J.sr ?_
     refine JL.pur (.agg #[.slice none 0 0, .slice none 0 0, .slice none 0 0]) (some 18) ?_
     refine JL.mv (.int .i64 t27) ?_
     refine JL.store 8 b23 0 25 [.slice none 0 0, .slice none 0 0, .slice none 0 0] [.slice none 0 0, .slice none 0 0, .slice none 0 0] tySize_25 ?_
     refine JL.as (.int .i64 t27) ?_
     refine JL.es [(4, .pointer (some ⟨b23, 0, none⟩)), (5, .int .i64 t27)] ?_
     refine JQ.mask [At.box b23 25 [.slice none 0 0, .slice none 0 0, .slice none 0 0]] [false, false, false, false, false, false, false, false, true] ?_
     refine J.ret ?_
     refine JQ.then_ret ?_
     obtain rfl := Option.some.inj H0
     exact JQ.done' (rs := [.cell 4 25, .tmp 5]) (vs := [.agg #[.slice none 0 0, .slice none 0 0, .slice none 0 0], .int .i64 t27]) [At.row none 0 49 fl_Count.kd ([] : List Count) false, At.row none 0 49 fl_Count.kd ([] : List Count) false, At.row none 0 51 fl_Gap.kd ([] : List Gap) false] (.inr rfl) ⟨⟨b23, 0, _, _, by kernel_rfl, by kernel_rfl, holds_box b23 25 [.slice none 0 0, .slice none 0 0, .slice none 0 0], .inl ⟨tyAgg_25, tySize_25, rfl⟩⟩, by kernel_rfl, trivial⟩ (fun _ h => Heap.to (Heap.pick [1, 2, 3] (by decide) (Heap.addRow0 (α := Gap) 51 fl_Gap.kd false (Heap.addRow0 (α := Count) 49 fl_Count.kd false (Heap.addRow0 (α := Count) 49 fl_Count.kd false h))))) ⟨none, 0, none, 0, none, 0, rfl, rfl⟩
   · refine J.cond_false h29 ?_
     refine J.skip ?_
     refine JQ.ts [(2, .pointer (some ⟨b21, 0, none⟩)), (3, .pointer (some ⟨b22, 0, none⟩)), (4, .pointer (some ⟨b23, 0, none⟩))] ?_
     refine J.seq ?_
     refine J.sr ?_
     refine JL.pur (.pointer (some ⟨b21, 0, none⟩)) (some 20) ?_
     refine JL.val (.slice Aa2 a1.Sums.length c3) (some 21) (yields_load_box 6 0 (holds_box b21 25 [.slice Aa2 a1.Sums.length c3, .slice Aa5 a1.Ns.length c6, .slice Aa8 a1.Spans.length c9]) tyAgg_22) ?_
     refine JL.pur (.int .i64 (a1.Sums.length : Int)) (some 22) ?_
     refine JL.pur (.pointer (some ⟨b22, 0, none⟩)) (some 23) ?_
     refine JL.val (.slice Aa12 b11.Sums.length c13) (some 24) (yields_load_box 7 0 (holds_box b22 25 [.slice Aa12 b11.Sums.length c13, .slice Aa15 b11.Ns.length c16, .slice Aa18 b11.Spans.length c19]) tyAgg_22) ?_
     refine JL.pur (.int .i64 (b11.Sums.length : Int)) (some 25) ?_
     refine JL.pur (.bool (!decide ((a1.Sums.length : Int) = (b11.Sums.length : Int)))) (some 26) ?_
     refine JL.es [(2, .pointer (some ⟨b21, 0, none⟩)), (3, .pointer (some ⟨b22, 0, none⟩)), (4, .pointer (some ⟨b23, 0, none⟩)), (26, .bool (!decide ((a1.Sums.length : Int) = (b11.Sums.length : Int))))] ?_
     rcases ite_cases H0 with ⟨h30, H0⟩ | ⟨h30, H0⟩
     · refine J.cond_true h30 ?_
       refine J.sr ?_
       refine JL.pur (.agg #[.slice none 0 0, .slice none 0 0, .slice none 0 0]) (some 27) ?_
       refine JL.store 8 b23 0 25 [.slice none 0 0, .slice none 0 0, .slice none 0 0] [.slice none 0 0, .slice none 0 0, .slice none 0 0] tySize_25 ?_
       refine JL.as (.int .i64 2) ?_
       refine JL.es [(4, .pointer (some ⟨b23, 0, none⟩)), (5, .int .i64 2)] ?_
       refine JQ.mask [At.box b23 25 [.slice none 0 0, .slice none 0 0, .slice none 0 0]] [false, false, false, false, false, false, false, false, true] ?_
       refine J.ret ?_
       refine JQ.then_ret ?_
       obtain rfl := Option.some.inj H0
       exact JQ.done' (rs := [.cell 4 25, .tmp 5]) (vs := [.agg #[.slice none 0 0, .slice none 0 0, .slice none 0 0], .int .i64 2]) [At.row none 0 49 fl_Count.kd ([] : List Count) false, At.row none 0 49 fl_Count.kd ([] : List Count) false, At.row none 0 51 fl_Gap.kd ([] : List Gap) false] (.inr rfl) ⟨⟨b23, 0, _, _, by kernel_rfl, by kernel_rfl, holds_box b23 25 [.slice none 0 0, .slice none 0 0, .slice none 0 0], .inl ⟨tyAgg_25, tySize_25, rfl⟩⟩, by kernel_rfl, trivial⟩ (fun _ h => Heap.to (Heap.pick [1, 2, 3] (by decide) (Heap.addRow0 (α := Gap) 51 fl_Gap.kd false (Heap.addRow0 (α := Count) 49 fl_Count.kd false (Heap.addRow0 (α := Count) 49 fl_Count.kd false h))))) ⟨none, 0, none, 0, none, 0, rfl, rfl⟩
     · refine J.cond_false h30 ?_
       refine J.skip ?_
       refine JQ.ts [(2, .pointer (some ⟨b21, 0, none⟩)), (3, .pointer (some ⟨b22, 0, none⟩)), (4, .pointer (some ⟨b23, 0, none⟩))] ?_
       refine J.sr ?_
       refine JL.val (.agg #[.slice Aa2 a1.Sums.length c3, .slice Aa5 a1.Ns.length c6, .slice Aa8 a1.Spans.length c9]) (some 28) (yields_load_boxes 6 0 [.slice Aa2 a1.Sums.length c3, .slice Aa5 a1.Ns.length c6, .slice Aa8 a1.Spans.length c9] (holds_box b21 25 [.slice Aa2 a1.Sums.length c3, .slice Aa5 a1.Ns.length c6, .slice Aa8 a1.Spans.length c9]) tyAgg_25 tySize_25) ?_
       refine JL.val (.agg #[.slice Aa12 b11.Sums.length c13, .slice Aa15 b11.Ns.length c16, .slice Aa18 b11.Spans.length c19]) (some 29) (yields_load_boxes 7 0 [.slice Aa12 b11.Sums.length c13, .slice Aa15 b11.Ns.length c16, .slice Aa18 b11.Spans.length c19] (holds_box b22 25 [.slice Aa12 b11.Sums.length c13, .slice Aa15 b11.Ns.length c16, .slice Aa18 b11.Spans.length c19]) tyAgg_25 tySize_25) ?_
       obtain ⟨t31, hc32, H0⟩ := bind_some H0
       refine JL.call [] [] [] (accum_merge.ok a1 Aa2 c3 Aa5 c6 Aa8 c9 b11 Aa12 c13 Aa15 c16 Aa18 c19 _ hc32) ⟨pre_any 0 (view_rd Aa2 c3 fl_Count.kd a1.Sums true true), ⟨pre_any 1 (view_rd Aa5 c6 fl_Count.kd a1.Ns true true), ⟨pre_any 2 (view_rd Aa8 c9 fl_Gap.kd a1.Spans true true), ⟨pre_any 3 (view_rd Aa12 c13 fl_Count.kd b11.Sums true true), ⟨pre_any 4 (view_rd Aa15 c16 fl_Count.kd b11.Ns true true), ⟨pre_any 5 (view_rd Aa18 c19 fl_Gap.kd b11.Spans true true), trivial⟩⟩⟩⟩⟩⟩ ?_
       rintro _ _ ⟨Aa33, c34, Aa36, c37, Aa39, c40, rfl, rfl⟩
       refine JL.pur (.agg #[.slice Aa33 t31.1.Sums.length c34, .slice Aa36 t31.1.Ns.length c37, .slice Aa39 t31.1.Spans.length c40]) (some 31) ?_
       refine JL.pur (.int .i64 t31.2) (some 32) ?_
       refine JL.store 8 b23 0 25 [.slice none 0 0, .slice none 0 0, .slice none 0 0] [.slice Aa33 t31.1.Sums.length c34, .slice Aa36 t31.1.Ns.length c37, .slice Aa39 t31.1.Spans.length c40] tySize_25 ?_
       refine JL.as (.int .i64 t31.2) ?_
       refine JL.es [(4, .pointer (some ⟨b23, 0, none⟩)), (5, .int .i64 t31.2)] ?_
       refine JQ.mask [At.box b23 25 [.slice Aa33 t31.1.Sums.length c34, .slice Aa36 t31.1.Ns.length c37, .slice Aa39 t31.1.Spans.length c40], At.row Aa33 c34 49 fl_Count.kd t31.1.Sums false, At.row Aa36 c37 49 fl_Count.kd t31.1.Ns false, At.row Aa39 c40 51 fl_Gap.kd t31.1.Spans false] [false, false, false, false, false, false, false, false, true, true, true, true] ?_
       refine J.ret ?_
       obtain rfl := Option.some.inj H0
       exact JQ.done' (rs := [.cell 4 25, .tmp 5]) (vs := [.agg #[.slice Aa33 t31.1.Sums.length c34, .slice Aa36 t31.1.Ns.length c37, .slice Aa39 t31.1.Spans.length c40], .int .i64 t31.2]) [At.row Aa33 c34 49 fl_Count.kd t31.1.Sums false, At.row Aa36 c37 49 fl_Count.kd t31.1.Ns false, At.row Aa39 c40 51 fl_Gap.kd t31.1.Spans false] (.inr rfl) ⟨⟨b23, 0, _, _, by kernel_rfl, by kernel_rfl, holds_box b23 25 [.slice Aa33 t31.1.Sums.length c34, .slice Aa36 t31.1.Ns.length c37, .slice Aa39 t31.1.Spans.length c40], .inl ⟨tyAgg_25, tySize_25, rfl⟩⟩, by kernel_rfl, trivial⟩ (fun _ h => Heap.to (Heap.pick [1, 2, 3] (by decide) h)) ⟨Aa33, c34, Aa36, c37, Aa39, c40, rfl, rfl⟩

theorem ref18_Same.ok (a1 : Acc) (Aa2 : Option Addr) (c3 : Nat) (Aa5 : Option Addr) (c6 : Nat) (Aa8 : Option Addr) (c9 : Nat) (b11 : Acc) (Aa12 : Option Addr) (c13 : Nat) (Aa15 : Option Addr) (c16 : Nat) (Aa18 : Option Addr) (c19 : Nat) (r : Bool) (H0 : ref18_Same.f a1 b11 = some r) :
    Does Try.prog 17 [.agg #[.slice Aa2 a1.Sums.length c3, .slice Aa5 a1.Ns.length c6, .slice Aa8 a1.Spans.length c9], .agg #[.slice Aa12 b11.Sums.length c13, .slice Aa15 b11.Ns.length c16, .slice Aa18 b11.Spans.length c19]].toArray [At.rd Aa2 c3 fl_Count.kd a1.Sums true, At.rd Aa5 c6 fl_Count.kd a1.Ns true, At.rd Aa8 c9 fl_Gap.kd a1.Spans true, At.rd Aa12 c13 fl_Count.kd b11.Sums true, At.rd Aa15 c16 fl_Count.kd b11.Ns true, At.rd Aa18 c19 fl_Gap.kd b11.Spans true] [] false (fun v Δ => v = .bool r ∧ Δ = []) := by
 refine Does.body (vs := [.agg #[.slice Aa2 a1.Sums.length c3, .slice Aa5 a1.Ns.length c6, .slice Aa8 a1.Spans.length c9], .agg #[.slice Aa12 b11.Sums.length c13, .slice Aa15 b11.Ns.length c16, .slice Aa18 b11.Spans.length c19]]) Try.func17 rfl ⟨.inl rfl, .inl rfl, .inl rfl, .inl rfl, .inl rfl, .inl rfl, trivial⟩ trivial fun w S => ?_
 unfold ref18_Same.f at H0
 refine J.sr ?_
 refine JL.box [.slice Aa2 a1.Sums.length c3, .slice Aa5 a1.Ns.length c6, .slice Aa8 a1.Spans.length c9] fun b21 => ?_
 refine JL.box [.slice Aa12 b11.Sums.length c13, .slice Aa15 b11.Ns.length c16, .slice Aa18 b11.Spans.length c19] fun b22 => ?_
 refine JL.as (.bool false) ?_
 refine JL.es [(2, .pointer (some ⟨b21, 0, none⟩)), (3, .pointer (some ⟨b22, 0, none⟩))] ?_
 refine J.seq ?_
 refine J.join (T := Bool) (G := Unit) (fun t => ref18_Same.k1 a1 b11 t = some r) (fun t g => [(2, .pointer (some ⟨b21, 0, none⟩)), (3, .pointer (some ⟨b22, 0, none⟩)), (32, .bool t)]) (fun t g => [At.box b21 25 [.slice Aa2 a1.Sums.length c3, .slice Aa5 a1.Ns.length c6, .slice Aa8 a1.Spans.length c9], At.rd Aa2 c3 fl_Count.kd a1.Sums true, At.rd Aa5 c6 fl_Count.kd a1.Ns true, At.rd Aa8 c9 fl_Gap.kd a1.Spans true, At.box b22 25 [.slice Aa12 b11.Sums.length c13, .slice Aa15 b11.Ns.length c16, .slice Aa18 b11.Spans.length c19], At.rd Aa12 c13 fl_Count.kd b11.Sums true, At.rd Aa15 c16 fl_Count.kd b11.Ns true, At.rd Aa18 c19 fl_Gap.kd b11.Spans true]) ?_ ?_
 · refine J.region ?_
   refine JL.pur (.pointer (some ⟨b21, 0, none⟩)) (some 8) ?_
   refine JL.val (.slice Aa2 a1.Sums.length c3) (some 9) (yields_load_box 6 0 (holds_box b21 25 [.slice Aa2 a1.Sums.length c3, .slice Aa5 a1.Ns.length c6, .slice Aa8 a1.Spans.length c9]) tyAgg_22) ?_
   refine JL.pur (.int .i64 (a1.Sums.length : Int)) (some 10) ?_
   refine JL.pur (.pointer (some ⟨b22, 0, none⟩)) (some 11) ?_
   refine JL.val (.slice Aa12 b11.Sums.length c13) (some 12) (yields_load_box 7 0 (holds_box b22 25 [.slice Aa12 b11.Sums.length c13, .slice Aa15 b11.Ns.length c16, .slice Aa18 b11.Spans.length c19]) tyAgg_22) ?_
   refine JL.pur (.int .i64 (b11.Sums.length : Int)) (some 13) ?_
   refine JL.pur (.bool (!decide ((a1.Sums.length : Int) = (b11.Sums.length : Int)))) (some 14) ?_
   refine JL.mv (.bool (!decide ((a1.Sums.length : Int) = (b11.Sums.length : Int)))) ?_
   rcases ite_cases H0 with ⟨h156, H0⟩ | ⟨h156, H0⟩
   · refine JL.off 7 15 false (some 16) h156 ?_
     refine JL.off 7 15 false (some 17) h156 ?_
     refine JL.off 7 15 false (some 18) h156 ?_
     refine JL.off 7 15 false (some 19) h156 ?_
     refine JL.off 7 15 false (some 20) h156 ?_
     refine JL.off 7 15 false (some 21) h156 ?_
     refine JL.off 7 15 false (some 22) h156 ?_
     refine JL.val (.bool true) (some 23) (gives_pickT h156) ?_
     refine JL.mv (.bool true) ?_
     refine JL.off 16 24 false (some 25) rfl ?_
     refine JL.off 16 24 false (some 26) rfl ?_
     refine JL.off 16 24 false (some 27) rfl ?_
     refine JL.off 16 24 false (some 28) rfl ?_
     refine JL.off 16 24 false (some 29) rfl ?_
     refine JL.off 16 24 false (some 30) rfl ?_
     refine JL.off 16 24 false (some 31) rfl ?_
     refine JL.val (.bool true) (some 32) (gives_pickT rfl) ?_
     refine JL.en ?_
     exact JQ.meet true () H0 (fun _ h => Heap.to (Heap.pick [6, 0, 1, 2, 7, 3, 4, 5] (by decide) h))
   · refine JL.on 7 15 h156 ?_
     refine JL.pur (.pointer (some ⟨b21, 1, none⟩)) (some 16) ?_
     refine JL.on 7 15 h156 ?_
     refine JL.val (.slice Aa5 a1.Ns.length c6) (some 17) (yields_load_box 6 1 (holds_box b21 25 [.slice Aa2 a1.Sums.length c3, .slice Aa5 a1.Ns.length c6, .slice Aa8 a1.Spans.length c9]) tyAgg_22) ?_
     refine JL.on 7 15 h156 ?_
     refine JL.pur (.int .i64 (a1.Ns.length : Int)) (some 18) ?_
     refine JL.on 7 15 h156 ?_
     refine JL.pur (.pointer (some ⟨b22, 1, none⟩)) (some 19) ?_
     refine JL.on 7 15 h156 ?_
     refine JL.val (.slice Aa15 b11.Ns.length c16) (some 20) (yields_load_box 7 1 (holds_box b22 25 [.slice Aa12 b11.Sums.length c13, .slice Aa15 b11.Ns.length c16, .slice Aa18 b11.Spans.length c19]) tyAgg_22) ?_
     refine JL.on 7 15 h156 ?_
     refine JL.pur (.int .i64 (b11.Ns.length : Int)) (some 21) ?_
     refine JL.on 7 15 h156 ?_
     refine JL.pur (.bool (!decide ((a1.Ns.length : Int) = (b11.Ns.length : Int)))) (some 22) ?_
     refine JL.val (.bool (!decide ((a1.Ns.length : Int) = (b11.Ns.length : Int)))) (some 23) (gives_pickF h156) ?_
     refine JL.mv (.bool (!decide ((a1.Ns.length : Int) = (b11.Ns.length : Int)))) ?_
     rcases ite_cases H0 with ⟨h157, H0⟩ | ⟨h157, H0⟩
     · refine JL.off 16 24 false (some 25) h157 ?_
       refine JL.off 16 24 false (some 26) h157 ?_
       refine JL.off 16 24 false (some 27) h157 ?_
       refine JL.off 16 24 false (some 28) h157 ?_
       refine JL.off 16 24 false (some 29) h157 ?_
       refine JL.off 16 24 false (some 30) h157 ?_
       refine JL.off 16 24 false (some 31) h157 ?_
       refine JL.val (.bool true) (some 32) (gives_pickT h157) ?_
       refine JL.en ?_
       exact JQ.meet true () H0 (fun _ h => Heap.to (Heap.pick [6, 0, 1, 2, 7, 3, 4, 5] (by decide) h))
     · refine JL.on 16 24 h157 ?_
       refine JL.pur (.pointer (some ⟨b21, 2, none⟩)) (some 25) ?_
       refine JL.on 16 24 h157 ?_
       refine JL.val (.slice Aa8 a1.Spans.length c9) (some 26) (yields_load_box 6 2 (holds_box b21 25 [.slice Aa2 a1.Sums.length c3, .slice Aa5 a1.Ns.length c6, .slice Aa8 a1.Spans.length c9]) tyAgg_23) ?_
       refine JL.on 16 24 h157 ?_
       refine JL.pur (.int .i64 (a1.Spans.length : Int)) (some 27) ?_
       refine JL.on 16 24 h157 ?_
       refine JL.pur (.pointer (some ⟨b22, 2, none⟩)) (some 28) ?_
       refine JL.on 16 24 h157 ?_
       refine JL.val (.slice Aa18 b11.Spans.length c19) (some 29) (yields_load_box 7 2 (holds_box b22 25 [.slice Aa12 b11.Sums.length c13, .slice Aa15 b11.Ns.length c16, .slice Aa18 b11.Spans.length c19]) tyAgg_23) ?_
       refine JL.on 16 24 h157 ?_
       refine JL.pur (.int .i64 (b11.Spans.length : Int)) (some 30) ?_
       refine JL.on 16 24 h157 ?_
       refine JL.pur (.bool (!decide ((a1.Spans.length : Int) = (b11.Spans.length : Int)))) (some 31) ?_
       refine JL.val (.bool (!decide ((a1.Spans.length : Int) = (b11.Spans.length : Int)))) (some 32) (gives_pickF h157) ?_
       refine JL.en ?_
       exact JQ.meet (!decide ((a1.Spans.length : Int) = (b11.Spans.length : Int))) () H0 (fun _ h => Heap.to (Heap.pick [6, 0, 1, 2, 7, 3, 4, 5] (by decide) h))
 · clear H0
   rintro x25 ⟨⟩ H0
   replace H0 : ref18_Same.k1 a1 b11 x25 = some r := H0
   unfold ref18_Same.k1 at H0
   refine JQ.sub [(2, .pointer (some ⟨b21, 0, none⟩)), (3, .pointer (some ⟨b22, 0, none⟩)), (32, .bool x25)] ?_
   refine JQ.turn (Δ' := [At.box b21 25 [.slice Aa2 a1.Sums.length c3, .slice Aa5 a1.Ns.length c6, .slice Aa8 a1.Spans.length c9], At.rd Aa2 c3 fl_Count.kd a1.Sums true, At.rd Aa5 c6 fl_Count.kd a1.Ns true, At.rd Aa8 c9 fl_Gap.kd a1.Spans true, At.box b22 25 [.slice Aa12 b11.Sums.length c13, .slice Aa15 b11.Ns.length c16, .slice Aa18 b11.Spans.length c19], At.rd Aa12 c13 fl_Count.kd b11.Sums true, At.rd Aa15 c16 fl_Count.kd b11.Ns true, At.rd Aa18 c19 fl_Gap.kd b11.Spans true]) (fun _ h => h.to) ?_
   rcases ite_cases H0 with ⟨h26, H0⟩ | ⟨h26, H0⟩
   · refine J.cond_true h26 ?_
     refine J.sr ?_
     refine JL.as (.bool false) ?_
     refine JL.es [(4, .bool false)] ?_
     refine JQ.mask [] [false, false, false, false, false, false, false, false] ?_
     refine J.ret ?_
     refine JQ.then_ret ?_
     obtain rfl := Option.some.inj H0
     exact JQ.done' (rs := [.tmp 4]) (vs := [.bool false]) [] (.inr rfl) ⟨by kernel_rfl, trivial⟩ (fun _ h => Heap.to h) ⟨rfl, rfl⟩
   · refine J.cond_false h26 ?_
     refine J.skip ?_
     refine JQ.ts [(2, .pointer (some ⟨b21, 0, none⟩)), (3, .pointer (some ⟨b22, 0, none⟩))] ?_
     refine J.seq ?_
     refine J.sr ?_
     refine JL.as (.int .i64 0) ?_
     refine JL.en ?_
     obtain ⟨o1, hit, H0⟩ := bind_some H0
     refine J.loop (σ := Int) (τ := Unit) (G := Unit) (G' := Unit) _ o1 (fun s g => [(2, .pointer (some ⟨b21, 0, none⟩)), (3, .pointer (some ⟨b22, 0, none⟩)), (5, .int .i64 s)]) (fun s g => [At.box b21 25 [.slice Aa2 a1.Sums.length c3, .slice Aa5 a1.Ns.length c6, .slice Aa8 a1.Spans.length c9], At.rd Aa2 c3 fl_Count.kd a1.Sums true, At.rd Aa5 c6 fl_Count.kd a1.Ns true, At.rd Aa8 c9 fl_Gap.kd a1.Spans true, At.box b22 25 [.slice Aa12 b11.Sums.length c13, .slice Aa15 b11.Ns.length c16, .slice Aa18 b11.Spans.length c19], At.rd Aa12 c13 fl_Count.kd b11.Sums true, At.rd Aa15 c16 fl_Count.kd b11.Ns true, At.rd Aa18 c19 fl_Gap.kd b11.Spans true]) (fun t => ref18_Same.k3 a1 b11 = some r) (fun t g => [(2, .pointer (some ⟨b21, 0, none⟩)), (3, .pointer (some ⟨b22, 0, none⟩))]) (fun t g => [At.box b21 25 [.slice Aa2 a1.Sums.length c3, .slice Aa5 a1.Ns.length c6, .slice Aa8 a1.Spans.length c9], At.rd Aa2 c3 fl_Count.kd a1.Sums true, At.rd Aa5 c6 fl_Count.kd a1.Ns true, At.rd Aa8 c9 fl_Gap.kd a1.Spans true, At.box b22 25 [.slice Aa12 b11.Sums.length c13, .slice Aa15 b11.Ns.length c16, .slice Aa18 b11.Spans.length c19], At.rd Aa12 c13 fl_Count.kd b11.Sums true, At.rd Aa15 c16 fl_Count.kd b11.Ns true, At.rd Aa18 c19 fl_Gap.kd b11.Spans true]) 0 () hit (fun _ h => Heap.to h) ?_ ?_
     · clear hit
       rintro i49 ⟨⟩ st1 H1 hb1 hr1
       replace H1 : ref18_Same.s2 a1 b11 i49 = some st1 := H1
       unfold ref18_Same.s2 at H1
       refine JQ.sub [(2, .pointer (some ⟨b21, 0, none⟩)), (3, .pointer (some ⟨b22, 0, none⟩)), (5, .int .i64 i49)] ?_
       refine JQ.turn (Δ' := [At.box b21 25 [.slice Aa2 a1.Sums.length c3, .slice Aa5 a1.Ns.length c6, .slice Aa8 a1.Spans.length c9], At.rd Aa2 c3 fl_Count.kd a1.Sums true, At.rd Aa5 c6 fl_Count.kd a1.Ns true, At.rd Aa8 c9 fl_Gap.kd a1.Spans true, At.box b22 25 [.slice Aa12 b11.Sums.length c13, .slice Aa15 b11.Ns.length c16, .slice Aa18 b11.Spans.length c19], At.rd Aa12 c13 fl_Count.kd b11.Sums true, At.rd Aa15 c16 fl_Count.kd b11.Ns true, At.rd Aa18 c19 fl_Gap.kd b11.Spans true]) (fun _ h => h.to) ?_
       refine J.seq ?_
       refine J.sr ?_
       refine JL.mv (.int .i64 i49) ?_
       refine JL.pur (.pointer (some ⟨b21, 0, none⟩)) (some 34) ?_
       refine JL.val (.slice Aa2 a1.Sums.length c3) (some 35) (yields_load_box 0 0 (holds_box b21 25 [.slice Aa2 a1.Sums.length c3, .slice Aa5 a1.Ns.length c6, .slice Aa8 a1.Spans.length c9]) tyAgg_22) ?_
       refine JL.pur (.int .i64 (a1.Sums.length : Int)) (some 36) ?_
       refine JL.pur (.bool (decide (i49 < (a1.Sums.length : Int)))) (some 37) ?_
       refine JL.es [(2, .pointer (some ⟨b21, 0, none⟩)), (3, .pointer (some ⟨b22, 0, none⟩)), (5, .int .i64 i49), (37, .bool (decide (i49 < (a1.Sums.length : Int))))] ?_
       rcases ite_cases H1 with ⟨h146, H1⟩ | ⟨h146, H1⟩
       · refine J.cond_true h146 ?_
         refine J.skip ?_
         refine JQ.ts [(2, .pointer (some ⟨b21, 0, none⟩)), (3, .pointer (some ⟨b22, 0, none⟩)), (5, .int .i64 i49)] ?_
         refine J.seq ?_
         refine J.block ?_
         refine J.seq ?_
         refine J.draw ?_
         refine QL.pur (.pointer (some ⟨b21, 0, none⟩)) (some 40) ?_
         refine QL.val (.slice Aa2 a1.Sums.length c3) (some 41) (yields_load_box 0 0 (holds_box b21 25 [.slice Aa2 a1.Sums.length c3, .slice Aa5 a1.Ns.length c6, .slice Aa8 a1.Spans.length c9]) tyAgg_22) ?_
         refine QL.mv (.int .i64 i49) ?_
         obtain ⟨⟨h147, h148⟩, H1⟩ := ite_must H1
         refine QL.ixAddr 1 2 c3 .i64 (elems_rd Aa2 c3 fl_Count.kd a1.Sums true) Try.underlying22 tySize_49 h147 h148 fun g149 o150 hA => ?_
         subst hA
         refine QL.val (mv_49 (ix a1.Sums i49)) (some 44) (gives_loadEl (f := fl_Count) 1 0 i49 (elems_rd (some ⟨g149, o150, none⟩) c3 fl_Count.kd a1.Sums true) h147 h148 tySize_49 (.inl ⟨tyAgg_49, rfl⟩)) ?_
         refine QL.pur (.pointer (some ⟨b22, 0, none⟩)) (some 45) ?_
         refine QL.val (.slice Aa12 b11.Sums.length c13) (some 46) (yields_load_box 4 0 (holds_box b22 25 [.slice Aa12 b11.Sums.length c13, .slice Aa15 b11.Ns.length c16, .slice Aa18 b11.Spans.length c19]) tyAgg_22) ?_
         refine QL.mv (.int .i64 i49) ?_
         obtain ⟨⟨h151, h152⟩, H1⟩ := ite_must H1
         refine QL.ixAddr 5 2 c13 .i64 (elems_rd Aa12 c13 fl_Count.kd b11.Sums true) Try.underlying22 tySize_49 h151 h152 fun g153 o154 hA => ?_
         subst hA
         refine QL.val (mv_49 (ix b11.Sums i49)) (some 49) (gives_loadEl (f := fl_Count) 5 0 i49 (elems_rd (some ⟨g153, o154, none⟩) c13 fl_Count.kd b11.Sums true) h151 h152 tySize_49 (.inl ⟨tyAgg_49, rfl⟩)) ?_
         refine QL.val (.bool (!decide ((ix a1.Sums i49) = (ix b11.Sums i49)))) (some 50) (gives_neq eqg_49 (fun w => eqt_49 (ix a1.Sums i49) (ix b11.Sums i49) w)) ?_
         refine QL.nil ?_
         refine JA.nil ?_
         refine JQ.ts [(2, .pointer (some ⟨b21, 0, none⟩)), (3, .pointer (some ⟨b22, 0, none⟩)), (5, .int .i64 i49), (50, .bool (!decide ((ix a1.Sums i49) = (ix b11.Sums i49))))] ?_
         rcases ite_cases H1 with ⟨h155, H1⟩ | ⟨h155, H1⟩
         · refine J.cond_true h155 ?_
           refine J.sr ?_
           refine JL.as (.bool false) ?_
           refine JL.es [(4, .bool false)] ?_
           refine JQ.mask [] [false, false, false, false, false, false, false, false] ?_
           refine J.ret ?_
           refine JQ.blk_ret ?_
           refine JQ.then_ret ?_
           refine JQ.then_ret ?_
           refine JQ.blk_ret ?_
           refine JQ.met_ret ?_
           refine JQ.then_ret ?_
           rw [hr1 _ (Option.some.inj H1).symm, fin_ret] at H0
           obtain rfl := Option.some.inj H0
           exact JQ.done' (rs := [.tmp 4]) (vs := [.bool false]) [] (.inr rfl) ⟨by kernel_rfl, trivial⟩ (fun _ h => Heap.to h) ⟨rfl, rfl⟩
         · refine J.cond_false h155 ?_
           refine J.skip ?_
           refine JQ.blk_normal ?_
           refine JQ.ts [(2, .pointer (some ⟨b21, 0, none⟩)), (3, .pointer (some ⟨b22, 0, none⟩)), (5, .int .i64 i49)] ?_
           refine J.region ?_
           refine JL.mv (.int .i64 i49) ?_
           refine JL.pur (.int .i64 (w64 (i49 + 1))) (some 39) ?_
           refine JL.as (.int .i64 (w64 (i49 + 1))) ?_
           refine JL.en ?_
           exact JQ.again (w64 (i49 + 1)) () (Option.some.inj H1).symm (fun _ h => Heap.to h)
       · refine J.cond_false h146 ?_
         refine J.exit ?_
         refine JQ.then_exit ?_
         refine JQ.then_exit ?_
         refine JQ.blk_exit ?_
         rw [hb1 _ (Option.some.inj H1).symm, fin_brk] at H0
         exact JQ.met () () H0 (fun _ h => Heap.to h)
     · clear hit H0
       rintro ⟨⟩ ⟨⟩ H0
       replace H0 : ref18_Same.k3 a1 b11 = some r := H0
       unfold ref18_Same.k3 at H0
       refine JQ.sub [(2, .pointer (some ⟨b21, 0, none⟩)), (3, .pointer (some ⟨b22, 0, none⟩))] ?_
       refine JQ.turn (Δ' := [At.box b21 25 [.slice Aa2 a1.Sums.length c3, .slice Aa5 a1.Ns.length c6, .slice Aa8 a1.Spans.length c9], At.rd Aa2 c3 fl_Count.kd a1.Sums true, At.rd Aa5 c6 fl_Count.kd a1.Ns true, At.rd Aa8 c9 fl_Gap.kd a1.Spans true, At.box b22 25 [.slice Aa12 b11.Sums.length c13, .slice Aa15 b11.Ns.length c16, .slice Aa18 b11.Spans.length c19], At.rd Aa12 c13 fl_Count.kd b11.Sums true, At.rd Aa15 c16 fl_Count.kd b11.Ns true, At.rd Aa18 c19 fl_Gap.kd b11.Spans true]) (fun _ h => h.to) ?_
       refine JQ.then_normal ?_
       refine J.seq ?_
       refine J.sr ?_
       refine JL.as (.int .i64 0) ?_
       refine JL.en ?_
       obtain ⟨o1, hit, H0⟩ := bind_some H0
       refine J.loop (σ := Int) (τ := Unit) (G := Unit) (G' := Unit) _ o1 (fun s g => [(2, .pointer (some ⟨b21, 0, none⟩)), (3, .pointer (some ⟨b22, 0, none⟩)), (6, .int .i64 s)]) (fun s g => [At.box b21 25 [.slice Aa2 a1.Sums.length c3, .slice Aa5 a1.Ns.length c6, .slice Aa8 a1.Spans.length c9], At.rd Aa2 c3 fl_Count.kd a1.Sums true, At.rd Aa5 c6 fl_Count.kd a1.Ns true, At.rd Aa8 c9 fl_Gap.kd a1.Spans true, At.box b22 25 [.slice Aa12 b11.Sums.length c13, .slice Aa15 b11.Ns.length c16, .slice Aa18 b11.Spans.length c19], At.rd Aa12 c13 fl_Count.kd b11.Sums true, At.rd Aa15 c16 fl_Count.kd b11.Ns true, At.rd Aa18 c19 fl_Gap.kd b11.Spans true]) (fun t => ref18_Same.k5 a1 b11 = some r) (fun t g => [(2, .pointer (some ⟨b21, 0, none⟩)), (3, .pointer (some ⟨b22, 0, none⟩))]) (fun t g => [At.box b21 25 [.slice Aa2 a1.Sums.length c3, .slice Aa5 a1.Ns.length c6, .slice Aa8 a1.Spans.length c9], At.rd Aa2 c3 fl_Count.kd a1.Sums true, At.rd Aa5 c6 fl_Count.kd a1.Ns true, At.rd Aa8 c9 fl_Gap.kd a1.Spans true, At.box b22 25 [.slice Aa12 b11.Sums.length c13, .slice Aa15 b11.Ns.length c16, .slice Aa18 b11.Spans.length c19], At.rd Aa12 c13 fl_Count.kd b11.Sums true, At.rd Aa15 c16 fl_Count.kd b11.Ns true, At.rd Aa18 c19 fl_Gap.kd b11.Spans true]) 0 () hit (fun _ h => Heap.to h) ?_ ?_
       · clear hit
         rintro i82 ⟨⟩ st1 H1 hb1 hr1
         replace H1 : ref18_Same.s4 a1 b11 i82 = some st1 := H1
         unfold ref18_Same.s4 at H1
         refine JQ.sub [(2, .pointer (some ⟨b21, 0, none⟩)), (3, .pointer (some ⟨b22, 0, none⟩)), (6, .int .i64 i82)] ?_
         refine JQ.turn (Δ' := [At.box b21 25 [.slice Aa2 a1.Sums.length c3, .slice Aa5 a1.Ns.length c6, .slice Aa8 a1.Spans.length c9], At.rd Aa2 c3 fl_Count.kd a1.Sums true, At.rd Aa5 c6 fl_Count.kd a1.Ns true, At.rd Aa8 c9 fl_Gap.kd a1.Spans true, At.box b22 25 [.slice Aa12 b11.Sums.length c13, .slice Aa15 b11.Ns.length c16, .slice Aa18 b11.Spans.length c19], At.rd Aa12 c13 fl_Count.kd b11.Sums true, At.rd Aa15 c16 fl_Count.kd b11.Ns true, At.rd Aa18 c19 fl_Gap.kd b11.Spans true]) (fun _ h => h.to) ?_
         refine J.seq ?_
         refine J.sr ?_
         refine JL.mv (.int .i64 i82) ?_
         refine JL.pur (.pointer (some ⟨b21, 1, none⟩)) (some 52) ?_
         refine JL.val (.slice Aa5 a1.Ns.length c6) (some 53) (yields_load_box 0 1 (holds_box b21 25 [.slice Aa2 a1.Sums.length c3, .slice Aa5 a1.Ns.length c6, .slice Aa8 a1.Spans.length c9]) tyAgg_22) ?_
         refine JL.pur (.int .i64 (a1.Ns.length : Int)) (some 54) ?_
         refine JL.pur (.bool (decide (i82 < (a1.Ns.length : Int)))) (some 55) ?_
         refine JL.es [(2, .pointer (some ⟨b21, 0, none⟩)), (3, .pointer (some ⟨b22, 0, none⟩)), (6, .int .i64 i82), (55, .bool (decide (i82 < (a1.Ns.length : Int))))] ?_
         rcases ite_cases H1 with ⟨h136, H1⟩ | ⟨h136, H1⟩
         · refine J.cond_true h136 ?_
           refine J.skip ?_
           refine JQ.ts [(2, .pointer (some ⟨b21, 0, none⟩)), (3, .pointer (some ⟨b22, 0, none⟩)), (6, .int .i64 i82)] ?_
           refine J.seq ?_
           refine J.block ?_
           refine J.seq ?_
           refine J.draw ?_
           refine QL.pur (.pointer (some ⟨b21, 1, none⟩)) (some 58) ?_
           refine QL.val (.slice Aa5 a1.Ns.length c6) (some 59) (yields_load_box 0 1 (holds_box b21 25 [.slice Aa2 a1.Sums.length c3, .slice Aa5 a1.Ns.length c6, .slice Aa8 a1.Spans.length c9]) tyAgg_22) ?_
           refine QL.mv (.int .i64 i82) ?_
           obtain ⟨⟨h137, h138⟩, H1⟩ := ite_must H1
           refine QL.ixAddr 2 2 c6 .i64 (elems_rd Aa5 c6 fl_Count.kd a1.Ns true) Try.underlying22 tySize_49 h137 h138 fun g139 o140 hA => ?_
           subst hA
           refine QL.val (mv_49 (ix a1.Ns i82)) (some 62) (gives_loadEl (f := fl_Count) 2 0 i82 (elems_rd (some ⟨g139, o140, none⟩) c6 fl_Count.kd a1.Ns true) h137 h138 tySize_49 (.inl ⟨tyAgg_49, rfl⟩)) ?_
           refine QL.pur (.pointer (some ⟨b22, 1, none⟩)) (some 63) ?_
           refine QL.val (.slice Aa15 b11.Ns.length c16) (some 64) (yields_load_box 4 1 (holds_box b22 25 [.slice Aa12 b11.Sums.length c13, .slice Aa15 b11.Ns.length c16, .slice Aa18 b11.Spans.length c19]) tyAgg_22) ?_
           refine QL.mv (.int .i64 i82) ?_
           obtain ⟨⟨h141, h142⟩, H1⟩ := ite_must H1
           refine QL.ixAddr 6 2 c16 .i64 (elems_rd Aa15 c16 fl_Count.kd b11.Ns true) Try.underlying22 tySize_49 h141 h142 fun g143 o144 hA => ?_
           subst hA
           refine QL.val (mv_49 (ix b11.Ns i82)) (some 67) (gives_loadEl (f := fl_Count) 6 0 i82 (elems_rd (some ⟨g143, o144, none⟩) c16 fl_Count.kd b11.Ns true) h141 h142 tySize_49 (.inl ⟨tyAgg_49, rfl⟩)) ?_
           refine QL.val (.bool (!decide ((ix a1.Ns i82) = (ix b11.Ns i82)))) (some 68) (gives_neq eqg_49 (fun w => eqt_49 (ix a1.Ns i82) (ix b11.Ns i82) w)) ?_
           refine QL.nil ?_
           refine JA.nil ?_
           refine JQ.ts [(2, .pointer (some ⟨b21, 0, none⟩)), (3, .pointer (some ⟨b22, 0, none⟩)), (6, .int .i64 i82), (68, .bool (!decide ((ix a1.Ns i82) = (ix b11.Ns i82))))] ?_
           rcases ite_cases H1 with ⟨h145, H1⟩ | ⟨h145, H1⟩
           · refine J.cond_true h145 ?_
             refine J.sr ?_
             refine JL.as (.bool false) ?_
             refine JL.es [(4, .bool false)] ?_
             refine JQ.mask [] [false, false, false, false, false, false, false, false] ?_
             refine J.ret ?_
             refine JQ.blk_ret ?_
             refine JQ.then_ret ?_
             refine JQ.then_ret ?_
             refine JQ.blk_ret ?_
             refine JQ.met_ret ?_
             refine JQ.then_ret ?_
             rw [hr1 _ (Option.some.inj H1).symm, fin_ret] at H0
             obtain rfl := Option.some.inj H0
             exact JQ.done' (rs := [.tmp 4]) (vs := [.bool false]) [] (.inr rfl) ⟨by kernel_rfl, trivial⟩ (fun _ h => Heap.to h) ⟨rfl, rfl⟩
           · refine J.cond_false h145 ?_
             refine J.skip ?_
             refine JQ.blk_normal ?_
             refine JQ.ts [(2, .pointer (some ⟨b21, 0, none⟩)), (3, .pointer (some ⟨b22, 0, none⟩)), (6, .int .i64 i82)] ?_
             refine J.region ?_
             refine JL.mv (.int .i64 i82) ?_
             refine JL.pur (.int .i64 (w64 (i82 + 1))) (some 57) ?_
             refine JL.as (.int .i64 (w64 (i82 + 1))) ?_
             refine JL.en ?_
             exact JQ.again (w64 (i82 + 1)) () (Option.some.inj H1).symm (fun _ h => Heap.to h)
         · refine J.cond_false h136 ?_
           refine J.exit ?_
           refine JQ.then_exit ?_
           refine JQ.then_exit ?_
           refine JQ.blk_exit ?_
           rw [hb1 _ (Option.some.inj H1).symm, fin_brk] at H0
           exact JQ.met () () H0 (fun _ h => Heap.to h)
       · clear hit H0
         rintro ⟨⟩ ⟨⟩ H0
         replace H0 : ref18_Same.k5 a1 b11 = some r := H0
         unfold ref18_Same.k5 at H0
         refine JQ.sub [(2, .pointer (some ⟨b21, 0, none⟩)), (3, .pointer (some ⟨b22, 0, none⟩))] ?_
         refine JQ.turn (Δ' := [At.box b21 25 [.slice Aa2 a1.Sums.length c3, .slice Aa5 a1.Ns.length c6, .slice Aa8 a1.Spans.length c9], At.rd Aa2 c3 fl_Count.kd a1.Sums true, At.rd Aa5 c6 fl_Count.kd a1.Ns true, At.rd Aa8 c9 fl_Gap.kd a1.Spans true, At.box b22 25 [.slice Aa12 b11.Sums.length c13, .slice Aa15 b11.Ns.length c16, .slice Aa18 b11.Spans.length c19], At.rd Aa12 c13 fl_Count.kd b11.Sums true, At.rd Aa15 c16 fl_Count.kd b11.Ns true, At.rd Aa18 c19 fl_Gap.kd b11.Spans true]) (fun _ h => h.to) ?_
         refine JQ.then_normal ?_
         refine J.seq ?_
         refine J.sr ?_
         refine JL.as (.int .i64 0) ?_
         refine JL.en ?_
         obtain ⟨o1, hit, H0⟩ := bind_some H0
         refine J.loop (σ := Int) (τ := Unit) (G := Unit) (G' := Unit) _ o1 (fun s g => [(2, .pointer (some ⟨b21, 0, none⟩)), (3, .pointer (some ⟨b22, 0, none⟩)), (7, .int .i64 s)]) (fun s g => [At.box b21 25 [.slice Aa2 a1.Sums.length c3, .slice Aa5 a1.Ns.length c6, .slice Aa8 a1.Spans.length c9], At.rd Aa2 c3 fl_Count.kd a1.Sums true, At.rd Aa5 c6 fl_Count.kd a1.Ns true, At.rd Aa8 c9 fl_Gap.kd a1.Spans true, At.box b22 25 [.slice Aa12 b11.Sums.length c13, .slice Aa15 b11.Ns.length c16, .slice Aa18 b11.Spans.length c19], At.rd Aa12 c13 fl_Count.kd b11.Sums true, At.rd Aa15 c16 fl_Count.kd b11.Ns true, At.rd Aa18 c19 fl_Gap.kd b11.Spans true]) (fun t => ref18_Same.k7 = some r) (fun t g => []) (fun t g => []) 0 () hit (fun _ h => Heap.to h) ?_ ?_
         · clear hit
           rintro i115 ⟨⟩ st1 H1 hb1 hr1
           replace H1 : ref18_Same.s6 a1 b11 i115 = some st1 := H1
           unfold ref18_Same.s6 at H1
           refine JQ.sub [(2, .pointer (some ⟨b21, 0, none⟩)), (3, .pointer (some ⟨b22, 0, none⟩)), (7, .int .i64 i115)] ?_
           refine JQ.turn (Δ' := [At.box b21 25 [.slice Aa2 a1.Sums.length c3, .slice Aa5 a1.Ns.length c6, .slice Aa8 a1.Spans.length c9], At.rd Aa2 c3 fl_Count.kd a1.Sums true, At.rd Aa5 c6 fl_Count.kd a1.Ns true, At.rd Aa8 c9 fl_Gap.kd a1.Spans true, At.box b22 25 [.slice Aa12 b11.Sums.length c13, .slice Aa15 b11.Ns.length c16, .slice Aa18 b11.Spans.length c19], At.rd Aa12 c13 fl_Count.kd b11.Sums true, At.rd Aa15 c16 fl_Count.kd b11.Ns true, At.rd Aa18 c19 fl_Gap.kd b11.Spans true]) (fun _ h => h.to) ?_
           refine J.seq ?_
           refine J.sr ?_
           refine JL.mv (.int .i64 i115) ?_
           refine JL.pur (.pointer (some ⟨b21, 2, none⟩)) (some 70) ?_
           refine JL.val (.slice Aa8 a1.Spans.length c9) (some 71) (yields_load_box 0 2 (holds_box b21 25 [.slice Aa2 a1.Sums.length c3, .slice Aa5 a1.Ns.length c6, .slice Aa8 a1.Spans.length c9]) tyAgg_23) ?_
           refine JL.pur (.int .i64 (a1.Spans.length : Int)) (some 72) ?_
           refine JL.pur (.bool (decide (i115 < (a1.Spans.length : Int)))) (some 73) ?_
           refine JL.es [(2, .pointer (some ⟨b21, 0, none⟩)), (3, .pointer (some ⟨b22, 0, none⟩)), (7, .int .i64 i115), (73, .bool (decide (i115 < (a1.Spans.length : Int))))] ?_
           rcases ite_cases H1 with ⟨h126, H1⟩ | ⟨h126, H1⟩
           · refine J.cond_true h126 ?_
             refine J.skip ?_
             refine JQ.ts [(2, .pointer (some ⟨b21, 0, none⟩)), (3, .pointer (some ⟨b22, 0, none⟩)), (7, .int .i64 i115)] ?_
             refine J.seq ?_
             refine J.block ?_
             refine J.seq ?_
             refine J.draw ?_
             refine QL.pur (.pointer (some ⟨b21, 2, none⟩)) (some 76) ?_
             refine QL.val (.slice Aa8 a1.Spans.length c9) (some 77) (yields_load_box 0 2 (holds_box b21 25 [.slice Aa2 a1.Sums.length c3, .slice Aa5 a1.Ns.length c6, .slice Aa8 a1.Spans.length c9]) tyAgg_23) ?_
             refine QL.mv (.int .i64 i115) ?_
             obtain ⟨⟨h127, h128⟩, H1⟩ := ite_must H1
             refine QL.ixAddr 3 2 c9 .i64 (elems_rd Aa8 c9 fl_Gap.kd a1.Spans true) Try.underlying23 tySize_51 h127 h128 fun g129 o130 hA => ?_
             subst hA
             refine QL.val (mv_51 (ix a1.Spans i115)) (some 80) (gives_loadEl (f := fl_Gap) 3 0 i115 (elems_rd (some ⟨g129, o130, none⟩) c9 fl_Gap.kd a1.Spans true) h127 h128 tySize_51 (.inl ⟨tyAgg_51, rfl⟩)) ?_
             refine QL.pur (.pointer (some ⟨b22, 2, none⟩)) (some 81) ?_
             refine QL.val (.slice Aa18 b11.Spans.length c19) (some 82) (yields_load_box 4 2 (holds_box b22 25 [.slice Aa12 b11.Sums.length c13, .slice Aa15 b11.Ns.length c16, .slice Aa18 b11.Spans.length c19]) tyAgg_23) ?_
             refine QL.mv (.int .i64 i115) ?_
             obtain ⟨⟨h131, h132⟩, H1⟩ := ite_must H1
             refine QL.ixAddr 7 2 c19 .i64 (elems_rd Aa18 c19 fl_Gap.kd b11.Spans true) Try.underlying23 tySize_51 h131 h132 fun g133 o134 hA => ?_
             subst hA
             refine QL.val (mv_51 (ix b11.Spans i115)) (some 85) (gives_loadEl (f := fl_Gap) 7 0 i115 (elems_rd (some ⟨g133, o134, none⟩) c19 fl_Gap.kd b11.Spans true) h131 h132 tySize_51 (.inl ⟨tyAgg_51, rfl⟩)) ?_
             refine QL.val (.bool (!decide ((ix a1.Spans i115) = (ix b11.Spans i115)))) (some 86) (gives_neq eqg_51 (fun w => eqt_51 (ix a1.Spans i115) (ix b11.Spans i115) w)) ?_
             refine QL.nil ?_
             refine JA.nil ?_
             refine JQ.ts [(2, .pointer (some ⟨b21, 0, none⟩)), (3, .pointer (some ⟨b22, 0, none⟩)), (7, .int .i64 i115), (86, .bool (!decide ((ix a1.Spans i115) = (ix b11.Spans i115))))] ?_
             rcases ite_cases H1 with ⟨h135, H1⟩ | ⟨h135, H1⟩
             · refine J.cond_true h135 ?_
               refine J.sr ?_
               refine JL.as (.bool false) ?_
               refine JL.es [(4, .bool false)] ?_
               refine JQ.mask [] [false, false, false, false, false, false, false, false] ?_
               refine J.ret ?_
               refine JQ.blk_ret ?_
               refine JQ.then_ret ?_
               refine JQ.then_ret ?_
               refine JQ.blk_ret ?_
               refine JQ.met_ret ?_
               refine JQ.then_ret ?_
               rw [hr1 _ (Option.some.inj H1).symm, fin_ret] at H0
               obtain rfl := Option.some.inj H0
               exact JQ.done' (rs := [.tmp 4]) (vs := [.bool false]) [] (.inr rfl) ⟨by kernel_rfl, trivial⟩ (fun _ h => Heap.to h) ⟨rfl, rfl⟩
             · refine J.cond_false h135 ?_
               refine J.skip ?_
               refine JQ.blk_normal ?_
               refine JQ.ts [(2, .pointer (some ⟨b21, 0, none⟩)), (3, .pointer (some ⟨b22, 0, none⟩)), (7, .int .i64 i115)] ?_
               refine J.region ?_
               refine JL.mv (.int .i64 i115) ?_
               refine JL.pur (.int .i64 (w64 (i115 + 1))) (some 75) ?_
               refine JL.as (.int .i64 (w64 (i115 + 1))) ?_
               refine JL.en ?_
               exact JQ.again (w64 (i115 + 1)) () (Option.some.inj H1).symm (fun _ h => Heap.to h)
           · refine J.cond_false h126 ?_
             refine J.exit ?_
             refine JQ.then_exit ?_
             refine JQ.then_exit ?_
             refine JQ.blk_exit ?_
             rw [hb1 _ (Option.some.inj H1).symm, fin_brk] at H0
             exact JQ.met () () H0 (fun _ h => Heap.to (Heap.pick [] (by decide) h))
         · clear hit H0
           rintro ⟨⟩ ⟨⟩ H0
           replace H0 : ref18_Same.k7 = some r := H0
           unfold ref18_Same.k7 at H0
           refine JQ.sub [] ?_
           refine JQ.turn (Δ' := []) (fun _ h => h.to) ?_
           refine JQ.then_normal ?_
           refine J.sr ?_
           refine JL.as (.bool true) ?_
           refine JL.en ?_
           refine J.ret ?_
           obtain rfl := Option.some.inj H0
           exact JQ.done' (rs := [.tmp 4]) (vs := [.bool true]) [] (.inr rfl) ⟨by kernel_rfl, trivial⟩ (fun _ h => Heap.to h) ⟨rfl, rfl⟩

theorem law18_AccumSums.ok (a1 : Acc) (Aa2 : Option Addr) (c3 : Nat) (Aa5 : Option Addr) (c6 : Nat) (Aa8 : Option Addr) (c9 : Nat) (b11 : Acc) (Aa12 : Option Addr) (c13 : Nat) (Aa15 : Option Addr) (c16 : Nat) (Aa18 : Option Addr) (c19 : Nat) (l21 : (List Lag)) (Aa22 : Option Addr) (c23 : Nat) (at25 : Int) (many26 : Int) (r : Bool) (H0 : law18_AccumSums.f a1 b11 l21 at25 many26 = some r) :
    Does Try.prog 6 [.agg #[.slice Aa2 a1.Sums.length c3, .slice Aa5 a1.Ns.length c6, .slice Aa8 a1.Spans.length c9], .agg #[.slice Aa12 b11.Sums.length c13, .slice Aa15 b11.Ns.length c16, .slice Aa18 b11.Spans.length c19], .slice Aa22 l21.length c23, .int .i64 at25, .int .i64 many26].toArray [At.rd Aa2 c3 fl_Count.kd a1.Sums true, At.rd Aa5 c6 fl_Count.kd a1.Ns true, At.rd Aa8 c9 fl_Gap.kd a1.Spans true, At.rd Aa12 c13 fl_Count.kd b11.Sums true, At.rd Aa15 c16 fl_Count.kd b11.Ns true, At.rd Aa18 c19 fl_Gap.kd b11.Spans true, At.rd Aa22 c23 fl_Lag.kd l21 true] [] false (fun v Δ => v = .bool r ∧ Δ = []) := by
 refine Does.body (vs := [.agg #[.slice Aa2 a1.Sums.length c3, .slice Aa5 a1.Ns.length c6, .slice Aa8 a1.Spans.length c9], .agg #[.slice Aa12 b11.Sums.length c13, .slice Aa15 b11.Ns.length c16, .slice Aa18 b11.Spans.length c19], .slice Aa22 l21.length c23, .int .i64 at25, .int .i64 many26]) Try.func6 rfl ⟨.inl rfl, .inl rfl, .inl rfl, .inl rfl, .inl rfl, .inl rfl, .inl rfl, trivial⟩ trivial fun w S => ?_
 unfold law18_AccumSums.f at H0
 refine J.sr ?_
 refine JL.box [.slice Aa2 a1.Sums.length c3, .slice Aa5 a1.Ns.length c6, .slice Aa8 a1.Spans.length c9] fun b27 => ?_
 refine JL.box [.slice Aa12 b11.Sums.length c13, .slice Aa15 b11.Ns.length c16, .slice Aa18 b11.Spans.length c19] fun b28 => ?_
 refine JL.as (.bool false) ?_
 refine JL.es [(2, .slice Aa22 l21.length c23), (3, .int .i64 at25), (4, .int .i64 many26), (5, .pointer (some ⟨b27, 0, none⟩)), (6, .pointer (some ⟨b28, 0, none⟩))] ?_
 refine J.sr ?_
 obtain ⟨t29, hc30, H0⟩ := bind_some H0
 refine JL.call [] [] [] (law18_alive.ok _ hc30) trivial ?_
 rintro _ _ ⟨rfl, rfl⟩
 refine JL.as (.bool t29) ?_
 refine JL.es [(2, .slice Aa22 l21.length c23), (3, .int .i64 at25), (4, .int .i64 many26), (5, .pointer (some ⟨b27, 0, none⟩)), (6, .pointer (some ⟨b28, 0, none⟩)), (11, .bool t29)] ?_
 refine J.seq ?_
 refine J.join (T := Bool) (G := Unit) (fun t => law18_AccumSums.k1 a1 b11 l21 at25 many26 t29 t = some r) (fun t g => [(2, .slice Aa22 l21.length c23), (3, .int .i64 at25), (4, .int .i64 many26), (5, .pointer (some ⟨b27, 0, none⟩)), (6, .pointer (some ⟨b28, 0, none⟩)), (11, .bool t29), (52, .bool t)]) (fun t g => [At.rd Aa22 c23 fl_Lag.kd l21 true, At.box b27 25 [.slice Aa2 a1.Sums.length c3, .slice Aa5 a1.Ns.length c6, .slice Aa8 a1.Spans.length c9], At.rd Aa2 c3 fl_Count.kd a1.Sums true, At.rd Aa5 c6 fl_Count.kd a1.Ns true, At.rd Aa8 c9 fl_Gap.kd a1.Spans true, At.box b28 25 [.slice Aa12 b11.Sums.length c13, .slice Aa15 b11.Ns.length c16, .slice Aa18 b11.Spans.length c19], At.rd Aa12 c13 fl_Count.kd b11.Sums true, At.rd Aa15 c16 fl_Count.kd b11.Ns true, At.rd Aa18 c19 fl_Gap.kd b11.Spans true]) ?_ ?_
 · refine J.region ?_
   refine JL.val (.agg #[.slice Aa2 a1.Sums.length c3, .slice Aa5 a1.Ns.length c6, .slice Aa8 a1.Spans.length c9]) (some 32) (yields_load_boxes 7 0 [.slice Aa2 a1.Sums.length c3, .slice Aa5 a1.Ns.length c6, .slice Aa8 a1.Spans.length c9] (holds_box b27 25 [.slice Aa2 a1.Sums.length c3, .slice Aa5 a1.Ns.length c6, .slice Aa8 a1.Spans.length c9]) tyAgg_25 tySize_25) ?_
   obtain ⟨t255, hc256, H0⟩ := bind_some H0
   refine JL.call [] [] [] (law18_fit.ok a1 Aa2 c3 Aa5 c6 Aa8 c9 _ hc256) ⟨pre_any 0 (view_rd Aa2 c3 fl_Count.kd a1.Sums true true), ⟨pre_any 1 (view_rd Aa5 c6 fl_Count.kd a1.Ns true true), ⟨pre_any 2 (view_rd Aa8 c9 fl_Gap.kd a1.Spans true true), trivial⟩⟩⟩ ?_
   rintro _ _ ⟨rfl, rfl⟩
   refine JL.pur (.bool (!t255)) (some 34) ?_
   refine JL.mv (.bool (!t255)) ?_
   rcases ite_cases H0 with ⟨h257, H0⟩ | ⟨h257, H0⟩
   · refine JL.off 3 35 false (some 36) h257 ?_
     refine JL.off 3 35 false (some 37) h257 ?_
     refine JL.off 3 35 false (some 38) h257 ?_
     refine JL.val (.bool true) (some 39) (gives_pickT h257) ?_
     refine JL.mv (.bool true) ?_
     refine JL.off 8 40 false (some 41) rfl ?_
     refine JL.off 8 40 false (some 42) rfl ?_
     refine JL.val (.bool true) (some 43) (gives_pickT rfl) ?_
     refine JL.mv (.bool true) ?_
     refine JL.off 12 44 false (some 45) rfl ?_
     refine JL.off 12 44 false (some 46) rfl ?_
     refine JL.off 12 44 false (some 47) rfl ?_
     refine JL.val (.bool true) (some 48) (gives_pickT rfl) ?_
     refine JL.mv (.bool true) ?_
     refine JL.off 17 49 false (some 50) rfl ?_
     refine JL.off 17 49 false (some 51) rfl ?_
     refine JL.val (.bool true) (some 52) (gives_pickT rfl) ?_
     refine JL.en ?_
     exact JQ.meet true () H0 (fun _ h => Heap.to (Heap.pick [6, 7, 0, 1, 2, 8, 3, 4, 5] (by decide) h))
   · refine JL.on 3 35 h257 ?_
     refine JL.val (.agg #[.slice Aa12 b11.Sums.length c13, .slice Aa15 b11.Ns.length c16, .slice Aa18 b11.Spans.length c19]) (some 36) (yields_load_boxes 8 0 [.slice Aa12 b11.Sums.length c13, .slice Aa15 b11.Ns.length c16, .slice Aa18 b11.Spans.length c19] (holds_box b28 25 [.slice Aa12 b11.Sums.length c13, .slice Aa15 b11.Ns.length c16, .slice Aa18 b11.Spans.length c19]) tyAgg_25 tySize_25) ?_
     refine JL.on 3 35 h257 ?_
     obtain ⟨t258, hc259, H0⟩ := bind_some H0
     refine JL.call [] [] [] (law18_fit.ok b11 Aa12 c13 Aa15 c16 Aa18 c19 _ hc259) ⟨pre_any 3 (view_rd Aa12 c13 fl_Count.kd b11.Sums true true), ⟨pre_any 4 (view_rd Aa15 c16 fl_Count.kd b11.Ns true true), ⟨pre_any 5 (view_rd Aa18 c19 fl_Gap.kd b11.Spans true true), trivial⟩⟩⟩ ?_
     rintro _ _ ⟨rfl, rfl⟩
     refine JL.on 3 35 h257 ?_
     refine JL.pur (.bool (!t258)) (some 38) ?_
     refine JL.val (.bool (!t258)) (some 39) (gives_pickF h257) ?_
     refine JL.mv (.bool (!t258)) ?_
     rcases ite_cases H0 with ⟨h260, H0⟩ | ⟨h260, H0⟩
     · refine JL.off 8 40 false (some 41) h260 ?_
       refine JL.off 8 40 false (some 42) h260 ?_
       refine JL.val (.bool true) (some 43) (gives_pickT h260) ?_
       refine JL.mv (.bool true) ?_
       refine JL.off 12 44 false (some 45) rfl ?_
       refine JL.off 12 44 false (some 46) rfl ?_
       refine JL.off 12 44 false (some 47) rfl ?_
       refine JL.val (.bool true) (some 48) (gives_pickT rfl) ?_
       refine JL.mv (.bool true) ?_
       refine JL.off 17 49 false (some 50) rfl ?_
       refine JL.off 17 49 false (some 51) rfl ?_
       refine JL.val (.bool true) (some 52) (gives_pickT rfl) ?_
       refine JL.en ?_
       exact JQ.meet true () H0 (fun _ h => Heap.to (Heap.pick [6, 7, 0, 1, 2, 8, 3, 4, 5] (by decide) h))
     · refine JL.on 8 40 h260 ?_
       refine JL.mv (.slice Aa22 l21.length c23) ?_
       refine JL.on 8 40 h260 ?_
       obtain ⟨t261, hc262, H0⟩ := bind_some H0
       refine JL.call [] [] [] (ref16_Long.ok l21 Aa22 c23 _ hc262) ⟨pre_any 6 (view_rd Aa22 c23 fl_Lag.kd l21 true true), trivial⟩ ?_
       rintro _ _ ⟨rfl, rfl⟩
       refine JL.val (.bool t261) (some 43) (gives_pickF h260) ?_
       refine JL.mv (.bool t261) ?_
       rcases ite_cases H0 with ⟨h263, H0⟩ | ⟨h263, H0⟩
       · refine JL.off 12 44 false (some 45) h263 ?_
         refine JL.off 12 44 false (some 46) h263 ?_
         refine JL.off 12 44 false (some 47) h263 ?_
         refine JL.val (.bool true) (some 48) (gives_pickT h263) ?_
         refine JL.mv (.bool true) ?_
         refine JL.off 17 49 false (some 50) rfl ?_
         refine JL.off 17 49 false (some 51) rfl ?_
         refine JL.val (.bool true) (some 52) (gives_pickT rfl) ?_
         refine JL.en ?_
         exact JQ.meet true () H0 (fun _ h => Heap.to (Heap.pick [6, 7, 0, 1, 2, 8, 3, 4, 5] (by decide) h))
       · refine JL.on 12 44 h263 ?_
         refine JL.mv (.slice Aa22 l21.length c23) ?_
         refine JL.on 12 44 h263 ?_
         obtain ⟨t264, hc265, H0⟩ := bind_some H0
         refine JL.call [] [] [] (ref16_Check.ok l21 Aa22 c23 _ hc265) ⟨pre_any 6 (view_rd Aa22 c23 fl_Lag.kd l21 true true), trivial⟩ ?_
         rintro _ _ ⟨rfl, rfl⟩
         refine JL.on 12 44 h263 ?_
         refine JL.pur (.bool (!decide (t264 = 0))) (some 47) ?_
         refine JL.val (.bool (!decide (t264 = 0))) (some 48) (gives_pickF h263) ?_
         refine JL.mv (.bool (!decide (t264 = 0))) ?_
         rcases ite_cases H0 with ⟨h266, H0⟩ | ⟨h266, H0⟩
         · refine JL.off 17 49 false (some 50) h266 ?_
           refine JL.off 17 49 false (some 51) h266 ?_
           refine JL.val (.bool true) (some 52) (gives_pickT h266) ?_
           refine JL.en ?_
           exact JQ.meet true () H0 (fun _ h => Heap.to (Heap.pick [6, 7, 0, 1, 2, 8, 3, 4, 5] (by decide) h))
         · refine JL.on 17 49 h266 ?_
           refine JL.mv (.bool t29) ?_
           refine JL.on 17 49 h266 ?_
           refine JL.pur (.bool (!t29)) (some 51) ?_
           refine JL.val (.bool (!t29)) (some 52) (gives_pickF h266) ?_
           refine JL.en ?_
           exact JQ.meet (!t29) () H0 (fun _ h => Heap.to (Heap.pick [6, 7, 0, 1, 2, 8, 3, 4, 5] (by decide) h))
 · clear H0
   rintro x43 ⟨⟩ H0
   replace H0 : law18_AccumSums.k1 a1 b11 l21 at25 many26 t29 x43 = some r := H0
   unfold law18_AccumSums.k1 at H0
   refine JQ.sub [(2, .slice Aa22 l21.length c23), (3, .int .i64 at25), (4, .int .i64 many26), (5, .pointer (some ⟨b27, 0, none⟩)), (6, .pointer (some ⟨b28, 0, none⟩)), (11, .bool t29), (52, .bool x43)] ?_
   refine JQ.turn (Δ' := [At.rd Aa22 c23 fl_Lag.kd l21 true, At.box b27 25 [.slice Aa2 a1.Sums.length c3, .slice Aa5 a1.Ns.length c6, .slice Aa8 a1.Spans.length c9], At.rd Aa2 c3 fl_Count.kd a1.Sums true, At.rd Aa5 c6 fl_Count.kd a1.Ns true, At.rd Aa8 c9 fl_Gap.kd a1.Spans true, At.box b28 25 [.slice Aa12 b11.Sums.length c13, .slice Aa15 b11.Ns.length c16, .slice Aa18 b11.Spans.length c19], At.rd Aa12 c13 fl_Count.kd b11.Sums true, At.rd Aa15 c16 fl_Count.kd b11.Ns true, At.rd Aa18 c19 fl_Gap.kd b11.Spans true]) (fun _ h => h.to) ?_
   rcases ite_cases H0 with ⟨h44, H0⟩ | ⟨h44, H0⟩
   · refine J.cond_true h44 ?_
     refine J.sr ?_
     refine JL.mv (.bool t29) ?_
     refine JL.as (.bool t29) ?_
     refine JL.es [(10, .bool t29)] ?_
     refine JQ.mask [] [false, false, false, false, false, false, false, false, false] ?_
     refine J.ret ?_
     refine JQ.then_ret ?_
     obtain rfl := Option.some.inj H0
     exact JQ.done' (rs := [.tmp 10]) (vs := [.bool t29]) [] (.inr rfl) ⟨by kernel_rfl, trivial⟩ (fun _ h => Heap.to h) ⟨rfl, rfl⟩
   · refine J.cond_false h44 ?_
     refine J.skip ?_
     refine JQ.ts [(2, .slice Aa22 l21.length c23), (3, .int .i64 at25), (4, .int .i64 many26), (5, .pointer (some ⟨b27, 0, none⟩)), (6, .pointer (some ⟨b28, 0, none⟩)), (11, .bool t29)] ?_
     refine J.sr ?_
     refine JL.val (.agg #[.slice Aa2 a1.Sums.length c3, .slice Aa5 a1.Ns.length c6, .slice Aa8 a1.Spans.length c9]) (some 55) (yields_load_boxes 1 0 [.slice Aa2 a1.Sums.length c3, .slice Aa5 a1.Ns.length c6, .slice Aa8 a1.Spans.length c9] (holds_box b27 25 [.slice Aa2 a1.Sums.length c3, .slice Aa5 a1.Ns.length c6, .slice Aa8 a1.Spans.length c9]) tyAgg_25 tySize_25) ?_
     refine JL.mv (.slice Aa22 l21.length c23) ?_
     refine JL.mv (.int .i64 at25) ?_
     refine JL.mv (.int .i64 many26) ?_
     obtain ⟨t45, hc46, H0⟩ := bind_some H0
     refine JL.call [] [] [] (accum_Add.ok a1 Aa2 c3 Aa5 c6 Aa8 c9 l21 Aa22 c23 at25 many26 _ hc46) ⟨pre_any 2 (view_rd Aa2 c3 fl_Count.kd a1.Sums true true), ⟨pre_any 3 (view_rd Aa5 c6 fl_Count.kd a1.Ns true true), ⟨pre_any 4 (view_rd Aa8 c9 fl_Gap.kd a1.Spans true true), ⟨pre_any 0 (view_rd Aa22 c23 fl_Lag.kd l21 true true), trivial⟩⟩⟩⟩ ?_
     rintro _ _ ⟨Aa47, c48, Aa50, c51, Aa53, c54, rfl, rfl⟩
     refine JL.mv (.tuple #[.agg #[.slice Aa47 t45.1.Sums.length c48, .slice Aa50 t45.1.Ns.length c51, .slice Aa53 t45.1.Spans.length c54], .int .i64 t45.2]) ?_
     refine JL.pur (.agg #[.slice Aa47 t45.1.Sums.length c48, .slice Aa50 t45.1.Ns.length c51, .slice Aa53 t45.1.Spans.length c54]) (some 60) ?_
     refine JL.pur (.int .i64 t45.2) (some 61) ?_
     refine JL.alloc [.slice none 0 0, .slice none 0 0, .slice none 0 0] fun b56 => ?_
     refine JL.store 12 b56 0 25 [.slice none 0 0, .slice none 0 0, .slice none 0 0] [.slice Aa47 t45.1.Sums.length c48, .slice Aa50 t45.1.Ns.length c51, .slice Aa53 t45.1.Spans.length c54] tySize_25 ?_
     refine JL.as (.int .i64 t45.2) ?_
     refine JL.es [(2, .slice Aa22 l21.length c23), (3, .int .i64 at25), (4, .int .i64 many26), (5, .pointer (some ⟨b27, 0, none⟩)), (6, .pointer (some ⟨b28, 0, none⟩)), (11, .bool t29), (12, .pointer (some ⟨b56, 0, none⟩)), (13, .int .i64 t45.2)] ?_
     refine J.seq ?_
     refine J.sr ?_
     refine JL.mv (.int .i64 t45.2) ?_
     refine JL.pur (.bool (!decide (t45.2 = 0))) (some 63) ?_
     refine JL.es [(2, .slice Aa22 l21.length c23), (3, .int .i64 at25), (4, .int .i64 many26), (5, .pointer (some ⟨b27, 0, none⟩)), (6, .pointer (some ⟨b28, 0, none⟩)), (11, .bool t29), (12, .pointer (some ⟨b56, 0, none⟩)), (63, .bool (!decide (t45.2 = 0)))] ?_
     rcases ite_cases H0 with ⟨h57, H0⟩ | ⟨h57, H0⟩
     · refine J.cond_true h57 ?_
       refine J.sr ?_
       refine JL.mv (.bool t29) ?_
       refine JL.mv (.bool t29) ?_
       rcases ite_cases H0 with ⟨h58, H0⟩ | ⟨h58, H0⟩
       · refine JL.on 1 65 h58 ?_
         refine JL.pur (.pointer (some ⟨b56, 0, none⟩)) (some 66) ?_
         refine JL.on 1 65 h58 ?_
         refine JL.val (.slice Aa47 t45.1.Sums.length c48) (some 67) (yields_load_box 12 0 (holds_box b56 25 [.slice Aa47 t45.1.Sums.length c48, .slice Aa50 t45.1.Ns.length c51, .slice Aa53 t45.1.Spans.length c54]) tyAgg_22) ?_
         refine JL.on 1 65 h58 ?_
         refine JL.pur (.int .i64 (t45.1.Sums.length : Int)) (some 68) ?_
         refine JL.on 1 65 h58 ?_
         refine JL.pur (.bool (decide ((t45.1.Sums.length : Int) = 0))) (some 69) ?_
         refine JL.val (.bool (decide ((t45.1.Sums.length : Int) = 0))) (some 70) (gives_pickT h58) ?_
         refine JL.as (.bool (decide ((t45.1.Sums.length : Int) = 0))) ?_
         refine JL.es [(10, .bool (decide ((t45.1.Sums.length : Int) = 0)))] ?_
         refine JQ.mask [] [false, false, false, false, false, false, false, false, false, false, false, false, false] ?_
         refine J.ret ?_
         refine JQ.then_ret ?_
         obtain rfl := Option.some.inj H0
         exact JQ.done' (rs := [.tmp 10]) (vs := [.bool (decide ((t45.1.Sums.length : Int) = 0))]) [] (.inr rfl) ⟨by kernel_rfl, trivial⟩ (fun _ h => Heap.to h) ⟨rfl, rfl⟩
       · refine JL.off 1 65 true (some 66) h58 ?_
         refine JL.off 1 65 true (some 67) h58 ?_
         refine JL.off 1 65 true (some 68) h58 ?_
         refine JL.off 1 65 true (some 69) h58 ?_
         refine JL.val (.bool false) (some 70) (gives_pickF h58) ?_
         refine JL.as (.bool false) ?_
         refine JL.es [(10, .bool false)] ?_
         refine JQ.mask [] [false, false, false, false, false, false, false, false, false, false, false, false, false] ?_
         refine J.ret ?_
         refine JQ.then_ret ?_
         obtain rfl := Option.some.inj H0
         exact JQ.done' (rs := [.tmp 10]) (vs := [.bool false]) [] (.inr rfl) ⟨by kernel_rfl, trivial⟩ (fun _ h => Heap.to h) ⟨rfl, rfl⟩
     · refine J.cond_false h57 ?_
       refine J.skip ?_
       refine JQ.ts [(2, .slice Aa22 l21.length c23), (3, .int .i64 at25), (4, .int .i64 many26), (5, .pointer (some ⟨b27, 0, none⟩)), (6, .pointer (some ⟨b28, 0, none⟩)), (11, .bool t29), (12, .pointer (some ⟨b56, 0, none⟩))] ?_
       refine J.sr ?_
       refine JL.val (.agg #[.slice Aa2 a1.Sums.length c3, .slice Aa5 a1.Ns.length c6, .slice Aa8 a1.Spans.length c9]) (some 72) (yields_load_boxes 1 0 [.slice Aa2 a1.Sums.length c3, .slice Aa5 a1.Ns.length c6, .slice Aa8 a1.Spans.length c9] (holds_box b27 25 [.slice Aa2 a1.Sums.length c3, .slice Aa5 a1.Ns.length c6, .slice Aa8 a1.Spans.length c9]) tyAgg_25 tySize_25) ?_
       obtain ⟨t59, hc60, H0⟩ := bind_some H0
       refine JL.call [] [] [] (accum_Times.ok a1 Aa2 c3 Aa5 c6 Aa8 c9 _ hc60) ⟨pre_any 2 (view_rd Aa2 c3 fl_Count.kd a1.Sums true true), ⟨pre_any 3 (view_rd Aa5 c6 fl_Count.kd a1.Ns true true), ⟨pre_any 4 (view_rd Aa8 c9 fl_Gap.kd a1.Spans true true), trivial⟩⟩⟩ ?_
       rintro _ _ ⟨rfl, rfl⟩
       refine JL.mv (.tuple #[.int .i64 t59.1, .int .i64 t59.2]) ?_
       refine JL.pur (.int .i64 t59.1) (some 74) ?_
       refine JL.pur (.int .i64 t59.2) (some 75) ?_
       refine JL.as (.int .i64 t59.1) ?_
       refine JL.as (.int .i64 t59.2) ?_
       refine JL.es [(2, .slice Aa22 l21.length c23), (3, .int .i64 at25), (4, .int .i64 many26), (5, .pointer (some ⟨b27, 0, none⟩)), (6, .pointer (some ⟨b28, 0, none⟩)), (11, .bool t29), (12, .pointer (some ⟨b56, 0, none⟩)), (14, .int .i64 t59.1), (15, .int .i64 t59.2)] ?_
       refine J.sr ?_
       refine JL.val (.agg #[.slice Aa47 t45.1.Sums.length c48, .slice Aa50 t45.1.Ns.length c51, .slice Aa53 t45.1.Spans.length c54]) (some 77) (yields_load_boxes 12 0 [.slice Aa47 t45.1.Sums.length c48, .slice Aa50 t45.1.Ns.length c51, .slice Aa53 t45.1.Spans.length c54] (holds_box b56 25 [.slice Aa47 t45.1.Sums.length c48, .slice Aa50 t45.1.Ns.length c51, .slice Aa53 t45.1.Spans.length c54]) tyAgg_25 tySize_25) ?_
       obtain ⟨t61, hc62, H0⟩ := bind_some H0
       refine JL.call [] [] [] (accum_Times.ok t45.1 Aa47 c48 Aa50 c51 Aa53 c54 _ hc62) ⟨pre_view 9 (view_row Aa47 c48 49 fl_Count.kd t45.1.Sums false true), ⟨pre_view 10 (view_row Aa50 c51 49 fl_Count.kd t45.1.Ns false true), ⟨pre_view 11 (view_row Aa53 c54 51 fl_Gap.kd t45.1.Spans false true), trivial⟩⟩⟩ ?_
       rintro _ _ ⟨rfl, rfl⟩
       refine JL.mv (.tuple #[.int .i64 t61.1, .int .i64 t61.2]) ?_
       refine JL.pur (.int .i64 t61.1) (some 79) ?_
       refine JL.pur (.int .i64 t61.2) (some 80) ?_
       refine JL.as (.int .i64 t61.1) ?_
       refine JL.as (.int .i64 t61.2) ?_
       refine JL.es [(2, .slice Aa22 l21.length c23), (3, .int .i64 at25), (4, .int .i64 many26), (5, .pointer (some ⟨b27, 0, none⟩)), (6, .pointer (some ⟨b28, 0, none⟩)), (11, .bool t29), (12, .pointer (some ⟨b56, 0, none⟩)), (14, .int .i64 t59.1), (15, .int .i64 t59.2), (16, .int .i64 t61.1), (17, .int .i64 t61.2)] ?_
       refine J.seq ?_
       refine J.join (T := Bool) (G := Unit) (fun t => law18_AccumSums.k2 a1 b11 l21 at25 many26 t29 t45 t = some r) (fun t g => [(2, .slice Aa22 l21.length c23), (3, .int .i64 at25), (4, .int .i64 many26), (5, .pointer (some ⟨b27, 0, none⟩)), (6, .pointer (some ⟨b28, 0, none⟩)), (11, .bool t29), (12, .pointer (some ⟨b56, 0, none⟩)), (123, .bool t)]) (fun t g => [At.rd Aa22 c23 fl_Lag.kd l21 true, At.box b27 25 [.slice Aa2 a1.Sums.length c3, .slice Aa5 a1.Ns.length c6, .slice Aa8 a1.Spans.length c9], At.rd Aa2 c3 fl_Count.kd a1.Sums true, At.rd Aa5 c6 fl_Count.kd a1.Ns true, At.rd Aa8 c9 fl_Gap.kd a1.Spans true, At.box b28 25 [.slice Aa12 b11.Sums.length c13, .slice Aa15 b11.Ns.length c16, .slice Aa18 b11.Spans.length c19], At.rd Aa12 c13 fl_Count.kd b11.Sums true, At.rd Aa15 c16 fl_Count.kd b11.Ns true, At.rd Aa18 c19 fl_Gap.kd b11.Spans true, At.box b56 25 [.slice Aa47 t45.1.Sums.length c48, .slice Aa50 t45.1.Ns.length c51, .slice Aa53 t45.1.Spans.length c54], At.row Aa47 c48 49 fl_Count.kd t45.1.Sums false, At.row Aa50 c51 49 fl_Count.kd t45.1.Ns false, At.row Aa53 c54 51 fl_Gap.kd t45.1.Spans false]) ?_ ?_
       · refine J.region ?_
         refine JL.mv (.int .i64 t59.2) ?_
         refine JL.pur (.bool (!decide (t59.2 = 0))) (some 82) ?_
         refine JL.mv (.bool (!decide (t59.2 = 0))) ?_
         rcases ite_cases H0 with ⟨h243, H0⟩ | ⟨h243, H0⟩
         · refine JL.off 2 83 false (some 84) h243 ?_
           refine JL.off 2 83 false (some 85) h243 ?_
           refine JL.val (.bool true) (some 86) (gives_pickT h243) ?_
           refine JL.mv (.bool true) ?_
           refine JL.off 6 87 false (some 88) rfl ?_
           refine JL.off 6 87 false (some 89) rfl ?_
           refine JL.off 6 87 false (some 90) rfl ?_
           refine JL.off 6 87 false (some 91) rfl ?_
           refine JL.off 6 87 false (some 92) rfl ?_
           refine JL.val (.bool true) (some 93) (gives_pickT rfl) ?_
           refine JL.mv (.bool true) ?_
           refine JL.off 13 94 false (some 95) rfl ?_
           refine JL.off 13 94 false (some 96) rfl ?_
           refine JL.off 13 94 false (some 97) rfl ?_
           refine JL.val (.bool true) (some 98) (gives_pickT rfl) ?_
           refine JL.mv (.bool true) ?_
           refine JL.off 18 99 false (some 100) rfl ?_
           refine JL.off 18 99 false (some 101) rfl ?_
           refine JL.off 18 99 false (some 102) rfl ?_
           refine JL.off 18 99 false (some 103) rfl ?_
           refine JL.off 18 99 false (some 104) rfl ?_
           refine JL.off 18 99 false (some 105) rfl ?_
           refine JL.val (.bool true) (some 106) (gives_pickT rfl) ?_
           refine JL.mv (.bool true) ?_
           refine JL.off 26 107 false (some 108) rfl ?_
           refine JL.off 26 107 false (some 109) rfl ?_
           refine JL.off 26 107 false (some 110) rfl ?_
           refine JL.off 26 107 false (some 111) rfl ?_
           refine JL.off 26 107 false (some 112) rfl ?_
           refine JL.val (.bool true) (some 113) (gives_pickT rfl) ?_
           refine JL.mv (.bool true) ?_
           refine JL.off 33 114 false (some 115) rfl ?_
           refine JL.off 33 114 false (some 116) rfl ?_
           refine JL.off 33 114 false (some 117) rfl ?_
           refine JL.off 33 114 false (some 118) rfl ?_
           refine JL.off 33 114 false (some 119) rfl ?_
           refine JL.off 33 114 false (some 120) rfl ?_
           refine JL.off 33 114 false (some 121) rfl ?_
           refine JL.off 33 114 false (some 122) rfl ?_
           refine JL.val (.bool true) (some 123) (gives_pickT rfl) ?_
           refine JL.en ?_
           exact JQ.meet true () H0 (fun _ h => Heap.to (Heap.pick [0, 1, 2, 3, 4, 5, 6, 7, 8, 12, 9, 10, 11] (by decide) h))
         · refine JL.on 2 83 h243 ?_
           refine JL.mv (.int .i64 t61.2) ?_
           refine JL.on 2 83 h243 ?_
           refine JL.pur (.bool (!decide (t61.2 = 0))) (some 85) ?_
           refine JL.val (.bool (!decide (t61.2 = 0))) (some 86) (gives_pickF h243) ?_
           refine JL.mv (.bool (!decide (t61.2 = 0))) ?_
           rcases ite_cases H0 with ⟨h244, H0⟩ | ⟨h244, H0⟩
           · refine JL.off 6 87 false (some 88) h244 ?_
             refine JL.off 6 87 false (some 89) h244 ?_
             refine JL.off 6 87 false (some 90) h244 ?_
             refine JL.off 6 87 false (some 91) h244 ?_
             refine JL.off 6 87 false (some 92) h244 ?_
             refine JL.val (.bool true) (some 93) (gives_pickT h244) ?_
             refine JL.mv (.bool true) ?_
             refine JL.off 13 94 false (some 95) rfl ?_
             refine JL.off 13 94 false (some 96) rfl ?_
             refine JL.off 13 94 false (some 97) rfl ?_
             refine JL.val (.bool true) (some 98) (gives_pickT rfl) ?_
             refine JL.mv (.bool true) ?_
             refine JL.off 18 99 false (some 100) rfl ?_
             refine JL.off 18 99 false (some 101) rfl ?_
             refine JL.off 18 99 false (some 102) rfl ?_
             refine JL.off 18 99 false (some 103) rfl ?_
             refine JL.off 18 99 false (some 104) rfl ?_
             refine JL.off 18 99 false (some 105) rfl ?_
             refine JL.val (.bool true) (some 106) (gives_pickT rfl) ?_
             refine JL.mv (.bool true) ?_
             refine JL.off 26 107 false (some 108) rfl ?_
             refine JL.off 26 107 false (some 109) rfl ?_
             refine JL.off 26 107 false (some 110) rfl ?_
             refine JL.off 26 107 false (some 111) rfl ?_
             refine JL.off 26 107 false (some 112) rfl ?_
             refine JL.val (.bool true) (some 113) (gives_pickT rfl) ?_
             refine JL.mv (.bool true) ?_
             refine JL.off 33 114 false (some 115) rfl ?_
             refine JL.off 33 114 false (some 116) rfl ?_
             refine JL.off 33 114 false (some 117) rfl ?_
             refine JL.off 33 114 false (some 118) rfl ?_
             refine JL.off 33 114 false (some 119) rfl ?_
             refine JL.off 33 114 false (some 120) rfl ?_
             refine JL.off 33 114 false (some 121) rfl ?_
             refine JL.off 33 114 false (some 122) rfl ?_
             refine JL.val (.bool true) (some 123) (gives_pickT rfl) ?_
             refine JL.en ?_
             exact JQ.meet true () H0 (fun _ h => Heap.to (Heap.pick [0, 1, 2, 3, 4, 5, 6, 7, 8, 12, 9, 10, 11] (by decide) h))
           · refine JL.on 6 87 h244 ?_
             refine JL.mv (.int .i64 t61.1) ?_
             refine JL.on 6 87 h244 ?_
             refine JL.mv (.int .i64 t59.1) ?_
             refine JL.on 6 87 h244 ?_
             refine JL.mv (.int .i64 many26) ?_
             refine JL.on 6 87 h244 ?_
             refine JL.pur (.int .i64 (w64 (t59.1 + many26))) (some 91) ?_
             refine JL.on 6 87 h244 ?_
             refine JL.pur (.bool (!decide (t61.1 = w64 (t59.1 + many26)))) (some 92) ?_
             refine JL.val (.bool (!decide (t61.1 = w64 (t59.1 + many26)))) (some 93) (gives_pickF h244) ?_
             refine JL.mv (.bool (!decide (t61.1 = w64 (t59.1 + many26)))) ?_
             rcases ite_cases H0 with ⟨h245, H0⟩ | ⟨h245, H0⟩
             · refine JL.off 13 94 false (some 95) h245 ?_
               refine JL.off 13 94 false (some 96) h245 ?_
               refine JL.off 13 94 false (some 97) h245 ?_
               refine JL.val (.bool true) (some 98) (gives_pickT h245) ?_
               refine JL.mv (.bool true) ?_
               refine JL.off 18 99 false (some 100) rfl ?_
               refine JL.off 18 99 false (some 101) rfl ?_
               refine JL.off 18 99 false (some 102) rfl ?_
               refine JL.off 18 99 false (some 103) rfl ?_
               refine JL.off 18 99 false (some 104) rfl ?_
               refine JL.off 18 99 false (some 105) rfl ?_
               refine JL.val (.bool true) (some 106) (gives_pickT rfl) ?_
               refine JL.mv (.bool true) ?_
               refine JL.off 26 107 false (some 108) rfl ?_
               refine JL.off 26 107 false (some 109) rfl ?_
               refine JL.off 26 107 false (some 110) rfl ?_
               refine JL.off 26 107 false (some 111) rfl ?_
               refine JL.off 26 107 false (some 112) rfl ?_
               refine JL.val (.bool true) (some 113) (gives_pickT rfl) ?_
               refine JL.mv (.bool true) ?_
               refine JL.off 33 114 false (some 115) rfl ?_
               refine JL.off 33 114 false (some 116) rfl ?_
               refine JL.off 33 114 false (some 117) rfl ?_
               refine JL.off 33 114 false (some 118) rfl ?_
               refine JL.off 33 114 false (some 119) rfl ?_
               refine JL.off 33 114 false (some 120) rfl ?_
               refine JL.off 33 114 false (some 121) rfl ?_
               refine JL.off 33 114 false (some 122) rfl ?_
               refine JL.val (.bool true) (some 123) (gives_pickT rfl) ?_
               refine JL.en ?_
               exact JQ.meet true () H0 (fun _ h => Heap.to (Heap.pick [0, 1, 2, 3, 4, 5, 6, 7, 8, 12, 9, 10, 11] (by decide) h))
             · refine JL.on 13 94 h245 ?_
               refine JL.val (.agg #[.slice Aa47 t45.1.Sums.length c48, .slice Aa50 t45.1.Ns.length c51, .slice Aa53 t45.1.Spans.length c54]) (some 95) (yields_load_boxes 12 0 [.slice Aa47 t45.1.Sums.length c48, .slice Aa50 t45.1.Ns.length c51, .slice Aa53 t45.1.Spans.length c54] (holds_box b56 25 [.slice Aa47 t45.1.Sums.length c48, .slice Aa50 t45.1.Ns.length c51, .slice Aa53 t45.1.Spans.length c54]) tyAgg_25 tySize_25) ?_
               refine JL.on 13 94 h245 ?_
               obtain ⟨t246, hc247, H0⟩ := bind_some H0
               refine JL.call [] [] [] (ref18_Check.ok t45.1 Aa47 c48 Aa50 c51 Aa53 c54 _ hc247) ⟨pre_view 9 (view_row Aa47 c48 49 fl_Count.kd t45.1.Sums false true), ⟨pre_view 10 (view_row Aa50 c51 49 fl_Count.kd t45.1.Ns false true), ⟨pre_view 11 (view_row Aa53 c54 51 fl_Gap.kd t45.1.Spans false true), trivial⟩⟩⟩ ?_
               rintro _ _ ⟨rfl, rfl⟩
               refine JL.on 13 94 h245 ?_
               refine JL.pur (.bool (!decide (t246 = 0))) (some 97) ?_
               refine JL.val (.bool (!decide (t246 = 0))) (some 98) (gives_pickF h245) ?_
               refine JL.mv (.bool (!decide (t246 = 0))) ?_
               rcases ite_cases H0 with ⟨h248, H0⟩ | ⟨h248, H0⟩
               · refine JL.off 18 99 false (some 100) h248 ?_
                 refine JL.off 18 99 false (some 101) h248 ?_
                 refine JL.off 18 99 false (some 102) h248 ?_
                 refine JL.off 18 99 false (some 103) h248 ?_
                 refine JL.off 18 99 false (some 104) h248 ?_
                 refine JL.off 18 99 false (some 105) h248 ?_
                 refine JL.val (.bool true) (some 106) (gives_pickT h248) ?_
                 refine JL.mv (.bool true) ?_
                 refine JL.off 26 107 false (some 108) rfl ?_
                 refine JL.off 26 107 false (some 109) rfl ?_
                 refine JL.off 26 107 false (some 110) rfl ?_
                 refine JL.off 26 107 false (some 111) rfl ?_
                 refine JL.off 26 107 false (some 112) rfl ?_
                 refine JL.val (.bool true) (some 113) (gives_pickT rfl) ?_
                 refine JL.mv (.bool true) ?_
                 refine JL.off 33 114 false (some 115) rfl ?_
                 refine JL.off 33 114 false (some 116) rfl ?_
                 refine JL.off 33 114 false (some 117) rfl ?_
                 refine JL.off 33 114 false (some 118) rfl ?_
                 refine JL.off 33 114 false (some 119) rfl ?_
                 refine JL.off 33 114 false (some 120) rfl ?_
                 refine JL.off 33 114 false (some 121) rfl ?_
                 refine JL.off 33 114 false (some 122) rfl ?_
                 refine JL.val (.bool true) (some 123) (gives_pickT rfl) ?_
                 refine JL.en ?_
                 exact JQ.meet true () H0 (fun _ h => Heap.to (Heap.pick [0, 1, 2, 3, 4, 5, 6, 7, 8, 12, 9, 10, 11] (by decide) h))
               · refine JL.on 18 99 h248 ?_
                 refine JL.pur (.pointer (some ⟨b56, 0, none⟩)) (some 100) ?_
                 refine JL.on 18 99 h248 ?_
                 refine JL.val (.slice Aa47 t45.1.Sums.length c48) (some 101) (yields_load_box 12 0 (holds_box b56 25 [.slice Aa47 t45.1.Sums.length c48, .slice Aa50 t45.1.Ns.length c51, .slice Aa53 t45.1.Spans.length c54]) tyAgg_22) ?_
                 refine JL.on 18 99 h248 ?_
                 refine JL.pur (.int .i64 (t45.1.Sums.length : Int)) (some 102) ?_
                 refine JL.on 18 99 h248 ?_
                 refine JL.mv (.slice Aa22 l21.length c23) ?_
                 refine JL.on 18 99 h248 ?_
                 refine JL.pur (.int .i64 (l21.length : Int)) (some 104) ?_
                 refine JL.on 18 99 h248 ?_
                 refine JL.pur (.bool (!decide ((t45.1.Sums.length : Int) = (l21.length : Int)))) (some 105) ?_
                 refine JL.val (.bool (!decide ((t45.1.Sums.length : Int) = (l21.length : Int)))) (some 106) (gives_pickF h248) ?_
                 refine JL.mv (.bool (!decide ((t45.1.Sums.length : Int) = (l21.length : Int)))) ?_
                 rcases ite_cases H0 with ⟨h249, H0⟩ | ⟨h249, H0⟩
                 · refine JL.off 26 107 false (some 108) h249 ?_
                   refine JL.off 26 107 false (some 109) h249 ?_
                   refine JL.off 26 107 false (some 110) h249 ?_
                   refine JL.off 26 107 false (some 111) h249 ?_
                   refine JL.off 26 107 false (some 112) h249 ?_
                   refine JL.val (.bool true) (some 113) (gives_pickT h249) ?_
                   refine JL.mv (.bool true) ?_
                   refine JL.off 33 114 false (some 115) rfl ?_
                   refine JL.off 33 114 false (some 116) rfl ?_
                   refine JL.off 33 114 false (some 117) rfl ?_
                   refine JL.off 33 114 false (some 118) rfl ?_
                   refine JL.off 33 114 false (some 119) rfl ?_
                   refine JL.off 33 114 false (some 120) rfl ?_
                   refine JL.off 33 114 false (some 121) rfl ?_
                   refine JL.off 33 114 false (some 122) rfl ?_
                   refine JL.val (.bool true) (some 123) (gives_pickT rfl) ?_
                   refine JL.en ?_
                   exact JQ.meet true () H0 (fun _ h => Heap.to (Heap.pick [0, 1, 2, 3, 4, 5, 6, 7, 8, 12, 9, 10, 11] (by decide) h))
                 · refine JL.on 26 107 h249 ?_
                   refine JL.pur (.pointer (some ⟨b56, 2, none⟩)) (some 108) ?_
                   refine JL.on 26 107 h249 ?_
                   refine JL.val (.slice Aa53 t45.1.Spans.length c54) (some 109) (yields_load_box 12 2 (holds_box b56 25 [.slice Aa47 t45.1.Sums.length c48, .slice Aa50 t45.1.Ns.length c51, .slice Aa53 t45.1.Spans.length c54]) tyAgg_23) ?_
                   refine JL.on 26 107 h249 ?_
                   refine JL.mv (.int .i64 at25) ?_
                   refine JL.on 26 107 h249 ?_
                   obtain ⟨t250, hc251, H0⟩ := bind_some H0
                   refine JL.call [] [] [] (ref18_In.ok t45.1.Spans Aa53 c54 at25 _ hc251) ⟨pre_view 11 (view_row Aa53 c54 51 fl_Gap.kd t45.1.Spans false true), trivial⟩ ?_
                   rintro _ _ ⟨rfl, rfl⟩
                   refine JL.on 26 107 h249 ?_
                   refine JL.pur (.bool (!t250)) (some 112) ?_
                   refine JL.val (.bool (!t250)) (some 113) (gives_pickF h249) ?_
                   refine JL.mv (.bool (!t250)) ?_
                   rcases ite_cases H0 with ⟨h252, H0⟩ | ⟨h252, H0⟩
                   · refine JL.off 33 114 false (some 115) h252 ?_
                     refine JL.off 33 114 false (some 116) h252 ?_
                     refine JL.off 33 114 false (some 117) h252 ?_
                     refine JL.off 33 114 false (some 118) h252 ?_
                     refine JL.off 33 114 false (some 119) h252 ?_
                     refine JL.off 33 114 false (some 120) h252 ?_
                     refine JL.off 33 114 false (some 121) h252 ?_
                     refine JL.off 33 114 false (some 122) h252 ?_
                     refine JL.val (.bool true) (some 123) (gives_pickT h252) ?_
                     refine JL.en ?_
                     exact JQ.meet true () H0 (fun _ h => Heap.to (Heap.pick [0, 1, 2, 3, 4, 5, 6, 7, 8, 12, 9, 10, 11] (by decide) h))
                   · refine JL.on 33 114 h252 ?_
                     refine JL.pur (.pointer (some ⟨b56, 2, none⟩)) (some 115) ?_
                     refine JL.on 33 114 h252 ?_
                     refine JL.val (.slice Aa53 t45.1.Spans.length c54) (some 116) (yields_load_box 12 2 (holds_box b56 25 [.slice Aa47 t45.1.Sums.length c48, .slice Aa50 t45.1.Ns.length c51, .slice Aa53 t45.1.Spans.length c54]) tyAgg_23) ?_
                     refine JL.on 33 114 h252 ?_
                     refine JL.mv (.int .i64 at25) ?_
                     refine JL.on 33 114 h252 ?_
                     refine JL.mv (.int .i64 many26) ?_
                     refine JL.on 33 114 h252 ?_
                     refine JL.pur (.int .i64 (w64 (at25 + many26))) (some 119) ?_
                     refine JL.on 33 114 h252 ?_
                     refine JL.pur (.int .i64 (w64 ((w64 (at25 + many26)) - 1))) (some 120) ?_
                     refine JL.on 33 114 h252 ?_
                     obtain ⟨t253, hc254, H0⟩ := bind_some H0
                     refine JL.call [] [] [] (ref18_In.ok t45.1.Spans Aa53 c54 (w64 ((w64 (at25 + many26)) - 1)) _ hc254) ⟨pre_view 11 (view_row Aa53 c54 51 fl_Gap.kd t45.1.Spans false true), trivial⟩ ?_
                     rintro _ _ ⟨rfl, rfl⟩
                     refine JL.on 33 114 h252 ?_
                     refine JL.pur (.bool (!t253)) (some 122) ?_
                     refine JL.val (.bool (!t253)) (some 123) (gives_pickF h252) ?_
                     refine JL.en ?_
                     exact JQ.meet (!t253) () H0 (fun _ h => Heap.to (Heap.pick [0, 1, 2, 3, 4, 5, 6, 7, 8, 12, 9, 10, 11] (by decide) h))
       · clear H0
         rintro x75 ⟨⟩ H0
         replace H0 : law18_AccumSums.k2 a1 b11 l21 at25 many26 t29 t45 x75 = some r := H0
         unfold law18_AccumSums.k2 at H0
         refine JQ.sub [(2, .slice Aa22 l21.length c23), (3, .int .i64 at25), (4, .int .i64 many26), (5, .pointer (some ⟨b27, 0, none⟩)), (6, .pointer (some ⟨b28, 0, none⟩)), (11, .bool t29), (12, .pointer (some ⟨b56, 0, none⟩)), (123, .bool x75)] ?_
         refine JQ.turn (Δ' := [At.rd Aa22 c23 fl_Lag.kd l21 true, At.box b27 25 [.slice Aa2 a1.Sums.length c3, .slice Aa5 a1.Ns.length c6, .slice Aa8 a1.Spans.length c9], At.rd Aa2 c3 fl_Count.kd a1.Sums true, At.rd Aa5 c6 fl_Count.kd a1.Ns true, At.rd Aa8 c9 fl_Gap.kd a1.Spans true, At.box b28 25 [.slice Aa12 b11.Sums.length c13, .slice Aa15 b11.Ns.length c16, .slice Aa18 b11.Spans.length c19], At.rd Aa12 c13 fl_Count.kd b11.Sums true, At.rd Aa15 c16 fl_Count.kd b11.Ns true, At.rd Aa18 c19 fl_Gap.kd b11.Spans true, At.box b56 25 [.slice Aa47 t45.1.Sums.length c48, .slice Aa50 t45.1.Ns.length c51, .slice Aa53 t45.1.Spans.length c54], At.row Aa47 c48 49 fl_Count.kd t45.1.Sums false, At.row Aa50 c51 49 fl_Count.kd t45.1.Ns false, At.row Aa53 c54 51 fl_Gap.kd t45.1.Spans false]) (fun _ h => h.to) ?_
         rcases ite_cases H0 with ⟨h76, H0⟩ | ⟨h76, H0⟩
         · refine J.cond_true h76 ?_
           refine J.sr ?_
           refine JL.as (.bool false) ?_
           refine JL.es [(10, .bool false)] ?_
           refine JQ.mask [] [false, false, false, false, false, false, false, false, false, false, false, false, false] ?_
           refine J.ret ?_
           refine JQ.then_ret ?_
           obtain rfl := Option.some.inj H0
           exact JQ.done' (rs := [.tmp 10]) (vs := [.bool false]) [] (.inr rfl) ⟨by kernel_rfl, trivial⟩ (fun _ h => Heap.to h) ⟨rfl, rfl⟩
         · refine J.cond_false h76 ?_
           refine J.skip ?_
           refine JQ.ts [(2, .slice Aa22 l21.length c23), (3, .int .i64 at25), (4, .int .i64 many26), (5, .pointer (some ⟨b27, 0, none⟩)), (6, .pointer (some ⟨b28, 0, none⟩)), (11, .bool t29), (12, .pointer (some ⟨b56, 0, none⟩))] ?_
           refine J.seq ?_
           refine J.sr ?_
           refine JL.as (.int .i64 0) ?_
           refine JL.en ?_
           obtain ⟨o1, hit, H0⟩ := bind_some H0
           refine J.loop (σ := Int) (τ := Unit) (G := Unit) (G' := Unit) _ o1 (fun s g => [(2, .slice Aa22 l21.length c23), (3, .int .i64 at25), (4, .int .i64 many26), (5, .pointer (some ⟨b27, 0, none⟩)), (6, .pointer (some ⟨b28, 0, none⟩)), (11, .bool t29), (12, .pointer (some ⟨b56, 0, none⟩)), (18, .int .i64 s)]) (fun s g => [At.rd Aa22 c23 fl_Lag.kd l21 true, At.box b27 25 [.slice Aa2 a1.Sums.length c3, .slice Aa5 a1.Ns.length c6, .slice Aa8 a1.Spans.length c9], At.rd Aa2 c3 fl_Count.kd a1.Sums true, At.rd Aa5 c6 fl_Count.kd a1.Ns true, At.rd Aa8 c9 fl_Gap.kd a1.Spans true, At.box b28 25 [.slice Aa12 b11.Sums.length c13, .slice Aa15 b11.Ns.length c16, .slice Aa18 b11.Spans.length c19], At.rd Aa12 c13 fl_Count.kd b11.Sums true, At.rd Aa15 c16 fl_Count.kd b11.Ns true, At.rd Aa18 c19 fl_Gap.kd b11.Spans true, At.box b56 25 [.slice Aa47 t45.1.Sums.length c48, .slice Aa50 t45.1.Ns.length c51, .slice Aa53 t45.1.Spans.length c54], At.row Aa47 c48 49 fl_Count.kd t45.1.Sums false, At.row Aa50 c51 49 fl_Count.kd t45.1.Ns false, At.row Aa53 c54 51 fl_Gap.kd t45.1.Spans false]) (fun t => law18_AccumSums.k7 a1 b11 l21 at25 many26 t29 t45 = some r) (fun t g => [(2, .slice Aa22 l21.length c23), (3, .int .i64 at25), (4, .int .i64 many26), (5, .pointer (some ⟨b27, 0, none⟩)), (6, .pointer (some ⟨b28, 0, none⟩)), (11, .bool t29), (12, .pointer (some ⟨b56, 0, none⟩))]) (fun t g => [At.rd Aa22 c23 fl_Lag.kd l21 true, At.box b27 25 [.slice Aa2 a1.Sums.length c3, .slice Aa5 a1.Ns.length c6, .slice Aa8 a1.Spans.length c9], At.rd Aa2 c3 fl_Count.kd a1.Sums true, At.rd Aa5 c6 fl_Count.kd a1.Ns true, At.rd Aa8 c9 fl_Gap.kd a1.Spans true, At.box b28 25 [.slice Aa12 b11.Sums.length c13, .slice Aa15 b11.Ns.length c16, .slice Aa18 b11.Spans.length c19], At.rd Aa12 c13 fl_Count.kd b11.Sums true, At.rd Aa15 c16 fl_Count.kd b11.Ns true, At.rd Aa18 c19 fl_Gap.kd b11.Spans true, At.box b56 25 [.slice Aa47 t45.1.Sums.length c48, .slice Aa50 t45.1.Ns.length c51, .slice Aa53 t45.1.Spans.length c54], At.row Aa47 c48 49 fl_Count.kd t45.1.Sums false, At.row Aa50 c51 49 fl_Count.kd t45.1.Ns false, At.row Aa53 c54 51 fl_Gap.kd t45.1.Spans false]) 0 () hit (fun _ h => Heap.to h) ?_ ?_
           · clear hit
             rintro i137 ⟨⟩ st1 H1 hb1 hr1
             replace H1 : law18_AccumSums.s6 a1 l21 t45 i137 = some st1 := H1
             unfold law18_AccumSums.s6 at H1
             refine JQ.sub [(2, .slice Aa22 l21.length c23), (3, .int .i64 at25), (4, .int .i64 many26), (5, .pointer (some ⟨b27, 0, none⟩)), (6, .pointer (some ⟨b28, 0, none⟩)), (11, .bool t29), (12, .pointer (some ⟨b56, 0, none⟩)), (18, .int .i64 i137)] ?_
             refine JQ.turn (Δ' := [At.rd Aa22 c23 fl_Lag.kd l21 true, At.box b27 25 [.slice Aa2 a1.Sums.length c3, .slice Aa5 a1.Ns.length c6, .slice Aa8 a1.Spans.length c9], At.rd Aa2 c3 fl_Count.kd a1.Sums true, At.rd Aa5 c6 fl_Count.kd a1.Ns true, At.rd Aa8 c9 fl_Gap.kd a1.Spans true, At.box b28 25 [.slice Aa12 b11.Sums.length c13, .slice Aa15 b11.Ns.length c16, .slice Aa18 b11.Spans.length c19], At.rd Aa12 c13 fl_Count.kd b11.Sums true, At.rd Aa15 c16 fl_Count.kd b11.Ns true, At.rd Aa18 c19 fl_Gap.kd b11.Spans true, At.box b56 25 [.slice Aa47 t45.1.Sums.length c48, .slice Aa50 t45.1.Ns.length c51, .slice Aa53 t45.1.Spans.length c54], At.row Aa47 c48 49 fl_Count.kd t45.1.Sums false, At.row Aa50 c51 49 fl_Count.kd t45.1.Ns false, At.row Aa53 c54 51 fl_Gap.kd t45.1.Spans false]) (fun _ h => h.to) ?_
             refine J.seq ?_
             refine J.sr ?_
             refine JL.mv (.int .i64 i137) ?_
             refine JL.mv (.slice Aa22 l21.length c23) ?_
             refine JL.pur (.int .i64 (l21.length : Int)) (some 126) ?_
             refine JL.pur (.bool (decide (i137 < (l21.length : Int)))) (some 127) ?_
             refine JL.es [(2, .slice Aa22 l21.length c23), (3, .int .i64 at25), (4, .int .i64 many26), (5, .pointer (some ⟨b27, 0, none⟩)), (6, .pointer (some ⟨b28, 0, none⟩)), (11, .bool t29), (12, .pointer (some ⟨b56, 0, none⟩)), (18, .int .i64 i137), (127, .bool (decide (i137 < (l21.length : Int))))] ?_
             rcases ite_cases H1 with ⟨h214, H1⟩ | ⟨h214, H1⟩
             · refine J.cond_true h214 ?_
               refine J.skip ?_
               refine JQ.ts [(2, .slice Aa22 l21.length c23), (3, .int .i64 at25), (4, .int .i64 many26), (5, .pointer (some ⟨b27, 0, none⟩)), (6, .pointer (some ⟨b28, 0, none⟩)), (11, .bool t29), (12, .pointer (some ⟨b56, 0, none⟩)), (18, .int .i64 i137)] ?_
               refine J.seq ?_
               refine J.block ?_
               refine J.sr ?_
               refine JL.val (.agg #[.slice Aa2 a1.Sums.length c3, .slice Aa5 a1.Ns.length c6, .slice Aa8 a1.Spans.length c9]) (some 131) (yields_load_boxes 1 0 [.slice Aa2 a1.Sums.length c3, .slice Aa5 a1.Ns.length c6, .slice Aa8 a1.Spans.length c9] (holds_box b27 25 [.slice Aa2 a1.Sums.length c3, .slice Aa5 a1.Ns.length c6, .slice Aa8 a1.Spans.length c9]) tyAgg_25 tySize_25) ?_
               refine JL.mv (.int .i64 i137) ?_
               refine JL.mv (.slice Aa22 l21.length c23) ?_
               refine JL.pur (.int .i64 (l21.length : Int)) (some 134) ?_
               refine JL.pur (.int .i64 (w64 (Int.tdiv (l21.length : Int) 2))) (some 135) ?_
               refine JL.pur (.int .i64 (w64 (i137 - (w64 (Int.tdiv (l21.length : Int) 2))))) (some 136) ?_
               obtain ⟨t215, hc216, H1⟩ := bind_some H1
               refine JL.call [] [] [] (accum_Value.ok a1 Aa2 c3 Aa5 c6 Aa8 c9 (w64 (i137 - (w64 (Int.tdiv (l21.length : Int) 2)))) _ hc216) ⟨pre_any 2 (view_rd Aa2 c3 fl_Count.kd a1.Sums true true), ⟨pre_any 3 (view_rd Aa5 c6 fl_Count.kd a1.Ns true true), ⟨pre_any 4 (view_rd Aa8 c9 fl_Gap.kd a1.Spans true true), trivial⟩⟩⟩ ?_
               rintro _ _ ⟨rfl, rfl⟩
               refine JL.mv (.tuple #[.int .i64 t215.1, .int .i64 t215.2.1, .int .i64 t215.2.2]) ?_
               refine JL.pur (.int .i64 t215.1) (some 138) ?_
               refine JL.pur (.int .i64 t215.2.1) (some 139) ?_
               refine JL.pur (.int .i64 t215.2.2) (some 140) ?_
               refine JL.as (.int .i64 t215.1) ?_
               refine JL.as (.int .i64 t215.2.1) ?_
               refine JL.as (.int .i64 t215.2.2) ?_
               refine JL.es [(2, .slice Aa22 l21.length c23), (3, .int .i64 at25), (4, .int .i64 many26), (5, .pointer (some ⟨b27, 0, none⟩)), (6, .pointer (some ⟨b28, 0, none⟩)), (11, .bool t29), (12, .pointer (some ⟨b56, 0, none⟩)), (18, .int .i64 i137), (19, .int .i64 t215.1), (20, .int .i64 t215.2.1), (21, .int .i64 t215.2.2)] ?_
               refine J.sr ?_
               refine JL.val (.agg #[.slice Aa47 t45.1.Sums.length c48, .slice Aa50 t45.1.Ns.length c51, .slice Aa53 t45.1.Spans.length c54]) (some 142) (yields_load_boxes 9 0 [.slice Aa47 t45.1.Sums.length c48, .slice Aa50 t45.1.Ns.length c51, .slice Aa53 t45.1.Spans.length c54] (holds_box b56 25 [.slice Aa47 t45.1.Sums.length c48, .slice Aa50 t45.1.Ns.length c51, .slice Aa53 t45.1.Spans.length c54]) tyAgg_25 tySize_25) ?_
               refine JL.mv (.int .i64 i137) ?_
               refine JL.mv (.slice Aa22 l21.length c23) ?_
               refine JL.pur (.int .i64 (l21.length : Int)) (some 145) ?_
               refine JL.pur (.int .i64 (w64 (Int.tdiv (l21.length : Int) 2))) (some 146) ?_
               refine JL.pur (.int .i64 (w64 (i137 - (w64 (Int.tdiv (l21.length : Int) 2))))) (some 147) ?_
               obtain ⟨t217, hc218, H1⟩ := bind_some H1
               refine JL.call [] [] [] (accum_Value.ok t45.1 Aa47 c48 Aa50 c51 Aa53 c54 (w64 (i137 - (w64 (Int.tdiv (l21.length : Int) 2)))) _ hc218) ⟨pre_view 10 (view_row Aa47 c48 49 fl_Count.kd t45.1.Sums false true), ⟨pre_view 11 (view_row Aa50 c51 49 fl_Count.kd t45.1.Ns false true), ⟨pre_view 12 (view_row Aa53 c54 51 fl_Gap.kd t45.1.Spans false true), trivial⟩⟩⟩ ?_
               rintro _ _ ⟨rfl, rfl⟩
               refine JL.mv (.tuple #[.int .i64 t217.1, .int .i64 t217.2.1, .int .i64 t217.2.2]) ?_
               refine JL.pur (.int .i64 t217.1) (some 149) ?_
               refine JL.pur (.int .i64 t217.2.1) (some 150) ?_
               refine JL.pur (.int .i64 t217.2.2) (some 151) ?_
               refine JL.as (.int .i64 t217.1) ?_
               refine JL.as (.int .i64 t217.2.1) ?_
               refine JL.as (.int .i64 t217.2.2) ?_
               refine JL.es [(2, .slice Aa22 l21.length c23), (3, .int .i64 at25), (4, .int .i64 many26), (5, .pointer (some ⟨b27, 0, none⟩)), (6, .pointer (some ⟨b28, 0, none⟩)), (11, .bool t29), (12, .pointer (some ⟨b56, 0, none⟩)), (18, .int .i64 i137), (19, .int .i64 t215.1), (20, .int .i64 t215.2.1), (21, .int .i64 t215.2.2), (22, .int .i64 t217.1), (23, .int .i64 t217.2.1), (24, .int .i64 t217.2.2)] ?_
               refine J.join (T := Bool) (G := Unit) (fun t => law18_AccumSums.k9 i137 t = some st1) (fun t g => [(2, .slice Aa22 l21.length c23), (3, .int .i64 at25), (4, .int .i64 many26), (5, .pointer (some ⟨b27, 0, none⟩)), (6, .pointer (some ⟨b28, 0, none⟩)), (11, .bool t29), (12, .pointer (some ⟨b56, 0, none⟩)), (18, .int .i64 i137), (179, .bool t)]) (fun t g => [At.rd Aa22 c23 fl_Lag.kd l21 true, At.box b27 25 [.slice Aa2 a1.Sums.length c3, .slice Aa5 a1.Ns.length c6, .slice Aa8 a1.Spans.length c9], At.rd Aa2 c3 fl_Count.kd a1.Sums true, At.rd Aa5 c6 fl_Count.kd a1.Ns true, At.rd Aa8 c9 fl_Gap.kd a1.Spans true, At.box b28 25 [.slice Aa12 b11.Sums.length c13, .slice Aa15 b11.Ns.length c16, .slice Aa18 b11.Spans.length c19], At.rd Aa12 c13 fl_Count.kd b11.Sums true, At.rd Aa15 c16 fl_Count.kd b11.Ns true, At.rd Aa18 c19 fl_Gap.kd b11.Spans true, At.box b56 25 [.slice Aa47 t45.1.Sums.length c48, .slice Aa50 t45.1.Ns.length c51, .slice Aa53 t45.1.Spans.length c54], At.row Aa47 c48 49 fl_Count.kd t45.1.Sums false, At.row Aa50 c51 49 fl_Count.kd t45.1.Ns false, At.row Aa53 c54 51 fl_Gap.kd t45.1.Spans false]) ?_ ?_
               · refine J.region ?_
                 refine JL.mv (.int .i64 t215.2.2) ?_
                 refine JL.pur (.bool (!decide (t215.2.2 = 0))) (some 153) ?_
                 refine JL.mv (.bool (!decide (t215.2.2 = 0))) ?_
                 rcases ite_cases H1 with ⟨h232, H1⟩ | ⟨h232, H1⟩
                 · refine JL.off 2 154 false (some 155) h232 ?_
                   refine JL.off 2 154 false (some 156) h232 ?_
                   refine JL.val (.bool true) (some 157) (gives_pickT h232) ?_
                   refine JL.mv (.bool true) ?_
                   refine JL.off 6 158 false (some 159) rfl ?_
                   refine JL.off 6 158 false (some 160) rfl ?_
                   refine JL.off 6 158 false (some 161) rfl ?_
                   refine JL.off 6 158 false (some 162) rfl ?_
                   refine JL.off 6 158 false (some 163) rfl ?_
                   refine JL.off 6 158 false (some 164) rfl ?_
                   refine JL.off 6 158 false (some 165) rfl ?_
                   refine JL.off 6 158 false (some 166) rfl ?_
                   refine JL.off 6 158 false (some 167) rfl ?_
                   refine JL.val (.bool true) (some 168) (gives_pickT rfl) ?_
                   refine JL.mv (.bool true) ?_
                   refine JL.off 17 169 false (some 170) rfl ?_
                   refine JL.off 17 169 false (some 171) rfl ?_
                   refine JL.off 17 169 false (some 172) rfl ?_
                   refine JL.off 17 169 false (some 173) rfl ?_
                   refine JL.off 17 169 false (some 174) rfl ?_
                   refine JL.off 17 169 false (some 175) rfl ?_
                   refine JL.off 17 169 false (some 176) rfl ?_
                   refine JL.off 17 169 false (some 177) rfl ?_
                   refine JL.off 17 169 false (some 178) rfl ?_
                   refine JL.val (.bool true) (some 179) (gives_pickT rfl) ?_
                   refine JL.en ?_
                   exact JQ.meet true () H1 (fun _ h => Heap.to h)
                 · refine JL.on 2 154 h232 ?_
                   refine JL.mv (.int .i64 t217.2.2) ?_
                   refine JL.on 2 154 h232 ?_
                   refine JL.pur (.bool (!decide (t217.2.2 = 0))) (some 156) ?_
                   refine JL.val (.bool (!decide (t217.2.2 = 0))) (some 157) (gives_pickF h232) ?_
                   refine JL.mv (.bool (!decide (t217.2.2 = 0))) ?_
                   rcases ite_cases H1 with ⟨h233, H1⟩ | ⟨h233, H1⟩
                   · refine JL.off 6 158 false (some 159) h233 ?_
                     refine JL.off 6 158 false (some 160) h233 ?_
                     refine JL.off 6 158 false (some 161) h233 ?_
                     refine JL.off 6 158 false (some 162) h233 ?_
                     refine JL.off 6 158 false (some 163) h233 ?_
                     refine JL.off 6 158 false (some 164) h233 ?_
                     refine JL.off 6 158 false (some 165) h233 ?_
                     refine JL.off 6 158 false (some 166) h233 ?_
                     refine JL.off 6 158 false (some 167) h233 ?_
                     refine JL.val (.bool true) (some 168) (gives_pickT h233) ?_
                     refine JL.mv (.bool true) ?_
                     refine JL.off 17 169 false (some 170) rfl ?_
                     refine JL.off 17 169 false (some 171) rfl ?_
                     refine JL.off 17 169 false (some 172) rfl ?_
                     refine JL.off 17 169 false (some 173) rfl ?_
                     refine JL.off 17 169 false (some 174) rfl ?_
                     refine JL.off 17 169 false (some 175) rfl ?_
                     refine JL.off 17 169 false (some 176) rfl ?_
                     refine JL.off 17 169 false (some 177) rfl ?_
                     refine JL.off 17 169 false (some 178) rfl ?_
                     refine JL.val (.bool true) (some 179) (gives_pickT rfl) ?_
                     refine JL.en ?_
                     exact JQ.meet true () H1 (fun _ h => Heap.to h)
                   · refine JL.on 6 158 h233 ?_
                     refine JL.mv (.int .i64 t217.1) ?_
                     refine JL.on 6 158 h233 ?_
                     refine JL.mv (.int .i64 t215.1) ?_
                     refine JL.on 6 158 h233 ?_
                     refine JL.mv (.slice Aa22 l21.length c23) ?_
                     refine JL.on 6 158 h233 ?_
                     refine JL.mv (.int .i64 i137) ?_
                     refine JL.on 6 158 h233 ?_
                     obtain ⟨⟨h234, h235⟩, H1⟩ := ite_must H1
                     refine JL.ixAddr 0 2 c23 .i64 (elems_rd Aa22 c23 fl_Lag.kd l21 true) Try.underlying57 tySize_56 h234 h235 fun g236 o237 hA => ?_
                     subst hA
                     refine JL.on 6 158 h233 ?_
                     refine JL.pur (.pointer (some ⟨g236, o237 + i137.toNat * 2, none⟩)) (some 164) ?_
                     refine JL.on 6 158 h233 ?_
                     refine JL.val (.int .i64 ((ix l21 i137).Sum)) (some 165) (gives_loadEl (f := fl_Lag) 0 0 i137 (elems_rd (some ⟨g236, o237, none⟩) c23 fl_Lag.kd l21 true) h234 h235 tySize_3 (.inr ⟨tyAgg_3, rfl, rfl⟩)) ?_
                     refine JL.on 6 158 h233 ?_
                     refine JL.pur (.int .i64 (w64 (t215.1 + ((ix l21 i137).Sum)))) (some 166) ?_
                     refine JL.on 6 158 h233 ?_
                     refine JL.pur (.bool (!decide (t217.1 = w64 (t215.1 + ((ix l21 i137).Sum))))) (some 167) ?_
                     refine JL.val (.bool (!decide (t217.1 = w64 (t215.1 + ((ix l21 i137).Sum))))) (some 168) (gives_pickF h233) ?_
                     refine JL.mv (.bool (!decide (t217.1 = w64 (t215.1 + ((ix l21 i137).Sum))))) ?_
                     rcases ite_cases H1 with ⟨h238, H1⟩ | ⟨h238, H1⟩
                     · refine JL.off 17 169 false (some 170) h238 ?_
                       refine JL.off 17 169 false (some 171) h238 ?_
                       refine JL.off 17 169 false (some 172) h238 ?_
                       refine JL.off 17 169 false (some 173) h238 ?_
                       refine JL.off 17 169 false (some 174) h238 ?_
                       refine JL.off 17 169 false (some 175) h238 ?_
                       refine JL.off 17 169 false (some 176) h238 ?_
                       refine JL.off 17 169 false (some 177) h238 ?_
                       refine JL.off 17 169 false (some 178) h238 ?_
                       refine JL.val (.bool true) (some 179) (gives_pickT h238) ?_
                       refine JL.en ?_
                       exact JQ.meet true () H1 (fun _ h => Heap.to h)
                     · refine JL.on 17 169 h238 ?_
                       refine JL.mv (.int .i64 t217.2.1) ?_
                       refine JL.on 17 169 h238 ?_
                       refine JL.mv (.int .i64 t215.2.1) ?_
                       refine JL.on 17 169 h238 ?_
                       refine JL.mv (.slice (some ⟨g236, o237, none⟩) l21.length c23) ?_
                       refine JL.on 17 169 h238 ?_
                       refine JL.mv (.int .i64 i137) ?_
                       refine JL.on 17 169 h238 ?_
                       refine JL.ixAddr' 0 2 c23 .i64 (elems_rd (some ⟨g236, o237, none⟩) c23 fl_Lag.kd l21 true) Try.underlying57 tySize_56 h234 h235 ?_
                       refine JL.on 17 169 h238 ?_
                       refine JL.pur (.pointer (some ⟨g236, o237 + i137.toNat * 2 + 1, none⟩)) (some 175) ?_
                       refine JL.on 17 169 h238 ?_
                       refine JL.val (.int .i64 ((ix l21 i137).N)) (some 176) (gives_loadEl (f := fl_Lag) 0 1 i137 (elems_rd (some ⟨g236, o237, none⟩) c23 fl_Lag.kd l21 true) h234 h235 tySize_3 (.inr ⟨tyAgg_3, rfl, rfl⟩)) ?_
                       refine JL.on 17 169 h238 ?_
                       refine JL.pur (.int .i64 (w64 (t215.2.1 + ((ix l21 i137).N)))) (some 177) ?_
                       refine JL.on 17 169 h238 ?_
                       refine JL.pur (.bool (!decide (t217.2.1 = w64 (t215.2.1 + ((ix l21 i137).N))))) (some 178) ?_
                       refine JL.val (.bool (!decide (t217.2.1 = w64 (t215.2.1 + ((ix l21 i137).N))))) (some 179) (gives_pickF h238) ?_
                       refine JL.en ?_
                       exact JQ.meet (!decide (t217.2.1 = w64 (t215.2.1 + ((ix l21 i137).N)))) () H1 (fun _ h => Heap.to h)
               · clear H1
                 rintro x230 ⟨⟩ H1
                 replace H1 : law18_AccumSums.k9 i137 x230 = some st1 := H1
                 unfold law18_AccumSums.k9 at H1
                 refine JQ.sub [(2, .slice Aa22 l21.length c23), (3, .int .i64 at25), (4, .int .i64 many26), (5, .pointer (some ⟨b27, 0, none⟩)), (6, .pointer (some ⟨b28, 0, none⟩)), (11, .bool t29), (12, .pointer (some ⟨b56, 0, none⟩)), (18, .int .i64 i137), (179, .bool x230)] ?_
                 refine JQ.turn (Δ' := [At.rd Aa22 c23 fl_Lag.kd l21 true, At.box b27 25 [.slice Aa2 a1.Sums.length c3, .slice Aa5 a1.Ns.length c6, .slice Aa8 a1.Spans.length c9], At.rd Aa2 c3 fl_Count.kd a1.Sums true, At.rd Aa5 c6 fl_Count.kd a1.Ns true, At.rd Aa8 c9 fl_Gap.kd a1.Spans true, At.box b28 25 [.slice Aa12 b11.Sums.length c13, .slice Aa15 b11.Ns.length c16, .slice Aa18 b11.Spans.length c19], At.rd Aa12 c13 fl_Count.kd b11.Sums true, At.rd Aa15 c16 fl_Count.kd b11.Ns true, At.rd Aa18 c19 fl_Gap.kd b11.Spans true, At.box b56 25 [.slice Aa47 t45.1.Sums.length c48, .slice Aa50 t45.1.Ns.length c51, .slice Aa53 t45.1.Spans.length c54], At.row Aa47 c48 49 fl_Count.kd t45.1.Sums false, At.row Aa50 c51 49 fl_Count.kd t45.1.Ns false, At.row Aa53 c54 51 fl_Gap.kd t45.1.Spans false]) (fun _ h => h.to) ?_
                 rcases ite_cases H1 with ⟨h231, H1⟩ | ⟨h231, H1⟩
                 · refine J.cond_true h231 ?_
                   refine J.sr ?_
                   refine JL.as (.bool false) ?_
                   refine JL.es [(10, .bool false)] ?_
                   refine JQ.mask [] [false, false, false, false, false, false, false, false, false, false, false, false, false] ?_
                   refine J.ret ?_
                   refine JQ.blk_ret ?_
                   refine JQ.then_ret ?_
                   refine JQ.then_ret ?_
                   refine JQ.blk_ret ?_
                   refine JQ.met_ret ?_
                   refine JQ.then_ret ?_
                   rw [hr1 _ (Option.some.inj H1).symm, fin_ret] at H0
                   obtain rfl := Option.some.inj H0
                   exact JQ.done' (rs := [.tmp 10]) (vs := [.bool false]) [] (.inr rfl) ⟨by kernel_rfl, trivial⟩ (fun _ h => Heap.to h) ⟨rfl, rfl⟩
                 · refine J.cond_false h231 ?_
                   refine J.skip ?_
                   refine JQ.blk_normal ?_
                   refine JQ.ts [(2, .slice Aa22 l21.length c23), (3, .int .i64 at25), (4, .int .i64 many26), (5, .pointer (some ⟨b27, 0, none⟩)), (6, .pointer (some ⟨b28, 0, none⟩)), (11, .bool t29), (12, .pointer (some ⟨b56, 0, none⟩)), (18, .int .i64 i137)] ?_
                   refine J.region ?_
                   refine JL.mv (.int .i64 i137) ?_
                   refine JL.pur (.int .i64 (w64 (i137 + 1))) (some 129) ?_
                   refine JL.as (.int .i64 (w64 (i137 + 1))) ?_
                   refine JL.en ?_
                   exact JQ.again (w64 (i137 + 1)) () (Option.some.inj H1).symm (fun _ h => Heap.to h)
             · refine J.cond_false h214 ?_
               refine J.exit ?_
               refine JQ.then_exit ?_
               refine JQ.then_exit ?_
               refine JQ.blk_exit ?_
               rw [hb1 _ (Option.some.inj H1).symm, fin_brk] at H0
               exact JQ.met () () H0 (fun _ h => Heap.to h)
           · clear hit H0
             rintro ⟨⟩ ⟨⟩ H0
             replace H0 : law18_AccumSums.k7 a1 b11 l21 at25 many26 t29 t45 = some r := H0
             unfold law18_AccumSums.k7 at H0
             refine JQ.sub [(2, .slice Aa22 l21.length c23), (3, .int .i64 at25), (4, .int .i64 many26), (5, .pointer (some ⟨b27, 0, none⟩)), (6, .pointer (some ⟨b28, 0, none⟩)), (11, .bool t29), (12, .pointer (some ⟨b56, 0, none⟩))] ?_
             refine JQ.turn (Δ' := [At.rd Aa22 c23 fl_Lag.kd l21 true, At.box b27 25 [.slice Aa2 a1.Sums.length c3, .slice Aa5 a1.Ns.length c6, .slice Aa8 a1.Spans.length c9], At.rd Aa2 c3 fl_Count.kd a1.Sums true, At.rd Aa5 c6 fl_Count.kd a1.Ns true, At.rd Aa8 c9 fl_Gap.kd a1.Spans true, At.box b28 25 [.slice Aa12 b11.Sums.length c13, .slice Aa15 b11.Ns.length c16, .slice Aa18 b11.Spans.length c19], At.rd Aa12 c13 fl_Count.kd b11.Sums true, At.rd Aa15 c16 fl_Count.kd b11.Ns true, At.rd Aa18 c19 fl_Gap.kd b11.Spans true, At.box b56 25 [.slice Aa47 t45.1.Sums.length c48, .slice Aa50 t45.1.Ns.length c51, .slice Aa53 t45.1.Spans.length c54], At.row Aa47 c48 49 fl_Count.kd t45.1.Sums false, At.row Aa50 c51 49 fl_Count.kd t45.1.Ns false, At.row Aa53 c54 51 fl_Gap.kd t45.1.Spans false]) (fun _ h => h.to) ?_
             refine JQ.then_normal ?_
             refine J.sr ?_
             refine JL.val (.agg #[.slice Aa47 t45.1.Sums.length c48, .slice Aa50 t45.1.Ns.length c51, .slice Aa53 t45.1.Spans.length c54]) (some 181) (yields_load_boxes 9 0 [.slice Aa47 t45.1.Sums.length c48, .slice Aa50 t45.1.Ns.length c51, .slice Aa53 t45.1.Spans.length c54] (holds_box b56 25 [.slice Aa47 t45.1.Sums.length c48, .slice Aa50 t45.1.Ns.length c51, .slice Aa53 t45.1.Spans.length c54]) tyAgg_25 tySize_25) ?_
             refine JL.val (.agg #[.slice Aa12 b11.Sums.length c13, .slice Aa15 b11.Ns.length c16, .slice Aa18 b11.Spans.length c19]) (some 182) (yields_load_boxes 5 0 [.slice Aa12 b11.Sums.length c13, .slice Aa15 b11.Ns.length c16, .slice Aa18 b11.Spans.length c19] (holds_box b28 25 [.slice Aa12 b11.Sums.length c13, .slice Aa15 b11.Ns.length c16, .slice Aa18 b11.Spans.length c19]) tyAgg_25 tySize_25) ?_
             obtain ⟨t167, hc168, H0⟩ := bind_some H0
             refine JL.call [] [] [] (accum_Merge.ok t45.1 Aa47 c48 Aa50 c51 Aa53 c54 b11 Aa12 c13 Aa15 c16 Aa18 c19 _ hc168) ⟨pre_view 10 (view_row Aa47 c48 49 fl_Count.kd t45.1.Sums false true), ⟨pre_view 11 (view_row Aa50 c51 49 fl_Count.kd t45.1.Ns false true), ⟨pre_view 12 (view_row Aa53 c54 51 fl_Gap.kd t45.1.Spans false true), ⟨pre_any 6 (view_rd Aa12 c13 fl_Count.kd b11.Sums true true), ⟨pre_any 7 (view_rd Aa15 c16 fl_Count.kd b11.Ns true true), ⟨pre_any 8 (view_rd Aa18 c19 fl_Gap.kd b11.Spans true true), trivial⟩⟩⟩⟩⟩⟩ ?_
             rintro _ _ ⟨Aa169, c170, Aa172, c173, Aa175, c176, rfl, rfl⟩
             refine JL.mv (.tuple #[.agg #[.slice Aa169 t167.1.Sums.length c170, .slice Aa172 t167.1.Ns.length c173, .slice Aa175 t167.1.Spans.length c176], .int .i64 t167.2]) ?_
             refine JL.pur (.agg #[.slice Aa169 t167.1.Sums.length c170, .slice Aa172 t167.1.Ns.length c173, .slice Aa175 t167.1.Spans.length c176]) (some 184) ?_
             refine JL.pur (.int .i64 t167.2) (some 185) ?_
             refine JL.alloc [.slice none 0 0, .slice none 0 0, .slice none 0 0] fun b178 => ?_
             refine JL.store 16 b178 0 25 [.slice none 0 0, .slice none 0 0, .slice none 0 0] [.slice Aa169 t167.1.Sums.length c170, .slice Aa172 t167.1.Ns.length c173, .slice Aa175 t167.1.Spans.length c176] tySize_25 ?_
             refine JL.as (.int .i64 t167.2) ?_
             refine JL.es [(2, .slice Aa22 l21.length c23), (3, .int .i64 at25), (4, .int .i64 many26), (5, .pointer (some ⟨b27, 0, none⟩)), (6, .pointer (some ⟨b28, 0, none⟩)), (11, .bool t29), (25, .pointer (some ⟨b178, 0, none⟩)), (26, .int .i64 t167.2)] ?_
             refine JQ.mask [At.rd Aa22 c23 fl_Lag.kd l21 true, At.box b27 25 [.slice Aa2 a1.Sums.length c3, .slice Aa5 a1.Ns.length c6, .slice Aa8 a1.Spans.length c9], At.rd Aa2 c3 fl_Count.kd a1.Sums true, At.rd Aa5 c6 fl_Count.kd a1.Ns true, At.rd Aa8 c9 fl_Gap.kd a1.Spans true, At.box b28 25 [.slice Aa12 b11.Sums.length c13, .slice Aa15 b11.Ns.length c16, .slice Aa18 b11.Spans.length c19], At.rd Aa12 c13 fl_Count.kd b11.Sums true, At.rd Aa15 c16 fl_Count.kd b11.Ns true, At.rd Aa18 c19 fl_Gap.kd b11.Spans true, At.row Aa169 c170 49 fl_Count.kd t167.1.Sums false, At.row Aa172 c173 49 fl_Count.kd t167.1.Ns false, At.row Aa175 c176 51 fl_Gap.kd t167.1.Spans false, At.box b178 25 [.slice Aa169 t167.1.Sums.length c170, .slice Aa172 t167.1.Ns.length c173, .slice Aa175 t167.1.Spans.length c176]] [true, true, true, true, true, true, true, true, true, false, false, false, false, true, true, true, true] ?_
             refine J.sr ?_
             refine JL.val (.agg #[.slice Aa2 a1.Sums.length c3, .slice Aa5 a1.Ns.length c6, .slice Aa8 a1.Spans.length c9]) (some 187) (yields_load_boxes 1 0 [.slice Aa2 a1.Sums.length c3, .slice Aa5 a1.Ns.length c6, .slice Aa8 a1.Spans.length c9] (holds_box b27 25 [.slice Aa2 a1.Sums.length c3, .slice Aa5 a1.Ns.length c6, .slice Aa8 a1.Spans.length c9]) tyAgg_25 tySize_25) ?_
             refine JL.val (.agg #[.slice Aa12 b11.Sums.length c13, .slice Aa15 b11.Ns.length c16, .slice Aa18 b11.Spans.length c19]) (some 188) (yields_load_boxes 5 0 [.slice Aa12 b11.Sums.length c13, .slice Aa15 b11.Ns.length c16, .slice Aa18 b11.Spans.length c19] (holds_box b28 25 [.slice Aa12 b11.Sums.length c13, .slice Aa15 b11.Ns.length c16, .slice Aa18 b11.Spans.length c19]) tyAgg_25 tySize_25) ?_
             obtain ⟨t179, hc180, H0⟩ := bind_some H0
             refine JL.call [] [] [] (accum_Merge.ok a1 Aa2 c3 Aa5 c6 Aa8 c9 b11 Aa12 c13 Aa15 c16 Aa18 c19 _ hc180) ⟨pre_any 2 (view_rd Aa2 c3 fl_Count.kd a1.Sums true true), ⟨pre_any 3 (view_rd Aa5 c6 fl_Count.kd a1.Ns true true), ⟨pre_any 4 (view_rd Aa8 c9 fl_Gap.kd a1.Spans true true), ⟨pre_any 6 (view_rd Aa12 c13 fl_Count.kd b11.Sums true true), ⟨pre_any 7 (view_rd Aa15 c16 fl_Count.kd b11.Ns true true), ⟨pre_any 8 (view_rd Aa18 c19 fl_Gap.kd b11.Spans true true), trivial⟩⟩⟩⟩⟩⟩ ?_
             rintro _ _ ⟨Aa181, c182, Aa184, c185, Aa187, c188, rfl, rfl⟩
             refine JL.mv (.tuple #[.agg #[.slice Aa181 t179.1.Sums.length c182, .slice Aa184 t179.1.Ns.length c185, .slice Aa187 t179.1.Spans.length c188], .int .i64 t179.2]) ?_
             refine JL.pur (.agg #[.slice Aa181 t179.1.Sums.length c182, .slice Aa184 t179.1.Ns.length c185, .slice Aa187 t179.1.Spans.length c188]) (some 190) ?_
             refine JL.pur (.int .i64 t179.2) (some 191) ?_
             refine JL.alloc [.slice none 0 0, .slice none 0 0, .slice none 0 0] fun b190 => ?_
             refine JL.store 16 b190 0 25 [.slice none 0 0, .slice none 0 0, .slice none 0 0] [.slice Aa181 t179.1.Sums.length c182, .slice Aa184 t179.1.Ns.length c185, .slice Aa187 t179.1.Spans.length c188] tySize_25 ?_
             refine JL.as (.int .i64 t179.2) ?_
             refine JL.es [(2, .slice Aa22 l21.length c23), (3, .int .i64 at25), (4, .int .i64 many26), (11, .bool t29), (25, .pointer (some ⟨b178, 0, none⟩)), (26, .int .i64 t167.2), (27, .pointer (some ⟨b190, 0, none⟩)), (28, .int .i64 t179.2)] ?_
             refine JQ.mask [At.rd Aa22 c23 fl_Lag.kd l21 true, At.row Aa169 c170 49 fl_Count.kd t167.1.Sums false, At.row Aa172 c173 49 fl_Count.kd t167.1.Ns false, At.row Aa175 c176 51 fl_Gap.kd t167.1.Spans false, At.box b178 25 [.slice Aa169 t167.1.Sums.length c170, .slice Aa172 t167.1.Ns.length c173, .slice Aa175 t167.1.Spans.length c176], At.row Aa181 c182 49 fl_Count.kd t179.1.Sums false, At.row Aa184 c185 49 fl_Count.kd t179.1.Ns false, At.row Aa187 c188 51 fl_Gap.kd t179.1.Spans false, At.box b190 25 [.slice Aa181 t179.1.Sums.length c182, .slice Aa184 t179.1.Ns.length c185, .slice Aa187 t179.1.Spans.length c188]] [true, false, false, false, false, false, false, false, false, true, true, true, true, true, true, true, true] ?_
             refine J.seq ?_
             refine J.join (T := Bool) (G := Unit) (fun t => law18_AccumSums.k8 l21 at25 many26 t29 t167 t179 t = some r) (fun t g => [(2, .slice Aa22 l21.length c23), (3, .int .i64 at25), (4, .int .i64 many26), (11, .bool t29), (25, .pointer (some ⟨b178, 0, none⟩)), (27, .pointer (some ⟨b190, 0, none⟩)), (197, .bool t)]) (fun t g => [At.rd Aa22 c23 fl_Lag.kd l21 true, At.box b178 25 [.slice Aa169 t167.1.Sums.length c170, .slice Aa172 t167.1.Ns.length c173, .slice Aa175 t167.1.Spans.length c176], At.row Aa169 c170 49 fl_Count.kd t167.1.Sums false, At.row Aa172 c173 49 fl_Count.kd t167.1.Ns false, At.row Aa175 c176 51 fl_Gap.kd t167.1.Spans false, At.box b190 25 [.slice Aa181 t179.1.Sums.length c182, .slice Aa184 t179.1.Ns.length c185, .slice Aa187 t179.1.Spans.length c188], At.row Aa181 c182 49 fl_Count.kd t179.1.Sums false, At.row Aa184 c185 49 fl_Count.kd t179.1.Ns false, At.row Aa187 c188 51 fl_Gap.kd t179.1.Spans false]) ?_ ?_
             · refine J.region ?_
               refine JL.mv (.int .i64 t167.2) ?_
               refine JL.pur (.bool (!decide (t167.2 = 0))) (some 193) ?_
               refine JL.mv (.bool (!decide (t167.2 = 0))) ?_
               rcases ite_cases H0 with ⟨h213, H0⟩ | ⟨h213, H0⟩
               · refine JL.off 2 194 false (some 195) h213 ?_
                 refine JL.off 2 194 false (some 196) h213 ?_
                 refine JL.val (.bool true) (some 197) (gives_pickT h213) ?_
                 refine JL.en ?_
                 exact JQ.meet true () H0 (fun _ h => Heap.to (Heap.pick [0, 4, 1, 2, 3, 8, 5, 6, 7] (by decide) h))
               · refine JL.on 2 194 h213 ?_
                 refine JL.mv (.int .i64 t179.2) ?_
                 refine JL.on 2 194 h213 ?_
                 refine JL.pur (.bool (!decide (t179.2 = 0))) (some 196) ?_
                 refine JL.val (.bool (!decide (t179.2 = 0))) (some 197) (gives_pickF h213) ?_
                 refine JL.en ?_
                 exact JQ.meet (!decide (t179.2 = 0)) () H0 (fun _ h => Heap.to (Heap.pick [0, 4, 1, 2, 3, 8, 5, 6, 7] (by decide) h))
             · clear H0
               rintro x192 ⟨⟩ H0
               replace H0 : law18_AccumSums.k8 l21 at25 many26 t29 t167 t179 x192 = some r := H0
               unfold law18_AccumSums.k8 at H0
               refine JQ.sub [(2, .slice Aa22 l21.length c23), (3, .int .i64 at25), (4, .int .i64 many26), (11, .bool t29), (25, .pointer (some ⟨b178, 0, none⟩)), (27, .pointer (some ⟨b190, 0, none⟩)), (197, .bool x192)] ?_
               refine JQ.turn (Δ' := [At.rd Aa22 c23 fl_Lag.kd l21 true, At.box b178 25 [.slice Aa169 t167.1.Sums.length c170, .slice Aa172 t167.1.Ns.length c173, .slice Aa175 t167.1.Spans.length c176], At.row Aa169 c170 49 fl_Count.kd t167.1.Sums false, At.row Aa172 c173 49 fl_Count.kd t167.1.Ns false, At.row Aa175 c176 51 fl_Gap.kd t167.1.Spans false, At.box b190 25 [.slice Aa181 t179.1.Sums.length c182, .slice Aa184 t179.1.Ns.length c185, .slice Aa187 t179.1.Spans.length c188], At.row Aa181 c182 49 fl_Count.kd t179.1.Sums false, At.row Aa184 c185 49 fl_Count.kd t179.1.Ns false, At.row Aa187 c188 51 fl_Gap.kd t179.1.Spans false]) (fun _ h => h.to) ?_
               rcases ite_cases H0 with ⟨h193, H0⟩ | ⟨h193, H0⟩
               · refine J.cond_true h193 ?_
                 refine J.sr ?_
                 refine JL.mv (.bool t29) ?_
                 refine JL.as (.bool t29) ?_
                 refine JL.es [(10, .bool t29)] ?_
                 refine JQ.mask [] [false, false, false, false, false, false, false, false, false] ?_
                 refine J.ret ?_
                 refine JQ.then_ret ?_
                 obtain rfl := Option.some.inj H0
                 exact JQ.done' (rs := [.tmp 10]) (vs := [.bool t29]) [] (.inr rfl) ⟨by kernel_rfl, trivial⟩ (fun _ h => Heap.to h) ⟨rfl, rfl⟩
               · refine J.cond_false h193 ?_
                 refine J.skip ?_
                 refine JQ.ts [(2, .slice Aa22 l21.length c23), (3, .int .i64 at25), (4, .int .i64 many26), (11, .bool t29), (25, .pointer (some ⟨b178, 0, none⟩)), (27, .pointer (some ⟨b190, 0, none⟩))] ?_
                 refine J.sr ?_
                 refine JL.val (.agg #[.slice Aa181 t179.1.Sums.length c182, .slice Aa184 t179.1.Ns.length c185, .slice Aa187 t179.1.Spans.length c188]) (some 200) (yields_load_boxes 5 0 [.slice Aa181 t179.1.Sums.length c182, .slice Aa184 t179.1.Ns.length c185, .slice Aa187 t179.1.Spans.length c188] (holds_box b190 25 [.slice Aa181 t179.1.Sums.length c182, .slice Aa184 t179.1.Ns.length c185, .slice Aa187 t179.1.Spans.length c188]) tyAgg_25 tySize_25) ?_
                 refine JL.mv (.slice Aa22 l21.length c23) ?_
                 refine JL.mv (.int .i64 at25) ?_
                 refine JL.mv (.int .i64 many26) ?_
                 obtain ⟨t194, hc195, H0⟩ := bind_some H0
                 refine JL.call [] [] [] (accum_Add.ok t179.1 Aa181 c182 Aa184 c185 Aa187 c188 l21 Aa22 c23 at25 many26 _ hc195) ⟨pre_view 6 (view_row Aa181 c182 49 fl_Count.kd t179.1.Sums false true), ⟨pre_view 7 (view_row Aa184 c185 49 fl_Count.kd t179.1.Ns false true), ⟨pre_view 8 (view_row Aa187 c188 51 fl_Gap.kd t179.1.Spans false true), ⟨pre_any 0 (view_rd Aa22 c23 fl_Lag.kd l21 true true), trivial⟩⟩⟩⟩ ?_
                 rintro _ _ ⟨Aa196, c197, Aa199, c200, Aa202, c203, rfl, rfl⟩
                 refine JL.mv (.tuple #[.agg #[.slice Aa196 t194.1.Sums.length c197, .slice Aa199 t194.1.Ns.length c200, .slice Aa202 t194.1.Spans.length c203], .int .i64 t194.2]) ?_
                 refine JL.pur (.agg #[.slice Aa196 t194.1.Sums.length c197, .slice Aa199 t194.1.Ns.length c200, .slice Aa202 t194.1.Spans.length c203]) (some 205) ?_
                 refine JL.pur (.int .i64 t194.2) (some 206) ?_
                 refine JL.alloc [.slice none 0 0, .slice none 0 0, .slice none 0 0] fun b205 => ?_
                 refine JL.store 12 b205 0 25 [.slice none 0 0, .slice none 0 0, .slice none 0 0] [.slice Aa196 t194.1.Sums.length c197, .slice Aa199 t194.1.Ns.length c200, .slice Aa202 t194.1.Spans.length c203] tySize_25 ?_
                 refine JL.as (.int .i64 t194.2) ?_
                 refine JL.es [(11, .bool t29), (25, .pointer (some ⟨b178, 0, none⟩)), (29, .pointer (some ⟨b205, 0, none⟩)), (30, .int .i64 t194.2)] ?_
                 refine JQ.mask [At.box b178 25 [.slice Aa169 t167.1.Sums.length c170, .slice Aa172 t167.1.Ns.length c173, .slice Aa175 t167.1.Spans.length c176], At.row Aa169 c170 49 fl_Count.kd t167.1.Sums false, At.row Aa172 c173 49 fl_Count.kd t167.1.Ns false, At.row Aa175 c176 51 fl_Gap.kd t167.1.Spans false, At.row Aa196 c197 49 fl_Count.kd t194.1.Sums false, At.row Aa199 c200 49 fl_Count.kd t194.1.Ns false, At.row Aa202 c203 51 fl_Gap.kd t194.1.Spans false, At.box b205 25 [.slice Aa196 t194.1.Sums.length c197, .slice Aa199 t194.1.Ns.length c200, .slice Aa202 t194.1.Spans.length c203]] [false, true, true, true, true, false, false, false, false, true, true, true, true] ?_
                 refine J.sr ?_
                 refine JL.mv (.bool t29) ?_
                 refine JL.mv (.bool t29) ?_
                 rcases ite_cases H0 with ⟨h206, H0⟩ | ⟨h206, H0⟩
                 · refine JL.on 1 208 h206 ?_
                   refine JL.mv (.int .i64 t194.2) ?_
                   refine JL.on 1 208 h206 ?_
                   refine JL.pur (.bool (decide (t194.2 = 0))) (some 210) ?_
                   refine JL.on 1 208 h206 ?_
                   refine JL.mv (.bool (decide (t194.2 = 0))) ?_
                   rcases ite_cases H0 with ⟨h207, H0⟩ | ⟨h207, H0⟩
                   · refine JL.on 4 211 h207 ?_
                     refine JL.val (.agg #[.slice Aa169 t167.1.Sums.length c170, .slice Aa172 t167.1.Ns.length c173, .slice Aa175 t167.1.Spans.length c176]) (some 212) (yields_load_boxes 0 0 [.slice Aa169 t167.1.Sums.length c170, .slice Aa172 t167.1.Ns.length c173, .slice Aa175 t167.1.Spans.length c176] (holds_box b178 25 [.slice Aa169 t167.1.Sums.length c170, .slice Aa172 t167.1.Ns.length c173, .slice Aa175 t167.1.Spans.length c176]) tyAgg_25 tySize_25) ?_
                     refine JL.on 4 211 h207 ?_
                     refine JL.val (.agg #[.slice Aa196 t194.1.Sums.length c197, .slice Aa199 t194.1.Ns.length c200, .slice Aa202 t194.1.Spans.length c203]) (some 213) (yields_load_boxes 7 0 [.slice Aa196 t194.1.Sums.length c197, .slice Aa199 t194.1.Ns.length c200, .slice Aa202 t194.1.Spans.length c203] (holds_box b205 25 [.slice Aa196 t194.1.Sums.length c197, .slice Aa199 t194.1.Ns.length c200, .slice Aa202 t194.1.Spans.length c203]) tyAgg_25 tySize_25) ?_
                     refine JL.on 4 211 h207 ?_
                     obtain ⟨t208, hc209, H0⟩ := bind_some H0
                     refine JL.call [] [] [] (ref18_Same.ok t167.1 Aa169 c170 Aa172 c173 Aa175 c176 t194.1 Aa196 c197 Aa199 c200 Aa202 c203 _ hc209) ⟨pre_view 1 (view_row Aa169 c170 49 fl_Count.kd t167.1.Sums false true), ⟨pre_view 2 (view_row Aa172 c173 49 fl_Count.kd t167.1.Ns false true), ⟨pre_view 3 (view_row Aa175 c176 51 fl_Gap.kd t167.1.Spans false true), ⟨pre_view 4 (view_row Aa196 c197 49 fl_Count.kd t194.1.Sums false true), ⟨pre_view 5 (view_row Aa199 c200 49 fl_Count.kd t194.1.Ns false true), ⟨pre_view 6 (view_row Aa202 c203 51 fl_Gap.kd t194.1.Spans false true), trivial⟩⟩⟩⟩⟩⟩ ?_
                     rintro _ _ ⟨rfl, rfl⟩
                     refine JL.on 1 208 h206 ?_
                     refine JL.val (.bool t208) (some 215) (gives_pickT h207) ?_
                     refine JL.on 1 208 h206 ?_
                     refine JL.mv (.bool t208) ?_
                     rcases ite_cases H0 with ⟨h210, H0⟩ | ⟨h210, H0⟩
                     · refine JL.off 9 216 false (some 217) h210 ?_
                       refine JL.off 9 216 false (some 218) h210 ?_
                       refine JL.on 1 208 h206 ?_
                       refine JL.val (.bool true) (some 219) (gives_pickT h210) ?_
                       refine JL.on 1 208 h206 ?_
                       refine JL.mv (.bool true) ?_
                       refine JL.off 13 220 false (some 221) rfl ?_
                       refine JL.off 13 220 false (some 222) rfl ?_
                       refine JL.on 1 208 h206 ?_
                       refine JL.val (.bool true) (some 223) (gives_pickT rfl) ?_
                       refine JL.val (.bool true) (some 224) (gives_pickT h206) ?_
                       refine JL.as (.bool true) ?_
                       refine JL.es [(10, .bool true)] ?_
                       refine JQ.mask [] [false, false, false, false, false, false, false, false] ?_
                       refine J.ret ?_
                       obtain rfl := Option.some.inj H0
                       exact JQ.done' (rs := [.tmp 10]) (vs := [.bool true]) [] (.inr rfl) ⟨by kernel_rfl, trivial⟩ (fun _ h => Heap.to h) ⟨rfl, rfl⟩
                     · refine JL.on 9 216 h210 ?_
                       refine JL.mv (.int .i64 t194.2) ?_
                       refine JL.on 9 216 h210 ?_
                       refine JL.pur (.bool (decide (t194.2 = 4))) (some 218) ?_
                       refine JL.on 1 208 h206 ?_
                       refine JL.val (.bool (decide (t194.2 = 4))) (some 219) (gives_pickF h210) ?_
                       refine JL.on 1 208 h206 ?_
                       refine JL.mv (.bool (decide (t194.2 = 4))) ?_
                       rcases ite_cases H0 with ⟨h211, H0⟩ | ⟨h211, H0⟩
                       · refine JL.off 13 220 false (some 221) h211 ?_
                         refine JL.off 13 220 false (some 222) h211 ?_
                         refine JL.on 1 208 h206 ?_
                         refine JL.val (.bool true) (some 223) (gives_pickT h211) ?_
                         refine JL.val (.bool true) (some 224) (gives_pickT h206) ?_
                         refine JL.as (.bool true) ?_
                         refine JL.es [(10, .bool true)] ?_
                         refine JQ.mask [] [false, false, false, false, false, false, false, false] ?_
                         refine J.ret ?_
                         obtain rfl := Option.some.inj H0
                         exact JQ.done' (rs := [.tmp 10]) (vs := [.bool true]) [] (.inr rfl) ⟨by kernel_rfl, trivial⟩ (fun _ h => Heap.to h) ⟨rfl, rfl⟩
                       · refine JL.on 13 220 h211 ?_
                         refine JL.mv (.int .i64 t194.2) ?_
                         refine JL.on 13 220 h211 ?_
                         refine JL.pur (.bool (decide (t194.2 = 16))) (some 222) ?_
                         refine JL.on 1 208 h206 ?_
                         refine JL.val (.bool (decide (t194.2 = 16))) (some 223) (gives_pickF h211) ?_
                         refine JL.val (.bool (decide (t194.2 = 16))) (some 224) (gives_pickT h206) ?_
                         refine JL.as (.bool (decide (t194.2 = 16))) ?_
                         refine JL.es [(10, .bool (decide (t194.2 = 16)))] ?_
                         refine JQ.mask [] [false, false, false, false, false, false, false, false] ?_
                         refine J.ret ?_
                         obtain rfl := Option.some.inj H0
                         exact JQ.done' (rs := [.tmp 10]) (vs := [.bool (decide (t194.2 = 16))]) [] (.inr rfl) ⟨by kernel_rfl, trivial⟩ (fun _ h => Heap.to h) ⟨rfl, rfl⟩
                   · refine JL.off 4 211 true (some 212) h207 ?_
                     refine JL.off 4 211 true (some 213) h207 ?_
                     refine JL.off 4 211 true (some 214) h207 ?_
                     refine JL.on 1 208 h206 ?_
                     refine JL.val (.bool false) (some 215) (gives_pickF h207) ?_
                     refine JL.on 1 208 h206 ?_
                     refine JL.mv (.bool false) ?_
                     refine JL.on 9 216 (rfl : (false) = false) ?_
                     refine JL.mv (.int .i64 t194.2) ?_
                     refine JL.on 9 216 (rfl : (false) = false) ?_
                     refine JL.pur (.bool (decide (t194.2 = 4))) (some 218) ?_
                     refine JL.on 1 208 h206 ?_
                     refine JL.val (.bool (decide (t194.2 = 4))) (some 219) (gives_pickF rfl) ?_
                     refine JL.on 1 208 h206 ?_
                     refine JL.mv (.bool (decide (t194.2 = 4))) ?_
                     rcases ite_cases H0 with ⟨h212, H0⟩ | ⟨h212, H0⟩
                     · refine JL.off 13 220 false (some 221) h212 ?_
                       refine JL.off 13 220 false (some 222) h212 ?_
                       refine JL.on 1 208 h206 ?_
                       refine JL.val (.bool true) (some 223) (gives_pickT h212) ?_
                       refine JL.val (.bool true) (some 224) (gives_pickT h206) ?_
                       refine JL.as (.bool true) ?_
                       refine JL.es [(10, .bool true)] ?_
                       refine JQ.mask [] [false, false, false, false, false, false, false, false] ?_
                       refine J.ret ?_
                       obtain rfl := Option.some.inj H0
                       exact JQ.done' (rs := [.tmp 10]) (vs := [.bool true]) [] (.inr rfl) ⟨by kernel_rfl, trivial⟩ (fun _ h => Heap.to h) ⟨rfl, rfl⟩
                     · refine JL.on 13 220 h212 ?_
                       refine JL.mv (.int .i64 t194.2) ?_
                       refine JL.on 13 220 h212 ?_
                       refine JL.pur (.bool (decide (t194.2 = 16))) (some 222) ?_
                       refine JL.on 1 208 h206 ?_
                       refine JL.val (.bool (decide (t194.2 = 16))) (some 223) (gives_pickF h212) ?_
                       refine JL.val (.bool (decide (t194.2 = 16))) (some 224) (gives_pickT h206) ?_
                       refine JL.as (.bool (decide (t194.2 = 16))) ?_
                       refine JL.es [(10, .bool (decide (t194.2 = 16)))] ?_
                       refine JQ.mask [] [false, false, false, false, false, false, false, false] ?_
                       refine J.ret ?_
                       obtain rfl := Option.some.inj H0
                       exact JQ.done' (rs := [.tmp 10]) (vs := [.bool (decide (t194.2 = 16))]) [] (.inr rfl) ⟨by kernel_rfl, trivial⟩ (fun _ h => Heap.to h) ⟨rfl, rfl⟩
                 · refine JL.off 1 208 true (some 209) h206 ?_
                   refine JL.off 1 208 true (some 210) h206 ?_
                   refine JL.off 1 208 true (some 211) h206 ?_
                   refine JL.off' 4 211 true (some 212) ?_
                   refine JL.off' 4 211 true (some 213) ?_
                   refine JL.off' 4 211 true (some 214) ?_
                   refine JL.off 1 208 true (some 215) h206 ?_
                   refine JL.off 1 208 true (some 216) h206 ?_
                   refine JL.off' 9 216 false (some 217) ?_
                   refine JL.off' 9 216 false (some 218) ?_
                   refine JL.off 1 208 true (some 219) h206 ?_
                   refine JL.off 1 208 true (some 220) h206 ?_
                   refine JL.off' 13 220 false (some 221) ?_
                   refine JL.off' 13 220 false (some 222) ?_
                   refine JL.off 1 208 true (some 223) h206 ?_
                   refine JL.val (.bool false) (some 224) (gives_pickF h206) ?_
                   refine JL.as (.bool false) ?_
                   refine JL.es [(10, .bool false)] ?_
                   refine JQ.mask [] [false, false, false, false, false, false, false, false] ?_
                   refine J.ret ?_
                   obtain rfl := Option.some.inj H0
                   exact JQ.done' (rs := [.tmp 10]) (vs := [.bool false]) [] (.inr rfl) ⟨by kernel_rfl, trivial⟩ (fun _ h => Heap.to h) ⟨rfl, rfl⟩


end Go.Proofs.Ytiepcikippcfaaa.M
