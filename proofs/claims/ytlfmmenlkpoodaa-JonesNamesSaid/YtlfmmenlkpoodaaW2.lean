import Derived.Test.YtlfmmenlkpoodaaW1
set_option linter.unusedVariables false
set_option linter.unusedSimpArgs false
set_option maxRecDepth 100000
set_option maxHeartbeats 8000000
namespace Go.Proofs.Ytlfmmenlkpoodaa.M
open Go.GW Go.Proofs

theorem law33_JonesNames.ok  (r : Bool) (H0 : law33_JonesNames.f = some r) :
    Does Try.prog 7 [].toArray [] [] false (fun v Δ => v = .bool r ∧ Δ = []) := by
 refine Does.body (vs := []) Try.func7 rfl trivial trivial fun w S => ?_
 unfold law33_JonesNames.f at H0
 refine J.seq ?_
 refine J.region ?_
 refine JL.as (.bool false) ?_
 refine JL.nil ?_
 refine JQ.then_normal ?_
 refine JQ.sub [] ?_
 refine J.seq ?_
 refine J.region ?_
 obtain ⟨t1, hc2, H0⟩ := bind_some H0
 refine JL.call [] [] [] (law33_whole.ok 1 0 0 1 _ hc2) trivial ?_
 rintro _ _ ⟨rfl, rfl⟩
 obtain ⟨t3, hc4, H0⟩ := bind_some H0
 refine JL.call [] [] [] (law33_whole.ok 1 2 2 4 _ hc4) trivial ?_
 rintro _ _ ⟨rfl, rfl⟩
 obtain ⟨t5, hc6, H0⟩ := bind_some H0
 refine JL.call [] [] [] (law33_whole.ok 1000000000 1 1 1000000000 _ hc6) trivial ?_
 rintro _ _ ⟨rfl, rfl⟩
 refine JL.alloc (cl_25 zv_25) fun b7 => ?_
 refine JL.alloc (cl_25 zv_25) fun b8 => ?_
 refine JL.alloc (cl_25 zv_25) fun b9 => ?_
 refine JL.store 0 b7 0 25 (cl_25 zv_25) (cl_25 t1) tySize_25 ?_
 refine JL.store 1 b8 0 25 (cl_25 zv_25) (cl_25 t3) tySize_25 ?_
 refine JL.store 2 b9 0 25 (cl_25 zv_25) (cl_25 t5) tySize_25 ?_
 refine JL.nil ?_
 refine JQ.then_normal ?_
 refine JQ.sub [(1, .pointer (some ⟨b7, 0, none⟩)), (2, .pointer (some ⟨b8, 0, none⟩)), (3, .pointer (some ⟨b9, 0, none⟩))] ?_
 refine J.seq ?_
 refine J.region ?_
 refine JL.pur (mv_25 zv_25) (some 60) ?_
 refine JL.val (mv_25 t1) (some 61) (yields_load_boxes 0 0 (cl_25 t1) (holds_box b7 25 (cl_25 t1)) tyAgg_25 tySize_25) ?_
 obtain ⟨t10, hc11, H0⟩ := bind_some H0
 refine JL.call [] [] [] (jones_Mul.ok (⟨(⟨0, 0, 0⟩ : Cx), (⟨0, 0, 0⟩ : Cx), (⟨0, 0, 0⟩ : Cx), (⟨0, 0, 0⟩ : Cx)⟩ : (A4 Cx)) t1 _ hc11) trivial ?_
 rintro _ _ ⟨rfl, rfl⟩
 refine JL.mv (.tuple #[mv_25 t10.1, .int .i64 t10.2]) ?_
 refine JL.pur (mv_25 t10.1) (some 63) ?_
 refine JL.pur (.int .i64 t10.2) (some 64) ?_
 refine JL.alloc (cl_25 zv_25) fun b12 => ?_
 refine JL.store 3 b12 0 25 (cl_25 zv_25) (cl_25 t10.1) tySize_25 ?_
 refine JL.as (.int .i64 t10.2) ?_
 refine JL.nil ?_
 refine JQ.then_normal ?_
 refine JQ.sub [(1, .pointer (some ⟨b7, 0, none⟩)), (2, .pointer (some ⟨b8, 0, none⟩)), (3, .pointer (some ⟨b9, 0, none⟩)), (5, .int .i64 t10.2)] ?_
 refine JQ.mask [At.box b7 25 (cl_25 t1), At.box b8 25 (cl_25 t3), At.box b9 25 (cl_25 t5)] [true, true, true, false] ?_
 refine J.seq ?_
 refine J.region ?_
 refine JL.val (mv_25 t1) (some 66) (yields_load_boxes 0 0 (cl_25 t1) (holds_box b7 25 (cl_25 t1)) tyAgg_25 tySize_25) ?_
 refine JL.pur (mv_25 zv_25) (some 67) ?_
 obtain ⟨t13, hc14, H0⟩ := bind_some H0
 refine JL.call [] [] [] (jones_Mul.ok t1 (⟨(⟨0, 0, 0⟩ : Cx), (⟨0, 0, 0⟩ : Cx), (⟨0, 0, 0⟩ : Cx), (⟨0, 0, 0⟩ : Cx)⟩ : (A4 Cx)) _ hc14) trivial ?_
 rintro _ _ ⟨rfl, rfl⟩
 refine JL.mv (.tuple #[mv_25 t13.1, .int .i64 t13.2]) ?_
 refine JL.pur (mv_25 t13.1) (some 69) ?_
 refine JL.pur (.int .i64 t13.2) (some 70) ?_
 refine JL.alloc (cl_25 zv_25) fun b15 => ?_
 refine JL.store 3 b15 0 25 (cl_25 zv_25) (cl_25 t13.1) tySize_25 ?_
 refine JL.as (.int .i64 t13.2) ?_
 refine JL.nil ?_
 refine JQ.then_normal ?_
 refine JQ.sub [(1, .pointer (some ⟨b7, 0, none⟩)), (2, .pointer (some ⟨b8, 0, none⟩)), (3, .pointer (some ⟨b9, 0, none⟩)), (5, .int .i64 t10.2), (7, .int .i64 t13.2)] ?_
 refine JQ.mask [At.box b7 25 (cl_25 t1), At.box b8 25 (cl_25 t3), At.box b9 25 (cl_25 t5)] [true, true, true, false] ?_
 refine J.seq ?_
 refine J.region ?_
 refine JL.val (mv_25 t5) (some 72) (yields_load_boxes 2 0 (cl_25 t5) (holds_box b9 25 (cl_25 t5)) tyAgg_25 tySize_25) ?_
 refine JL.val (mv_25 t5) (some 73) (yields_load_boxes 2 0 (cl_25 t5) (holds_box b9 25 (cl_25 t5)) tyAgg_25 tySize_25) ?_
 obtain ⟨t16, hc17, H0⟩ := bind_some H0
 refine JL.call [] [] [] (jones_Mul.ok t5 t5 _ hc17) trivial ?_
 rintro _ _ ⟨rfl, rfl⟩
 refine JL.mv (.tuple #[mv_25 t16.1, .int .i64 t16.2]) ?_
 refine JL.pur (mv_25 t16.1) (some 75) ?_
 refine JL.pur (.int .i64 t16.2) (some 76) ?_
 refine JL.alloc (cl_25 zv_25) fun b18 => ?_
 refine JL.store 3 b18 0 25 (cl_25 zv_25) (cl_25 t16.1) tySize_25 ?_
 refine JL.as (.int .i64 t16.2) ?_
 refine JL.nil ?_
 refine JQ.then_normal ?_
 refine JQ.sub [(1, .pointer (some ⟨b7, 0, none⟩)), (2, .pointer (some ⟨b8, 0, none⟩)), (3, .pointer (some ⟨b9, 0, none⟩)), (5, .int .i64 t10.2), (7, .int .i64 t13.2), (9, .int .i64 t16.2)] ?_
 refine JQ.mask [At.box b7 25 (cl_25 t1), At.box b8 25 (cl_25 t3), At.box b9 25 (cl_25 t5)] [true, true, true, false] ?_
 refine J.seq ?_
 refine J.region ?_
 refine JL.val (mv_25 t5) (some 78) (yields_load_boxes 2 0 (cl_25 t5) (holds_box b9 25 (cl_25 t5)) tyAgg_25 tySize_25) ?_
 obtain ⟨t19, hc20, H0⟩ := bind_some H0
 refine JL.call [] [] [] (jones_Det.ok t5 _ hc20) trivial ?_
 rintro _ _ ⟨rfl, rfl⟩
 refine JL.mv (.tuple #[mv_23 t19.1, .int .i64 t19.2]) ?_
 refine JL.pur (mv_23 t19.1) (some 80) ?_
 refine JL.pur (.int .i64 t19.2) (some 81) ?_
 refine JL.alloc (cl_23 zv_23) fun b21 => ?_
 refine JL.store 3 b21 0 23 (cl_23 zv_23) (cl_23 t19.1) tySize_23 ?_
 refine JL.as (.int .i64 t19.2) ?_
 refine JL.nil ?_
 refine JQ.then_normal ?_
 refine JQ.sub [(1, .pointer (some ⟨b7, 0, none⟩)), (2, .pointer (some ⟨b8, 0, none⟩)), (3, .pointer (some ⟨b9, 0, none⟩)), (5, .int .i64 t10.2), (7, .int .i64 t13.2), (9, .int .i64 t16.2), (11, .int .i64 t19.2)] ?_
 refine JQ.mask [At.box b7 25 (cl_25 t1), At.box b8 25 (cl_25 t3), At.box b9 25 (cl_25 t5)] [true, true, true, false] ?_
 refine J.seq ?_
 refine J.region ?_
 obtain ⟨t22, hc23, H0⟩ := bind_some H0
 refine JL.call [] [] [] (law33_whole.ok 1000000000 0 0 1 _ hc23) trivial ?_
 rintro _ _ ⟨rfl, rfl⟩
 obtain ⟨t24, hc25, H0⟩ := bind_some H0
 refine JL.call [] [] [] (jones_Trace.ok t22 _ hc25) trivial ?_
 rintro _ _ ⟨rfl, rfl⟩
 refine JL.mv (.tuple #[mv_23 t24.1, .int .i64 t24.2]) ?_
 refine JL.pur (mv_23 t24.1) (some 85) ?_
 refine JL.pur (.int .i64 t24.2) (some 86) ?_
 refine JL.alloc (cl_23 zv_23) fun b26 => ?_
 refine JL.store 3 b26 0 23 (cl_23 zv_23) (cl_23 t24.1) tySize_23 ?_
 refine JL.as (.int .i64 t24.2) ?_
 refine JL.nil ?_
 refine JQ.then_normal ?_
 refine JQ.sub [(1, .pointer (some ⟨b7, 0, none⟩)), (2, .pointer (some ⟨b8, 0, none⟩)), (3, .pointer (some ⟨b9, 0, none⟩)), (5, .int .i64 t10.2), (7, .int .i64 t13.2), (9, .int .i64 t16.2), (11, .int .i64 t19.2), (13, .int .i64 t24.2)] ?_
 refine JQ.mask [At.box b7 25 (cl_25 t1), At.box b8 25 (cl_25 t3), At.box b9 25 (cl_25 t5)] [true, true, true, false] ?_
 refine J.seq ?_
 refine J.region ?_
 refine JL.val (mv_25 t3) (some 88) (yields_load_boxes 1 0 (cl_25 t3) (holds_box b8 25 (cl_25 t3)) tyAgg_25 tySize_25) ?_
 obtain ⟨t27, hc28, H0⟩ := bind_some H0
 refine JL.call [] [] [] (jones_Inv.ok t3 _ hc28) trivial ?_
 rintro _ _ ⟨rfl, rfl⟩
 refine JL.mv (.tuple #[mv_25 t27.1, .int .i64 t27.2]) ?_
 refine JL.pur (mv_25 t27.1) (some 90) ?_
 refine JL.pur (.int .i64 t27.2) (some 91) ?_
 refine JL.alloc (cl_25 zv_25) fun b29 => ?_
 refine JL.store 3 b29 0 25 (cl_25 zv_25) (cl_25 t27.1) tySize_25 ?_
 refine JL.as (.int .i64 t27.2) ?_
 refine JL.nil ?_
 refine JQ.then_normal ?_
 refine JQ.sub [(1, .pointer (some ⟨b7, 0, none⟩)), (2, .pointer (some ⟨b8, 0, none⟩)), (3, .pointer (some ⟨b9, 0, none⟩)), (5, .int .i64 t10.2), (7, .int .i64 t13.2), (9, .int .i64 t16.2), (11, .int .i64 t19.2), (13, .int .i64 t24.2), (15, .int .i64 t27.2)] ?_
 refine JQ.mask [At.box b7 25 (cl_25 t1), At.box b8 25 (cl_25 t3), At.box b9 25 (cl_25 t5)] [true, true, true, false] ?_
 refine J.seq ?_
 refine J.region ?_
 refine JL.val (mv_25 t5) (some 93) (yields_load_boxes 2 0 (cl_25 t5) (holds_box b9 25 (cl_25 t5)) tyAgg_25 tySize_25) ?_
 obtain ⟨t30, hc31, H0⟩ := bind_some H0
 refine JL.call [] [] [] (jones_Inv.ok t5 _ hc31) trivial ?_
 rintro _ _ ⟨rfl, rfl⟩
 refine JL.mv (.tuple #[mv_25 t30.1, .int .i64 t30.2]) ?_
 refine JL.pur (mv_25 t30.1) (some 95) ?_
 refine JL.pur (.int .i64 t30.2) (some 96) ?_
 refine JL.alloc (cl_25 zv_25) fun b32 => ?_
 refine JL.store 3 b32 0 25 (cl_25 zv_25) (cl_25 t30.1) tySize_25 ?_
 refine JL.as (.int .i64 t30.2) ?_
 refine JL.nil ?_
 refine JQ.then_normal ?_
 refine JQ.sub [(1, .pointer (some ⟨b7, 0, none⟩)), (2, .pointer (some ⟨b8, 0, none⟩)), (3, .pointer (some ⟨b9, 0, none⟩)), (5, .int .i64 t10.2), (7, .int .i64 t13.2), (9, .int .i64 t16.2), (11, .int .i64 t19.2), (13, .int .i64 t24.2), (15, .int .i64 t27.2), (17, .int .i64 t30.2)] ?_
 refine JQ.mask [At.box b7 25 (cl_25 t1), At.box b8 25 (cl_25 t3), At.box b9 25 (cl_25 t5)] [true, true, true, false] ?_
 refine J.seq ?_
 refine J.region ?_
 obtain ⟨t33, hc34, H0⟩ := bind_some H0
 refine JL.call [] [] [] (law33_whole.ok 0 0 0 0 _ hc34) trivial ?_
 rintro _ _ ⟨rfl, rfl⟩
 obtain ⟨t35, hc36, H0⟩ := bind_some H0
 refine JL.call [] [] [] (jones_Inv.ok t33 _ hc36) trivial ?_
 rintro _ _ ⟨rfl, rfl⟩
 refine JL.mv (.tuple #[mv_25 t35.1, .int .i64 t35.2]) ?_
 refine JL.pur (mv_25 t35.1) (some 100) ?_
 refine JL.pur (.int .i64 t35.2) (some 101) ?_
 refine JL.alloc (cl_25 zv_25) fun b37 => ?_
 refine JL.store 3 b37 0 25 (cl_25 zv_25) (cl_25 t35.1) tySize_25 ?_
 refine JL.as (.int .i64 t35.2) ?_
 refine JL.nil ?_
 refine JQ.then_normal ?_
 refine JQ.sub [(1, .pointer (some ⟨b7, 0, none⟩)), (2, .pointer (some ⟨b8, 0, none⟩)), (3, .pointer (some ⟨b9, 0, none⟩)), (5, .int .i64 t10.2), (7, .int .i64 t13.2), (9, .int .i64 t16.2), (11, .int .i64 t19.2), (13, .int .i64 t24.2), (15, .int .i64 t27.2), (17, .int .i64 t30.2), (19, .int .i64 t35.2)] ?_
 refine JQ.mask [At.box b7 25 (cl_25 t1), At.box b8 25 (cl_25 t3), At.box b9 25 (cl_25 t5)] [true, true, true, false] ?_
 refine J.seq ?_
 refine J.region ?_
 obtain ⟨t38, hc39, H0⟩ := bind_some H0
 refine JL.call [] [] [] (jones_Act.ok [] none 0 [] none 0 _ hc39) ⟨.inl (rd_nil _ _ _ _), ⟨.inl (rd_nil _ _ _ _), trivial⟩⟩ ?_
 rintro _ _ ⟨Aa40, c41, rfl, rfl⟩
 refine JL.mv (.tuple #[.slice Aa40 t38.1.length c41, .int .i64 t38.2]) ?_
 refine JL.pur (.slice Aa40 t38.1.length c41) (some 104) ?_
 refine JL.pur (.int .i64 t38.2) (some 105) ?_
 refine JL.as (.slice Aa40 t38.1.length c41) ?_
 refine JL.as (.int .i64 t38.2) ?_
 refine JL.nil ?_
 refine JQ.then_normal ?_
 refine JQ.sub [(1, .pointer (some ⟨b7, 0, none⟩)), (2, .pointer (some ⟨b8, 0, none⟩)), (3, .pointer (some ⟨b9, 0, none⟩)), (5, .int .i64 t10.2), (7, .int .i64 t13.2), (9, .int .i64 t16.2), (11, .int .i64 t19.2), (13, .int .i64 t24.2), (15, .int .i64 t27.2), (17, .int .i64 t30.2), (19, .int .i64 t35.2), (21, .int .i64 t38.2)] ?_
 refine JQ.mask [At.box b7 25 (cl_25 t1), At.box b8 25 (cl_25 t3), At.box b9 25 (cl_25 t5)] [true, true, true, false] ?_
 refine J.seq ?_
 refine J.region ?_
 obtain ⟨⟨h44, h45, h46⟩, H0⟩ := ite_must H0
 refine JL.makeSl 25 ((flArr4 fl_Cx).kd) ((⟨(⟨0, 0, 0⟩ : Cx), (⟨0, 0, 0⟩ : Cx), (⟨0, 0, 0⟩ : Cx), (⟨0, 0, 0⟩ : Cx)⟩ : (A4 Cx)) : (A4 Cx)) Try.underlying38 info_25 (fun _ _ => rfl) h44 h45 (by omega) (by omega) fun b43 => ?_
 obtain ⟨t47, hc48, H0⟩ := bind_some H0
 refine JL.call [] [] [] (jones_Act.ok (List.replicate (9 : Int).toNat ((⟨(⟨0, 0, 0⟩ : Cx), (⟨0, 0, 0⟩ : Cx), (⟨0, 0, 0⟩ : Cx), (⟨0, 0, 0⟩ : Cx)⟩ : (A4 Cx)) : (A4 Cx))) (some ⟨b43, 0, none⟩) ((9 : Int).toNat) [] none 0 _ hc48) ⟨pre_view 3 (view_row (some ⟨b43, 0, none⟩) ((9 : Int).toNat) 25 ((flArr4 fl_Cx).kd) (List.replicate (9 : Int).toNat ((⟨(⟨0, 0, 0⟩ : Cx), (⟨0, 0, 0⟩ : Cx), (⟨0, 0, 0⟩ : Cx), (⟨0, 0, 0⟩ : Cx)⟩ : (A4 Cx)) : (A4 Cx))) false true), ⟨.inl (rd_nil _ _ _ _), trivial⟩⟩ ?_
 rintro _ _ ⟨Aa49, c50, rfl, rfl⟩
 refine JL.mv (.tuple #[.slice Aa49 t47.1.length c50, .int .i64 t47.2]) ?_
 refine JL.pur (.slice Aa49 t47.1.length c50) (some 109) ?_
 refine JL.pur (.int .i64 t47.2) (some 110) ?_
 refine JL.as (.slice Aa49 t47.1.length c50) ?_
 refine JL.as (.int .i64 t47.2) ?_
 refine JL.nil ?_
 refine JQ.then_normal ?_
 refine JQ.sub [(1, .pointer (some ⟨b7, 0, none⟩)), (2, .pointer (some ⟨b8, 0, none⟩)), (3, .pointer (some ⟨b9, 0, none⟩)), (5, .int .i64 t10.2), (7, .int .i64 t13.2), (9, .int .i64 t16.2), (11, .int .i64 t19.2), (13, .int .i64 t24.2), (15, .int .i64 t27.2), (17, .int .i64 t30.2), (19, .int .i64 t35.2), (21, .int .i64 t38.2), (23, .int .i64 t47.2)] ?_
 refine JQ.mask [At.box b7 25 (cl_25 t1), At.box b8 25 (cl_25 t3), At.box b9 25 (cl_25 t5)] [true, true, true, false, false] ?_
 refine J.seq ?_
 refine J.region ?_
 refine JL.val (mv_25 t1) (some 112) (yields_load_boxes 0 0 (cl_25 t1) (holds_box b7 25 (cl_25 t1)) tyAgg_25 tySize_25) ?_
 refine JL.val (mv_25 t3) (some 113) (yields_load_boxes 1 0 (cl_25 t3) (holds_box b8 25 (cl_25 t3)) tyAgg_25 tySize_25) ?_
 refine JL.buildSl 25 ((flArr4 fl_Cx).kd) (([t1, t3] : List (A4 Cx)) : List (A4 Cx)) [.int .i64 t1.e0.Re, .int .i64 t1.e0.Im, .int .i64 t1.e0.Den, .int .i64 t1.e1.Re, .int .i64 t1.e1.Im, .int .i64 t1.e1.Den, .int .i64 t1.e2.Re, .int .i64 t1.e2.Im, .int .i64 t1.e2.Den, .int .i64 t1.e3.Re, .int .i64 t1.e3.Im, .int .i64 t1.e3.Den, .int .i64 t3.e0.Re, .int .i64 t3.e0.Im, .int .i64 t3.e0.Den, .int .i64 t3.e1.Re, .int .i64 t3.e1.Im, .int .i64 t3.e1.Den, .int .i64 t3.e2.Re, .int .i64 t3.e2.Im, .int .i64 t3.e2.Den, .int .i64 t3.e3.Re, .int .i64 t3.e3.Im, .int .i64 t3.e3.Den] false (closes_fl rfl) fun b52 => ?_
 obtain ⟨t53, hc54, H0⟩ := bind_some H0
 refine JL.call [] [] [] (jones_Act.ok ([t1, t3] : List (A4 Cx)) (some ⟨b52, 0, none⟩) 2 [] none 0 _ hc54) ⟨pre_view 3 (view_row (some ⟨b52, 0, none⟩) 2 25 ((flArr4 fl_Cx).kd) ([t1, t3] : List (A4 Cx)) false true), ⟨.inl (rd_nil _ _ _ _), trivial⟩⟩ ?_
 rintro _ _ ⟨Aa55, c56, rfl, rfl⟩
 refine JL.mv (.tuple #[.slice Aa55 t53.1.length c56, .int .i64 t53.2]) ?_
 refine JL.pur (.slice Aa55 t53.1.length c56) (some 116) ?_
 refine JL.pur (.int .i64 t53.2) (some 117) ?_
 refine JL.as (.slice Aa55 t53.1.length c56) ?_
 refine JL.as (.int .i64 t53.2) ?_
 refine JL.nil ?_
 refine JQ.then_normal ?_
 refine JQ.sub [(1, .pointer (some ⟨b7, 0, none⟩)), (2, .pointer (some ⟨b8, 0, none⟩)), (3, .pointer (some ⟨b9, 0, none⟩)), (5, .int .i64 t10.2), (7, .int .i64 t13.2), (9, .int .i64 t16.2), (11, .int .i64 t19.2), (13, .int .i64 t24.2), (15, .int .i64 t27.2), (17, .int .i64 t30.2), (19, .int .i64 t35.2), (21, .int .i64 t38.2), (23, .int .i64 t47.2), (25, .int .i64 t53.2)] ?_
 refine JQ.mask [At.box b7 25 (cl_25 t1), At.box b8 25 (cl_25 t3), At.box b9 25 (cl_25 t5)] [true, true, true, false, false] ?_
 refine J.seq ?_
 refine J.region ?_
 refine JL.val (mv_25 t5) (some 119) (yields_load_boxes 2 0 (cl_25 t5) (holds_box b9 25 (cl_25 t5)) tyAgg_25 tySize_25) ?_
 refine JL.val (mv_25 t3) (some 120) (yields_load_boxes 1 0 (cl_25 t3) (holds_box b8 25 (cl_25 t3)) tyAgg_25 tySize_25) ?_
 refine JL.buildSl 25 ((flArr4 fl_Cx).kd) (([t5, t3] : List (A4 Cx)) : List (A4 Cx)) [.int .i64 t5.e0.Re, .int .i64 t5.e0.Im, .int .i64 t5.e0.Den, .int .i64 t5.e1.Re, .int .i64 t5.e1.Im, .int .i64 t5.e1.Den, .int .i64 t5.e2.Re, .int .i64 t5.e2.Im, .int .i64 t5.e2.Den, .int .i64 t5.e3.Re, .int .i64 t5.e3.Im, .int .i64 t5.e3.Den, .int .i64 t3.e0.Re, .int .i64 t3.e0.Im, .int .i64 t3.e0.Den, .int .i64 t3.e1.Re, .int .i64 t3.e1.Im, .int .i64 t3.e1.Den, .int .i64 t3.e2.Re, .int .i64 t3.e2.Im, .int .i64 t3.e2.Den, .int .i64 t3.e3.Re, .int .i64 t3.e3.Im, .int .i64 t3.e3.Den] false (closes_fl rfl) fun b58 => ?_
 obtain ⟨t59, hc60, H0⟩ := bind_some H0
 refine JL.call [] [] [] (jones_Act.ok ([t5, t3] : List (A4 Cx)) (some ⟨b58, 0, none⟩) 2 [] none 0 _ hc60) ⟨pre_view 3 (view_row (some ⟨b58, 0, none⟩) 2 25 ((flArr4 fl_Cx).kd) ([t5, t3] : List (A4 Cx)) false true), ⟨.inl (rd_nil _ _ _ _), trivial⟩⟩ ?_
 rintro _ _ ⟨Aa61, c62, rfl, rfl⟩
 refine JL.mv (.tuple #[.slice Aa61 t59.1.length c62, .int .i64 t59.2]) ?_
 refine JL.pur (.slice Aa61 t59.1.length c62) (some 123) ?_
 refine JL.pur (.int .i64 t59.2) (some 124) ?_
 refine JL.as (.slice Aa61 t59.1.length c62) ?_
 refine JL.as (.int .i64 t59.2) ?_
 refine JL.nil ?_
 refine JQ.then_normal ?_
 refine JQ.sub [(1, .pointer (some ⟨b7, 0, none⟩)), (2, .pointer (some ⟨b8, 0, none⟩)), (3, .pointer (some ⟨b9, 0, none⟩)), (5, .int .i64 t10.2), (7, .int .i64 t13.2), (9, .int .i64 t16.2), (11, .int .i64 t19.2), (13, .int .i64 t24.2), (15, .int .i64 t27.2), (17, .int .i64 t30.2), (19, .int .i64 t35.2), (21, .int .i64 t38.2), (23, .int .i64 t47.2), (25, .int .i64 t53.2), (27, .int .i64 t59.2)] ?_
 refine JQ.mask [At.box b7 25 (cl_25 t1), At.box b8 25 (cl_25 t3), At.box b9 25 (cl_25 t5)] [true, true, true, false, false] ?_
 refine J.seq ?_
 refine J.region ?_
 refine JL.val (mv_25 t3) (some 126) (yields_load_boxes 1 0 (cl_25 t3) (holds_box b8 25 (cl_25 t3)) tyAgg_25 tySize_25) ?_
 refine JL.val (mv_25 t5) (some 127) (yields_load_boxes 2 0 (cl_25 t5) (holds_box b9 25 (cl_25 t5)) tyAgg_25 tySize_25) ?_
 refine JL.buildSl 25 ((flArr4 fl_Cx).kd) (([t3, t5] : List (A4 Cx)) : List (A4 Cx)) [.int .i64 t3.e0.Re, .int .i64 t3.e0.Im, .int .i64 t3.e0.Den, .int .i64 t3.e1.Re, .int .i64 t3.e1.Im, .int .i64 t3.e1.Den, .int .i64 t3.e2.Re, .int .i64 t3.e2.Im, .int .i64 t3.e2.Den, .int .i64 t3.e3.Re, .int .i64 t3.e3.Im, .int .i64 t3.e3.Den, .int .i64 t5.e0.Re, .int .i64 t5.e0.Im, .int .i64 t5.e0.Den, .int .i64 t5.e1.Re, .int .i64 t5.e1.Im, .int .i64 t5.e1.Den, .int .i64 t5.e2.Re, .int .i64 t5.e2.Im, .int .i64 t5.e2.Den, .int .i64 t5.e3.Re, .int .i64 t5.e3.Im, .int .i64 t5.e3.Den] false (closes_fl rfl) fun b64 => ?_
 obtain ⟨t65, hc66, H0⟩ := bind_some H0
 refine JL.call [] [] [] (jones_Act.ok ([t3, t5] : List (A4 Cx)) (some ⟨b64, 0, none⟩) 2 [] none 0 _ hc66) ⟨pre_view 3 (view_row (some ⟨b64, 0, none⟩) 2 25 ((flArr4 fl_Cx).kd) ([t3, t5] : List (A4 Cx)) false true), ⟨.inl (rd_nil _ _ _ _), trivial⟩⟩ ?_
 rintro _ _ ⟨Aa67, c68, rfl, rfl⟩
 refine JL.mv (.tuple #[.slice Aa67 t65.1.length c68, .int .i64 t65.2]) ?_
 refine JL.pur (.slice Aa67 t65.1.length c68) (some 130) ?_
 refine JL.pur (.int .i64 t65.2) (some 131) ?_
 refine JL.as (.slice Aa67 t65.1.length c68) ?_
 refine JL.as (.int .i64 t65.2) ?_
 refine JL.nil ?_
 refine JQ.then_normal ?_
 refine JQ.sub [(1, .pointer (some ⟨b7, 0, none⟩)), (2, .pointer (some ⟨b8, 0, none⟩)), (5, .int .i64 t10.2), (7, .int .i64 t13.2), (9, .int .i64 t16.2), (11, .int .i64 t19.2), (13, .int .i64 t24.2), (15, .int .i64 t27.2), (17, .int .i64 t30.2), (19, .int .i64 t35.2), (21, .int .i64 t38.2), (23, .int .i64 t47.2), (25, .int .i64 t53.2), (27, .int .i64 t59.2), (29, .int .i64 t65.2)] ?_
 refine JQ.mask [At.box b7 25 (cl_25 t1), At.box b8 25 (cl_25 t3)] [true, true, false, false, false] ?_
 refine J.join (T := Int) (G := Unit) (fun t => law33_JonesNames.k1 t1 t3 t10 t13 t16 t19 t24 t27 t30 t35 t38 t47 t53 t59 t65 t = some r) (fun t g => [(1, .pointer (some ⟨b7, 0, none⟩)), (2, .pointer (some ⟨b8, 0, none⟩)), (5, .int .i64 t10.2), (7, .int .i64 t13.2), (9, .int .i64 t16.2), (11, .int .i64 t19.2), (13, .int .i64 t24.2), (15, .int .i64 t27.2), (17, .int .i64 t30.2), (19, .int .i64 t35.2), (21, .int .i64 t38.2), (23, .int .i64 t47.2), (25, .int .i64 t53.2), (27, .int .i64 t59.2), (29, .int .i64 t65.2), (31, .int .i64 t)]) (fun t g => [At.box b7 25 (cl_25 t1), At.box b8 25 (cl_25 t3)]) ?_ ?_
 · obtain ⟨⟨h282, h283, h284⟩, H0⟩ := ite_must H0
   obtain ⟨t285, hc286, H0⟩ := bind_some H0
   refine JY.start [] (ba 10 0) ?_
   refine JY.take (hi := rfl) 0 (ba 10 1) (mv_25 t1) (some 133) [true, true] want (yields_load_boxes 0 0 (cl_25 t1) (holds_box b7 25 (cl_25 t1)) tyAgg_25 tySize_25) ?_
   refine JY.take (hi := rfl) 1 (ba 10 3) (mv_25 t1) (some 134) [true, true] want (yields_load_boxes 0 0 (cl_25 t1) (holds_box b7 25 (cl_25 t1)) tyAgg_25 tySize_25) ?_
   refine JY.all [2, 3] ⟨⟨_, rfl, ?_⟩, ⟨_, rfl, ?_⟩, trivial⟩
   · refine JL.buildSl 25 ((flArr4 fl_Cx).kd) (([t1, t1] : List (A4 Cx)) : List (A4 Cx)) [.int .i64 t1.e0.Re, .int .i64 t1.e0.Im, .int .i64 t1.e0.Den, .int .i64 t1.e1.Re, .int .i64 t1.e1.Im, .int .i64 t1.e1.Den, .int .i64 t1.e2.Re, .int .i64 t1.e2.Im, .int .i64 t1.e2.Den, .int .i64 t1.e3.Re, .int .i64 t1.e3.Im, .int .i64 t1.e3.Den, .int .i64 t1.e0.Re, .int .i64 t1.e0.Im, .int .i64 t1.e0.Den, .int .i64 t1.e1.Re, .int .i64 t1.e1.Im, .int .i64 t1.e1.Den, .int .i64 t1.e2.Re, .int .i64 t1.e2.Im, .int .i64 t1.e2.Den, .int .i64 t1.e3.Re, .int .i64 t1.e3.Im, .int .i64 t1.e3.Den] false (closes_fl rfl) fun b290 => ?_
     refine JL.nil ?_
     refine JY.ran (ba 10 7) [true, true, false] ?_
     refine JY.all [3] ⟨⟨_, rfl, ?_⟩, trivial⟩
     obtain ⟨h292, h293, h294⟩ : (0 : Int) ≤ 65 ∧ (65 : Int) ≤ 65 ∧ (65 : Int) ≤ 2345624805922 := ⟨h282, h283, h284⟩
     refine JL.makeSl 57 fl_Pol.kd ((⟨0, 0, (⟨(⟨0, 0, 0⟩ : Cx), (⟨0, 0, 0⟩ : Cx), (⟨0, 0, 0⟩ : Cx), (⟨0, 0, 0⟩ : Cx)⟩ : (A4 Cx)), 0⟩ : Pol) : Pol) Try.underlying39 info_57 (fun _ _ => rfl) h292 h293 (by omega) (by omega) fun b291 => ?_
     refine JL.nil ?_
     refine JY.ran (ba 10 15) [true, true, false, false] ?_
     refine JY.all [4] ⟨⟨_, rfl, ?_⟩, trivial⟩
     refine JL.call [] [] [] (jones_Act.ok ([t1, t1] : List (A4 Cx)) (some ⟨b290, 0, none⟩) 2 (List.replicate (65 : Int).toNat ((⟨0, 0, (⟨(⟨0, 0, 0⟩ : Cx), (⟨0, 0, 0⟩ : Cx), (⟨0, 0, 0⟩ : Cx), (⟨0, 0, 0⟩ : Cx)⟩ : (A4 Cx)), 0⟩ : Pol) : Pol)) (some ⟨b291, 0, none⟩) ((65 : Int).toNat) _ hc286) ⟨pre_view 2 (view_row (some ⟨b290, 0, none⟩) 2 25 ((flArr4 fl_Cx).kd) ([t1, t1] : List (A4 Cx)) false true), ⟨pre_view 3 (view_row (some ⟨b291, 0, none⟩) ((65 : Int).toNat) 57 fl_Pol.kd (List.replicate (65 : Int).toNat ((⟨0, 0, (⟨(⟨0, 0, 0⟩ : Cx), (⟨0, 0, 0⟩ : Cx), (⟨0, 0, 0⟩ : Cx), (⟨0, 0, 0⟩ : Cx)⟩ : (A4 Cx)), 0⟩ : Pol) : Pol)) false true), trivial⟩⟩ ?_
     rintro _ _ ⟨Aa297, c298, rfl, rfl⟩
     refine JL.nil ?_
     refine JY.ran (ba 10 31) [true, true, false, false, false] ?_
     refine JY.pur (hi := rfl) 5 (ba 10 63) (.tuple #[.slice Aa297 t285.1.length c298, .int .i64 t285.2]) (some 132) want ?_
     refine JY.pur (hi := rfl) 6 (ba 10 127) (.slice Aa297 t285.1.length c298) (some 138) want ?_
     refine JY.pur (hi := rfl) 7 (ba 10 255) (.int .i64 t285.2) (some 139) want ?_
     refine JY.pur (hi := rfl) 8 (ba 10 511) (.slice Aa297 t285.1.length c298) (some 30) want ?_
     refine JY.pur (hi := rfl) 9 (ba 10 1023) (.int .i64 t285.2) (some 31) want ?_
     refine JY.done ?_
     refine JQ.then_normal ?_
     exact JQ.meet t285.2 () H0 (fun _ h => Heap.to (Heap.pick [0, 1] (by decide) h))
   · obtain ⟨h301, h302, h303⟩ : (0 : Int) ≤ 65 ∧ (65 : Int) ≤ 65 ∧ (65 : Int) ≤ 2345624805922 := ⟨h282, h283, h284⟩
     refine JL.makeSl 57 fl_Pol.kd ((⟨0, 0, (⟨(⟨0, 0, 0⟩ : Cx), (⟨0, 0, 0⟩ : Cx), (⟨0, 0, 0⟩ : Cx), (⟨0, 0, 0⟩ : Cx)⟩ : (A4 Cx)), 0⟩ : Pol) : Pol) Try.underlying39 info_57 (fun _ _ => rfl) h301 h302 (by omega) (by omega) fun b300 => ?_
     refine JL.nil ?_
     refine JY.ran (ba 10 11) [true, true, false] ?_
     refine JY.all [2] ⟨⟨_, rfl, ?_⟩, trivial⟩
     refine JL.buildSl 25 ((flArr4 fl_Cx).kd) (([t1, t1] : List (A4 Cx)) : List (A4 Cx)) [.int .i64 t1.e0.Re, .int .i64 t1.e0.Im, .int .i64 t1.e0.Den, .int .i64 t1.e1.Re, .int .i64 t1.e1.Im, .int .i64 t1.e1.Den, .int .i64 t1.e2.Re, .int .i64 t1.e2.Im, .int .i64 t1.e2.Den, .int .i64 t1.e3.Re, .int .i64 t1.e3.Im, .int .i64 t1.e3.Den, .int .i64 t1.e0.Re, .int .i64 t1.e0.Im, .int .i64 t1.e0.Den, .int .i64 t1.e1.Re, .int .i64 t1.e1.Im, .int .i64 t1.e1.Den, .int .i64 t1.e2.Re, .int .i64 t1.e2.Im, .int .i64 t1.e2.Den, .int .i64 t1.e3.Re, .int .i64 t1.e3.Im, .int .i64 t1.e3.Den] false (closes_fl rfl) fun b304 => ?_
     refine JL.nil ?_
     refine JY.ran (ba 10 15) [true, true, false, false] ?_
     refine JY.all [4] ⟨⟨_, rfl, ?_⟩, trivial⟩
     refine JL.call [] [] [] (jones_Act.ok ([t1, t1] : List (A4 Cx)) (some ⟨b304, 0, none⟩) 2 (List.replicate (65 : Int).toNat ((⟨0, 0, (⟨(⟨0, 0, 0⟩ : Cx), (⟨0, 0, 0⟩ : Cx), (⟨0, 0, 0⟩ : Cx), (⟨0, 0, 0⟩ : Cx)⟩ : (A4 Cx)), 0⟩ : Pol) : Pol)) (some ⟨b300, 0, none⟩) ((65 : Int).toNat) _ hc286) ⟨pre_view 3 (view_row (some ⟨b304, 0, none⟩) 2 25 ((flArr4 fl_Cx).kd) ([t1, t1] : List (A4 Cx)) false true), ⟨pre_view 2 (view_row (some ⟨b300, 0, none⟩) ((65 : Int).toNat) 57 fl_Pol.kd (List.replicate (65 : Int).toNat ((⟨0, 0, (⟨(⟨0, 0, 0⟩ : Cx), (⟨0, 0, 0⟩ : Cx), (⟨0, 0, 0⟩ : Cx), (⟨0, 0, 0⟩ : Cx)⟩ : (A4 Cx)), 0⟩ : Pol) : Pol)) false true), trivial⟩⟩ ?_
     rintro _ _ ⟨Aa307, c308, rfl, rfl⟩
     refine JL.nil ?_
     refine JY.ran (ba 10 31) [true, true, false, false, false] ?_
     refine JY.pur (hi := rfl) 5 (ba 10 63) (.tuple #[.slice Aa307 t285.1.length c308, .int .i64 t285.2]) (some 132) want ?_
     refine JY.pur (hi := rfl) 6 (ba 10 127) (.slice Aa307 t285.1.length c308) (some 138) want ?_
     refine JY.pur (hi := rfl) 7 (ba 10 255) (.int .i64 t285.2) (some 139) want ?_
     refine JY.pur (hi := rfl) 8 (ba 10 511) (.slice Aa307 t285.1.length c308) (some 30) want ?_
     refine JY.pur (hi := rfl) 9 (ba 10 1023) (.int .i64 t285.2) (some 31) want ?_
     refine JY.done ?_
     refine JQ.then_normal ?_
     exact JQ.meet t285.2 () H0 (fun _ h => Heap.to (Heap.pick [0, 1] (by decide) h))
 · clear H0
   rintro n100 ⟨⟩ H0
   replace H0 : law33_JonesNames.k1 t1 t3 t10 t13 t16 t19 t24 t27 t30 t35 t38 t47 t53 t59 t65 n100 = some r := H0
   unfold law33_JonesNames.k1 at H0
   refine JQ.sub [(1, .pointer (some ⟨b7, 0, none⟩)), (2, .pointer (some ⟨b8, 0, none⟩)), (5, .int .i64 t10.2), (7, .int .i64 t13.2), (9, .int .i64 t16.2), (11, .int .i64 t19.2), (13, .int .i64 t24.2), (15, .int .i64 t27.2), (17, .int .i64 t30.2), (19, .int .i64 t35.2), (21, .int .i64 t38.2), (23, .int .i64 t47.2), (25, .int .i64 t53.2), (27, .int .i64 t59.2), (29, .int .i64 t65.2), (31, .int .i64 n100)] ?_
   refine JQ.turn (Δ' := [At.box b7 25 (cl_25 t1), At.box b8 25 (cl_25 t3)]) (fun _ h => h.to) ?_
   refine J.seq ?_
   refine J.region ?_
   refine JL.val (mv_25 t1) (some 141) (yields_load_boxes 0 0 (cl_25 t1) (holds_box b7 25 (cl_25 t1)) tyAgg_25 tySize_25) ?_
   refine JL.val (mv_25 t1) (some 142) (yields_load_boxes 0 0 (cl_25 t1) (holds_box b7 25 (cl_25 t1)) tyAgg_25 tySize_25) ?_
   refine JL.buildSl 25 ((flArr4 fl_Cx).kd) (([t1, t1] : List (A4 Cx)) : List (A4 Cx)) [.int .i64 t1.e0.Re, .int .i64 t1.e0.Im, .int .i64 t1.e0.Den, .int .i64 t1.e1.Re, .int .i64 t1.e1.Im, .int .i64 t1.e1.Den, .int .i64 t1.e2.Re, .int .i64 t1.e2.Im, .int .i64 t1.e2.Den, .int .i64 t1.e3.Re, .int .i64 t1.e3.Im, .int .i64 t1.e3.Den, .int .i64 t1.e0.Re, .int .i64 t1.e0.Im, .int .i64 t1.e0.Den, .int .i64 t1.e1.Re, .int .i64 t1.e1.Im, .int .i64 t1.e1.Den, .int .i64 t1.e2.Re, .int .i64 t1.e2.Im, .int .i64 t1.e2.Den, .int .i64 t1.e3.Re, .int .i64 t1.e3.Im, .int .i64 t1.e3.Den] false (closes_fl rfl) fun b101 => ?_
   refine JL.val (mv_25 t1) (some 144) (yields_load_boxes 0 0 (cl_25 t1) (holds_box b7 25 (cl_25 t1)) tyAgg_25 tySize_25) ?_
   refine JL.pur (.agg #[.int .i64 0, .int .i64 2, .int .i64 t1.e0.Re, .int .i64 t1.e0.Im, .int .i64 t1.e0.Den, .int .i64 t1.e1.Re, .int .i64 t1.e1.Im, .int .i64 t1.e1.Den, .int .i64 t1.e2.Re, .int .i64 t1.e2.Im, .int .i64 t1.e2.Den, .int .i64 t1.e3.Re, .int .i64 t1.e3.Im, .int .i64 t1.e3.Den, .int .i64 0]) (some 145) ?_
   refine JL.buildSl 57 fl_Pol.kd (([(⟨0, 2, t1, 0⟩ : Pol)] : List Pol) : List Pol) [.int .i64 0, .int .i64 2, .int .i64 t1.e0.Re, .int .i64 t1.e0.Im, .int .i64 t1.e0.Den, .int .i64 t1.e1.Re, .int .i64 t1.e1.Im, .int .i64 t1.e1.Den, .int .i64 t1.e2.Re, .int .i64 t1.e2.Im, .int .i64 t1.e2.Den, .int .i64 t1.e3.Re, .int .i64 t1.e3.Im, .int .i64 t1.e3.Den, .int .i64 0] false (closes_fl rfl) fun b102 => ?_
   obtain ⟨t103, hc104, H0⟩ := bind_some H0
   refine JL.call [] [] [] (jones_Act.ok ([t1, t1] : List (A4 Cx)) (some ⟨b101, 0, none⟩) 2 ([(⟨0, 2, t1, 0⟩ : Pol)] : List Pol) (some ⟨b102, 0, none⟩) 1 _ hc104) ⟨pre_view 2 (view_row (some ⟨b101, 0, none⟩) 2 25 ((flArr4 fl_Cx).kd) ([t1, t1] : List (A4 Cx)) false true), ⟨pre_view 3 (view_row (some ⟨b102, 0, none⟩) 1 57 fl_Pol.kd ([(⟨0, 2, t1, 0⟩ : Pol)] : List Pol) false true), trivial⟩⟩ ?_
   rintro _ _ ⟨Aa105, c106, rfl, rfl⟩
   refine JL.mv (.tuple #[.slice Aa105 t103.1.length c106, .int .i64 t103.2]) ?_
   refine JL.pur (.slice Aa105 t103.1.length c106) (some 148) ?_
   refine JL.pur (.int .i64 t103.2) (some 149) ?_
   refine JL.as (.slice Aa105 t103.1.length c106) ?_
   refine JL.as (.int .i64 t103.2) ?_
   refine JL.nil ?_
   refine JQ.then_normal ?_
   refine JQ.sub [(1, .pointer (some ⟨b7, 0, none⟩)), (2, .pointer (some ⟨b8, 0, none⟩)), (5, .int .i64 t10.2), (7, .int .i64 t13.2), (9, .int .i64 t16.2), (11, .int .i64 t19.2), (13, .int .i64 t24.2), (15, .int .i64 t27.2), (17, .int .i64 t30.2), (19, .int .i64 t35.2), (21, .int .i64 t38.2), (23, .int .i64 t47.2), (25, .int .i64 t53.2), (27, .int .i64 t59.2), (29, .int .i64 t65.2), (31, .int .i64 n100), (33, .int .i64 t103.2)] ?_
   refine JQ.mask [At.box b7 25 (cl_25 t1), At.box b8 25 (cl_25 t3)] [true, true, false, false, false] ?_
   refine J.seq ?_
   refine J.region ?_
   refine JL.val (mv_25 t1) (some 151) (yields_load_boxes 0 0 (cl_25 t1) (holds_box b7 25 (cl_25 t1)) tyAgg_25 tySize_25) ?_
   refine JL.val (mv_25 t1) (some 152) (yields_load_boxes 0 0 (cl_25 t1) (holds_box b7 25 (cl_25 t1)) tyAgg_25 tySize_25) ?_
   refine JL.buildSl 25 ((flArr4 fl_Cx).kd) (([t1, t1] : List (A4 Cx)) : List (A4 Cx)) [.int .i64 t1.e0.Re, .int .i64 t1.e0.Im, .int .i64 t1.e0.Den, .int .i64 t1.e1.Re, .int .i64 t1.e1.Im, .int .i64 t1.e1.Den, .int .i64 t1.e2.Re, .int .i64 t1.e2.Im, .int .i64 t1.e2.Den, .int .i64 t1.e3.Re, .int .i64 t1.e3.Im, .int .i64 t1.e3.Den, .int .i64 t1.e0.Re, .int .i64 t1.e0.Im, .int .i64 t1.e0.Den, .int .i64 t1.e1.Re, .int .i64 t1.e1.Im, .int .i64 t1.e1.Den, .int .i64 t1.e2.Re, .int .i64 t1.e2.Im, .int .i64 t1.e2.Den, .int .i64 t1.e3.Re, .int .i64 t1.e3.Im, .int .i64 t1.e3.Den] false (closes_fl rfl) fun b108 => ?_
   refine JL.pur (.agg #[.int .i64 0, .int .i64 1, .int .i64 0, .int .i64 0, .int .i64 0, .int .i64 0, .int .i64 0, .int .i64 0, .int .i64 0, .int .i64 0, .int .i64 0, .int .i64 0, .int .i64 0, .int .i64 0, .int .i64 0]) (some 154) ?_
   refine JL.buildSl 57 fl_Pol.kd (([(⟨0, 1, (⟨(⟨0, 0, 0⟩ : Cx), (⟨0, 0, 0⟩ : Cx), (⟨0, 0, 0⟩ : Cx), (⟨0, 0, 0⟩ : Cx)⟩ : (A4 Cx)), 0⟩ : Pol)] : List Pol) : List Pol) [.int .i64 0, .int .i64 1, .int .i64 0, .int .i64 0, .int .i64 0, .int .i64 0, .int .i64 0, .int .i64 0, .int .i64 0, .int .i64 0, .int .i64 0, .int .i64 0, .int .i64 0, .int .i64 0, .int .i64 0] false (closes_fl rfl) fun b109 => ?_
   obtain ⟨t110, hc111, H0⟩ := bind_some H0
   refine JL.call [] [] [] (jones_Act.ok ([t1, t1] : List (A4 Cx)) (some ⟨b108, 0, none⟩) 2 ([(⟨0, 1, (⟨(⟨0, 0, 0⟩ : Cx), (⟨0, 0, 0⟩ : Cx), (⟨0, 0, 0⟩ : Cx), (⟨0, 0, 0⟩ : Cx)⟩ : (A4 Cx)), 0⟩ : Pol)] : List Pol) (some ⟨b109, 0, none⟩) 1 _ hc111) ⟨pre_view 2 (view_row (some ⟨b108, 0, none⟩) 2 25 ((flArr4 fl_Cx).kd) ([t1, t1] : List (A4 Cx)) false true), ⟨pre_view 3 (view_row (some ⟨b109, 0, none⟩) 1 57 fl_Pol.kd ([(⟨0, 1, (⟨(⟨0, 0, 0⟩ : Cx), (⟨0, 0, 0⟩ : Cx), (⟨0, 0, 0⟩ : Cx), (⟨0, 0, 0⟩ : Cx)⟩ : (A4 Cx)), 0⟩ : Pol)] : List Pol) false true), trivial⟩⟩ ?_
   rintro _ _ ⟨Aa112, c113, rfl, rfl⟩
   refine JL.mv (.tuple #[.slice Aa112 t110.1.length c113, .int .i64 t110.2]) ?_
   refine JL.pur (.slice Aa112 t110.1.length c113) (some 157) ?_
   refine JL.pur (.int .i64 t110.2) (some 158) ?_
   refine JL.as (.slice Aa112 t110.1.length c113) ?_
   refine JL.as (.int .i64 t110.2) ?_
   refine JL.nil ?_
   refine JQ.then_normal ?_
   refine JQ.sub [(1, .pointer (some ⟨b7, 0, none⟩)), (2, .pointer (some ⟨b8, 0, none⟩)), (5, .int .i64 t10.2), (7, .int .i64 t13.2), (9, .int .i64 t16.2), (11, .int .i64 t19.2), (13, .int .i64 t24.2), (15, .int .i64 t27.2), (17, .int .i64 t30.2), (19, .int .i64 t35.2), (21, .int .i64 t38.2), (23, .int .i64 t47.2), (25, .int .i64 t53.2), (27, .int .i64 t59.2), (29, .int .i64 t65.2), (31, .int .i64 n100), (33, .int .i64 t103.2), (35, .int .i64 t110.2)] ?_
   refine JQ.mask [At.box b7 25 (cl_25 t1), At.box b8 25 (cl_25 t3)] [true, true, false, false, false] ?_
   refine J.seq ?_
   refine J.region ?_
   refine JL.val (mv_25 t1) (some 159) (yields_load_boxes 0 0 (cl_25 t1) (holds_box b7 25 (cl_25 t1)) tyAgg_25 tySize_25) ?_
   refine JL.pur (.agg #[.int .i64 0, .int .i64 1, .int .i64 t1.e0.Re, .int .i64 t1.e0.Im, .int .i64 t1.e0.Den, .int .i64 t1.e1.Re, .int .i64 t1.e1.Im, .int .i64 t1.e1.Den, .int .i64 t1.e2.Re, .int .i64 t1.e2.Im, .int .i64 t1.e2.Den, .int .i64 t1.e3.Re, .int .i64 t1.e3.Im, .int .i64 t1.e3.Den, .int .i64 0]) (some 160) ?_
   refine JL.val (mv_25 t1) (some 161) (yields_load_boxes 0 0 (cl_25 t1) (holds_box b7 25 (cl_25 t1)) tyAgg_25 tySize_25) ?_
   refine JL.pur (.agg #[.int .i64 1, .int .i64 2, .int .i64 t1.e0.Re, .int .i64 t1.e0.Im, .int .i64 t1.e0.Den, .int .i64 t1.e1.Re, .int .i64 t1.e1.Im, .int .i64 t1.e1.Den, .int .i64 t1.e2.Re, .int .i64 t1.e2.Im, .int .i64 t1.e2.Den, .int .i64 t1.e3.Re, .int .i64 t1.e3.Im, .int .i64 t1.e3.Den, .int .i64 0]) (some 162) ?_
   refine JL.val (mv_25 t1) (some 163) (yields_load_boxes 0 0 (cl_25 t1) (holds_box b7 25 (cl_25 t1)) tyAgg_25 tySize_25) ?_
   refine JL.pur (.agg #[.int .i64 2, .int .i64 3, .int .i64 t1.e0.Re, .int .i64 t1.e0.Im, .int .i64 t1.e0.Den, .int .i64 t1.e1.Re, .int .i64 t1.e1.Im, .int .i64 t1.e1.Den, .int .i64 t1.e2.Re, .int .i64 t1.e2.Im, .int .i64 t1.e2.Den, .int .i64 t1.e3.Re, .int .i64 t1.e3.Im, .int .i64 t1.e3.Den, .int .i64 0]) (some 164) ?_
   refine JL.val (mv_25 t1) (some 165) (yields_load_boxes 0 0 (cl_25 t1) (holds_box b7 25 (cl_25 t1)) tyAgg_25 tySize_25) ?_
   refine JL.pur (.agg #[.int .i64 0, .int .i64 3, .int .i64 t1.e0.Re, .int .i64 t1.e0.Im, .int .i64 t1.e0.Den, .int .i64 t1.e1.Re, .int .i64 t1.e1.Im, .int .i64 t1.e1.Den, .int .i64 t1.e2.Re, .int .i64 t1.e2.Im, .int .i64 t1.e2.Den, .int .i64 t1.e3.Re, .int .i64 t1.e3.Im, .int .i64 t1.e3.Den, .int .i64 0]) (some 166) ?_
   refine JL.buildSl 57 fl_Pol.kd (([(⟨0, 1, t1, 0⟩ : Pol), (⟨1, 2, t1, 0⟩ : Pol), (⟨2, 3, t1, 0⟩ : Pol), (⟨0, 3, t1, 0⟩ : Pol)] : List Pol) : List Pol) [.int .i64 0, .int .i64 1, .int .i64 t1.e0.Re, .int .i64 t1.e0.Im, .int .i64 t1.e0.Den, .int .i64 t1.e1.Re, .int .i64 t1.e1.Im, .int .i64 t1.e1.Den, .int .i64 t1.e2.Re, .int .i64 t1.e2.Im, .int .i64 t1.e2.Den, .int .i64 t1.e3.Re, .int .i64 t1.e3.Im, .int .i64 t1.e3.Den, .int .i64 0, .int .i64 1, .int .i64 2, .int .i64 t1.e0.Re, .int .i64 t1.e0.Im, .int .i64 t1.e0.Den, .int .i64 t1.e1.Re, .int .i64 t1.e1.Im, .int .i64 t1.e1.Den, .int .i64 t1.e2.Re, .int .i64 t1.e2.Im, .int .i64 t1.e2.Den, .int .i64 t1.e3.Re, .int .i64 t1.e3.Im, .int .i64 t1.e3.Den, .int .i64 0, .int .i64 2, .int .i64 3, .int .i64 t1.e0.Re, .int .i64 t1.e0.Im, .int .i64 t1.e0.Den, .int .i64 t1.e1.Re, .int .i64 t1.e1.Im, .int .i64 t1.e1.Den, .int .i64 t1.e2.Re, .int .i64 t1.e2.Im, .int .i64 t1.e2.Den, .int .i64 t1.e3.Re, .int .i64 t1.e3.Im, .int .i64 t1.e3.Den, .int .i64 0, .int .i64 0, .int .i64 3, .int .i64 t1.e0.Re, .int .i64 t1.e0.Im, .int .i64 t1.e0.Den, .int .i64 t1.e1.Re, .int .i64 t1.e1.Im, .int .i64 t1.e1.Den, .int .i64 t1.e2.Re, .int .i64 t1.e2.Im, .int .i64 t1.e2.Den, .int .i64 t1.e3.Re, .int .i64 t1.e3.Im, .int .i64 t1.e3.Den, .int .i64 0] false (closes_fl rfl) fun b115 => ?_
   refine JL.as (.slice (some ⟨b115, 0, none⟩) ([(⟨0, 1, t1, 0⟩ : Pol), (⟨1, 2, t1, 0⟩ : Pol), (⟨2, 3, t1, 0⟩ : Pol), (⟨0, 3, t1, 0⟩ : Pol)] : List Pol).length 4) ?_
   refine JL.nil ?_
   refine JQ.then_normal ?_
   refine JQ.sub [(1, .pointer (some ⟨b7, 0, none⟩)), (2, .pointer (some ⟨b8, 0, none⟩)), (5, .int .i64 t10.2), (7, .int .i64 t13.2), (9, .int .i64 t16.2), (11, .int .i64 t19.2), (13, .int .i64 t24.2), (15, .int .i64 t27.2), (17, .int .i64 t30.2), (19, .int .i64 t35.2), (21, .int .i64 t38.2), (23, .int .i64 t47.2), (25, .int .i64 t53.2), (27, .int .i64 t59.2), (29, .int .i64 t65.2), (31, .int .i64 n100), (33, .int .i64 t103.2), (35, .int .i64 t110.2), (36, .slice (some ⟨b115, 0, none⟩) ([(⟨0, 1, t1, 0⟩ : Pol), (⟨1, 2, t1, 0⟩ : Pol), (⟨2, 3, t1, 0⟩ : Pol), (⟨0, 3, t1, 0⟩ : Pol)] : List Pol).length 4)] ?_
   refine J.seq ?_
   refine J.region ?_
   refine JL.mv (.slice (some ⟨b115, 0, none⟩) ([(⟨0, 1, t1, 0⟩ : Pol), (⟨1, 2, t1, 0⟩ : Pol), (⟨2, 3, t1, 0⟩ : Pol), (⟨0, 3, t1, 0⟩ : Pol)] : List Pol).length 4) ?_
   obtain ⟨t116, hc117, H0⟩ := bind_some H0
   refine JL.call [] [] [] (jones_Loop.ok ([(⟨0, 1, t1, 0⟩ : Pol), (⟨1, 2, t1, 0⟩ : Pol), (⟨2, 3, t1, 0⟩ : Pol), (⟨0, 3, t1, 0⟩ : Pol)] : List Pol) (some ⟨b115, 0, none⟩) 4 0 1 2 3 _ hc117) ⟨pre_view 2 (view_row (some ⟨b115, 0, none⟩) 4 57 fl_Pol.kd ([(⟨0, 1, t1, 0⟩ : Pol), (⟨1, 2, t1, 0⟩ : Pol), (⟨2, 3, t1, 0⟩ : Pol), (⟨0, 3, t1, 0⟩ : Pol)] : List Pol) false true), trivial⟩ ?_
   rintro _ _ ⟨rfl, rfl⟩
   refine JL.mv (.tuple #[mv_25 t116.1, .int .i64 t116.2]) ?_
   refine JL.pur (mv_25 t116.1) (some 171) ?_
   refine JL.pur (.int .i64 t116.2) (some 172) ?_
   refine JL.alloc (cl_25 zv_25) fun b118 => ?_
   refine JL.store 3 b118 0 25 (cl_25 zv_25) (cl_25 t116.1) tySize_25 ?_
   refine JL.as (.int .i64 t116.2) ?_
   refine JL.nil ?_
   refine JQ.then_normal ?_
   refine JQ.sub [(1, .pointer (some ⟨b7, 0, none⟩)), (2, .pointer (some ⟨b8, 0, none⟩)), (5, .int .i64 t10.2), (7, .int .i64 t13.2), (9, .int .i64 t16.2), (11, .int .i64 t19.2), (13, .int .i64 t24.2), (15, .int .i64 t27.2), (17, .int .i64 t30.2), (19, .int .i64 t35.2), (21, .int .i64 t38.2), (23, .int .i64 t47.2), (25, .int .i64 t53.2), (27, .int .i64 t59.2), (29, .int .i64 t65.2), (31, .int .i64 n100), (33, .int .i64 t103.2), (35, .int .i64 t110.2), (36, .slice (some ⟨b115, 0, none⟩) ([(⟨0, 1, t1, 0⟩ : Pol), (⟨1, 2, t1, 0⟩ : Pol), (⟨2, 3, t1, 0⟩ : Pol), (⟨0, 3, t1, 0⟩ : Pol)] : List Pol).length 4), (37, .pointer (some ⟨b118, 0, none⟩)), (38, .int .i64 t116.2)] ?_
   refine J.seq ?_
   refine J.region ?_
   refine JL.mv (.slice (some ⟨b115, 0, none⟩) ([(⟨0, 1, t1, 0⟩ : Pol), (⟨1, 2, t1, 0⟩ : Pol), (⟨2, 3, t1, 0⟩ : Pol), (⟨0, 3, t1, 0⟩ : Pol)] : List Pol).length 4) ?_
   obtain ⟨t119, hc120, H0⟩ := bind_some H0
   refine JL.call [] [] [] (jones_Loop.ok ([(⟨0, 1, t1, 0⟩ : Pol), (⟨1, 2, t1, 0⟩ : Pol), (⟨2, 3, t1, 0⟩ : Pol), (⟨0, 3, t1, 0⟩ : Pol)] : List Pol) (some ⟨b115, 0, none⟩) 4 0 1 3 2 _ hc120) ⟨pre_view 2 (view_row (some ⟨b115, 0, none⟩) 4 57 fl_Pol.kd ([(⟨0, 1, t1, 0⟩ : Pol), (⟨1, 2, t1, 0⟩ : Pol), (⟨2, 3, t1, 0⟩ : Pol), (⟨0, 3, t1, 0⟩ : Pol)] : List Pol) false true), trivial⟩ ?_
   rintro _ _ ⟨rfl, rfl⟩
   refine JL.mv (.tuple #[mv_25 t119.1, .int .i64 t119.2]) ?_
   refine JL.pur (mv_25 t119.1) (some 176) ?_
   refine JL.pur (.int .i64 t119.2) (some 177) ?_
   refine JL.alloc (cl_25 zv_25) fun b121 => ?_
   refine JL.store 4 b121 0 25 (cl_25 zv_25) (cl_25 t119.1) tySize_25 ?_
   refine JL.as (.int .i64 t119.2) ?_
   refine JL.nil ?_
   refine JQ.then_normal ?_
   refine JQ.sub [(1, .pointer (some ⟨b7, 0, none⟩)), (2, .pointer (some ⟨b8, 0, none⟩)), (5, .int .i64 t10.2), (7, .int .i64 t13.2), (9, .int .i64 t16.2), (11, .int .i64 t19.2), (13, .int .i64 t24.2), (15, .int .i64 t27.2), (17, .int .i64 t30.2), (19, .int .i64 t35.2), (21, .int .i64 t38.2), (23, .int .i64 t47.2), (25, .int .i64 t53.2), (27, .int .i64 t59.2), (29, .int .i64 t65.2), (31, .int .i64 n100), (33, .int .i64 t103.2), (35, .int .i64 t110.2), (36, .slice (some ⟨b115, 0, none⟩) ([(⟨0, 1, t1, 0⟩ : Pol), (⟨1, 2, t1, 0⟩ : Pol), (⟨2, 3, t1, 0⟩ : Pol), (⟨0, 3, t1, 0⟩ : Pol)] : List Pol).length 4), (37, .pointer (some ⟨b118, 0, none⟩)), (38, .int .i64 t116.2), (40, .int .i64 t119.2)] ?_
   refine JQ.mask [At.box b7 25 (cl_25 t1), At.box b8 25 (cl_25 t3), At.row (some ⟨b115, 0, none⟩) 4 57 fl_Pol.kd ([(⟨0, 1, t1, 0⟩ : Pol), (⟨1, 2, t1, 0⟩ : Pol), (⟨2, 3, t1, 0⟩ : Pol), (⟨0, 3, t1, 0⟩ : Pol)] : List Pol) false, At.box b118 25 (cl_25 t116.1)] [true, true, true, true, false] ?_
   refine J.seq ?_
   refine J.region ?_
   refine JL.mv (.slice (some ⟨b115, 0, none⟩) ([(⟨0, 1, t1, 0⟩ : Pol), (⟨1, 2, t1, 0⟩ : Pol), (⟨2, 3, t1, 0⟩ : Pol), (⟨0, 3, t1, 0⟩ : Pol)] : List Pol).length 4) ?_
   obtain ⟨t122, hc123, H0⟩ := bind_some H0
   refine JL.call [] [] [] (jones_Loop.ok ([(⟨0, 1, t1, 0⟩ : Pol), (⟨1, 2, t1, 0⟩ : Pol), (⟨2, 3, t1, 0⟩ : Pol), (⟨0, 3, t1, 0⟩ : Pol)] : List Pol) (some ⟨b115, 0, none⟩) 4 0 1 2 2 _ hc123) ⟨pre_view 2 (view_row (some ⟨b115, 0, none⟩) 4 57 fl_Pol.kd ([(⟨0, 1, t1, 0⟩ : Pol), (⟨1, 2, t1, 0⟩ : Pol), (⟨2, 3, t1, 0⟩ : Pol), (⟨0, 3, t1, 0⟩ : Pol)] : List Pol) false true), trivial⟩ ?_
   rintro _ _ ⟨rfl, rfl⟩
   refine JL.mv (.tuple #[mv_25 t122.1, .int .i64 t122.2]) ?_
   refine JL.pur (mv_25 t122.1) (some 181) ?_
   refine JL.pur (.int .i64 t122.2) (some 182) ?_
   refine JL.alloc (cl_25 zv_25) fun b124 => ?_
   refine JL.store 4 b124 0 25 (cl_25 zv_25) (cl_25 t122.1) tySize_25 ?_
   refine JL.as (.int .i64 t122.2) ?_
   refine JL.nil ?_
   refine JQ.then_normal ?_
   refine JQ.sub [(1, .pointer (some ⟨b7, 0, none⟩)), (2, .pointer (some ⟨b8, 0, none⟩)), (5, .int .i64 t10.2), (7, .int .i64 t13.2), (9, .int .i64 t16.2), (11, .int .i64 t19.2), (13, .int .i64 t24.2), (15, .int .i64 t27.2), (17, .int .i64 t30.2), (19, .int .i64 t35.2), (21, .int .i64 t38.2), (23, .int .i64 t47.2), (25, .int .i64 t53.2), (27, .int .i64 t59.2), (29, .int .i64 t65.2), (31, .int .i64 n100), (33, .int .i64 t103.2), (35, .int .i64 t110.2), (36, .slice (some ⟨b115, 0, none⟩) ([(⟨0, 1, t1, 0⟩ : Pol), (⟨1, 2, t1, 0⟩ : Pol), (⟨2, 3, t1, 0⟩ : Pol), (⟨0, 3, t1, 0⟩ : Pol)] : List Pol).length 4), (37, .pointer (some ⟨b118, 0, none⟩)), (38, .int .i64 t116.2), (40, .int .i64 t119.2), (42, .int .i64 t122.2)] ?_
   refine JQ.mask [At.box b7 25 (cl_25 t1), At.box b8 25 (cl_25 t3), At.row (some ⟨b115, 0, none⟩) 4 57 fl_Pol.kd ([(⟨0, 1, t1, 0⟩ : Pol), (⟨1, 2, t1, 0⟩ : Pol), (⟨2, 3, t1, 0⟩ : Pol), (⟨0, 3, t1, 0⟩ : Pol)] : List Pol) false, At.box b118 25 (cl_25 t116.1)] [true, true, true, true, false] ?_
   refine J.seq ?_
   refine J.region ?_
   refine JL.mv (.slice (some ⟨b115, 0, none⟩) ([(⟨0, 1, t1, 0⟩ : Pol), (⟨1, 2, t1, 0⟩ : Pol), (⟨2, 3, t1, 0⟩ : Pol), (⟨0, 3, t1, 0⟩ : Pol)] : List Pol).length 4) ?_
   obtain ⟨t125, hc126, H0⟩ := bind_some H0
   refine JL.call [] [] [] (jones_Loop.ok ([(⟨0, 1, t1, 0⟩ : Pol), (⟨1, 2, t1, 0⟩ : Pol), (⟨2, 3, t1, 0⟩ : Pol), (⟨0, 3, t1, 0⟩ : Pol)] : List Pol) (some ⟨b115, 0, none⟩) 4 0 1 2 8 _ hc126) ⟨pre_view 2 (view_row (some ⟨b115, 0, none⟩) 4 57 fl_Pol.kd ([(⟨0, 1, t1, 0⟩ : Pol), (⟨1, 2, t1, 0⟩ : Pol), (⟨2, 3, t1, 0⟩ : Pol), (⟨0, 3, t1, 0⟩ : Pol)] : List Pol) false true), trivial⟩ ?_
   rintro _ _ ⟨rfl, rfl⟩
   refine JL.mv (.tuple #[mv_25 t125.1, .int .i64 t125.2]) ?_
   refine JL.pur (mv_25 t125.1) (some 186) ?_
   refine JL.pur (.int .i64 t125.2) (some 187) ?_
   refine JL.alloc (cl_25 zv_25) fun b127 => ?_
   refine JL.store 4 b127 0 25 (cl_25 zv_25) (cl_25 t125.1) tySize_25 ?_
   refine JL.as (.int .i64 t125.2) ?_
   refine JL.nil ?_
   refine JQ.then_normal ?_
   refine JQ.sub [(1, .pointer (some ⟨b7, 0, none⟩)), (2, .pointer (some ⟨b8, 0, none⟩)), (5, .int .i64 t10.2), (7, .int .i64 t13.2), (9, .int .i64 t16.2), (11, .int .i64 t19.2), (13, .int .i64 t24.2), (15, .int .i64 t27.2), (17, .int .i64 t30.2), (19, .int .i64 t35.2), (21, .int .i64 t38.2), (23, .int .i64 t47.2), (25, .int .i64 t53.2), (27, .int .i64 t59.2), (29, .int .i64 t65.2), (31, .int .i64 n100), (33, .int .i64 t103.2), (35, .int .i64 t110.2), (36, .slice (some ⟨b115, 0, none⟩) ([(⟨0, 1, t1, 0⟩ : Pol), (⟨1, 2, t1, 0⟩ : Pol), (⟨2, 3, t1, 0⟩ : Pol), (⟨0, 3, t1, 0⟩ : Pol)] : List Pol).length 4), (37, .pointer (some ⟨b118, 0, none⟩)), (38, .int .i64 t116.2), (40, .int .i64 t119.2), (42, .int .i64 t122.2), (44, .int .i64 t125.2)] ?_
   refine JQ.mask [At.box b7 25 (cl_25 t1), At.box b8 25 (cl_25 t3), At.row (some ⟨b115, 0, none⟩) 4 57 fl_Pol.kd ([(⟨0, 1, t1, 0⟩ : Pol), (⟨1, 2, t1, 0⟩ : Pol), (⟨2, 3, t1, 0⟩ : Pol), (⟨0, 3, t1, 0⟩ : Pol)] : List Pol) false, At.box b118 25 (cl_25 t116.1)] [true, true, true, true, false] ?_
   refine J.seq ?_
   refine J.region ?_
   refine JL.mv (.slice (some ⟨b115, 0, none⟩) ([(⟨0, 1, t1, 0⟩ : Pol), (⟨1, 2, t1, 0⟩ : Pol), (⟨2, 3, t1, 0⟩ : Pol), (⟨0, 3, t1, 0⟩ : Pol)] : List Pol).length 4) ?_
   refine JL.mv (.slice (some ⟨b115, 0, none⟩) ([(⟨0, 1, t1, 0⟩ : Pol), (⟨1, 2, t1, 0⟩ : Pol), (⟨2, 3, t1, 0⟩ : Pol), (⟨0, 3, t1, 0⟩ : Pol)] : List Pol).length 4) ?_
   obtain ⟨⟨h128, h129⟩, H0⟩ := ite_must H0
   refine JL.ixAddr' 2 15 4 .i64 (elems_row (some ⟨b115, 0, none⟩) 4 57 fl_Pol.kd ([(⟨0, 1, t1, 0⟩ : Pol), (⟨1, 2, t1, 0⟩ : Pol), (⟨2, 3, t1, 0⟩ : Pol), (⟨0, 3, t1, 0⟩ : Pol)] : List Pol) false) Try.underlying39 tySize_57 h128 h129 ?_
   refine JL.val (mv_57 (ix ([(⟨0, 1, t1, 0⟩ : Pol), (⟨1, 2, t1, 0⟩ : Pol), (⟨2, 3, t1, 0⟩ : Pol), (⟨0, 3, t1, 0⟩ : Pol)] : List Pol) 0)) (some 192) (gives_loadEl (f := fl_Pol) 2 0 0 (elems_row (some ⟨b115, 0, none⟩) 4 57 fl_Pol.kd ([(⟨0, 1, t1, 0⟩ : Pol), (⟨1, 2, t1, 0⟩ : Pol), (⟨2, 3, t1, 0⟩ : Pol), (⟨0, 3, t1, 0⟩ : Pol)] : List Pol) false) h128 h129 tySize_57 (.inl ⟨tyAgg_57, rfl⟩)) ?_
   refine JL.buildSl 57 fl_Pol.kd (([(ix ([(⟨0, 1, t1, 0⟩ : Pol), (⟨1, 2, t1, 0⟩ : Pol), (⟨2, 3, t1, 0⟩ : Pol), (⟨0, 3, t1, 0⟩ : Pol)] : List Pol) 0)] : List Pol) : List Pol) [.int .i64 ((ix ([(⟨0, 1, t1, 0⟩ : Pol), (⟨1, 2, t1, 0⟩ : Pol), (⟨2, 3, t1, 0⟩ : Pol), (⟨0, 3, t1, 0⟩ : Pol)] : List Pol) 0).I), .int .i64 ((ix ([(⟨0, 1, t1, 0⟩ : Pol), (⟨1, 2, t1, 0⟩ : Pol), (⟨2, 3, t1, 0⟩ : Pol), (⟨0, 3, t1, 0⟩ : Pol)] : List Pol) 0).J), .int .i64 ((ix ([(⟨0, 1, t1, 0⟩ : Pol), (⟨1, 2, t1, 0⟩ : Pol), (⟨2, 3, t1, 0⟩ : Pol), (⟨0, 3, t1, 0⟩ : Pol)] : List Pol) 0).V.e0.Re), .int .i64 ((ix ([(⟨0, 1, t1, 0⟩ : Pol), (⟨1, 2, t1, 0⟩ : Pol), (⟨2, 3, t1, 0⟩ : Pol), (⟨0, 3, t1, 0⟩ : Pol)] : List Pol) 0).V.e0.Im), .int .i64 ((ix ([(⟨0, 1, t1, 0⟩ : Pol), (⟨1, 2, t1, 0⟩ : Pol), (⟨2, 3, t1, 0⟩ : Pol), (⟨0, 3, t1, 0⟩ : Pol)] : List Pol) 0).V.e0.Den), .int .i64 ((ix ([(⟨0, 1, t1, 0⟩ : Pol), (⟨1, 2, t1, 0⟩ : Pol), (⟨2, 3, t1, 0⟩ : Pol), (⟨0, 3, t1, 0⟩ : Pol)] : List Pol) 0).V.e1.Re), .int .i64 ((ix ([(⟨0, 1, t1, 0⟩ : Pol), (⟨1, 2, t1, 0⟩ : Pol), (⟨2, 3, t1, 0⟩ : Pol), (⟨0, 3, t1, 0⟩ : Pol)] : List Pol) 0).V.e1.Im), .int .i64 ((ix ([(⟨0, 1, t1, 0⟩ : Pol), (⟨1, 2, t1, 0⟩ : Pol), (⟨2, 3, t1, 0⟩ : Pol), (⟨0, 3, t1, 0⟩ : Pol)] : List Pol) 0).V.e1.Den), .int .i64 ((ix ([(⟨0, 1, t1, 0⟩ : Pol), (⟨1, 2, t1, 0⟩ : Pol), (⟨2, 3, t1, 0⟩ : Pol), (⟨0, 3, t1, 0⟩ : Pol)] : List Pol) 0).V.e2.Re), .int .i64 ((ix ([(⟨0, 1, t1, 0⟩ : Pol), (⟨1, 2, t1, 0⟩ : Pol), (⟨2, 3, t1, 0⟩ : Pol), (⟨0, 3, t1, 0⟩ : Pol)] : List Pol) 0).V.e2.Im), .int .i64 ((ix ([(⟨0, 1, t1, 0⟩ : Pol), (⟨1, 2, t1, 0⟩ : Pol), (⟨2, 3, t1, 0⟩ : Pol), (⟨0, 3, t1, 0⟩ : Pol)] : List Pol) 0).V.e2.Den), .int .i64 ((ix ([(⟨0, 1, t1, 0⟩ : Pol), (⟨1, 2, t1, 0⟩ : Pol), (⟨2, 3, t1, 0⟩ : Pol), (⟨0, 3, t1, 0⟩ : Pol)] : List Pol) 0).V.e3.Re), .int .i64 ((ix ([(⟨0, 1, t1, 0⟩ : Pol), (⟨1, 2, t1, 0⟩ : Pol), (⟨2, 3, t1, 0⟩ : Pol), (⟨0, 3, t1, 0⟩ : Pol)] : List Pol) 0).V.e3.Im), .int .i64 ((ix ([(⟨0, 1, t1, 0⟩ : Pol), (⟨1, 2, t1, 0⟩ : Pol), (⟨2, 3, t1, 0⟩ : Pol), (⟨0, 3, t1, 0⟩ : Pol)] : List Pol) 0).V.e3.Den), .int .i64 ((ix ([(⟨0, 1, t1, 0⟩ : Pol), (⟨1, 2, t1, 0⟩ : Pol), (⟨2, 3, t1, 0⟩ : Pol), (⟨0, 3, t1, 0⟩ : Pol)] : List Pol) 0).N)] false (closes_fl rfl) fun b132 => ?_
   obtain ⟨h136, H0⟩ := ite_must H0
   refine JL.appendFull (f := fl_Pol) 2 4 4 1 (elems_row (some ⟨b115, 0, none⟩) 4 57 fl_Pol.kd ([(⟨0, 1, t1, 0⟩ : Pol), (⟨1, 2, t1, 0⟩ : Pol), (⟨2, 3, t1, 0⟩ : Pol), (⟨0, 3, t1, 0⟩ : Pol)] : List Pol) false) (elems_row (some ⟨b132, 0, none⟩) 1 57 fl_Pol.kd ([(ix ([(⟨0, 1, t1, 0⟩ : Pol), (⟨1, 2, t1, 0⟩ : Pol), (⟨2, 3, t1, 0⟩ : Pol), (⟨0, 3, t1, 0⟩ : Pol)] : List Pol) 0)] : List Pol) false) Try.underlying39 info_57 (by omega) (by omega) fun Aa133 c134 => ?_
   obtain ⟨t137, hc138, H0⟩ := bind_some H0
   refine JL.call [] [] [] (jones_Loop.ok (([(⟨0, 1, t1, 0⟩ : Pol), (⟨1, 2, t1, 0⟩ : Pol), (⟨2, 3, t1, 0⟩ : Pol), (⟨0, 3, t1, 0⟩ : Pol)] : List Pol) ++ ([(ix ([(⟨0, 1, t1, 0⟩ : Pol), (⟨1, 2, t1, 0⟩ : Pol), (⟨2, 3, t1, 0⟩ : Pol), (⟨0, 3, t1, 0⟩ : Pol)] : List Pol) 0)] : List Pol)) Aa133 c134 0 1 2 3 _ hc138) ⟨pre_view 5 (view_row Aa133 c134 57 fl_Pol.kd (([(⟨0, 1, t1, 0⟩ : Pol), (⟨1, 2, t1, 0⟩ : Pol), (⟨2, 3, t1, 0⟩ : Pol), (⟨0, 3, t1, 0⟩ : Pol)] : List Pol) ++ ([(ix ([(⟨0, 1, t1, 0⟩ : Pol), (⟨1, 2, t1, 0⟩ : Pol), (⟨2, 3, t1, 0⟩ : Pol), (⟨0, 3, t1, 0⟩ : Pol)] : List Pol) 0)] : List Pol)) false true), trivial⟩ ?_
   rintro _ _ ⟨rfl, rfl⟩
   refine JL.mv (.tuple #[mv_25 t137.1, .int .i64 t137.2]) ?_
   refine JL.pur (mv_25 t137.1) (some 196) ?_
   refine JL.pur (.int .i64 t137.2) (some 197) ?_
   refine JL.alloc (cl_25 zv_25) fun b139 => ?_
   refine JL.store 6 b139 0 25 (cl_25 zv_25) (cl_25 t137.1) tySize_25 ?_
   refine JL.as (.int .i64 t137.2) ?_
   refine JL.nil ?_
   refine JQ.then_normal ?_
   refine JQ.sub [(1, .pointer (some ⟨b7, 0, none⟩)), (2, .pointer (some ⟨b8, 0, none⟩)), (5, .int .i64 t10.2), (7, .int .i64 t13.2), (9, .int .i64 t16.2), (11, .int .i64 t19.2), (13, .int .i64 t24.2), (15, .int .i64 t27.2), (17, .int .i64 t30.2), (19, .int .i64 t35.2), (21, .int .i64 t38.2), (23, .int .i64 t47.2), (25, .int .i64 t53.2), (27, .int .i64 t59.2), (29, .int .i64 t65.2), (31, .int .i64 n100), (33, .int .i64 t103.2), (35, .int .i64 t110.2), (36, .slice (some ⟨b115, 0, none⟩) ([(⟨0, 1, t1, 0⟩ : Pol), (⟨1, 2, t1, 0⟩ : Pol), (⟨2, 3, t1, 0⟩ : Pol), (⟨0, 3, t1, 0⟩ : Pol)] : List Pol).length 4), (37, .pointer (some ⟨b118, 0, none⟩)), (38, .int .i64 t116.2), (40, .int .i64 t119.2), (42, .int .i64 t122.2), (44, .int .i64 t125.2), (46, .int .i64 t137.2)] ?_
   refine JQ.mask [At.box b7 25 (cl_25 t1), At.box b8 25 (cl_25 t3), At.row (some ⟨b115, 0, none⟩) 4 57 fl_Pol.kd ([(⟨0, 1, t1, 0⟩ : Pol), (⟨1, 2, t1, 0⟩ : Pol), (⟨2, 3, t1, 0⟩ : Pol), (⟨0, 3, t1, 0⟩ : Pol)] : List Pol) false, At.box b118 25 (cl_25 t116.1)] [true, true, true, true, false, false, false] ?_
   refine J.seq ?_
   refine J.region ?_
   obtain ⟨⟨h141, h142, h143⟩, H0⟩ := ite_must H0
   refine JL.makeSl 57 fl_Pol.kd ((⟨0, 0, (⟨(⟨0, 0, 0⟩ : Cx), (⟨0, 0, 0⟩ : Cx), (⟨0, 0, 0⟩ : Cx), (⟨0, 0, 0⟩ : Cx)⟩ : (A4 Cx)), 0⟩ : Pol) : Pol) Try.underlying39 info_57 (fun _ _ => rfl) h141 h142 (by omega) (by omega) fun b140 => ?_
   obtain ⟨t144, hc145, H0⟩ := bind_some H0
   refine JL.call [] [] [] (jones_Loop.ok (List.replicate (65 : Int).toNat ((⟨0, 0, (⟨(⟨0, 0, 0⟩ : Cx), (⟨0, 0, 0⟩ : Cx), (⟨0, 0, 0⟩ : Cx), (⟨0, 0, 0⟩ : Cx)⟩ : (A4 Cx)), 0⟩ : Pol) : Pol)) (some ⟨b140, 0, none⟩) ((65 : Int).toNat) 0 1 2 3 _ hc145) ⟨pre_view 4 (view_row (some ⟨b140, 0, none⟩) ((65 : Int).toNat) 57 fl_Pol.kd (List.replicate (65 : Int).toNat ((⟨0, 0, (⟨(⟨0, 0, 0⟩ : Cx), (⟨0, 0, 0⟩ : Cx), (⟨0, 0, 0⟩ : Cx), (⟨0, 0, 0⟩ : Cx)⟩ : (A4 Cx)), 0⟩ : Pol) : Pol)) false true), trivial⟩ ?_
   rintro _ _ ⟨rfl, rfl⟩
   refine JL.mv (.tuple #[mv_25 t144.1, .int .i64 t144.2]) ?_
   refine JL.pur (mv_25 t144.1) (some 201) ?_
   refine JL.pur (.int .i64 t144.2) (some 202) ?_
   refine JL.alloc (cl_25 zv_25) fun b146 => ?_
   refine JL.store 5 b146 0 25 (cl_25 zv_25) (cl_25 t144.1) tySize_25 ?_
   refine JL.as (.int .i64 t144.2) ?_
   refine JL.nil ?_
   refine JQ.then_normal ?_
   refine JQ.sub [(1, .pointer (some ⟨b7, 0, none⟩)), (2, .pointer (some ⟨b8, 0, none⟩)), (5, .int .i64 t10.2), (7, .int .i64 t13.2), (9, .int .i64 t16.2), (11, .int .i64 t19.2), (13, .int .i64 t24.2), (15, .int .i64 t27.2), (17, .int .i64 t30.2), (19, .int .i64 t35.2), (21, .int .i64 t38.2), (23, .int .i64 t47.2), (25, .int .i64 t53.2), (27, .int .i64 t59.2), (29, .int .i64 t65.2), (31, .int .i64 n100), (33, .int .i64 t103.2), (35, .int .i64 t110.2), (36, .slice (some ⟨b115, 0, none⟩) ([(⟨0, 1, t1, 0⟩ : Pol), (⟨1, 2, t1, 0⟩ : Pol), (⟨2, 3, t1, 0⟩ : Pol), (⟨0, 3, t1, 0⟩ : Pol)] : List Pol).length 4), (37, .pointer (some ⟨b118, 0, none⟩)), (38, .int .i64 t116.2), (40, .int .i64 t119.2), (42, .int .i64 t122.2), (44, .int .i64 t125.2), (46, .int .i64 t137.2), (48, .int .i64 t144.2)] ?_
   refine JQ.mask [At.box b7 25 (cl_25 t1), At.box b8 25 (cl_25 t3), At.row (some ⟨b115, 0, none⟩) 4 57 fl_Pol.kd ([(⟨0, 1, t1, 0⟩ : Pol), (⟨1, 2, t1, 0⟩ : Pol), (⟨2, 3, t1, 0⟩ : Pol), (⟨0, 3, t1, 0⟩ : Pol)] : List Pol) false, At.box b118 25 (cl_25 t116.1)] [true, true, true, true, false, false] ?_
   refine J.seq ?_
   refine J.region ?_
   refine JL.val (mv_25 t1) (some 204) (yields_load_boxes 0 0 (cl_25 t1) (holds_box b7 25 (cl_25 t1)) tyAgg_25 tySize_25) ?_
   refine JL.pur (.agg #[.int .i64 0, .int .i64 8, .int .i64 t1.e0.Re, .int .i64 t1.e0.Im, .int .i64 t1.e0.Den, .int .i64 t1.e1.Re, .int .i64 t1.e1.Im, .int .i64 t1.e1.Den, .int .i64 t1.e2.Re, .int .i64 t1.e2.Im, .int .i64 t1.e2.Den, .int .i64 t1.e3.Re, .int .i64 t1.e3.Im, .int .i64 t1.e3.Den, .int .i64 0]) (some 205) ?_
   refine JL.buildSl 57 fl_Pol.kd (([(⟨0, 8, t1, 0⟩ : Pol)] : List Pol) : List Pol) [.int .i64 0, .int .i64 8, .int .i64 t1.e0.Re, .int .i64 t1.e0.Im, .int .i64 t1.e0.Den, .int .i64 t1.e1.Re, .int .i64 t1.e1.Im, .int .i64 t1.e1.Den, .int .i64 t1.e2.Re, .int .i64 t1.e2.Im, .int .i64 t1.e2.Den, .int .i64 t1.e3.Re, .int .i64 t1.e3.Im, .int .i64 t1.e3.Den, .int .i64 0] false (closes_fl rfl) fun b147 => ?_
   obtain ⟨t148, hc149, H0⟩ := bind_some H0
   refine JL.call [] [] [] (jones_Loop.ok ([(⟨0, 8, t1, 0⟩ : Pol)] : List Pol) (some ⟨b147, 0, none⟩) 1 0 1 2 3 _ hc149) ⟨pre_view 4 (view_row (some ⟨b147, 0, none⟩) 1 57 fl_Pol.kd ([(⟨0, 8, t1, 0⟩ : Pol)] : List Pol) false true), trivial⟩ ?_
   rintro _ _ ⟨rfl, rfl⟩
   refine JL.mv (.tuple #[mv_25 t148.1, .int .i64 t148.2]) ?_
   refine JL.pur (mv_25 t148.1) (some 208) ?_
   refine JL.pur (.int .i64 t148.2) (some 209) ?_
   refine JL.alloc (cl_25 zv_25) fun b150 => ?_
   refine JL.store 5 b150 0 25 (cl_25 zv_25) (cl_25 t148.1) tySize_25 ?_
   refine JL.as (.int .i64 t148.2) ?_
   refine JL.nil ?_
   refine JQ.then_normal ?_
   refine JQ.sub [(1, .pointer (some ⟨b7, 0, none⟩)), (2, .pointer (some ⟨b8, 0, none⟩)), (5, .int .i64 t10.2), (7, .int .i64 t13.2), (9, .int .i64 t16.2), (11, .int .i64 t19.2), (13, .int .i64 t24.2), (15, .int .i64 t27.2), (17, .int .i64 t30.2), (19, .int .i64 t35.2), (21, .int .i64 t38.2), (23, .int .i64 t47.2), (25, .int .i64 t53.2), (27, .int .i64 t59.2), (29, .int .i64 t65.2), (31, .int .i64 n100), (33, .int .i64 t103.2), (35, .int .i64 t110.2), (36, .slice (some ⟨b115, 0, none⟩) ([(⟨0, 1, t1, 0⟩ : Pol), (⟨1, 2, t1, 0⟩ : Pol), (⟨2, 3, t1, 0⟩ : Pol), (⟨0, 3, t1, 0⟩ : Pol)] : List Pol).length 4), (37, .pointer (some ⟨b118, 0, none⟩)), (38, .int .i64 t116.2), (40, .int .i64 t119.2), (42, .int .i64 t122.2), (44, .int .i64 t125.2), (46, .int .i64 t137.2), (48, .int .i64 t144.2), (50, .int .i64 t148.2)] ?_
   refine JQ.mask [At.box b7 25 (cl_25 t1), At.box b8 25 (cl_25 t3), At.row (some ⟨b115, 0, none⟩) 4 57 fl_Pol.kd ([(⟨0, 1, t1, 0⟩ : Pol), (⟨1, 2, t1, 0⟩ : Pol), (⟨2, 3, t1, 0⟩ : Pol), (⟨0, 3, t1, 0⟩ : Pol)] : List Pol) false, At.box b118 25 (cl_25 t116.1)] [true, true, true, true, false, false] ?_
   refine J.seq ?_
   refine J.region ?_
   refine JL.mv (.slice (some ⟨b115, 0, none⟩) ([(⟨0, 1, t1, 0⟩ : Pol), (⟨1, 2, t1, 0⟩ : Pol), (⟨2, 3, t1, 0⟩ : Pol), (⟨0, 3, t1, 0⟩ : Pol)] : List Pol).length 4) ?_
   refine JL.val (mv_25 t3) (some 211) (yields_load_boxes 1 0 (cl_25 t3) (holds_box b8 25 (cl_25 t3)) tyAgg_25 tySize_25) ?_
   obtain ⟨⟨h151, h152⟩, H0⟩ := ite_must H0
   refine JL.ixAddr' 2 15 4 .i64 (elems_row (some ⟨b115, 0, none⟩) 4 57 fl_Pol.kd ([(⟨0, 1, t1, 0⟩ : Pol), (⟨1, 2, t1, 0⟩ : Pol), (⟨2, 3, t1, 0⟩ : Pol), (⟨0, 3, t1, 0⟩ : Pol)] : List Pol) false) Try.underlying39 tySize_57 h151 h152 ?_
   refine JL.pur (.pointer (some ⟨b115, 0 + (1 : Int).toNat * 15 + 2, none⟩)) (some 213) ?_
   refine JL.storeEl (E := 57) b115 0 2 4 2 fl_Pol ([(⟨0, 1, t1, 0⟩ : Pol), (⟨1, 2, t1, 0⟩ : Pol), (⟨2, 3, t1, 0⟩ : Pol), (⟨0, 3, t1, 0⟩ : Pol)] : List Pol) 1 false (⟨((ix ([(⟨0, 1, t1, 0⟩ : Pol), (⟨1, 2, t1, 0⟩ : Pol), (⟨2, 3, t1, 0⟩ : Pol), (⟨0, 3, t1, 0⟩ : Pol)] : List Pol) 1).I), ((ix ([(⟨0, 1, t1, 0⟩ : Pol), (⟨1, 2, t1, 0⟩ : Pol), (⟨2, 3, t1, 0⟩ : Pol), (⟨0, 3, t1, 0⟩ : Pol)] : List Pol) 1).J), t3, ((ix ([(⟨0, 1, t1, 0⟩ : Pol), (⟨1, 2, t1, 0⟩ : Pol), (⟨2, 3, t1, 0⟩ : Pol), (⟨0, 3, t1, 0⟩ : Pol)] : List Pol) 1).N)⟩ : Pol) h151 h152 tySize_25 ?_
   obtain ⟨l155, el155, H0⟩ := lt_some H0
   have nl155 : ([(⟨0, 1, t1, 0⟩ : Pol), (⟨1, 2, t1, 0⟩ : Pol), (⟨2, 3, t1, 0⟩ : Pol), (⟨0, 3, t1, 0⟩ : Pol)] : List Pol).length = l155.length := by rw [← el155, List.length_set]
   rw [el155]
   refine JQ.len (fun n : Nat => [(1, .pointer (some ⟨b7, 0, none⟩)), (2, .pointer (some ⟨b8, 0, none⟩)), (5, .int .i64 t10.2), (7, .int .i64 t13.2), (9, .int .i64 t16.2), (11, .int .i64 t19.2), (13, .int .i64 t24.2), (15, .int .i64 t27.2), (17, .int .i64 t30.2), (19, .int .i64 t35.2), (21, .int .i64 t38.2), (23, .int .i64 t47.2), (25, .int .i64 t53.2), (27, .int .i64 t59.2), (29, .int .i64 t65.2), (31, .int .i64 n100), (33, .int .i64 t103.2), (35, .int .i64 t110.2), (36, .slice (some ⟨b115, 0, none⟩) n 4), (37, .pointer (some ⟨b118, 0, none⟩)), (38, .int .i64 t116.2), (40, .int .i64 t119.2), (42, .int .i64 t122.2), (44, .int .i64 t125.2), (46, .int .i64 t137.2), (48, .int .i64 t144.2), (50, .int .i64 t148.2), (210, .slice (some ⟨b115, 0, none⟩) n 4), (211, mv_25 t3)]) nl155 ?_
   refine JQ.sub [(1, .pointer (some ⟨b7, 0, none⟩)), (2, .pointer (some ⟨b8, 0, none⟩)), (5, .int .i64 t10.2), (7, .int .i64 t13.2), (9, .int .i64 t16.2), (11, .int .i64 t19.2), (13, .int .i64 t24.2), (15, .int .i64 t27.2), (17, .int .i64 t30.2), (19, .int .i64 t35.2), (21, .int .i64 t38.2), (23, .int .i64 t47.2), (25, .int .i64 t53.2), (27, .int .i64 t59.2), (29, .int .i64 t65.2), (31, .int .i64 n100), (33, .int .i64 t103.2), (35, .int .i64 t110.2), (36, .slice (some ⟨b115, 0, none⟩) l155.length 4), (37, .pointer (some ⟨b118, 0, none⟩)), (38, .int .i64 t116.2), (40, .int .i64 t119.2), (42, .int .i64 t122.2), (44, .int .i64 t125.2), (46, .int .i64 t137.2), (48, .int .i64 t144.2), (50, .int .i64 t148.2), (210, .slice (some ⟨b115, 0, none⟩) l155.length 4), (211, mv_25 t3)] ?_
   refine JL.nil ?_
   refine JQ.then_normal ?_
   refine JQ.sub [(1, .pointer (some ⟨b7, 0, none⟩)), (5, .int .i64 t10.2), (7, .int .i64 t13.2), (9, .int .i64 t16.2), (11, .int .i64 t19.2), (13, .int .i64 t24.2), (15, .int .i64 t27.2), (17, .int .i64 t30.2), (19, .int .i64 t35.2), (21, .int .i64 t38.2), (23, .int .i64 t47.2), (25, .int .i64 t53.2), (27, .int .i64 t59.2), (29, .int .i64 t65.2), (31, .int .i64 n100), (33, .int .i64 t103.2), (35, .int .i64 t110.2), (36, .slice (some ⟨b115, 0, none⟩) l155.length 4), (37, .pointer (some ⟨b118, 0, none⟩)), (38, .int .i64 t116.2), (40, .int .i64 t119.2), (42, .int .i64 t122.2), (44, .int .i64 t125.2), (46, .int .i64 t137.2), (48, .int .i64 t144.2), (50, .int .i64 t148.2)] ?_
   refine JQ.mask [At.box b7 25 (cl_25 t1), At.row (some ⟨b115, 0, none⟩) 4 57 fl_Pol.kd l155 false, At.box b118 25 (cl_25 t116.1)] [true, false, true, true] ?_
   refine J.seq ?_
   refine J.region ?_
   refine JL.mv (.slice (some ⟨b115, 0, none⟩) l155.length 4) ?_
   obtain ⟨t156, hc157, H0⟩ := bind_some H0
   refine JL.call [] [] [] (jones_Loop.ok l155 (some ⟨b115, 0, none⟩) 4 0 1 2 3 _ hc157) ⟨pre_view 1 (view_row (some ⟨b115, 0, none⟩) 4 57 fl_Pol.kd l155 false true), trivial⟩ ?_
   rintro _ _ ⟨rfl, rfl⟩
   refine JL.mv (.tuple #[mv_25 t156.1, .int .i64 t156.2]) ?_
   refine JL.pur (mv_25 t156.1) (some 217) ?_
   refine JL.pur (.int .i64 t156.2) (some 218) ?_
   refine JL.alloc (cl_25 zv_25) fun b158 => ?_
   refine JL.store 3 b158 0 25 (cl_25 zv_25) (cl_25 t156.1) tySize_25 ?_
   refine JL.as (.int .i64 t156.2) ?_
   refine JL.nil ?_
   refine JQ.then_normal ?_
   refine JQ.sub [(1, .pointer (some ⟨b7, 0, none⟩)), (5, .int .i64 t10.2), (7, .int .i64 t13.2), (9, .int .i64 t16.2), (11, .int .i64 t19.2), (13, .int .i64 t24.2), (15, .int .i64 t27.2), (17, .int .i64 t30.2), (19, .int .i64 t35.2), (21, .int .i64 t38.2), (23, .int .i64 t47.2), (25, .int .i64 t53.2), (27, .int .i64 t59.2), (29, .int .i64 t65.2), (31, .int .i64 n100), (33, .int .i64 t103.2), (35, .int .i64 t110.2), (37, .pointer (some ⟨b118, 0, none⟩)), (38, .int .i64 t116.2), (40, .int .i64 t119.2), (42, .int .i64 t122.2), (44, .int .i64 t125.2), (46, .int .i64 t137.2), (48, .int .i64 t144.2), (50, .int .i64 t148.2), (52, .int .i64 t156.2)] ?_
   refine JQ.mask [At.box b7 25 (cl_25 t1), At.box b118 25 (cl_25 t116.1)] [true, false, true, false] ?_
   refine J.join (T := Int) (G := Unit) (fun t => law33_JonesNames.k2 t1 t10 t13 t16 t19 t24 t27 t30 t35 t38 t47 t53 t59 t65 n100 t103 t110 t116 t119 t122 t125 t137 t144 t148 t156 t = some r) (fun t g => [(1, .pointer (some ⟨b7, 0, none⟩)), (5, .int .i64 t10.2), (7, .int .i64 t13.2), (9, .int .i64 t16.2), (11, .int .i64 t19.2), (13, .int .i64 t24.2), (15, .int .i64 t27.2), (17, .int .i64 t30.2), (19, .int .i64 t35.2), (21, .int .i64 t38.2), (23, .int .i64 t47.2), (25, .int .i64 t53.2), (27, .int .i64 t59.2), (29, .int .i64 t65.2), (31, .int .i64 n100), (33, .int .i64 t103.2), (35, .int .i64 t110.2), (37, .pointer (some ⟨b118, 0, none⟩)), (38, .int .i64 t116.2), (40, .int .i64 t119.2), (42, .int .i64 t122.2), (44, .int .i64 t125.2), (46, .int .i64 t137.2), (48, .int .i64 t144.2), (50, .int .i64 t148.2), (52, .int .i64 t156.2), (54, .int .i64 t)]) (fun t g => [At.box b7 25 (cl_25 t1), At.box b118 25 (cl_25 t116.1)]) ?_ ?_
   · obtain ⟨t242, hc243, H0⟩ := bind_some H0
     obtain ⟨t245, hc246, H0⟩ := bind_some H0
     obtain ⟨t248, hc249, H0⟩ := bind_some H0
     refine JY.start [] (ba 12 0) ?_
     refine JY.take (hi := rfl) 1 (ba 12 2) (mv_25 t1) (some 221) [true, true] want (yields_load_boxes 0 0 (cl_25 t1) (holds_box b7 25 (cl_25 t1)) tyAgg_25 tySize_25) ?_
     refine JY.all [0] ⟨⟨_, rfl, ?_⟩, trivial⟩
     refine JL.call [] [] [] (law33_whole.ok 1000000000 0 0 1 _ hc243) trivial ?_
     rintro _ _ ⟨rfl, rfl⟩
     refine JL.nil ?_
     refine JY.ran (ba 12 3) [true, true] ?_
     refine JY.all [2, 3] ⟨⟨_, rfl, ?_⟩, ⟨_, rfl, ?_⟩, trivial⟩
     · refine JL.buildSl 25 ((flArr4 fl_Cx).kd) (([t242, t1] : List (A4 Cx)) : List (A4 Cx)) [.int .i64 t242.e0.Re, .int .i64 t242.e0.Im, .int .i64 t242.e0.Den, .int .i64 t242.e1.Re, .int .i64 t242.e1.Im, .int .i64 t242.e1.Den, .int .i64 t242.e2.Re, .int .i64 t242.e2.Im, .int .i64 t242.e2.Den, .int .i64 t242.e3.Re, .int .i64 t242.e3.Im, .int .i64 t242.e3.Den, .int .i64 t1.e0.Re, .int .i64 t1.e0.Im, .int .i64 t1.e0.Den, .int .i64 t1.e1.Re, .int .i64 t1.e1.Im, .int .i64 t1.e1.Den, .int .i64 t1.e2.Re, .int .i64 t1.e2.Im, .int .i64 t1.e2.Den, .int .i64 t1.e3.Re, .int .i64 t1.e3.Im, .int .i64 t1.e3.Den] false (closes_fl rfl) fun b255 => ?_
       refine JL.nil ?_
       refine JY.ran (ba 12 7) [true, true, false] ?_
       refine JY.all [3] ⟨⟨_, rfl, ?_⟩, trivial⟩
       refine JL.call [] [] [] (law33_whole.ok 2 0 0 1 _ hc246) trivial ?_
       rintro _ _ ⟨rfl, rfl⟩
       refine JL.nil ?_
       refine JY.ran (ba 12 15) [true, true, false] ?_
       refine JY.pur (hi := rfl) 4 (ba 12 31) (.agg #[.int .i64 0, .int .i64 1, .int .i64 t245.e0.Re, .int .i64 t245.e0.Im, .int .i64 t245.e0.Den, .int .i64 t245.e1.Re, .int .i64 t245.e1.Im, .int .i64 t245.e1.Den, .int .i64 t245.e2.Re, .int .i64 t245.e2.Im, .int .i64 t245.e2.Den, .int .i64 t245.e3.Re, .int .i64 t245.e3.Im, .int .i64 t245.e3.Den, .int .i64 0]) (some 224) want ?_
       refine JY.all [5] ⟨⟨_, rfl, ?_⟩, trivial⟩
       refine JL.buildSl 57 fl_Pol.kd (([(⟨0, 1, t245, 0⟩ : Pol)] : List Pol) : List Pol) [.int .i64 0, .int .i64 1, .int .i64 t245.e0.Re, .int .i64 t245.e0.Im, .int .i64 t245.e0.Den, .int .i64 t245.e1.Re, .int .i64 t245.e1.Im, .int .i64 t245.e1.Den, .int .i64 t245.e2.Re, .int .i64 t245.e2.Im, .int .i64 t245.e2.Den, .int .i64 t245.e3.Re, .int .i64 t245.e3.Im, .int .i64 t245.e3.Den, .int .i64 0] false (closes_fl rfl) fun b258 => ?_
       refine JL.nil ?_
       refine JY.ran (ba 12 63) [true, true, false, false] ?_
       refine JY.all [6] ⟨⟨_, rfl, ?_⟩, trivial⟩
       refine JL.call [] [] [] (jones_Act.ok ([t242, t1] : List (A4 Cx)) (some ⟨b255, 0, none⟩) 2 ([(⟨0, 1, t245, 0⟩ : Pol)] : List Pol) (some ⟨b258, 0, none⟩) 1 _ hc249) ⟨pre_view 2 (view_row (some ⟨b255, 0, none⟩) 2 25 ((flArr4 fl_Cx).kd) ([t242, t1] : List (A4 Cx)) false true), ⟨pre_view 3 (view_row (some ⟨b258, 0, none⟩) 1 57 fl_Pol.kd ([(⟨0, 1, t245, 0⟩ : Pol)] : List Pol) false true), trivial⟩⟩ ?_
       rintro _ _ ⟨Aa261, c262, rfl, rfl⟩
       refine JL.nil ?_
       refine JY.ran (ba 12 127) [true, true, false, false, false] ?_
       refine JY.pur (hi := rfl) 7 (ba 12 255) (.tuple #[.slice Aa261 t248.1.length c262, .int .i64 t248.2]) (some 219) want ?_
       refine JY.pur (hi := rfl) 8 (ba 12 511) (.slice Aa261 t248.1.length c262) (some 227) want ?_
       refine JY.pur (hi := rfl) 9 (ba 12 1023) (.int .i64 t248.2) (some 228) want ?_
       refine JY.pur (hi := rfl) 10 (ba 12 2047) (.slice Aa261 t248.1.length c262) (some 53) want ?_
       refine JY.pur (hi := rfl) 11 (ba 12 4095) (.int .i64 t248.2) (some 54) want ?_
       refine JY.done ?_
       refine JQ.then_normal ?_
       exact JQ.meet t248.2 () H0 (fun _ h => Heap.to (Heap.pick [0, 1] (by decide) h))
     · refine JL.call [] [] [] (law33_whole.ok 2 0 0 1 _ hc246) trivial ?_
       rintro _ _ ⟨rfl, rfl⟩
       refine JL.nil ?_
       refine JY.ran (ba 12 11) [true, true] ?_
       refine JY.pur (hi := rfl) 4 (ba 12 27) (.agg #[.int .i64 0, .int .i64 1, .int .i64 t245.e0.Re, .int .i64 t245.e0.Im, .int .i64 t245.e0.Den, .int .i64 t245.e1.Re, .int .i64 t245.e1.Im, .int .i64 t245.e1.Den, .int .i64 t245.e2.Re, .int .i64 t245.e2.Im, .int .i64 t245.e2.Den, .int .i64 t245.e3.Re, .int .i64 t245.e3.Im, .int .i64 t245.e3.Den, .int .i64 0]) (some 224) want ?_
       refine JY.all [2, 5] ⟨⟨_, rfl, ?_⟩, ⟨_, rfl, ?_⟩, trivial⟩
       · refine JL.buildSl 25 ((flArr4 fl_Cx).kd) (([t242, t1] : List (A4 Cx)) : List (A4 Cx)) [.int .i64 t242.e0.Re, .int .i64 t242.e0.Im, .int .i64 t242.e0.Den, .int .i64 t242.e1.Re, .int .i64 t242.e1.Im, .int .i64 t242.e1.Den, .int .i64 t242.e2.Re, .int .i64 t242.e2.Im, .int .i64 t242.e2.Den, .int .i64 t242.e3.Re, .int .i64 t242.e3.Im, .int .i64 t242.e3.Den, .int .i64 t1.e0.Re, .int .i64 t1.e0.Im, .int .i64 t1.e0.Den, .int .i64 t1.e1.Re, .int .i64 t1.e1.Im, .int .i64 t1.e1.Den, .int .i64 t1.e2.Re, .int .i64 t1.e2.Im, .int .i64 t1.e2.Den, .int .i64 t1.e3.Re, .int .i64 t1.e3.Im, .int .i64 t1.e3.Den] false (closes_fl rfl) fun b266 => ?_
         refine JL.nil ?_
         refine JY.ran (ba 12 31) [true, true, false] ?_
         refine JY.all [5] ⟨⟨_, rfl, ?_⟩, trivial⟩
         refine JL.buildSl 57 fl_Pol.kd (([(⟨0, 1, t245, 0⟩ : Pol)] : List Pol) : List Pol) [.int .i64 0, .int .i64 1, .int .i64 t245.e0.Re, .int .i64 t245.e0.Im, .int .i64 t245.e0.Den, .int .i64 t245.e1.Re, .int .i64 t245.e1.Im, .int .i64 t245.e1.Den, .int .i64 t245.e2.Re, .int .i64 t245.e2.Im, .int .i64 t245.e2.Den, .int .i64 t245.e3.Re, .int .i64 t245.e3.Im, .int .i64 t245.e3.Den, .int .i64 0] false (closes_fl rfl) fun b267 => ?_
         refine JL.nil ?_
         refine JY.ran (ba 12 63) [true, true, false, false] ?_
         refine JY.all [6] ⟨⟨_, rfl, ?_⟩, trivial⟩
         refine JL.call [] [] [] (jones_Act.ok ([t242, t1] : List (A4 Cx)) (some ⟨b266, 0, none⟩) 2 ([(⟨0, 1, t245, 0⟩ : Pol)] : List Pol) (some ⟨b267, 0, none⟩) 1 _ hc249) ⟨pre_view 2 (view_row (some ⟨b266, 0, none⟩) 2 25 ((flArr4 fl_Cx).kd) ([t242, t1] : List (A4 Cx)) false true), ⟨pre_view 3 (view_row (some ⟨b267, 0, none⟩) 1 57 fl_Pol.kd ([(⟨0, 1, t245, 0⟩ : Pol)] : List Pol) false true), trivial⟩⟩ ?_
         rintro _ _ ⟨Aa270, c271, rfl, rfl⟩
         refine JL.nil ?_
         refine JY.ran (ba 12 127) [true, true, false, false, false] ?_
         refine JY.pur (hi := rfl) 7 (ba 12 255) (.tuple #[.slice Aa270 t248.1.length c271, .int .i64 t248.2]) (some 219) want ?_
         refine JY.pur (hi := rfl) 8 (ba 12 511) (.slice Aa270 t248.1.length c271) (some 227) want ?_
         refine JY.pur (hi := rfl) 9 (ba 12 1023) (.int .i64 t248.2) (some 228) want ?_
         refine JY.pur (hi := rfl) 10 (ba 12 2047) (.slice Aa270 t248.1.length c271) (some 53) want ?_
         refine JY.pur (hi := rfl) 11 (ba 12 4095) (.int .i64 t248.2) (some 54) want ?_
         refine JY.done ?_
         refine JQ.then_normal ?_
         exact JQ.meet t248.2 () H0 (fun _ h => Heap.to (Heap.pick [0, 1] (by decide) h))
       · refine JL.buildSl 57 fl_Pol.kd (([(⟨0, 1, t245, 0⟩ : Pol)] : List Pol) : List Pol) [.int .i64 0, .int .i64 1, .int .i64 t245.e0.Re, .int .i64 t245.e0.Im, .int .i64 t245.e0.Den, .int .i64 t245.e1.Re, .int .i64 t245.e1.Im, .int .i64 t245.e1.Den, .int .i64 t245.e2.Re, .int .i64 t245.e2.Im, .int .i64 t245.e2.Den, .int .i64 t245.e3.Re, .int .i64 t245.e3.Im, .int .i64 t245.e3.Den, .int .i64 0] false (closes_fl rfl) fun b273 => ?_
         refine JL.nil ?_
         refine JY.ran (ba 12 59) [true, true, false] ?_
         refine JY.all [2] ⟨⟨_, rfl, ?_⟩, trivial⟩
         refine JL.buildSl 25 ((flArr4 fl_Cx).kd) (([t242, t1] : List (A4 Cx)) : List (A4 Cx)) [.int .i64 t242.e0.Re, .int .i64 t242.e0.Im, .int .i64 t242.e0.Den, .int .i64 t242.e1.Re, .int .i64 t242.e1.Im, .int .i64 t242.e1.Den, .int .i64 t242.e2.Re, .int .i64 t242.e2.Im, .int .i64 t242.e2.Den, .int .i64 t242.e3.Re, .int .i64 t242.e3.Im, .int .i64 t242.e3.Den, .int .i64 t1.e0.Re, .int .i64 t1.e0.Im, .int .i64 t1.e0.Den, .int .i64 t1.e1.Re, .int .i64 t1.e1.Im, .int .i64 t1.e1.Den, .int .i64 t1.e2.Re, .int .i64 t1.e2.Im, .int .i64 t1.e2.Den, .int .i64 t1.e3.Re, .int .i64 t1.e3.Im, .int .i64 t1.e3.Den] false (closes_fl rfl) fun b274 => ?_
         refine JL.nil ?_
         refine JY.ran (ba 12 63) [true, true, false, false] ?_
         refine JY.all [6] ⟨⟨_, rfl, ?_⟩, trivial⟩
         refine JL.call [] [] [] (jones_Act.ok ([t242, t1] : List (A4 Cx)) (some ⟨b274, 0, none⟩) 2 ([(⟨0, 1, t245, 0⟩ : Pol)] : List Pol) (some ⟨b273, 0, none⟩) 1 _ hc249) ⟨pre_view 3 (view_row (some ⟨b274, 0, none⟩) 2 25 ((flArr4 fl_Cx).kd) ([t242, t1] : List (A4 Cx)) false true), ⟨pre_view 2 (view_row (some ⟨b273, 0, none⟩) 1 57 fl_Pol.kd ([(⟨0, 1, t245, 0⟩ : Pol)] : List Pol) false true), trivial⟩⟩ ?_
         rintro _ _ ⟨Aa277, c278, rfl, rfl⟩
         refine JL.nil ?_
         refine JY.ran (ba 12 127) [true, true, false, false, false] ?_
         refine JY.pur (hi := rfl) 7 (ba 12 255) (.tuple #[.slice Aa277 t248.1.length c278, .int .i64 t248.2]) (some 219) want ?_
         refine JY.pur (hi := rfl) 8 (ba 12 511) (.slice Aa277 t248.1.length c278) (some 227) want ?_
         refine JY.pur (hi := rfl) 9 (ba 12 1023) (.int .i64 t248.2) (some 228) want ?_
         refine JY.pur (hi := rfl) 10 (ba 12 2047) (.slice Aa277 t248.1.length c278) (some 53) want ?_
         refine JY.pur (hi := rfl) 11 (ba 12 4095) (.int .i64 t248.2) (some 54) want ?_
         refine JY.done ?_
         refine JQ.then_normal ?_
         exact JQ.meet t248.2 () H0 (fun _ h => Heap.to (Heap.pick [0, 1] (by decide) h))
   · clear H0
     rintro z197 ⟨⟩ H0
     replace H0 : law33_JonesNames.k2 t1 t10 t13 t16 t19 t24 t27 t30 t35 t38 t47 t53 t59 t65 n100 t103 t110 t116 t119 t122 t125 t137 t144 t148 t156 z197 = some r := H0
     unfold law33_JonesNames.k2 at H0
     refine JQ.sub [(1, .pointer (some ⟨b7, 0, none⟩)), (5, .int .i64 t10.2), (7, .int .i64 t13.2), (9, .int .i64 t16.2), (11, .int .i64 t19.2), (13, .int .i64 t24.2), (15, .int .i64 t27.2), (17, .int .i64 t30.2), (19, .int .i64 t35.2), (21, .int .i64 t38.2), (23, .int .i64 t47.2), (25, .int .i64 t53.2), (27, .int .i64 t59.2), (29, .int .i64 t65.2), (31, .int .i64 n100), (33, .int .i64 t103.2), (35, .int .i64 t110.2), (37, .pointer (some ⟨b118, 0, none⟩)), (38, .int .i64 t116.2), (40, .int .i64 t119.2), (42, .int .i64 t122.2), (44, .int .i64 t125.2), (46, .int .i64 t137.2), (48, .int .i64 t144.2), (50, .int .i64 t148.2), (52, .int .i64 t156.2), (54, .int .i64 z197)] ?_
     refine JQ.turn (Δ' := [At.box b7 25 (cl_25 t1), At.box b118 25 (cl_25 t116.1)]) (fun _ h => h.to) ?_
     refine J.join (T := Bool) (G := Unit) (fun t => law33_JonesNames.k3 t1 n100 t103 t110 t116 t119 t122 t125 t137 t144 t148 t156 z197 t = some r) (fun t g => [(1, .pointer (some ⟨b7, 0, none⟩)), (31, .int .i64 n100), (33, .int .i64 t103.2), (35, .int .i64 t110.2), (37, .pointer (some ⟨b118, 0, none⟩)), (38, .int .i64 t116.2), (40, .int .i64 t119.2), (42, .int .i64 t122.2), (44, .int .i64 t125.2), (46, .int .i64 t137.2), (48, .int .i64 t144.2), (50, .int .i64 t148.2), (52, .int .i64 t156.2), (54, .int .i64 z197), (55, .bool t)]) (fun t g => [At.box b7 25 (cl_25 t1), At.box b118 25 (cl_25 t116.1)]) ?_ ?_
     · refine J.region ?_
       refine JL.mv (.bool true) ?_
       refine JL.on 0 229 (rfl : (true) = true) ?_
       obtain ⟨t227, hc228, H0⟩ := bind_some H0
       refine JL.call [] [] [] (law33_alive.ok _ hc228) trivial ?_
       rintro _ _ ⟨rfl, rfl⟩
       refine JL.val (.bool t227) (some 231) (gives_pickT rfl) ?_
       refine JL.mv (.bool t227) ?_
       rcases ite_cases H0 with ⟨h229, H0⟩ | ⟨h229, H0⟩
       · refine JL.on 3 232 h229 ?_
         refine JL.mv (.int .i64 t10.2) ?_
         refine JL.on 3 232 h229 ?_
         refine JL.pur (.bool (decide (t10.2 = 8))) (some 234) ?_
         refine JL.val (.bool (decide (t10.2 = 8))) (some 235) (gives_pickT h229) ?_
         refine JL.mv (.bool (decide (t10.2 = 8))) ?_
         rcases ite_cases H0 with ⟨h230, H0⟩ | ⟨h230, H0⟩
         · refine JL.on 7 236 h230 ?_
           refine JL.mv (.int .i64 t13.2) ?_
           refine JL.on 7 236 h230 ?_
           refine JL.pur (.bool (decide (t13.2 = 8))) (some 238) ?_
           refine JL.val (.bool (decide (t13.2 = 8))) (some 239) (gives_pickT h230) ?_
           refine JL.mv (.bool (decide (t13.2 = 8))) ?_
           rcases ite_cases H0 with ⟨h231, H0⟩ | ⟨h231, H0⟩
           · refine JL.on 11 240 h231 ?_
             refine JL.mv (.int .i64 t16.2) ?_
             refine JL.on 11 240 h231 ?_
             refine JL.pur (.bool (decide (t16.2 = 16))) (some 242) ?_
             refine JL.val (.bool (decide (t16.2 = 16))) (some 243) (gives_pickT h231) ?_
             refine JL.mv (.bool (decide (t16.2 = 16))) ?_
             rcases ite_cases H0 with ⟨h232, H0⟩ | ⟨h232, H0⟩
             · refine JL.on 15 244 h232 ?_
               refine JL.mv (.int .i64 t19.2) ?_
               refine JL.on 15 244 h232 ?_
               refine JL.pur (.bool (decide (t19.2 = 16))) (some 246) ?_
               refine JL.val (.bool (decide (t19.2 = 16))) (some 247) (gives_pickT h232) ?_
               refine JL.mv (.bool (decide (t19.2 = 16))) ?_
               rcases ite_cases H0 with ⟨h233, H0⟩ | ⟨h233, H0⟩
               · refine JL.on 19 248 h233 ?_
                 refine JL.mv (.int .i64 t24.2) ?_
                 refine JL.on 19 248 h233 ?_
                 refine JL.pur (.bool (decide (t24.2 = 16))) (some 250) ?_
                 refine JL.val (.bool (decide (t24.2 = 16))) (some 251) (gives_pickT h233) ?_
                 refine JL.mv (.bool (decide (t24.2 = 16))) ?_
                 rcases ite_cases H0 with ⟨h234, H0⟩ | ⟨h234, H0⟩
                 · refine JL.on 23 252 h234 ?_
                   refine JL.mv (.int .i64 t27.2) ?_
                   refine JL.on 23 252 h234 ?_
                   refine JL.pur (.bool (decide (t27.2 = 18))) (some 254) ?_
                   refine JL.val (.bool (decide (t27.2 = 18))) (some 255) (gives_pickT h234) ?_
                   refine JL.mv (.bool (decide (t27.2 = 18))) ?_
                   rcases ite_cases H0 with ⟨h235, H0⟩ | ⟨h235, H0⟩
                   · refine JL.on 27 256 h235 ?_
                     refine JL.mv (.int .i64 t30.2) ?_
                     refine JL.on 27 256 h235 ?_
                     refine JL.pur (.bool (decide (t30.2 = 16))) (some 258) ?_
                     refine JL.val (.bool (decide (t30.2 = 16))) (some 259) (gives_pickT h235) ?_
                     refine JL.mv (.bool (decide (t30.2 = 16))) ?_
                     rcases ite_cases H0 with ⟨h236, H0⟩ | ⟨h236, H0⟩
                     · refine JL.on 31 260 h236 ?_
                       refine JL.mv (.int .i64 t35.2) ?_
                       refine JL.on 31 260 h236 ?_
                       refine JL.pur (.bool (decide (t35.2 = 18))) (some 262) ?_
                       refine JL.val (.bool (decide (t35.2 = 18))) (some 263) (gives_pickT h236) ?_
                       refine JL.mv (.bool (decide (t35.2 = 18))) ?_
                       rcases ite_cases H0 with ⟨h237, H0⟩ | ⟨h237, H0⟩
                       · refine JL.on 35 264 h237 ?_
                         refine JL.mv (.int .i64 t38.2) ?_
                         refine JL.on 35 264 h237 ?_
                         refine JL.pur (.bool (decide (t38.2 = 8))) (some 266) ?_
                         refine JL.val (.bool (decide (t38.2 = 8))) (some 267) (gives_pickT h237) ?_
                         refine JL.mv (.bool (decide (t38.2 = 8))) ?_
                         rcases ite_cases H0 with ⟨h238, H0⟩ | ⟨h238, H0⟩
                         · refine JL.on 39 268 h238 ?_
                           refine JL.mv (.int .i64 t47.2) ?_
                           refine JL.on 39 268 h238 ?_
                           refine JL.pur (.bool (decide (t47.2 = 4))) (some 270) ?_
                           refine JL.val (.bool (decide (t47.2 = 4))) (some 271) (gives_pickT h238) ?_
                           refine JL.mv (.bool (decide (t47.2 = 4))) ?_
                           rcases ite_cases H0 with ⟨h239, H0⟩ | ⟨h239, H0⟩
                           · refine JL.on 43 272 h239 ?_
                             refine JL.mv (.int .i64 t53.2) ?_
                             refine JL.on 43 272 h239 ?_
                             refine JL.pur (.bool (decide (t53.2 = 18))) (some 274) ?_
                             refine JL.val (.bool (decide (t53.2 = 18))) (some 275) (gives_pickT h239) ?_
                             refine JL.mv (.bool (decide (t53.2 = 18))) ?_
                             rcases ite_cases H0 with ⟨h240, H0⟩ | ⟨h240, H0⟩
                             · refine JL.on 47 276 h240 ?_
                               refine JL.mv (.int .i64 t59.2) ?_
                               refine JL.on 47 276 h240 ?_
                               refine JL.pur (.bool (decide (t59.2 = 16))) (some 278) ?_
                               refine JL.val (.bool (decide (t59.2 = 16))) (some 279) (gives_pickT h240) ?_
                               refine JL.mv (.bool (decide (t59.2 = 16))) ?_
                               rcases ite_cases H0 with ⟨h241, H0⟩ | ⟨h241, H0⟩
                               · refine JL.on 51 280 h241 ?_
                                 refine JL.mv (.int .i64 t65.2) ?_
                                 refine JL.on 51 280 h241 ?_
                                 refine JL.pur (.bool (decide (t65.2 = 18))) (some 282) ?_
                                 refine JL.val (.bool (decide (t65.2 = 18))) (some 283) (gives_pickT h241) ?_
                                 refine JL.as (.bool (decide (t65.2 = 18))) ?_
                                 refine JL.nil ?_
                                 refine JQ.then_normal ?_
                                 exact JQ.meet (decide (t65.2 = 18)) () H0 (fun _ h => Heap.to h)
                               · refine JL.off 51 280 true (some 281) h241 ?_
                                 refine JL.off 51 280 true (some 282) h241 ?_
                                 refine JL.val (.bool false) (some 283) (gives_pickF h241) ?_
                                 refine JL.as (.bool false) ?_
                                 refine JL.nil ?_
                                 refine JQ.then_normal ?_
                                 exact JQ.meet false () H0 (fun _ h => Heap.to h)
                             · refine JL.off 47 276 true (some 277) h240 ?_
                               refine JL.off 47 276 true (some 278) h240 ?_
                               refine JL.val (.bool false) (some 279) (gives_pickF h240) ?_
                               refine JL.mv (.bool false) ?_
                               refine JL.off 51 280 true (some 281) rfl ?_
                               refine JL.off 51 280 true (some 282) rfl ?_
                               refine JL.val (.bool false) (some 283) (gives_pickF rfl) ?_
                               refine JL.as (.bool false) ?_
                               refine JL.nil ?_
                               refine JQ.then_normal ?_
                               exact JQ.meet false () H0 (fun _ h => Heap.to h)
                           · refine JL.off 43 272 true (some 273) h239 ?_
                             refine JL.off 43 272 true (some 274) h239 ?_
                             refine JL.val (.bool false) (some 275) (gives_pickF h239) ?_
                             refine JL.mv (.bool false) ?_
                             refine JL.off 47 276 true (some 277) rfl ?_
                             refine JL.off 47 276 true (some 278) rfl ?_
                             refine JL.val (.bool false) (some 279) (gives_pickF rfl) ?_
                             refine JL.mv (.bool false) ?_
                             refine JL.off 51 280 true (some 281) rfl ?_
                             refine JL.off 51 280 true (some 282) rfl ?_
                             refine JL.val (.bool false) (some 283) (gives_pickF rfl) ?_
                             refine JL.as (.bool false) ?_
                             refine JL.nil ?_
                             refine JQ.then_normal ?_
                             exact JQ.meet false () H0 (fun _ h => Heap.to h)
                         · refine JL.off 39 268 true (some 269) h238 ?_
                           refine JL.off 39 268 true (some 270) h238 ?_
                           refine JL.val (.bool false) (some 271) (gives_pickF h238) ?_
                           refine JL.mv (.bool false) ?_
                           refine JL.off 43 272 true (some 273) rfl ?_
                           refine JL.off 43 272 true (some 274) rfl ?_
                           refine JL.val (.bool false) (some 275) (gives_pickF rfl) ?_
                           refine JL.mv (.bool false) ?_
                           refine JL.off 47 276 true (some 277) rfl ?_
                           refine JL.off 47 276 true (some 278) rfl ?_
                           refine JL.val (.bool false) (some 279) (gives_pickF rfl) ?_
                           refine JL.mv (.bool false) ?_
                           refine JL.off 51 280 true (some 281) rfl ?_
                           refine JL.off 51 280 true (some 282) rfl ?_
                           refine JL.val (.bool false) (some 283) (gives_pickF rfl) ?_
                           refine JL.as (.bool false) ?_
                           refine JL.nil ?_
                           refine JQ.then_normal ?_
                           exact JQ.meet false () H0 (fun _ h => Heap.to h)
                       · refine JL.off 35 264 true (some 265) h237 ?_
                         refine JL.off 35 264 true (some 266) h237 ?_
                         refine JL.val (.bool false) (some 267) (gives_pickF h237) ?_
                         refine JL.mv (.bool false) ?_
                         refine JL.off 39 268 true (some 269) rfl ?_
                         refine JL.off 39 268 true (some 270) rfl ?_
                         refine JL.val (.bool false) (some 271) (gives_pickF rfl) ?_
                         refine JL.mv (.bool false) ?_
                         refine JL.off 43 272 true (some 273) rfl ?_
                         refine JL.off 43 272 true (some 274) rfl ?_
                         refine JL.val (.bool false) (some 275) (gives_pickF rfl) ?_
                         refine JL.mv (.bool false) ?_
                         refine JL.off 47 276 true (some 277) rfl ?_
                         refine JL.off 47 276 true (some 278) rfl ?_
                         refine JL.val (.bool false) (some 279) (gives_pickF rfl) ?_
                         refine JL.mv (.bool false) ?_
                         refine JL.off 51 280 true (some 281) rfl ?_
                         refine JL.off 51 280 true (some 282) rfl ?_
                         refine JL.val (.bool false) (some 283) (gives_pickF rfl) ?_
                         refine JL.as (.bool false) ?_
                         refine JL.nil ?_
                         refine JQ.then_normal ?_
                         exact JQ.meet false () H0 (fun _ h => Heap.to h)
                     · refine JL.off 31 260 true (some 261) h236 ?_
                       refine JL.off 31 260 true (some 262) h236 ?_
                       refine JL.val (.bool false) (some 263) (gives_pickF h236) ?_
                       refine JL.mv (.bool false) ?_
                       refine JL.off 35 264 true (some 265) rfl ?_
                       refine JL.off 35 264 true (some 266) rfl ?_
                       refine JL.val (.bool false) (some 267) (gives_pickF rfl) ?_
                       refine JL.mv (.bool false) ?_
                       refine JL.off 39 268 true (some 269) rfl ?_
                       refine JL.off 39 268 true (some 270) rfl ?_
                       refine JL.val (.bool false) (some 271) (gives_pickF rfl) ?_
                       refine JL.mv (.bool false) ?_
                       refine JL.off 43 272 true (some 273) rfl ?_
                       refine JL.off 43 272 true (some 274) rfl ?_
                       refine JL.val (.bool false) (some 275) (gives_pickF rfl) ?_
                       refine JL.mv (.bool false) ?_
                       refine JL.off 47 276 true (some 277) rfl ?_
                       refine JL.off 47 276 true (some 278) rfl ?_
                       refine JL.val (.bool false) (some 279) (gives_pickF rfl) ?_
                       refine JL.mv (.bool false) ?_
                       refine JL.off 51 280 true (some 281) rfl ?_
                       refine JL.off 51 280 true (some 282) rfl ?_
                       refine JL.val (.bool false) (some 283) (gives_pickF rfl) ?_
                       refine JL.as (.bool false) ?_
                       refine JL.nil ?_
                       refine JQ.then_normal ?_
                       exact JQ.meet false () H0 (fun _ h => Heap.to h)
                   · refine JL.off 27 256 true (some 257) h235 ?_
                     refine JL.off 27 256 true (some 258) h235 ?_
                     refine JL.val (.bool false) (some 259) (gives_pickF h235) ?_
                     refine JL.mv (.bool false) ?_
                     refine JL.off 31 260 true (some 261) rfl ?_
                     refine JL.off 31 260 true (some 262) rfl ?_
                     refine JL.val (.bool false) (some 263) (gives_pickF rfl) ?_
                     refine JL.mv (.bool false) ?_
                     refine JL.off 35 264 true (some 265) rfl ?_
                     refine JL.off 35 264 true (some 266) rfl ?_
                     refine JL.val (.bool false) (some 267) (gives_pickF rfl) ?_
                     refine JL.mv (.bool false) ?_
                     refine JL.off 39 268 true (some 269) rfl ?_
                     refine JL.off 39 268 true (some 270) rfl ?_
                     refine JL.val (.bool false) (some 271) (gives_pickF rfl) ?_
                     refine JL.mv (.bool false) ?_
                     refine JL.off 43 272 true (some 273) rfl ?_
                     refine JL.off 43 272 true (some 274) rfl ?_
                     refine JL.val (.bool false) (some 275) (gives_pickF rfl) ?_
                     refine JL.mv (.bool false) ?_
                     refine JL.off 47 276 true (some 277) rfl ?_
                     refine JL.off 47 276 true (some 278) rfl ?_
                     refine JL.val (.bool false) (some 279) (gives_pickF rfl) ?_
                     refine JL.mv (.bool false) ?_
                     refine JL.off 51 280 true (some 281) rfl ?_
                     refine JL.off 51 280 true (some 282) rfl ?_
                     refine JL.val (.bool false) (some 283) (gives_pickF rfl) ?_
                     refine JL.as (.bool false) ?_
                     refine JL.nil ?_
                     refine JQ.then_normal ?_
                     exact JQ.meet false () H0 (fun _ h => Heap.to h)
                 · refine JL.off 23 252 true (some 253) h234 ?_
                   refine JL.off 23 252 true (some 254) h234 ?_
                   refine JL.val (.bool false) (some 255) (gives_pickF h234) ?_
                   refine JL.mv (.bool false) ?_
                   refine JL.off 27 256 true (some 257) rfl ?_
                   refine JL.off 27 256 true (some 258) rfl ?_
                   refine JL.val (.bool false) (some 259) (gives_pickF rfl) ?_
                   refine JL.mv (.bool false) ?_
                   refine JL.off 31 260 true (some 261) rfl ?_
                   refine JL.off 31 260 true (some 262) rfl ?_
                   refine JL.val (.bool false) (some 263) (gives_pickF rfl) ?_
                   refine JL.mv (.bool false) ?_
                   refine JL.off 35 264 true (some 265) rfl ?_
                   refine JL.off 35 264 true (some 266) rfl ?_
                   refine JL.val (.bool false) (some 267) (gives_pickF rfl) ?_
                   refine JL.mv (.bool false) ?_
                   refine JL.off 39 268 true (some 269) rfl ?_
                   refine JL.off 39 268 true (some 270) rfl ?_
                   refine JL.val (.bool false) (some 271) (gives_pickF rfl) ?_
                   refine JL.mv (.bool false) ?_
                   refine JL.off 43 272 true (some 273) rfl ?_
                   refine JL.off 43 272 true (some 274) rfl ?_
                   refine JL.val (.bool false) (some 275) (gives_pickF rfl) ?_
                   refine JL.mv (.bool false) ?_
                   refine JL.off 47 276 true (some 277) rfl ?_
                   refine JL.off 47 276 true (some 278) rfl ?_
                   refine JL.val (.bool false) (some 279) (gives_pickF rfl) ?_
                   refine JL.mv (.bool false) ?_
                   refine JL.off 51 280 true (some 281) rfl ?_
                   refine JL.off 51 280 true (some 282) rfl ?_
                   refine JL.val (.bool false) (some 283) (gives_pickF rfl) ?_
                   refine JL.as (.bool false) ?_
                   refine JL.nil ?_
                   refine JQ.then_normal ?_
                   exact JQ.meet false () H0 (fun _ h => Heap.to h)
               · refine JL.off 19 248 true (some 249) h233 ?_
                 refine JL.off 19 248 true (some 250) h233 ?_
                 refine JL.val (.bool false) (some 251) (gives_pickF h233) ?_
                 refine JL.mv (.bool false) ?_
                 refine JL.off 23 252 true (some 253) rfl ?_
                 refine JL.off 23 252 true (some 254) rfl ?_
                 refine JL.val (.bool false) (some 255) (gives_pickF rfl) ?_
                 refine JL.mv (.bool false) ?_
                 refine JL.off 27 256 true (some 257) rfl ?_
                 refine JL.off 27 256 true (some 258) rfl ?_
                 refine JL.val (.bool false) (some 259) (gives_pickF rfl) ?_
                 refine JL.mv (.bool false) ?_
                 refine JL.off 31 260 true (some 261) rfl ?_
                 refine JL.off 31 260 true (some 262) rfl ?_
                 refine JL.val (.bool false) (some 263) (gives_pickF rfl) ?_
                 refine JL.mv (.bool false) ?_
                 refine JL.off 35 264 true (some 265) rfl ?_
                 refine JL.off 35 264 true (some 266) rfl ?_
                 refine JL.val (.bool false) (some 267) (gives_pickF rfl) ?_
                 refine JL.mv (.bool false) ?_
                 refine JL.off 39 268 true (some 269) rfl ?_
                 refine JL.off 39 268 true (some 270) rfl ?_
                 refine JL.val (.bool false) (some 271) (gives_pickF rfl) ?_
                 refine JL.mv (.bool false) ?_
                 refine JL.off 43 272 true (some 273) rfl ?_
                 refine JL.off 43 272 true (some 274) rfl ?_
                 refine JL.val (.bool false) (some 275) (gives_pickF rfl) ?_
                 refine JL.mv (.bool false) ?_
                 refine JL.off 47 276 true (some 277) rfl ?_
                 refine JL.off 47 276 true (some 278) rfl ?_
                 refine JL.val (.bool false) (some 279) (gives_pickF rfl) ?_
                 refine JL.mv (.bool false) ?_
                 refine JL.off 51 280 true (some 281) rfl ?_
                 refine JL.off 51 280 true (some 282) rfl ?_
                 refine JL.val (.bool false) (some 283) (gives_pickF rfl) ?_
                 refine JL.as (.bool false) ?_
                 refine JL.nil ?_
                 refine JQ.then_normal ?_
                 exact JQ.meet false () H0 (fun _ h => Heap.to h)
             · refine JL.off 15 244 true (some 245) h232 ?_
               refine JL.off 15 244 true (some 246) h232 ?_
               refine JL.val (.bool false) (some 247) (gives_pickF h232) ?_
               refine JL.mv (.bool false) ?_
               refine JL.off 19 248 true (some 249) rfl ?_
               refine JL.off 19 248 true (some 250) rfl ?_
               refine JL.val (.bool false) (some 251) (gives_pickF rfl) ?_
               refine JL.mv (.bool false) ?_
               refine JL.off 23 252 true (some 253) rfl ?_
               refine JL.off 23 252 true (some 254) rfl ?_
               refine JL.val (.bool false) (some 255) (gives_pickF rfl) ?_
               refine JL.mv (.bool false) ?_
               refine JL.off 27 256 true (some 257) rfl ?_
               refine JL.off 27 256 true (some 258) rfl ?_
               refine JL.val (.bool false) (some 259) (gives_pickF rfl) ?_
               refine JL.mv (.bool false) ?_
               refine JL.off 31 260 true (some 261) rfl ?_
               refine JL.off 31 260 true (some 262) rfl ?_
               refine JL.val (.bool false) (some 263) (gives_pickF rfl) ?_
               refine JL.mv (.bool false) ?_
               refine JL.off 35 264 true (some 265) rfl ?_
               refine JL.off 35 264 true (some 266) rfl ?_
               refine JL.val (.bool false) (some 267) (gives_pickF rfl) ?_
               refine JL.mv (.bool false) ?_
               refine JL.off 39 268 true (some 269) rfl ?_
               refine JL.off 39 268 true (some 270) rfl ?_
               refine JL.val (.bool false) (some 271) (gives_pickF rfl) ?_
               refine JL.mv (.bool false) ?_
               refine JL.off 43 272 true (some 273) rfl ?_
               refine JL.off 43 272 true (some 274) rfl ?_
               refine JL.val (.bool false) (some 275) (gives_pickF rfl) ?_
               refine JL.mv (.bool false) ?_
               refine JL.off 47 276 true (some 277) rfl ?_
               refine JL.off 47 276 true (some 278) rfl ?_
               refine JL.val (.bool false) (some 279) (gives_pickF rfl) ?_
               refine JL.mv (.bool false) ?_
               refine JL.off 51 280 true (some 281) rfl ?_
               refine JL.off 51 280 true (some 282) rfl ?_
               refine JL.val (.bool false) (some 283) (gives_pickF rfl) ?_
               refine JL.as (.bool false) ?_
               refine JL.nil ?_
               refine JQ.then_normal ?_
               exact JQ.meet false () H0 (fun _ h => Heap.to h)
           · refine JL.off 11 240 true (some 241) h231 ?_
             refine JL.off 11 240 true (some 242) h231 ?_
             refine JL.val (.bool false) (some 243) (gives_pickF h231) ?_
             refine JL.mv (.bool false) ?_
             refine JL.off 15 244 true (some 245) rfl ?_
             refine JL.off 15 244 true (some 246) rfl ?_
             refine JL.val (.bool false) (some 247) (gives_pickF rfl) ?_
             refine JL.mv (.bool false) ?_
             refine JL.off 19 248 true (some 249) rfl ?_
             refine JL.off 19 248 true (some 250) rfl ?_
             refine JL.val (.bool false) (some 251) (gives_pickF rfl) ?_
             refine JL.mv (.bool false) ?_
             refine JL.off 23 252 true (some 253) rfl ?_
             refine JL.off 23 252 true (some 254) rfl ?_
             refine JL.val (.bool false) (some 255) (gives_pickF rfl) ?_
             refine JL.mv (.bool false) ?_
             refine JL.off 27 256 true (some 257) rfl ?_
             refine JL.off 27 256 true (some 258) rfl ?_
             refine JL.val (.bool false) (some 259) (gives_pickF rfl) ?_
             refine JL.mv (.bool false) ?_
             refine JL.off 31 260 true (some 261) rfl ?_
             refine JL.off 31 260 true (some 262) rfl ?_
             refine JL.val (.bool false) (some 263) (gives_pickF rfl) ?_
             refine JL.mv (.bool false) ?_
             refine JL.off 35 264 true (some 265) rfl ?_
             refine JL.off 35 264 true (some 266) rfl ?_
             refine JL.val (.bool false) (some 267) (gives_pickF rfl) ?_
             refine JL.mv (.bool false) ?_
             refine JL.off 39 268 true (some 269) rfl ?_
             refine JL.off 39 268 true (some 270) rfl ?_
             refine JL.val (.bool false) (some 271) (gives_pickF rfl) ?_
             refine JL.mv (.bool false) ?_
             refine JL.off 43 272 true (some 273) rfl ?_
             refine JL.off 43 272 true (some 274) rfl ?_
             refine JL.val (.bool false) (some 275) (gives_pickF rfl) ?_
             refine JL.mv (.bool false) ?_
             refine JL.off 47 276 true (some 277) rfl ?_
             refine JL.off 47 276 true (some 278) rfl ?_
             refine JL.val (.bool false) (some 279) (gives_pickF rfl) ?_
             refine JL.mv (.bool false) ?_
             refine JL.off 51 280 true (some 281) rfl ?_
             refine JL.off 51 280 true (some 282) rfl ?_
             refine JL.val (.bool false) (some 283) (gives_pickF rfl) ?_
             refine JL.as (.bool false) ?_
             refine JL.nil ?_
             refine JQ.then_normal ?_
             exact JQ.meet false () H0 (fun _ h => Heap.to h)
         · refine JL.off 7 236 true (some 237) h230 ?_
           refine JL.off 7 236 true (some 238) h230 ?_
           refine JL.val (.bool false) (some 239) (gives_pickF h230) ?_
           refine JL.mv (.bool false) ?_
           refine JL.off 11 240 true (some 241) rfl ?_
           refine JL.off 11 240 true (some 242) rfl ?_
           refine JL.val (.bool false) (some 243) (gives_pickF rfl) ?_
           refine JL.mv (.bool false) ?_
           refine JL.off 15 244 true (some 245) rfl ?_
           refine JL.off 15 244 true (some 246) rfl ?_
           refine JL.val (.bool false) (some 247) (gives_pickF rfl) ?_
           refine JL.mv (.bool false) ?_
           refine JL.off 19 248 true (some 249) rfl ?_
           refine JL.off 19 248 true (some 250) rfl ?_
           refine JL.val (.bool false) (some 251) (gives_pickF rfl) ?_
           refine JL.mv (.bool false) ?_
           refine JL.off 23 252 true (some 253) rfl ?_
           refine JL.off 23 252 true (some 254) rfl ?_
           refine JL.val (.bool false) (some 255) (gives_pickF rfl) ?_
           refine JL.mv (.bool false) ?_
           refine JL.off 27 256 true (some 257) rfl ?_
           refine JL.off 27 256 true (some 258) rfl ?_
           refine JL.val (.bool false) (some 259) (gives_pickF rfl) ?_
           refine JL.mv (.bool false) ?_
           refine JL.off 31 260 true (some 261) rfl ?_
           refine JL.off 31 260 true (some 262) rfl ?_
           refine JL.val (.bool false) (some 263) (gives_pickF rfl) ?_
           refine JL.mv (.bool false) ?_
           refine JL.off 35 264 true (some 265) rfl ?_
           refine JL.off 35 264 true (some 266) rfl ?_
           refine JL.val (.bool false) (some 267) (gives_pickF rfl) ?_
           refine JL.mv (.bool false) ?_
           refine JL.off 39 268 true (some 269) rfl ?_
           refine JL.off 39 268 true (some 270) rfl ?_
           refine JL.val (.bool false) (some 271) (gives_pickF rfl) ?_
           refine JL.mv (.bool false) ?_
           refine JL.off 43 272 true (some 273) rfl ?_
           refine JL.off 43 272 true (some 274) rfl ?_
           refine JL.val (.bool false) (some 275) (gives_pickF rfl) ?_
           refine JL.mv (.bool false) ?_
           refine JL.off 47 276 true (some 277) rfl ?_
           refine JL.off 47 276 true (some 278) rfl ?_
           refine JL.val (.bool false) (some 279) (gives_pickF rfl) ?_
           refine JL.mv (.bool false) ?_
           refine JL.off 51 280 true (some 281) rfl ?_
           refine JL.off 51 280 true (some 282) rfl ?_
           refine JL.val (.bool false) (some 283) (gives_pickF rfl) ?_
           refine JL.as (.bool false) ?_
           refine JL.nil ?_
           refine JQ.then_normal ?_
           exact JQ.meet false () H0 (fun _ h => Heap.to h)
       · refine JL.off 3 232 true (some 233) h229 ?_
         refine JL.off 3 232 true (some 234) h229 ?_
         refine JL.val (.bool false) (some 235) (gives_pickF h229) ?_
         refine JL.mv (.bool false) ?_
         refine JL.off 7 236 true (some 237) rfl ?_
         refine JL.off 7 236 true (some 238) rfl ?_
         refine JL.val (.bool false) (some 239) (gives_pickF rfl) ?_
         refine JL.mv (.bool false) ?_
         refine JL.off 11 240 true (some 241) rfl ?_
         refine JL.off 11 240 true (some 242) rfl ?_
         refine JL.val (.bool false) (some 243) (gives_pickF rfl) ?_
         refine JL.mv (.bool false) ?_
         refine JL.off 15 244 true (some 245) rfl ?_
         refine JL.off 15 244 true (some 246) rfl ?_
         refine JL.val (.bool false) (some 247) (gives_pickF rfl) ?_
         refine JL.mv (.bool false) ?_
         refine JL.off 19 248 true (some 249) rfl ?_
         refine JL.off 19 248 true (some 250) rfl ?_
         refine JL.val (.bool false) (some 251) (gives_pickF rfl) ?_
         refine JL.mv (.bool false) ?_
         refine JL.off 23 252 true (some 253) rfl ?_
         refine JL.off 23 252 true (some 254) rfl ?_
         refine JL.val (.bool false) (some 255) (gives_pickF rfl) ?_
         refine JL.mv (.bool false) ?_
         refine JL.off 27 256 true (some 257) rfl ?_
         refine JL.off 27 256 true (some 258) rfl ?_
         refine JL.val (.bool false) (some 259) (gives_pickF rfl) ?_
         refine JL.mv (.bool false) ?_
         refine JL.off 31 260 true (some 261) rfl ?_
         refine JL.off 31 260 true (some 262) rfl ?_
         refine JL.val (.bool false) (some 263) (gives_pickF rfl) ?_
         refine JL.mv (.bool false) ?_
         refine JL.off 35 264 true (some 265) rfl ?_
         refine JL.off 35 264 true (some 266) rfl ?_
         refine JL.val (.bool false) (some 267) (gives_pickF rfl) ?_
         refine JL.mv (.bool false) ?_
         refine JL.off 39 268 true (some 269) rfl ?_
         refine JL.off 39 268 true (some 270) rfl ?_
         refine JL.val (.bool false) (some 271) (gives_pickF rfl) ?_
         refine JL.mv (.bool false) ?_
         refine JL.off 43 272 true (some 273) rfl ?_
         refine JL.off 43 272 true (some 274) rfl ?_
         refine JL.val (.bool false) (some 275) (gives_pickF rfl) ?_
         refine JL.mv (.bool false) ?_
         refine JL.off 47 276 true (some 277) rfl ?_
         refine JL.off 47 276 true (some 278) rfl ?_
         refine JL.val (.bool false) (some 279) (gives_pickF rfl) ?_
         refine JL.mv (.bool false) ?_
         refine JL.off 51 280 true (some 281) rfl ?_
         refine JL.off 51 280 true (some 282) rfl ?_
         refine JL.val (.bool false) (some 283) (gives_pickF rfl) ?_
         refine JL.as (.bool false) ?_
         refine JL.nil ?_
         refine JQ.then_normal ?_
         exact JQ.meet false () H0 (fun _ h => Heap.to h)
     · clear H0
       rintro ok213 ⟨⟩ H0
       replace H0 : law33_JonesNames.k3 t1 n100 t103 t110 t116 t119 t122 t125 t137 t144 t148 t156 z197 ok213 = some r := H0
       unfold law33_JonesNames.k3 at H0
       refine JQ.sub [(1, .pointer (some ⟨b7, 0, none⟩)), (31, .int .i64 n100), (33, .int .i64 t103.2), (35, .int .i64 t110.2), (37, .pointer (some ⟨b118, 0, none⟩)), (38, .int .i64 t116.2), (40, .int .i64 t119.2), (42, .int .i64 t122.2), (44, .int .i64 t125.2), (46, .int .i64 t137.2), (48, .int .i64 t144.2), (50, .int .i64 t148.2), (52, .int .i64 t156.2), (54, .int .i64 z197), (55, .bool ok213)] ?_
       refine JQ.turn (Δ' := [At.box b7 25 (cl_25 t1), At.box b118 25 (cl_25 t116.1)]) (fun _ h => h.to) ?_
       refine J.seq ?_
       refine J.region ?_
       refine JL.mv (.bool ok213) ?_
       refine JL.mv (.bool ok213) ?_
       rcases ite_cases H0 with ⟨h214, H0⟩ | ⟨h214, H0⟩
       · refine JL.on 1 285 h214 ?_
         refine JL.mv (.int .i64 n100) ?_
         refine JL.on 1 285 h214 ?_
         refine JL.pur (.bool (decide (n100 = 4))) (some 287) ?_
         refine JL.val (.bool (decide (n100 = 4))) (some 288) (gives_pickT h214) ?_
         refine JL.mv (.bool (decide (n100 = 4))) ?_
         rcases ite_cases H0 with ⟨h215, H0⟩ | ⟨h215, H0⟩
         · refine JL.on 5 289 h215 ?_
           refine JL.mv (.int .i64 t103.2) ?_
           refine JL.on 5 289 h215 ?_
           refine JL.pur (.bool (decide (t103.2 = 8))) (some 291) ?_
           refine JL.val (.bool (decide (t103.2 = 8))) (some 292) (gives_pickT h215) ?_
           refine JL.mv (.bool (decide (t103.2 = 8))) ?_
           rcases ite_cases H0 with ⟨h216, H0⟩ | ⟨h216, H0⟩
           · refine JL.on 9 293 h216 ?_
             refine JL.mv (.int .i64 t110.2) ?_
             refine JL.on 9 293 h216 ?_
             refine JL.pur (.bool (decide (t110.2 = 8))) (some 295) ?_
             refine JL.val (.bool (decide (t110.2 = 8))) (some 296) (gives_pickT h216) ?_
             refine JL.mv (.bool (decide (t110.2 = 8))) ?_
             rcases ite_cases H0 with ⟨h217, H0⟩ | ⟨h217, H0⟩
             · refine JL.on 13 297 h217 ?_
               refine JL.mv (.int .i64 t116.2) ?_
               refine JL.on 13 297 h217 ?_
               refine JL.pur (.bool (decide (t116.2 = 0))) (some 299) ?_
               refine JL.val (.bool (decide (t116.2 = 0))) (some 300) (gives_pickT h217) ?_
               refine JL.mv (.bool (decide (t116.2 = 0))) ?_
               rcases ite_cases H0 with ⟨h218, H0⟩ | ⟨h218, H0⟩
               · refine JL.on 17 301 h218 ?_
                 refine JL.val (mv_25 t116.1) (some 302) (yields_load_boxes 1 0 (cl_25 t116.1) (holds_box b118 25 (cl_25 t116.1)) tyAgg_25 tySize_25) ?_
                 refine JL.on 17 301 h218 ?_
                 refine JL.val (mv_25 t1) (some 303) (yields_load_boxes 0 0 (cl_25 t1) (holds_box b7 25 (cl_25 t1)) tyAgg_25 tySize_25) ?_
                 refine JL.on 17 301 h218 ?_
                 refine JL.val (.bool (decide (t116.1 = t1))) (some 304) (gives_eql eqg_25 (fun w => eqt_25 t116.1 t1 w)) ?_
                 refine JL.val (.bool (decide (t116.1 = t1))) (some 305) (gives_pickT h218) ?_
                 refine JL.mv (.bool (decide (t116.1 = t1))) ?_
                 rcases ite_cases H0 with ⟨h219, H0⟩ | ⟨h219, H0⟩
                 · refine JL.on 22 306 h219 ?_
                   refine JL.mv (.int .i64 t119.2) ?_
                   refine JL.on 22 306 h219 ?_
                   refine JL.pur (.bool (decide (t119.2 = 6))) (some 308) ?_
                   refine JL.val (.bool (decide (t119.2 = 6))) (some 309) (gives_pickT h219) ?_
                   refine JL.mv (.bool (decide (t119.2 = 6))) ?_
                   rcases ite_cases H0 with ⟨h220, H0⟩ | ⟨h220, H0⟩
                   · refine JL.on 26 310 h220 ?_
                     refine JL.mv (.int .i64 t122.2) ?_
                     refine JL.on 26 310 h220 ?_
                     refine JL.pur (.bool (decide (t122.2 = 2))) (some 312) ?_
                     refine JL.val (.bool (decide (t122.2 = 2))) (some 313) (gives_pickT h220) ?_
                     refine JL.mv (.bool (decide (t122.2 = 2))) ?_
                     rcases ite_cases H0 with ⟨h221, H0⟩ | ⟨h221, H0⟩
                     · refine JL.on 30 314 h221 ?_
                       refine JL.mv (.int .i64 t125.2) ?_
                       refine JL.on 30 314 h221 ?_
                       refine JL.pur (.bool (decide (t125.2 = 2))) (some 316) ?_
                       refine JL.val (.bool (decide (t125.2 = 2))) (some 317) (gives_pickT h221) ?_
                       refine JL.mv (.bool (decide (t125.2 = 2))) ?_
                       rcases ite_cases H0 with ⟨h222, H0⟩ | ⟨h222, H0⟩
                       · refine JL.on 34 318 h222 ?_
                         refine JL.mv (.int .i64 t137.2) ?_
                         refine JL.on 34 318 h222 ?_
                         refine JL.pur (.bool (decide (t137.2 = 14))) (some 320) ?_
                         refine JL.val (.bool (decide (t137.2 = 14))) (some 321) (gives_pickT h222) ?_
                         refine JL.mv (.bool (decide (t137.2 = 14))) ?_
                         rcases ite_cases H0 with ⟨h223, H0⟩ | ⟨h223, H0⟩
                         · refine JL.on 38 322 h223 ?_
                           refine JL.mv (.int .i64 t144.2) ?_
                           refine JL.on 38 322 h223 ?_
                           refine JL.pur (.bool (decide (t144.2 = 4))) (some 324) ?_
                           refine JL.val (.bool (decide (t144.2 = 4))) (some 325) (gives_pickT h223) ?_
                           refine JL.mv (.bool (decide (t144.2 = 4))) ?_
                           rcases ite_cases H0 with ⟨h224, H0⟩ | ⟨h224, H0⟩
                           · refine JL.on 42 326 h224 ?_
                             refine JL.mv (.int .i64 t148.2) ?_
                             refine JL.on 42 326 h224 ?_
                             refine JL.pur (.bool (decide (t148.2 = 8))) (some 328) ?_
                             refine JL.val (.bool (decide (t148.2 = 8))) (some 329) (gives_pickT h224) ?_
                             refine JL.mv (.bool (decide (t148.2 = 8))) ?_
                             rcases ite_cases H0 with ⟨h225, H0⟩ | ⟨h225, H0⟩
                             · refine JL.on 46 330 h225 ?_
                               refine JL.mv (.int .i64 t156.2) ?_
                               refine JL.on 46 330 h225 ?_
                               refine JL.pur (.bool (decide (t156.2 = 18))) (some 332) ?_
                               refine JL.val (.bool (decide (t156.2 = 18))) (some 333) (gives_pickT h225) ?_
                               refine JL.mv (.bool (decide (t156.2 = 18))) ?_
                               rcases ite_cases H0 with ⟨h226, H0⟩ | ⟨h226, H0⟩
                               · refine JL.on 50 334 h226 ?_
                                 refine JL.mv (.int .i64 z197) ?_
                                 refine JL.on 50 334 h226 ?_
                                 refine JL.pur (.bool (decide (z197 = 16))) (some 336) ?_
                                 refine JL.val (.bool (decide (z197 = 16))) (some 337) (gives_pickT h226) ?_
                                 refine JL.as (.bool (decide (z197 = 16))) ?_
                                 refine JL.nil ?_
                                 refine JQ.then_normal ?_
                                 refine JQ.sub [(0, .bool (decide (z197 = 16)))] ?_
                                 refine JQ.mask [] [false, false] ?_
                                 refine J.ret ?_
                                 obtain rfl := Option.some.inj H0
                                 exact JQ.done' (rs := [.tmp 0]) (vs := [.bool (decide (z197 = 16))]) [] (.inr rfl) ⟨by kernel_rfl, trivial⟩ (fun _ h => Heap.to h) ⟨rfl, rfl⟩
                               · refine JL.off 50 334 true (some 335) h226 ?_
                                 refine JL.off 50 334 true (some 336) h226 ?_
                                 refine JL.val (.bool false) (some 337) (gives_pickF h226) ?_
                                 refine JL.as (.bool false) ?_
                                 refine JL.nil ?_
                                 refine JQ.then_normal ?_
                                 refine JQ.sub [(0, .bool false)] ?_
                                 refine JQ.mask [] [false, false] ?_
                                 refine J.ret ?_
                                 obtain rfl := Option.some.inj H0
                                 exact JQ.done' (rs := [.tmp 0]) (vs := [.bool false]) [] (.inr rfl) ⟨by kernel_rfl, trivial⟩ (fun _ h => Heap.to h) ⟨rfl, rfl⟩
                             · refine JL.off 46 330 true (some 331) h225 ?_
                               refine JL.off 46 330 true (some 332) h225 ?_
                               refine JL.val (.bool false) (some 333) (gives_pickF h225) ?_
                               refine JL.mv (.bool false) ?_
                               refine JL.off 50 334 true (some 335) rfl ?_
                               refine JL.off 50 334 true (some 336) rfl ?_
                               refine JL.val (.bool false) (some 337) (gives_pickF rfl) ?_
                               refine JL.as (.bool false) ?_
                               refine JL.nil ?_
                               refine JQ.then_normal ?_
                               refine JQ.sub [(0, .bool false)] ?_
                               refine JQ.mask [] [false, false] ?_
                               refine J.ret ?_
                               obtain rfl := Option.some.inj H0
                               exact JQ.done' (rs := [.tmp 0]) (vs := [.bool false]) [] (.inr rfl) ⟨by kernel_rfl, trivial⟩ (fun _ h => Heap.to h) ⟨rfl, rfl⟩
                           · refine JL.off 42 326 true (some 327) h224 ?_
                             refine JL.off 42 326 true (some 328) h224 ?_
                             refine JL.val (.bool false) (some 329) (gives_pickF h224) ?_
                             refine JL.mv (.bool false) ?_
                             refine JL.off 46 330 true (some 331) rfl ?_
                             refine JL.off 46 330 true (some 332) rfl ?_
                             refine JL.val (.bool false) (some 333) (gives_pickF rfl) ?_
                             refine JL.mv (.bool false) ?_
                             refine JL.off 50 334 true (some 335) rfl ?_
                             refine JL.off 50 334 true (some 336) rfl ?_
                             refine JL.val (.bool false) (some 337) (gives_pickF rfl) ?_
                             refine JL.as (.bool false) ?_
                             refine JL.nil ?_
                             refine JQ.then_normal ?_
                             refine JQ.sub [(0, .bool false)] ?_
                             refine JQ.mask [] [false, false] ?_
                             refine J.ret ?_
                             obtain rfl := Option.some.inj H0
                             exact JQ.done' (rs := [.tmp 0]) (vs := [.bool false]) [] (.inr rfl) ⟨by kernel_rfl, trivial⟩ (fun _ h => Heap.to h) ⟨rfl, rfl⟩
                         · refine JL.off 38 322 true (some 323) h223 ?_
                           refine JL.off 38 322 true (some 324) h223 ?_
                           refine JL.val (.bool false) (some 325) (gives_pickF h223) ?_
                           refine JL.mv (.bool false) ?_
                           refine JL.off 42 326 true (some 327) rfl ?_
                           refine JL.off 42 326 true (some 328) rfl ?_
                           refine JL.val (.bool false) (some 329) (gives_pickF rfl) ?_
                           refine JL.mv (.bool false) ?_
                           refine JL.off 46 330 true (some 331) rfl ?_
                           refine JL.off 46 330 true (some 332) rfl ?_
                           refine JL.val (.bool false) (some 333) (gives_pickF rfl) ?_
                           refine JL.mv (.bool false) ?_
                           refine JL.off 50 334 true (some 335) rfl ?_
                           refine JL.off 50 334 true (some 336) rfl ?_
                           refine JL.val (.bool false) (some 337) (gives_pickF rfl) ?_
                           refine JL.as (.bool false) ?_
                           refine JL.nil ?_
                           refine JQ.then_normal ?_
                           refine JQ.sub [(0, .bool false)] ?_
                           refine JQ.mask [] [false, false] ?_
                           refine J.ret ?_
                           obtain rfl := Option.some.inj H0
                           exact JQ.done' (rs := [.tmp 0]) (vs := [.bool false]) [] (.inr rfl) ⟨by kernel_rfl, trivial⟩ (fun _ h => Heap.to h) ⟨rfl, rfl⟩
                       · refine JL.off 34 318 true (some 319) h222 ?_
                         refine JL.off 34 318 true (some 320) h222 ?_
                         refine JL.val (.bool false) (some 321) (gives_pickF h222) ?_
                         refine JL.mv (.bool false) ?_
                         refine JL.off 38 322 true (some 323) rfl ?_
                         refine JL.off 38 322 true (some 324) rfl ?_
                         refine JL.val (.bool false) (some 325) (gives_pickF rfl) ?_
                         refine JL.mv (.bool false) ?_
                         refine JL.off 42 326 true (some 327) rfl ?_
                         refine JL.off 42 326 true (some 328) rfl ?_
                         refine JL.val (.bool false) (some 329) (gives_pickF rfl) ?_
                         refine JL.mv (.bool false) ?_
                         refine JL.off 46 330 true (some 331) rfl ?_
                         refine JL.off 46 330 true (some 332) rfl ?_
                         refine JL.val (.bool false) (some 333) (gives_pickF rfl) ?_
                         refine JL.mv (.bool false) ?_
                         refine JL.off 50 334 true (some 335) rfl ?_
                         refine JL.off 50 334 true (some 336) rfl ?_
                         refine JL.val (.bool false) (some 337) (gives_pickF rfl) ?_
                         refine JL.as (.bool false) ?_
                         refine JL.nil ?_
                         refine JQ.then_normal ?_
                         refine JQ.sub [(0, .bool false)] ?_
                         refine JQ.mask [] [false, false] ?_
                         refine J.ret ?_
                         obtain rfl := Option.some.inj H0
                         exact JQ.done' (rs := [.tmp 0]) (vs := [.bool false]) [] (.inr rfl) ⟨by kernel_rfl, trivial⟩ (fun _ h => Heap.to h) ⟨rfl, rfl⟩
                     · refine JL.off 30 314 true (some 315) h221 ?_
                       refine JL.off 30 314 true (some 316) h221 ?_
                       refine JL.val (.bool false) (some 317) (gives_pickF h221) ?_
                       refine JL.mv (.bool false) ?_
                       refine JL.off 34 318 true (some 319) rfl ?_
                       refine JL.off 34 318 true (some 320) rfl ?_
                       refine JL.val (.bool false) (some 321) (gives_pickF rfl) ?_
                       refine JL.mv (.bool false) ?_
                       refine JL.off 38 322 true (some 323) rfl ?_
                       refine JL.off 38 322 true (some 324) rfl ?_
                       refine JL.val (.bool false) (some 325) (gives_pickF rfl) ?_
                       refine JL.mv (.bool false) ?_
                       refine JL.off 42 326 true (some 327) rfl ?_
                       refine JL.off 42 326 true (some 328) rfl ?_
                       refine JL.val (.bool false) (some 329) (gives_pickF rfl) ?_
                       refine JL.mv (.bool false) ?_
                       refine JL.off 46 330 true (some 331) rfl ?_
                       refine JL.off 46 330 true (some 332) rfl ?_
                       refine JL.val (.bool false) (some 333) (gives_pickF rfl) ?_
                       refine JL.mv (.bool false) ?_
                       refine JL.off 50 334 true (some 335) rfl ?_
                       refine JL.off 50 334 true (some 336) rfl ?_
                       refine JL.val (.bool false) (some 337) (gives_pickF rfl) ?_
                       refine JL.as (.bool false) ?_
                       refine JL.nil ?_
                       refine JQ.then_normal ?_
                       refine JQ.sub [(0, .bool false)] ?_
                       refine JQ.mask [] [false, false] ?_
                       refine J.ret ?_
                       obtain rfl := Option.some.inj H0
                       exact JQ.done' (rs := [.tmp 0]) (vs := [.bool false]) [] (.inr rfl) ⟨by kernel_rfl, trivial⟩ (fun _ h => Heap.to h) ⟨rfl, rfl⟩
                   · refine JL.off 26 310 true (some 311) h220 ?_
                     refine JL.off 26 310 true (some 312) h220 ?_
                     refine JL.val (.bool false) (some 313) (gives_pickF h220) ?_
                     refine JL.mv (.bool false) ?_
                     refine JL.off 30 314 true (some 315) rfl ?_
                     refine JL.off 30 314 true (some 316) rfl ?_
                     refine JL.val (.bool false) (some 317) (gives_pickF rfl) ?_
                     refine JL.mv (.bool false) ?_
                     refine JL.off 34 318 true (some 319) rfl ?_
                     refine JL.off 34 318 true (some 320) rfl ?_
                     refine JL.val (.bool false) (some 321) (gives_pickF rfl) ?_
                     refine JL.mv (.bool false) ?_
                     refine JL.off 38 322 true (some 323) rfl ?_
                     refine JL.off 38 322 true (some 324) rfl ?_
                     refine JL.val (.bool false) (some 325) (gives_pickF rfl) ?_
                     refine JL.mv (.bool false) ?_
                     refine JL.off 42 326 true (some 327) rfl ?_
                     refine JL.off 42 326 true (some 328) rfl ?_
                     refine JL.val (.bool false) (some 329) (gives_pickF rfl) ?_
                     refine JL.mv (.bool false) ?_
                     refine JL.off 46 330 true (some 331) rfl ?_
                     refine JL.off 46 330 true (some 332) rfl ?_
                     refine JL.val (.bool false) (some 333) (gives_pickF rfl) ?_
                     refine JL.mv (.bool false) ?_
                     refine JL.off 50 334 true (some 335) rfl ?_
                     refine JL.off 50 334 true (some 336) rfl ?_
                     refine JL.val (.bool false) (some 337) (gives_pickF rfl) ?_
                     refine JL.as (.bool false) ?_
                     refine JL.nil ?_
                     refine JQ.then_normal ?_
                     refine JQ.sub [(0, .bool false)] ?_
                     refine JQ.mask [] [false, false] ?_
                     refine J.ret ?_
                     obtain rfl := Option.some.inj H0
                     exact JQ.done' (rs := [.tmp 0]) (vs := [.bool false]) [] (.inr rfl) ⟨by kernel_rfl, trivial⟩ (fun _ h => Heap.to h) ⟨rfl, rfl⟩
                 · refine JL.off 22 306 true (some 307) h219 ?_
                   refine JL.off 22 306 true (some 308) h219 ?_
                   refine JL.val (.bool false) (some 309) (gives_pickF h219) ?_
                   refine JL.mv (.bool false) ?_
                   refine JL.off 26 310 true (some 311) rfl ?_
                   refine JL.off 26 310 true (some 312) rfl ?_
                   refine JL.val (.bool false) (some 313) (gives_pickF rfl) ?_
                   refine JL.mv (.bool false) ?_
                   refine JL.off 30 314 true (some 315) rfl ?_
                   refine JL.off 30 314 true (some 316) rfl ?_
                   refine JL.val (.bool false) (some 317) (gives_pickF rfl) ?_
                   refine JL.mv (.bool false) ?_
                   refine JL.off 34 318 true (some 319) rfl ?_
                   refine JL.off 34 318 true (some 320) rfl ?_
                   refine JL.val (.bool false) (some 321) (gives_pickF rfl) ?_
                   refine JL.mv (.bool false) ?_
                   refine JL.off 38 322 true (some 323) rfl ?_
                   refine JL.off 38 322 true (some 324) rfl ?_
                   refine JL.val (.bool false) (some 325) (gives_pickF rfl) ?_
                   refine JL.mv (.bool false) ?_
                   refine JL.off 42 326 true (some 327) rfl ?_
                   refine JL.off 42 326 true (some 328) rfl ?_
                   refine JL.val (.bool false) (some 329) (gives_pickF rfl) ?_
                   refine JL.mv (.bool false) ?_
                   refine JL.off 46 330 true (some 331) rfl ?_
                   refine JL.off 46 330 true (some 332) rfl ?_
                   refine JL.val (.bool false) (some 333) (gives_pickF rfl) ?_
                   refine JL.mv (.bool false) ?_
                   refine JL.off 50 334 true (some 335) rfl ?_
                   refine JL.off 50 334 true (some 336) rfl ?_
                   refine JL.val (.bool false) (some 337) (gives_pickF rfl) ?_
                   refine JL.as (.bool false) ?_
                   refine JL.nil ?_
                   refine JQ.then_normal ?_
                   refine JQ.sub [(0, .bool false)] ?_
                   refine JQ.mask [] [false, false] ?_
                   refine J.ret ?_
                   obtain rfl := Option.some.inj H0
                   exact JQ.done' (rs := [.tmp 0]) (vs := [.bool false]) [] (.inr rfl) ⟨by kernel_rfl, trivial⟩ (fun _ h => Heap.to h) ⟨rfl, rfl⟩
               · refine JL.off 17 301 true (some 302) h218 ?_
                 refine JL.off 17 301 true (some 303) h218 ?_
                 refine JL.off 17 301 true (some 304) h218 ?_
                 refine JL.val (.bool false) (some 305) (gives_pickF h218) ?_
                 refine JL.mv (.bool false) ?_
                 refine JL.off 22 306 true (some 307) rfl ?_
                 refine JL.off 22 306 true (some 308) rfl ?_
                 refine JL.val (.bool false) (some 309) (gives_pickF rfl) ?_
                 refine JL.mv (.bool false) ?_
                 refine JL.off 26 310 true (some 311) rfl ?_
                 refine JL.off 26 310 true (some 312) rfl ?_
                 refine JL.val (.bool false) (some 313) (gives_pickF rfl) ?_
                 refine JL.mv (.bool false) ?_
                 refine JL.off 30 314 true (some 315) rfl ?_
                 refine JL.off 30 314 true (some 316) rfl ?_
                 refine JL.val (.bool false) (some 317) (gives_pickF rfl) ?_
                 refine JL.mv (.bool false) ?_
                 refine JL.off 34 318 true (some 319) rfl ?_
                 refine JL.off 34 318 true (some 320) rfl ?_
                 refine JL.val (.bool false) (some 321) (gives_pickF rfl) ?_
                 refine JL.mv (.bool false) ?_
                 refine JL.off 38 322 true (some 323) rfl ?_
                 refine JL.off 38 322 true (some 324) rfl ?_
                 refine JL.val (.bool false) (some 325) (gives_pickF rfl) ?_
                 refine JL.mv (.bool false) ?_
                 refine JL.off 42 326 true (some 327) rfl ?_
                 refine JL.off 42 326 true (some 328) rfl ?_
                 refine JL.val (.bool false) (some 329) (gives_pickF rfl) ?_
                 refine JL.mv (.bool false) ?_
                 refine JL.off 46 330 true (some 331) rfl ?_
                 refine JL.off 46 330 true (some 332) rfl ?_
                 refine JL.val (.bool false) (some 333) (gives_pickF rfl) ?_
                 refine JL.mv (.bool false) ?_
                 refine JL.off 50 334 true (some 335) rfl ?_
                 refine JL.off 50 334 true (some 336) rfl ?_
                 refine JL.val (.bool false) (some 337) (gives_pickF rfl) ?_
                 refine JL.as (.bool false) ?_
                 refine JL.nil ?_
                 refine JQ.then_normal ?_
                 refine JQ.sub [(0, .bool false)] ?_
                 refine JQ.mask [] [false, false] ?_
                 refine J.ret ?_
                 obtain rfl := Option.some.inj H0
                 exact JQ.done' (rs := [.tmp 0]) (vs := [.bool false]) [] (.inr rfl) ⟨by kernel_rfl, trivial⟩ (fun _ h => Heap.to h) ⟨rfl, rfl⟩
             · refine JL.off 13 297 true (some 298) h217 ?_
               refine JL.off 13 297 true (some 299) h217 ?_
               refine JL.val (.bool false) (some 300) (gives_pickF h217) ?_
               refine JL.mv (.bool false) ?_
               refine JL.off 17 301 true (some 302) rfl ?_
               refine JL.off 17 301 true (some 303) rfl ?_
               refine JL.off 17 301 true (some 304) rfl ?_
               refine JL.val (.bool false) (some 305) (gives_pickF rfl) ?_
               refine JL.mv (.bool false) ?_
               refine JL.off 22 306 true (some 307) rfl ?_
               refine JL.off 22 306 true (some 308) rfl ?_
               refine JL.val (.bool false) (some 309) (gives_pickF rfl) ?_
               refine JL.mv (.bool false) ?_
               refine JL.off 26 310 true (some 311) rfl ?_
               refine JL.off 26 310 true (some 312) rfl ?_
               refine JL.val (.bool false) (some 313) (gives_pickF rfl) ?_
               refine JL.mv (.bool false) ?_
               refine JL.off 30 314 true (some 315) rfl ?_
               refine JL.off 30 314 true (some 316) rfl ?_
               refine JL.val (.bool false) (some 317) (gives_pickF rfl) ?_
               refine JL.mv (.bool false) ?_
               refine JL.off 34 318 true (some 319) rfl ?_
               refine JL.off 34 318 true (some 320) rfl ?_
               refine JL.val (.bool false) (some 321) (gives_pickF rfl) ?_
               refine JL.mv (.bool false) ?_
               refine JL.off 38 322 true (some 323) rfl ?_
               refine JL.off 38 322 true (some 324) rfl ?_
               refine JL.val (.bool false) (some 325) (gives_pickF rfl) ?_
               refine JL.mv (.bool false) ?_
               refine JL.off 42 326 true (some 327) rfl ?_
               refine JL.off 42 326 true (some 328) rfl ?_
               refine JL.val (.bool false) (some 329) (gives_pickF rfl) ?_
               refine JL.mv (.bool false) ?_
               refine JL.off 46 330 true (some 331) rfl ?_
               refine JL.off 46 330 true (some 332) rfl ?_
               refine JL.val (.bool false) (some 333) (gives_pickF rfl) ?_
               refine JL.mv (.bool false) ?_
               refine JL.off 50 334 true (some 335) rfl ?_
               refine JL.off 50 334 true (some 336) rfl ?_
               refine JL.val (.bool false) (some 337) (gives_pickF rfl) ?_
               refine JL.as (.bool false) ?_
               refine JL.nil ?_
               refine JQ.then_normal ?_
               refine JQ.sub [(0, .bool false)] ?_
               refine JQ.mask [] [false, false] ?_
               refine J.ret ?_
               obtain rfl := Option.some.inj H0
               exact JQ.done' (rs := [.tmp 0]) (vs := [.bool false]) [] (.inr rfl) ⟨by kernel_rfl, trivial⟩ (fun _ h => Heap.to h) ⟨rfl, rfl⟩
           · refine JL.off 9 293 true (some 294) h216 ?_
             refine JL.off 9 293 true (some 295) h216 ?_
             refine JL.val (.bool false) (some 296) (gives_pickF h216) ?_
             refine JL.mv (.bool false) ?_
             refine JL.off 13 297 true (some 298) rfl ?_
             refine JL.off 13 297 true (some 299) rfl ?_
             refine JL.val (.bool false) (some 300) (gives_pickF rfl) ?_
             refine JL.mv (.bool false) ?_
             refine JL.off 17 301 true (some 302) rfl ?_
             refine JL.off 17 301 true (some 303) rfl ?_
             refine JL.off 17 301 true (some 304) rfl ?_
             refine JL.val (.bool false) (some 305) (gives_pickF rfl) ?_
             refine JL.mv (.bool false) ?_
             refine JL.off 22 306 true (some 307) rfl ?_
             refine JL.off 22 306 true (some 308) rfl ?_
             refine JL.val (.bool false) (some 309) (gives_pickF rfl) ?_
             refine JL.mv (.bool false) ?_
             refine JL.off 26 310 true (some 311) rfl ?_
             refine JL.off 26 310 true (some 312) rfl ?_
             refine JL.val (.bool false) (some 313) (gives_pickF rfl) ?_
             refine JL.mv (.bool false) ?_
             refine JL.off 30 314 true (some 315) rfl ?_
             refine JL.off 30 314 true (some 316) rfl ?_
             refine JL.val (.bool false) (some 317) (gives_pickF rfl) ?_
             refine JL.mv (.bool false) ?_
             refine JL.off 34 318 true (some 319) rfl ?_
             refine JL.off 34 318 true (some 320) rfl ?_
             refine JL.val (.bool false) (some 321) (gives_pickF rfl) ?_
             refine JL.mv (.bool false) ?_
             refine JL.off 38 322 true (some 323) rfl ?_
             refine JL.off 38 322 true (some 324) rfl ?_
             refine JL.val (.bool false) (some 325) (gives_pickF rfl) ?_
             refine JL.mv (.bool false) ?_
             refine JL.off 42 326 true (some 327) rfl ?_
             refine JL.off 42 326 true (some 328) rfl ?_
             refine JL.val (.bool false) (some 329) (gives_pickF rfl) ?_
             refine JL.mv (.bool false) ?_
             refine JL.off 46 330 true (some 331) rfl ?_
             refine JL.off 46 330 true (some 332) rfl ?_
             refine JL.val (.bool false) (some 333) (gives_pickF rfl) ?_
             refine JL.mv (.bool false) ?_
             refine JL.off 50 334 true (some 335) rfl ?_
             refine JL.off 50 334 true (some 336) rfl ?_
             refine JL.val (.bool false) (some 337) (gives_pickF rfl) ?_
             refine JL.as (.bool false) ?_
             refine JL.nil ?_
             refine JQ.then_normal ?_
             refine JQ.sub [(0, .bool false)] ?_
             refine JQ.mask [] [false, false] ?_
             refine J.ret ?_
             obtain rfl := Option.some.inj H0
             exact JQ.done' (rs := [.tmp 0]) (vs := [.bool false]) [] (.inr rfl) ⟨by kernel_rfl, trivial⟩ (fun _ h => Heap.to h) ⟨rfl, rfl⟩
         · refine JL.off 5 289 true (some 290) h215 ?_
           refine JL.off 5 289 true (some 291) h215 ?_
           refine JL.val (.bool false) (some 292) (gives_pickF h215) ?_
           refine JL.mv (.bool false) ?_
           refine JL.off 9 293 true (some 294) rfl ?_
           refine JL.off 9 293 true (some 295) rfl ?_
           refine JL.val (.bool false) (some 296) (gives_pickF rfl) ?_
           refine JL.mv (.bool false) ?_
           refine JL.off 13 297 true (some 298) rfl ?_
           refine JL.off 13 297 true (some 299) rfl ?_
           refine JL.val (.bool false) (some 300) (gives_pickF rfl) ?_
           refine JL.mv (.bool false) ?_
           refine JL.off 17 301 true (some 302) rfl ?_
           refine JL.off 17 301 true (some 303) rfl ?_
           refine JL.off 17 301 true (some 304) rfl ?_
           refine JL.val (.bool false) (some 305) (gives_pickF rfl) ?_
           refine JL.mv (.bool false) ?_
           refine JL.off 22 306 true (some 307) rfl ?_
           refine JL.off 22 306 true (some 308) rfl ?_
           refine JL.val (.bool false) (some 309) (gives_pickF rfl) ?_
           refine JL.mv (.bool false) ?_
           refine JL.off 26 310 true (some 311) rfl ?_
           refine JL.off 26 310 true (some 312) rfl ?_
           refine JL.val (.bool false) (some 313) (gives_pickF rfl) ?_
           refine JL.mv (.bool false) ?_
           refine JL.off 30 314 true (some 315) rfl ?_
           refine JL.off 30 314 true (some 316) rfl ?_
           refine JL.val (.bool false) (some 317) (gives_pickF rfl) ?_
           refine JL.mv (.bool false) ?_
           refine JL.off 34 318 true (some 319) rfl ?_
           refine JL.off 34 318 true (some 320) rfl ?_
           refine JL.val (.bool false) (some 321) (gives_pickF rfl) ?_
           refine JL.mv (.bool false) ?_
           refine JL.off 38 322 true (some 323) rfl ?_
           refine JL.off 38 322 true (some 324) rfl ?_
           refine JL.val (.bool false) (some 325) (gives_pickF rfl) ?_
           refine JL.mv (.bool false) ?_
           refine JL.off 42 326 true (some 327) rfl ?_
           refine JL.off 42 326 true (some 328) rfl ?_
           refine JL.val (.bool false) (some 329) (gives_pickF rfl) ?_
           refine JL.mv (.bool false) ?_
           refine JL.off 46 330 true (some 331) rfl ?_
           refine JL.off 46 330 true (some 332) rfl ?_
           refine JL.val (.bool false) (some 333) (gives_pickF rfl) ?_
           refine JL.mv (.bool false) ?_
           refine JL.off 50 334 true (some 335) rfl ?_
           refine JL.off 50 334 true (some 336) rfl ?_
           refine JL.val (.bool false) (some 337) (gives_pickF rfl) ?_
           refine JL.as (.bool false) ?_
           refine JL.nil ?_
           refine JQ.then_normal ?_
           refine JQ.sub [(0, .bool false)] ?_
           refine JQ.mask [] [false, false] ?_
           refine J.ret ?_
           obtain rfl := Option.some.inj H0
           exact JQ.done' (rs := [.tmp 0]) (vs := [.bool false]) [] (.inr rfl) ⟨by kernel_rfl, trivial⟩ (fun _ h => Heap.to h) ⟨rfl, rfl⟩
       · refine JL.off 1 285 true (some 286) h214 ?_
         refine JL.off 1 285 true (some 287) h214 ?_
         refine JL.val (.bool false) (some 288) (gives_pickF h214) ?_
         refine JL.mv (.bool false) ?_
         refine JL.off 5 289 true (some 290) rfl ?_
         refine JL.off 5 289 true (some 291) rfl ?_
         refine JL.val (.bool false) (some 292) (gives_pickF rfl) ?_
         refine JL.mv (.bool false) ?_
         refine JL.off 9 293 true (some 294) rfl ?_
         refine JL.off 9 293 true (some 295) rfl ?_
         refine JL.val (.bool false) (some 296) (gives_pickF rfl) ?_
         refine JL.mv (.bool false) ?_
         refine JL.off 13 297 true (some 298) rfl ?_
         refine JL.off 13 297 true (some 299) rfl ?_
         refine JL.val (.bool false) (some 300) (gives_pickF rfl) ?_
         refine JL.mv (.bool false) ?_
         refine JL.off 17 301 true (some 302) rfl ?_
         refine JL.off 17 301 true (some 303) rfl ?_
         refine JL.off 17 301 true (some 304) rfl ?_
         refine JL.val (.bool false) (some 305) (gives_pickF rfl) ?_
         refine JL.mv (.bool false) ?_
         refine JL.off 22 306 true (some 307) rfl ?_
         refine JL.off 22 306 true (some 308) rfl ?_
         refine JL.val (.bool false) (some 309) (gives_pickF rfl) ?_
         refine JL.mv (.bool false) ?_
         refine JL.off 26 310 true (some 311) rfl ?_
         refine JL.off 26 310 true (some 312) rfl ?_
         refine JL.val (.bool false) (some 313) (gives_pickF rfl) ?_
         refine JL.mv (.bool false) ?_
         refine JL.off 30 314 true (some 315) rfl ?_
         refine JL.off 30 314 true (some 316) rfl ?_
         refine JL.val (.bool false) (some 317) (gives_pickF rfl) ?_
         refine JL.mv (.bool false) ?_
         refine JL.off 34 318 true (some 319) rfl ?_
         refine JL.off 34 318 true (some 320) rfl ?_
         refine JL.val (.bool false) (some 321) (gives_pickF rfl) ?_
         refine JL.mv (.bool false) ?_
         refine JL.off 38 322 true (some 323) rfl ?_
         refine JL.off 38 322 true (some 324) rfl ?_
         refine JL.val (.bool false) (some 325) (gives_pickF rfl) ?_
         refine JL.mv (.bool false) ?_
         refine JL.off 42 326 true (some 327) rfl ?_
         refine JL.off 42 326 true (some 328) rfl ?_
         refine JL.val (.bool false) (some 329) (gives_pickF rfl) ?_
         refine JL.mv (.bool false) ?_
         refine JL.off 46 330 true (some 331) rfl ?_
         refine JL.off 46 330 true (some 332) rfl ?_
         refine JL.val (.bool false) (some 333) (gives_pickF rfl) ?_
         refine JL.mv (.bool false) ?_
         refine JL.off 50 334 true (some 335) rfl ?_
         refine JL.off 50 334 true (some 336) rfl ?_
         refine JL.val (.bool false) (some 337) (gives_pickF rfl) ?_
         refine JL.as (.bool false) ?_
         refine JL.nil ?_
         refine JQ.then_normal ?_
         refine JQ.sub [(0, .bool false)] ?_
         refine JQ.mask [] [false, false] ?_
         refine J.ret ?_
         obtain rfl := Option.some.inj H0
         exact JQ.done' (rs := [.tmp 0]) (vs := [.bool false]) [] (.inr rfl) ⟨by kernel_rfl, trivial⟩ (fun _ h => Heap.to h) ⟨rfl, rfl⟩


end Go.Proofs.Ytlfmmenlkpoodaa.M
