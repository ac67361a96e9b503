import Derived.Test.YtlfmmenlkpoodaaW1
set_option linter.unusedVariables false
set_option linter.unusedSimpArgs false
set_option maxRecDepth 100000
set_option maxHeartbeats 8000000
namespace Go.Proofs.Ytlfmmenlkpoodaa.M
open Go.GW Go.Proofs

theorem ref25_Div.ok (a1 : Cx) (b2 : Cx) (r : (Cx × Int)) (H0 : ref25_Div.f a1 b2 = some r) :
    Does Try.prog 46 [mv_23 a1, mv_23 b2].toArray [] [] false (fun v Δ => v = .tuple #[mv_23 r.1, .int .i64 r.2] ∧ Δ = []) := by
 refine Does.body (vs := [mv_23 a1, mv_23 b2]) Try.func46 rfl trivial trivial fun w S => ?_
 unfold ref25_Div.f at H0
 refine J.seq ?_
 refine J.region ?_
 refine JL.box (cl_23 a1) fun b3 => ?_
 refine JL.box (cl_23 b2) fun b4 => ?_
 refine JL.alloc (cl_23 zv_23) fun b5 => ?_
 refine JL.as (.int .i64 0) ?_
 refine JL.nil ?_
 refine JQ.then_normal ?_
 refine JQ.sub [(2, .pointer (some ⟨b3, 0, none⟩)), (3, .pointer (some ⟨b4, 0, none⟩)), (4, .pointer (some ⟨b5, 0, none⟩))] ?_
 refine J.seq ?_
 refine J.seq ?_
 refine J.region ?_
 refine JL.val (mv_23 a1) (some 12) (yields_load_boxes 0 0 (cl_23 a1) (holds_box b3 23 (cl_23 a1)) tyAgg_23 tySize_23) ?_
 refine JL.val (mv_23 b2) (some 13) (yields_load_boxes 1 0 (cl_23 b2) (holds_box b4 23 (cl_23 b2)) tyAgg_23 tySize_23) ?_
 obtain ⟨t6, hc7, H0⟩ := bind_some H0
 refine JL.call [] [] [] (ref25_Both.ok a1 b2 _ hc7) trivial ?_
 rintro _ _ ⟨rfl, rfl⟩
 refine JL.pur (.bool (!decide (t6 = 0))) (some 15) ?_
 refine JL.nil ?_
 refine JQ.then_normal ?_
 refine JQ.sub [(2, .pointer (some ⟨b3, 0, none⟩)), (3, .pointer (some ⟨b4, 0, none⟩)), (4, .pointer (some ⟨b5, 0, none⟩)), (15, .bool (!decide (t6 = 0)))] ?_
 rcases ite_cases H0 with ⟨h8, H0⟩ | ⟨h8, H0⟩
 · refine J.cond_true h8 ?_
   refine J.seq ?_
   refine J.region ?_
   refine JL.pur (mv_23 zv_23) (some 16) ?_
   refine JL.store 2 b5 0 23 (cl_23 zv_23) (cl_23 zv_23) tySize_23 ?_
   refine JL.as (.int .i64 8) ?_
   refine JL.nil ?_
   refine JQ.then_normal ?_
   refine JQ.sub [(4, .pointer (some ⟨b5, 0, none⟩)), (5, .int .i64 8)] ?_
   refine JQ.mask [At.box b5 23 (cl_23 zv_23)] [false, false, true] ?_
   refine J.ret ?_
   refine JQ.then_ret ?_
   obtain rfl := Option.some.inj H0
   exact JQ.done' (rs := [.cell 4 23, .tmp 5]) (vs := [.agg #[.int .i64 0, .int .i64 0, .int .i64 0], .int .i64 8]) [] (.inr rfl) ⟨⟨b5, 0, _, _, by kernel_rfl, by kernel_rfl, holds_box b5 23 (cl_23 zv_23), .inl ⟨tyAgg_23, tySize_23, rfl⟩⟩, by kernel_rfl, trivial⟩ (fun _ h => Heap.to (Heap.pick [] (by decide) h)) ⟨rfl, rfl⟩
 · refine J.cond_false h8 ?_
   refine J.skip ?_
   refine JQ.then_normal ?_
   refine JQ.sub [(2, .pointer (some ⟨b3, 0, none⟩)), (3, .pointer (some ⟨b4, 0, none⟩)), (4, .pointer (some ⟨b5, 0, none⟩))] ?_
   refine J.seq ?_
   refine J.join (T := Bool) (G := Unit) (fun t => ref25_Div.k1 a1 b2 t = some r) (fun t g => [(2, .pointer (some ⟨b3, 0, none⟩)), (3, .pointer (some ⟨b4, 0, none⟩)), (4, .pointer (some ⟨b5, 0, none⟩)), (24, .bool t)]) (fun t g => [At.box b3 23 (cl_23 a1), At.box b4 23 (cl_23 b2), At.box b5 23 (cl_23 zv_23)]) ?_ ?_
   · refine J.region ?_
     refine JL.pur (.pointer (some ⟨b4, 0, none⟩)) (some 17) ?_
     refine JL.val (.int .i64 b2.Re) (some 18) (yields_load_box 1 0 (holds_box b4 23 (cl_23 b2)) tyAgg_2) ?_
     refine JL.pur (.bool (decide (b2.Re = 0))) (some 19) ?_
     refine JL.mv (.bool (decide (b2.Re = 0))) ?_
     rcases ite_cases H0 with ⟨h72, H0⟩ | ⟨h72, H0⟩
     · refine JL.on 3 20 h72 ?_
       refine JL.pur (.pointer (some ⟨b4, 1, none⟩)) (some 21) ?_
       refine JL.on 3 20 h72 ?_
       refine JL.val (.int .i64 b2.Im) (some 22) (yields_load_box 1 1 (holds_box b4 23 (cl_23 b2)) tyAgg_2) ?_
       refine JL.on 3 20 h72 ?_
       refine JL.pur (.bool (decide (b2.Im = 0))) (some 23) ?_
       refine JL.val (.bool (decide (b2.Im = 0))) (some 24) (gives_pickT h72) ?_
       refine JL.nil ?_
       refine JQ.then_normal ?_
       exact JQ.meet (decide (b2.Im = 0)) () H0 (fun _ h => Heap.to h)
     · refine JL.off 3 20 true (some 21) h72 ?_
       refine JL.off 3 20 true (some 22) h72 ?_
       refine JL.off 3 20 true (some 23) h72 ?_
       refine JL.val (.bool false) (some 24) (gives_pickF h72) ?_
       refine JL.nil ?_
       refine JQ.then_normal ?_
       exact JQ.meet false () H0 (fun _ h => Heap.to h)
   · clear H0
     rintro x10 ⟨⟩ H0
     replace H0 : ref25_Div.k1 a1 b2 x10 = some r := H0
     unfold ref25_Div.k1 at H0
     refine JQ.sub [(2, .pointer (some ⟨b3, 0, none⟩)), (3, .pointer (some ⟨b4, 0, none⟩)), (4, .pointer (some ⟨b5, 0, none⟩)), (24, .bool x10)] ?_
     refine JQ.turn (Δ' := [At.box b3 23 (cl_23 a1), At.box b4 23 (cl_23 b2), At.box b5 23 (cl_23 zv_23)]) (fun _ h => h.to) ?_
     rcases ite_cases H0 with ⟨h11, H0⟩ | ⟨h11, H0⟩
     · refine J.cond_true h11 ?_
       refine J.seq ?_
       refine J.region ?_
       refine JL.pur (mv_23 zv_23) (some 25) ?_
       refine JL.store 2 b5 0 23 (cl_23 zv_23) (cl_23 zv_23) tySize_23 ?_
       refine JL.as (.int .i64 18) ?_
       refine JL.nil ?_
       refine JQ.then_normal ?_
       refine JQ.sub [(4, .pointer (some ⟨b5, 0, none⟩)), (5, .int .i64 18)] ?_
       refine JQ.mask [At.box b5 23 (cl_23 zv_23)] [false, false, true] ?_
       refine J.ret ?_
       refine JQ.then_ret ?_
       obtain rfl := Option.some.inj H0
       exact JQ.done' (rs := [.cell 4 23, .tmp 5]) (vs := [.agg #[.int .i64 0, .int .i64 0, .int .i64 0], .int .i64 18]) [] (.inr rfl) ⟨⟨b5, 0, _, _, by kernel_rfl, by kernel_rfl, holds_box b5 23 (cl_23 zv_23), .inl ⟨tyAgg_23, tySize_23, rfl⟩⟩, by kernel_rfl, trivial⟩ (fun _ h => Heap.to (Heap.pick [] (by decide) h)) ⟨rfl, rfl⟩
     · refine J.cond_false h11 ?_
       refine J.skip ?_
       refine JQ.then_normal ?_
       refine JQ.sub [(2, .pointer (some ⟨b3, 0, none⟩)), (3, .pointer (some ⟨b4, 0, none⟩)), (4, .pointer (some ⟨b5, 0, none⟩))] ?_
       refine J.seq ?_
       refine J.draw ?_
       refine QL.pur (.pointer (some ⟨b3, 0, none⟩)) (some 26) ?_
       refine QL.val (.int .i64 a1.Re) (some 27) (yields_load_box 0 0 (holds_box b3 23 (cl_23 a1)) tyAgg_2) ?_
       refine QL.pur (.pointer (some ⟨b4, 0, none⟩)) (some 28) ?_
       refine QL.val (.int .i64 b2.Re) (some 29) (yields_load_box 1 0 (holds_box b4 23 (cl_23 b2)) tyAgg_2) ?_
       refine QL.pur (.int .i64 (w64 (a1.Re * b2.Re))) (some 30) ?_
       refine QL.pur (.pointer (some ⟨b3, 1, none⟩)) (some 31) ?_
       refine QL.val (.int .i64 a1.Im) (some 32) (yields_load_box 0 1 (holds_box b3 23 (cl_23 a1)) tyAgg_2) ?_
       refine QL.pur (.pointer (some ⟨b4, 1, none⟩)) (some 33) ?_
       refine QL.val (.int .i64 b2.Im) (some 34) (yields_load_box 1 1 (holds_box b4 23 (cl_23 b2)) tyAgg_2) ?_
       refine QL.pur (.int .i64 (w64 (a1.Im * b2.Im))) (some 35) ?_
       refine QL.pur (.int .i64 (w64 ((w64 (a1.Re * b2.Re)) + (w64 (a1.Im * b2.Im))))) (some 36) ?_
       refine QL.pur (.pointer (some ⟨b3, 1, none⟩)) (some 37) ?_
       refine QL.val (.int .i64 a1.Im) (some 38) (yields_load_box 0 1 (holds_box b3 23 (cl_23 a1)) tyAgg_2) ?_
       refine QL.pur (.pointer (some ⟨b4, 0, none⟩)) (some 39) ?_
       refine QL.val (.int .i64 b2.Re) (some 40) (yields_load_box 1 0 (holds_box b4 23 (cl_23 b2)) tyAgg_2) ?_
       refine QL.pur (.int .i64 (w64 (a1.Im * b2.Re))) (some 41) ?_
       refine QL.pur (.pointer (some ⟨b3, 0, none⟩)) (some 42) ?_
       refine QL.val (.int .i64 a1.Re) (some 43) (yields_load_box 0 0 (holds_box b3 23 (cl_23 a1)) tyAgg_2) ?_
       refine QL.pur (.pointer (some ⟨b4, 1, none⟩)) (some 44) ?_
       refine QL.val (.int .i64 b2.Im) (some 45) (yields_load_box 1 1 (holds_box b4 23 (cl_23 b2)) tyAgg_2) ?_
       refine QL.pur (.int .i64 (w64 (a1.Re * b2.Im))) (some 46) ?_
       refine QL.pur (.int .i64 (w64 ((w64 (a1.Im * b2.Re)) - (w64 (a1.Re * b2.Im))))) (some 47) ?_
       obtain ⟨p12, ep12, H0⟩ := lt_some H0
       refine QL.as' (k := .i64) p12 ep12 ?_
       obtain ⟨q13, eq13, H0⟩ := lt_some H0
       refine QL.as' (k := .i64) q13 eq13 ?_
       refine QL.nil ?_
       refine JA.nil ?_
       refine JQ.then_normal ?_
       refine JQ.sub [(2, .pointer (some ⟨b3, 0, none⟩)), (3, .pointer (some ⟨b4, 0, none⟩)), (4, .pointer (some ⟨b5, 0, none⟩)), (6, .int .i64 p12), (7, .int .i64 q13)] ?_
       refine J.seq ?_
       refine J.draw ?_
       refine QL.pur (.pointer (some ⟨b4, 0, none⟩)) (some 48) ?_
       refine QL.val (.int .i64 b2.Re) (some 49) (yields_load_box 1 0 (holds_box b4 23 (cl_23 b2)) tyAgg_2) ?_
       refine QL.pur (.pointer (some ⟨b4, 0, none⟩)) (some 50) ?_
       refine QL.val (.int .i64 b2.Re) (some 51) (yields_load_box 1 0 (holds_box b4 23 (cl_23 b2)) tyAgg_2) ?_
       refine QL.pur (.int .i64 (w64 (b2.Re * b2.Re))) (some 52) ?_
       refine QL.pur (.pointer (some ⟨b4, 1, none⟩)) (some 53) ?_
       refine QL.val (.int .i64 b2.Im) (some 54) (yields_load_box 1 1 (holds_box b4 23 (cl_23 b2)) tyAgg_2) ?_
       refine QL.pur (.pointer (some ⟨b4, 1, none⟩)) (some 55) ?_
       refine QL.val (.int .i64 b2.Im) (some 56) (yields_load_box 1 1 (holds_box b4 23 (cl_23 b2)) tyAgg_2) ?_
       refine QL.pur (.int .i64 (w64 (b2.Im * b2.Im))) (some 57) ?_
       refine QL.pur (.int .i64 (w64 ((w64 (b2.Re * b2.Re)) + (w64 (b2.Im * b2.Im))))) (some 58) ?_
       refine QL.pur (.pointer (some ⟨b4, 2, none⟩)) (some 59) ?_
       refine QL.val (.int .i64 b2.Den) (some 60) (yields_load_box 1 2 (holds_box b4 23 (cl_23 b2)) tyAgg_2) ?_
       refine QL.pur (.pointer (some ⟨b3, 2, none⟩)) (some 61) ?_
       refine QL.val (.int .i64 a1.Den) (some 62) (yields_load_box 0 2 (holds_box b3 23 (cl_23 a1)) tyAgg_2) ?_
       obtain ⟨n14, en14, H0⟩ := lt_some H0
       refine QL.as' (k := .i64) n14 en14 ?_
       refine QL.as (.int .i64 b2.Den) ?_
       refine QL.as (.int .i64 a1.Den) ?_
       refine QL.nil ?_
       refine JA.nil ?_
       refine JQ.then_normal ?_
       refine JQ.sub [(4, .pointer (some ⟨b5, 0, none⟩)), (6, .int .i64 p12), (7, .int .i64 q13), (8, .int .i64 n14), (9, .int .i64 b2.Den), (10, .int .i64 a1.Den)] ?_
       refine JQ.mask [At.box b5 23 (cl_23 zv_23)] [false, false, true] ?_
       refine J.seq ?_
       refine J.region ?_
       refine JL.mv (.int .i64 p12) ?_
       refine JL.mv (.int .i64 q13) ?_
       obtain ⟨t15, hc16, H0⟩ := bind_some H0
       refine JL.call [] [] [] (ref25_Gcd.ok p12 q13 _ hc16) trivial ?_
       rintro _ _ ⟨rfl, rfl⟩
       refine JL.mv (.int .i64 n14) ?_
       obtain ⟨t17, hc18, H0⟩ := bind_some H0
       refine JL.call [] [] [] (ref25_Gcd.ok t15 n14 _ hc18) trivial ?_
       rintro _ _ ⟨rfl, rfl⟩
       refine JL.as (.int .i64 t17) ?_
       refine JL.nil ?_
       refine JQ.then_normal ?_
       refine JQ.sub [(4, .pointer (some ⟨b5, 0, none⟩)), (6, .int .i64 p12), (7, .int .i64 q13), (8, .int .i64 n14), (9, .int .i64 b2.Den), (10, .int .i64 a1.Den), (11, .int .i64 t17)] ?_
       refine J.seq ?_
       refine J.draw ?_
       refine QL.mv (.int .i64 p12) ?_
       refine QL.mv (.int .i64 t17) ?_
       obtain ⟨h19, H0⟩ := ite_must H0
       refine QL.val (.int .i64 (w64 (Int.tdiv p12 t17))) (some 70) (gives_quo .i64 p12 t17 h19) ?_
       refine QL.mv (.int .i64 q13) ?_
       refine QL.mv (.int .i64 t17) ?_
       obtain ⟨h20, H0⟩ := ite_must H0
       refine QL.val (.int .i64 (w64 (Int.tdiv q13 t17))) (some 73) (gives_quo .i64 q13 t17 h20) ?_
       refine QL.mv (.int .i64 n14) ?_
       refine QL.mv (.int .i64 t17) ?_
       obtain ⟨h21, H0⟩ := ite_must H0
       refine QL.val (.int .i64 (w64 (Int.tdiv n14 t17))) (some 76) (gives_quo .i64 n14 t17 h21) ?_
       obtain ⟨p22, ep22, H0⟩ := lt_some H0
       refine QL.as' (k := .i64) p22 ep22 ?_
       obtain ⟨q23, eq23, H0⟩ := lt_some H0
       refine QL.as' (k := .i64) q23 eq23 ?_
       obtain ⟨n24, en24, H0⟩ := lt_some H0
       refine QL.as' (k := .i64) n24 en24 ?_
       refine QL.nil ?_
       refine JA.nil ?_
       refine JQ.then_normal ?_
       refine JQ.sub [(4, .pointer (some ⟨b5, 0, none⟩)), (6, .int .i64 p22), (7, .int .i64 q23), (8, .int .i64 n24), (9, .int .i64 b2.Den), (10, .int .i64 a1.Den)] ?_
       refine J.seq ?_
       refine J.region ?_
       refine JL.mv (.int .i64 b2.Den) ?_
       refine JL.mv (.int .i64 a1.Den) ?_
       obtain ⟨t25, hc26, H0⟩ := bind_some H0
       refine JL.call [] [] [] (ref25_Gcd.ok b2.Den a1.Den _ hc26) trivial ?_
       rintro _ _ ⟨rfl, rfl⟩
       refine JL.as (.int .i64 t25) ?_
       refine JL.nil ?_
       refine JQ.then_normal ?_
       refine JQ.sub [(4, .pointer (some ⟨b5, 0, none⟩)), (6, .int .i64 p22), (7, .int .i64 q23), (8, .int .i64 n24), (9, .int .i64 b2.Den), (10, .int .i64 a1.Den), (11, .int .i64 t25)] ?_
       refine J.seq ?_
       refine J.draw ?_
       refine QL.mv (.int .i64 b2.Den) ?_
       refine QL.mv (.int .i64 t25) ?_
       obtain ⟨h27, H0⟩ := ite_must H0
       refine QL.val (.int .i64 (w64 (Int.tdiv b2.Den t25))) (some 82) (gives_quo .i64 b2.Den t25 h27) ?_
       refine QL.mv (.int .i64 a1.Den) ?_
       refine QL.mv (.int .i64 t25) ?_
       obtain ⟨h28, H0⟩ := ite_must H0
       refine QL.val (.int .i64 (w64 (Int.tdiv a1.Den t25))) (some 85) (gives_quo .i64 a1.Den t25 h28) ?_
       obtain ⟨d29, ed29, H0⟩ := lt_some H0
       refine QL.as' (k := .i64) d29 ed29 ?_
       obtain ⟨e30, ee30, H0⟩ := lt_some H0
       refine QL.as' (k := .i64) e30 ee30 ?_
       refine QL.nil ?_
       refine JA.nil ?_
       refine JQ.then_normal ?_
       refine JQ.sub [(4, .pointer (some ⟨b5, 0, none⟩)), (6, .int .i64 p22), (7, .int .i64 q23), (8, .int .i64 n24), (9, .int .i64 d29), (10, .int .i64 e30)] ?_
       refine J.seq ?_
       refine J.region ?_
       refine JL.mv (.int .i64 d29) ?_
       refine JL.mv (.int .i64 n24) ?_
       obtain ⟨t31, hc32, H0⟩ := bind_some H0
       refine JL.call [] [] [] (ref25_Gcd.ok d29 n24 _ hc32) trivial ?_
       rintro _ _ ⟨rfl, rfl⟩
       refine JL.as (.int .i64 t31) ?_
       refine JL.nil ?_
       refine JQ.then_normal ?_
       refine JQ.sub [(4, .pointer (some ⟨b5, 0, none⟩)), (6, .int .i64 p22), (7, .int .i64 q23), (8, .int .i64 n24), (9, .int .i64 d29), (10, .int .i64 e30), (11, .int .i64 t31)] ?_
       refine J.seq ?_
       refine J.draw ?_
       refine QL.mv (.int .i64 d29) ?_
       refine QL.mv (.int .i64 t31) ?_
       obtain ⟨h33, H0⟩ := ite_must H0
       refine QL.val (.int .i64 (w64 (Int.tdiv d29 t31))) (some 91) (gives_quo .i64 d29 t31 h33) ?_
       refine QL.mv (.int .i64 n24) ?_
       refine QL.mv (.int .i64 t31) ?_
       obtain ⟨h34, H0⟩ := ite_must H0
       refine QL.val (.int .i64 (w64 (Int.tdiv n24 t31))) (some 94) (gives_quo .i64 n24 t31 h34) ?_
       obtain ⟨d35, ed35, H0⟩ := lt_some H0
       refine QL.as' (k := .i64) d35 ed35 ?_
       obtain ⟨n36, en36, H0⟩ := lt_some H0
       refine QL.as' (k := .i64) n36 en36 ?_
       refine QL.nil ?_
       refine JA.nil ?_
       refine JQ.then_normal ?_
       refine JQ.sub [(4, .pointer (some ⟨b5, 0, none⟩)), (6, .int .i64 p22), (7, .int .i64 q23), (8, .int .i64 n36), (9, .int .i64 d35), (10, .int .i64 e30)] ?_
       refine J.seq ?_
       refine J.region ?_
       refine JL.mv (.int .i64 p22) ?_
       refine JL.mv (.int .i64 q23) ?_
       obtain ⟨t37, hc38, H0⟩ := bind_some H0
       refine JL.call [] [] [] (ref25_Gcd.ok p22 q23 _ hc38) trivial ?_
       rintro _ _ ⟨rfl, rfl⟩
       refine JL.mv (.int .i64 e30) ?_
       obtain ⟨t39, hc40, H0⟩ := bind_some H0
       refine JL.call [] [] [] (ref25_Gcd.ok t37 e30 _ hc40) trivial ?_
       rintro _ _ ⟨rfl, rfl⟩
       refine JL.as (.int .i64 t39) ?_
       refine JL.nil ?_
       refine JQ.then_normal ?_
       refine JQ.sub [(4, .pointer (some ⟨b5, 0, none⟩)), (6, .int .i64 p22), (7, .int .i64 q23), (8, .int .i64 n36), (9, .int .i64 d35), (10, .int .i64 e30), (11, .int .i64 t39)] ?_
       refine J.join (T := (Int × Int × Int)) (G := Unit) (fun t => ref25_Div.k2 d35 n36 t.1 t.2.1 t.2.2 = some r) (fun t g => [(4, .pointer (some ⟨b5, 0, none⟩)), (6, .int .i64 t.1), (7, .int .i64 t.2.1), (8, .int .i64 n36), (9, .int .i64 d35), (10, .int .i64 t.2.2)]) (fun t g => [At.box b5 23 (cl_23 zv_23)]) ?_ ?_
       · refine J.seq ?_
         refine J.region ?_
         refine JL.mv (.int .i64 t39) ?_
         refine JL.pur (.bool (decide (0 < t39))) (some 101) ?_
         refine JL.nil ?_
         refine JQ.then_normal ?_
         refine JQ.sub [(4, .pointer (some ⟨b5, 0, none⟩)), (6, .int .i64 p22), (7, .int .i64 q23), (8, .int .i64 n36), (9, .int .i64 d35), (10, .int .i64 e30), (11, .int .i64 t39), (101, .bool (decide (0 < t39)))] ?_
         rcases ite_cases H0 with ⟨h65, H0⟩ | ⟨h65, H0⟩
         · refine J.cond_true h65 ?_
           refine J.draw ?_
           refine QL.mv (.int .i64 p22) ?_
           refine QL.mv (.int .i64 t39) ?_
           obtain ⟨h66, H0⟩ := ite_must H0
           refine QL.val (.int .i64 (w64 (Int.tdiv p22 t39))) (some 104) (gives_quo .i64 p22 t39 h66) ?_
           refine QL.mv (.int .i64 q23) ?_
           refine QL.mv (.int .i64 t39) ?_
           obtain ⟨h67, H0⟩ := ite_must H0
           refine QL.val (.int .i64 (w64 (Int.tdiv q23 t39))) (some 107) (gives_quo .i64 q23 t39 h67) ?_
           refine QL.mv (.int .i64 e30) ?_
           refine QL.mv (.int .i64 t39) ?_
           obtain ⟨h68, H0⟩ := ite_must H0
           refine QL.val (.int .i64 (w64 (Int.tdiv e30 t39))) (some 110) (gives_quo .i64 e30 t39 h68) ?_
           obtain ⟨p69, ep69, H0⟩ := lt_some H0
           refine QL.as' (k := .i64) p69 ep69 ?_
           obtain ⟨q70, eq70, H0⟩ := lt_some H0
           refine QL.as' (k := .i64) q70 eq70 ?_
           obtain ⟨e71, ee71, H0⟩ := lt_some H0
           refine QL.as' (k := .i64) e71 ee71 ?_
           refine QL.nil ?_
           refine JA.nil ?_
           refine JQ.then_normal ?_
           exact JQ.meet (p69, q70, e71) () H0 (fun _ h => Heap.to h)
         · refine J.cond_false h65 ?_
           refine J.skip ?_
           refine JQ.then_normal ?_
           exact JQ.meet (p22, q23, e30) () H0 (fun _ h => Heap.to h)
       · clear H0
         rintro ⟨p48, q49, e50⟩ ⟨⟩ H0
         replace H0 : ref25_Div.k2 d35 n36 p48 q49 e50 = some r := H0
         unfold ref25_Div.k2 at H0
         refine JQ.sub [(4, .pointer (some ⟨b5, 0, none⟩)), (6, .int .i64 p48), (7, .int .i64 q49), (8, .int .i64 n36), (9, .int .i64 d35), (10, .int .i64 e50)] ?_
         refine JQ.turn (Δ' := [At.box b5 23 (cl_23 zv_23)]) (fun _ h => h.to) ?_
         refine J.seq ?_
         refine J.join (T := Bool) (G := Unit) (fun t => ref25_Div.k3 d35 n36 p48 q49 e50 t = some r) (fun t g => [(4, .pointer (some ⟨b5, 0, none⟩)), (6, .int .i64 p48), (7, .int .i64 q49), (8, .int .i64 n36), (9, .int .i64 d35), (10, .int .i64 e50), (132, .bool t)]) (fun t g => [At.box b5 23 (cl_23 zv_23)]) ?_ ?_
         · refine J.region ?_
           refine JL.mv (.int .i64 p48) ?_
           refine JL.mv (.int .i64 p48) ?_
           refine JL.pur (.int .i64 (w64 (0 - p48))) (some 113) ?_
           refine JL.pur (.int .i64 (gmax p48 (w64 (0 - p48)))) (some 114) ?_
           refine JL.mv (.int .i64 d35) ?_
           obtain ⟨h60, H0⟩ := ite_must H0
           refine JL.val (.int .i64 (w64 (Int.tdiv 1000000000 d35))) (some 116) (gives_quo .i64 1000000000 d35 h60) ?_
           refine JL.pur (.bool (decide (w64 (Int.tdiv 1000000000 d35) < gmax p48 (w64 (0 - p48))))) (some 117) ?_
           refine JL.mv (.bool (decide (w64 (Int.tdiv 1000000000 d35) < gmax p48 (w64 (0 - p48))))) ?_
           rcases ite_cases H0 with ⟨h61, H0⟩ | ⟨h61, H0⟩
           · refine JL.off 7 118 false (some 119) h61 ?_
             refine JL.off 7 118 false (some 120) h61 ?_
             refine JL.off 7 118 false (some 121) h61 ?_
             refine JL.off 7 118 false (some 122) h61 ?_
             refine JL.off 7 118 false (some 123) h61 ?_
             refine JL.off 7 118 false (some 124) h61 ?_
             refine JL.off 7 118 false (some 125) h61 ?_
             refine JL.val (.bool true) (some 126) (gives_pickT h61) ?_
             refine JL.mv (.bool true) ?_
             refine JL.off 16 127 false (some 128) rfl ?_
             refine JL.off 16 127 false (some 129) rfl ?_
             refine JL.off 16 127 false (some 130) rfl ?_
             refine JL.off 16 127 false (some 131) rfl ?_
             refine JL.val (.bool true) (some 132) (gives_pickT rfl) ?_
             refine JL.nil ?_
             refine JQ.then_normal ?_
             exact JQ.meet true () H0 (fun _ h => Heap.to h)
           · refine JL.on 7 118 h61 ?_
             refine JL.mv (.int .i64 q49) ?_
             refine JL.on 7 118 h61 ?_
             refine JL.mv (.int .i64 q49) ?_
             refine JL.on 7 118 h61 ?_
             refine JL.pur (.int .i64 (w64 (0 - q49))) (some 121) ?_
             refine JL.on 7 118 h61 ?_
             refine JL.pur (.int .i64 (gmax q49 (w64 (0 - q49)))) (some 122) ?_
             refine JL.on 7 118 h61 ?_
             refine JL.mv (.int .i64 d35) ?_
             refine JL.on 7 118 h61 ?_
             obtain ⟨h62, H0⟩ := ite_must H0
             refine JL.val (.int .i64 (w64 (Int.tdiv 1000000000 d35))) (some 124) (gives_quo .i64 1000000000 d35 h62) ?_
             refine JL.on 7 118 h61 ?_
             refine JL.pur (.bool (decide (w64 (Int.tdiv 1000000000 d35) < gmax q49 (w64 (0 - q49))))) (some 125) ?_
             refine JL.val (.bool (decide (w64 (Int.tdiv 1000000000 d35) < gmax q49 (w64 (0 - q49))))) (some 126) (gives_pickF h61) ?_
             refine JL.mv (.bool (decide (w64 (Int.tdiv 1000000000 d35) < gmax q49 (w64 (0 - q49))))) ?_
             rcases ite_cases H0 with ⟨h63, H0⟩ | ⟨h63, H0⟩
             · refine JL.off 16 127 false (some 128) h63 ?_
               refine JL.off 16 127 false (some 129) h63 ?_
               refine JL.off 16 127 false (some 130) h63 ?_
               refine JL.off 16 127 false (some 131) h63 ?_
               refine JL.val (.bool true) (some 132) (gives_pickT h63) ?_
               refine JL.nil ?_
               refine JQ.then_normal ?_
               exact JQ.meet true () H0 (fun _ h => Heap.to h)
             · refine JL.on 16 127 h63 ?_
               refine JL.mv (.int .i64 n36) ?_
               refine JL.on 16 127 h63 ?_
               refine JL.mv (.int .i64 e50) ?_
               refine JL.on 16 127 h63 ?_
               obtain ⟨h64, H0⟩ := ite_must H0
               refine JL.val (.int .i64 (w64 (Int.tdiv 1000000000 e50))) (some 130) (gives_quo .i64 1000000000 e50 h64) ?_
               refine JL.on 16 127 h63 ?_
               refine JL.pur (.bool (decide (w64 (Int.tdiv 1000000000 e50) < n36))) (some 131) ?_
               refine JL.val (.bool (decide (w64 (Int.tdiv 1000000000 e50) < n36))) (some 132) (gives_pickF h63) ?_
               refine JL.nil ?_
               refine JQ.then_normal ?_
               exact JQ.meet (decide (w64 (Int.tdiv 1000000000 e50) < n36)) () H0 (fun _ h => Heap.to h)
         · clear H0
           rintro x56 ⟨⟩ H0
           replace H0 : ref25_Div.k3 d35 n36 p48 q49 e50 x56 = some r := H0
           unfold ref25_Div.k3 at H0
           refine JQ.sub [(4, .pointer (some ⟨b5, 0, none⟩)), (6, .int .i64 p48), (7, .int .i64 q49), (8, .int .i64 n36), (9, .int .i64 d35), (10, .int .i64 e50), (132, .bool x56)] ?_
           refine JQ.turn (Δ' := [At.box b5 23 (cl_23 zv_23)]) (fun _ h => h.to) ?_
           rcases ite_cases H0 with ⟨h57, H0⟩ | ⟨h57, H0⟩
           · refine J.cond_true h57 ?_
             refine J.seq ?_
             refine J.region ?_
             refine JL.pur (mv_23 zv_23) (some 133) ?_
             refine JL.store 0 b5 0 23 (cl_23 zv_23) (cl_23 zv_23) tySize_23 ?_
             refine JL.as (.int .i64 16) ?_
             refine JL.nil ?_
             refine JQ.then_normal ?_
             refine JQ.sub [(4, .pointer (some ⟨b5, 0, none⟩)), (5, .int .i64 16)] ?_
             refine J.ret ?_
             refine JQ.then_ret ?_
             obtain rfl := Option.some.inj H0
             exact JQ.done' (rs := [.cell 4 23, .tmp 5]) (vs := [.agg #[.int .i64 0, .int .i64 0, .int .i64 0], .int .i64 16]) [] (.inr rfl) ⟨⟨b5, 0, _, _, by kernel_rfl, by kernel_rfl, holds_box b5 23 (cl_23 zv_23), .inl ⟨tyAgg_23, tySize_23, rfl⟩⟩, by kernel_rfl, trivial⟩ (fun _ h => Heap.to (Heap.pick [] (by decide) h)) ⟨rfl, rfl⟩
           · refine J.cond_false h57 ?_
             refine J.skip ?_
             refine JQ.then_normal ?_
             refine JQ.sub [(4, .pointer (some ⟨b5, 0, none⟩)), (6, .int .i64 p48), (7, .int .i64 q49), (8, .int .i64 n36), (9, .int .i64 d35), (10, .int .i64 e50)] ?_
             refine J.seq ?_
             refine J.region ?_
             refine JL.mv (.int .i64 p48) ?_
             refine JL.mv (.int .i64 d35) ?_
             refine JL.pur (.int .i64 (w64 (p48 * d35))) (some 136) ?_
             refine JL.mv (.int .i64 q49) ?_
             refine JL.mv (.int .i64 d35) ?_
             refine JL.pur (.int .i64 (w64 (q49 * d35))) (some 139) ?_
             refine JL.mv (.int .i64 n36) ?_
             refine JL.mv (.int .i64 e50) ?_
             refine JL.pur (.int .i64 (w64 (n36 * e50))) (some 142) ?_
             obtain ⟨t58, hc59, H0⟩ := bind_some H0
             refine JL.call [] [] [] (ref25_made.ok (w64 (p48 * d35)) (w64 (q49 * d35)) (w64 (n36 * e50)) _ hc59) trivial ?_
             rintro _ _ ⟨rfl, rfl⟩
             refine JL.pur (mv_23 t58.1) (some 144) ?_
             refine JL.pur (.int .i64 t58.2) (some 145) ?_
             refine JL.store 0 b5 0 23 (cl_23 zv_23) (cl_23 t58.1) tySize_23 ?_
             refine JL.as (.int .i64 t58.2) ?_
             refine JL.nil ?_
             refine JQ.then_normal ?_
             refine JQ.sub [(4, .pointer (some ⟨b5, 0, none⟩)), (5, .int .i64 t58.2)] ?_
             refine J.ret ?_
             obtain rfl := Option.some.inj H0
             exact JQ.done' (rs := [.cell 4 23, .tmp 5]) (vs := [.agg #[.int .i64 t58.1.Re, .int .i64 t58.1.Im, .int .i64 t58.1.Den], .int .i64 t58.2]) [] (.inr rfl) ⟨⟨b5, 0, _, _, by kernel_rfl, by kernel_rfl, holds_box b5 23 (cl_23 t58.1), .inl ⟨tyAgg_23, tySize_23, rfl⟩⟩, by kernel_rfl, trivial⟩ (fun _ h => Heap.to (Heap.pick [] (by decide) h)) ⟨rfl, rfl⟩

theorem ref33_Inv.ok (a1 : (A4 Cx)) (r : ((A4 Cx) × Int)) (H0 : ref33_Inv.f a1 = some r) :
    Does Try.prog 18 [mv_25 a1].toArray [] [] false (fun v Δ => v = .tuple #[mv_25 r.1, .int .i64 r.2] ∧ Δ = []) := by
 refine Does.body (vs := [mv_25 a1]) Try.func18 rfl trivial trivial fun w S => ?_
 unfold ref33_Inv.f at H0
 refine J.seq ?_
 refine J.region ?_
 refine JL.box (cl_25 a1) fun b2 => ?_
 refine JL.alloc (cl_25 zv_25) fun b3 => ?_
 refine JL.as (.int .i64 0) ?_
 refine JL.nil ?_
 refine JQ.then_normal ?_
 refine JQ.sub [(1, .pointer (some ⟨b2, 0, none⟩)), (2, .pointer (some ⟨b3, 0, none⟩))] ?_
 refine J.seq ?_
 refine J.region ?_
 refine JL.val (mv_25 a1) (some 11) (yields_load_boxes 0 0 (cl_25 a1) (holds_box b2 25 (cl_25 a1)) tyAgg_25 tySize_25) ?_
 obtain ⟨t4, hc5, H0⟩ := bind_some H0
 refine JL.call [] [] [] (ref33_Det.ok a1 _ hc5) trivial ?_
 rintro _ _ ⟨rfl, rfl⟩
 refine JL.mv (.tuple #[mv_23 t4.1, .int .i64 t4.2]) ?_
 refine JL.pur (mv_23 t4.1) (some 13) ?_
 refine JL.pur (.int .i64 t4.2) (some 14) ?_
 refine JL.alloc (cl_23 zv_23) fun b6 => ?_
 refine JL.store 2 b6 0 23 (cl_23 zv_23) (cl_23 t4.1) tySize_23 ?_
 refine JL.as (.int .i64 t4.2) ?_
 refine JL.nil ?_
 refine JQ.then_normal ?_
 refine JQ.sub [(1, .pointer (some ⟨b2, 0, none⟩)), (2, .pointer (some ⟨b3, 0, none⟩)), (4, .pointer (some ⟨b6, 0, none⟩)), (5, .int .i64 t4.2)] ?_
 refine J.seq ?_
 refine J.seq ?_
 refine J.region ?_
 refine JL.mv (.int .i64 t4.2) ?_
 refine JL.pur (.bool (!decide (t4.2 = 0))) (some 16) ?_
 refine JL.nil ?_
 refine JQ.then_normal ?_
 refine JQ.sub [(1, .pointer (some ⟨b2, 0, none⟩)), (2, .pointer (some ⟨b3, 0, none⟩)), (4, .pointer (some ⟨b6, 0, none⟩)), (5, .int .i64 t4.2), (16, .bool (!decide (t4.2 = 0)))] ?_
 rcases ite_cases H0 with ⟨h7, H0⟩ | ⟨h7, H0⟩
 · refine J.cond_true h7 ?_
   refine J.seq ?_
   refine J.region ?_
   refine JL.pur (mv_25 zv_25) (some 17) ?_
   refine JL.mv (.int .i64 t4.2) ?_
   refine JL.store 1 b3 0 25 (cl_25 zv_25) (cl_25 zv_25) tySize_25 ?_
   refine JL.as (.int .i64 t4.2) ?_
   refine JL.nil ?_
   refine JQ.then_normal ?_
   refine JQ.sub [(2, .pointer (some ⟨b3, 0, none⟩)), (3, .int .i64 t4.2)] ?_
   refine JQ.mask [At.box b3 25 (cl_25 zv_25)] [false, true, false] ?_
   refine J.ret ?_
   refine JQ.then_ret ?_
   obtain rfl := Option.some.inj H0
   exact JQ.done' (rs := [.cell 2 25, .tmp 3]) (vs := [.agg #[.int .i64 0, .int .i64 0, .int .i64 0, .int .i64 0, .int .i64 0, .int .i64 0, .int .i64 0, .int .i64 0, .int .i64 0, .int .i64 0, .int .i64 0, .int .i64 0], .int .i64 t4.2]) [] (.inr rfl) ⟨⟨b3, 0, _, _, by kernel_rfl, by kernel_rfl, holds_box b3 25 (cl_25 zv_25), .inl ⟨tyAgg_25, tySize_25, rfl⟩⟩, by kernel_rfl, trivial⟩ (fun _ h => Heap.to (Heap.pick [] (by decide) h)) ⟨rfl, rfl⟩
 · refine J.cond_false h7 ?_
   refine J.skip ?_
   refine JQ.then_normal ?_
   refine JQ.sub [(1, .pointer (some ⟨b2, 0, none⟩)), (2, .pointer (some ⟨b3, 0, none⟩)), (4, .pointer (some ⟨b6, 0, none⟩))] ?_
   refine J.seq ?_
   refine J.seq ?_
   refine J.region ?_
   refine JL.val (mv_23 t4.1) (some 19) (yields_load_boxes 2 0 (cl_23 t4.1) (holds_box b6 23 (cl_23 t4.1)) tyAgg_23 tySize_23) ?_
   obtain ⟨t8, hc9, H0⟩ := bind_some H0
   refine JL.call [] [] [] (ref25_Zero.ok t4.1 _ hc9) trivial ?_
   rintro _ _ ⟨rfl, rfl⟩
   refine JL.nil ?_
   refine JQ.then_normal ?_
   refine JQ.sub [(1, .pointer (some ⟨b2, 0, none⟩)), (2, .pointer (some ⟨b3, 0, none⟩)), (4, .pointer (some ⟨b6, 0, none⟩)), (20, .bool t8)] ?_
   rcases ite_cases H0 with ⟨h10, H0⟩ | ⟨h10, H0⟩
   · refine J.cond_true h10 ?_
     refine J.seq ?_
     refine J.region ?_
     refine JL.pur (mv_25 zv_25) (some 21) ?_
     refine JL.store 1 b3 0 25 (cl_25 zv_25) (cl_25 zv_25) tySize_25 ?_
     refine JL.as (.int .i64 18) ?_
     refine JL.nil ?_
     refine JQ.then_normal ?_
     refine JQ.sub [(2, .pointer (some ⟨b3, 0, none⟩)), (3, .int .i64 18)] ?_
     refine JQ.mask [At.box b3 25 (cl_25 zv_25)] [false, true, false] ?_
     refine J.ret ?_
     refine JQ.then_ret ?_
     obtain rfl := Option.some.inj H0
     exact JQ.done' (rs := [.cell 2 25, .tmp 3]) (vs := [.agg #[.int .i64 0, .int .i64 0, .int .i64 0, .int .i64 0, .int .i64 0, .int .i64 0, .int .i64 0, .int .i64 0, .int .i64 0, .int .i64 0, .int .i64 0, .int .i64 0], .int .i64 18]) [] (.inr rfl) ⟨⟨b3, 0, _, _, by kernel_rfl, by kernel_rfl, holds_box b3 25 (cl_25 zv_25), .inl ⟨tyAgg_25, tySize_25, rfl⟩⟩, by kernel_rfl, trivial⟩ (fun _ h => Heap.to (Heap.pick [] (by decide) h)) ⟨rfl, rfl⟩
   · refine J.cond_false h10 ?_
     refine J.skip ?_
     refine JQ.then_normal ?_
     refine JQ.sub [(1, .pointer (some ⟨b2, 0, none⟩)), (2, .pointer (some ⟨b3, 0, none⟩)), (4, .pointer (some ⟨b6, 0, none⟩))] ?_
     refine J.seq ?_
     refine J.drawA 12 [⟨11, 6, 25, [.int .i64 0, .int .i64 0, .int .i64 0, .int .i64 0, .int .i64 0, .int .i64 0, .int .i64 0, .int .i64 0, .int .i64 0, .int .i64 0, .int .i64 0, .int .i64 0]⟩] ?_ (by simp only [List.mem_cons, List.not_mem_nil, or_false, forall_eq_or_imp, forall_eq]; exact ⟨by decide, ⟨_, _, _, rfl⟩, by kernel_rfl⟩)
     refine QL.pur (.pointer (some ⟨b2, 9, none⟩)) (some 22) ?_
     refine QL.val (mv_23 a1.e3) (some 23) (yields_load_boxes 0 9 (cl_23 a1.e3) (holds_box b2 25 (cl_25 a1)) tyAgg_23 tySize_23) ?_
     refine QL.pur (.pointer (some ⟨b2, 3, none⟩)) (some 24) ?_
     refine QL.val (mv_23 a1.e1) (some 25) (yields_load_boxes 0 3 (cl_23 a1.e1) (holds_box b2 25 (cl_25 a1)) tyAgg_23 tySize_23) ?_
     obtain ⟨t11, hc12, H0⟩ := bind_some H0
     refine QL.call [] [] (ref25_Neg.ok a1.e1 _ hc12) trivial ?_
     refine QL.pur (.pointer (some ⟨b2, 6, none⟩)) (some 27) ?_
     refine QL.val (mv_23 a1.e2) (some 28) (yields_load_boxes 0 6 (cl_23 a1.e2) (holds_box b2 25 (cl_25 a1)) tyAgg_23 tySize_23) ?_
     obtain ⟨t13, hc14, H0⟩ := bind_some H0
     refine QL.call [] [] (ref25_Neg.ok a1.e2 _ hc14) trivial ?_
     refine QL.pur (.pointer (some ⟨b2, 0, none⟩)) (some 30) ?_
     refine QL.val (mv_23 a1.e0) (some 31) (yields_load_boxes 0 0 (cl_23 a1.e0) (holds_box b2 25 (cl_25 a1)) tyAgg_23 tySize_23) ?_
     refine QL.pur (.agg #[.int .i64 a1.e3.Re, .int .i64 a1.e3.Im, .int .i64 a1.e3.Den, .int .i64 t11.Re, .int .i64 t11.Im, .int .i64 t11.Den, .int .i64 t13.Re, .int .i64 t13.Im, .int .i64 t13.Den, .int .i64 a1.e0.Re, .int .i64 a1.e0.Im, .int .i64 a1.e0.Den]) (some 32) ?_
     refine QL.skipA ?_
     refine QL.nil ?_
     refine JA.alloc fun b15 => ?_
     refine JA.nil ?_
     refine JL.store 3 b15 0 25 (cl_25 zv_25) [.int .i64 a1.e3.Re, .int .i64 a1.e3.Im, .int .i64 a1.e3.Den, .int .i64 t11.Re, .int .i64 t11.Im, .int .i64 t11.Den, .int .i64 t13.Re, .int .i64 t13.Im, .int .i64 t13.Den, .int .i64 a1.e0.Re, .int .i64 a1.e0.Im, .int .i64 a1.e0.Den] tySize_25 ?_
     refine JL.nil ?_
     refine JQ.then_normal ?_
     refine JQ.sub [(2, .pointer (some ⟨b3, 0, none⟩)), (4, .pointer (some ⟨b6, 0, none⟩)), (6, .pointer (some ⟨b15, 0, none⟩))] ?_
     refine JQ.mask [At.box b3 25 (cl_25 zv_25), At.box b6 23 (cl_23 t4.1), At.box b15 25 [.int .i64 a1.e3.Re, .int .i64 a1.e3.Im, .int .i64 a1.e3.Den, .int .i64 t11.Re, .int .i64 t11.Im, .int .i64 t11.Den, .int .i64 t13.Re, .int .i64 t13.Im, .int .i64 t13.Den, .int .i64 a1.e0.Re, .int .i64 a1.e0.Im, .int .i64 a1.e0.Den]] [false, true, true, true] ?_
     refine J.seq ?_
     refine J.seq ?_
     refine J.region ?_
     refine JL.as (.int .i64 0) ?_
     refine JL.nil ?_
     refine JQ.then_normal ?_
     obtain ⟨o1, hit, H0⟩ := bind_some H0
     refine J.loop (σ := ((A4 Cx) × Int)) (τ := (A4 Cx)) (G := Unit) (G' := Unit) _ o1 (fun s g => [(2, .pointer (some ⟨b3, 0, none⟩)), (4, .pointer (some ⟨b6, 0, none⟩)), (6, .pointer (some ⟨b15, 0, none⟩)), (7, .int .i64 s.2)]) (fun s g => [At.box b3 25 (cl_25 zv_25), At.box b6 23 (cl_23 t4.1), At.box b15 25 (cl_25 s.1)]) (fun t => ref33_Inv.k5 t = some r) (fun t g => [(2, .pointer (some ⟨b3, 0, none⟩)), (6, .pointer (some ⟨b15, 0, none⟩))]) (fun t g => [At.box b3 25 (cl_25 zv_25), At.box b15 25 (cl_25 t)]) ((⟨a1.e3, t11, t13, a1.e0⟩ : (A4 Cx)), 0) () hit (fun _ h => Heap.to h) ?_ ?_
     · clear hit
       rintro ⟨out78, k79⟩ ⟨⟩ st1 H1 hb1 hr1
       replace H1 : ref33_Inv.s4 t4 out78 k79 = some st1 := H1
       unfold ref33_Inv.s4 at H1
       refine JQ.sub [(2, .pointer (some ⟨b3, 0, none⟩)), (4, .pointer (some ⟨b6, 0, none⟩)), (6, .pointer (some ⟨b15, 0, none⟩)), (7, .int .i64 k79)] ?_
       refine JQ.turn (Δ' := [At.box b3 25 (cl_25 zv_25), At.box b6 23 (cl_23 t4.1), At.box b15 25 (cl_25 out78)]) (fun _ h => h.to) ?_
       refine J.seq ?_
       refine J.seq ?_
       refine J.region ?_
       refine JL.mv (.int .i64 k79) ?_
       refine JL.pur (.bool (decide (k79 < 4))) (some 34) ?_
       refine JL.nil ?_
       refine JQ.then_normal ?_
       refine JQ.sub [(2, .pointer (some ⟨b3, 0, none⟩)), (4, .pointer (some ⟨b6, 0, none⟩)), (6, .pointer (some ⟨b15, 0, none⟩)), (7, .int .i64 k79), (34, .bool (decide (k79 < 4)))] ?_
       rcases ite_cases H1 with ⟨h116, H1⟩ | ⟨h116, H1⟩
       · refine J.cond_true h116 ?_
         refine J.skip ?_
         refine JQ.then_normal ?_
         refine JQ.sub [(2, .pointer (some ⟨b3, 0, none⟩)), (4, .pointer (some ⟨b6, 0, none⟩)), (6, .pointer (some ⟨b15, 0, none⟩)), (7, .int .i64 k79)] ?_
         refine J.seq ?_
         refine J.block ?_
         refine J.join (T := (Cx × Int)) (G := Nat) (fun t => ref33_Inv.k6 out78 k79 t.1 t.2 = some st1) (fun t g => [(2, .pointer (some ⟨b3, 0, none⟩)), (4, .pointer (some ⟨b6, 0, none⟩)), (6, .pointer (some ⟨b15, 0, none⟩)), (7, .int .i64 k79), (8, .pointer (some ⟨g, 0, none⟩)), (9, .int .i64 t.2)]) (fun t g => [At.box b3 25 (cl_25 zv_25), At.box b6 23 (cl_23 t4.1), At.box b15 25 (cl_25 out78), At.box g 23 (cl_23 t.1)]) ?_ ?_
         · obtain ⟨⟨h138, h139⟩, H1⟩ := ite_must H1
           obtain ⟨t140, hc141, H1⟩ := bind_some H1
           refine JY.start [9] (ba 11 0) ?_
           refine JY.pur (hi := rfl) 0 (ba 11 1) (.int .i64 k79) (some 38) want ?_
           obtain ⟨h143, h144⟩ : 0 ≤ k79 ∧ k79 < 4 := ⟨h138, h139⟩
           refine JY.puw (hi := rfl) 1 (ba 11 3) (.pointer (some ⟨b15, 0 + k79.toNat * 3, none⟩)) (some 39) want (givesW_ixArrD (b := b15) (o := 0) (i := k79) 4 3 .i64 h143 h144 Try.underlying25 tySize_23) ?_
           refine JY.take (hi := rfl) 2 (ba 11 7) (mv_23 (ix ([out78.e0, out78.e1, out78.e2, out78.e3] : List Cx) k79)) (some 40) [true, true, true] want (gives_loadEl (f := fl_Cx) 2 0 k79 (elems_arr b15 25 (cl_25 out78) fl_Cx ([out78.e0, out78.e1, out78.e2, out78.e3] : List Cx) 0) h143 h144 tySize_23 (.inl ⟨tyAgg_23, rfl⟩)) ?_
           refine JY.take (hi := rfl) 3 (ba 11 15) (mv_23 t4.1) (some 41) [true, true, true] want (yields_load_boxes 1 0 (cl_23 t4.1) (holds_box b6 23 (cl_23 t4.1)) tyAgg_23 tySize_23) ?_
           refine JY.all [4, 8] ⟨⟨_, rfl, ?_⟩, ⟨_, rfl, ?_⟩, trivial⟩
           · refine JL.call [] [] [] (ref25_Div.ok (ix ([out78.e0, out78.e1, out78.e2, out78.e3] : List Cx) k79) t4.1 _ hc141) trivial ?_
             rintro _ _ ⟨rfl, rfl⟩
             refine JL.nil ?_
             refine JY.ran (ba 11 31) [true, true, true] ?_
             refine JY.pur (hi := rfl) 5 (ba 11 63) (.tuple #[mv_23 t140.1, .int .i64 t140.2]) (some 37) want ?_
             refine JY.pur (hi := rfl) 6 (ba 11 127) (mv_23 t140.1) (some 43) want ?_
             refine JY.pur (hi := rfl) 7 (ba 11 255) (.int .i64 t140.2) (some 44) want ?_
             refine JY.all [8] ⟨⟨_, rfl, ?_⟩, trivial⟩
             refine JL.alloc (cl_23 zv_23) fun b147 => ?_
             refine JL.nil ?_
             refine JY.ran (ba 11 511) [true, true, true, false] ?_
             refine JY.all [9] ⟨⟨_, rfl, ?_⟩, trivial⟩
             refine JL.store 3 b147 0 23 (cl_23 zv_23) (cl_23 t140.1) tySize_23 ?_
             refine JL.nil ?_
             refine JY.ranD (ba 11 1023) ?_
             refine JY.pur (hi := rfl) 10 (ba 11 2047) (.int .i64 t140.2) (some 9) want ?_
             refine JY.done ?_
             refine JQ.then_normal ?_
             exact JQ.meet (t140.1, t140.2) b147 H1 (fun _ h => Heap.to h)
           · refine JL.alloc (cl_23 zv_23) fun b148 => ?_
             refine JL.nil ?_
             refine JY.ran (ba 11 271) [true, true, true, false] ?_
             refine JY.all [4] ⟨⟨_, rfl, ?_⟩, trivial⟩
             refine JL.call [] [] [] (ref25_Div.ok (ix ([out78.e0, out78.e1, out78.e2, out78.e3] : List Cx) k79) t4.1 _ hc141) trivial ?_
             rintro _ _ ⟨rfl, rfl⟩
             refine JL.nil ?_
             refine JY.ran (ba 11 287) [true, true, true, false] ?_
             refine JY.pur (hi := rfl) 5 (ba 11 319) (.tuple #[mv_23 t140.1, .int .i64 t140.2]) (some 37) want ?_
             refine JY.pur (hi := rfl) 6 (ba 11 383) (mv_23 t140.1) (some 43) want ?_
             refine JY.pur (hi := rfl) 7 (ba 11 511) (.int .i64 t140.2) (some 44) want ?_
             refine JY.all [9] ⟨⟨_, rfl, ?_⟩, trivial⟩
             refine JL.store 3 b148 0 23 (cl_23 zv_23) (cl_23 t140.1) tySize_23 ?_
             refine JL.nil ?_
             refine JY.ranD (ba 11 1023) ?_
             refine JY.pur (hi := rfl) 10 (ba 11 2047) (.int .i64 t140.2) (some 9) want ?_
             refine JY.done ?_
             refine JQ.then_normal ?_
             exact JQ.meet (t140.1, t140.2) b148 H1 (fun _ h => Heap.to h)
         · clear H1
           rintro ⟨x132, e133⟩ b130 H1
           replace H1 : ref33_Inv.k6 out78 k79 x132 e133 = some st1 := H1
           unfold ref33_Inv.k6 at H1
           refine JQ.sub [(2, .pointer (some ⟨b3, 0, none⟩)), (4, .pointer (some ⟨b6, 0, none⟩)), (6, .pointer (some ⟨b15, 0, none⟩)), (7, .int .i64 k79), (8, .pointer (some ⟨b130, 0, none⟩)), (9, .int .i64 e133)] ?_
           refine JQ.turn (Δ' := [At.box b3 25 (cl_25 zv_25), At.box b6 23 (cl_23 t4.1), At.box b15 25 (cl_25 out78), At.box b130 23 (cl_23 x132)]) (fun _ h => h.to) ?_
           refine J.seq ?_
           refine J.seq ?_
           refine J.region ?_
           refine JL.mv (.int .i64 e133) ?_
           refine JL.pur (.bool (!decide (e133 = 0))) (some 46) ?_
           refine JL.nil ?_
           refine JQ.then_normal ?_
           refine JQ.sub [(2, .pointer (some ⟨b3, 0, none⟩)), (4, .pointer (some ⟨b6, 0, none⟩)), (6, .pointer (some ⟨b15, 0, none⟩)), (7, .int .i64 k79), (8, .pointer (some ⟨b130, 0, none⟩)), (46, .bool (!decide (e133 = 0)))] ?_
           rcases ite_cases H1 with ⟨h134, H1⟩ | ⟨h134, H1⟩
           · refine J.cond_true h134 ?_
             refine J.seq ?_
             refine J.region ?_
             refine JL.pur (mv_25 zv_25) (some 47) ?_
             refine JL.store 0 b3 0 25 (cl_25 zv_25) (cl_25 zv_25) tySize_25 ?_
             refine JL.as (.int .i64 16) ?_
             refine JL.nil ?_
             refine JQ.then_normal ?_
             refine JQ.sub [(2, .pointer (some ⟨b3, 0, none⟩)), (3, .int .i64 16)] ?_
             refine JQ.mask [At.box b3 25 (cl_25 zv_25)] [true, false, false, false] ?_
             refine J.ret ?_
             refine JQ.then_ret ?_
             refine JQ.blk_ret ?_
             refine JQ.then_ret ?_
             refine JQ.then_ret ?_
             refine JQ.blk_ret ?_
             refine JQ.met_ret ?_
             refine JQ.then_ret ?_
             rw [hr1 _ (Option.some.inj H1).symm, fin_ret] at H0
             obtain rfl := Option.some.inj H0
             exact JQ.done' (rs := [.cell 2 25, .tmp 3]) (vs := [.agg #[.int .i64 0, .int .i64 0, .int .i64 0, .int .i64 0, .int .i64 0, .int .i64 0, .int .i64 0, .int .i64 0, .int .i64 0, .int .i64 0, .int .i64 0, .int .i64 0], .int .i64 16]) [] (.inr rfl) ⟨⟨b3, 0, _, _, by kernel_rfl, by kernel_rfl, holds_box b3 25 (cl_25 zv_25), .inl ⟨tyAgg_25, tySize_25, rfl⟩⟩, by kernel_rfl, trivial⟩ (fun _ h => Heap.to (Heap.pick [] (by decide) h)) ⟨rfl, rfl⟩
           · refine J.cond_false h134 ?_
             refine J.skip ?_
             refine JQ.then_normal ?_
             refine JQ.sub [(2, .pointer (some ⟨b3, 0, none⟩)), (4, .pointer (some ⟨b6, 0, none⟩)), (6, .pointer (some ⟨b15, 0, none⟩)), (7, .int .i64 k79), (8, .pointer (some ⟨b130, 0, none⟩))] ?_
             refine J.region ?_
             refine JL.mv (.int .i64 k79) ?_
             refine JL.val (mv_23 x132) (some 49) (yields_load_boxes 3 0 (cl_23 x132) (holds_box b130 23 (cl_23 x132)) tyAgg_23 tySize_23) ?_
             obtain ⟨⟨h135, h136⟩, H1⟩ := ite_must H1
             refine JL.val (.pointer (some ⟨b15, 0 + k79.toNat * 3, none⟩)) (some 50) (gives_ixArrD (b := b15) (o := 0) (i := k79) 4 3 .i64 h135 h136 Try.underlying25 tySize_23) ?_
             obtain ⟨arr137, earr137, H1⟩ := lt_some H1
             refine JL.storeArr b15 0 0 2 25 fl_Cx ([out78.e0, out78.e1, out78.e2, out78.e3] : List Cx) k79 (cl_25 out78) [] [] x132 h135 h136 tySize_23 ?_
             rw [ofL4 fl_Cx (l := ([out78.e0, out78.e1, out78.e2, out78.e3] : List Cx).set k79.toNat x132) (by simp), earr137]
             refine JQ.turn (Δ' := [At.box b3 25 (cl_25 zv_25), At.box b6 23 (cl_23 t4.1), At.box b15 25 (cl_25 arr137), At.box b130 23 (cl_23 x132)]) (fun _ h => h.to) ?_
             refine JL.nil ?_
             refine JQ.blk_normal ?_
             refine JQ.then_normal ?_
             refine JQ.sub [(2, .pointer (some ⟨b3, 0, none⟩)), (4, .pointer (some ⟨b6, 0, none⟩)), (6, .pointer (some ⟨b15, 0, none⟩)), (7, .int .i64 k79)] ?_
             refine JQ.mask [At.box b3 25 (cl_25 zv_25), At.box b6 23 (cl_23 t4.1), At.box b15 25 (cl_25 arr137)] [true, true, true, false] ?_
             refine J.region ?_
             refine JL.mv (.int .i64 k79) ?_
             refine JL.pur (.int .i64 (w64 (k79 + 1))) (some 36) ?_
             refine JL.as (.int .i64 (w64 (k79 + 1))) ?_
             refine JL.nil ?_
             refine JQ.then_normal ?_
             exact JQ.again (arr137, w64 (k79 + 1)) () (Option.some.inj H1).symm (fun _ h => Heap.to h)
       · refine J.cond_false h116 ?_
         refine J.exit ?_
         refine JQ.then_exit ?_
         refine JQ.then_exit ?_
         refine JQ.blk_exit ?_
         rw [hb1 _ (Option.some.inj H1).symm, fin_brk] at H0
         exact JQ.met out78 () H0 (fun _ h => Heap.to (Heap.pick [0, 2] (by decide) h))
     · clear hit H0
       rintro out115 ⟨⟩ H0
       replace H0 : ref33_Inv.k5 out115 = some r := H0
       unfold ref33_Inv.k5 at H0
       refine JQ.sub [(2, .pointer (some ⟨b3, 0, none⟩)), (6, .pointer (some ⟨b15, 0, none⟩))] ?_
       refine JQ.turn (Δ' := [At.box b3 25 (cl_25 zv_25), At.box b15 25 (cl_25 out115)]) (fun _ h => h.to) ?_
       refine JQ.then_normal ?_
       refine J.seq ?_
       refine J.region ?_
       refine JL.val (mv_25 out115) (some 51) (yields_load_boxes 1 0 (cl_25 out115) (holds_box b15 25 (cl_25 out115)) tyAgg_25 tySize_25) ?_
       refine JL.store 0 b3 0 25 (cl_25 zv_25) (cl_25 out115) tySize_25 ?_
       refine JL.as (.int .i64 0) ?_
       refine JL.nil ?_
       refine JQ.then_normal ?_
       refine JQ.sub [(2, .pointer (some ⟨b3, 0, none⟩)), (3, .int .i64 0)] ?_
       refine JQ.mask [At.box b3 25 (cl_25 out115)] [true, false] ?_
       refine J.ret ?_
       obtain rfl := Option.some.inj H0
       exact JQ.done' (rs := [.cell 2 25, .tmp 3]) (vs := [.agg #[.int .i64 out115.e0.Re, .int .i64 out115.e0.Im, .int .i64 out115.e0.Den, .int .i64 out115.e1.Re, .int .i64 out115.e1.Im, .int .i64 out115.e1.Den, .int .i64 out115.e2.Re, .int .i64 out115.e2.Im, .int .i64 out115.e2.Den, .int .i64 out115.e3.Re, .int .i64 out115.e3.Im, .int .i64 out115.e3.Den], .int .i64 0]) [] (.inr rfl) ⟨⟨b3, 0, _, _, by kernel_rfl, by kernel_rfl, holds_box b3 25 (cl_25 out115), .inl ⟨tyAgg_25, tySize_25, rfl⟩⟩, by kernel_rfl, trivial⟩ (fun _ h => Heap.to (Heap.pick [] (by decide) h)) ⟨rfl, rfl⟩

theorem ref33_Loop.ok (l1 : (List Pol)) (Aa2 : Option Addr) (c3 : Nat) (a5 : Int) (b6 : Int) (c7 : Int) (d8 : Int) (r : ((A4 Cx) × Int)) (H0 : ref33_Loop.f l1 a5 b6 c7 d8 = some r) :
    Does Try.prog 30 [.slice Aa2 l1.length c3, .int .i64 a5, .int .i64 b6, .int .i64 c7, .int .i64 d8].toArray [At.rd Aa2 c3 fl_Pol.kd l1 true] [] false (fun v Δ => v = .tuple #[mv_25 r.1, .int .i64 r.2] ∧ Δ = []) := by
 refine Does.body (vs := [.slice Aa2 l1.length c3, .int .i64 a5, .int .i64 b6, .int .i64 c7, .int .i64 d8]) Try.func30 rfl ⟨.inl rfl, trivial⟩ trivial fun w S => ?_
 unfold ref33_Loop.f at H0
 refine J.seq ?_
 refine J.region ?_
 refine JL.alloc (cl_25 zv_25) fun b9 => ?_
 refine JL.as (.int .i64 0) ?_
 refine JL.nil ?_
 refine JQ.then_normal ?_
 refine JQ.sub [(0, .slice Aa2 l1.length c3), (1, .int .i64 a5), (2, .int .i64 b6), (3, .int .i64 c7), (4, .int .i64 d8), (10, .pointer (some ⟨b9, 0, none⟩))] ?_
 refine J.seq ?_
 refine J.seq ?_
 refine J.region ?_
 refine JL.mv (.slice Aa2 l1.length c3) ?_
 obtain ⟨t10, hc11, H0⟩ := bind_some H0
 refine JL.call [] [] [] (ref33_Check.ok l1 Aa2 c3 _ hc11) ⟨pre_any 0 (view_rd Aa2 c3 fl_Pol.kd l1 true true), trivial⟩ ?_
 rintro _ _ ⟨rfl, rfl⟩
 refine JL.as (.int .i64 t10) ?_
 refine JL.nil ?_
 refine JQ.then_normal ?_
 refine JQ.sub [(0, .slice Aa2 l1.length c3), (1, .int .i64 a5), (2, .int .i64 b6), (3, .int .i64 c7), (4, .int .i64 d8), (10, .pointer (some ⟨b9, 0, none⟩)), (12, .int .i64 t10)] ?_
 refine J.seq ?_
 refine J.region ?_
 refine JL.mv (.int .i64 t10) ?_
 refine JL.pur (.bool (!decide (t10 = 0))) (some 28) ?_
 refine JL.nil ?_
 refine JQ.then_normal ?_
 refine JQ.sub [(0, .slice Aa2 l1.length c3), (1, .int .i64 a5), (2, .int .i64 b6), (3, .int .i64 c7), (4, .int .i64 d8), (10, .pointer (some ⟨b9, 0, none⟩)), (12, .int .i64 t10), (28, .bool (!decide (t10 = 0)))] ?_
 rcases ite_cases H0 with ⟨h12, H0⟩ | ⟨h12, H0⟩
 · refine J.cond_true h12 ?_
   refine J.seq ?_
   refine J.region ?_
   refine JL.pur (mv_25 zv_25) (some 29) ?_
   refine JL.mv (.int .i64 t10) ?_
   refine JL.store 1 b9 0 25 (cl_25 zv_25) (cl_25 zv_25) tySize_25 ?_
   refine JL.as (.int .i64 t10) ?_
   refine JL.nil ?_
   refine JQ.then_normal ?_
   refine JQ.sub [(10, .pointer (some ⟨b9, 0, none⟩)), (11, .int .i64 t10)] ?_
   refine JQ.mask [At.box b9 25 (cl_25 zv_25)] [false, true] ?_
   refine J.ret ?_
   refine JQ.then_ret ?_
   obtain rfl := Option.some.inj H0
   exact JQ.done' (rs := [.cell 10 25, .tmp 11]) (vs := [.agg #[.int .i64 0, .int .i64 0, .int .i64 0, .int .i64 0, .int .i64 0, .int .i64 0, .int .i64 0, .int .i64 0, .int .i64 0, .int .i64 0, .int .i64 0, .int .i64 0], .int .i64 t10]) [] (.inr rfl) ⟨⟨b9, 0, _, _, by kernel_rfl, by kernel_rfl, holds_box b9 25 (cl_25 zv_25), .inl ⟨tyAgg_25, tySize_25, rfl⟩⟩, by kernel_rfl, trivial⟩ (fun _ h => Heap.to (Heap.pick [] (by decide) h)) ⟨rfl, rfl⟩
 · refine J.cond_false h12 ?_
   refine J.skip ?_
   refine JQ.then_normal ?_
   refine JQ.sub [(0, .slice Aa2 l1.length c3), (1, .int .i64 a5), (2, .int .i64 b6), (3, .int .i64 c7), (4, .int .i64 d8), (10, .pointer (some ⟨b9, 0, none⟩))] ?_
   refine J.seq ?_
   refine J.seq ?_
   refine J.region ?_
   refine JL.mv (.int .i64 a5) ?_
   refine JL.mv (.int .i64 b6) ?_
   refine JL.mv (.int .i64 c7) ?_
   refine JL.mv (.int .i64 d8) ?_
   refine JL.buildSl 3 ((flInt .i64).kd) (([a5, b6, c7, d8] : List Int) : List Int) [.int .i64 a5, .int .i64 b6, .int .i64 c7, .int .i64 d8] false (closes_fl rfl) fun b13 => ?_
   obtain ⟨t14, hc15, H0⟩ := bind_some H0
   refine JL.call [] [] [] (ref27_Apart.ok ([a5, b6, c7, d8] : List Int) (some ⟨b13, 0, none⟩) 4 _ hc15) ⟨pre_view 2 (view_row (some ⟨b13, 0, none⟩) 4 3 ((flInt .i64).kd) ([a5, b6, c7, d8] : List Int) false true), trivial⟩ ?_
   rintro _ _ ⟨rfl, rfl⟩
   refine JL.pur (.bool (!t14)) (some 37) ?_
   refine JL.nil ?_
   refine JQ.then_normal ?_
   refine JQ.sub [(0, .slice Aa2 l1.length c3), (1, .int .i64 a5), (2, .int .i64 b6), (3, .int .i64 c7), (4, .int .i64 d8), (10, .pointer (some ⟨b9, 0, none⟩)), (37, .bool (!t14))] ?_
   refine JQ.mask [At.rd Aa2 c3 fl_Pol.kd l1 true, At.box b9 25 (cl_25 zv_25)] [true, true, false] ?_
   rcases ite_cases H0 with ⟨h16, H0⟩ | ⟨h16, H0⟩
   · refine J.cond_true h16 ?_
     refine J.seq ?_
     refine J.region ?_
     refine JL.pur (mv_25 zv_25) (some 38) ?_
     refine JL.store 1 b9 0 25 (cl_25 zv_25) (cl_25 zv_25) tySize_25 ?_
     refine JL.as (.int .i64 2) ?_
     refine JL.nil ?_
     refine JQ.then_normal ?_
     refine JQ.sub [(10, .pointer (some ⟨b9, 0, none⟩)), (11, .int .i64 2)] ?_
     refine JQ.mask [At.box b9 25 (cl_25 zv_25)] [false, true] ?_
     refine J.ret ?_
     refine JQ.then_ret ?_
     obtain rfl := Option.some.inj H0
     exact JQ.done' (rs := [.cell 10 25, .tmp 11]) (vs := [.agg #[.int .i64 0, .int .i64 0, .int .i64 0, .int .i64 0, .int .i64 0, .int .i64 0, .int .i64 0, .int .i64 0, .int .i64 0, .int .i64 0, .int .i64 0, .int .i64 0], .int .i64 2]) [] (.inr rfl) ⟨⟨b9, 0, _, _, by kernel_rfl, by kernel_rfl, holds_box b9 25 (cl_25 zv_25), .inl ⟨tyAgg_25, tySize_25, rfl⟩⟩, by kernel_rfl, trivial⟩ (fun _ h => Heap.to (Heap.pick [] (by decide) h)) ⟨rfl, rfl⟩
   · refine J.cond_false h16 ?_
     refine J.skip ?_
     refine JQ.then_normal ?_
     refine JQ.sub [(0, .slice Aa2 l1.length c3), (1, .int .i64 a5), (2, .int .i64 b6), (3, .int .i64 c7), (4, .int .i64 d8), (10, .pointer (some ⟨b9, 0, none⟩))] ?_
     refine J.seq ?_
     refine J.region ?_
     refine JL.mv (.slice Aa2 l1.length c3) ?_
     refine JL.mv (.int .i64 a5) ?_
     refine JL.mv (.int .i64 b6) ?_
     obtain ⟨t17, hc18, H0⟩ := bind_some H0
     refine JL.call [] [] [] (ref33_got.ok l1 Aa2 c3 a5 b6 _ hc18) ⟨pre_any 0 (view_rd Aa2 c3 fl_Pol.kd l1 true true), trivial⟩ ?_
     rintro _ _ ⟨rfl, rfl⟩
     refine JL.mv (.tuple #[mv_25 t17.1, .bool t17.2]) ?_
     refine JL.pur (mv_25 t17.1) (some 44) ?_
     refine JL.pur (.bool t17.2) (some 45) ?_
     refine JL.alloc (cl_25 zv_25) fun b19 => ?_
     refine JL.store 2 b19 0 25 (cl_25 zv_25) (cl_25 t17.1) tySize_25 ?_
     refine JL.as (.bool t17.2) ?_
     refine JL.nil ?_
     refine JQ.then_normal ?_
     refine JQ.sub [(0, .slice Aa2 l1.length c3), (1, .int .i64 a5), (2, .int .i64 b6), (3, .int .i64 c7), (4, .int .i64 d8), (10, .pointer (some ⟨b9, 0, none⟩)), (13, .pointer (some ⟨b19, 0, none⟩)), (14, .bool t17.2)] ?_
     refine J.seq ?_
     refine J.region ?_
     refine JL.mv (.slice Aa2 l1.length c3) ?_
     refine JL.mv (.int .i64 c7) ?_
     refine JL.mv (.int .i64 b6) ?_
     obtain ⟨t20, hc21, H0⟩ := bind_some H0
     refine JL.call [] [] [] (ref33_got.ok l1 Aa2 c3 c7 b6 _ hc21) ⟨pre_any 0 (view_rd Aa2 c3 fl_Pol.kd l1 true true), trivial⟩ ?_
     rintro _ _ ⟨rfl, rfl⟩
     refine JL.mv (.tuple #[mv_25 t20.1, .bool t20.2]) ?_
     refine JL.pur (mv_25 t20.1) (some 51) ?_
     refine JL.pur (.bool t20.2) (some 52) ?_
     refine JL.alloc (cl_25 zv_25) fun b22 => ?_
     refine JL.store 3 b22 0 25 (cl_25 zv_25) (cl_25 t20.1) tySize_25 ?_
     refine JL.as (.bool t20.2) ?_
     refine JL.nil ?_
     refine JQ.then_normal ?_
     refine JQ.sub [(0, .slice Aa2 l1.length c3), (1, .int .i64 a5), (3, .int .i64 c7), (4, .int .i64 d8), (10, .pointer (some ⟨b9, 0, none⟩)), (13, .pointer (some ⟨b19, 0, none⟩)), (14, .bool t17.2), (15, .pointer (some ⟨b22, 0, none⟩)), (16, .bool t20.2)] ?_
     refine J.seq ?_
     refine J.region ?_
     refine JL.mv (.slice Aa2 l1.length c3) ?_
     refine JL.mv (.int .i64 c7) ?_
     refine JL.mv (.int .i64 d8) ?_
     obtain ⟨t23, hc24, H0⟩ := bind_some H0
     refine JL.call [] [] [] (ref33_got.ok l1 Aa2 c3 c7 d8 _ hc24) ⟨pre_any 0 (view_rd Aa2 c3 fl_Pol.kd l1 true true), trivial⟩ ?_
     rintro _ _ ⟨rfl, rfl⟩
     refine JL.mv (.tuple #[mv_25 t23.1, .bool t23.2]) ?_
     refine JL.pur (mv_25 t23.1) (some 58) ?_
     refine JL.pur (.bool t23.2) (some 59) ?_
     refine JL.alloc (cl_25 zv_25) fun b25 => ?_
     refine JL.store 4 b25 0 25 (cl_25 zv_25) (cl_25 t23.1) tySize_25 ?_
     refine JL.as (.bool t23.2) ?_
     refine JL.nil ?_
     refine JQ.then_normal ?_
     refine JQ.sub [(0, .slice Aa2 l1.length c3), (1, .int .i64 a5), (4, .int .i64 d8), (10, .pointer (some ⟨b9, 0, none⟩)), (13, .pointer (some ⟨b19, 0, none⟩)), (14, .bool t17.2), (15, .pointer (some ⟨b22, 0, none⟩)), (16, .bool t20.2), (17, .pointer (some ⟨b25, 0, none⟩)), (18, .bool t23.2)] ?_
     refine J.seq ?_
     refine J.region ?_
     refine JL.mv (.slice Aa2 l1.length c3) ?_
     refine JL.mv (.int .i64 a5) ?_
     refine JL.mv (.int .i64 d8) ?_
     obtain ⟨t26, hc27, H0⟩ := bind_some H0
     refine JL.call [] [] [] (ref33_got.ok l1 Aa2 c3 a5 d8 _ hc27) ⟨pre_any 0 (view_rd Aa2 c3 fl_Pol.kd l1 true true), trivial⟩ ?_
     rintro _ _ ⟨rfl, rfl⟩
     refine JL.mv (.tuple #[mv_25 t26.1, .bool t26.2]) ?_
     refine JL.pur (mv_25 t26.1) (some 65) ?_
     refine JL.pur (.bool t26.2) (some 66) ?_
     refine JL.alloc (cl_25 zv_25) fun b28 => ?_
     refine JL.store 5 b28 0 25 (cl_25 zv_25) (cl_25 t26.1) tySize_25 ?_
     refine JL.as (.bool t26.2) ?_
     refine JL.nil ?_
     refine JQ.then_normal ?_
     refine JQ.sub [(10, .pointer (some ⟨b9, 0, none⟩)), (13, .pointer (some ⟨b19, 0, none⟩)), (14, .bool t17.2), (15, .pointer (some ⟨b22, 0, none⟩)), (16, .bool t20.2), (17, .pointer (some ⟨b25, 0, none⟩)), (18, .bool t23.2), (19, .pointer (some ⟨b28, 0, none⟩)), (20, .bool t26.2)] ?_
     refine JQ.mask [At.box b9 25 (cl_25 zv_25), At.box b19 25 (cl_25 t17.1), At.box b22 25 (cl_25 t20.1), At.box b25 25 (cl_25 t23.1), At.box b28 25 (cl_25 t26.1)] [false, true, true, true, true, true] ?_
     refine J.seq ?_
     refine J.join (T := Bool) (G := Unit) (fun t => ref33_Loop.k1 t17 t20 t23 t26 t = some r) (fun t g => [(10, .pointer (some ⟨b9, 0, none⟩)), (13, .pointer (some ⟨b19, 0, none⟩)), (15, .pointer (some ⟨b22, 0, none⟩)), (17, .pointer (some ⟨b25, 0, none⟩)), (19, .pointer (some ⟨b28, 0, none⟩)), (80, .bool t)]) (fun t g => [At.box b9 25 (cl_25 zv_25), At.box b19 25 (cl_25 t17.1), At.box b22 25 (cl_25 t20.1), At.box b25 25 (cl_25 t23.1), At.box b28 25 (cl_25 t26.1)]) ?_ ?_
     · refine J.region ?_
       refine JL.mv (.bool t17.2) ?_
       refine JL.pur (.bool (!t17.2)) (some 68) ?_
       refine JL.mv (.bool (!t17.2)) ?_
       rcases ite_cases H0 with ⟨h52, H0⟩ | ⟨h52, H0⟩
       · refine JL.off 2 69 false (some 70) h52 ?_
         refine JL.off 2 69 false (some 71) h52 ?_
         refine JL.val (.bool true) (some 72) (gives_pickT h52) ?_
         refine JL.mv (.bool true) ?_
         refine JL.off 6 73 false (some 74) rfl ?_
         refine JL.off 6 73 false (some 75) rfl ?_
         refine JL.val (.bool true) (some 76) (gives_pickT rfl) ?_
         refine JL.mv (.bool true) ?_
         refine JL.off 10 77 false (some 78) rfl ?_
         refine JL.off 10 77 false (some 79) rfl ?_
         refine JL.val (.bool true) (some 80) (gives_pickT rfl) ?_
         refine JL.nil ?_
         refine JQ.then_normal ?_
         exact JQ.meet true () H0 (fun _ h => Heap.to h)
       · refine JL.on 2 69 h52 ?_
         refine JL.mv (.bool t20.2) ?_
         refine JL.on 2 69 h52 ?_
         refine JL.pur (.bool (!t20.2)) (some 71) ?_
         refine JL.val (.bool (!t20.2)) (some 72) (gives_pickF h52) ?_
         refine JL.mv (.bool (!t20.2)) ?_
         rcases ite_cases H0 with ⟨h53, H0⟩ | ⟨h53, H0⟩
         · refine JL.off 6 73 false (some 74) h53 ?_
           refine JL.off 6 73 false (some 75) h53 ?_
           refine JL.val (.bool true) (some 76) (gives_pickT h53) ?_
           refine JL.mv (.bool true) ?_
           refine JL.off 10 77 false (some 78) rfl ?_
           refine JL.off 10 77 false (some 79) rfl ?_
           refine JL.val (.bool true) (some 80) (gives_pickT rfl) ?_
           refine JL.nil ?_
           refine JQ.then_normal ?_
           exact JQ.meet true () H0 (fun _ h => Heap.to h)
         · refine JL.on 6 73 h53 ?_
           refine JL.mv (.bool t23.2) ?_
           refine JL.on 6 73 h53 ?_
           refine JL.pur (.bool (!t23.2)) (some 75) ?_
           refine JL.val (.bool (!t23.2)) (some 76) (gives_pickF h53) ?_
           refine JL.mv (.bool (!t23.2)) ?_
           rcases ite_cases H0 with ⟨h54, H0⟩ | ⟨h54, H0⟩
           · refine JL.off 10 77 false (some 78) h54 ?_
             refine JL.off 10 77 false (some 79) h54 ?_
             refine JL.val (.bool true) (some 80) (gives_pickT h54) ?_
             refine JL.nil ?_
             refine JQ.then_normal ?_
             exact JQ.meet true () H0 (fun _ h => Heap.to h)
           · refine JL.on 10 77 h54 ?_
             refine JL.mv (.bool t26.2) ?_
             refine JL.on 10 77 h54 ?_
             refine JL.pur (.bool (!t26.2)) (some 79) ?_
             refine JL.val (.bool (!t26.2)) (some 80) (gives_pickF h54) ?_
             refine JL.nil ?_
             refine JQ.then_normal ?_
             exact JQ.meet (!t26.2) () H0 (fun _ h => Heap.to h)
     · clear H0
       rintro x32 ⟨⟩ H0
       replace H0 : ref33_Loop.k1 t17 t20 t23 t26 x32 = some r := H0
       unfold ref33_Loop.k1 at H0
       refine JQ.sub [(10, .pointer (some ⟨b9, 0, none⟩)), (13, .pointer (some ⟨b19, 0, none⟩)), (15, .pointer (some ⟨b22, 0, none⟩)), (17, .pointer (some ⟨b25, 0, none⟩)), (19, .pointer (some ⟨b28, 0, none⟩)), (80, .bool x32)] ?_
       refine JQ.turn (Δ' := [At.box b9 25 (cl_25 zv_25), At.box b19 25 (cl_25 t17.1), At.box b22 25 (cl_25 t20.1), At.box b25 25 (cl_25 t23.1), At.box b28 25 (cl_25 t26.1)]) (fun _ h => h.to) ?_
       rcases ite_cases H0 with ⟨h33, H0⟩ | ⟨h33, H0⟩
       · refine J.cond_true h33 ?_
         refine J.seq ?_
         refine J.region ?_
         refine JL.pur (mv_25 zv_25) (some 81) ?_
         refine JL.store 0 b9 0 25 (cl_25 zv_25) (cl_25 zv_25) tySize_25 ?_
         refine JL.as (.int .i64 6) ?_
         refine JL.nil ?_
         refine JQ.then_normal ?_
         refine JQ.sub [(10, .pointer (some ⟨b9, 0, none⟩)), (11, .int .i64 6)] ?_
         refine JQ.mask [At.box b9 25 (cl_25 zv_25)] [true, false, false, false, false] ?_
         refine J.ret ?_
         refine JQ.then_ret ?_
         obtain rfl := Option.some.inj H0
         exact JQ.done' (rs := [.cell 10 25, .tmp 11]) (vs := [.agg #[.int .i64 0, .int .i64 0, .int .i64 0, .int .i64 0, .int .i64 0, .int .i64 0, .int .i64 0, .int .i64 0, .int .i64 0, .int .i64 0, .int .i64 0, .int .i64 0], .int .i64 6]) [] (.inr rfl) ⟨⟨b9, 0, _, _, by kernel_rfl, by kernel_rfl, holds_box b9 25 (cl_25 zv_25), .inl ⟨tyAgg_25, tySize_25, rfl⟩⟩, by kernel_rfl, trivial⟩ (fun _ h => Heap.to (Heap.pick [] (by decide) h)) ⟨rfl, rfl⟩
       · refine J.cond_false h33 ?_
         refine J.skip ?_
         refine JQ.then_normal ?_
         refine JQ.sub [(10, .pointer (some ⟨b9, 0, none⟩)), (13, .pointer (some ⟨b19, 0, none⟩)), (15, .pointer (some ⟨b22, 0, none⟩)), (17, .pointer (some ⟨b25, 0, none⟩)), (19, .pointer (some ⟨b28, 0, none⟩))] ?_
         refine J.seq ?_
         refine J.region ?_
         refine JL.val (mv_25 t20.1) (some 83) (yields_load_boxes 2 0 (cl_25 t20.1) (holds_box b22 25 (cl_25 t20.1)) tyAgg_25 tySize_25) ?_
         obtain ⟨t34, hc35, H0⟩ := bind_some H0
         refine JL.call [] [] [] (ref33_Inv.ok t20.1 _ hc35) trivial ?_
         rintro _ _ ⟨rfl, rfl⟩
         refine JL.mv (.tuple #[mv_25 t34.1, .int .i64 t34.2]) ?_
         refine JL.pur (mv_25 t34.1) (some 85) ?_
         refine JL.pur (.int .i64 t34.2) (some 86) ?_
         refine JL.alloc (cl_25 zv_25) fun b36 => ?_
         refine JL.store 5 b36 0 25 (cl_25 zv_25) (cl_25 t34.1) tySize_25 ?_
         refine JL.as (.int .i64 t34.2) ?_
         refine JL.nil ?_
         refine JQ.then_normal ?_
         refine JQ.sub [(10, .pointer (some ⟨b9, 0, none⟩)), (13, .pointer (some ⟨b19, 0, none⟩)), (17, .pointer (some ⟨b25, 0, none⟩)), (19, .pointer (some ⟨b28, 0, none⟩)), (21, .pointer (some ⟨b36, 0, none⟩)), (22, .int .i64 t34.2)] ?_
         refine JQ.mask [At.box b9 25 (cl_25 zv_25), At.box b19 25 (cl_25 t17.1), At.box b25 25 (cl_25 t23.1), At.box b28 25 (cl_25 t26.1), At.box b36 25 (cl_25 t34.1)] [true, true, false, true, true, true] ?_
         refine J.seq ?_
         refine J.seq ?_
         refine J.region ?_
         refine JL.mv (.int .i64 t34.2) ?_
         refine JL.pur (.bool (!decide (t34.2 = 0))) (some 88) ?_
         refine JL.nil ?_
         refine JQ.then_normal ?_
         refine JQ.sub [(10, .pointer (some ⟨b9, 0, none⟩)), (13, .pointer (some ⟨b19, 0, none⟩)), (17, .pointer (some ⟨b25, 0, none⟩)), (19, .pointer (some ⟨b28, 0, none⟩)), (21, .pointer (some ⟨b36, 0, none⟩)), (22, .int .i64 t34.2), (88, .bool (!decide (t34.2 = 0)))] ?_
         rcases ite_cases H0 with ⟨h37, H0⟩ | ⟨h37, H0⟩
         · refine J.cond_true h37 ?_
           refine J.seq ?_
           refine J.region ?_
           refine JL.pur (mv_25 zv_25) (some 89) ?_
           refine JL.mv (.int .i64 t34.2) ?_
           refine JL.store 0 b9 0 25 (cl_25 zv_25) (cl_25 zv_25) tySize_25 ?_
           refine JL.as (.int .i64 t34.2) ?_
           refine JL.nil ?_
           refine JQ.then_normal ?_
           refine JQ.sub [(10, .pointer (some ⟨b9, 0, none⟩)), (11, .int .i64 t34.2)] ?_
           refine JQ.mask [At.box b9 25 (cl_25 zv_25)] [true, false, false, false, false] ?_
           refine J.ret ?_
           refine JQ.then_ret ?_
           obtain rfl := Option.some.inj H0
           exact JQ.done' (rs := [.cell 10 25, .tmp 11]) (vs := [.agg #[.int .i64 0, .int .i64 0, .int .i64 0, .int .i64 0, .int .i64 0, .int .i64 0, .int .i64 0, .int .i64 0, .int .i64 0, .int .i64 0, .int .i64 0, .int .i64 0], .int .i64 t34.2]) [] (.inr rfl) ⟨⟨b9, 0, _, _, by kernel_rfl, by kernel_rfl, holds_box b9 25 (cl_25 zv_25), .inl ⟨tyAgg_25, tySize_25, rfl⟩⟩, by kernel_rfl, trivial⟩ (fun _ h => Heap.to (Heap.pick [] (by decide) h)) ⟨rfl, rfl⟩
         · refine J.cond_false h37 ?_
           refine J.skip ?_
           refine JQ.then_normal ?_
           refine JQ.sub [(10, .pointer (some ⟨b9, 0, none⟩)), (13, .pointer (some ⟨b19, 0, none⟩)), (17, .pointer (some ⟨b25, 0, none⟩)), (19, .pointer (some ⟨b28, 0, none⟩)), (21, .pointer (some ⟨b36, 0, none⟩))] ?_
           refine J.seq ?_
           refine J.region ?_
           refine JL.val (mv_25 t26.1) (some 92) (yields_load_boxes 3 0 (cl_25 t26.1) (holds_box b28 25 (cl_25 t26.1)) tyAgg_25 tySize_25) ?_
           obtain ⟨t38, hc39, H0⟩ := bind_some H0
           refine JL.call [] [] [] (ref33_Inv.ok t26.1 _ hc39) trivial ?_
           rintro _ _ ⟨rfl, rfl⟩
           refine JL.mv (.tuple #[mv_25 t38.1, .int .i64 t38.2]) ?_
           refine JL.pur (mv_25 t38.1) (some 94) ?_
           refine JL.pur (.int .i64 t38.2) (some 95) ?_
           refine JL.alloc (cl_25 zv_25) fun b40 => ?_
           refine JL.store 5 b40 0 25 (cl_25 zv_25) (cl_25 t38.1) tySize_25 ?_
           refine JL.as (.int .i64 t38.2) ?_
           refine JL.nil ?_
           refine JQ.then_normal ?_
           refine JQ.sub [(10, .pointer (some ⟨b9, 0, none⟩)), (13, .pointer (some ⟨b19, 0, none⟩)), (17, .pointer (some ⟨b25, 0, none⟩)), (21, .pointer (some ⟨b36, 0, none⟩)), (22, .int .i64 t38.2), (23, .pointer (some ⟨b40, 0, none⟩))] ?_
           refine JQ.mask [At.box b9 25 (cl_25 zv_25), At.box b19 25 (cl_25 t17.1), At.box b25 25 (cl_25 t23.1), At.box b36 25 (cl_25 t34.1), At.box b40 25 (cl_25 t38.1)] [true, true, true, false, true, true] ?_
           refine J.seq ?_
           refine J.seq ?_
           refine J.region ?_
           refine JL.mv (.int .i64 t38.2) ?_
           refine JL.pur (.bool (!decide (t38.2 = 0))) (some 97) ?_
           refine JL.nil ?_
           refine JQ.then_normal ?_
           refine JQ.sub [(10, .pointer (some ⟨b9, 0, none⟩)), (13, .pointer (some ⟨b19, 0, none⟩)), (17, .pointer (some ⟨b25, 0, none⟩)), (21, .pointer (some ⟨b36, 0, none⟩)), (22, .int .i64 t38.2), (23, .pointer (some ⟨b40, 0, none⟩)), (97, .bool (!decide (t38.2 = 0)))] ?_
           rcases ite_cases H0 with ⟨h41, H0⟩ | ⟨h41, H0⟩
           · refine J.cond_true h41 ?_
             refine J.seq ?_
             refine J.region ?_
             refine JL.pur (mv_25 zv_25) (some 98) ?_
             refine JL.mv (.int .i64 t38.2) ?_
             refine JL.store 0 b9 0 25 (cl_25 zv_25) (cl_25 zv_25) tySize_25 ?_
             refine JL.as (.int .i64 t38.2) ?_
             refine JL.nil ?_
             refine JQ.then_normal ?_
             refine JQ.sub [(10, .pointer (some ⟨b9, 0, none⟩)), (11, .int .i64 t38.2)] ?_
             refine JQ.mask [At.box b9 25 (cl_25 zv_25)] [true, false, false, false, false] ?_
             refine J.ret ?_
             refine JQ.then_ret ?_
             obtain rfl := Option.some.inj H0
             exact JQ.done' (rs := [.cell 10 25, .tmp 11]) (vs := [.agg #[.int .i64 0, .int .i64 0, .int .i64 0, .int .i64 0, .int .i64 0, .int .i64 0, .int .i64 0, .int .i64 0, .int .i64 0, .int .i64 0, .int .i64 0, .int .i64 0], .int .i64 t38.2]) [] (.inr rfl) ⟨⟨b9, 0, _, _, by kernel_rfl, by kernel_rfl, holds_box b9 25 (cl_25 zv_25), .inl ⟨tyAgg_25, tySize_25, rfl⟩⟩, by kernel_rfl, trivial⟩ (fun _ h => Heap.to (Heap.pick [] (by decide) h)) ⟨rfl, rfl⟩
           · refine J.cond_false h41 ?_
             refine J.skip ?_
             refine JQ.then_normal ?_
             refine JQ.sub [(10, .pointer (some ⟨b9, 0, none⟩)), (13, .pointer (some ⟨b19, 0, none⟩)), (17, .pointer (some ⟨b25, 0, none⟩)), (21, .pointer (some ⟨b36, 0, none⟩)), (23, .pointer (some ⟨b40, 0, none⟩))] ?_
             refine J.seq ?_
             refine J.region ?_
             refine JL.val (mv_25 t17.1) (some 101) (yields_load_boxes 1 0 (cl_25 t17.1) (holds_box b19 25 (cl_25 t17.1)) tyAgg_25 tySize_25) ?_
             refine JL.val (mv_25 t34.1) (some 102) (yields_load_boxes 3 0 (cl_25 t34.1) (holds_box b36 25 (cl_25 t34.1)) tyAgg_25 tySize_25) ?_
             obtain ⟨t42, hc43, H0⟩ := bind_some H0
             refine JL.call [] [] [] (ref33_Mul.ok t17.1 t34.1 _ hc43) trivial ?_
             rintro _ _ ⟨rfl, rfl⟩
             refine JL.mv (.tuple #[mv_25 t42.1, .int .i64 t42.2]) ?_
             refine JL.pur (mv_25 t42.1) (some 104) ?_
             refine JL.pur (.int .i64 t42.2) (some 105) ?_
             refine JL.alloc (cl_25 zv_25) fun b44 => ?_
             refine JL.store 5 b44 0 25 (cl_25 zv_25) (cl_25 t42.1) tySize_25 ?_
             refine JL.as (.int .i64 t42.2) ?_
             refine JL.nil ?_
             refine JQ.then_normal ?_
             refine JQ.sub [(10, .pointer (some ⟨b9, 0, none⟩)), (17, .pointer (some ⟨b25, 0, none⟩)), (22, .int .i64 t42.2), (23, .pointer (some ⟨b40, 0, none⟩)), (24, .pointer (some ⟨b44, 0, none⟩))] ?_
             refine JQ.mask [At.box b9 25 (cl_25 zv_25), At.box b25 25 (cl_25 t23.1), At.box b40 25 (cl_25 t38.1), At.box b44 25 (cl_25 t42.1)] [true, false, true, false, true, true] ?_
             refine J.seq ?_
             refine J.seq ?_
             refine J.region ?_
             refine JL.mv (.int .i64 t42.2) ?_
             refine JL.pur (.bool (!decide (t42.2 = 0))) (some 107) ?_
             refine JL.nil ?_
             refine JQ.then_normal ?_
             refine JQ.sub [(10, .pointer (some ⟨b9, 0, none⟩)), (17, .pointer (some ⟨b25, 0, none⟩)), (22, .int .i64 t42.2), (23, .pointer (some ⟨b40, 0, none⟩)), (24, .pointer (some ⟨b44, 0, none⟩)), (107, .bool (!decide (t42.2 = 0)))] ?_
             rcases ite_cases H0 with ⟨h45, H0⟩ | ⟨h45, H0⟩
             · refine J.cond_true h45 ?_
               refine J.seq ?_
               refine J.region ?_
               refine JL.pur (mv_25 zv_25) (some 108) ?_
               refine JL.mv (.int .i64 t42.2) ?_
               refine JL.store 0 b9 0 25 (cl_25 zv_25) (cl_25 zv_25) tySize_25 ?_
               refine JL.as (.int .i64 t42.2) ?_
               refine JL.nil ?_
               refine JQ.then_normal ?_
               refine JQ.sub [(10, .pointer (some ⟨b9, 0, none⟩)), (11, .int .i64 t42.2)] ?_
               refine JQ.mask [At.box b9 25 (cl_25 zv_25)] [true, false, false, false] ?_
               refine J.ret ?_
               refine JQ.then_ret ?_
               obtain rfl := Option.some.inj H0
               exact JQ.done' (rs := [.cell 10 25, .tmp 11]) (vs := [.agg #[.int .i64 0, .int .i64 0, .int .i64 0, .int .i64 0, .int .i64 0, .int .i64 0, .int .i64 0, .int .i64 0, .int .i64 0, .int .i64 0, .int .i64 0, .int .i64 0], .int .i64 t42.2]) [] (.inr rfl) ⟨⟨b9, 0, _, _, by kernel_rfl, by kernel_rfl, holds_box b9 25 (cl_25 zv_25), .inl ⟨tyAgg_25, tySize_25, rfl⟩⟩, by kernel_rfl, trivial⟩ (fun _ h => Heap.to (Heap.pick [] (by decide) h)) ⟨rfl, rfl⟩
             · refine J.cond_false h45 ?_
               refine J.skip ?_
               refine JQ.then_normal ?_
               refine JQ.sub [(10, .pointer (some ⟨b9, 0, none⟩)), (17, .pointer (some ⟨b25, 0, none⟩)), (23, .pointer (some ⟨b40, 0, none⟩)), (24, .pointer (some ⟨b44, 0, none⟩))] ?_
               refine J.seq ?_
               refine J.region ?_
               refine JL.val (mv_25 t42.1) (some 111) (yields_load_boxes 3 0 (cl_25 t42.1) (holds_box b44 25 (cl_25 t42.1)) tyAgg_25 tySize_25) ?_
               refine JL.val (mv_25 t23.1) (some 112) (yields_load_boxes 1 0 (cl_25 t23.1) (holds_box b25 25 (cl_25 t23.1)) tyAgg_25 tySize_25) ?_
               obtain ⟨t46, hc47, H0⟩ := bind_some H0
               refine JL.call [] [] [] (ref33_Mul.ok t42.1 t23.1 _ hc47) trivial ?_
               rintro _ _ ⟨rfl, rfl⟩
               refine JL.mv (.tuple #[mv_25 t46.1, .int .i64 t46.2]) ?_
               refine JL.pur (mv_25 t46.1) (some 114) ?_
               refine JL.pur (.int .i64 t46.2) (some 115) ?_
               refine JL.store 3 b44 0 25 (cl_25 t42.1) (cl_25 t46.1) tySize_25 ?_
               refine JL.as (.int .i64 t46.2) ?_
               refine JL.nil ?_
               refine JQ.then_normal ?_
               refine JQ.sub [(10, .pointer (some ⟨b9, 0, none⟩)), (22, .int .i64 t46.2), (23, .pointer (some ⟨b40, 0, none⟩)), (24, .pointer (some ⟨b44, 0, none⟩))] ?_
               refine JQ.mask [At.box b9 25 (cl_25 zv_25), At.box b40 25 (cl_25 t38.1), At.box b44 25 (cl_25 t46.1)] [true, false, true, true] ?_
               refine J.seq ?_
               refine J.seq ?_
               refine J.region ?_
               refine JL.mv (.int .i64 t46.2) ?_
               refine JL.pur (.bool (!decide (t46.2 = 0))) (some 117) ?_
               refine JL.nil ?_
               refine JQ.then_normal ?_
               refine JQ.sub [(10, .pointer (some ⟨b9, 0, none⟩)), (22, .int .i64 t46.2), (23, .pointer (some ⟨b40, 0, none⟩)), (24, .pointer (some ⟨b44, 0, none⟩)), (117, .bool (!decide (t46.2 = 0)))] ?_
               rcases ite_cases H0 with ⟨h48, H0⟩ | ⟨h48, H0⟩
               · refine J.cond_true h48 ?_
                 refine J.seq ?_
                 refine J.region ?_
                 refine JL.pur (mv_25 zv_25) (some 118) ?_
                 refine JL.mv (.int .i64 t46.2) ?_
                 refine JL.store 0 b9 0 25 (cl_25 zv_25) (cl_25 zv_25) tySize_25 ?_
                 refine JL.as (.int .i64 t46.2) ?_
                 refine JL.nil ?_
                 refine JQ.then_normal ?_
                 refine JQ.sub [(10, .pointer (some ⟨b9, 0, none⟩)), (11, .int .i64 t46.2)] ?_
                 refine JQ.mask [At.box b9 25 (cl_25 zv_25)] [true, false, false] ?_
                 refine J.ret ?_
                 refine JQ.then_ret ?_
                 obtain rfl := Option.some.inj H0
                 exact JQ.done' (rs := [.cell 10 25, .tmp 11]) (vs := [.agg #[.int .i64 0, .int .i64 0, .int .i64 0, .int .i64 0, .int .i64 0, .int .i64 0, .int .i64 0, .int .i64 0, .int .i64 0, .int .i64 0, .int .i64 0, .int .i64 0], .int .i64 t46.2]) [] (.inr rfl) ⟨⟨b9, 0, _, _, by kernel_rfl, by kernel_rfl, holds_box b9 25 (cl_25 zv_25), .inl ⟨tyAgg_25, tySize_25, rfl⟩⟩, by kernel_rfl, trivial⟩ (fun _ h => Heap.to (Heap.pick [] (by decide) h)) ⟨rfl, rfl⟩
               · refine J.cond_false h48 ?_
                 refine J.skip ?_
                 refine JQ.then_normal ?_
                 refine JQ.sub [(10, .pointer (some ⟨b9, 0, none⟩)), (23, .pointer (some ⟨b40, 0, none⟩)), (24, .pointer (some ⟨b44, 0, none⟩))] ?_
                 refine J.seq ?_
                 refine J.region ?_
                 refine JL.val (mv_25 t46.1) (some 121) (yields_load_boxes 2 0 (cl_25 t46.1) (holds_box b44 25 (cl_25 t46.1)) tyAgg_25 tySize_25) ?_
                 refine JL.val (mv_25 t38.1) (some 122) (yields_load_boxes 1 0 (cl_25 t38.1) (holds_box b40 25 (cl_25 t38.1)) tyAgg_25 tySize_25) ?_
                 obtain ⟨t49, hc50, H0⟩ := bind_some H0
                 refine JL.call [] [] [] (ref33_Mul.ok t46.1 t38.1 _ hc50) trivial ?_
                 rintro _ _ ⟨rfl, rfl⟩
                 refine JL.mv (.tuple #[mv_25 t49.1, .int .i64 t49.2]) ?_
                 refine JL.pur (mv_25 t49.1) (some 124) ?_
                 refine JL.pur (.int .i64 t49.2) (some 125) ?_
                 refine JL.store 2 b44 0 25 (cl_25 t46.1) (cl_25 t49.1) tySize_25 ?_
                 refine JL.as (.int .i64 t49.2) ?_
                 refine JL.nil ?_
                 refine JQ.then_normal ?_
                 refine JQ.sub [(10, .pointer (some ⟨b9, 0, none⟩)), (22, .int .i64 t49.2), (24, .pointer (some ⟨b44, 0, none⟩))] ?_
                 refine JQ.mask [At.box b9 25 (cl_25 zv_25), At.box b44 25 (cl_25 t49.1)] [true, false, true] ?_
                 refine J.seq ?_
                 refine J.seq ?_
                 refine J.region ?_
                 refine JL.mv (.int .i64 t49.2) ?_
                 refine JL.pur (.bool (!decide (t49.2 = 0))) (some 127) ?_
                 refine JL.nil ?_
                 refine JQ.then_normal ?_
                 refine JQ.sub [(10, .pointer (some ⟨b9, 0, none⟩)), (22, .int .i64 t49.2), (24, .pointer (some ⟨b44, 0, none⟩)), (127, .bool (!decide (t49.2 = 0)))] ?_
                 rcases ite_cases H0 with ⟨h51, H0⟩ | ⟨h51, H0⟩
                 · refine J.cond_true h51 ?_
                   refine J.seq ?_
                   refine J.region ?_
                   refine JL.pur (mv_25 zv_25) (some 128) ?_
                   refine JL.mv (.int .i64 t49.2) ?_
                   refine JL.store 0 b9 0 25 (cl_25 zv_25) (cl_25 zv_25) tySize_25 ?_
                   refine JL.as (.int .i64 t49.2) ?_
                   refine JL.nil ?_
                   refine JQ.then_normal ?_
                   refine JQ.sub [(10, .pointer (some ⟨b9, 0, none⟩)), (11, .int .i64 t49.2)] ?_
                   refine JQ.mask [At.box b9 25 (cl_25 zv_25)] [true, false] ?_
                   refine J.ret ?_
                   refine JQ.then_ret ?_
                   obtain rfl := Option.some.inj H0
                   exact JQ.done' (rs := [.cell 10 25, .tmp 11]) (vs := [.agg #[.int .i64 0, .int .i64 0, .int .i64 0, .int .i64 0, .int .i64 0, .int .i64 0, .int .i64 0, .int .i64 0, .int .i64 0, .int .i64 0, .int .i64 0, .int .i64 0], .int .i64 t49.2]) [] (.inr rfl) ⟨⟨b9, 0, _, _, by kernel_rfl, by kernel_rfl, holds_box b9 25 (cl_25 zv_25), .inl ⟨tyAgg_25, tySize_25, rfl⟩⟩, by kernel_rfl, trivial⟩ (fun _ h => Heap.to (Heap.pick [] (by decide) h)) ⟨rfl, rfl⟩
                 · refine J.cond_false h51 ?_
                   refine J.skip ?_
                   refine JQ.then_normal ?_
                   refine JQ.sub [(10, .pointer (some ⟨b9, 0, none⟩)), (24, .pointer (some ⟨b44, 0, none⟩))] ?_
                   refine J.seq ?_
                   refine J.region ?_
                   refine JL.val (mv_25 t49.1) (some 130) (yields_load_boxes 1 0 (cl_25 t49.1) (holds_box b44 25 (cl_25 t49.1)) tyAgg_25 tySize_25) ?_
                   refine JL.store 0 b9 0 25 (cl_25 zv_25) (cl_25 t49.1) tySize_25 ?_
                   refine JL.as (.int .i64 0) ?_
                   refine JL.nil ?_
                   refine JQ.then_normal ?_
                   refine JQ.sub [(10, .pointer (some ⟨b9, 0, none⟩)), (11, .int .i64 0)] ?_
                   refine JQ.mask [At.box b9 25 (cl_25 t49.1)] [true, false] ?_
                   refine J.ret ?_
                   obtain rfl := Option.some.inj H0
                   exact JQ.done' (rs := [.cell 10 25, .tmp 11]) (vs := [.agg #[.int .i64 t49.1.e0.Re, .int .i64 t49.1.e0.Im, .int .i64 t49.1.e0.Den, .int .i64 t49.1.e1.Re, .int .i64 t49.1.e1.Im, .int .i64 t49.1.e1.Den, .int .i64 t49.1.e2.Re, .int .i64 t49.1.e2.Im, .int .i64 t49.1.e2.Den, .int .i64 t49.1.e3.Re, .int .i64 t49.1.e3.Im, .int .i64 t49.1.e3.Den], .int .i64 0]) [] (.inr rfl) ⟨⟨b9, 0, _, _, by kernel_rfl, by kernel_rfl, holds_box b9 25 (cl_25 t49.1), .inl ⟨tyAgg_25, tySize_25, rfl⟩⟩, by kernel_rfl, trivial⟩ (fun _ h => Heap.to (Heap.pick [] (by decide) h)) ⟨rfl, rfl⟩

theorem ref33_Same.ok (a1 : (List Pol)) (Aa2 : Option Addr) (c3 : Nat) (b5 : (List Pol)) (Aa6 : Option Addr) (c7 : Nat) (r : Bool) (H0 : ref33_Same.f a1 b5 = some r) :
    Does Try.prog 23 [.slice Aa2 a1.length c3, .slice Aa6 b5.length c7].toArray [At.rd Aa2 c3 fl_Pol.kd a1 true, At.rd Aa6 c7 fl_Pol.kd b5 true] [] false (fun v Δ => v = .bool r ∧ Δ = []) := by
 refine Does.body (vs := [.slice Aa2 a1.length c3, .slice Aa6 b5.length c7]) Try.func23 rfl ⟨.inl rfl, .inl rfl, trivial⟩ trivial fun w S => ?_
 unfold ref33_Same.f at H0
 refine J.seq ?_
 refine J.region ?_
 refine JL.as (.bool false) ?_
 refine JL.nil ?_
 refine JQ.then_normal ?_
 refine JQ.sub [(0, .slice Aa2 a1.length c3), (1, .slice Aa6 b5.length c7)] ?_
 refine J.seq ?_
 refine J.seq ?_
 refine J.region ?_
 refine JL.mv (.slice Aa2 a1.length c3) ?_
 refine JL.pur (.int .i64 (a1.length : Int)) (some 7) ?_
 refine JL.mv (.slice Aa6 b5.length c7) ?_
 refine JL.pur (.int .i64 (b5.length : Int)) (some 9) ?_
 refine JL.pur (.bool (!decide ((a1.length : Int) = (b5.length : Int)))) (some 10) ?_
 refine JL.nil ?_
 refine JQ.then_normal ?_
 refine JQ.sub [(0, .slice Aa2 a1.length c3), (1, .slice Aa6 b5.length c7), (10, .bool (!decide ((a1.length : Int) = (b5.length : Int))))] ?_
 rcases ite_cases H0 with ⟨h9, H0⟩ | ⟨h9, H0⟩
 · refine J.cond_true h9 ?_
   refine J.seq ?_
   refine J.region ?_
   refine JL.as (.bool false) ?_
   refine JL.nil ?_
   refine JQ.then_normal ?_
   refine JQ.sub [(4, .bool false)] ?_
   refine JQ.mask [] [false, false] ?_
   refine J.ret ?_
   refine JQ.then_ret ?_
   obtain rfl := Option.some.inj H0
   exact JQ.done' (rs := [.tmp 4]) (vs := [.bool false]) [] (.inr rfl) ⟨by kernel_rfl, trivial⟩ (fun _ h => Heap.to h) ⟨rfl, rfl⟩
 · refine J.cond_false h9 ?_
   refine J.skip ?_
   refine JQ.then_normal ?_
   refine JQ.sub [(0, .slice Aa2 a1.length c3), (1, .slice Aa6 b5.length c7)] ?_
   refine J.seq ?_
   refine J.seq ?_
   refine J.region ?_
   refine JL.as (.int .i64 0) ?_
   refine JL.nil ?_
   refine JQ.then_normal ?_
   obtain ⟨o1, hit, H0⟩ := bind_some H0
   refine J.loop (σ := Int) (τ := Unit) (G := Unit) (G' := Unit) _ o1 (fun s g => [(0, .slice Aa2 a1.length c3), (1, .slice Aa6 b5.length c7), (5, .int .i64 s)]) (fun s g => [At.rd Aa2 c3 fl_Pol.kd a1 true, At.rd Aa6 c7 fl_Pol.kd b5 true]) (fun t => ref33_Same.k2 = some r) (fun t g => []) (fun t g => []) 0 () hit (fun _ h => Heap.to h) ?_ ?_
   · clear hit
     rintro i32 ⟨⟩ st1 H1 hb1 hr1
     replace H1 : ref33_Same.s1 a1 b5 i32 = some st1 := H1
     unfold ref33_Same.s1 at H1
     refine JQ.sub [(0, .slice Aa2 a1.length c3), (1, .slice Aa6 b5.length c7), (5, .int .i64 i32)] ?_
     refine JQ.turn (Δ' := [At.rd Aa2 c3 fl_Pol.kd a1 true, At.rd Aa6 c7 fl_Pol.kd b5 true]) (fun _ h => h.to) ?_
     refine J.seq ?_
     refine J.seq ?_
     refine J.region ?_
     refine JL.mv (.int .i64 i32) ?_
     refine JL.mv (.slice Aa2 a1.length c3) ?_
     refine JL.pur (.int .i64 (a1.length : Int)) (some 13) ?_
     refine JL.pur (.bool (decide (i32 < (a1.length : Int)))) (some 14) ?_
     refine JL.nil ?_
     refine JQ.then_normal ?_
     refine JQ.sub [(0, .slice Aa2 a1.length c3), (1, .slice Aa6 b5.length c7), (5, .int .i64 i32), (14, .bool (decide (i32 < (a1.length : Int))))] ?_
     rcases ite_cases H1 with ⟨h43, H1⟩ | ⟨h43, H1⟩
     · refine J.cond_true h43 ?_
       refine J.skip ?_
       refine JQ.then_normal ?_
       refine JQ.sub [(0, .slice Aa2 a1.length c3), (1, .slice Aa6 b5.length c7), (5, .int .i64 i32)] ?_
       refine J.seq ?_
       refine J.block ?_
       refine J.seq ?_
       refine J.draw ?_
       refine QL.mv (.slice Aa2 a1.length c3) ?_
       refine QL.mv (.int .i64 i32) ?_
       obtain ⟨⟨h44, h45⟩, H1⟩ := ite_must H1
       refine QL.ixAddr 0 15 c3 .i64 (elems_rd Aa2 c3 fl_Pol.kd a1 true) Try.underlying39 tySize_57 h44 h45 fun g46 o47 hA => ?_
       subst hA
       refine QL.val (mv_57 (ix a1 i32)) (some 20) (gives_loadEl (f := fl_Pol) 0 0 i32 (elems_rd (some ⟨g46, o47, none⟩) c3 fl_Pol.kd a1 true) h44 h45 tySize_57 (.inl ⟨tyAgg_57, rfl⟩)) ?_
       refine QL.mv (.slice Aa6 b5.length c7) ?_
       refine QL.mv (.int .i64 i32) ?_
       obtain ⟨⟨h48, h49⟩, H1⟩ := ite_must H1
       refine QL.ixAddr 1 15 c7 .i64 (elems_rd Aa6 c7 fl_Pol.kd b5 true) Try.underlying39 tySize_57 h48 h49 fun g50 o51 hA => ?_
       subst hA
       refine QL.val (mv_57 (ix b5 i32)) (some 24) (gives_loadEl (f := fl_Pol) 1 0 i32 (elems_rd (some ⟨g50, o51, none⟩) c7 fl_Pol.kd b5 true) h48 h49 tySize_57 (.inl ⟨tyAgg_57, rfl⟩)) ?_
       refine QL.val (.bool (!decide ((ix a1 i32) = (ix b5 i32)))) (some 25) (gives_neq eqg_57 (fun w => eqt_57 (ix a1 i32) (ix b5 i32) w)) ?_
       refine QL.nil ?_
       refine JA.nil ?_
       refine JQ.then_normal ?_
       refine JQ.sub [(0, .slice (some ⟨g46, o47, none⟩) a1.length c3), (1, .slice (some ⟨g50, o51, none⟩) b5.length c7), (5, .int .i64 i32), (25, .bool (!decide ((ix a1 i32) = (ix b5 i32))))] ?_
       rcases ite_cases H1 with ⟨h52, H1⟩ | ⟨h52, H1⟩
       · refine J.cond_true h52 ?_
         refine J.seq ?_
         refine J.region ?_
         refine JL.as (.bool false) ?_
         refine JL.nil ?_
         refine JQ.then_normal ?_
         refine JQ.sub [(4, .bool false)] ?_
         refine JQ.mask [] [false, false] ?_
         refine J.ret ?_
         refine JQ.blk_ret ?_
         refine JQ.then_ret ?_
         refine JQ.then_ret ?_
         refine JQ.blk_ret ?_
         refine JQ.met_ret ?_
         refine JQ.then_ret ?_
         rw [hr1 _ (Option.some.inj H1).symm, fin_ret] at H0
         obtain rfl := Option.some.inj H0
         exact JQ.done' (rs := [.tmp 4]) (vs := [.bool false]) [] (.inr rfl) ⟨by kernel_rfl, trivial⟩ (fun _ h => Heap.to h) ⟨rfl, rfl⟩
       · refine J.cond_false h52 ?_
         refine J.skip ?_
         refine JQ.blk_normal ?_
         refine JQ.then_normal ?_
         refine JQ.sub [(0, .slice (some ⟨g46, o47, none⟩) a1.length c3), (1, .slice (some ⟨g50, o51, none⟩) b5.length c7), (5, .int .i64 i32)] ?_
         refine J.region ?_
         refine JL.mv (.int .i64 i32) ?_
         refine JL.pur (.int .i64 (w64 (i32 + 1))) (some 16) ?_
         refine JL.as (.int .i64 (w64 (i32 + 1))) ?_
         refine JL.nil ?_
         refine JQ.then_normal ?_
         exact JQ.again (w64 (i32 + 1)) () (Option.some.inj H1).symm (fun _ h => Heap.to h)
     · refine J.cond_false h43 ?_
       refine J.exit ?_
       refine JQ.then_exit ?_
       refine JQ.then_exit ?_
       refine JQ.blk_exit ?_
       rw [hb1 _ (Option.some.inj H1).symm, fin_brk] at H0
       exact JQ.met () () H0 (fun _ h => Heap.to (Heap.pick [] (by decide) h))
   · clear hit H0
     rintro ⟨⟩ ⟨⟩ H0
     replace H0 : ref33_Same.k2 = some r := H0
     unfold ref33_Same.k2 at H0
     refine JQ.sub [] ?_
     refine JQ.turn (Δ' := []) (fun _ h => h.to) ?_
     refine JQ.then_normal ?_
     refine J.seq ?_
     refine J.region ?_
     refine JL.as (.bool true) ?_
     refine JL.nil ?_
     refine JQ.then_normal ?_
     refine J.ret ?_
     obtain rfl := Option.some.inj H0
     exact JQ.done' (rs := [.tmp 4]) (vs := [.bool true]) [] (.inr rfl) ⟨by kernel_rfl, trivial⟩ (fun _ h => Heap.to h) ⟨rfl, rfl⟩

theorem law33_JonesActs.ok (t1 : (List (A4 Cx))) (Aa2 : Option Addr) (c3 : Nat) (l5 : (List Pol)) (Aa6 : Option Addr) (c7 : Nat) (a9 : Int) (b10 : Int) (c11 : Int) (d12 : Int) (r : Bool) (H0 : law33_JonesActs.f t1 l5 a9 b10 c11 d12 = some r) :
    Does Try.prog 6 [.slice Aa2 t1.length c3, .slice Aa6 l5.length c7, .int .i64 a9, .int .i64 b10, .int .i64 c11, .int .i64 d12].toArray [At.rd Aa2 c3 ((flArr4 fl_Cx).kd) t1 true, At.rd Aa6 c7 fl_Pol.kd l5 true] [] false (fun v Δ => v = .bool r ∧ Δ = []) := by
 refine Does.body (vs := [.slice Aa2 t1.length c3, .slice Aa6 l5.length c7, .int .i64 a9, .int .i64 b10, .int .i64 c11, .int .i64 d12]) Try.func6 rfl ⟨.inl rfl, .inl rfl, trivial⟩ trivial fun w S => ?_
 unfold law33_JonesActs.f at H0
 refine J.seq ?_
 refine J.region ?_
 refine JL.as (.bool false) ?_
 refine JL.nil ?_
 refine JQ.then_normal ?_
 refine JQ.sub [(0, .slice Aa2 t1.length c3), (1, .slice Aa6 l5.length c7), (2, .int .i64 a9), (3, .int .i64 b10), (4, .int .i64 c11), (5, .int .i64 d12)] ?_
 refine J.seq ?_
 refine J.join (T := Bool) (G := Unit) (fun t => law33_JonesActs.k1 t1 l5 a9 b10 c11 d12 t = some r) (fun t g => [(0, .slice Aa2 t1.length c3), (1, .slice Aa6 l5.length c7), (2, .int .i64 a9), (3, .int .i64 b10), (4, .int .i64 c11), (5, .int .i64 d12), (28, .bool t)]) (fun t g => [At.rd Aa2 c3 ((flArr4 fl_Cx).kd) t1 true, At.rd Aa6 c7 fl_Pol.kd l5 true]) ?_ ?_
 · refine J.region ?_
   refine JL.mv (.slice Aa2 t1.length c3) ?_
   refine JL.pur (.int .i64 (t1.length : Int)) (some 22) ?_
   refine JL.pur (.bool (decide (20 < (t1.length : Int)))) (some 23) ?_
   refine JL.mv (.bool (decide (20 < (t1.length : Int)))) ?_
   rcases ite_cases H0 with ⟨h37, H0⟩ | ⟨h37, H0⟩
   · refine JL.off 3 24 false (some 25) h37 ?_
     refine JL.off 3 24 false (some 26) h37 ?_
     refine JL.off 3 24 false (some 27) h37 ?_
     refine JL.val (.bool true) (some 28) (gives_pickT h37) ?_
     refine JL.nil ?_
     refine JQ.then_normal ?_
     exact JQ.meet true () H0 (fun _ h => Heap.to h)
   · refine JL.on 3 24 h37 ?_
     refine JL.mv (.slice Aa6 l5.length c7) ?_
     refine JL.on 3 24 h37 ?_
     refine JL.pur (.int .i64 (l5.length : Int)) (some 26) ?_
     refine JL.on 3 24 h37 ?_
     refine JL.pur (.bool (decide (100 < (l5.length : Int)))) (some 27) ?_
     refine JL.val (.bool (decide (100 < (l5.length : Int)))) (some 28) (gives_pickF h37) ?_
     refine JL.nil ?_
     refine JQ.then_normal ?_
     exact JQ.meet (decide (100 < (l5.length : Int))) () H0 (fun _ h => Heap.to h)
 · clear H0
   rintro x14 ⟨⟩ H0
   replace H0 : law33_JonesActs.k1 t1 l5 a9 b10 c11 d12 x14 = some r := H0
   unfold law33_JonesActs.k1 at H0
   refine JQ.sub [(0, .slice Aa2 t1.length c3), (1, .slice Aa6 l5.length c7), (2, .int .i64 a9), (3, .int .i64 b10), (4, .int .i64 c11), (5, .int .i64 d12), (28, .bool x14)] ?_
   refine JQ.turn (Δ' := [At.rd Aa2 c3 ((flArr4 fl_Cx).kd) t1 true, At.rd Aa6 c7 fl_Pol.kd l5 true]) (fun _ h => h.to) ?_
   rcases ite_cases H0 with ⟨h15, H0⟩ | ⟨h15, H0⟩
   · refine J.cond_true h15 ?_
     refine J.seq ?_
     refine J.region ?_
     refine JL.as (.bool true) ?_
     refine JL.nil ?_
     refine JQ.then_normal ?_
     refine JQ.sub [(12, .bool true)] ?_
     refine JQ.mask [] [false, false] ?_
     refine J.ret ?_
     refine JQ.then_ret ?_
     obtain rfl := Option.some.inj H0
     exact JQ.done' (rs := [.tmp 12]) (vs := [.bool true]) [] (.inr rfl) ⟨by kernel_rfl, trivial⟩ (fun _ h => Heap.to h) ⟨rfl, rfl⟩
   · refine J.cond_false h15 ?_
     refine J.skip ?_
     refine JQ.then_normal ?_
     refine JQ.sub [(0, .slice Aa2 t1.length c3), (1, .slice Aa6 l5.length c7), (2, .int .i64 a9), (3, .int .i64 b10), (4, .int .i64 c11), (5, .int .i64 d12)] ?_
     refine J.seq ?_
     refine J.region ?_
     refine JL.mv (.slice Aa2 t1.length c3) ?_
     refine JL.mv (.slice Aa6 l5.length c7) ?_
     obtain ⟨t16, hc17, H0⟩ := bind_some H0
     refine JL.call [] [] [] (jones_Act.ok t1 Aa2 c3 l5 Aa6 c7 _ hc17) ⟨pre_any 0 (view_rd Aa2 c3 ((flArr4 fl_Cx).kd) t1 true true), ⟨pre_any 1 (view_rd Aa6 c7 fl_Pol.kd l5 true true), trivial⟩⟩ ?_
     rintro _ _ ⟨Aa18, c19, rfl, rfl⟩
     refine JL.mv (.tuple #[.slice Aa18 t16.1.length c19, .int .i64 t16.2]) ?_
     refine JL.pur (.slice Aa18 t16.1.length c19) (some 33) ?_
     refine JL.pur (.int .i64 t16.2) (some 34) ?_
     refine JL.as (.slice Aa18 t16.1.length c19) ?_
     refine JL.as (.int .i64 t16.2) ?_
     refine JL.nil ?_
     refine JQ.then_normal ?_
     refine JQ.sub [(0, .slice Aa2 t1.length c3), (1, .slice Aa6 l5.length c7), (2, .int .i64 a9), (3, .int .i64 b10), (4, .int .i64 c11), (5, .int .i64 d12), (13, .slice Aa18 t16.1.length c19), (14, .int .i64 t16.2)] ?_
     refine J.seq ?_
     refine J.region ?_
     refine JL.mv (.slice Aa2 t1.length c3) ?_
     refine JL.mv (.slice Aa6 l5.length c7) ?_
     obtain ⟨t21, hc22, H0⟩ := bind_some H0
     refine JL.call [] [] [] (ref33_Act.ok t1 Aa2 c3 l5 Aa6 c7 _ hc22) ⟨pre_any 0 (view_rd Aa2 c3 ((flArr4 fl_Cx).kd) t1 true true), ⟨pre_any 1 (view_rd Aa6 c7 fl_Pol.kd l5 true true), trivial⟩⟩ ?_
     rintro _ _ ⟨Aa23, c24, rfl, rfl⟩
     refine JL.mv (.tuple #[.slice Aa23 t21.1.length c24, .int .i64 t21.2]) ?_
     refine JL.pur (.slice Aa23 t21.1.length c24) (some 39) ?_
     refine JL.pur (.int .i64 t21.2) (some 40) ?_
     refine JL.as (.slice Aa23 t21.1.length c24) ?_
     refine JL.as (.int .i64 t21.2) ?_
     refine JL.nil ?_
     refine JQ.then_normal ?_
     refine JQ.sub [(1, .slice Aa6 l5.length c7), (2, .int .i64 a9), (3, .int .i64 b10), (4, .int .i64 c11), (5, .int .i64 d12), (13, .slice Aa18 t16.1.length c19), (14, .int .i64 t16.2), (15, .slice Aa23 t21.1.length c24), (16, .int .i64 t21.2)] ?_
     refine JQ.mask [At.rd Aa6 c7 fl_Pol.kd l5 true, At.row Aa18 c19 57 fl_Pol.kd t16.1 false, At.row Aa23 c24 57 fl_Pol.kd t21.1 false] [false, true, true, true] ?_
     refine J.seq ?_
     refine J.region ?_
     refine JL.mv (.slice Aa6 l5.length c7) ?_
     refine JL.mv (.int .i64 a9) ?_
     refine JL.mv (.int .i64 b10) ?_
     refine JL.mv (.int .i64 c11) ?_
     refine JL.mv (.int .i64 d12) ?_
     obtain ⟨t26, hc27, H0⟩ := bind_some H0
     refine JL.call [] [] [] (jones_Loop.ok l5 Aa6 c7 a9 b10 c11 d12 _ hc27) ⟨pre_any 0 (view_rd Aa6 c7 fl_Pol.kd l5 true true), trivial⟩ ?_
     rintro _ _ ⟨rfl, rfl⟩
     refine JL.mv (.tuple #[mv_25 t26.1, .int .i64 t26.2]) ?_
     refine JL.pur (mv_25 t26.1) (some 48) ?_
     refine JL.pur (.int .i64 t26.2) (some 49) ?_
     refine JL.alloc (cl_25 zv_25) fun b28 => ?_
     refine JL.store 3 b28 0 25 (cl_25 zv_25) (cl_25 t26.1) tySize_25 ?_
     refine JL.as (.int .i64 t26.2) ?_
     refine JL.nil ?_
     refine JQ.then_normal ?_
     refine JQ.sub [(1, .slice Aa6 l5.length c7), (2, .int .i64 a9), (3, .int .i64 b10), (4, .int .i64 c11), (5, .int .i64 d12), (13, .slice Aa18 t16.1.length c19), (14, .int .i64 t16.2), (15, .slice Aa23 t21.1.length c24), (16, .int .i64 t21.2), (17, .pointer (some ⟨b28, 0, none⟩)), (18, .int .i64 t26.2)] ?_
     refine J.seq ?_
     refine J.region ?_
     refine JL.mv (.slice Aa6 l5.length c7) ?_
     refine JL.mv (.int .i64 a9) ?_
     refine JL.mv (.int .i64 b10) ?_
     refine JL.mv (.int .i64 c11) ?_
     refine JL.mv (.int .i64 d12) ?_
     obtain ⟨t29, hc30, H0⟩ := bind_some H0
     refine JL.call [] [] [] (ref33_Loop.ok l5 Aa6 c7 a9 b10 c11 d12 _ hc30) ⟨pre_any 0 (view_rd Aa6 c7 fl_Pol.kd l5 true true), trivial⟩ ?_
     rintro _ _ ⟨rfl, rfl⟩
     refine JL.mv (.tuple #[mv_25 t29.1, .int .i64 t29.2]) ?_
     refine JL.pur (mv_25 t29.1) (some 57) ?_
     refine JL.pur (.int .i64 t29.2) (some 58) ?_
     refine JL.alloc (cl_25 zv_25) fun b31 => ?_
     refine JL.store 4 b31 0 25 (cl_25 zv_25) (cl_25 t29.1) tySize_25 ?_
     refine JL.as (.int .i64 t29.2) ?_
     refine JL.nil ?_
     refine JQ.then_normal ?_
     refine JQ.sub [(13, .slice Aa18 t16.1.length c19), (14, .int .i64 t16.2), (15, .slice Aa23 t21.1.length c24), (16, .int .i64 t21.2), (17, .pointer (some ⟨b28, 0, none⟩)), (18, .int .i64 t26.2), (19, .pointer (some ⟨b31, 0, none⟩)), (20, .int .i64 t29.2)] ?_
     refine JQ.mask [At.row Aa18 c19 57 fl_Pol.kd t16.1 false, At.row Aa23 c24 57 fl_Pol.kd t21.1 false, At.box b28 25 (cl_25 t26.1), At.box b31 25 (cl_25 t29.1)] [false, true, true, true, true] ?_
     refine J.seq ?_
     refine J.region ?_
     refine JL.mv (.slice Aa18 t16.1.length c19) ?_
     refine JL.mv (.slice Aa23 t21.1.length c24) ?_
     obtain ⟨t32, hc33, H0⟩ := bind_some H0
     refine JL.call [] [] [] (ref33_Same.ok t16.1 Aa18 c19 t21.1 Aa23 c24 _ hc33) ⟨pre_view 0 (view_row Aa18 c19 57 fl_Pol.kd t16.1 false true), ⟨pre_view 1 (view_row Aa23 c24 57 fl_Pol.kd t21.1 false true), trivial⟩⟩ ?_
     rintro _ _ ⟨rfl, rfl⟩
     refine JL.mv (.bool t32) ?_
     rcases ite_cases H0 with ⟨h34, H0⟩ | ⟨h34, H0⟩
     · refine JL.on 3 62 h34 ?_
       refine JL.mv (.int .i64 t16.2) ?_
       refine JL.on 3 62 h34 ?_
       refine JL.mv (.int .i64 t21.2) ?_
       refine JL.on 3 62 h34 ?_
       refine JL.pur (.bool (decide (t16.2 = t21.2))) (some 65) ?_
       refine JL.val (.bool (decide (t16.2 = t21.2))) (some 66) (gives_pickT h34) ?_
       refine JL.mv (.bool (decide (t16.2 = t21.2))) ?_
       rcases ite_cases H0 with ⟨h35, H0⟩ | ⟨h35, H0⟩
       · refine JL.on 8 67 h35 ?_
         refine JL.val (mv_25 t26.1) (some 68) (yields_load_boxes 2 0 (cl_25 t26.1) (holds_box b28 25 (cl_25 t26.1)) tyAgg_25 tySize_25) ?_
         refine JL.on 8 67 h35 ?_
         refine JL.val (mv_25 t29.1) (some 69) (yields_load_boxes 3 0 (cl_25 t29.1) (holds_box b31 25 (cl_25 t29.1)) tyAgg_25 tySize_25) ?_
         refine JL.on 8 67 h35 ?_
         refine JL.val (.bool (decide (t26.1 = t29.1))) (some 70) (gives_eql eqg_25 (fun w => eqt_25 t26.1 t29.1 w)) ?_
         refine JL.val (.bool (decide (t26.1 = t29.1))) (some 71) (gives_pickT h35) ?_
         refine JL.mv (.bool (decide (t26.1 = t29.1))) ?_
         rcases ite_cases H0 with ⟨h36, H0⟩ | ⟨h36, H0⟩
         · refine JL.on 13 72 h36 ?_
           refine JL.mv (.int .i64 t26.2) ?_
           refine JL.on 13 72 h36 ?_
           refine JL.mv (.int .i64 t29.2) ?_
           refine JL.on 13 72 h36 ?_
           refine JL.pur (.bool (decide (t26.2 = t29.2))) (some 75) ?_
           refine JL.val (.bool (decide (t26.2 = t29.2))) (some 76) (gives_pickT h36) ?_
           refine JL.as (.bool (decide (t26.2 = t29.2))) ?_
           refine JL.nil ?_
           refine JQ.then_normal ?_
           refine JQ.sub [(12, .bool (decide (t26.2 = t29.2)))] ?_
           refine JQ.mask [] [false, false, false, false] ?_
           refine J.ret ?_
           obtain rfl := Option.some.inj H0
           exact JQ.done' (rs := [.tmp 12]) (vs := [.bool (decide (t26.2 = t29.2))]) [] (.inr rfl) ⟨by kernel_rfl, trivial⟩ (fun _ h => Heap.to h) ⟨rfl, rfl⟩
         · refine JL.off 13 72 true (some 73) h36 ?_
           refine JL.off 13 72 true (some 74) h36 ?_
           refine JL.off 13 72 true (some 75) h36 ?_
           refine JL.val (.bool false) (some 76) (gives_pickF h36) ?_
           refine JL.as (.bool false) ?_
           refine JL.nil ?_
           refine JQ.then_normal ?_
           refine JQ.sub [(12, .bool false)] ?_
           refine JQ.mask [] [false, false, false, false] ?_
           refine J.ret ?_
           obtain rfl := Option.some.inj H0
           exact JQ.done' (rs := [.tmp 12]) (vs := [.bool false]) [] (.inr rfl) ⟨by kernel_rfl, trivial⟩ (fun _ h => Heap.to h) ⟨rfl, rfl⟩
       · refine JL.off 8 67 true (some 68) h35 ?_
         refine JL.off 8 67 true (some 69) h35 ?_
         refine JL.off 8 67 true (some 70) h35 ?_
         refine JL.val (.bool false) (some 71) (gives_pickF h35) ?_
         refine JL.mv (.bool false) ?_
         refine JL.off 13 72 true (some 73) rfl ?_
         refine JL.off 13 72 true (some 74) rfl ?_
         refine JL.off 13 72 true (some 75) rfl ?_
         refine JL.val (.bool false) (some 76) (gives_pickF rfl) ?_
         refine JL.as (.bool false) ?_
         refine JL.nil ?_
         refine JQ.then_normal ?_
         refine JQ.sub [(12, .bool false)] ?_
         refine JQ.mask [] [false, false, false, false] ?_
         refine J.ret ?_
         obtain rfl := Option.some.inj H0
         exact JQ.done' (rs := [.tmp 12]) (vs := [.bool false]) [] (.inr rfl) ⟨by kernel_rfl, trivial⟩ (fun _ h => Heap.to h) ⟨rfl, rfl⟩
     · refine JL.off 3 62 true (some 63) h34 ?_
       refine JL.off 3 62 true (some 64) h34 ?_
       refine JL.off 3 62 true (some 65) h34 ?_
       refine JL.val (.bool false) (some 66) (gives_pickF h34) ?_
       refine JL.mv (.bool false) ?_
       refine JL.off 8 67 true (some 68) rfl ?_
       refine JL.off 8 67 true (some 69) rfl ?_
       refine JL.off 8 67 true (some 70) rfl ?_
       refine JL.val (.bool false) (some 71) (gives_pickF rfl) ?_
       refine JL.mv (.bool false) ?_
       refine JL.off 13 72 true (some 73) rfl ?_
       refine JL.off 13 72 true (some 74) rfl ?_
       refine JL.off 13 72 true (some 75) rfl ?_
       refine JL.val (.bool false) (some 76) (gives_pickF rfl) ?_
       refine JL.as (.bool false) ?_
       refine JL.nil ?_
       refine JQ.then_normal ?_
       refine JQ.sub [(12, .bool false)] ?_
       refine JQ.mask [] [false, false, false, false] ?_
       refine J.ret ?_
       obtain rfl := Option.some.inj H0
       exact JQ.done' (rs := [.tmp 12]) (vs := [.bool false]) [] (.inr rfl) ⟨by kernel_rfl, trivial⟩ (fun _ h => Heap.to h) ⟨rfl, rfl⟩


end Go.Proofs.Ytlfmmenlkpoodaa.M
