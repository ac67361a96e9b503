import Derived.Test.YtifpegepdgmmbaaW0
set_option linter.unusedVariables false
set_option linter.unusedSimpArgs false
set_option maxRecDepth 100000
set_option maxHeartbeats 8000000
namespace Go.Proofs.Ytifpegepdgmmbaa.M
open Go.GW Go.Proofs

theorem law35_CorruptTimes.ok (x1 : Spoil) (time2 : Int) (r : Bool) (H0 : law35_CorruptTimes.f x1 time2 = some r) :
    Does Try.prog 3 [mv_25 x1, .int .i64 time2].toArray [] [] false (fun v Δ => v = .bool r ∧ Δ = []) := by
 refine Does.body (vs := [mv_25 x1, .int .i64 time2]) Try.func3 rfl trivial trivial fun w S => ?_
 unfold law35_CorruptTimes.f at H0
 refine J.seq ?_
 refine J.region ?_
 refine JL.box (cl_25 x1) fun b3 => ?_
 refine JL.as (.bool false) ?_
 refine JL.nil ?_
 refine JQ.then_normal ?_
 refine JQ.sub [(1, .int .i64 time2), (2, .pointer (some ⟨b3, 0, none⟩))] ?_
 refine J.seq ?_
 refine J.region ?_
 obtain ⟨t4, hc5, H0⟩ := bind_some H0
 refine JL.call [] [] [] (law35_alive.ok _ hc5) trivial ?_
 rintro _ _ ⟨rfl, rfl⟩
 refine JL.as (.bool t4) ?_
 refine JL.nil ?_
 refine JQ.then_normal ?_
 refine JQ.sub [(1, .int .i64 time2), (2, .pointer (some ⟨b3, 0, none⟩)), (5, .bool t4)] ?_
 refine J.seq ?_
 refine J.join (T := Bool) (G := Unit) (fun t => law35_CorruptTimes.k1 x1 time2 t4 t = some r) (fun t g => [(1, .int .i64 time2), (2, .pointer (some ⟨b3, 0, none⟩)), (5, .bool t4), (35, .bool t)]) (fun t g => [At.box b3 25 (cl_25 x1)]) ?_ ?_
 · refine J.region ?_
   refine JL.val (mv_25 x1) (some 21) (yields_load_boxes 0 0 (cl_25 x1) (holds_box b3 25 (cl_25 x1)) tyAgg_25 tySize_25) ?_
   obtain ⟨t138, hc139, H0⟩ := bind_some H0
   refine JL.call [] [] [] (ref35_Event.ok x1 _ hc139) trivial ?_
   rintro _ _ ⟨rfl, rfl⟩
   refine JL.pur (.bool (!t138)) (some 23) ?_
   refine JL.mv (.bool (!t138)) ?_
   rcases ite_cases H0 with ⟨h140, H0⟩ | ⟨h140, H0⟩
   · refine JL.off 3 24 false (some 25) h140 ?_
     refine JL.off 3 24 false (some 26) h140 ?_
     refine JL.val (.bool true) (some 27) (gives_pickT h140) ?_
     refine JL.mv (.bool true) ?_
     refine JL.off 7 28 false (some 29) rfl ?_
     refine JL.off 7 28 false (some 30) rfl ?_
     refine JL.val (.bool true) (some 31) (gives_pickT rfl) ?_
     refine JL.mv (.bool true) ?_
     refine JL.off 11 32 false (some 33) rfl ?_
     refine JL.off 11 32 false (some 34) rfl ?_
     refine JL.val (.bool true) (some 35) (gives_pickT rfl) ?_
     refine JL.nil ?_
     refine JQ.then_normal ?_
     exact JQ.meet true () H0 (fun _ h => Heap.to h)
   · refine JL.on 3 24 h140 ?_
     refine JL.mv (.int .i64 time2) ?_
     refine JL.on 3 24 h140 ?_
     refine JL.pur (.bool (decide (time2 < 0))) (some 26) ?_
     refine JL.val (.bool (decide (time2 < 0))) (some 27) (gives_pickF h140) ?_
     refine JL.mv (.bool (decide (time2 < 0))) ?_
     rcases ite_cases H0 with ⟨h141, H0⟩ | ⟨h141, H0⟩
     · refine JL.off 7 28 false (some 29) h141 ?_
       refine JL.off 7 28 false (some 30) h141 ?_
       refine JL.val (.bool true) (some 31) (gives_pickT h141) ?_
       refine JL.mv (.bool true) ?_
       refine JL.off 11 32 false (some 33) rfl ?_
       refine JL.off 11 32 false (some 34) rfl ?_
       refine JL.val (.bool true) (some 35) (gives_pickT rfl) ?_
       refine JL.nil ?_
       refine JQ.then_normal ?_
       exact JQ.meet true () H0 (fun _ h => Heap.to h)
     · refine JL.on 7 28 h141 ?_
       refine JL.mv (.int .i64 time2) ?_
       refine JL.on 7 28 h141 ?_
       refine JL.pur (.bool (decide (32 ≤ time2))) (some 30) ?_
       refine JL.val (.bool (decide (32 ≤ time2))) (some 31) (gives_pickF h141) ?_
       refine JL.mv (.bool (decide (32 ≤ time2))) ?_
       rcases ite_cases H0 with ⟨h142, H0⟩ | ⟨h142, H0⟩
       · refine JL.off 11 32 false (some 33) h142 ?_
         refine JL.off 11 32 false (some 34) h142 ?_
         refine JL.val (.bool true) (some 35) (gives_pickT h142) ?_
         refine JL.nil ?_
         refine JQ.then_normal ?_
         exact JQ.meet true () H0 (fun _ h => Heap.to h)
       · refine JL.on 11 32 h142 ?_
         refine JL.mv (.bool t4) ?_
         refine JL.on 11 32 h142 ?_
         refine JL.pur (.bool (!t4)) (some 34) ?_
         refine JL.val (.bool (!t4)) (some 35) (gives_pickF h142) ?_
         refine JL.nil ?_
         refine JQ.then_normal ?_
         exact JQ.meet (!t4) () H0 (fun _ h => Heap.to h)
 · clear H0
   rintro x11 ⟨⟩ H0
   replace H0 : law35_CorruptTimes.k1 x1 time2 t4 x11 = some r := H0
   unfold law35_CorruptTimes.k1 at H0
   refine JQ.sub [(1, .int .i64 time2), (2, .pointer (some ⟨b3, 0, none⟩)), (5, .bool t4), (35, .bool x11)] ?_
   refine JQ.turn (Δ' := [At.box b3 25 (cl_25 x1)]) (fun _ h => h.to) ?_
   rcases ite_cases H0 with ⟨h12, H0⟩ | ⟨h12, H0⟩
   · refine J.cond_true h12 ?_
     refine J.seq ?_
     refine J.region ?_
     refine JL.mv (.bool t4) ?_
     refine JL.as (.bool t4) ?_
     refine JL.nil ?_
     refine JQ.then_normal ?_
     refine JQ.sub [(4, .bool t4)] ?_
     refine JQ.mask [] [false] ?_
     refine J.ret ?_
     refine JQ.then_ret ?_
     obtain rfl := Option.some.inj H0
     exact JQ.done' (rs := [.tmp 4]) (vs := [.bool t4]) [] (.inr rfl) ⟨by kernel_rfl, trivial⟩ (fun _ h => Heap.to h) ⟨rfl, rfl⟩
   · refine J.cond_false h12 ?_
     refine J.skip ?_
     refine JQ.then_normal ?_
     refine JQ.sub [(1, .int .i64 time2), (2, .pointer (some ⟨b3, 0, none⟩)), (5, .bool t4)] ?_
     refine J.seq ?_
     refine J.region ?_
     refine JL.val (mv_25 x1) (some 38) (yields_load_boxes 0 0 (cl_25 x1) (holds_box b3 25 (cl_25 x1)) tyAgg_25 tySize_25) ?_
     refine JL.buildSl 25 fl_Spoil.kd (([x1] : List Spoil) : List Spoil) [.int .u8 x1.Kind, .int .i64 x1.Station, .int .i64 x1.From, .int .i64 x1.To, .int .i64 x1.V.Re, .int .i64 x1.V.Im, .int .i64 x1.V.Den, .int .i64 x1.Q] false (closes_fl rfl) fun b13 => ?_
     refine JL.mv (.int .i64 time2) ?_
     obtain ⟨t14, hc15, H0⟩ := bind_some H0
     refine JL.call [] [] [] (corrupt_Table.ok ([x1] : List Spoil) (some ⟨b13, 0, none⟩) 1 time2 _ hc15) ⟨pre_view 1 (view_row (some ⟨b13, 0, none⟩) 1 25 fl_Spoil.kd ([x1] : List Spoil) false true), trivial⟩ ?_
     rintro _ _ ⟨Aa16, c17, rfl, rfl⟩
     refine JL.mv (.tuple #[.slice Aa16 t14.1.length c17, .int .i64 t14.2]) ?_
     refine JL.pur (.slice Aa16 t14.1.length c17) (some 42) ?_
     refine JL.pur (.int .i64 t14.2) (some 43) ?_
     refine JL.as (.slice Aa16 t14.1.length c17) ?_
     refine JL.as (.int .i64 t14.2) ?_
     refine JL.nil ?_
     refine JQ.then_normal ?_
     refine JQ.sub [(1, .int .i64 time2), (2, .pointer (some ⟨b3, 0, none⟩)), (5, .bool t4), (6, .slice Aa16 t14.1.length c17), (7, .int .i64 t14.2)] ?_
     refine JQ.mask [At.box b3 25 (cl_25 x1), At.row Aa16 c17 23 fl_Cx.kd t14.1 false] [true, false, true] ?_
     refine J.seq ?_
     refine J.join (T := Bool) (G := Unit) (fun t => law35_CorruptTimes.k2 x1 time2 t4 t14 t = some r) (fun t g => [(1, .int .i64 time2), (2, .pointer (some ⟨b3, 0, none⟩)), (5, .bool t4), (6, .slice Aa16 t14.1.length c17), (50, .bool t)]) (fun t g => [At.box b3 25 (cl_25 x1), At.row Aa16 c17 23 fl_Cx.kd t14.1 false]) ?_ ?_
     · refine J.region ?_
       refine JL.mv (.int .i64 t14.2) ?_
       refine JL.pur (.bool (!decide (t14.2 = 0))) (some 45) ?_
       refine JL.mv (.bool (!decide (t14.2 = 0))) ?_
       rcases ite_cases H0 with ⟨h137, H0⟩ | ⟨h137, H0⟩
       · refine JL.off 2 46 false (some 47) h137 ?_
         refine JL.off 2 46 false (some 48) h137 ?_
         refine JL.off 2 46 false (some 49) h137 ?_
         refine JL.val (.bool true) (some 50) (gives_pickT h137) ?_
         refine JL.nil ?_
         refine JQ.then_normal ?_
         exact JQ.meet true () H0 (fun _ h => Heap.to h)
       · refine JL.on 2 46 h137 ?_
         refine JL.mv (.slice Aa16 t14.1.length c17) ?_
         refine JL.on 2 46 h137 ?_
         refine JL.pur (.int .i64 (t14.1.length : Int)) (some 48) ?_
         refine JL.on 2 46 h137 ?_
         refine JL.pur (.bool (!decide ((t14.1.length : Int) = 8))) (some 49) ?_
         refine JL.val (.bool (!decide ((t14.1.length : Int) = 8))) (some 50) (gives_pickF h137) ?_
         refine JL.nil ?_
         refine JQ.then_normal ?_
         exact JQ.meet (!decide ((t14.1.length : Int) = 8)) () H0 (fun _ h => Heap.to h)
     · clear H0
       rintro x20 ⟨⟩ H0
       replace H0 : law35_CorruptTimes.k2 x1 time2 t4 t14 x20 = some r := H0
       unfold law35_CorruptTimes.k2 at H0
       refine JQ.sub [(1, .int .i64 time2), (2, .pointer (some ⟨b3, 0, none⟩)), (5, .bool t4), (6, .slice Aa16 t14.1.length c17), (50, .bool x20)] ?_
       refine JQ.turn (Δ' := [At.box b3 25 (cl_25 x1), At.row Aa16 c17 23 fl_Cx.kd t14.1 false]) (fun _ h => h.to) ?_
       rcases ite_cases H0 with ⟨h21, H0⟩ | ⟨h21, H0⟩
       · refine J.cond_true h21 ?_
         refine J.seq ?_
         refine J.region ?_
         refine JL.as (.bool false) ?_
         refine JL.nil ?_
         refine JQ.then_normal ?_
         refine JQ.sub [(4, .bool false)] ?_
         refine JQ.mask [] [false, false] ?_
         refine J.ret ?_
         refine JQ.then_ret ?_
         obtain rfl := Option.some.inj H0
         exact JQ.done' (rs := [.tmp 4]) (vs := [.bool false]) [] (.inr rfl) ⟨by kernel_rfl, trivial⟩ (fun _ h => Heap.to h) ⟨rfl, rfl⟩
       · refine J.cond_false h21 ?_
         refine J.skip ?_
         refine JQ.then_normal ?_
         refine JQ.sub [(1, .int .i64 time2), (2, .pointer (some ⟨b3, 0, none⟩)), (5, .bool t4), (6, .slice Aa16 t14.1.length c17)] ?_
         refine J.seq ?_
         refine J.region ?_
         obtain ⟨t22, hc23, H0⟩ := bind_some H0
         refine JL.call [] [] [] (ref26_One.ok _ hc23) trivial ?_
         rintro _ _ ⟨rfl, rfl⟩
         refine JL.alloc (cl_23 zv_23) fun b24 => ?_
         refine JL.store 2 b24 0 23 (cl_23 zv_23) (cl_23 t22) tySize_23 ?_
         refine JL.nil ?_
         refine JQ.then_normal ?_
         refine JQ.sub [(1, .int .i64 time2), (2, .pointer (some ⟨b3, 0, none⟩)), (5, .bool t4), (6, .slice Aa16 t14.1.length c17), (8, .pointer (some ⟨b24, 0, none⟩))] ?_
         refine J.seq ?_
         refine J.seq ?_
         refine J.region ?_
         refine JL.as (.int .i64 0) ?_
         refine JL.nil ?_
         refine JQ.then_normal ?_
         obtain ⟨o1, hit, H0⟩ := bind_some H0
         refine J.loop (σ := Int) (τ := Unit) (G := Unit) (G' := Unit) _ o1 (fun s g => [(1, .int .i64 time2), (2, .pointer (some ⟨b3, 0, none⟩)), (5, .bool t4), (6, .slice Aa16 t14.1.length c17), (8, .pointer (some ⟨b24, 0, none⟩)), (9, .int .i64 s)]) (fun s g => [At.box b3 25 (cl_25 x1), At.row Aa16 c17 23 fl_Cx.kd t14.1 false, At.box b24 23 (cl_23 t22)]) (fun t => law35_CorruptTimes.k7 x1 time2 t4 t14 t22 = some r) (fun t g => [(1, .int .i64 time2), (2, .pointer (some ⟨b3, 0, none⟩)), (5, .bool t4), (6, .slice Aa16 t14.1.length c17), (8, .pointer (some ⟨b24, 0, none⟩))]) (fun t g => [At.box b3 25 (cl_25 x1), At.row Aa16 c17 23 fl_Cx.kd t14.1 false, At.box b24 23 (cl_23 t22)]) 0 () hit (fun _ h => Heap.to h) ?_ ?_
         · clear hit
           rintro i53 ⟨⟩ st1 H1 hb1 hr1
           replace H1 : law35_CorruptTimes.s6 x1 t14 t22 i53 = some st1 := H1
           unfold law35_CorruptTimes.s6 at H1
           refine JQ.sub [(1, .int .i64 time2), (2, .pointer (some ⟨b3, 0, none⟩)), (5, .bool t4), (6, .slice Aa16 t14.1.length c17), (8, .pointer (some ⟨b24, 0, none⟩)), (9, .int .i64 i53)] ?_
           refine JQ.turn (Δ' := [At.box b3 25 (cl_25 x1), At.row Aa16 c17 23 fl_Cx.kd t14.1 false, At.box b24 23 (cl_23 t22)]) (fun _ h => h.to) ?_
           refine J.seq ?_
           refine J.seq ?_
           refine J.region ?_
           refine JL.mv (.int .i64 i53) ?_
           refine JL.mv (.slice Aa16 t14.1.length c17) ?_
           refine JL.pur (.int .i64 (t14.1.length : Int)) (some 54) ?_
           refine JL.pur (.bool (decide (i53 < (t14.1.length : Int)))) (some 55) ?_
           refine JL.nil ?_
           refine JQ.then_normal ?_
           refine JQ.sub [(1, .int .i64 time2), (2, .pointer (some ⟨b3, 0, none⟩)), (5, .bool t4), (6, .slice Aa16 t14.1.length c17), (8, .pointer (some ⟨b24, 0, none⟩)), (9, .int .i64 i53), (55, .bool (decide (i53 < (t14.1.length : Int))))] ?_
           rcases ite_cases H1 with ⟨h124, H1⟩ | ⟨h124, H1⟩
           · refine J.cond_true h124 ?_
             refine J.skip ?_
             refine JQ.then_normal ?_
             refine JQ.sub [(1, .int .i64 time2), (2, .pointer (some ⟨b3, 0, none⟩)), (5, .bool t4), (6, .slice Aa16 t14.1.length c17), (8, .pointer (some ⟨b24, 0, none⟩)), (9, .int .i64 i53)] ?_
             refine J.seq ?_
             refine J.block ?_
             refine J.join (T := Bool) (G := Unit) (fun t => law35_CorruptTimes.k11 i53 t = some st1) (fun t g => [(1, .int .i64 time2), (2, .pointer (some ⟨b3, 0, none⟩)), (5, .bool t4), (6, .slice Aa16 t14.1.length c17), (8, .pointer (some ⟨b24, 0, none⟩)), (9, .int .i64 i53), (69, .bool t)]) (fun t g => [At.box b3 25 (cl_25 x1), At.row Aa16 c17 23 fl_Cx.kd t14.1 false, At.box b24 23 (cl_23 t22)]) ?_ ?_
             · refine J.draw ?_
               refine QL.mv (.int .i64 i53) ?_
               refine QL.pur (.pointer (some ⟨b3, 1, none⟩)) (some 59) ?_
               refine QL.val (.int .i64 x1.Station) (some 60) (yields_load_box 0 1 (holds_box b3 25 (cl_25 x1)) tyAgg_3) ?_
               refine QL.pur (.bool (!decide (i53 = x1.Station))) (some 61) ?_
               refine QL.mv (.bool (!decide (i53 = x1.Station))) ?_
               rcases ite_cases H1 with ⟨h132, H1⟩ | ⟨h132, H1⟩
               · refine QL.on 4 62 h132 ?_
                 refine QL.mv (.slice Aa16 t14.1.length c17) ?_
                 refine QL.on 4 62 h132 ?_
                 refine QL.mv (.int .i64 i53) ?_
                 refine QL.on 4 62 h132 ?_
                 obtain ⟨⟨h133, h134⟩, H1⟩ := ite_must H1
                 refine QL.ixAddr 1 3 c17 .i64 (elems_row Aa16 c17 23 fl_Cx.kd t14.1 false) Try.underlying28 tySize_23 h133 h134 fun g135 o136 hA => ?_
                 subst hA
                 refine QL.on 4 62 h132 ?_
                 refine QL.val (mv_23 (ix t14.1 i53)) (some 66) (gives_loadEl (f := fl_Cx) 1 0 i53 (elems_row (some ⟨g135, o136, none⟩) c17 23 fl_Cx.kd t14.1 false) h133 h134 tySize_23 (.inl ⟨tyAgg_23, rfl⟩)) ?_
                 refine QL.on 4 62 h132 ?_
                 refine QL.val (mv_23 t22) (some 67) (yields_load_boxes 2 0 (cl_23 t22) (holds_box b24 23 (cl_23 t22)) tyAgg_23 tySize_23) ?_
                 refine QL.on 4 62 h132 ?_
                 refine QL.val (.bool (!decide ((ix t14.1 i53) = t22))) (some 68) (gives_neq eqg_23 (fun w => eqt_23 (ix t14.1 i53) t22 w)) ?_
                 refine QL.val (.bool (!decide ((ix t14.1 i53) = t22))) (some 69) (gives_pickT h132) ?_
                 refine QL.nil ?_
                 refine JA.nil ?_
                 refine JQ.then_normal ?_
                 exact JQ.meet (!decide ((ix t14.1 i53) = t22)) () H1 (fun _ h => Heap.to h)
               · refine QL.off 4 62 true (some 63) h132 ?_
                 refine QL.off 4 62 true (some 64) h132 ?_
                 refine QL.off 4 62 true (some 65) h132 ?_
                 refine QL.off 4 62 true (some 66) h132 ?_
                 refine QL.off 4 62 true (some 67) h132 ?_
                 refine QL.off 4 62 true (some 68) h132 ?_
                 refine QL.val (.bool false) (some 69) (gives_pickF h132) ?_
                 refine QL.nil ?_
                 refine JA.nil ?_
                 refine JQ.then_normal ?_
                 exact JQ.meet false () H1 (fun _ h => Heap.to h)
             · clear H1
               rintro x130 ⟨⟩ H1
               replace H1 : law35_CorruptTimes.k11 i53 x130 = some st1 := H1
               unfold law35_CorruptTimes.k11 at H1
               refine JQ.sub [(1, .int .i64 time2), (2, .pointer (some ⟨b3, 0, none⟩)), (5, .bool t4), (6, .slice Aa16 t14.1.length c17), (8, .pointer (some ⟨b24, 0, none⟩)), (9, .int .i64 i53), (69, .bool x130)] ?_
               refine JQ.turn (Δ' := [At.box b3 25 (cl_25 x1), At.row Aa16 c17 23 fl_Cx.kd t14.1 false, At.box b24 23 (cl_23 t22)]) (fun _ h => h.to) ?_
               rcases ite_cases H1 with ⟨h131, H1⟩ | ⟨h131, H1⟩
               · refine J.cond_true h131 ?_
                 refine J.seq ?_
                 refine J.region ?_
                 refine JL.as (.bool false) ?_
                 refine JL.nil ?_
                 refine JQ.then_normal ?_
                 refine JQ.sub [(4, .bool false)] ?_
                 refine JQ.mask [] [false, false, false] ?_
                 refine J.ret ?_
                 refine JQ.blk_ret ?_
                 refine JQ.then_ret ?_
                 refine JQ.then_ret ?_
                 refine JQ.blk_ret ?_
                 refine JQ.met_ret ?_
                 refine JQ.then_ret ?_
                 rw [hr1 _ (Option.some.inj H1).symm, fin_ret] at H0
                 obtain rfl := Option.some.inj H0
                 exact JQ.done' (rs := [.tmp 4]) (vs := [.bool false]) [] (.inr rfl) ⟨by kernel_rfl, trivial⟩ (fun _ h => Heap.to h) ⟨rfl, rfl⟩
               · refine J.cond_false h131 ?_
                 refine J.skip ?_
                 refine JQ.blk_normal ?_
                 refine JQ.then_normal ?_
                 refine JQ.sub [(1, .int .i64 time2), (2, .pointer (some ⟨b3, 0, none⟩)), (5, .bool t4), (6, .slice Aa16 t14.1.length c17), (8, .pointer (some ⟨b24, 0, none⟩)), (9, .int .i64 i53)] ?_
                 refine J.region ?_
                 refine JL.mv (.int .i64 i53) ?_
                 refine JL.pur (.int .i64 (w64 (i53 + 1))) (some 57) ?_
                 refine JL.as (.int .i64 (w64 (i53 + 1))) ?_
                 refine JL.nil ?_
                 refine JQ.then_normal ?_
                 exact JQ.again (w64 (i53 + 1)) () (Option.some.inj H1).symm (fun _ h => Heap.to h)
           · refine J.cond_false h124 ?_
             refine J.exit ?_
             refine JQ.then_exit ?_
             refine JQ.then_exit ?_
             refine JQ.blk_exit ?_
             rw [hb1 _ (Option.some.inj H1).symm, fin_brk] at H0
             exact JQ.met () () H0 (fun _ h => Heap.to h)
         · clear hit H0
           rintro ⟨⟩ ⟨⟩ H0
           replace H0 : law35_CorruptTimes.k7 x1 time2 t4 t14 t22 = some r := H0
           unfold law35_CorruptTimes.k7 at H0
           refine JQ.sub [(1, .int .i64 time2), (2, .pointer (some ⟨b3, 0, none⟩)), (5, .bool t4), (6, .slice Aa16 t14.1.length c17), (8, .pointer (some ⟨b24, 0, none⟩))] ?_
           refine JQ.turn (Δ' := [At.box b3 25 (cl_25 x1), At.row Aa16 c17 23 fl_Cx.kd t14.1 false, At.box b24 23 (cl_23 t22)]) (fun _ h => h.to) ?_
           refine JQ.then_normal ?_
           refine J.seq ?_
           refine J.region ?_
           refine JL.mv (.slice Aa16 t14.1.length c17) ?_
           refine JL.pur (.pointer (some ⟨b3, 1, none⟩)) (some 71) ?_
           refine JL.val (.int .i64 x1.Station) (some 72) (yields_load_box 0 1 (holds_box b3 25 (cl_25 x1)) tyAgg_3) ?_
           obtain ⟨⟨h67, h68⟩, H0⟩ := ite_must H0
           refine JL.ixAddr 1 3 c17 .i64 (elems_row Aa16 c17 23 fl_Cx.kd t14.1 false) Try.underlying28 tySize_23 h67 h68 fun g69 o70 hA => ?_
           subst hA
           refine JL.val (mv_23 (ix t14.1 x1.Station)) (some 74) (gives_loadEl (f := fl_Cx) 1 0 x1.Station (elems_row (some ⟨g69, o70, none⟩) c17 23 fl_Cx.kd t14.1 false) h67 h68 tySize_23 (.inl ⟨tyAgg_23, rfl⟩)) ?_
           refine JL.alloc (cl_23 zv_23) fun b71 => ?_
           refine JL.store 3 b71 0 23 (cl_23 zv_23) (cl_23 (ix t14.1 x1.Station)) tySize_23 ?_
           refine JL.nil ?_
           refine JQ.then_normal ?_
           refine JQ.sub [(1, .int .i64 time2), (2, .pointer (some ⟨b3, 0, none⟩)), (5, .bool t4), (6, .slice (some ⟨g69, o70, none⟩) t14.1.length c17), (8, .pointer (some ⟨b24, 0, none⟩)), (10, .pointer (some ⟨b71, 0, none⟩))] ?_
           refine J.join (T := Bool) (G := Unit) (fun t => law35_CorruptTimes.k8 x1 time2 t4 t14 t22 t = some r) (fun t g => [(1, .int .i64 time2), (2, .pointer (some ⟨b3, 0, none⟩)), (5, .bool t4), (6, .slice (some ⟨g69, o70, none⟩) t14.1.length c17), (8, .pointer (some ⟨b24, 0, none⟩)), (10, .pointer (some ⟨b71, 0, none⟩)), (11, .bool t)]) (fun t g => [At.box b3 25 (cl_25 x1), At.row (some ⟨g69, o70, none⟩) c17 23 fl_Cx.kd t14.1 false, At.box b24 23 (cl_23 t22), At.box b71 23 (cl_23 (ix t14.1 x1.Station))]) ?_ ?_
           · refine J.region ?_
             refine JL.mv (.int .i64 time2) ?_
             refine JL.pur (.pointer (some ⟨b3, 2, none⟩)) (some 76) ?_
             refine JL.val (.int .i64 x1.From) (some 77) (yields_load_box 0 2 (holds_box b3 25 (cl_25 x1)) tyAgg_3) ?_
             refine JL.pur (.bool (decide (x1.From ≤ time2))) (some 78) ?_
             refine JL.mv (.bool (decide (x1.From ≤ time2))) ?_
             rcases ite_cases H0 with ⟨h123, H0⟩ | ⟨h123, H0⟩
             · refine JL.on 4 79 h123 ?_
               refine JL.mv (.int .i64 time2) ?_
               refine JL.on 4 79 h123 ?_
               refine JL.pur (.pointer (some ⟨b3, 3, none⟩)) (some 81) ?_
               refine JL.on 4 79 h123 ?_
               refine JL.val (.int .i64 x1.To) (some 82) (yields_load_box 0 3 (holds_box b3 25 (cl_25 x1)) tyAgg_3) ?_
               refine JL.on 4 79 h123 ?_
               refine JL.pur (.bool (decide (time2 < x1.To))) (some 83) ?_
               refine JL.val (.bool (decide (time2 < x1.To))) (some 84) (gives_pickT h123) ?_
               refine JL.as (.bool (decide (time2 < x1.To))) ?_
               refine JL.nil ?_
               refine JQ.then_normal ?_
               exact JQ.meet (decide (time2 < x1.To)) () H0 (fun _ h => Heap.to h)
             · refine JL.off 4 79 true (some 80) h123 ?_
               refine JL.off 4 79 true (some 81) h123 ?_
               refine JL.off 4 79 true (some 82) h123 ?_
               refine JL.off 4 79 true (some 83) h123 ?_
               refine JL.val (.bool false) (some 84) (gives_pickF h123) ?_
               refine JL.as (.bool false) ?_
               refine JL.nil ?_
               refine JQ.then_normal ?_
               exact JQ.meet false () H0 (fun _ h => Heap.to h)
           · clear H0
             rintro inside73 ⟨⟩ H0
             replace H0 : law35_CorruptTimes.k8 x1 time2 t4 t14 t22 inside73 = some r := H0
             unfold law35_CorruptTimes.k8 at H0
             refine JQ.sub [(1, .int .i64 time2), (2, .pointer (some ⟨b3, 0, none⟩)), (5, .bool t4), (6, .slice (some ⟨g69, o70, none⟩) t14.1.length c17), (8, .pointer (some ⟨b24, 0, none⟩)), (10, .pointer (some ⟨b71, 0, none⟩)), (11, .bool inside73)] ?_
             refine JQ.turn (Δ' := [At.box b3 25 (cl_25 x1), At.row (some ⟨g69, o70, none⟩) c17 23 fl_Cx.kd t14.1 false, At.box b24 23 (cl_23 t22), At.box b71 23 (cl_23 (ix t14.1 x1.Station))]) (fun _ h => h.to) ?_
             refine J.seq ?_
             refine J.seq ?_
             refine J.region ?_
             refine JL.mv (.bool inside73) ?_
             refine JL.pur (.bool (!inside73)) (some 86) ?_
             refine JL.nil ?_
             refine JQ.then_normal ?_
             refine JQ.sub [(1, .int .i64 time2), (2, .pointer (some ⟨b3, 0, none⟩)), (5, .bool t4), (6, .slice (some ⟨g69, o70, none⟩) t14.1.length c17), (8, .pointer (some ⟨b24, 0, none⟩)), (10, .pointer (some ⟨b71, 0, none⟩)), (86, .bool (!inside73))] ?_
             rcases ite_cases H0 with ⟨h74, H0⟩ | ⟨h74, H0⟩
             · refine J.cond_true h74 ?_
               refine J.seq ?_
               refine J.region ?_
               refine JL.mv (.bool t4) ?_
               refine JL.mv (.bool t4) ?_
               rcases ite_cases H0 with ⟨h75, H0⟩ | ⟨h75, H0⟩
               · refine JL.on 1 88 h75 ?_
                 refine JL.val (mv_23 (ix t14.1 x1.Station)) (some 89) (yields_load_boxes 3 0 (cl_23 (ix t14.1 x1.Station)) (holds_box b71 23 (cl_23 (ix t14.1 x1.Station))) tyAgg_23 tySize_23) ?_
                 refine JL.on 1 88 h75 ?_
                 refine JL.val (mv_23 t22) (some 90) (yields_load_boxes 2 0 (cl_23 t22) (holds_box b24 23 (cl_23 t22)) tyAgg_23 tySize_23) ?_
                 refine JL.on 1 88 h75 ?_
                 refine JL.val (.bool (decide ((ix t14.1 x1.Station) = t22))) (some 91) (gives_eql eqg_23 (fun w => eqt_23 (ix t14.1 x1.Station) t22 w)) ?_
                 refine JL.val (.bool (decide ((ix t14.1 x1.Station) = t22))) (some 92) (gives_pickT h75) ?_
                 refine JL.as (.bool (decide ((ix t14.1 x1.Station) = t22))) ?_
                 refine JL.nil ?_
                 refine JQ.then_normal ?_
                 refine JQ.sub [(4, .bool (decide ((ix t14.1 x1.Station) = t22)))] ?_
                 refine JQ.mask [] [false, false, false, false] ?_
                 refine J.ret ?_
                 refine JQ.then_ret ?_
                 obtain rfl := Option.some.inj H0
                 exact JQ.done' (rs := [.tmp 4]) (vs := [.bool (decide ((ix t14.1 x1.Station) = t22))]) [] (.inr rfl) ⟨by kernel_rfl, trivial⟩ (fun _ h => Heap.to h) ⟨rfl, rfl⟩
               · refine JL.off 1 88 true (some 89) h75 ?_
                 refine JL.off 1 88 true (some 90) h75 ?_
                 refine JL.off 1 88 true (some 91) h75 ?_
                 refine JL.val (.bool false) (some 92) (gives_pickF h75) ?_
                 refine JL.as (.bool false) ?_
                 refine JL.nil ?_
                 refine JQ.then_normal ?_
                 refine JQ.sub [(4, .bool false)] ?_
                 refine JQ.mask [] [false, false, false, false] ?_
                 refine J.ret ?_
                 refine JQ.then_ret ?_
                 obtain rfl := Option.some.inj H0
                 exact JQ.done' (rs := [.tmp 4]) (vs := [.bool false]) [] (.inr rfl) ⟨by kernel_rfl, trivial⟩ (fun _ h => Heap.to h) ⟨rfl, rfl⟩
             · refine J.cond_false h74 ?_
               refine J.skip ?_
               refine JQ.then_normal ?_
               refine JQ.sub [(1, .int .i64 time2), (2, .pointer (some ⟨b3, 0, none⟩)), (5, .bool t4), (6, .slice (some ⟨g69, o70, none⟩) t14.1.length c17), (8, .pointer (some ⟨b24, 0, none⟩)), (10, .pointer (some ⟨b71, 0, none⟩))] ?_
               refine J.seq ?_
               refine J.seq ?_
               refine J.region ?_
               refine JL.pur (.pointer (some ⟨b3, 0, none⟩)) (some 93) ?_
               refine JL.val (.int .u8 x1.Kind) (some 94) (yields_load_box 0 0 (holds_box b3 25 (cl_25 x1)) tyAgg_5) ?_
               refine JL.nil ?_
               refine JQ.then_normal ?_
               refine JQ.sub [(1, .int .i64 time2), (2, .pointer (some ⟨b3, 0, none⟩)), (5, .bool t4), (6, .slice (some ⟨g69, o70, none⟩) t14.1.length c17), (8, .pointer (some ⟨b24, 0, none⟩)), (10, .pointer (some ⟨b71, 0, none⟩)), (94, .int .u8 x1.Kind)] ?_
               refine J.block ?_
               refine J.seq ?_
               refine J.region ?_
               refine JL.pur (.bool (decide (x1.Kind = 1))) (some 96) ?_
               refine JL.as (.bool (decide (x1.Kind = 1))) ?_
               refine JL.nil ?_
               refine JQ.then_normal ?_
               refine JQ.sub [(1, .int .i64 time2), (2, .pointer (some ⟨b3, 0, none⟩)), (5, .bool t4), (6, .slice (some ⟨g69, o70, none⟩) t14.1.length c17), (8, .pointer (some ⟨b24, 0, none⟩)), (10, .pointer (some ⟨b71, 0, none⟩)), (94, .int .u8 x1.Kind), (95, .bool (decide (x1.Kind = 1)))] ?_
               rcases ite_cases H0 with ⟨h76, H0⟩ | ⟨h76, H0⟩
               · refine J.cond_true h76 ?_
                 refine J.seq ?_
                 refine J.region ?_
                 refine JL.mv (.bool t4) ?_
                 refine JL.mv (.bool t4) ?_
                 rcases ite_cases H0 with ⟨h77, H0⟩ | ⟨h77, H0⟩
                 · refine JL.on 1 98 h77 ?_
                   refine JL.val (mv_23 (ix t14.1 x1.Station)) (some 99) (yields_load_boxes 3 0 (cl_23 (ix t14.1 x1.Station)) (holds_box b71 23 (cl_23 (ix t14.1 x1.Station))) tyAgg_23 tySize_23) ?_
                   refine JL.on 1 98 h77 ?_
                   refine JL.pur (.pointer (some ⟨b3, 4, none⟩)) (some 100) ?_
                   refine JL.on 1 98 h77 ?_
                   refine JL.val (mv_23 x1.V) (some 101) (yields_load_boxes 0 4 (cl_23 x1.V) (holds_box b3 25 (cl_25 x1)) tyAgg_23 tySize_23) ?_
                   refine JL.on 1 98 h77 ?_
                   refine JL.val (.bool (decide ((ix t14.1 x1.Station) = x1.V))) (some 102) (gives_eql eqg_23 (fun w => eqt_23 (ix t14.1 x1.Station) x1.V w)) ?_
                   refine JL.val (.bool (decide ((ix t14.1 x1.Station) = x1.V))) (some 103) (gives_pickT h77) ?_
                   refine JL.as (.bool (decide ((ix t14.1 x1.Station) = x1.V))) ?_
                   refine JL.nil ?_
                   refine JQ.then_normal ?_
                   refine JQ.sub [(4, .bool (decide ((ix t14.1 x1.Station) = x1.V)))] ?_
                   refine JQ.mask [] [false, false, false, false] ?_
                   refine J.ret ?_
                   refine JQ.blk_ret ?_
                   refine JQ.then_ret ?_
                   obtain rfl := Option.some.inj H0
                   exact JQ.done' (rs := [.tmp 4]) (vs := [.bool (decide ((ix t14.1 x1.Station) = x1.V))]) [] (.inr rfl) ⟨by kernel_rfl, trivial⟩ (fun _ h => Heap.to h) ⟨rfl, rfl⟩
                 · refine JL.off 1 98 true (some 99) h77 ?_
                   refine JL.off 1 98 true (some 100) h77 ?_
                   refine JL.off 1 98 true (some 101) h77 ?_
                   refine JL.off 1 98 true (some 102) h77 ?_
                   refine JL.val (.bool false) (some 103) (gives_pickF h77) ?_
                   refine JL.as (.bool false) ?_
                   refine JL.nil ?_
                   refine JQ.then_normal ?_
                   refine JQ.sub [(4, .bool false)] ?_
                   refine JQ.mask [] [false, false, false, false] ?_
                   refine J.ret ?_
                   refine JQ.blk_ret ?_
                   refine JQ.then_ret ?_
                   obtain rfl := Option.some.inj H0
                   exact JQ.done' (rs := [.tmp 4]) (vs := [.bool false]) [] (.inr rfl) ⟨by kernel_rfl, trivial⟩ (fun _ h => Heap.to h) ⟨rfl, rfl⟩
               · refine J.cond_false h76 ?_
                 refine J.seq ?_
                 refine J.region ?_
                 refine JL.pur (.bool (decide (x1.Kind = 2))) (some 105) ?_
                 refine JL.as (.bool (decide (x1.Kind = 2))) ?_
                 refine JL.nil ?_
                 refine JQ.then_normal ?_
                 refine JQ.sub [(1, .int .i64 time2), (2, .pointer (some ⟨b3, 0, none⟩)), (5, .bool t4), (6, .slice (some ⟨g69, o70, none⟩) t14.1.length c17), (8, .pointer (some ⟨b24, 0, none⟩)), (10, .pointer (some ⟨b71, 0, none⟩)), (104, .bool (decide (x1.Kind = 2)))] ?_
                 rcases ite_cases H0 with ⟨h78, H0⟩ | ⟨h78, H0⟩
                 · refine J.cond_true h78 ?_
                   refine J.seq ?_
                   refine J.region ?_
                   refine JL.val (mv_23 t22) (some 107) (yields_load_boxes 2 0 (cl_23 t22) (holds_box b24 23 (cl_23 t22)) tyAgg_23 tySize_23) ?_
                   refine JL.pur (.pointer (some ⟨b3, 7, none⟩)) (some 108) ?_
                   refine JL.val (.int .i64 x1.Q) (some 109) (yields_load_box 0 7 (holds_box b3 25 (cl_25 x1)) tyAgg_3) ?_
                   obtain ⟨t79, hc80, H0⟩ := bind_some H0
                   refine JL.call [] [] [] (ref25_Turn.ok t22 x1.Q _ hc80) trivial ?_
                   rintro _ _ ⟨rfl, rfl⟩
                   refine JL.mv (.tuple #[mv_23 t79.1, .int .i64 t79.2]) ?_
                   refine JL.pur (mv_23 t79.1) (some 111) ?_
                   refine JL.pur (.int .i64 t79.2) (some 112) ?_
                   refine JL.alloc (cl_23 zv_23) fun b81 => ?_
                   refine JL.store 4 b81 0 23 (cl_23 zv_23) (cl_23 t79.1) tySize_23 ?_
                   refine JL.as (.int .i64 t79.2) ?_
                   refine JL.nil ?_
                   refine JQ.then_normal ?_
                   refine JQ.sub [(5, .bool t4), (10, .pointer (some ⟨b71, 0, none⟩)), (12, .pointer (some ⟨b81, 0, none⟩)), (13, .int .i64 t79.2)] ?_
                   refine JQ.mask [At.box b71 23 (cl_23 (ix t14.1 x1.Station)), At.box b81 23 (cl_23 t79.1)] [false, false, false, true, true] ?_
                   refine J.seq ?_
                   refine J.region ?_
                   refine JL.mv (.bool t4) ?_
                   refine JL.mv (.bool t4) ?_
                   rcases ite_cases H0 with ⟨h82, H0⟩ | ⟨h82, H0⟩
                   · refine JL.on 1 114 h82 ?_
                     refine JL.mv (.int .i64 t79.2) ?_
                     refine JL.on 1 114 h82 ?_
                     refine JL.pur (.bool (decide (t79.2 = 0))) (some 116) ?_
                     refine JL.val (.bool (decide (t79.2 = 0))) (some 117) (gives_pickT h82) ?_
                     refine JL.mv (.bool (decide (t79.2 = 0))) ?_
                     rcases ite_cases H0 with ⟨h83, H0⟩ | ⟨h83, H0⟩
                     · refine JL.on 5 118 h83 ?_
                       refine JL.val (mv_23 (ix t14.1 x1.Station)) (some 119) (yields_load_boxes 0 0 (cl_23 (ix t14.1 x1.Station)) (holds_box b71 23 (cl_23 (ix t14.1 x1.Station))) tyAgg_23 tySize_23) ?_
                       refine JL.on 5 118 h83 ?_
                       refine JL.val (mv_23 t79.1) (some 120) (yields_load_boxes 1 0 (cl_23 t79.1) (holds_box b81 23 (cl_23 t79.1)) tyAgg_23 tySize_23) ?_
                       refine JL.on 5 118 h83 ?_
                       refine JL.val (.bool (decide ((ix t14.1 x1.Station) = t79.1))) (some 121) (gives_eql eqg_23 (fun w => eqt_23 (ix t14.1 x1.Station) t79.1 w)) ?_
                       refine JL.val (.bool (decide ((ix t14.1 x1.Station) = t79.1))) (some 122) (gives_pickT h83) ?_
                       refine JL.as (.bool (decide ((ix t14.1 x1.Station) = t79.1))) ?_
                       refine JL.nil ?_
                       refine JQ.then_normal ?_
                       refine JQ.sub [(4, .bool (decide ((ix t14.1 x1.Station) = t79.1)))] ?_
                       refine JQ.mask [] [false, false] ?_
                       refine J.ret ?_
                       refine JQ.blk_ret ?_
                       refine JQ.then_ret ?_
                       obtain rfl := Option.some.inj H0
                       exact JQ.done' (rs := [.tmp 4]) (vs := [.bool (decide ((ix t14.1 x1.Station) = t79.1))]) [] (.inr rfl) ⟨by kernel_rfl, trivial⟩ (fun _ h => Heap.to h) ⟨rfl, rfl⟩
                     · refine JL.off 5 118 true (some 119) h83 ?_
                       refine JL.off 5 118 true (some 120) h83 ?_
                       refine JL.off 5 118 true (some 121) h83 ?_
                       refine JL.val (.bool false) (some 122) (gives_pickF h83) ?_
                       refine JL.as (.bool false) ?_
                       refine JL.nil ?_
                       refine JQ.then_normal ?_
                       refine JQ.sub [(4, .bool false)] ?_
                       refine JQ.mask [] [false, false] ?_
                       refine J.ret ?_
                       refine JQ.blk_ret ?_
                       refine JQ.then_ret ?_
                       obtain rfl := Option.some.inj H0
                       exact JQ.done' (rs := [.tmp 4]) (vs := [.bool false]) [] (.inr rfl) ⟨by kernel_rfl, trivial⟩ (fun _ h => Heap.to h) ⟨rfl, rfl⟩
                   · refine JL.off 1 114 true (some 115) h82 ?_
                     refine JL.off 1 114 true (some 116) h82 ?_
                     refine JL.val (.bool false) (some 117) (gives_pickF h82) ?_
                     refine JL.mv (.bool false) ?_
                     refine JL.off 5 118 true (some 119) rfl ?_
                     refine JL.off 5 118 true (some 120) rfl ?_
                     refine JL.off 5 118 true (some 121) rfl ?_
                     refine JL.val (.bool false) (some 122) (gives_pickF rfl) ?_
                     refine JL.as (.bool false) ?_
                     refine JL.nil ?_
                     refine JQ.then_normal ?_
                     refine JQ.sub [(4, .bool false)] ?_
                     refine JQ.mask [] [false, false] ?_
                     refine J.ret ?_
                     refine JQ.blk_ret ?_
                     refine JQ.then_ret ?_
                     obtain rfl := Option.some.inj H0
                     exact JQ.done' (rs := [.tmp 4]) (vs := [.bool false]) [] (.inr rfl) ⟨by kernel_rfl, trivial⟩ (fun _ h => Heap.to h) ⟨rfl, rfl⟩
                 · refine J.cond_false h78 ?_
                   refine J.skip ?_
                   refine JQ.blk_normal ?_
                   refine JQ.then_normal ?_
                   refine JQ.sub [(1, .int .i64 time2), (2, .pointer (some ⟨b3, 0, none⟩)), (5, .bool t4), (6, .slice (some ⟨g69, o70, none⟩) t14.1.length c17), (8, .pointer (some ⟨b24, 0, none⟩)), (10, .pointer (some ⟨b71, 0, none⟩))] ?_
                   refine J.seq ?_
                   refine J.join (T := Bool) (G := Unit) (fun t => law35_CorruptTimes.k9 x1 time2 t4 t14 t = some r) (fun t g => [(1, .int .i64 time2), (2, .pointer (some ⟨b3, 0, none⟩)), (5, .bool t4), (6, .slice (some ⟨g69, o70, none⟩) t14.1.length c17), (10, .pointer (some ⟨b71, 0, none⟩)), (131, .bool t)]) (fun t g => [At.box b3 25 (cl_25 x1), At.row (some ⟨g69, o70, none⟩) c17 23 fl_Cx.kd t14.1 false, At.box b71 23 (cl_23 (ix t14.1 x1.Station))]) ?_ ?_
                   · refine J.region ?_
                     refine JL.mv (.int .i64 time2) ?_
                     refine JL.pur (.pointer (some ⟨b3, 2, none⟩)) (some 124) ?_
                     refine JL.val (.int .i64 x1.From) (some 125) (yields_load_box 0 2 (holds_box b3 25 (cl_25 x1)) tyAgg_3) ?_
                     refine JL.pur (.bool (decide (time2 = x1.From))) (some 126) ?_
                     refine JL.mv (.bool (decide (time2 = x1.From))) ?_
                     rcases ite_cases H0 with ⟨h122, H0⟩ | ⟨h122, H0⟩
                     · refine JL.on 4 127 h122 ?_
                       refine JL.val (mv_23 (ix t14.1 x1.Station)) (some 128) (yields_load_boxes 3 0 (cl_23 (ix t14.1 x1.Station)) (holds_box b71 23 (cl_23 (ix t14.1 x1.Station))) tyAgg_23 tySize_23) ?_
                       refine JL.on 4 127 h122 ?_
                       refine JL.val (mv_23 t22) (some 129) (yields_load_boxes 2 0 (cl_23 t22) (holds_box b24 23 (cl_23 t22)) tyAgg_23 tySize_23) ?_
                       refine JL.on 4 127 h122 ?_
                       refine JL.val (.bool (!decide ((ix t14.1 x1.Station) = t22))) (some 130) (gives_neq eqg_23 (fun w => eqt_23 (ix t14.1 x1.Station) t22 w)) ?_
                       refine JL.val (.bool (!decide ((ix t14.1 x1.Station) = t22))) (some 131) (gives_pickT h122) ?_
                       refine JL.nil ?_
                       refine JQ.then_normal ?_
                       exact JQ.meet (!decide ((ix t14.1 x1.Station) = t22)) () H0 (fun _ h => Heap.to (Heap.pick [0, 1, 3] (by decide) h))
                     · refine JL.off 4 127 true (some 128) h122 ?_
                       refine JL.off 4 127 true (some 129) h122 ?_
                       refine JL.off 4 127 true (some 130) h122 ?_
                       refine JL.val (.bool false) (some 131) (gives_pickF h122) ?_
                       refine JL.nil ?_
                       refine JQ.then_normal ?_
                       exact JQ.meet false () H0 (fun _ h => Heap.to (Heap.pick [0, 1, 3] (by decide) h))
                   · clear H0
                     rintro x85 ⟨⟩ H0
                     replace H0 : law35_CorruptTimes.k9 x1 time2 t4 t14 x85 = some r := H0
                     unfold law35_CorruptTimes.k9 at H0
                     refine JQ.sub [(1, .int .i64 time2), (2, .pointer (some ⟨b3, 0, none⟩)), (5, .bool t4), (6, .slice (some ⟨g69, o70, none⟩) t14.1.length c17), (10, .pointer (some ⟨b71, 0, none⟩)), (131, .bool x85)] ?_
                     refine JQ.turn (Δ' := [At.box b3 25 (cl_25 x1), At.row (some ⟨g69, o70, none⟩) c17 23 fl_Cx.kd t14.1 false, At.box b71 23 (cl_23 (ix t14.1 x1.Station))]) (fun _ h => h.to) ?_
                     rcases ite_cases H0 with ⟨h86, H0⟩ | ⟨h86, H0⟩
                     · refine J.cond_true h86 ?_
                       refine J.seq ?_
                       refine J.region ?_
                       refine JL.as (.bool false) ?_
                       refine JL.nil ?_
                       refine JQ.then_normal ?_
                       refine JQ.sub [(4, .bool false)] ?_
                       refine JQ.mask [] [false, false, false] ?_
                       refine J.ret ?_
                       refine JQ.then_ret ?_
                       obtain rfl := Option.some.inj H0
                       exact JQ.done' (rs := [.tmp 4]) (vs := [.bool false]) [] (.inr rfl) ⟨by kernel_rfl, trivial⟩ (fun _ h => Heap.to h) ⟨rfl, rfl⟩
                     · refine J.cond_false h86 ?_
                       refine J.skip ?_
                       refine JQ.then_normal ?_
                       refine JQ.sub [(1, .int .i64 time2), (2, .pointer (some ⟨b3, 0, none⟩)), (5, .bool t4), (6, .slice (some ⟨g69, o70, none⟩) t14.1.length c17), (10, .pointer (some ⟨b71, 0, none⟩))] ?_
                       refine J.seq ?_
                       refine J.seq ?_
                       refine J.region ?_
                       refine JL.mv (.int .i64 time2) ?_
                       refine JL.pur (.int .i64 (w64 (time2 + 4))) (some 133) ?_
                       refine JL.pur (.pointer (some ⟨b3, 3, none⟩)) (some 134) ?_
                       refine JL.val (.int .i64 x1.To) (some 135) (yields_load_box 0 3 (holds_box b3 25 (cl_25 x1)) tyAgg_3) ?_
                       refine JL.pur (.bool (decide (x1.To ≤ w64 (time2 + 4)))) (some 136) ?_
                       refine JL.nil ?_
                       refine JQ.then_normal ?_
                       refine JQ.sub [(1, .int .i64 time2), (2, .pointer (some ⟨b3, 0, none⟩)), (5, .bool t4), (6, .slice (some ⟨g69, o70, none⟩) t14.1.length c17), (10, .pointer (some ⟨b71, 0, none⟩)), (136, .bool (decide (x1.To ≤ w64 (time2 + 4))))] ?_
                       rcases ite_cases H0 with ⟨h87, H0⟩ | ⟨h87, H0⟩
                       · refine J.cond_true h87 ?_
                         refine J.seq ?_
                         refine J.region ?_
                         refine JL.mv (.bool t4) ?_
                         refine JL.as (.bool t4) ?_
                         refine JL.nil ?_
                         refine JQ.then_normal ?_
                         refine JQ.sub [(4, .bool t4)] ?_
                         refine JQ.mask [] [false, false, false] ?_
                         refine J.ret ?_
                         refine JQ.then_ret ?_
                         obtain rfl := Option.some.inj H0
                         exact JQ.done' (rs := [.tmp 4]) (vs := [.bool t4]) [] (.inr rfl) ⟨by kernel_rfl, trivial⟩ (fun _ h => Heap.to h) ⟨rfl, rfl⟩
                       · refine J.cond_false h87 ?_
                         refine J.skip ?_
                         refine JQ.then_normal ?_
                         refine JQ.sub [(1, .int .i64 time2), (2, .pointer (some ⟨b3, 0, none⟩)), (5, .bool t4), (6, .slice (some ⟨g69, o70, none⟩) t14.1.length c17), (10, .pointer (some ⟨b71, 0, none⟩))] ?_
                         refine J.seq ?_
                         refine J.region ?_
                         refine JL.val (mv_25 x1) (some 139) (yields_load_boxes 0 0 (cl_25 x1) (holds_box b3 25 (cl_25 x1)) tyAgg_25 tySize_25) ?_
                         refine JL.buildSl 25 fl_Spoil.kd (([x1] : List Spoil) : List Spoil) [.int .u8 x1.Kind, .int .i64 x1.Station, .int .i64 x1.From, .int .i64 x1.To, .int .i64 x1.V.Re, .int .i64 x1.V.Im, .int .i64 x1.V.Den, .int .i64 x1.Q] false (closes_fl rfl) fun b88 => ?_
                         refine JL.mv (.int .i64 time2) ?_
                         refine JL.pur (.int .i64 (w64 (time2 + 4))) (some 142) ?_
                         obtain ⟨t89, hc90, H0⟩ := bind_some H0
                         refine JL.call [] [] [] (corrupt_Table.ok ([x1] : List Spoil) (some ⟨b88, 0, none⟩) 1 (w64 (time2 + 4)) _ hc90) ⟨pre_view 3 (view_row (some ⟨b88, 0, none⟩) 1 25 fl_Spoil.kd ([x1] : List Spoil) false true), trivial⟩ ?_
                         rintro _ _ ⟨Aa91, c92, rfl, rfl⟩
                         refine JL.mv (.tuple #[.slice Aa91 t89.1.length c92, .int .i64 t89.2]) ?_
                         refine JL.pur (.slice Aa91 t89.1.length c92) (some 144) ?_
                         refine JL.pur (.int .i64 t89.2) (some 145) ?_
                         refine JL.as (.slice Aa91 t89.1.length c92) ?_
                         refine JL.as (.int .i64 t89.2) ?_
                         refine JL.nil ?_
                         refine JQ.then_normal ?_
                         refine JQ.sub [(1, .int .i64 time2), (2, .pointer (some ⟨b3, 0, none⟩)), (5, .bool t4), (6, .slice (some ⟨g69, o70, none⟩) t14.1.length c17), (10, .pointer (some ⟨b71, 0, none⟩)), (14, .slice Aa91 t89.1.length c92), (15, .int .i64 t89.2)] ?_
                         refine JQ.mask [At.box b3 25 (cl_25 x1), At.row (some ⟨g69, o70, none⟩) c17 23 fl_Cx.kd t14.1 false, At.box b71 23 (cl_23 (ix t14.1 x1.Station)), At.row Aa91 c92 23 fl_Cx.kd t89.1 false] [true, true, true, false, true] ?_
                         refine J.seq ?_
                         refine J.region ?_
                         refine JL.val (mv_25 x1) (some 147) (yields_load_boxes 0 0 (cl_25 x1) (holds_box b3 25 (cl_25 x1)) tyAgg_25 tySize_25) ?_
                         refine JL.buildSl 25 fl_Spoil.kd (([x1] : List Spoil) : List Spoil) [.int .u8 x1.Kind, .int .i64 x1.Station, .int .i64 x1.From, .int .i64 x1.To, .int .i64 x1.V.Re, .int .i64 x1.V.Im, .int .i64 x1.V.Den, .int .i64 x1.Q] false (closes_fl rfl) fun b94 => ?_
                         refine JL.mv (.int .i64 time2) ?_
                         refine JL.pur (.int .i64 (w64 (time2 + 1))) (some 150) ?_
                         obtain ⟨t95, hc96, H0⟩ := bind_some H0
                         refine JL.call [] [] [] (corrupt_Table.ok ([x1] : List Spoil) (some ⟨b94, 0, none⟩) 1 (w64 (time2 + 1)) _ hc96) ⟨pre_view 4 (view_row (some ⟨b94, 0, none⟩) 1 25 fl_Spoil.kd ([x1] : List Spoil) false true), trivial⟩ ?_
                         rintro _ _ ⟨Aa97, c98, rfl, rfl⟩
                         refine JL.mv (.tuple #[.slice Aa97 t95.1.length c98, .int .i64 t95.2]) ?_
                         refine JL.pur (.slice Aa97 t95.1.length c98) (some 152) ?_
                         refine JL.pur (.int .i64 t95.2) (some 153) ?_
                         refine JL.as (.slice Aa97 t95.1.length c98) ?_
                         refine JL.as (.int .i64 t95.2) ?_
                         refine JL.nil ?_
                         refine JQ.then_normal ?_
                         refine JQ.sub [(2, .pointer (some ⟨b3, 0, none⟩)), (5, .bool t4), (6, .slice (some ⟨g69, o70, none⟩) t14.1.length c17), (10, .pointer (some ⟨b71, 0, none⟩)), (14, .slice Aa91 t89.1.length c92), (15, .int .i64 t89.2), (16, .slice Aa97 t95.1.length c98), (17, .int .i64 t95.2)] ?_
                         refine JQ.mask [At.box b3 25 (cl_25 x1), At.row (some ⟨g69, o70, none⟩) c17 23 fl_Cx.kd t14.1 false, At.box b71 23 (cl_23 (ix t14.1 x1.Station)), At.row Aa91 c92 23 fl_Cx.kd t89.1 false, At.row Aa97 c98 23 fl_Cx.kd t95.1 false] [true, true, true, true, false, true] ?_
                         refine J.seq ?_
                         refine J.join (T := Bool) (G := Unit) (fun t => law35_CorruptTimes.k10 x1 t4 t14 t89 t95 t = some r) (fun t g => [(2, .pointer (some ⟨b3, 0, none⟩)), (5, .bool t4), (10, .pointer (some ⟨b71, 0, none⟩)), (14, .slice Aa91 t89.1.length c92), (16, .slice Aa97 t95.1.length c98), (173, .bool t)]) (fun t g => [At.box b3 25 (cl_25 x1), At.box b71 23 (cl_23 (ix t14.1 x1.Station)), At.row Aa91 c92 23 fl_Cx.kd t89.1 false, At.row Aa97 c98 23 fl_Cx.kd t95.1 false]) ?_ ?_
                         · refine J.region ?_
                           refine JL.mv (.int .i64 t89.2) ?_
                           refine JL.pur (.bool (!decide (t89.2 = 0))) (some 155) ?_
                           refine JL.mv (.bool (!decide (t89.2 = 0))) ?_
                           rcases ite_cases H0 with ⟨h119, H0⟩ | ⟨h119, H0⟩
                           · refine JL.off 2 156 false (some 157) h119 ?_
                             refine JL.off 2 156 false (some 158) h119 ?_
                             refine JL.val (.bool true) (some 159) (gives_pickT h119) ?_
                             refine JL.mv (.bool true) ?_
                             refine JL.off 6 160 false (some 161) rfl ?_
                             refine JL.off 6 160 false (some 162) rfl ?_
                             refine JL.off 6 160 false (some 163) rfl ?_
                             refine JL.off 6 160 false (some 164) rfl ?_
                             refine JL.off 6 160 false (some 165) rfl ?_
                             refine JL.val (.bool true) (some 166) (gives_pickT rfl) ?_
                             refine JL.mv (.bool true) ?_
                             refine JL.off 13 167 false (some 168) rfl ?_
                             refine JL.off 13 167 false (some 169) rfl ?_
                             refine JL.off 13 167 false (some 170) rfl ?_
                             refine JL.off 13 167 false (some 171) rfl ?_
                             refine JL.off 13 167 false (some 172) rfl ?_
                             refine JL.val (.bool true) (some 173) (gives_pickT rfl) ?_
                             refine JL.nil ?_
                             refine JQ.then_normal ?_
                             exact JQ.meet true () H0 (fun _ h => Heap.to (Heap.pick [0, 2, 3, 4] (by decide) h))
                           · refine JL.on 2 156 h119 ?_
                             refine JL.mv (.int .i64 t95.2) ?_
                             refine JL.on 2 156 h119 ?_
                             refine JL.pur (.bool (!decide (t95.2 = 0))) (some 158) ?_
                             refine JL.val (.bool (!decide (t95.2 = 0))) (some 159) (gives_pickF h119) ?_
                             refine JL.mv (.bool (!decide (t95.2 = 0))) ?_
                             rcases ite_cases H0 with ⟨h120, H0⟩ | ⟨h120, H0⟩
                             · refine JL.off 6 160 false (some 161) h120 ?_
                               refine JL.off 6 160 false (some 162) h120 ?_
                               refine JL.off 6 160 false (some 163) h120 ?_
                               refine JL.off 6 160 false (some 164) h120 ?_
                               refine JL.off 6 160 false (some 165) h120 ?_
                               refine JL.val (.bool true) (some 166) (gives_pickT h120) ?_
                               refine JL.mv (.bool true) ?_
                               refine JL.off 13 167 false (some 168) rfl ?_
                               refine JL.off 13 167 false (some 169) rfl ?_
                               refine JL.off 13 167 false (some 170) rfl ?_
                               refine JL.off 13 167 false (some 171) rfl ?_
                               refine JL.off 13 167 false (some 172) rfl ?_
                               refine JL.val (.bool true) (some 173) (gives_pickT rfl) ?_
                               refine JL.nil ?_
                               refine JQ.then_normal ?_
                               exact JQ.meet true () H0 (fun _ h => Heap.to (Heap.pick [0, 2, 3, 4] (by decide) h))
                             · refine JL.on 6 160 h120 ?_
                               refine JL.mv (.slice Aa91 t89.1.length c92) ?_
                               refine JL.on 6 160 h120 ?_
                               refine JL.pur (.int .i64 (t89.1.length : Int)) (some 162) ?_
                               refine JL.on 6 160 h120 ?_
                               refine JL.mv (.slice (some ⟨g69, o70, none⟩) t14.1.length c17) ?_
                               refine JL.on 6 160 h120 ?_
                               refine JL.pur (.int .i64 (t14.1.length : Int)) (some 164) ?_
                               refine JL.on 6 160 h120 ?_
                               refine JL.pur (.bool (!decide ((t89.1.length : Int) = (t14.1.length : Int)))) (some 165) ?_
                               refine JL.val (.bool (!decide ((t89.1.length : Int) = (t14.1.length : Int)))) (some 166) (gives_pickF h120) ?_
                               refine JL.mv (.bool (!decide ((t89.1.length : Int) = (t14.1.length : Int)))) ?_
                               rcases ite_cases H0 with ⟨h121, H0⟩ | ⟨h121, H0⟩
                               · refine JL.off 13 167 false (some 168) h121 ?_
                                 refine JL.off 13 167 false (some 169) h121 ?_
                                 refine JL.off 13 167 false (some 170) h121 ?_
                                 refine JL.off 13 167 false (some 171) h121 ?_
                                 refine JL.off 13 167 false (some 172) h121 ?_
                                 refine JL.val (.bool true) (some 173) (gives_pickT h121) ?_
                                 refine JL.nil ?_
                                 refine JQ.then_normal ?_
                                 exact JQ.meet true () H0 (fun _ h => Heap.to (Heap.pick [0, 2, 3, 4] (by decide) h))
                               · refine JL.on 13 167 h121 ?_
                                 refine JL.mv (.slice Aa97 t95.1.length c98) ?_
                                 refine JL.on 13 167 h121 ?_
                                 refine JL.pur (.int .i64 (t95.1.length : Int)) (some 169) ?_
                                 refine JL.on 13 167 h121 ?_
                                 refine JL.mv (.slice (some ⟨g69, o70, none⟩) t14.1.length c17) ?_
                                 refine JL.on 13 167 h121 ?_
                                 refine JL.pur (.int .i64 (t14.1.length : Int)) (some 171) ?_
                                 refine JL.on 13 167 h121 ?_
                                 refine JL.pur (.bool (!decide ((t95.1.length : Int) = (t14.1.length : Int)))) (some 172) ?_
                                 refine JL.val (.bool (!decide ((t95.1.length : Int) = (t14.1.length : Int)))) (some 173) (gives_pickF h121) ?_
                                 refine JL.nil ?_
                                 refine JQ.then_normal ?_
                                 exact JQ.meet (!decide ((t95.1.length : Int) = (t14.1.length : Int))) () H0 (fun _ h => Heap.to (Heap.pick [0, 2, 3, 4] (by decide) h))
                         · clear H0
                           rintro x103 ⟨⟩ H0
                           replace H0 : law35_CorruptTimes.k10 x1 t4 t14 t89 t95 x103 = some r := H0
                           unfold law35_CorruptTimes.k10 at H0
                           refine JQ.sub [(2, .pointer (some ⟨b3, 0, none⟩)), (5, .bool t4), (10, .pointer (some ⟨b71, 0, none⟩)), (14, .slice Aa91 t89.1.length c92), (16, .slice Aa97 t95.1.length c98), (173, .bool x103)] ?_
                           refine JQ.turn (Δ' := [At.box b3 25 (cl_25 x1), At.box b71 23 (cl_23 (ix t14.1 x1.Station)), At.row Aa91 c92 23 fl_Cx.kd t89.1 false, At.row Aa97 c98 23 fl_Cx.kd t95.1 false]) (fun _ h => h.to) ?_
                           rcases ite_cases H0 with ⟨h104, H0⟩ | ⟨h104, H0⟩
                           · refine J.cond_true h104 ?_
                             refine J.seq ?_
                             refine J.region ?_
                             refine JL.as (.bool false) ?_
                             refine JL.nil ?_
                             refine JQ.then_normal ?_
                             refine JQ.sub [(4, .bool false)] ?_
                             refine JQ.mask [] [false, false, false, false] ?_
                             refine J.ret ?_
                             refine JQ.then_ret ?_
                             obtain rfl := Option.some.inj H0
                             exact JQ.done' (rs := [.tmp 4]) (vs := [.bool false]) [] (.inr rfl) ⟨by kernel_rfl, trivial⟩ (fun _ h => Heap.to h) ⟨rfl, rfl⟩
                           · refine J.cond_false h104 ?_
                             refine J.skip ?_
                             refine JQ.then_normal ?_
                             refine JQ.sub [(2, .pointer (some ⟨b3, 0, none⟩)), (5, .bool t4), (10, .pointer (some ⟨b71, 0, none⟩)), (14, .slice Aa91 t89.1.length c92), (16, .slice Aa97 t95.1.length c98)] ?_
                             refine J.seq ?_
                             refine J.region ?_
                             refine JL.val (mv_23 (ix t14.1 x1.Station)) (some 175) (yields_load_boxes 1 0 (cl_23 (ix t14.1 x1.Station)) (holds_box b71 23 (cl_23 (ix t14.1 x1.Station))) tyAgg_23 tySize_23) ?_
                             refine JL.pur (.pointer (some ⟨b3, 7, none⟩)) (some 176) ?_
                             refine JL.val (.int .i64 x1.Q) (some 177) (yields_load_box 0 7 (holds_box b3 25 (cl_25 x1)) tyAgg_3) ?_
                             obtain ⟨t105, hc106, H0⟩ := bind_some H0
                             refine JL.call [] [] [] (ref25_Turn.ok (ix t14.1 x1.Station) x1.Q _ hc106) trivial ?_
                             rintro _ _ ⟨rfl, rfl⟩
                             refine JL.mv (.tuple #[mv_23 t105.1, .int .i64 t105.2]) ?_
                             refine JL.pur (mv_23 t105.1) (some 179) ?_
                             refine JL.pur (.int .i64 t105.2) (some 180) ?_
                             refine JL.alloc (cl_23 zv_23) fun b107 => ?_
                             refine JL.store 4 b107 0 23 (cl_23 zv_23) (cl_23 t105.1) tySize_23 ?_
                             refine JL.as (.int .i64 t105.2) ?_
                             refine JL.nil ?_
                             refine JQ.then_normal ?_
                             refine JQ.sub [(2, .pointer (some ⟨b3, 0, none⟩)), (5, .bool t4), (10, .pointer (some ⟨b71, 0, none⟩)), (14, .slice Aa91 t89.1.length c92), (16, .slice Aa97 t95.1.length c98), (18, .pointer (some ⟨b107, 0, none⟩)), (19, .int .i64 t105.2)] ?_
                             refine J.seq ?_
                             refine J.draw ?_
                             refine QL.mv (.bool t4) ?_
                             refine QL.mv (.bool t4) ?_
                             rcases ite_cases H0 with ⟨h108, H0⟩ | ⟨h108, H0⟩
                             · refine QL.on 1 182 h108 ?_
                               refine QL.mv (.int .i64 t105.2) ?_
                               refine QL.on 1 182 h108 ?_
                               refine QL.pur (.bool (decide (t105.2 = 0))) (some 184) ?_
                               refine QL.val (.bool (decide (t105.2 = 0))) (some 185) (gives_pickT h108) ?_
                               refine QL.mv (.bool (decide (t105.2 = 0))) ?_
                               rcases ite_cases H0 with ⟨h109, H0⟩ | ⟨h109, H0⟩
                               · refine QL.on 5 186 h109 ?_
                                 refine QL.mv (.slice Aa91 t89.1.length c92) ?_
                                 refine QL.on 5 186 h109 ?_
                                 refine QL.pur (.pointer (some ⟨b3, 1, none⟩)) (some 188) ?_
                                 refine QL.on 5 186 h109 ?_
                                 refine QL.val (.int .i64 x1.Station) (some 189) (yields_load_box 0 1 (holds_box b3 25 (cl_25 x1)) tyAgg_3) ?_
                                 refine QL.on 5 186 h109 ?_
                                 obtain ⟨⟨h110, h111⟩, H0⟩ := ite_must H0
                                 refine QL.ixAddr 2 3 c92 .i64 (elems_row Aa91 c92 23 fl_Cx.kd t89.1 false) Try.underlying28 tySize_23 h110 h111 fun g112 o113 hA => ?_
                                 subst hA
                                 refine QL.on 5 186 h109 ?_
                                 refine QL.val (mv_23 (ix t89.1 x1.Station)) (some 191) (gives_loadEl (f := fl_Cx) 2 0 x1.Station (elems_row (some ⟨g112, o113, none⟩) c92 23 fl_Cx.kd t89.1 false) h110 h111 tySize_23 (.inl ⟨tyAgg_23, rfl⟩)) ?_
                                 refine QL.on 5 186 h109 ?_
                                 refine QL.val (mv_23 (ix t14.1 x1.Station)) (some 192) (yields_load_boxes 1 0 (cl_23 (ix t14.1 x1.Station)) (holds_box b71 23 (cl_23 (ix t14.1 x1.Station))) tyAgg_23 tySize_23) ?_
                                 refine QL.on 5 186 h109 ?_
                                 refine QL.val (.bool (decide ((ix t89.1 x1.Station) = (ix t14.1 x1.Station)))) (some 193) (gives_eql eqg_23 (fun w => eqt_23 (ix t89.1 x1.Station) (ix t14.1 x1.Station) w)) ?_
                                 refine QL.val (.bool (decide ((ix t89.1 x1.Station) = (ix t14.1 x1.Station)))) (some 194) (gives_pickT h109) ?_
                                 refine QL.mv (.bool (decide ((ix t89.1 x1.Station) = (ix t14.1 x1.Station)))) ?_
                                 rcases ite_cases H0 with ⟨h114, H0⟩ | ⟨h114, H0⟩
                                 · refine QL.on 14 195 h114 ?_
                                   refine QL.mv (.slice Aa97 t95.1.length c98) ?_
                                   refine QL.on 14 195 h114 ?_
                                   refine QL.pur (.pointer (some ⟨b3, 1, none⟩)) (some 197) ?_
                                   refine QL.on 14 195 h114 ?_
                                   refine QL.val (.int .i64 x1.Station) (some 198) (yields_load_box 0 1 (holds_box b3 25 (cl_25 x1)) tyAgg_3) ?_
                                   refine QL.on 14 195 h114 ?_
                                   obtain ⟨⟨h115, h116⟩, H0⟩ := ite_must H0
                                   refine QL.ixAddr 3 3 c98 .i64 (elems_row Aa97 c98 23 fl_Cx.kd t95.1 false) Try.underlying28 tySize_23 h115 h116 fun g117 o118 hA => ?_
                                   subst hA
                                   refine QL.on 14 195 h114 ?_
                                   refine QL.val (mv_23 (ix t95.1 x1.Station)) (some 200) (gives_loadEl (f := fl_Cx) 3 0 x1.Station (elems_row (some ⟨g117, o118, none⟩) c98 23 fl_Cx.kd t95.1 false) h115 h116 tySize_23 (.inl ⟨tyAgg_23, rfl⟩)) ?_
                                   refine QL.on 14 195 h114 ?_
                                   refine QL.val (mv_23 t105.1) (some 201) (yields_load_boxes 4 0 (cl_23 t105.1) (holds_box b107 23 (cl_23 t105.1)) tyAgg_23 tySize_23) ?_
                                   refine QL.on 14 195 h114 ?_
                                   refine QL.val (.bool (decide ((ix t95.1 x1.Station) = t105.1))) (some 202) (gives_eql eqg_23 (fun w => eqt_23 (ix t95.1 x1.Station) t105.1 w)) ?_
                                   refine QL.val (.bool (decide ((ix t95.1 x1.Station) = t105.1))) (some 203) (gives_pickT h114) ?_
                                   refine QL.as (.bool (decide ((ix t95.1 x1.Station) = t105.1))) ?_
                                   refine QL.nil ?_
                                   refine JA.nil ?_
                                   refine JQ.then_normal ?_
                                   refine JQ.sub [(4, .bool (decide ((ix t95.1 x1.Station) = t105.1)))] ?_
                                   refine JQ.mask [] [false, false, false, false, false] ?_
                                   refine J.ret ?_
                                   obtain rfl := Option.some.inj H0
                                   exact JQ.done' (rs := [.tmp 4]) (vs := [.bool (decide ((ix t95.1 x1.Station) = t105.1))]) [] (.inr rfl) ⟨by kernel_rfl, trivial⟩ (fun _ h => Heap.to h) ⟨rfl, rfl⟩
                                 · refine QL.off 14 195 true (some 196) h114 ?_
                                   refine QL.off 14 195 true (some 197) h114 ?_
                                   refine QL.off 14 195 true (some 198) h114 ?_
                                   refine QL.off 14 195 true (some 199) h114 ?_
                                   refine QL.off 14 195 true (some 200) h114 ?_
                                   refine QL.off 14 195 true (some 201) h114 ?_
                                   refine QL.off 14 195 true (some 202) h114 ?_
                                   refine QL.val (.bool false) (some 203) (gives_pickF h114) ?_
                                   refine QL.as (.bool false) ?_
                                   refine QL.nil ?_
                                   refine JA.nil ?_
                                   refine JQ.then_normal ?_
                                   refine JQ.sub [(4, .bool false)] ?_
                                   refine JQ.mask [] [false, false, false, false, false] ?_
                                   refine J.ret ?_
                                   obtain rfl := Option.some.inj H0
                                   exact JQ.done' (rs := [.tmp 4]) (vs := [.bool false]) [] (.inr rfl) ⟨by kernel_rfl, trivial⟩ (fun _ h => Heap.to h) ⟨rfl, rfl⟩
                               · refine QL.off 5 186 true (some 187) h109 ?_
                                 refine QL.off 5 186 true (some 188) h109 ?_
                                 refine QL.off 5 186 true (some 189) h109 ?_
                                 refine QL.off 5 186 true (some 190) h109 ?_
                                 refine QL.off 5 186 true (some 191) h109 ?_
                                 refine QL.off 5 186 true (some 192) h109 ?_
                                 refine QL.off 5 186 true (some 193) h109 ?_
                                 refine QL.val (.bool false) (some 194) (gives_pickF h109) ?_
                                 refine QL.mv (.bool false) ?_
                                 refine QL.off 14 195 true (some 196) rfl ?_
                                 refine QL.off 14 195 true (some 197) rfl ?_
                                 refine QL.off 14 195 true (some 198) rfl ?_
                                 refine QL.off 14 195 true (some 199) rfl ?_
                                 refine QL.off 14 195 true (some 200) rfl ?_
                                 refine QL.off 14 195 true (some 201) rfl ?_
                                 refine QL.off 14 195 true (some 202) rfl ?_
                                 refine QL.val (.bool false) (some 203) (gives_pickF rfl) ?_
                                 refine QL.as (.bool false) ?_
                                 refine QL.nil ?_
                                 refine JA.nil ?_
                                 refine JQ.then_normal ?_
                                 refine JQ.sub [(4, .bool false)] ?_
                                 refine JQ.mask [] [false, false, false, false, false] ?_
                                 refine J.ret ?_
                                 obtain rfl := Option.some.inj H0
                                 exact JQ.done' (rs := [.tmp 4]) (vs := [.bool false]) [] (.inr rfl) ⟨by kernel_rfl, trivial⟩ (fun _ h => Heap.to h) ⟨rfl, rfl⟩
                             · refine QL.off 1 182 true (some 183) h108 ?_
                               refine QL.off 1 182 true (some 184) h108 ?_
                               refine QL.val (.bool false) (some 185) (gives_pickF h108) ?_
                               refine QL.mv (.bool false) ?_
                               refine QL.off 5 186 true (some 187) rfl ?_
                               refine QL.off 5 186 true (some 188) rfl ?_
                               refine QL.off 5 186 true (some 189) rfl ?_
                               refine QL.off 5 186 true (some 190) rfl ?_
                               refine QL.off 5 186 true (some 191) rfl ?_
                               refine QL.off 5 186 true (some 192) rfl ?_
                               refine QL.off 5 186 true (some 193) rfl ?_
                               refine QL.val (.bool false) (some 194) (gives_pickF rfl) ?_
                               refine QL.mv (.bool false) ?_
                               refine QL.off 14 195 true (some 196) rfl ?_
                               refine QL.off 14 195 true (some 197) rfl ?_
                               refine QL.off 14 195 true (some 198) rfl ?_
                               refine QL.off 14 195 true (some 199) rfl ?_
                               refine QL.off 14 195 true (some 200) rfl ?_
                               refine QL.off 14 195 true (some 201) rfl ?_
                               refine QL.off 14 195 true (some 202) rfl ?_
                               refine QL.val (.bool false) (some 203) (gives_pickF rfl) ?_
                               refine QL.as (.bool false) ?_
                               refine QL.nil ?_
                               refine JA.nil ?_
                               refine JQ.then_normal ?_
                               refine JQ.sub [(4, .bool false)] ?_
                               refine JQ.mask [] [false, false, false, false, false] ?_
                               refine J.ret ?_
                               obtain rfl := Option.some.inj H0
                               exact JQ.done' (rs := [.tmp 4]) (vs := [.bool false]) [] (.inr rfl) ⟨by kernel_rfl, trivial⟩ (fun _ h => Heap.to h) ⟨rfl, rfl⟩


end Go.Proofs.Ytifpegepdgmmbaa.M
