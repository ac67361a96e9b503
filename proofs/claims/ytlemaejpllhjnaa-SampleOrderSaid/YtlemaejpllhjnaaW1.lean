import Derived.Test.YtlemaejpllhjnaaW0
set_option linter.unusedVariables false
set_option linter.unusedSimpArgs false
set_option maxRecDepth 100000
set_option maxHeartbeats 8000000
namespace Go.Proofs.Ytlemaejpllhjnaa.M
open Go.GW Go.Proofs

theorem law13_SampleOrder.ok (l1 : (List Int)) (Aa2 : Option Addr) (c3 : Nat) (t5 : Int) (more6 : Int) (r : Bool) (H0 : law13_SampleOrder.f l1 t5 more6 = some r) :
    Does Try.prog 6 [.slice Aa2 l1.length c3, .int .i64 t5, .int .i64 more6].toArray [At.rd Aa2 c3 ((flInt .i64).kd) l1 true] [] false (fun v Δ => v = .bool r ∧ Δ = []) := by
 refine Does.body (vs := [.slice Aa2 l1.length c3, .int .i64 t5, .int .i64 more6]) Try.func6 rfl ⟨.inl rfl, trivial⟩ trivial fun w S => ?_
 unfold law13_SampleOrder.f at H0
 refine J.seq ?_
 refine J.region ?_
 refine JL.as (.bool false) ?_
 refine JL.end_ ?_
 refine JQ.then_normal ?_
 refine JQ.sub [(0, .slice Aa2 l1.length c3), (1, .int .i64 t5), (2, .int .i64 more6)] ?_
 refine J.seq ?_
 refine J.region ?_
 obtain ⟨t7, hc8, H0⟩ := bind_some H0
 refine JL.call [] [] [] (law13_alive.ok _ hc8) trivial ?_
 rintro _ _ ⟨rfl, rfl⟩
 refine JL.as (.bool t7) ?_
 refine JL.end_ ?_
 refine JQ.then_normal ?_
 refine JQ.sub [(0, .slice Aa2 l1.length c3), (1, .int .i64 t5), (2, .int .i64 more6), (7, .bool t7)] ?_
 refine J.seq ?_
 refine J.join (T := Bool) (G := Unit) (fun t => law13_SampleOrder.k1 l1 t5 more6 t7 t = some r) (fun t g => [(0, .slice Aa2 l1.length c3), (1, .int .i64 t5), (2, .int .i64 more6), (7, .bool t7), (48, .bool t)]) (fun t g => [At.rd Aa2 c3 ((flInt .i64).kd) l1 true]) ?_ ?_
 · refine J.region ?_
   refine JL.mv (.slice Aa2 l1.length c3) ?_
   obtain ⟨t555, hc556, H0⟩ := bind_some H0
   refine JL.call [] [] [] (ref13_Long.ok l1 Aa2 c3 _ hc556) ⟨pre_any 0 (view_rd Aa2 c3 ((flInt .i64).kd) l1 true true), trivial⟩ ?_
   rintro _ _ ⟨rfl, rfl⟩
   refine JL.mv (.bool t555) ?_
   rcases ite_cases H0 with ⟨h557, H0⟩ | ⟨h557, H0⟩
   · refine JL.off 2 26 false (some 27) h557 ?_
     refine JL.off 2 26 false (some 28) h557 ?_
     refine JL.off 2 26 false (some 29) h557 ?_
     refine JL.val (.bool true) (some 30) (gives_pickT h557) ?_
     refine JL.mv (.bool true) ?_
     refine JL.off 7 31 false (some 32) rfl ?_
     refine JL.off 7 31 false (some 33) rfl ?_
     refine JL.val (.bool true) (some 34) (gives_pickT rfl) ?_
     refine JL.mv (.bool true) ?_
     refine JL.off 11 35 false (some 36) rfl ?_
     refine JL.off 11 35 false (some 37) rfl ?_
     refine JL.val (.bool true) (some 38) (gives_pickT rfl) ?_
     refine JL.mv (.bool true) ?_
     refine JL.off 15 39 false (some 40) rfl ?_
     refine JL.off 15 39 false (some 41) rfl ?_
     refine JL.off 15 39 false (some 42) rfl ?_
     refine JL.off 15 39 false (some 43) rfl ?_
     refine JL.val (.bool true) (some 44) (gives_pickT rfl) ?_
     refine JL.mv (.bool true) ?_
     refine JL.off 21 45 false (some 46) rfl ?_
     refine JL.off 21 45 false (some 47) rfl ?_
     refine JL.val (.bool true) (some 48) (gives_pickT rfl) ?_
     refine JL.end_ ?_
     refine JQ.then_normal ?_
     exact JQ.meet true () H0 (fun _ h => Heap.to h)
   · refine JL.on 2 26 h557 ?_
     refine JL.mv (.slice Aa2 l1.length c3) ?_
     refine JL.on 2 26 h557 ?_
     obtain ⟨t558, hc559, H0⟩ := bind_some H0
     refine JL.call [] [] [] (ref13_Levels.ok l1 Aa2 c3 _ hc559) ⟨pre_any 0 (view_rd Aa2 c3 ((flInt .i64).kd) l1 true true), trivial⟩ ?_
     rintro _ _ ⟨rfl, rfl⟩
     refine JL.on 2 26 h557 ?_
     refine JL.pur (.bool (!decide (t558 = 0))) (some 29) ?_
     refine JL.val (.bool (!decide (t558 = 0))) (some 30) (gives_pickF h557) ?_
     refine JL.mv (.bool (!decide (t558 = 0))) ?_
     rcases ite_cases H0 with ⟨h560, H0⟩ | ⟨h560, H0⟩
     · refine JL.off 7 31 false (some 32) h560 ?_
       refine JL.off 7 31 false (some 33) h560 ?_
       refine JL.val (.bool true) (some 34) (gives_pickT h560) ?_
       refine JL.mv (.bool true) ?_
       refine JL.off 11 35 false (some 36) rfl ?_
       refine JL.off 11 35 false (some 37) rfl ?_
       refine JL.val (.bool true) (some 38) (gives_pickT rfl) ?_
       refine JL.mv (.bool true) ?_
       refine JL.off 15 39 false (some 40) rfl ?_
       refine JL.off 15 39 false (some 41) rfl ?_
       refine JL.off 15 39 false (some 42) rfl ?_
       refine JL.off 15 39 false (some 43) rfl ?_
       refine JL.val (.bool true) (some 44) (gives_pickT rfl) ?_
       refine JL.mv (.bool true) ?_
       refine JL.off 21 45 false (some 46) rfl ?_
       refine JL.off 21 45 false (some 47) rfl ?_
       refine JL.val (.bool true) (some 48) (gives_pickT rfl) ?_
       refine JL.end_ ?_
       refine JQ.then_normal ?_
       exact JQ.meet true () H0 (fun _ h => Heap.to h)
     · refine JL.on 7 31 h560 ?_
       refine JL.mv (.int .i64 t5) ?_
       refine JL.on 7 31 h560 ?_
       refine JL.pur (.bool (decide (t5 < 1))) (some 33) ?_
       refine JL.val (.bool (decide (t5 < 1))) (some 34) (gives_pickF h560) ?_
       refine JL.mv (.bool (decide (t5 < 1))) ?_
       rcases ite_cases H0 with ⟨h561, H0⟩ | ⟨h561, H0⟩
       · refine JL.off 11 35 false (some 36) h561 ?_
         refine JL.off 11 35 false (some 37) h561 ?_
         refine JL.val (.bool true) (some 38) (gives_pickT h561) ?_
         refine JL.mv (.bool true) ?_
         refine JL.off 15 39 false (some 40) rfl ?_
         refine JL.off 15 39 false (some 41) rfl ?_
         refine JL.off 15 39 false (some 42) rfl ?_
         refine JL.off 15 39 false (some 43) rfl ?_
         refine JL.val (.bool true) (some 44) (gives_pickT rfl) ?_
         refine JL.mv (.bool true) ?_
         refine JL.off 21 45 false (some 46) rfl ?_
         refine JL.off 21 45 false (some 47) rfl ?_
         refine JL.val (.bool true) (some 48) (gives_pickT rfl) ?_
         refine JL.end_ ?_
         refine JQ.then_normal ?_
         exact JQ.meet true () H0 (fun _ h => Heap.to h)
       · refine JL.on 11 35 h561 ?_
         refine JL.mv (.int .i64 more6) ?_
         refine JL.on 11 35 h561 ?_
         refine JL.pur (.bool (decide (more6 < 0))) (some 37) ?_
         refine JL.val (.bool (decide (more6 < 0))) (some 38) (gives_pickF h561) ?_
         refine JL.mv (.bool (decide (more6 < 0))) ?_
         rcases ite_cases H0 with ⟨h562, H0⟩ | ⟨h562, H0⟩
         · refine JL.off 15 39 false (some 40) h562 ?_
           refine JL.off 15 39 false (some 41) h562 ?_
           refine JL.off 15 39 false (some 42) h562 ?_
           refine JL.off 15 39 false (some 43) h562 ?_
           refine JL.val (.bool true) (some 44) (gives_pickT h562) ?_
           refine JL.mv (.bool true) ?_
           refine JL.off 21 45 false (some 46) rfl ?_
           refine JL.off 21 45 false (some 47) rfl ?_
           refine JL.val (.bool true) (some 48) (gives_pickT rfl) ?_
           refine JL.end_ ?_
           refine JQ.then_normal ?_
           exact JQ.meet true () H0 (fun _ h => Heap.to h)
         · refine JL.on 15 39 h562 ?_
           refine JL.mv (.int .i64 more6) ?_
           refine JL.on 15 39 h562 ?_
           refine JL.mv (.int .i64 t5) ?_
           refine JL.on 15 39 h562 ?_
           refine JL.pur (.int .i64 (w64 (1000000 - t5))) (some 42) ?_
           refine JL.on 15 39 h562 ?_
           refine JL.pur (.bool (decide (w64 (1000000 - t5) < more6))) (some 43) ?_
           refine JL.val (.bool (decide (w64 (1000000 - t5) < more6))) (some 44) (gives_pickF h562) ?_
           refine JL.mv (.bool (decide (w64 (1000000 - t5) < more6))) ?_
           rcases ite_cases H0 with ⟨h563, H0⟩ | ⟨h563, H0⟩
           · refine JL.off 21 45 false (some 46) h563 ?_
             refine JL.off 21 45 false (some 47) h563 ?_
             refine JL.val (.bool true) (some 48) (gives_pickT h563) ?_
             refine JL.end_ ?_
             refine JQ.then_normal ?_
             exact JQ.meet true () H0 (fun _ h => Heap.to h)
           · refine JL.on 21 45 h563 ?_
             refine JL.mv (.bool t7) ?_
             refine JL.on 21 45 h563 ?_
             refine JL.pur (.bool (!t7)) (some 47) ?_
             refine JL.val (.bool (!t7)) (some 48) (gives_pickF h563) ?_
             refine JL.end_ ?_
             refine JQ.then_normal ?_
             exact JQ.meet (!t7) () H0 (fun _ h => Heap.to h)
 · clear H0
   rintro x18 ⟨⟩ H0
   replace H0 : law13_SampleOrder.k1 l1 t5 more6 t7 x18 = some r := H0
   unfold law13_SampleOrder.k1 at H0
   refine JQ.sub [(0, .slice Aa2 l1.length c3), (1, .int .i64 t5), (2, .int .i64 more6), (7, .bool t7), (48, .bool x18)] ?_
   refine JQ.turn (Δ' := [At.rd Aa2 c3 ((flInt .i64).kd) l1 true]) (fun _ h => h.to) ?_
   rcases ite_cases H0 with ⟨h19, H0⟩ | ⟨h19, H0⟩
   · refine J.cond_true h19 ?_
     refine J.seq ?_
     refine J.region ?_
     refine JL.mv (.bool t7) ?_
     refine JL.as (.bool t7) ?_
     refine JL.end_ ?_
     refine JQ.then_normal ?_
     refine JQ.sub [(6, .bool t7)] ?_
     refine JQ.mask [] [false] ?_
     refine J.ret ?_
     refine JQ.then_ret ?_
     obtain rfl := Option.some.inj H0
     exact JQ.done' (rs := [.tmp 6]) (vs := [.bool t7]) [] (.inr rfl) ⟨by kernel_rfl, trivial⟩ (fun _ h => Heap.to h) ⟨rfl, rfl⟩
   · refine J.cond_false h19 ?_
     refine J.skip ?_
     refine JQ.then_normal ?_
     refine JQ.sub [(0, .slice Aa2 l1.length c3), (1, .int .i64 t5), (2, .int .i64 more6), (7, .bool t7)] ?_
     refine J.seq ?_
     refine J.region ?_
     refine JL.mv (.slice Aa2 l1.length c3) ?_
     refine JL.mv (.int .i64 t5) ?_
     obtain ⟨t20, hc21, H0⟩ := bind_some H0
     refine JL.call [] [] [] (sample_Take.ok l1 Aa2 c3 t5 _ hc21) ⟨pre_any 0 (view_rd Aa2 c3 ((flInt .i64).kd) l1 true true), trivial⟩ ?_
     rintro _ _ ⟨Aa22, c23, rfl, rfl⟩
     refine JL.mv (.tuple #[.slice Aa22 t20.1.length c23, .int .i64 t20.2]) ?_
     refine JL.pur (.slice Aa22 t20.1.length c23) (some 54) ?_
     refine JL.pur (.int .i64 t20.2) (some 55) ?_
     refine JL.as (.slice Aa22 t20.1.length c23) ?_
     refine JL.as (.int .i64 t20.2) ?_
     refine JL.end_ ?_
     refine JQ.then_normal ?_
     refine JQ.sub [(0, .slice Aa2 l1.length c3), (1, .int .i64 t5), (2, .int .i64 more6), (7, .bool t7), (8, .slice Aa22 t20.1.length c23), (9, .int .i64 t20.2)] ?_
     refine J.seq ?_
     refine J.region ?_
     refine JL.mv (.slice Aa2 l1.length c3) ?_
     refine JL.mv (.int .i64 t5) ?_
     refine JL.mv (.int .i64 more6) ?_
     refine JL.pur (.int .i64 (w64 (t5 + more6))) (some 60) ?_
     obtain ⟨t25, hc26, H0⟩ := bind_some H0
     refine JL.call [] [] [] (sample_Take.ok l1 Aa2 c3 (w64 (t5 + more6)) _ hc26) ⟨pre_any 0 (view_rd Aa2 c3 ((flInt .i64).kd) l1 true true), trivial⟩ ?_
     rintro _ _ ⟨Aa27, c28, rfl, rfl⟩
     refine JL.mv (.tuple #[.slice Aa27 t25.1.length c28, .int .i64 t25.2]) ?_
     refine JL.pur (.slice Aa27 t25.1.length c28) (some 62) ?_
     refine JL.pur (.int .i64 t25.2) (some 63) ?_
     refine JL.as (.slice Aa27 t25.1.length c28) ?_
     refine JL.as (.int .i64 t25.2) ?_
     refine JL.end_ ?_
     refine JQ.then_normal ?_
     refine JQ.sub [(0, .slice Aa2 l1.length c3), (1, .int .i64 t5), (7, .bool t7), (8, .slice Aa22 t20.1.length c23), (9, .int .i64 t20.2), (10, .slice Aa27 t25.1.length c28), (11, .int .i64 t25.2)] ?_
     refine J.seq ?_
     refine J.region ?_
     refine JL.mv (.slice Aa22 t20.1.length c23) ?_
     obtain ⟨t30, hc31, H0⟩ := bind_some H0
     refine JL.call [] [] [] (sample_Sign.ok t20.1 Aa22 c23 _ hc31) ⟨pre_view 1 (view_row Aa22 c23 3 ((flInt .i64).kd) t20.1 false true), trivial⟩ ?_
     rintro _ _ ⟨Aa32, c33, rfl, rfl⟩
     refine JL.mv (.tuple #[.slice Aa32 t30.1.length c33, .int .i64 t30.2]) ?_
     refine JL.pur (.slice Aa32 t30.1.length c33) (some 67) ?_
     refine JL.pur (.int .i64 t30.2) (some 68) ?_
     refine JL.as (.slice Aa32 t30.1.length c33) ?_
     refine JL.as (.int .i64 t30.2) ?_
     refine JL.end_ ?_
     refine JQ.then_normal ?_
     refine JQ.sub [(0, .slice Aa2 l1.length c3), (1, .int .i64 t5), (7, .bool t7), (8, .slice Aa22 t20.1.length c23), (9, .int .i64 t20.2), (10, .slice Aa27 t25.1.length c28), (11, .int .i64 t25.2), (12, .slice Aa32 t30.1.length c33), (13, .int .i64 t30.2)] ?_
     refine J.seq ?_
     refine J.region ?_
     refine JL.mv (.slice Aa27 t25.1.length c28) ?_
     obtain ⟨t35, hc36, H0⟩ := bind_some H0
     refine JL.call [] [] [] (sample_Sign.ok t25.1 Aa27 c28 _ hc36) ⟨pre_view 2 (view_row Aa27 c28 3 ((flInt .i64).kd) t25.1 false true), trivial⟩ ?_
     rintro _ _ ⟨Aa37, c38, rfl, rfl⟩
     refine JL.mv (.tuple #[.slice Aa37 t35.1.length c38, .int .i64 t35.2]) ?_
     refine JL.pur (.slice Aa37 t35.1.length c38) (some 72) ?_
     refine JL.pur (.int .i64 t35.2) (some 73) ?_
     refine JL.as (.slice Aa37 t35.1.length c38) ?_
     refine JL.as (.int .i64 t35.2) ?_
     refine JL.end_ ?_
     refine JQ.then_normal ?_
     refine JQ.sub [(0, .slice Aa2 l1.length c3), (1, .int .i64 t5), (7, .bool t7), (8, .slice Aa22 t20.1.length c23), (9, .int .i64 t20.2), (10, .slice Aa27 t25.1.length c28), (11, .int .i64 t25.2), (12, .slice Aa32 t30.1.length c33), (13, .int .i64 t30.2), (14, .slice Aa37 t35.1.length c38), (15, .int .i64 t35.2)] ?_
     refine J.seq ?_
     refine J.region ?_
     refine JL.mv (.slice Aa32 t30.1.length c33) ?_
     obtain ⟨t40, hc41, H0⟩ := bind_some H0
     refine JL.call [] [] [] (sample_Sign.ok t30.1 Aa32 c33 _ hc41) ⟨pre_view 3 (view_row Aa32 c33 3 ((flInt .i64).kd) t30.1 false true), trivial⟩ ?_
     rintro _ _ ⟨Aa42, c43, rfl, rfl⟩
     refine JL.mv (.tuple #[.slice Aa42 t40.1.length c43, .int .i64 t40.2]) ?_
     refine JL.pur (.slice Aa42 t40.1.length c43) (some 77) ?_
     refine JL.pur (.int .i64 t40.2) (some 78) ?_
     refine JL.as (.slice Aa42 t40.1.length c43) ?_
     refine JL.as (.int .i64 t40.2) ?_
     refine JL.end_ ?_
     refine JQ.then_normal ?_
     refine JQ.sub [(0, .slice Aa2 l1.length c3), (1, .int .i64 t5), (7, .bool t7), (8, .slice Aa22 t20.1.length c23), (9, .int .i64 t20.2), (10, .slice Aa27 t25.1.length c28), (11, .int .i64 t25.2), (12, .slice Aa32 t30.1.length c33), (13, .int .i64 t30.2), (14, .slice Aa37 t35.1.length c38), (15, .int .i64 t35.2), (16, .slice Aa42 t40.1.length c43), (17, .int .i64 t40.2)] ?_
     refine J.seq ?_
     refine J.join (T := Bool) (G := Unit) (fun t => law13_SampleOrder.k2 l1 t5 t7 t20 t25 t = some r) (fun t g => [(0, .slice Aa2 l1.length c3), (1, .int .i64 t5), (7, .bool t7), (8, .slice Aa22 t20.1.length c23), (10, .slice Aa27 t25.1.length c28), (122, .bool t)]) (fun t g => [At.rd Aa2 c3 ((flInt .i64).kd) l1 true, At.row Aa22 c23 3 ((flInt .i64).kd) t20.1 false, At.row Aa27 c28 3 ((flInt .i64).kd) t25.1 false]) ?_ ?_
     · refine J.region ?_
       refine JL.mv (.int .i64 t20.2) ?_
       refine JL.pur (.bool (!decide (t20.2 = 0))) (some 80) ?_
       refine JL.mv (.bool (!decide (t20.2 = 0))) ?_
       rcases ite_cases H0 with ⟨h543, H0⟩ | ⟨h543, H0⟩
       · refine JL.off 2 81 false (some 82) h543 ?_
         refine JL.off 2 81 false (some 83) h543 ?_
         refine JL.val (.bool true) (some 84) (gives_pickT h543) ?_
         refine JL.mv (.bool true) ?_
         refine JL.off 6 85 false (some 86) rfl ?_
         refine JL.off 6 85 false (some 87) rfl ?_
         refine JL.val (.bool true) (some 88) (gives_pickT rfl) ?_
         refine JL.mv (.bool true) ?_
         refine JL.off 10 89 false (some 90) rfl ?_
         refine JL.off 10 89 false (some 91) rfl ?_
         refine JL.val (.bool true) (some 92) (gives_pickT rfl) ?_
         refine JL.mv (.bool true) ?_
         refine JL.off 14 93 false (some 94) rfl ?_
         refine JL.off 14 93 false (some 95) rfl ?_
         refine JL.val (.bool true) (some 96) (gives_pickT rfl) ?_
         refine JL.mv (.bool true) ?_
         refine JL.off 18 97 false (some 98) rfl ?_
         refine JL.off 18 97 false (some 99) rfl ?_
         refine JL.off 18 97 false (some 100) rfl ?_
         refine JL.off 18 97 false (some 101) rfl ?_
         refine JL.off 18 97 false (some 102) rfl ?_
         refine JL.val (.bool true) (some 103) (gives_pickT rfl) ?_
         refine JL.mv (.bool true) ?_
         refine JL.off 25 104 false (some 105) rfl ?_
         refine JL.off 25 104 false (some 106) rfl ?_
         refine JL.off 25 104 false (some 107) rfl ?_
         refine JL.off 25 104 false (some 108) rfl ?_
         refine JL.off 25 104 false (some 109) rfl ?_
         refine JL.val (.bool true) (some 110) (gives_pickT rfl) ?_
         refine JL.mv (.bool true) ?_
         refine JL.off 32 111 false (some 112) rfl ?_
         refine JL.off 32 111 false (some 113) rfl ?_
         refine JL.off 32 111 false (some 114) rfl ?_
         refine JL.off 32 111 false (some 115) rfl ?_
         refine JL.val (.bool true) (some 116) (gives_pickT rfl) ?_
         refine JL.mv (.bool true) ?_
         refine JL.off 38 117 false (some 118) rfl ?_
         refine JL.off 38 117 false (some 119) rfl ?_
         refine JL.off 38 117 false (some 120) rfl ?_
         refine JL.off 38 117 false (some 121) rfl ?_
         refine JL.val (.bool true) (some 122) (gives_pickT rfl) ?_
         refine JL.end_ ?_
         refine JQ.then_normal ?_
         exact JQ.meet true () H0 (fun _ h => Heap.to (Heap.pick [0, 1, 2] (by decide) h))
       · refine JL.on 2 81 h543 ?_
         refine JL.mv (.int .i64 t25.2) ?_
         refine JL.on 2 81 h543 ?_
         refine JL.pur (.bool (!decide (t25.2 = 0))) (some 83) ?_
         refine JL.val (.bool (!decide (t25.2 = 0))) (some 84) (gives_pickF h543) ?_
         refine JL.mv (.bool (!decide (t25.2 = 0))) ?_
         rcases ite_cases H0 with ⟨h544, H0⟩ | ⟨h544, H0⟩
         · refine JL.off 6 85 false (some 86) h544 ?_
           refine JL.off 6 85 false (some 87) h544 ?_
           refine JL.val (.bool true) (some 88) (gives_pickT h544) ?_
           refine JL.mv (.bool true) ?_
           refine JL.off 10 89 false (some 90) rfl ?_
           refine JL.off 10 89 false (some 91) rfl ?_
           refine JL.val (.bool true) (some 92) (gives_pickT rfl) ?_
           refine JL.mv (.bool true) ?_
           refine JL.off 14 93 false (some 94) rfl ?_
           refine JL.off 14 93 false (some 95) rfl ?_
           refine JL.val (.bool true) (some 96) (gives_pickT rfl) ?_
           refine JL.mv (.bool true) ?_
           refine JL.off 18 97 false (some 98) rfl ?_
           refine JL.off 18 97 false (some 99) rfl ?_
           refine JL.off 18 97 false (some 100) rfl ?_
           refine JL.off 18 97 false (some 101) rfl ?_
           refine JL.off 18 97 false (some 102) rfl ?_
           refine JL.val (.bool true) (some 103) (gives_pickT rfl) ?_
           refine JL.mv (.bool true) ?_
           refine JL.off 25 104 false (some 105) rfl ?_
           refine JL.off 25 104 false (some 106) rfl ?_
           refine JL.off 25 104 false (some 107) rfl ?_
           refine JL.off 25 104 false (some 108) rfl ?_
           refine JL.off 25 104 false (some 109) rfl ?_
           refine JL.val (.bool true) (some 110) (gives_pickT rfl) ?_
           refine JL.mv (.bool true) ?_
           refine JL.off 32 111 false (some 112) rfl ?_
           refine JL.off 32 111 false (some 113) rfl ?_
           refine JL.off 32 111 false (some 114) rfl ?_
           refine JL.off 32 111 false (some 115) rfl ?_
           refine JL.val (.bool true) (some 116) (gives_pickT rfl) ?_
           refine JL.mv (.bool true) ?_
           refine JL.off 38 117 false (some 118) rfl ?_
           refine JL.off 38 117 false (some 119) rfl ?_
           refine JL.off 38 117 false (some 120) rfl ?_
           refine JL.off 38 117 false (some 121) rfl ?_
           refine JL.val (.bool true) (some 122) (gives_pickT rfl) ?_
           refine JL.end_ ?_
           refine JQ.then_normal ?_
           exact JQ.meet true () H0 (fun _ h => Heap.to (Heap.pick [0, 1, 2] (by decide) h))
         · refine JL.on 6 85 h544 ?_
           refine JL.mv (.int .i64 t30.2) ?_
           refine JL.on 6 85 h544 ?_
           refine JL.pur (.bool (!decide (t30.2 = 0))) (some 87) ?_
           refine JL.val (.bool (!decide (t30.2 = 0))) (some 88) (gives_pickF h544) ?_
           refine JL.mv (.bool (!decide (t30.2 = 0))) ?_
           rcases ite_cases H0 with ⟨h545, H0⟩ | ⟨h545, H0⟩
           · refine JL.off 10 89 false (some 90) h545 ?_
             refine JL.off 10 89 false (some 91) h545 ?_
             refine JL.val (.bool true) (some 92) (gives_pickT h545) ?_
             refine JL.mv (.bool true) ?_
             refine JL.off 14 93 false (some 94) rfl ?_
             refine JL.off 14 93 false (some 95) rfl ?_
             refine JL.val (.bool true) (some 96) (gives_pickT rfl) ?_
             refine JL.mv (.bool true) ?_
             refine JL.off 18 97 false (some 98) rfl ?_
             refine JL.off 18 97 false (some 99) rfl ?_
             refine JL.off 18 97 false (some 100) rfl ?_
             refine JL.off 18 97 false (some 101) rfl ?_
             refine JL.off 18 97 false (some 102) rfl ?_
             refine JL.val (.bool true) (some 103) (gives_pickT rfl) ?_
             refine JL.mv (.bool true) ?_
             refine JL.off 25 104 false (some 105) rfl ?_
             refine JL.off 25 104 false (some 106) rfl ?_
             refine JL.off 25 104 false (some 107) rfl ?_
             refine JL.off 25 104 false (some 108) rfl ?_
             refine JL.off 25 104 false (some 109) rfl ?_
             refine JL.val (.bool true) (some 110) (gives_pickT rfl) ?_
             refine JL.mv (.bool true) ?_
             refine JL.off 32 111 false (some 112) rfl ?_
             refine JL.off 32 111 false (some 113) rfl ?_
             refine JL.off 32 111 false (some 114) rfl ?_
             refine JL.off 32 111 false (some 115) rfl ?_
             refine JL.val (.bool true) (some 116) (gives_pickT rfl) ?_
             refine JL.mv (.bool true) ?_
             refine JL.off 38 117 false (some 118) rfl ?_
             refine JL.off 38 117 false (some 119) rfl ?_
             refine JL.off 38 117 false (some 120) rfl ?_
             refine JL.off 38 117 false (some 121) rfl ?_
             refine JL.val (.bool true) (some 122) (gives_pickT rfl) ?_
             refine JL.end_ ?_
             refine JQ.then_normal ?_
             exact JQ.meet true () H0 (fun _ h => Heap.to (Heap.pick [0, 1, 2] (by decide) h))
           · refine JL.on 10 89 h545 ?_
             refine JL.mv (.int .i64 t35.2) ?_
             refine JL.on 10 89 h545 ?_
             refine JL.pur (.bool (!decide (t35.2 = 0))) (some 91) ?_
             refine JL.val (.bool (!decide (t35.2 = 0))) (some 92) (gives_pickF h545) ?_
             refine JL.mv (.bool (!decide (t35.2 = 0))) ?_
             rcases ite_cases H0 with ⟨h546, H0⟩ | ⟨h546, H0⟩
             · refine JL.off 14 93 false (some 94) h546 ?_
               refine JL.off 14 93 false (some 95) h546 ?_
               refine JL.val (.bool true) (some 96) (gives_pickT h546) ?_
               refine JL.mv (.bool true) ?_
               refine JL.off 18 97 false (some 98) rfl ?_
               refine JL.off 18 97 false (some 99) rfl ?_
               refine JL.off 18 97 false (some 100) rfl ?_
               refine JL.off 18 97 false (some 101) rfl ?_
               refine JL.off 18 97 false (some 102) rfl ?_
               refine JL.val (.bool true) (some 103) (gives_pickT rfl) ?_
               refine JL.mv (.bool true) ?_
               refine JL.off 25 104 false (some 105) rfl ?_
               refine JL.off 25 104 false (some 106) rfl ?_
               refine JL.off 25 104 false (some 107) rfl ?_
               refine JL.off 25 104 false (some 108) rfl ?_
               refine JL.off 25 104 false (some 109) rfl ?_
               refine JL.val (.bool true) (some 110) (gives_pickT rfl) ?_
               refine JL.mv (.bool true) ?_
               refine JL.off 32 111 false (some 112) rfl ?_
               refine JL.off 32 111 false (some 113) rfl ?_
               refine JL.off 32 111 false (some 114) rfl ?_
               refine JL.off 32 111 false (some 115) rfl ?_
               refine JL.val (.bool true) (some 116) (gives_pickT rfl) ?_
               refine JL.mv (.bool true) ?_
               refine JL.off 38 117 false (some 118) rfl ?_
               refine JL.off 38 117 false (some 119) rfl ?_
               refine JL.off 38 117 false (some 120) rfl ?_
               refine JL.off 38 117 false (some 121) rfl ?_
               refine JL.val (.bool true) (some 122) (gives_pickT rfl) ?_
               refine JL.end_ ?_
               refine JQ.then_normal ?_
               exact JQ.meet true () H0 (fun _ h => Heap.to (Heap.pick [0, 1, 2] (by decide) h))
             · refine JL.on 14 93 h546 ?_
               refine JL.mv (.int .i64 t40.2) ?_
               refine JL.on 14 93 h546 ?_
               refine JL.pur (.bool (!decide (t40.2 = 0))) (some 95) ?_
               refine JL.val (.bool (!decide (t40.2 = 0))) (some 96) (gives_pickF h546) ?_
               refine JL.mv (.bool (!decide (t40.2 = 0))) ?_
               rcases ite_cases H0 with ⟨h547, H0⟩ | ⟨h547, H0⟩
               · refine JL.off 18 97 false (some 98) h547 ?_
                 refine JL.off 18 97 false (some 99) h547 ?_
                 refine JL.off 18 97 false (some 100) h547 ?_
                 refine JL.off 18 97 false (some 101) h547 ?_
                 refine JL.off 18 97 false (some 102) h547 ?_
                 refine JL.val (.bool true) (some 103) (gives_pickT h547) ?_
                 refine JL.mv (.bool true) ?_
                 refine JL.off 25 104 false (some 105) rfl ?_
                 refine JL.off 25 104 false (some 106) rfl ?_
                 refine JL.off 25 104 false (some 107) rfl ?_
                 refine JL.off 25 104 false (some 108) rfl ?_
                 refine JL.off 25 104 false (some 109) rfl ?_
                 refine JL.val (.bool true) (some 110) (gives_pickT rfl) ?_
                 refine JL.mv (.bool true) ?_
                 refine JL.off 32 111 false (some 112) rfl ?_
                 refine JL.off 32 111 false (some 113) rfl ?_
                 refine JL.off 32 111 false (some 114) rfl ?_
                 refine JL.off 32 111 false (some 115) rfl ?_
                 refine JL.val (.bool true) (some 116) (gives_pickT rfl) ?_
                 refine JL.mv (.bool true) ?_
                 refine JL.off 38 117 false (some 118) rfl ?_
                 refine JL.off 38 117 false (some 119) rfl ?_
                 refine JL.off 38 117 false (some 120) rfl ?_
                 refine JL.off 38 117 false (some 121) rfl ?_
                 refine JL.val (.bool true) (some 122) (gives_pickT rfl) ?_
                 refine JL.end_ ?_
                 refine JQ.then_normal ?_
                 exact JQ.meet true () H0 (fun _ h => Heap.to (Heap.pick [0, 1, 2] (by decide) h))
               · refine JL.on 18 97 h547 ?_
                 refine JL.mv (.slice Aa22 t20.1.length c23) ?_
                 refine JL.on 18 97 h547 ?_
                 refine JL.pur (.int .i64 (t20.1.length : Int)) (some 99) ?_
                 refine JL.on 18 97 h547 ?_
                 refine JL.mv (.slice Aa2 l1.length c3) ?_
                 refine JL.on 18 97 h547 ?_
                 refine JL.pur (.int .i64 (l1.length : Int)) (some 101) ?_
                 refine JL.on 18 97 h547 ?_
                 refine JL.pur (.bool (!decide ((t20.1.length : Int) = (l1.length : Int)))) (some 102) ?_
                 refine JL.val (.bool (!decide ((t20.1.length : Int) = (l1.length : Int)))) (some 103) (gives_pickF h547) ?_
                 refine JL.mv (.bool (!decide ((t20.1.length : Int) = (l1.length : Int)))) ?_
                 rcases ite_cases H0 with ⟨h548, H0⟩ | ⟨h548, H0⟩
                 · refine JL.off 25 104 false (some 105) h548 ?_
                   refine JL.off 25 104 false (some 106) h548 ?_
                   refine JL.off 25 104 false (some 107) h548 ?_
                   refine JL.off 25 104 false (some 108) h548 ?_
                   refine JL.off 25 104 false (some 109) h548 ?_
                   refine JL.val (.bool true) (some 110) (gives_pickT h548) ?_
                   refine JL.mv (.bool true) ?_
                   refine JL.off 32 111 false (some 112) rfl ?_
                   refine JL.off 32 111 false (some 113) rfl ?_
                   refine JL.off 32 111 false (some 114) rfl ?_
                   refine JL.off 32 111 false (some 115) rfl ?_
                   refine JL.val (.bool true) (some 116) (gives_pickT rfl) ?_
                   refine JL.mv (.bool true) ?_
                   refine JL.off 38 117 false (some 118) rfl ?_
                   refine JL.off 38 117 false (some 119) rfl ?_
                   refine JL.off 38 117 false (some 120) rfl ?_
                   refine JL.off 38 117 false (some 121) rfl ?_
                   refine JL.val (.bool true) (some 122) (gives_pickT rfl) ?_
                   refine JL.end_ ?_
                   refine JQ.then_normal ?_
                   exact JQ.meet true () H0 (fun _ h => Heap.to (Heap.pick [0, 1, 2] (by decide) h))
                 · refine JL.on 25 104 h548 ?_
                   refine JL.mv (.slice Aa27 t25.1.length c28) ?_
                   refine JL.on 25 104 h548 ?_
                   refine JL.pur (.int .i64 (t25.1.length : Int)) (some 106) ?_
                   refine JL.on 25 104 h548 ?_
                   refine JL.mv (.slice Aa2 l1.length c3) ?_
                   refine JL.on 25 104 h548 ?_
                   refine JL.pur (.int .i64 (l1.length : Int)) (some 108) ?_
                   refine JL.on 25 104 h548 ?_
                   refine JL.pur (.bool (!decide ((t25.1.length : Int) = (l1.length : Int)))) (some 109) ?_
                   refine JL.val (.bool (!decide ((t25.1.length : Int) = (l1.length : Int)))) (some 110) (gives_pickF h548) ?_
                   refine JL.mv (.bool (!decide ((t25.1.length : Int) = (l1.length : Int)))) ?_
                   rcases ite_cases H0 with ⟨h549, H0⟩ | ⟨h549, H0⟩
                   · refine JL.off 32 111 false (some 112) h549 ?_
                     refine JL.off 32 111 false (some 113) h549 ?_
                     refine JL.off 32 111 false (some 114) h549 ?_
                     refine JL.off 32 111 false (some 115) h549 ?_
                     refine JL.val (.bool true) (some 116) (gives_pickT h549) ?_
                     refine JL.mv (.bool true) ?_
                     refine JL.off 38 117 false (some 118) rfl ?_
                     refine JL.off 38 117 false (some 119) rfl ?_
                     refine JL.off 38 117 false (some 120) rfl ?_
                     refine JL.off 38 117 false (some 121) rfl ?_
                     refine JL.val (.bool true) (some 122) (gives_pickT rfl) ?_
                     refine JL.end_ ?_
                     refine JQ.then_normal ?_
                     exact JQ.meet true () H0 (fun _ h => Heap.to (Heap.pick [0, 1, 2] (by decide) h))
                   · refine JL.on 32 111 h549 ?_
                     refine JL.mv (.slice Aa32 t30.1.length c33) ?_
                     refine JL.on 32 111 h549 ?_
                     refine JL.mv (.slice Aa37 t35.1.length c38) ?_
                     refine JL.on 32 111 h549 ?_
                     obtain ⟨t550, hc551, H0⟩ := bind_some H0
                     refine JL.call [] [] [] (ref13_Same.ok t30.1 Aa32 c33 t35.1 Aa37 c38 _ hc551) ⟨pre_view 3 (view_row Aa32 c33 3 ((flInt .i64).kd) t30.1 false true), ⟨pre_view 4 (view_row Aa37 c38 3 ((flInt .i64).kd) t35.1 false true), trivial⟩⟩ ?_
                     rintro _ _ ⟨rfl, rfl⟩
                     refine JL.on 32 111 h549 ?_
                     refine JL.pur (.bool (!t550)) (some 115) ?_
                     refine JL.val (.bool (!t550)) (some 116) (gives_pickF h549) ?_
                     refine JL.mv (.bool (!t550)) ?_
                     rcases ite_cases H0 with ⟨h552, H0⟩ | ⟨h552, H0⟩
                     · refine JL.off 38 117 false (some 118) h552 ?_
                       refine JL.off 38 117 false (some 119) h552 ?_
                       refine JL.off 38 117 false (some 120) h552 ?_
                       refine JL.off 38 117 false (some 121) h552 ?_
                       refine JL.val (.bool true) (some 122) (gives_pickT h552) ?_
                       refine JL.end_ ?_
                       refine JQ.then_normal ?_
                       exact JQ.meet true () H0 (fun _ h => Heap.to (Heap.pick [0, 1, 2] (by decide) h))
                     · refine JL.on 38 117 h552 ?_
                       refine JL.mv (.slice Aa32 t30.1.length c33) ?_
                       refine JL.on 38 117 h552 ?_
                       refine JL.mv (.slice Aa42 t40.1.length c43) ?_
                       refine JL.on 38 117 h552 ?_
                       obtain ⟨t553, hc554, H0⟩ := bind_some H0
                       refine JL.call [] [] [] (ref13_Same.ok t30.1 Aa32 c33 t40.1 Aa42 c43 _ hc554) ⟨pre_view 3 (view_row Aa32 c33 3 ((flInt .i64).kd) t30.1 false true), ⟨pre_view 5 (view_row Aa42 c43 3 ((flInt .i64).kd) t40.1 false true), trivial⟩⟩ ?_
                       rintro _ _ ⟨rfl, rfl⟩
                       refine JL.on 38 117 h552 ?_
                       refine JL.pur (.bool (!t553)) (some 121) ?_
                       refine JL.val (.bool (!t553)) (some 122) (gives_pickF h552) ?_
                       refine JL.end_ ?_
                       refine JQ.then_normal ?_
                       exact JQ.meet (!t553) () H0 (fun _ h => Heap.to (Heap.pick [0, 1, 2] (by decide) h))
     · clear H0
       rintro x57 ⟨⟩ H0
       replace H0 : law13_SampleOrder.k2 l1 t5 t7 t20 t25 x57 = some r := H0
       unfold law13_SampleOrder.k2 at H0
       refine JQ.sub [(0, .slice Aa2 l1.length c3), (1, .int .i64 t5), (7, .bool t7), (8, .slice Aa22 t20.1.length c23), (10, .slice Aa27 t25.1.length c28), (122, .bool x57)] ?_
       refine JQ.turn (Δ' := [At.rd Aa2 c3 ((flInt .i64).kd) l1 true, At.row Aa22 c23 3 ((flInt .i64).kd) t20.1 false, At.row Aa27 c28 3 ((flInt .i64).kd) t25.1 false]) (fun _ h => h.to) ?_
       rcases ite_cases H0 with ⟨h58, H0⟩ | ⟨h58, H0⟩
       · refine J.cond_true h58 ?_
         refine J.seq ?_
         refine J.region ?_
         refine JL.as (.bool false) ?_
         refine JL.end_ ?_
         refine JQ.then_normal ?_
         refine JQ.sub [(6, .bool false)] ?_
         refine JQ.mask [] [false, false, false] ?_
         refine J.ret ?_
         refine JQ.then_ret ?_
         obtain rfl := Option.some.inj H0
         exact JQ.done' (rs := [.tmp 6]) (vs := [.bool false]) [] (.inr rfl) ⟨by kernel_rfl, trivial⟩ (fun _ h => Heap.to h) ⟨rfl, rfl⟩
       · refine J.cond_false h58 ?_
         refine J.skip ?_
         refine JQ.then_normal ?_
         refine JQ.sub [(0, .slice Aa2 l1.length c3), (1, .int .i64 t5), (7, .bool t7), (8, .slice Aa22 t20.1.length c23), (10, .slice Aa27 t25.1.length c28)] ?_
         refine J.seq ?_
         refine J.region ?_
         refine JL.as (.slice none 0 0) ?_
         refine JL.end_ ?_
         refine JQ.then_normal ?_
         refine J.seq ?_
         refine J.seq ?_
         refine J.region ?_
         refine JL.as (.int .i64 0) ?_
         refine JL.end_ ?_
         refine JQ.then_normal ?_
         obtain ⟨o1, hit, H0⟩ := bind_some H0
         refine J.loop (σ := ((List Int) × Int)) (τ := List Int) (G := ((Option Addr) × Nat)) (G' := ((Option Addr) × Nat)) _ o1 (fun s g => [(0, .slice Aa2 l1.length c3), (1, .int .i64 t5), (7, .bool t7), (8, .slice Aa22 t20.1.length c23), (10, .slice Aa27 t25.1.length c28), (18, .slice g.1 s.1.length g.2), (19, .int .i64 s.2)]) (fun s g => [At.rd Aa2 c3 ((flInt .i64).kd) l1 true, At.row Aa22 c23 3 ((flInt .i64).kd) t20.1 false, At.row Aa27 c28 3 ((flInt .i64).kd) t25.1 false, At.row g.1 g.2 3 ((flInt .i64).kd) s.1 false]) (fun t => law13_SampleOrder.k4 l1 t5 t7 t20 t = some r) (fun t g => [(0, .slice Aa2 l1.length c3), (1, .int .i64 t5), (7, .bool t7), (8, .slice Aa22 t20.1.length c23), (18, .slice g.1 t.length g.2)]) (fun t g => [At.rd Aa2 c3 ((flInt .i64).kd) l1 true, At.row Aa22 c23 3 ((flInt .i64).kd) t20.1 false, At.row g.1 g.2 3 ((flInt .i64).kd) t false]) ([], 0) (none, 0) hit (fun _ h => Heap.to (Heap.addRow0 (α := Int) 3 ((flInt .i64).kd) false h)) ?_ ?_
         · clear hit
           rintro ⟨other122, k126⟩ ⟨Aa123, c124⟩ st1 H1 hb1 hr1
           replace H1 : law13_SampleOrder.s3 l1 t20 t25 other122 k126 = some st1 := H1
           unfold law13_SampleOrder.s3 at H1
           refine JQ.sub [(0, .slice Aa2 l1.length c3), (1, .int .i64 t5), (7, .bool t7), (8, .slice Aa22 t20.1.length c23), (10, .slice Aa27 t25.1.length c28), (18, .slice Aa123 other122.length c124), (19, .int .i64 k126)] ?_
           refine JQ.turn (Δ' := [At.rd Aa2 c3 ((flInt .i64).kd) l1 true, At.row Aa22 c23 3 ((flInt .i64).kd) t20.1 false, At.row Aa27 c28 3 ((flInt .i64).kd) t25.1 false, At.row Aa123 c124 3 ((flInt .i64).kd) other122 false]) (fun _ h => h.to) ?_
           refine J.seq ?_
           refine J.seq ?_
           refine J.region ?_
           refine JL.mv (.int .i64 k126) ?_
           refine JL.mv (.slice Aa2 l1.length c3) ?_
           refine JL.pur (.int .i64 (l1.length : Int)) (some 125) ?_
           refine JL.pur (.bool (decide (k126 < (l1.length : Int)))) (some 126) ?_
           refine JL.end_ ?_
           refine JQ.then_normal ?_
           refine JQ.sub [(0, .slice Aa2 l1.length c3), (1, .int .i64 t5), (7, .bool t7), (8, .slice Aa22 t20.1.length c23), (10, .slice Aa27 t25.1.length c28), (18, .slice Aa123 other122.length c124), (19, .int .i64 k126), (126, .bool (decide (k126 < (l1.length : Int))))] ?_
           rcases ite_cases H1 with ⟨h517, H1⟩ | ⟨h517, H1⟩
           · refine J.cond_true h517 ?_
             refine J.skip ?_
             refine JQ.then_normal ?_
             refine JQ.sub [(0, .slice Aa2 l1.length c3), (1, .int .i64 t5), (7, .bool t7), (8, .slice Aa22 t20.1.length c23), (10, .slice Aa27 t25.1.length c28), (18, .slice Aa123 other122.length c124), (19, .int .i64 k126)] ?_
             refine J.seq ?_
             refine J.block ?_
             refine J.seq ?_
             refine J.seq ?_
             refine J.draw ?_
             refine QL.mv (.slice Aa22 t20.1.length c23) ?_
             refine QL.mv (.int .i64 k126) ?_
             obtain ⟨⟨h518, h519⟩, H1⟩ := ite_must H1
             refine QL.ixAddr 1 1 c23 .i64 (elems_row Aa22 c23 3 ((flInt .i64).kd) t20.1 false) Try.underlying22 tySize_3 h518 h519 fun g520 o521 hA => ?_
             subst hA
             refine QL.val (.int .i64 (ix t20.1 k126)) (some 132) (gives_loadEl (f := (flInt .i64)) 1 0 k126 (elems_row (some ⟨g520, o521, none⟩) c23 3 ((flInt .i64).kd) t20.1 false) h518 h519 tySize_3 (.inr ⟨tyAgg_3, rfl, rfl⟩)) ?_
             refine QL.mv (.slice Aa27 t25.1.length c28) ?_
             refine QL.mv (.int .i64 k126) ?_
             obtain ⟨⟨h522, h523⟩, H1⟩ := ite_must H1
             refine QL.ixAddr 2 1 c28 .i64 (elems_row Aa27 c28 3 ((flInt .i64).kd) t25.1 false) Try.underlying22 tySize_3 h522 h523 fun g524 o525 hA => ?_
             subst hA
             refine QL.val (.int .i64 (ix t25.1 k126)) (some 136) (gives_loadEl (f := (flInt .i64)) 2 0 k126 (elems_row (some ⟨g524, o525, none⟩) c28 3 ((flInt .i64).kd) t25.1 false) h522 h523 tySize_3 (.inr ⟨tyAgg_3, rfl, rfl⟩)) ?_
             refine QL.pur (.int .i64 (w64 ((ix t20.1 k126) * (ix t25.1 k126)))) (some 137) ?_
             refine QL.mv (.slice (some ⟨g524, o525, none⟩) t25.1.length c28) ?_
             refine QL.mv (.int .i64 k126) ?_
             refine QL.ixAddr' 2 1 c28 .i64 (elems_row (some ⟨g524, o525, none⟩) c28 3 ((flInt .i64).kd) t25.1 false) Try.underlying22 tySize_3 h522 h523 ?_
             refine QL.val (.int .i64 (ix t25.1 k126)) (some 141) (gives_loadEl (f := (flInt .i64)) 2 0 k126 (elems_row (some ⟨g524, o525, none⟩) c28 3 ((flInt .i64).kd) t25.1 false) h522 h523 tySize_3 (.inr ⟨tyAgg_3, rfl, rfl⟩)) ?_
             refine QL.mv (.slice (some ⟨g524, o525, none⟩) t25.1.length c28) ?_
             refine QL.mv (.int .i64 k126) ?_
             refine QL.ixAddr' 2 1 c28 .i64 (elems_row (some ⟨g524, o525, none⟩) c28 3 ((flInt .i64).kd) t25.1 false) Try.underlying22 tySize_3 h522 h523 ?_
             refine QL.val (.int .i64 (ix t25.1 k126)) (some 145) (gives_loadEl (f := (flInt .i64)) 2 0 k126 (elems_row (some ⟨g524, o525, none⟩) c28 3 ((flInt .i64).kd) t25.1 false) h522 h523 tySize_3 (.inr ⟨tyAgg_3, rfl, rfl⟩)) ?_
             refine QL.pur (.int .i64 (w64 ((ix t25.1 k126) * (ix t25.1 k126)))) (some 146) ?_
             refine QL.pur (.bool (decide (w64 ((ix t20.1 k126) * (ix t25.1 k126)) < w64 ((ix t25.1 k126) * (ix t25.1 k126))))) (some 147) ?_
             refine QL.nil ?_
             refine JA.nil ?_
             refine JQ.then_normal ?_
             refine JQ.sub [(0, .slice Aa2 l1.length c3), (1, .int .i64 t5), (7, .bool t7), (8, .slice (some ⟨g520, o521, none⟩) t20.1.length c23), (10, .slice (some ⟨g524, o525, none⟩) t25.1.length c28), (18, .slice Aa123 other122.length c124), (19, .int .i64 k126), (147, .bool (decide (w64 ((ix t20.1 k126) * (ix t25.1 k126)) < w64 ((ix t25.1 k126) * (ix t25.1 k126)))))] ?_
             rcases ite_cases H1 with ⟨h534, H1⟩ | ⟨h534, H1⟩
             · refine J.cond_true h534 ?_
               refine J.seq ?_
               refine J.region ?_
               refine JL.as (.bool false) ?_
               refine JL.end_ ?_
               refine JQ.then_normal ?_
               refine JQ.sub [(6, .bool false)] ?_
               refine JQ.mask [] [false, false, false, false] ?_
               refine J.ret ?_
               refine JQ.then_ret ?_
               refine JQ.blk_ret ?_
               refine JQ.then_ret ?_
               refine JQ.then_ret ?_
               refine JQ.blk_ret ?_
               refine JQ.met_ret ?_
               refine JQ.then_ret ?_
               rw [hr1 _ (Option.some.inj H1).symm, fin_ret] at H0
               obtain rfl := Option.some.inj H0
               exact JQ.done' (rs := [.tmp 6]) (vs := [.bool false]) [] (.inr rfl) ⟨by kernel_rfl, trivial⟩ (fun _ h => Heap.to h) ⟨rfl, rfl⟩
             · refine J.cond_false h534 ?_
               refine J.skip ?_
               refine JQ.then_normal ?_
               refine JQ.sub [(0, .slice Aa2 l1.length c3), (1, .int .i64 t5), (7, .bool t7), (8, .slice (some ⟨g520, o521, none⟩) t20.1.length c23), (10, .slice (some ⟨g524, o525, none⟩) t25.1.length c28), (18, .slice Aa123 other122.length c124), (19, .int .i64 k126)] ?_
               refine J.region ?_
               refine JL.mv (.slice Aa123 other122.length c124) ?_
               refine JL.mv (.slice Aa2 l1.length c3) ?_
               refine JL.mv (.int .i64 k126) ?_
               obtain ⟨⟨h535, h536⟩, H1⟩ := ite_must H1
               refine JL.ixAddr 0 1 c3 .i64 (elems_rd Aa2 c3 ((flInt .i64).kd) l1 true) Try.underlying22 tySize_3 h535 h536 fun g537 o538 hA => ?_
               subst hA
               refine JL.val (.int .i64 (ix l1 k126)) (some 152) (gives_loadEl (f := (flInt .i64)) 0 0 k126 (elems_rd (some ⟨g537, o538, none⟩) c3 ((flInt .i64).kd) l1 true) h535 h536 tySize_3 (.inr ⟨tyAgg_3, rfl, rfl⟩)) ?_
               refine JL.pur (.int .i64 (w64 (0 - (ix l1 k126)))) (some 153) ?_
               refine JL.buildSl 3 ((flInt .i64).kd) (([(w64 (0 - (ix l1 k126)))] : List Int) : List Int) [.int .i64 (w64 (0 - (ix l1 k126)))] false (closes_fl rfl) fun b539 => ?_
               obtain ⟨h542, H1⟩ := ite_must H1
               refine JL.append false false 3 4 Aa123 c124 1 other122 (elems_row (some ⟨b539, 0, none⟩) 1 3 ((flInt .i64).kd) ([(w64 (0 - (ix l1 k126)))] : List Int) false) Try.underlying22 info_3 (by omega) (by omega) (fun h => h) (.inr ⟨_, rfl⟩) fun Aa540 c541 => ?_
               refine JL.as (.slice Aa540 (other122 ++ ([(w64 (0 - (ix l1 k126)))] : List Int)).length c541) ?_
               refine JL.end_ ?_
               refine JQ.blk_normal ?_
               refine JQ.then_normal ?_
               refine JQ.sub [(0, .slice (some ⟨g537, o538, none⟩) l1.length c3), (1, .int .i64 t5), (7, .bool t7), (8, .slice (some ⟨g520, o521, none⟩) t20.1.length c23), (10, .slice (some ⟨g524, o525, none⟩) t25.1.length c28), (18, .slice Aa540 (other122 ++ ([(w64 (0 - (ix l1 k126)))] : List Int)).length c541), (19, .int .i64 k126)] ?_
               refine JQ.mask [At.rd (some ⟨g537, o538, none⟩) c3 ((flInt .i64).kd) l1 true, At.row (some ⟨g520, o521, none⟩) c23 3 ((flInt .i64).kd) t20.1 false, At.row (some ⟨g524, o525, none⟩) c28 3 ((flInt .i64).kd) t25.1 false, At.row Aa540 c541 3 ((flInt .i64).kd) (other122 ++ ([(w64 (0 - (ix l1 k126)))] : List Int)) false] [true, true, true, true, false] ?_
               refine J.region ?_
               refine JL.mv (.int .i64 k126) ?_
               refine JL.pur (.int .i64 (w64 (k126 + 1))) (some 128) ?_
               refine JL.as (.int .i64 (w64 (k126 + 1))) ?_
               refine JL.end_ ?_
               refine JQ.then_normal ?_
               exact JQ.again ((other122 ++ ([(w64 (0 - (ix l1 k126)))] : List Int)), w64 (k126 + 1)) (Aa540, c541) (Option.some.inj H1).symm (fun _ h => Heap.to h)
           · refine J.cond_false h517 ?_
             refine J.exit ?_
             refine JQ.then_exit ?_
             refine JQ.then_exit ?_
             refine JQ.blk_exit ?_
             rw [hb1 _ (Option.some.inj H1).symm, fin_brk] at H0
             exact JQ.met other122 (Aa123, c124) H0 (fun _ h => Heap.to (Heap.pick [0, 1, 3] (by decide) h))
         · clear hit H0
           rintro other153 ⟨Aa154, c155⟩ H0
           replace H0 : law13_SampleOrder.k4 l1 t5 t7 t20 other153 = some r := H0
           unfold law13_SampleOrder.k4 at H0
           refine JQ.sub [(0, .slice Aa2 l1.length c3), (1, .int .i64 t5), (7, .bool t7), (8, .slice Aa22 t20.1.length c23), (18, .slice Aa154 other153.length c155)] ?_
           refine JQ.turn (Δ' := [At.rd Aa2 c3 ((flInt .i64).kd) l1 true, At.row Aa22 c23 3 ((flInt .i64).kd) t20.1 false, At.row Aa154 c155 3 ((flInt .i64).kd) other153 false]) (fun _ h => h.to) ?_
           refine JQ.then_normal ?_
           refine J.seq ?_
           refine J.region ?_
           refine JL.mv (.slice Aa154 other153.length c155) ?_
           refine JL.mv (.int .i64 t5) ?_
           obtain ⟨t157, hc158, H0⟩ := bind_some H0
           refine JL.call [] [] [] (sample_Take.ok other153 Aa154 c155 t5 _ hc158) ⟨pre_view 2 (view_row Aa154 c155 3 ((flInt .i64).kd) other153 false true), trivial⟩ ?_
           rintro _ _ ⟨Aa159, c160, rfl, rfl⟩
           refine JL.mv (.tuple #[.slice Aa159 t157.1.length c160, .int .i64 t157.2]) ?_
           refine JL.pur (.slice Aa159 t157.1.length c160) (some 160) ?_
           refine JL.pur (.int .i64 t157.2) (some 161) ?_
           refine JL.as (.slice Aa159 t157.1.length c160) ?_
           refine JL.as (.int .i64 t157.2) ?_
           refine JL.end_ ?_
           refine JQ.then_normal ?_
           refine JQ.sub [(0, .slice Aa2 l1.length c3), (7, .bool t7), (8, .slice Aa22 t20.1.length c23), (20, .slice Aa159 t157.1.length c160), (21, .int .i64 t157.2)] ?_
           refine JQ.mask [At.rd Aa2 c3 ((flInt .i64).kd) l1 true, At.row Aa22 c23 3 ((flInt .i64).kd) t20.1 false, At.row Aa159 c160 3 ((flInt .i64).kd) t157.1 false] [true, true, false, true] ?_
           refine J.seq ?_
           refine J.join (T := Bool) (G := Unit) (fun t => law13_SampleOrder.k5 l1 t7 t20 t157 t = some r) (fun t g => [(0, .slice Aa2 l1.length c3), (7, .bool t7), (8, .slice Aa22 t20.1.length c23), (20, .slice Aa159 t157.1.length c160), (170, .bool t)]) (fun t g => [At.rd Aa2 c3 ((flInt .i64).kd) l1 true, At.row Aa22 c23 3 ((flInt .i64).kd) t20.1 false, At.row Aa159 c160 3 ((flInt .i64).kd) t157.1 false]) ?_ ?_
           · refine J.region ?_
             refine JL.mv (.int .i64 t157.2) ?_
             refine JL.pur (.bool (!decide (t157.2 = 0))) (some 163) ?_
             refine JL.mv (.bool (!decide (t157.2 = 0))) ?_
             rcases ite_cases H0 with ⟨h516, H0⟩ | ⟨h516, H0⟩
             · refine JL.off 2 164 false (some 165) h516 ?_
               refine JL.off 2 164 false (some 166) h516 ?_
               refine JL.off 2 164 false (some 167) h516 ?_
               refine JL.off 2 164 false (some 168) h516 ?_
               refine JL.off 2 164 false (some 169) h516 ?_
               refine JL.val (.bool true) (some 170) (gives_pickT h516) ?_
               refine JL.end_ ?_
               refine JQ.then_normal ?_
               exact JQ.meet true () H0 (fun _ h => Heap.to h)
             · refine JL.on 2 164 h516 ?_
               refine JL.mv (.slice Aa159 t157.1.length c160) ?_
               refine JL.on 2 164 h516 ?_
               refine JL.pur (.int .i64 (t157.1.length : Int)) (some 166) ?_
               refine JL.on 2 164 h516 ?_
               refine JL.mv (.slice Aa2 l1.length c3) ?_
               refine JL.on 2 164 h516 ?_
               refine JL.pur (.int .i64 (l1.length : Int)) (some 168) ?_
               refine JL.on 2 164 h516 ?_
               refine JL.pur (.bool (!decide ((t157.1.length : Int) = (l1.length : Int)))) (some 169) ?_
               refine JL.val (.bool (!decide ((t157.1.length : Int) = (l1.length : Int)))) (some 170) (gives_pickF h516) ?_
               refine JL.end_ ?_
               refine JQ.then_normal ?_
               exact JQ.meet (!decide ((t157.1.length : Int) = (l1.length : Int))) () H0 (fun _ h => Heap.to h)
           · clear H0
             rintro x163 ⟨⟩ H0
             replace H0 : law13_SampleOrder.k5 l1 t7 t20 t157 x163 = some r := H0
             unfold law13_SampleOrder.k5 at H0
             refine JQ.sub [(0, .slice Aa2 l1.length c3), (7, .bool t7), (8, .slice Aa22 t20.1.length c23), (20, .slice Aa159 t157.1.length c160), (170, .bool x163)] ?_
             refine JQ.turn (Δ' := [At.rd Aa2 c3 ((flInt .i64).kd) l1 true, At.row Aa22 c23 3 ((flInt .i64).kd) t20.1 false, At.row Aa159 c160 3 ((flInt .i64).kd) t157.1 false]) (fun _ h => h.to) ?_
             rcases ite_cases H0 with ⟨h164, H0⟩ | ⟨h164, H0⟩
             · refine J.cond_true h164 ?_
               refine J.seq ?_
               refine J.region ?_
               refine JL.as (.bool false) ?_
               refine JL.end_ ?_
               refine JQ.then_normal ?_
               refine JQ.sub [(6, .bool false)] ?_
               refine JQ.mask [] [false, false, false] ?_
               refine J.ret ?_
               refine JQ.then_ret ?_
               obtain rfl := Option.some.inj H0
               exact JQ.done' (rs := [.tmp 6]) (vs := [.bool false]) [] (.inr rfl) ⟨by kernel_rfl, trivial⟩ (fun _ h => Heap.to h) ⟨rfl, rfl⟩
             · refine J.cond_false h164 ?_
               refine J.skip ?_
               refine JQ.then_normal ?_
               refine JQ.sub [(0, .slice Aa2 l1.length c3), (7, .bool t7), (8, .slice Aa22 t20.1.length c23), (20, .slice Aa159 t157.1.length c160)] ?_
               refine J.seq ?_
               refine J.seq ?_
               refine J.region ?_
               refine JL.as (.int .i64 0) ?_
               refine JL.end_ ?_
               refine JQ.then_normal ?_
               obtain ⟨o1, hit, H0⟩ := bind_some H0
               refine J.loop (σ := Int) (τ := Unit) (G := Unit) (G' := Unit) _ o1 (fun s g => [(0, .slice Aa2 l1.length c3), (7, .bool t7), (8, .slice Aa22 t20.1.length c23), (20, .slice Aa159 t157.1.length c160), (22, .int .i64 s)]) (fun s g => [At.rd Aa2 c3 ((flInt .i64).kd) l1 true, At.row Aa22 c23 3 ((flInt .i64).kd) t20.1 false, At.row Aa159 c160 3 ((flInt .i64).kd) t157.1 false]) (fun t => law13_SampleOrder.k10 t7 = some r) (fun t g => [(7, .bool t7)]) (fun t g => []) 0 () hit (fun _ h => Heap.to h) ?_ ?_
               · clear hit
                 rintro k341 ⟨⟩ st1 H1 hb1 hr1
                 replace H1 : law13_SampleOrder.s9 l1 t20 t157 k341 = some st1 := H1
                 unfold law13_SampleOrder.s9 at H1
                 refine JQ.sub [(0, .slice Aa2 l1.length c3), (7, .bool t7), (8, .slice Aa22 t20.1.length c23), (20, .slice Aa159 t157.1.length c160), (22, .int .i64 k341)] ?_
                 refine JQ.turn (Δ' := [At.rd Aa2 c3 ((flInt .i64).kd) l1 true, At.row Aa22 c23 3 ((flInt .i64).kd) t20.1 false, At.row Aa159 c160 3 ((flInt .i64).kd) t157.1 false]) (fun _ h => h.to) ?_
                 refine J.seq ?_
                 refine J.seq ?_
                 refine J.region ?_
                 refine JL.mv (.int .i64 k341) ?_
                 refine JL.mv (.slice Aa2 l1.length c3) ?_
                 refine JL.pur (.int .i64 (l1.length : Int)) (some 173) ?_
                 refine JL.pur (.bool (decide (k341 < (l1.length : Int)))) (some 174) ?_
                 refine JL.end_ ?_
                 refine JQ.then_normal ?_
                 refine JQ.sub [(0, .slice Aa2 l1.length c3), (7, .bool t7), (8, .slice Aa22 t20.1.length c23), (20, .slice Aa159 t157.1.length c160), (22, .int .i64 k341), (174, .bool (decide (k341 < (l1.length : Int))))] ?_
                 rcases ite_cases H1 with ⟨h429, H1⟩ | ⟨h429, H1⟩
                 · refine J.cond_true h429 ?_
                   refine J.skip ?_
                   refine JQ.then_normal ?_
                   refine JQ.sub [(0, .slice Aa2 l1.length c3), (7, .bool t7), (8, .slice Aa22 t20.1.length c23), (20, .slice Aa159 t157.1.length c160), (22, .int .i64 k341)] ?_
                   refine J.seq ?_
                   refine J.block ?_
                   refine J.join (T := Bool) (G := Unit) (fun t => law13_SampleOrder.k11 k341 t = some st1) (fun t g => [(0, .slice Aa2 l1.length c3), (7, .bool t7), (8, .slice Aa22 t20.1.length c23), (20, .slice Aa159 t157.1.length c160), (22, .int .i64 k341), (214, .bool t)]) (fun t g => [At.rd Aa2 c3 ((flInt .i64).kd) l1 true, At.row Aa22 c23 3 ((flInt .i64).kd) t20.1 false, At.row Aa159 c160 3 ((flInt .i64).kd) t157.1 false]) ?_ ?_
                   · refine J.draw ?_
                     refine QL.mv (.slice Aa2 l1.length c3) ?_
                     refine QL.mv (.int .i64 k341) ?_
                     obtain ⟨⟨h474, h475⟩, H1⟩ := ite_must H1
                     refine QL.ixAddr 0 1 c3 .i64 (elems_rd Aa2 c3 ((flInt .i64).kd) l1 true) Try.underlying22 tySize_3 h474 h475 fun g476 o477 hA => ?_
                     subst hA
                     refine QL.val (.int .i64 (ix l1 k341)) (some 180) (gives_loadEl (f := (flInt .i64)) 0 0 k341 (elems_rd (some ⟨g476, o477, none⟩) c3 ((flInt .i64).kd) l1 true) h474 h475 tySize_3 (.inr ⟨tyAgg_3, rfl, rfl⟩)) ?_
                     refine QL.pur (.bool (!decide ((ix l1 k341) = 0))) (some 181) ?_
                     refine QL.mv (.bool (!decide ((ix l1 k341) = 0))) ?_
                     rcases ite_cases H1 with ⟨h478, H1⟩ | ⟨h478, H1⟩
                     · refine QL.on 5 182 h478 ?_
                       refine QL.mv (.slice Aa159 t157.1.length c160) ?_
                       refine QL.on 5 182 h478 ?_
                       refine QL.mv (.int .i64 k341) ?_
                       refine QL.on 5 182 h478 ?_
                       obtain ⟨⟨h479, h480⟩, H1⟩ := ite_must H1
                       refine QL.ixAddr 2 1 c160 .i64 (elems_row Aa159 c160 3 ((flInt .i64).kd) t157.1 false) Try.underlying22 tySize_3 h479 h480 fun g481 o482 hA => ?_
                       subst hA
                       refine QL.on 5 182 h478 ?_
                       refine QL.val (.int .i64 (ix t157.1 k341)) (some 186) (gives_loadEl (f := (flInt .i64)) 2 0 k341 (elems_row (some ⟨g481, o482, none⟩) c160 3 ((flInt .i64).kd) t157.1 false) h479 h480 tySize_3 (.inr ⟨tyAgg_3, rfl, rfl⟩)) ?_
                       refine QL.on 5 182 h478 ?_
                       refine QL.mv (.slice Aa22 t20.1.length c23) ?_
                       refine QL.on 5 182 h478 ?_
                       refine QL.mv (.int .i64 k341) ?_
                       refine QL.on 5 182 h478 ?_
                       obtain ⟨⟨h483, h484⟩, H1⟩ := ite_must H1
                       refine QL.ixAddr 1 1 c23 .i64 (elems_row Aa22 c23 3 ((flInt .i64).kd) t20.1 false) Try.underlying22 tySize_3 h483 h484 fun g485 o486 hA => ?_
                       subst hA
                       refine QL.on 5 182 h478 ?_
                       refine QL.val (.int .i64 (ix t20.1 k341)) (some 190) (gives_loadEl (f := (flInt .i64)) 1 0 k341 (elems_row (some ⟨g485, o486, none⟩) c23 3 ((flInt .i64).kd) t20.1 false) h483 h484 tySize_3 (.inr ⟨tyAgg_3, rfl, rfl⟩)) ?_
                       refine QL.on 5 182 h478 ?_
                       refine QL.pur (.int .i64 (w64 (0 - (ix t20.1 k341)))) (some 191) ?_
                       refine QL.on 5 182 h478 ?_
                       refine QL.pur (.bool (!decide ((ix t157.1 k341) = w64 (0 - (ix t20.1 k341))))) (some 192) ?_
                       refine QL.val (.bool (!decide ((ix t157.1 k341) = w64 (0 - (ix t20.1 k341))))) (some 193) (gives_pickT h478) ?_
                       refine QL.mv (.bool (!decide ((ix t157.1 k341) = w64 (0 - (ix t20.1 k341))))) ?_
                       rcases ite_cases H1 with ⟨h487, H1⟩ | ⟨h487, H1⟩
                       · refine QL.off 17 194 false (some 195) h487 ?_
                         refine QL.off 17 194 false (some 196) h487 ?_
                         refine QL.off 17 194 false (some 197) h487 ?_
                         refine QL.off 17 194 false (some 198) h487 ?_
                         refine QL.off 17 194 false (some 199) h487 ?_
                         refine QL.off 17 194 false (some 200) h487 ?_
                         refine QL.off' 23 200 true (some 201) ?_
                         refine QL.off' 23 200 true (some 202) ?_
                         refine QL.off' 23 200 true (some 203) ?_
                         refine QL.off' 23 200 true (some 204) ?_
                         refine QL.off' 23 200 true (some 205) ?_
                         refine QL.off' 23 200 true (some 206) ?_
                         refine QL.off' 29 206 false (some 207) ?_
                         refine QL.off' 29 206 false (some 208) ?_
                         refine QL.off' 29 206 false (some 209) ?_
                         refine QL.off' 29 206 false (some 210) ?_
                         refine QL.off' 29 206 false (some 211) ?_
                         refine QL.off' 23 200 true (some 212) ?_
                         refine QL.off 17 194 false (some 213) h487 ?_
                         refine QL.val (.bool true) (some 214) (gives_pickT h487) ?_
                         refine QL.nil ?_
                         refine JA.nil ?_
                         refine JQ.then_normal ?_
                         exact JQ.meet true () H1 (fun _ h => Heap.to h)
                       · refine QL.on 17 194 h487 ?_
                         refine QL.mv (.slice (some ⟨g476, o477, none⟩) l1.length c3) ?_
                         refine QL.on 17 194 h487 ?_
                         refine QL.mv (.int .i64 k341) ?_
                         refine QL.on 17 194 h487 ?_
                         refine QL.ixAddr' 0 1 c3 .i64 (elems_rd (some ⟨g476, o477, none⟩) c3 ((flInt .i64).kd) l1 true) Try.underlying22 tySize_3 h474 h475 ?_
                         refine QL.on 17 194 h487 ?_
                         refine QL.val (.int .i64 (ix l1 k341)) (some 198) (gives_loadEl (f := (flInt .i64)) 0 0 k341 (elems_rd (some ⟨g476, o477, none⟩) c3 ((flInt .i64).kd) l1 true) h474 h475 tySize_3 (.inr ⟨tyAgg_3, rfl, rfl⟩)) ?_
                         refine QL.on 17 194 h487 ?_
                         refine QL.pur (.bool (decide ((ix l1 k341) = 0))) (some 199) ?_
                         refine QL.on 17 194 h487 ?_
                         refine QL.mv (.bool (decide ((ix l1 k341) = 0))) ?_
                         rcases ite_cases H1 with ⟨h492, H1⟩ | ⟨h492, H1⟩
                         · refine QL.on 23 200 h492 ?_
                           refine QL.mv (.slice (some ⟨g481, o482, none⟩) t157.1.length c160) ?_
                           refine QL.on 23 200 h492 ?_
                           refine QL.mv (.int .i64 k341) ?_
                           refine QL.on 23 200 h492 ?_
                           refine QL.ixAddr' 2 1 c160 .i64 (elems_row (some ⟨g481, o482, none⟩) c160 3 ((flInt .i64).kd) t157.1 false) Try.underlying22 tySize_3 h479 h480 ?_
                           refine QL.on 23 200 h492 ?_
                           refine QL.val (.int .i64 (ix t157.1 k341)) (some 204) (gives_loadEl (f := (flInt .i64)) 2 0 k341 (elems_row (some ⟨g481, o482, none⟩) c160 3 ((flInt .i64).kd) t157.1 false) h479 h480 tySize_3 (.inr ⟨tyAgg_3, rfl, rfl⟩)) ?_
                           refine QL.on 23 200 h492 ?_
                           refine QL.pur (.bool (!decide ((ix t157.1 k341) = 1))) (some 205) ?_
                           refine QL.on 23 200 h492 ?_
                           refine QL.mv (.bool (!decide ((ix t157.1 k341) = 1))) ?_
                           rcases ite_cases H1 with ⟨h497, H1⟩ | ⟨h497, H1⟩
                           · refine QL.off 29 206 false (some 207) h497 ?_
                             refine QL.off 29 206 false (some 208) h497 ?_
                             refine QL.off 29 206 false (some 209) h497 ?_
                             refine QL.off 29 206 false (some 210) h497 ?_
                             refine QL.off 29 206 false (some 211) h497 ?_
                             refine QL.on 23 200 h492 ?_
                             refine QL.val (.bool true) (some 212) (gives_pickT h497) ?_
                             refine QL.on 17 194 h487 ?_
                             refine QL.val (.bool true) (some 213) (gives_pickT h492) ?_
                             refine QL.val (.bool true) (some 214) (gives_pickF h487) ?_
                             refine QL.nil ?_
                             refine JA.nil ?_
                             refine JQ.then_normal ?_
                             exact JQ.meet true () H1 (fun _ h => Heap.to h)
                           · refine QL.on 29 206 h497 ?_
                             refine QL.mv (.slice (some ⟨g485, o486, none⟩) t20.1.length c23) ?_
                             refine QL.on 29 206 h497 ?_
                             refine QL.mv (.int .i64 k341) ?_
                             refine QL.on 29 206 h497 ?_
                             refine QL.ixAddr' 1 1 c23 .i64 (elems_row (some ⟨g485, o486, none⟩) c23 3 ((flInt .i64).kd) t20.1 false) Try.underlying22 tySize_3 h483 h484 ?_
                             refine QL.on 29 206 h497 ?_
                             refine QL.val (.int .i64 (ix t20.1 k341)) (some 210) (gives_loadEl (f := (flInt .i64)) 1 0 k341 (elems_row (some ⟨g485, o486, none⟩) c23 3 ((flInt .i64).kd) t20.1 false) h483 h484 tySize_3 (.inr ⟨tyAgg_3, rfl, rfl⟩)) ?_
                             refine QL.on 29 206 h497 ?_
                             refine QL.pur (.bool (!decide ((ix t20.1 k341) = 1))) (some 211) ?_
                             refine QL.on 23 200 h492 ?_
                             refine QL.val (.bool (!decide ((ix t20.1 k341) = 1))) (some 212) (gives_pickF h497) ?_
                             refine QL.on 17 194 h487 ?_
                             refine QL.val (.bool (!decide ((ix t20.1 k341) = 1))) (some 213) (gives_pickT h492) ?_
                             refine QL.val (.bool (!decide ((ix t20.1 k341) = 1))) (some 214) (gives_pickF h487) ?_
                             refine QL.nil ?_
                             refine JA.nil ?_
                             refine JQ.then_normal ?_
                             exact JQ.meet (!decide ((ix t20.1 k341) = 1)) () H1 (fun _ h => Heap.to h)
                         · refine QL.off 23 200 true (some 201) h492 ?_
                           refine QL.off 23 200 true (some 202) h492 ?_
                           refine QL.off 23 200 true (some 203) h492 ?_
                           refine QL.off 23 200 true (some 204) h492 ?_
                           refine QL.off 23 200 true (some 205) h492 ?_
                           refine QL.off 23 200 true (some 206) h492 ?_
                           refine QL.off' 29 206 false (some 207) ?_
                           refine QL.off' 29 206 false (some 208) ?_
                           refine QL.off' 29 206 false (some 209) ?_
                           refine QL.off' 29 206 false (some 210) ?_
                           refine QL.off' 29 206 false (some 211) ?_
                           refine QL.off 23 200 true (some 212) h492 ?_
                           refine QL.on 17 194 h487 ?_
                           refine QL.val (.bool false) (some 213) (gives_pickF h492) ?_
                           refine QL.val (.bool false) (some 214) (gives_pickF h487) ?_
                           refine QL.nil ?_
                           refine JA.nil ?_
                           refine JQ.then_normal ?_
                           exact JQ.meet false () H1 (fun _ h => Heap.to h)
                     · refine QL.off 5 182 true (some 183) h478 ?_
                       refine QL.off 5 182 true (some 184) h478 ?_
                       refine QL.off 5 182 true (some 185) h478 ?_
                       refine QL.off 5 182 true (some 186) h478 ?_
                       refine QL.off 5 182 true (some 187) h478 ?_
                       refine QL.off 5 182 true (some 188) h478 ?_
                       refine QL.off 5 182 true (some 189) h478 ?_
                       refine QL.off 5 182 true (some 190) h478 ?_
                       refine QL.off 5 182 true (some 191) h478 ?_
                       refine QL.off 5 182 true (some 192) h478 ?_
                       refine QL.val (.bool false) (some 193) (gives_pickF h478) ?_
                       refine QL.mv (.bool false) ?_
                       refine QL.on 17 194 (rfl : (false) = false) ?_
                       refine QL.mv (.slice (some ⟨g476, o477, none⟩) l1.length c3) ?_
                       refine QL.on 17 194 (rfl : (false) = false) ?_
                       refine QL.mv (.int .i64 k341) ?_
                       refine QL.on 17 194 (rfl : (false) = false) ?_
                       refine QL.ixAddr' 0 1 c3 .i64 (elems_rd (some ⟨g476, o477, none⟩) c3 ((flInt .i64).kd) l1 true) Try.underlying22 tySize_3 h474 h475 ?_
                       refine QL.on 17 194 (rfl : (false) = false) ?_
                       refine QL.val (.int .i64 (ix l1 k341)) (some 198) (gives_loadEl (f := (flInt .i64)) 0 0 k341 (elems_rd (some ⟨g476, o477, none⟩) c3 ((flInt .i64).kd) l1 true) h474 h475 tySize_3 (.inr ⟨tyAgg_3, rfl, rfl⟩)) ?_
                       refine QL.on 17 194 (rfl : (false) = false) ?_
                       refine QL.pur (.bool (decide ((ix l1 k341) = 0))) (some 199) ?_
                       refine QL.on 17 194 (rfl : (false) = false) ?_
                       refine QL.mv (.bool (decide ((ix l1 k341) = 0))) ?_
                       rcases ite_cases H1 with ⟨h506, H1⟩ | ⟨h506, H1⟩
                       · refine QL.on 23 200 h506 ?_
                         refine QL.mv (.slice Aa159 t157.1.length c160) ?_
                         refine QL.on 23 200 h506 ?_
                         refine QL.mv (.int .i64 k341) ?_
                         refine QL.on 23 200 h506 ?_
                         obtain ⟨⟨h507, h508⟩, H1⟩ := ite_must H1
                         refine QL.ixAddr 2 1 c160 .i64 (elems_row Aa159 c160 3 ((flInt .i64).kd) t157.1 false) Try.underlying22 tySize_3 h507 h508 fun g509 o510 hA => ?_
                         subst hA
                         refine QL.on 23 200 h506 ?_
                         refine QL.val (.int .i64 (ix t157.1 k341)) (some 204) (gives_loadEl (f := (flInt .i64)) 2 0 k341 (elems_row (some ⟨g509, o510, none⟩) c160 3 ((flInt .i64).kd) t157.1 false) h507 h508 tySize_3 (.inr ⟨tyAgg_3, rfl, rfl⟩)) ?_
                         refine QL.on 23 200 h506 ?_
                         refine QL.pur (.bool (!decide ((ix t157.1 k341) = 1))) (some 205) ?_
                         refine QL.on 23 200 h506 ?_
                         refine QL.mv (.bool (!decide ((ix t157.1 k341) = 1))) ?_
                         rcases ite_cases H1 with ⟨h511, H1⟩ | ⟨h511, H1⟩
                         · refine QL.off 29 206 false (some 207) h511 ?_
                           refine QL.off 29 206 false (some 208) h511 ?_
                           refine QL.off 29 206 false (some 209) h511 ?_
                           refine QL.off 29 206 false (some 210) h511 ?_
                           refine QL.off 29 206 false (some 211) h511 ?_
                           refine QL.on 23 200 h506 ?_
                           refine QL.val (.bool true) (some 212) (gives_pickT h511) ?_
                           refine QL.on 17 194 (rfl : (false) = false) ?_
                           refine QL.val (.bool true) (some 213) (gives_pickT h506) ?_
                           refine QL.val (.bool true) (some 214) (gives_pickF rfl) ?_
                           refine QL.nil ?_
                           refine JA.nil ?_
                           refine JQ.then_normal ?_
                           exact JQ.meet true () H1 (fun _ h => Heap.to h)
                         · refine QL.on 29 206 h511 ?_
                           refine QL.mv (.slice Aa22 t20.1.length c23) ?_
                           refine QL.on 29 206 h511 ?_
                           refine QL.mv (.int .i64 k341) ?_
                           refine QL.on 29 206 h511 ?_
                           obtain ⟨⟨h512, h513⟩, H1⟩ := ite_must H1
                           refine QL.ixAddr 1 1 c23 .i64 (elems_row Aa22 c23 3 ((flInt .i64).kd) t20.1 false) Try.underlying22 tySize_3 h512 h513 fun g514 o515 hA => ?_
                           subst hA
                           refine QL.on 29 206 h511 ?_
                           refine QL.val (.int .i64 (ix t20.1 k341)) (some 210) (gives_loadEl (f := (flInt .i64)) 1 0 k341 (elems_row (some ⟨g514, o515, none⟩) c23 3 ((flInt .i64).kd) t20.1 false) h512 h513 tySize_3 (.inr ⟨tyAgg_3, rfl, rfl⟩)) ?_
                           refine QL.on 29 206 h511 ?_
                           refine QL.pur (.bool (!decide ((ix t20.1 k341) = 1))) (some 211) ?_
                           refine QL.on 23 200 h506 ?_
                           refine QL.val (.bool (!decide ((ix t20.1 k341) = 1))) (some 212) (gives_pickF h511) ?_
                           refine QL.on 17 194 (rfl : (false) = false) ?_
                           refine QL.val (.bool (!decide ((ix t20.1 k341) = 1))) (some 213) (gives_pickT h506) ?_
                           refine QL.val (.bool (!decide ((ix t20.1 k341) = 1))) (some 214) (gives_pickF rfl) ?_
                           refine QL.nil ?_
                           refine JA.nil ?_
                           refine JQ.then_normal ?_
                           exact JQ.meet (!decide ((ix t20.1 k341) = 1)) () H1 (fun _ h => Heap.to h)
                       · refine QL.off 23 200 true (some 201) h506 ?_
                         refine QL.off 23 200 true (some 202) h506 ?_
                         refine QL.off 23 200 true (some 203) h506 ?_
                         refine QL.off 23 200 true (some 204) h506 ?_
                         refine QL.off 23 200 true (some 205) h506 ?_
                         refine QL.off 23 200 true (some 206) h506 ?_
                         refine QL.off' 29 206 false (some 207) ?_
                         refine QL.off' 29 206 false (some 208) ?_
                         refine QL.off' 29 206 false (some 209) ?_
                         refine QL.off' 29 206 false (some 210) ?_
                         refine QL.off' 29 206 false (some 211) ?_
                         refine QL.off 23 200 true (some 212) h506 ?_
                         refine QL.on 17 194 (rfl : (false) = false) ?_
                         refine QL.val (.bool false) (some 213) (gives_pickF h506) ?_
                         refine QL.val (.bool false) (some 214) (gives_pickF rfl) ?_
                         refine QL.nil ?_
                         refine JA.nil ?_
                         refine JQ.then_normal ?_
                         exact JQ.meet false () H1 (fun _ h => Heap.to h)
                   · clear H1
                     rintro x472 ⟨⟩ H1
                     replace H1 : law13_SampleOrder.k11 k341 x472 = some st1 := H1
                     unfold law13_SampleOrder.k11 at H1
                     refine JQ.sub [(0, .slice Aa2 l1.length c3), (7, .bool t7), (8, .slice Aa22 t20.1.length c23), (20, .slice Aa159 t157.1.length c160), (22, .int .i64 k341), (214, .bool x472)] ?_
                     refine JQ.turn (Δ' := [At.rd Aa2 c3 ((flInt .i64).kd) l1 true, At.row Aa22 c23 3 ((flInt .i64).kd) t20.1 false, At.row Aa159 c160 3 ((flInt .i64).kd) t157.1 false]) (fun _ h => h.to) ?_
                     rcases ite_cases H1 with ⟨h473, H1⟩ | ⟨h473, H1⟩
                     · refine J.cond_true h473 ?_
                       refine J.seq ?_
                       refine J.region ?_
                       refine JL.as (.bool false) ?_
                       refine JL.end_ ?_
                       refine JQ.then_normal ?_
                       refine JQ.sub [(6, .bool false)] ?_
                       refine JQ.mask [] [false, false, false] ?_
                       refine J.ret ?_
                       refine JQ.blk_ret ?_
                       refine JQ.then_ret ?_
                       refine JQ.then_ret ?_
                       refine JQ.blk_ret ?_
                       refine JQ.met_ret ?_
                       refine JQ.then_ret ?_
                       rw [hr1 _ (Option.some.inj H1).symm, fin_ret] at H0
                       obtain rfl := Option.some.inj H0
                       exact JQ.done' (rs := [.tmp 6]) (vs := [.bool false]) [] (.inr rfl) ⟨by kernel_rfl, trivial⟩ (fun _ h => Heap.to h) ⟨rfl, rfl⟩
                     · refine J.cond_false h473 ?_
                       refine J.skip ?_
                       refine JQ.blk_normal ?_
                       refine JQ.then_normal ?_
                       refine JQ.sub [(0, .slice Aa2 l1.length c3), (7, .bool t7), (8, .slice Aa22 t20.1.length c23), (20, .slice Aa159 t157.1.length c160), (22, .int .i64 k341)] ?_
                       refine J.region ?_
                       refine JL.mv (.int .i64 k341) ?_
                       refine JL.pur (.int .i64 (w64 (k341 + 1))) (some 176) ?_
                       refine JL.as (.int .i64 (w64 (k341 + 1))) ?_
                       refine JL.end_ ?_
                       refine JQ.then_normal ?_
                       exact JQ.again (w64 (k341 + 1)) () (Option.some.inj H1).symm (fun _ h => Heap.to h)
                 · refine J.cond_false h429 ?_
                   refine J.exit ?_
                   refine JQ.then_exit ?_
                   refine JQ.then_exit ?_
                   refine JQ.blk_exit ?_
                   rw [hb1 _ (Option.some.inj H1).symm, fin_brk] at H0
                   exact JQ.met () () H0 (fun _ h => Heap.to (Heap.pick [] (by decide) h))
               · clear hit H0
                 rintro ⟨⟩ ⟨⟩ H0
                 replace H0 : law13_SampleOrder.k10 t7 = some r := H0
                 unfold law13_SampleOrder.k10 at H0
                 refine JQ.sub [(7, .bool t7)] ?_
                 refine JQ.turn (Δ' := []) (fun _ h => h.to) ?_
                 refine JQ.then_normal ?_
                 refine J.seq ?_
                 refine J.region ?_
                 refine JL.mv (.bool t7) ?_
                 refine JL.as (.bool t7) ?_
                 refine JL.end_ ?_
                 refine JQ.then_normal ?_
                 refine JQ.sub [(6, .bool t7)] ?_
                 refine J.ret ?_
                 obtain rfl := Option.some.inj H0
                 exact JQ.done' (rs := [.tmp 6]) (vs := [.bool t7]) [] (.inr rfl) ⟨by kernel_rfl, trivial⟩ (fun _ h => Heap.to h) ⟨rfl, rfl⟩


end Go.Proofs.Ytlemaejpllhjnaa.M
