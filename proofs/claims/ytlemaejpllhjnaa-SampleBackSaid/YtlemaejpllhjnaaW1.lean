import Derived.Test.YtlemaejpllhjnaaW0
set_option linter.unusedVariables false
set_option linter.unusedSimpArgs false
set_option maxRecDepth 100000
set_option maxHeartbeats 8000000
namespace Go.Proofs.Ytlemaejpllhjnaa.M
open Go.GW Go.Proofs

theorem law13_SampleBack.ok (s1 : (List Int)) (Aa2 : Option Addr) (c3 : Nat) (b5 : (List Int)) (Aa6 : Option Addr) (c7 : Nat) (n9 : Int) (r : Bool) (H0 : law13_SampleBack.f s1 b5 n9 = some r) :
    Does Try.prog 7 [.slice Aa2 s1.length c3, .slice Aa6 b5.length c7, .int .i64 n9].toArray [At.rd Aa2 c3 ((flInt .i64).kd) s1 true, At.rd Aa6 c7 ((flInt .u8).kd) b5 true] [] false (fun v Δ => v = .bool r ∧ Δ = []) := by
 refine Does.body (vs := [.slice Aa2 s1.length c3, .slice Aa6 b5.length c7, .int .i64 n9]) Try.func7 rfl ⟨.inl rfl, .inl rfl, trivial⟩ trivial fun w S => ?_
 unfold law13_SampleBack.f at H0
 refine J.seq ?_
 refine J.region ?_
 refine JL.as (.bool false) ?_
 refine JL.end_ ?_
 refine JQ.then_normal ?_
 refine JQ.sub [(0, .slice Aa2 s1.length c3), (1, .slice Aa6 b5.length c7), (2, .int .i64 n9)] ?_
 refine J.seq ?_
 refine J.region ?_
 obtain ⟨t10, hc11, H0⟩ := bind_some H0
 refine JL.call [] [] [] (law13_alive.ok _ hc11) trivial ?_
 rintro _ _ ⟨rfl, rfl⟩
 refine JL.as (.bool t10) ?_
 refine JL.end_ ?_
 refine JQ.then_normal ?_
 refine JQ.sub [(0, .slice Aa2 s1.length c3), (1, .slice Aa6 b5.length c7), (2, .int .i64 n9), (7, .bool t10)] ?_
 refine J.seq ?_
 refine J.join (T := Bool) (G := Unit) (fun t => law13_SampleBack.k1 s1 b5 n9 t10 t = some r) (fun t g => [(0, .slice Aa2 s1.length c3), (1, .slice Aa6 b5.length c7), (2, .int .i64 n9), (7, .bool t10), (27, .bool t)]) (fun t g => [At.rd Aa2 c3 ((flInt .i64).kd) s1 true, At.rd Aa6 c7 ((flInt .u8).kd) b5 true]) ?_ ?_
 · refine J.region ?_
   refine JL.mv (.slice Aa2 s1.length c3) ?_
   obtain ⟨t81, hc82, H0⟩ := bind_some H0
   refine JL.call [] [] [] (ref13_Long.ok s1 Aa2 c3 _ hc82) ⟨pre_any 0 (view_rd Aa2 c3 ((flInt .i64).kd) s1 true true), trivial⟩ ?_
   rintro _ _ ⟨rfl, rfl⟩
   refine JL.mv (.bool t81) ?_
   rcases ite_cases H0 with ⟨h83, H0⟩ | ⟨h83, H0⟩
   · refine JL.off 2 19 false (some 20) h83 ?_
     refine JL.off 2 19 false (some 21) h83 ?_
     refine JL.off 2 19 false (some 22) h83 ?_
     refine JL.val (.bool true) (some 23) (gives_pickT h83) ?_
     refine JL.mv (.bool true) ?_
     refine JL.off 7 24 false (some 25) rfl ?_
     refine JL.off 7 24 false (some 26) rfl ?_
     refine JL.val (.bool true) (some 27) (gives_pickT rfl) ?_
     refine JL.end_ ?_
     refine JQ.then_normal ?_
     exact JQ.meet true () H0 (fun _ h => Heap.to h)
   · refine JL.on 2 19 h83 ?_
     refine JL.mv (.slice Aa6 b5.length c7) ?_
     refine JL.on 2 19 h83 ?_
     refine JL.pur (.int .i64 (b5.length : Int)) (some 21) ?_
     refine JL.on 2 19 h83 ?_
     refine JL.pur (.bool (decide (300 < (b5.length : Int)))) (some 22) ?_
     refine JL.val (.bool (decide (300 < (b5.length : Int)))) (some 23) (gives_pickF h83) ?_
     refine JL.mv (.bool (decide (300 < (b5.length : Int)))) ?_
     rcases ite_cases H0 with ⟨h84, H0⟩ | ⟨h84, H0⟩
     · refine JL.off 7 24 false (some 25) h84 ?_
       refine JL.off 7 24 false (some 26) h84 ?_
       refine JL.val (.bool true) (some 27) (gives_pickT h84) ?_
       refine JL.end_ ?_
       refine JQ.then_normal ?_
       exact JQ.meet true () H0 (fun _ h => Heap.to h)
     · refine JL.on 7 24 h84 ?_
       refine JL.mv (.bool t10) ?_
       refine JL.on 7 24 h84 ?_
       refine JL.pur (.bool (!t10)) (some 26) ?_
       refine JL.val (.bool (!t10)) (some 27) (gives_pickF h84) ?_
       refine JL.end_ ?_
       refine JQ.then_normal ?_
       exact JQ.meet (!t10) () H0 (fun _ h => Heap.to h)
 · clear H0
   rintro x16 ⟨⟩ H0
   replace H0 : law13_SampleBack.k1 s1 b5 n9 t10 x16 = some r := H0
   unfold law13_SampleBack.k1 at H0
   refine JQ.sub [(0, .slice Aa2 s1.length c3), (1, .slice Aa6 b5.length c7), (2, .int .i64 n9), (7, .bool t10), (27, .bool x16)] ?_
   refine JQ.turn (Δ' := [At.rd Aa2 c3 ((flInt .i64).kd) s1 true, At.rd Aa6 c7 ((flInt .u8).kd) b5 true]) (fun _ h => h.to) ?_
   rcases ite_cases H0 with ⟨h17, H0⟩ | ⟨h17, H0⟩
   · refine J.cond_true h17 ?_
     refine J.seq ?_
     refine J.region ?_
     refine JL.mv (.bool t10) ?_
     refine JL.as (.bool t10) ?_
     refine JL.end_ ?_
     refine JQ.then_normal ?_
     refine JQ.sub [(6, .bool t10)] ?_
     refine JQ.mask [] [false, false] ?_
     refine J.ret ?_
     refine JQ.then_ret ?_
     obtain rfl := Option.some.inj H0
     exact JQ.done' (rs := [.tmp 6]) (vs := [.bool t10]) [] (.inr rfl) ⟨by kernel_rfl, trivial⟩ (fun _ h => Heap.to h) ⟨rfl, rfl⟩
   · refine J.cond_false h17 ?_
     refine J.skip ?_
     refine JQ.then_normal ?_
     refine JQ.sub [(0, .slice Aa2 s1.length c3), (1, .slice Aa6 b5.length c7), (2, .int .i64 n9), (7, .bool t10)] ?_
     refine J.join (T := Unit) (G := Unit) (fun t => law13_SampleBack.k3 b5 n9 t10 = some r) (fun t g => [(1, .slice Aa6 b5.length c7), (2, .int .i64 n9), (7, .bool t10)]) (fun t g => [At.rd Aa6 c7 ((flInt .u8).kd) b5 true]) ?_ ?_
     · refine J.seq ?_
       refine J.region ?_
       refine JL.mv (.slice Aa2 s1.length c3) ?_
       obtain ⟨t58, hc59, H0⟩ := bind_some H0
       refine JL.call [] [] [] (ref13_Check.ok s1 Aa2 c3 _ hc59) ⟨pre_any 0 (view_rd Aa2 c3 ((flInt .i64).kd) s1 true true), trivial⟩ ?_
       rintro _ _ ⟨rfl, rfl⟩
       refine JL.pur (.bool (decide (t58 = 0))) (some 31) ?_
       refine JL.end_ ?_
       refine JQ.then_normal ?_
       refine JQ.sub [(0, .slice Aa2 s1.length c3), (1, .slice Aa6 b5.length c7), (2, .int .i64 n9), (7, .bool t10), (31, .bool (decide (t58 = 0)))] ?_
       rcases ite_cases H0 with ⟨h60, H0⟩ | ⟨h60, H0⟩
       · refine J.cond_true h60 ?_
         refine J.seq ?_
         refine J.region ?_
         refine JL.mv (.slice Aa2 s1.length c3) ?_
         obtain ⟨t61, hc62, H0⟩ := bind_some H0
         refine JL.call [] [] [] (sample_Pack.ok s1 Aa2 c3 _ hc62) ⟨pre_any 0 (view_rd Aa2 c3 ((flInt .i64).kd) s1 true true), trivial⟩ ?_
         rintro _ _ ⟨Aa63, c64, rfl, rfl⟩
         refine JL.mv (.tuple #[.slice Aa63 t61.1.length c64, .int .i64 t61.2]) ?_
         refine JL.pur (.slice Aa63 t61.1.length c64) (some 35) ?_
         refine JL.pur (.int .i64 t61.2) (some 36) ?_
         refine JL.as (.slice Aa63 t61.1.length c64) ?_
         refine JL.as (.int .i64 t61.2) ?_
         refine JL.end_ ?_
         refine JQ.then_normal ?_
         refine JQ.sub [(0, .slice Aa2 s1.length c3), (1, .slice Aa6 b5.length c7), (2, .int .i64 n9), (7, .bool t10), (8, .slice Aa63 t61.1.length c64), (9, .int .i64 t61.2)] ?_
         refine J.seq ?_
         refine J.region ?_
         refine JL.mv (.slice Aa63 t61.1.length c64) ?_
         refine JL.mv (.slice Aa2 s1.length c3) ?_
         refine JL.pur (.int .i64 (s1.length : Int)) (some 40) ?_
         refine JQ.turn (fun _ h => freeze_row 2 Aa63 c64 5 ((flInt .u8).kd) t61.1 false h) ?_
         obtain ⟨t66, hc67, H0⟩ := bind_some H0
         refine JL.call [] [] [] (sample_Unpack.ok t61.1 Aa63 c64 (s1.length : Int) _ hc67) ⟨pre_any 2 (view_rd Aa63 c64 ((flInt .u8).kd) t61.1 false true), trivial⟩ ?_
         rintro _ _ ⟨Aa68, c69, rfl, rfl⟩
         refine JL.mv (.tuple #[.slice Aa68 t66.1.length c69, .int .i64 t66.2]) ?_
         refine JL.pur (.slice Aa68 t66.1.length c69) (some 42) ?_
         refine JL.pur (.int .i64 t66.2) (some 43) ?_
         refine JL.as (.slice Aa68 t66.1.length c69) ?_
         refine JL.as (.int .i64 t66.2) ?_
         refine JL.end_ ?_
         refine JQ.then_normal ?_
         refine JQ.sub [(0, .slice Aa2 s1.length c3), (1, .slice Aa6 b5.length c7), (2, .int .i64 n9), (7, .bool t10), (9, .int .i64 t61.2), (10, .slice Aa68 t66.1.length c69), (11, .int .i64 t66.2)] ?_
         refine JQ.mask [At.rd Aa2 c3 ((flInt .i64).kd) s1 true, At.rd Aa6 c7 ((flInt .u8).kd) b5 true, At.rd Aa68 c69 ((flInt .i64).kd) t66.1 true] [true, true, false, true] ?_
         refine J.join (T := Bool) (G := Unit) (fun t => law13_SampleBack.k4 b5 n9 t10 t = some r) (fun t g => [(1, .slice Aa6 b5.length c7), (2, .int .i64 n9), (7, .bool t10), (55, .bool t)]) (fun t g => [At.rd Aa6 c7 ((flInt .u8).kd) b5 true]) ?_ ?_
         · refine J.region ?_
           refine JL.mv (.int .i64 t61.2) ?_
           refine JL.pur (.bool (!decide (t61.2 = 0))) (some 45) ?_
           refine JL.mv (.bool (!decide (t61.2 = 0))) ?_
           rcases ite_cases H0 with ⟨h77, H0⟩ | ⟨h77, H0⟩
           · refine JL.off 2 46 false (some 47) h77 ?_
             refine JL.off 2 46 false (some 48) h77 ?_
             refine JL.val (.bool true) (some 49) (gives_pickT h77) ?_
             refine JL.mv (.bool true) ?_
             refine JL.off 6 50 false (some 51) rfl ?_
             refine JL.off 6 50 false (some 52) rfl ?_
             refine JL.off 6 50 false (some 53) rfl ?_
             refine JL.off 6 50 false (some 54) rfl ?_
             refine JL.val (.bool true) (some 55) (gives_pickT rfl) ?_
             refine JL.end_ ?_
             refine JQ.then_normal ?_
             exact JQ.meet true () H0 (fun _ h => Heap.to (Heap.pick [1] (by decide) h))
           · refine JL.on 2 46 h77 ?_
             refine JL.mv (.int .i64 t66.2) ?_
             refine JL.on 2 46 h77 ?_
             refine JL.pur (.bool (!decide (t66.2 = 0))) (some 48) ?_
             refine JL.val (.bool (!decide (t66.2 = 0))) (some 49) (gives_pickF h77) ?_
             refine JL.mv (.bool (!decide (t66.2 = 0))) ?_
             rcases ite_cases H0 with ⟨h78, H0⟩ | ⟨h78, H0⟩
             · refine JL.off 6 50 false (some 51) h78 ?_
               refine JL.off 6 50 false (some 52) h78 ?_
               refine JL.off 6 50 false (some 53) h78 ?_
               refine JL.off 6 50 false (some 54) h78 ?_
               refine JL.val (.bool true) (some 55) (gives_pickT h78) ?_
               refine JL.end_ ?_
               refine JQ.then_normal ?_
               exact JQ.meet true () H0 (fun _ h => Heap.to (Heap.pick [1] (by decide) h))
             · refine JL.on 6 50 h78 ?_
               refine JL.mv (.slice Aa2 s1.length c3) ?_
               refine JL.on 6 50 h78 ?_
               refine JL.mv (.slice Aa68 t66.1.length c69) ?_
               refine JL.on 6 50 h78 ?_
               obtain ⟨t79, hc80, H0⟩ := bind_some H0
               refine JL.call [] [] [] (ref13_Same.ok s1 Aa2 c3 t66.1 Aa68 c69 _ hc80) ⟨pre_any 0 (view_rd Aa2 c3 ((flInt .i64).kd) s1 true true), ⟨pre_any 2 (view_rd Aa68 c69 ((flInt .i64).kd) t66.1 true true), trivial⟩⟩ ?_
               rintro _ _ ⟨rfl, rfl⟩
               refine JL.on 6 50 h78 ?_
               refine JL.pur (.bool (!t79)) (some 54) ?_
               refine JL.val (.bool (!t79)) (some 55) (gives_pickF h78) ?_
               refine JL.end_ ?_
               refine JQ.then_normal ?_
               exact JQ.meet (!t79) () H0 (fun _ h => Heap.to (Heap.pick [1] (by decide) h))
         · clear H0
           rintro x75 ⟨⟩ H0
           replace H0 : law13_SampleBack.k4 b5 n9 t10 x75 = some r := H0
           unfold law13_SampleBack.k4 at H0
           refine JQ.sub [(1, .slice Aa6 b5.length c7), (2, .int .i64 n9), (7, .bool t10), (55, .bool x75)] ?_
           refine JQ.turn (Δ' := [At.rd Aa6 c7 ((flInt .u8).kd) b5 true]) (fun _ h => h.to) ?_
           rcases ite_cases H0 with ⟨h76, H0⟩ | ⟨h76, H0⟩
           · refine J.cond_true h76 ?_
             refine J.seq ?_
             refine J.region ?_
             refine JL.as (.bool false) ?_
             refine JL.end_ ?_
             refine JQ.then_normal ?_
             refine JQ.sub [(6, .bool false)] ?_
             refine JQ.mask [] [false] ?_
             refine J.ret ?_
             refine JQ.then_ret ?_
             obtain rfl := Option.some.inj H0
             exact JQ.done' (rs := [.tmp 6]) (vs := [.bool false]) [] (.inr rfl) ⟨by kernel_rfl, trivial⟩ (fun _ h => Heap.to h) ⟨rfl, rfl⟩
           · refine J.cond_false h76 ?_
             refine J.skip ?_
             refine JQ.then_normal ?_
             exact JQ.meet () () H0 (fun _ h => Heap.to h)
       · refine J.cond_false h60 ?_
         refine J.skip ?_
         refine JQ.then_normal ?_
         exact JQ.meet () () H0 (fun _ h => Heap.to (Heap.pick [1] (by decide) h))
     · clear H0
       rintro ⟨⟩ ⟨⟩ H0
       replace H0 : law13_SampleBack.k3 b5 n9 t10 = some r := H0
       unfold law13_SampleBack.k3 at H0
       refine JQ.sub [(1, .slice Aa6 b5.length c7), (2, .int .i64 n9), (7, .bool t10)] ?_
       refine JQ.turn (Δ' := [At.rd Aa6 c7 ((flInt .u8).kd) b5 true]) (fun _ h => h.to) ?_
       refine J.seq ?_
       refine J.region ?_
       refine JL.mv (.slice Aa6 b5.length c7) ?_
       refine JL.mv (.int .i64 n9) ?_
       obtain ⟨t41, hc42, H0⟩ := bind_some H0
       refine JL.call [] [] [] (sample_Unpack.ok b5 Aa6 c7 n9 _ hc42) ⟨pre_any 0 (view_rd Aa6 c7 ((flInt .u8).kd) b5 true true), trivial⟩ ?_
       rintro _ _ ⟨Aa43, c44, rfl, rfl⟩
       refine JL.mv (.tuple #[.slice Aa43 t41.1.length c44, .int .i64 t41.2]) ?_
       refine JL.pur (.slice Aa43 t41.1.length c44) (some 60) ?_
       refine JL.pur (.int .i64 t41.2) (some 61) ?_
       refine JL.as (.slice Aa43 t41.1.length c44) ?_
       refine JL.as (.int .i64 t41.2) ?_
       refine JL.end_ ?_
       refine JQ.then_normal ?_
       refine JQ.sub [(1, .slice Aa6 b5.length c7), (2, .int .i64 n9), (7, .bool t10), (12, .slice Aa43 t41.1.length c44), (13, .int .i64 t41.2)] ?_
       refine J.seq ?_
       refine J.seq ?_
       refine J.region ?_
       refine JL.mv (.int .i64 t41.2) ?_
       refine JL.pur (.bool (!decide (t41.2 = 0))) (some 63) ?_
       refine JL.end_ ?_
       refine JQ.then_normal ?_
       refine JQ.sub [(1, .slice Aa6 b5.length c7), (2, .int .i64 n9), (7, .bool t10), (12, .slice Aa43 t41.1.length c44), (63, .bool (!decide (t41.2 = 0)))] ?_
       rcases ite_cases H0 with ⟨h46, H0⟩ | ⟨h46, H0⟩
       · refine J.cond_true h46 ?_
         refine J.seq ?_
         refine J.region ?_
         refine JL.mv (.bool t10) ?_
         refine JL.mv (.bool t10) ?_
         rcases ite_cases H0 with ⟨h47, H0⟩ | ⟨h47, H0⟩
         · refine JL.on 1 65 h47 ?_
           refine JL.mv (.slice Aa43 t41.1.length c44) ?_
           refine JL.on 1 65 h47 ?_
           refine JL.pur (.int .i64 (t41.1.length : Int)) (some 67) ?_
           refine JL.on 1 65 h47 ?_
           refine JL.pur (.bool (decide ((t41.1.length : Int) = 0))) (some 68) ?_
           refine JL.val (.bool (decide ((t41.1.length : Int) = 0))) (some 69) (gives_pickT h47) ?_
           refine JL.as (.bool (decide ((t41.1.length : Int) = 0))) ?_
           refine JL.end_ ?_
           refine JQ.then_normal ?_
           refine JQ.sub [(6, .bool (decide ((t41.1.length : Int) = 0)))] ?_
           refine JQ.mask [] [false, false] ?_
           refine J.ret ?_
           refine JQ.then_ret ?_
           obtain rfl := Option.some.inj H0
           exact JQ.done' (rs := [.tmp 6]) (vs := [.bool (decide ((t41.1.length : Int) = 0))]) [] (.inr rfl) ⟨by kernel_rfl, trivial⟩ (fun _ h => Heap.to h) ⟨rfl, rfl⟩
         · refine JL.off 1 65 true (some 66) h47 ?_
           refine JL.off 1 65 true (some 67) h47 ?_
           refine JL.off 1 65 true (some 68) h47 ?_
           refine JL.val (.bool false) (some 69) (gives_pickF h47) ?_
           refine JL.as (.bool false) ?_
           refine JL.end_ ?_
           refine JQ.then_normal ?_
           refine JQ.sub [(6, .bool false)] ?_
           refine JQ.mask [] [false, false] ?_
           refine J.ret ?_
           refine JQ.then_ret ?_
           obtain rfl := Option.some.inj H0
           exact JQ.done' (rs := [.tmp 6]) (vs := [.bool false]) [] (.inr rfl) ⟨by kernel_rfl, trivial⟩ (fun _ h => Heap.to h) ⟨rfl, rfl⟩
       · refine J.cond_false h46 ?_
         refine J.skip ?_
         refine JQ.then_normal ?_
         refine JQ.sub [(1, .slice Aa6 b5.length c7), (2, .int .i64 n9), (7, .bool t10), (12, .slice Aa43 t41.1.length c44)] ?_
         refine J.seq ?_
         refine J.region ?_
         refine JL.mv (.slice Aa43 t41.1.length c44) ?_
         obtain ⟨t48, hc49, H0⟩ := bind_some H0
         refine JL.call [] [] [] (sample_Pack.ok t41.1 Aa43 c44 _ hc49) ⟨pre_any 1 (view_rd Aa43 c44 ((flInt .i64).kd) t41.1 true true), trivial⟩ ?_
         rintro _ _ ⟨Aa50, c51, rfl, rfl⟩
         refine JL.mv (.tuple #[.slice Aa50 t48.1.length c51, .int .i64 t48.2]) ?_
         refine JL.pur (.slice Aa50 t48.1.length c51) (some 73) ?_
         refine JL.pur (.int .i64 t48.2) (some 74) ?_
         refine JL.as (.slice Aa50 t48.1.length c51) ?_
         refine JL.as (.int .i64 t48.2) ?_
         refine JL.end_ ?_
         refine JQ.then_normal ?_
         refine JQ.sub [(1, .slice Aa6 b5.length c7), (2, .int .i64 n9), (7, .bool t10), (12, .slice Aa43 t41.1.length c44), (14, .slice Aa50 t48.1.length c51), (15, .int .i64 t48.2)] ?_
         refine J.seq ?_
         refine J.region ?_
         refine JL.mv (.bool t10) ?_
         refine JL.mv (.bool t10) ?_
         rcases ite_cases H0 with ⟨h53, H0⟩ | ⟨h53, H0⟩
         · refine JL.on 1 76 h53 ?_
           refine JL.mv (.slice Aa43 t41.1.length c44) ?_
           refine JL.on 1 76 h53 ?_
           refine JL.pur (.int .i64 (t41.1.length : Int)) (some 78) ?_
           refine JL.on 1 76 h53 ?_
           refine JL.mv (.int .i64 n9) ?_
           refine JL.on 1 76 h53 ?_
           refine JL.pur (.bool (decide ((t41.1.length : Int) = n9))) (some 80) ?_
           refine JL.val (.bool (decide ((t41.1.length : Int) = n9))) (some 81) (gives_pickT h53) ?_
           refine JL.mv (.bool (decide ((t41.1.length : Int) = n9))) ?_
           rcases ite_cases H0 with ⟨h54, H0⟩ | ⟨h54, H0⟩
           · refine JL.on 7 82 h54 ?_
             refine JL.mv (.int .i64 t48.2) ?_
             refine JL.on 7 82 h54 ?_
             refine JL.pur (.bool (decide (t48.2 = 0))) (some 84) ?_
             refine JL.val (.bool (decide (t48.2 = 0))) (some 85) (gives_pickT h54) ?_
             refine JL.mv (.bool (decide (t48.2 = 0))) ?_
             rcases ite_cases H0 with ⟨h55, H0⟩ | ⟨h55, H0⟩
             · refine JL.on 11 86 h55 ?_
               refine JL.mv (.slice Aa50 t48.1.length c51) ?_
               refine JL.on 11 86 h55 ?_
               refine JL.mv (.slice Aa6 b5.length c7) ?_
               refine JL.on 11 86 h55 ?_
               obtain ⟨t56, hc57, H0⟩ := bind_some H0
               refine JL.call [] [] [] (ref13_SameBytes.ok t48.1 Aa50 c51 b5 Aa6 c7 _ hc57) ⟨pre_view 2 (view_row Aa50 c51 5 ((flInt .u8).kd) t48.1 false true), ⟨pre_any 0 (view_rd Aa6 c7 ((flInt .u8).kd) b5 true true), trivial⟩⟩ ?_
               rintro _ _ ⟨rfl, rfl⟩
               refine JL.val (.bool t56) (some 90) (gives_pickT h55) ?_
               refine JL.as (.bool t56) ?_
               refine JL.end_ ?_
               refine JQ.then_normal ?_
               refine JQ.sub [(6, .bool t56)] ?_
               refine JQ.mask [] [false, false, false] ?_
               refine J.ret ?_
               obtain rfl := Option.some.inj H0
               exact JQ.done' (rs := [.tmp 6]) (vs := [.bool t56]) [] (.inr rfl) ⟨by kernel_rfl, trivial⟩ (fun _ h => Heap.to h) ⟨rfl, rfl⟩
             · refine JL.off 11 86 true (some 87) h55 ?_
               refine JL.off 11 86 true (some 88) h55 ?_
               refine JL.off 11 86 true (some 89) h55 ?_
               refine JL.val (.bool false) (some 90) (gives_pickF h55) ?_
               refine JL.as (.bool false) ?_
               refine JL.end_ ?_
               refine JQ.then_normal ?_
               refine JQ.sub [(6, .bool false)] ?_
               refine JQ.mask [] [false, false, false] ?_
               refine J.ret ?_
               obtain rfl := Option.some.inj H0
               exact JQ.done' (rs := [.tmp 6]) (vs := [.bool false]) [] (.inr rfl) ⟨by kernel_rfl, trivial⟩ (fun _ h => Heap.to h) ⟨rfl, rfl⟩
           · refine JL.off 7 82 true (some 83) h54 ?_
             refine JL.off 7 82 true (some 84) h54 ?_
             refine JL.val (.bool false) (some 85) (gives_pickF h54) ?_
             refine JL.mv (.bool false) ?_
             refine JL.off 11 86 true (some 87) rfl ?_
             refine JL.off 11 86 true (some 88) rfl ?_
             refine JL.off 11 86 true (some 89) rfl ?_
             refine JL.val (.bool false) (some 90) (gives_pickF rfl) ?_
             refine JL.as (.bool false) ?_
             refine JL.end_ ?_
             refine JQ.then_normal ?_
             refine JQ.sub [(6, .bool false)] ?_
             refine JQ.mask [] [false, false, false] ?_
             refine J.ret ?_
             obtain rfl := Option.some.inj H0
             exact JQ.done' (rs := [.tmp 6]) (vs := [.bool false]) [] (.inr rfl) ⟨by kernel_rfl, trivial⟩ (fun _ h => Heap.to h) ⟨rfl, rfl⟩
         · refine JL.off 1 76 true (some 77) h53 ?_
           refine JL.off 1 76 true (some 78) h53 ?_
           refine JL.off 1 76 true (some 79) h53 ?_
           refine JL.off 1 76 true (some 80) h53 ?_
           refine JL.val (.bool false) (some 81) (gives_pickF h53) ?_
           refine JL.mv (.bool false) ?_
           refine JL.off 7 82 true (some 83) rfl ?_
           refine JL.off 7 82 true (some 84) rfl ?_
           refine JL.val (.bool false) (some 85) (gives_pickF rfl) ?_
           refine JL.mv (.bool false) ?_
           refine JL.off 11 86 true (some 87) rfl ?_
           refine JL.off 11 86 true (some 88) rfl ?_
           refine JL.off 11 86 true (some 89) rfl ?_
           refine JL.val (.bool false) (some 90) (gives_pickF rfl) ?_
           refine JL.as (.bool false) ?_
           refine JL.end_ ?_
           refine JQ.then_normal ?_
           refine JQ.sub [(6, .bool false)] ?_
           refine JQ.mask [] [false, false, false] ?_
           refine J.ret ?_
           obtain rfl := Option.some.inj H0
           exact JQ.done' (rs := [.tmp 6]) (vs := [.bool false]) [] (.inr rfl) ⟨by kernel_rfl, trivial⟩ (fun _ h => Heap.to h) ⟨rfl, rfl⟩


end Go.Proofs.Ytlemaejpllhjnaa.M
