import Derived.Test.YtlfmmenlkpoodaaW0
set_option linter.unusedVariables false
set_option linter.unusedSimpArgs false
set_option maxRecDepth 100000
set_option maxHeartbeats 8000000
namespace Go.Proofs.Ytlfmmenlkpoodaa.M
open Go.GW Go.Proofs

theorem jones_Loop.ok (l1 : (List Pol)) (Aa2 : Option Addr) (c3 : Nat) (a5 : Int) (b6 : Int) (c7 : Int) (d8 : Int) (r : ((A4 Cx) × Int)) (H0 : jones_Loop.f l1 a5 b6 c7 d8 = some r) :
    Does Try.prog 29 [.slice Aa2 l1.length c3, .int .i64 a5, .int .i64 b6, .int .i64 c7, .int .i64 d8].toArray [At.rd Aa2 c3 fl_Pol.kd l1 true] [] false (fun v Δ => v = .tuple #[mv_25 r.1, .int .i64 r.2] ∧ Δ = []) := by
 refine Does.body (vs := [.slice Aa2 l1.length c3, .int .i64 a5, .int .i64 b6, .int .i64 c7, .int .i64 d8]) Try.func29 rfl ⟨.inl rfl, trivial⟩ trivial fun w S => ?_
 unfold jones_Loop.f at H0
 refine J.seq ?_
 refine J.region ?_
 refine JL.alloc (cl_25 zv_25) fun b9 => ?_
 refine JL.as (.int .i64 0) ?_
 refine JL.nil ?_
 refine JQ.then_normal ?_
 refine JQ.sub [(0, .slice Aa2 l1.length c3), (1, .int .i64 a5), (2, .int .i64 b6), (3, .int .i64 c7), (4, .int .i64 d8), (10, .pointer (some ⟨b9, 0, none⟩))] ?_
 refine J.seq ?_
 refine J.seq ?_
 refine J.region ?_
 refine JL.mv (.slice Aa2 l1.length c3) ?_
 obtain ⟨t10, hc11, H0⟩ := bind_some H0
 refine JL.call [] [] [] (jones_seen.ok l1 Aa2 c3 8 _ hc11) ⟨pre_any 0 (view_rd Aa2 c3 fl_Pol.kd l1 true true), trivial⟩ ?_
 rintro _ _ ⟨rfl, rfl⟩
 refine JL.as (.int .i64 t10) ?_
 refine JL.nil ?_
 refine JQ.then_normal ?_
 refine JQ.sub [(0, .slice Aa2 l1.length c3), (1, .int .i64 a5), (2, .int .i64 b6), (3, .int .i64 c7), (4, .int .i64 d8), (10, .pointer (some ⟨b9, 0, none⟩)), (12, .int .i64 t10)] ?_
 refine J.seq ?_
 refine J.region ?_
 refine JL.mv (.int .i64 t10) ?_
 refine JL.pur (.bool (!decide (t10 = 0))) (some 31) ?_
 refine JL.nil ?_
 refine JQ.then_normal ?_
 refine JQ.sub [(0, .slice Aa2 l1.length c3), (1, .int .i64 a5), (2, .int .i64 b6), (3, .int .i64 c7), (4, .int .i64 d8), (10, .pointer (some ⟨b9, 0, none⟩)), (12, .int .i64 t10), (31, .bool (!decide (t10 = 0)))] ?_
 rcases ite_cases H0 with ⟨h12, H0⟩ | ⟨h12, H0⟩
 · refine J.cond_true h12 ?_
   refine J.seq ?_
   refine J.region ?_
   refine JL.pur (mv_25 zv_25) (some 32) ?_
   refine JL.mv (.int .i64 t10) ?_
   refine JL.store 1 b9 0 25 (cl_25 zv_25) (cl_25 zv_25) tySize_25 ?_
   refine JL.as (.int .i64 t10) ?_
   refine JL.nil ?_
   refine JQ.then_normal ?_
   refine JQ.sub [(10, .pointer (some ⟨b9, 0, none⟩)), (11, .int .i64 t10)] ?_
   refine JQ.mask [At.box b9 25 (cl_25 zv_25)] [false, true] ?_
   refine J.ret ?_
   refine JQ.then_ret ?_
   obtain rfl := Option.some.inj H0
   exact JQ.done' (rs := [.cell 10 25, .tmp 11]) (vs := [.agg #[.int .i64 0, .int .i64 0, .int .i64 0, .int .i64 0, .int .i64 0, .int .i64 0, .int .i64 0, .int .i64 0, .int .i64 0, .int .i64 0, .int .i64 0, .int .i64 0], .int .i64 t10]) [] (.inr rfl) ⟨⟨b9, 0, _, _, by kernel_rfl, by kernel_rfl, holds_box b9 25 (cl_25 zv_25), .inl ⟨tyAgg_25, tySize_25, rfl⟩⟩, by kernel_rfl, trivial⟩ (fun _ h => Heap.to (Heap.pick [] (by decide) h)) ⟨rfl, rfl⟩
 · refine J.cond_false h12 ?_
   refine J.skip ?_
   refine JQ.then_normal ?_
   refine JQ.sub [(0, .slice Aa2 l1.length c3), (1, .int .i64 a5), (2, .int .i64 b6), (3, .int .i64 c7), (4, .int .i64 d8), (10, .pointer (some ⟨b9, 0, none⟩))] ?_
   refine J.seq ?_
   refine J.region ?_
   refine JL.mkMap mv_77 mv_25 fun b13 => ?_
   refine JL.as (.map (some b13)) ?_
   refine JL.nil ?_
   refine JQ.then_normal ?_
   refine JQ.sub [(0, .slice Aa2 l1.length c3), (1, .int .i64 a5), (2, .int .i64 b6), (3, .int .i64 c7), (4, .int .i64 d8), (10, .pointer (some ⟨b9, 0, none⟩)), (13, .map (some b13))] ?_
   refine J.seq ?_
   refine J.seq ?_
   refine J.region ?_
   refine JL.mv (.slice Aa2 l1.length c3) ?_
   refine JL.pur (.int .i64 (l1.length : Int)) (some 36) ?_
   refine JL.mv (.int .i64 0) ?_
   refine JL.nil ?_
   refine JQ.then_normal ?_
   obtain ⟨o1, hit, H0⟩ := bind_some H0
   refine J.loop (σ := ((List ((A2 Int) × (A4 Cx))) × Int)) (τ := List ((A2 Int) × (A4 Cx))) (G := Unit) (G' := Unit) _ o1 (fun s g => [(0, .slice Aa2 l1.length c3), (1, .int .i64 a5), (2, .int .i64 b6), (3, .int .i64 c7), (4, .int .i64 d8), (10, .pointer (some ⟨b9, 0, none⟩)), (13, .map (some b13)), (35, .slice Aa2 l1.length c3), (36, .int .i64 (l1.length : Int)), (37, .int .i64 s.2)]) (fun s g => [At.rd Aa2 c3 fl_Pol.kd l1 true, At.box b9 25 (cl_25 zv_25), At.mp b13 mv_77 mv_25 s.1]) (fun t => jones_Loop.k2 l1 a5 b6 c7 d8 t = some r) (fun t g => [(0, .slice Aa2 l1.length c3), (1, .int .i64 a5), (2, .int .i64 b6), (3, .int .i64 c7), (4, .int .i64 d8), (10, .pointer (some ⟨b9, 0, none⟩)), (13, .map (some b13))]) (fun t g => [At.rd Aa2 c3 fl_Pol.kd l1 true, At.box b9 25 (cl_25 zv_25), At.mp b13 mv_77 mv_25 t]) (([] : List ((A2 Int) × (A4 Cx))), 0) () hit (fun _ h => Heap.to h) ?_ ?_
   · clear hit
     rintro ⟨m46, x47⟩ ⟨⟩ st1 H1 hb1 hr1
     replace H1 : jones_Loop.s1 l1 m46 x47 = some st1 := H1
     unfold jones_Loop.s1 at H1
     refine JQ.sub [(0, .slice Aa2 l1.length c3), (1, .int .i64 a5), (2, .int .i64 b6), (3, .int .i64 c7), (4, .int .i64 d8), (10, .pointer (some ⟨b9, 0, none⟩)), (13, .map (some b13)), (35, .slice Aa2 l1.length c3), (36, .int .i64 (l1.length : Int)), (37, .int .i64 x47)] ?_
     refine JQ.turn (Δ' := [At.rd Aa2 c3 fl_Pol.kd l1 true, At.box b9 25 (cl_25 zv_25), At.mp b13 mv_77 mv_25 m46]) (fun _ h => h.to) ?_
     refine J.seq ?_
     refine J.region ?_
     refine JL.pur (.bool (decide (x47 < (l1.length : Int)))) (some 38) ?_
     refine JL.nil ?_
     refine JQ.then_normal ?_
     refine J.seq ?_
     rcases ite_cases H1 with ⟨h118, H1⟩ | ⟨h118, H1⟩
     · refine J.cond_true h118 ?_
       refine J.skip ?_
       refine JQ.then_normal ?_
       refine JQ.sub [(0, .slice Aa2 l1.length c3), (1, .int .i64 a5), (2, .int .i64 b6), (3, .int .i64 c7), (4, .int .i64 d8), (10, .pointer (some ⟨b9, 0, none⟩)), (13, .map (some b13)), (35, .slice Aa2 l1.length c3), (36, .int .i64 (l1.length : Int)), (37, .int .i64 x47)] ?_
       refine J.seq ?_
       refine J.block ?_
       refine J.seq ?_
       refine J.region ?_
       obtain ⟨⟨h119, h120⟩, H1⟩ := ite_must H1
       refine JL.ixAddr 0 15 c3 .i64 (elems_rd Aa2 c3 fl_Pol.kd l1 true) Try.underlying39 tySize_57 h119 h120 fun g121 o122 hA => ?_
       subst hA
       refine JL.val (mv_57 (ix l1 x47)) (some 40) (gives_loadEl (f := fl_Pol) 0 0 x47 (elems_rd (some ⟨g121, o122, none⟩) c3 fl_Pol.kd l1 true) h119 h120 tySize_57 (.inl ⟨tyAgg_57, rfl⟩)) ?_
       refine JL.alloc (cl_57 zv_57) fun b123 => ?_
       refine JL.store 3 b123 0 57 (cl_57 zv_57) (cl_57 (ix l1 x47)) tySize_57 ?_
       refine JL.nil ?_
       refine JQ.then_normal ?_
       refine JQ.sub [(0, .slice (some ⟨g121, o122, none⟩) l1.length c3), (1, .int .i64 a5), (2, .int .i64 b6), (3, .int .i64 c7), (4, .int .i64 d8), (10, .pointer (some ⟨b9, 0, none⟩)), (13, .map (some b13)), (15, .pointer (some ⟨b123, 0, none⟩)), (35, .slice (some ⟨g121, o122, none⟩) l1.length c3), (36, .int .i64 (l1.length : Int)), (37, .int .i64 x47)] ?_
       obtain ⟨t124, hc125, H1⟩ := bind_some H1
       obtain ⟨m126, em126, H1⟩ := lt_some H1
       obtain ⟨m127, em127, H1⟩ := lt_some H1
       refine JY.startM [true, true, false, true] [] (ba 19 0) ?_
       refine JY.pur (hi := rfl) 0 (ba 19 1) (.map (some b13)) (some 41) want ?_
       refine JY.pur (hi := rfl) 1 (ba 19 3) (.pointer (some ⟨b123, 0, none⟩)) (some 42) want ?_
       refine JY.take (hi := rfl) 2 (ba 19 7) (.int .i64 ((ix l1 x47).I)) (some 43) [true, true, false, true] want (yields_load_box 2 0 (holds_box b123 57 (cl_57 (ix l1 x47))) tyAgg_3) ?_
       refine JY.pur (hi := rfl) 3 (ba 19 15) (.pointer (some ⟨b123, 1, none⟩)) (some 44) want ?_
       refine JY.take (hi := rfl) 4 (ba 19 31) (.int .i64 ((ix l1 x47).J)) (some 45) [true, true, false, true] want (yields_load_box 2 1 (holds_box b123 57 (cl_57 (ix l1 x47))) tyAgg_3) ?_
       refine JY.pur (hi := rfl) 5 (ba 19 63) (.agg #[.int .i64 ((ix l1 x47).I), .int .i64 ((ix l1 x47).J)]) (some 46) want ?_
       refine JY.pur (hi := rfl) 6 (ba 19 127) (.map (some b13)) (some 47) want ?_
       refine JY.pur (hi := rfl) 7 (ba 19 255) (.pointer (some ⟨b123, 1, none⟩)) (some 48) want ?_
       refine JY.take (hi := rfl) 8 (ba 19 511) (.int .i64 ((ix l1 x47).J)) (some 49) [true, true, false, true] want (yields_load_box 2 1 (holds_box b123 57 (cl_57 (ix l1 x47))) tyAgg_3) ?_
       refine JY.pur (hi := rfl) 9 (ba 19 1023) (.pointer (some ⟨b123, 0, none⟩)) (some 50) want ?_
       refine JY.take (hi := rfl) 10 (ba 19 2047) (.int .i64 ((ix l1 x47).I)) (some 51) [true, true, false, true] want (yields_load_box 2 0 (holds_box b123 57 (cl_57 (ix l1 x47))) tyAgg_3) ?_
       refine JY.pur (hi := rfl) 11 (ba 19 4095) (.agg #[.int .i64 ((ix l1 x47).J), .int .i64 ((ix l1 x47).I)]) (some 52) want ?_
       refine JY.pur (hi := rfl) 12 (ba 19 8191) (.pointer (some ⟨b123, 2, none⟩)) (some 53) want ?_
       refine JY.take (hi := rfl) 13 (ba 19 16383) (mv_25 ((ix l1 x47).V)) (some 54) [true, true, false, true] want (yields_load_boxes 2 2 (cl_25 ((ix l1 x47).V)) (holds_box b123 57 (cl_57 (ix l1 x47))) tyAgg_25 tySize_25) ?_
       refine JY.pur (hi := rfl) 14 (ba 19 32767) (.pointer (some ⟨b123, 2, none⟩)) (some 55) want ?_
       refine JY.take (hi := rfl) 15 (ba 19 65535) (mv_25 ((ix l1 x47).V)) (some 56) [true, true, false, true] want (yields_load_boxes 2 2 (cl_25 ((ix l1 x47).V)) (holds_box b123 57 (cl_57 (ix l1 x47))) tyAgg_25 tySize_25) ?_
       refine JY.all [16] ⟨⟨_, rfl, ?_⟩, trivial⟩
       refine JL.call [] [] [] (jones_adjoint.ok ((ix l1 x47).V) _ hc125) trivial ?_
       rintro _ _ ⟨rfl, rfl⟩
       refine JL.nil ?_
       refine JY.ran (ba 19 131071) [true, true, false, true] ?_
       refine JY.all [17] ⟨⟨_, rfl, ?_⟩, trivial⟩
       refine JL.mapPut (b := b13) (l := m46) (ek := mv_77) (ev := mv_25) 2 (⟨((ix l1 x47).I), ((ix l1 x47).J)⟩ : (A2 Int)) ((ix l1 x47).V) mk_77 Try.underlying76 ?_
       rw [em126]
       refine JL.nil ?_
       refine JY.ran (ba 19 262143) [true, true, false, true] ?_
       refine JY.all [18] ⟨⟨_, rfl, ?_⟩, trivial⟩
       refine JL.mapPut (b := b13) (l := m126) (ek := mv_77) (ev := mv_25) 2 (⟨((ix l1 x47).J), ((ix l1 x47).I)⟩ : (A2 Int)) t124 mk_77 Try.underlying76 ?_
       rw [em127]
       refine JL.nil ?_
       refine JY.ran (ba 19 524287) [true, true, false, true] ?_
       refine JY.done ?_
       refine JQ.blk_normal ?_
       refine JQ.then_normal ?_
       refine JQ.sub [(0, .slice (some ⟨g121, o122, none⟩) l1.length c3), (1, .int .i64 a5), (2, .int .i64 b6), (3, .int .i64 c7), (4, .int .i64 d8), (10, .pointer (some ⟨b9, 0, none⟩)), (13, .map (some b13)), (35, .slice (some ⟨g121, o122, none⟩) l1.length c3), (36, .int .i64 (l1.length : Int)), (37, .int .i64 x47)] ?_
       refine JQ.mask [At.rd (some ⟨g121, o122, none⟩) c3 fl_Pol.kd l1 true, At.box b9 25 (cl_25 zv_25), At.mp b13 mv_77 mv_25 m127] [true, true, true, false] ?_
       refine J.region ?_
       refine JL.pur (.int .i64 (w64 (x47 + 1))) (some 58) ?_
       refine JL.mv (.int .i64 (w64 (x47 + 1))) ?_
       refine JL.nil ?_
       refine JQ.then_normal ?_
       exact JQ.again (m127, w64 (x47 + 1)) () (Option.some.inj H1).symm (fun _ h => Heap.to h)
     · refine J.cond_false h118 ?_
       refine J.exit ?_
       refine JQ.then_exit ?_
       refine JQ.then_exit ?_
       refine JQ.blk_exit ?_
       rw [hb1 _ (Option.some.inj H1).symm, fin_brk] at H0
       exact JQ.met m46 () H0 (fun _ h => Heap.to h)
   · clear hit H0
     rintro m62 ⟨⟩ H0
     replace H0 : jones_Loop.k2 l1 a5 b6 c7 d8 m62 = some r := H0
     unfold jones_Loop.k2 at H0
     refine JQ.sub [(0, .slice Aa2 l1.length c3), (1, .int .i64 a5), (2, .int .i64 b6), (3, .int .i64 c7), (4, .int .i64 d8), (10, .pointer (some ⟨b9, 0, none⟩)), (13, .map (some b13))] ?_
     refine JQ.turn (Δ' := [At.rd Aa2 c3 fl_Pol.kd l1 true, At.box b9 25 (cl_25 zv_25), At.mp b13 mv_77 mv_25 m62]) (fun _ h => h.to) ?_
     refine JQ.then_normal ?_
     refine J.seq ?_
     refine J.seq ?_
     refine J.region ?_
     refine JL.mv (.map (some b13)) ?_
     refine JL.val (.int .i64 (m62.length : Int)) (some 60) (gives_mapLen (b := b13) (l := m62) (ek := mv_77) (ev := mv_25) 2 Try.underlying76) ?_
     refine JL.mv (.slice Aa2 l1.length c3) ?_
     refine JL.pur (.int .i64 (l1.length : Int)) (some 62) ?_
     refine JL.pur (.int .i64 (w64 (2 * (l1.length : Int)))) (some 63) ?_
     refine JL.pur (.bool (decide ((m62.length : Int) < w64 (2 * (l1.length : Int))))) (some 64) ?_
     refine JL.nil ?_
     refine JQ.then_normal ?_
     refine JQ.sub [(1, .int .i64 a5), (2, .int .i64 b6), (3, .int .i64 c7), (4, .int .i64 d8), (10, .pointer (some ⟨b9, 0, none⟩)), (13, .map (some b13)), (64, .bool (decide ((m62.length : Int) < w64 (2 * (l1.length : Int)))))] ?_
     refine JQ.mask [At.box b9 25 (cl_25 zv_25), At.mp b13 mv_77 mv_25 m62] [false, true, true] ?_
     rcases ite_cases H0 with ⟨h63, H0⟩ | ⟨h63, H0⟩
     · refine J.cond_true h63 ?_
       refine J.seq ?_
       refine J.region ?_
       refine JL.pur (mv_25 zv_25) (some 65) ?_
       refine JL.store 0 b9 0 25 (cl_25 zv_25) (cl_25 zv_25) tySize_25 ?_
       refine JL.as (.int .i64 14) ?_
       refine JL.nil ?_
       refine JQ.then_normal ?_
       refine JQ.sub [(10, .pointer (some ⟨b9, 0, none⟩)), (11, .int .i64 14)] ?_
       refine JQ.mask [At.box b9 25 (cl_25 zv_25)] [true, false] ?_
       refine J.ret ?_
       refine JQ.then_ret ?_
       obtain rfl := Option.some.inj H0
       exact JQ.done' (rs := [.cell 10 25, .tmp 11]) (vs := [.agg #[.int .i64 0, .int .i64 0, .int .i64 0, .int .i64 0, .int .i64 0, .int .i64 0, .int .i64 0, .int .i64 0, .int .i64 0, .int .i64 0, .int .i64 0, .int .i64 0], .int .i64 14]) [] (.inr rfl) ⟨⟨b9, 0, _, _, by kernel_rfl, by kernel_rfl, holds_box b9 25 (cl_25 zv_25), .inl ⟨tyAgg_25, tySize_25, rfl⟩⟩, by kernel_rfl, trivial⟩ (fun _ h => Heap.to (Heap.pick [] (by decide) h)) ⟨rfl, rfl⟩
     · refine J.cond_false h63 ?_
       refine J.skip ?_
       refine JQ.then_normal ?_
       refine JQ.sub [(1, .int .i64 a5), (2, .int .i64 b6), (3, .int .i64 c7), (4, .int .i64 d8), (10, .pointer (some ⟨b9, 0, none⟩)), (13, .map (some b13))] ?_
       refine J.seq ?_
       refine J.region ?_
       refine JL.mv (.int .i64 a5) ?_
       refine JL.mv (.int .i64 b6) ?_
       refine JL.mv (.int .i64 c7) ?_
       refine JL.mv (.int .i64 d8) ?_
       refine JL.buildSl 3 ((flInt .i64).kd) (([a5, b6, c7, d8] : List Int) : List Int) [.int .i64 a5, .int .i64 b6, .int .i64 c7, .int .i64 d8] false (closes_fl rfl) fun b64 => ?_
       refine JL.as (.slice (some ⟨b64, 0, none⟩) ([a5, b6, c7, d8] : List Int).length 4) ?_
       refine JL.nil ?_
       refine JQ.then_normal ?_
       refine JQ.sub [(1, .int .i64 a5), (2, .int .i64 b6), (3, .int .i64 c7), (4, .int .i64 d8), (10, .pointer (some ⟨b9, 0, none⟩)), (13, .map (some b13)), (16, .slice (some ⟨b64, 0, none⟩) ([a5, b6, c7, d8] : List Int).length 4)] ?_
       refine J.seq ?_
       refine J.region ?_
       refine JL.mv (.slice (some ⟨b64, 0, none⟩) ([a5, b6, c7, d8] : List Int).length 4) ?_
       obtain ⟨h66, H0⟩ := ite_must H0
       refine JL.call [] [] [false, false, true] (does_ext_56 ([a5, b6, c7, d8] : List Int) (some ⟨b64, 0, none⟩) 4 3 h66) trivial ?_
       rintro _ _ ⟨rfl, rfl⟩
       obtain ⟨l65, el65, H0⟩ := lt_some H0
       rw [el65]
       have nl65 : ([a5, b6, c7, d8] : List Int).length = l65.length := by rw [← el65]; exact (length_sortI _).symm
       refine JQ.len (fun n : Nat => [(1, .int .i64 a5), (2, .int .i64 b6), (3, .int .i64 c7), (4, .int .i64 d8), (10, .pointer (some ⟨b9, 0, none⟩)), (13, .map (some b13)), (16, .slice (some ⟨b64, 0, none⟩) n 4), (71, .slice (some ⟨b64, 0, none⟩) n 4), (72, .tuple #[])]) nl65 ?_
       refine JQ.sub [(1, .int .i64 a5), (2, .int .i64 b6), (3, .int .i64 c7), (4, .int .i64 d8), (10, .pointer (some ⟨b9, 0, none⟩)), (13, .map (some b13)), (16, .slice (some ⟨b64, 0, none⟩) l65.length 4), (71, .slice (some ⟨b64, 0, none⟩) l65.length 4), (72, .tuple #[])] ?_
       refine JL.nil ?_
       refine JQ.then_normal ?_
       refine JQ.sub [(1, .int .i64 a5), (2, .int .i64 b6), (3, .int .i64 c7), (4, .int .i64 d8), (10, .pointer (some ⟨b9, 0, none⟩)), (13, .map (some b13)), (16, .slice (some ⟨b64, 0, none⟩) l65.length 4)] ?_
       refine J.seq ?_
       refine J.join (T := Bool) (G := Unit) (fun t => jones_Loop.k3 a5 b6 c7 d8 m62 t = some r) (fun t g => [(1, .int .i64 a5), (2, .int .i64 b6), (3, .int .i64 c7), (4, .int .i64 d8), (10, .pointer (some ⟨b9, 0, none⟩)), (13, .map (some b13)), (88, .bool t)]) (fun t g => [At.box b9 25 (cl_25 zv_25), At.mp b13 mv_77 mv_25 m62]) ?_ ?_
       · refine J.region ?_
         refine JL.mv (.slice (some ⟨b64, 0, none⟩) l65.length 4) ?_
         obtain ⟨⟨h105, h106⟩, H0⟩ := ite_must H0
         refine JL.ixAddr' 2 1 4 .i64 (elems_row (some ⟨b64, 0, none⟩) 4 3 ((flInt .i64).kd) l65 false) Try.underlying60 tySize_3 h105 h106 ?_
         refine JL.val (.int .i64 (ix l65 0)) (some 75) (gives_loadEl (f := (flInt .i64)) 2 0 0 (elems_row (some ⟨b64, 0, none⟩) 4 3 ((flInt .i64).kd) l65 false) h105 h106 tySize_3 (.inr ⟨tyAgg_3, rfl, rfl⟩)) ?_
         refine JL.pur (.bool (decide ((ix l65 0) < 0))) (some 76) ?_
         refine JL.mv (.bool (decide ((ix l65 0) < 0))) ?_
         rcases ite_cases H0 with ⟨h109, H0⟩ | ⟨h109, H0⟩
         · refine JL.off 4 77 false (some 78) h109 ?_
           refine JL.off 4 77 false (some 79) h109 ?_
           refine JL.off 4 77 false (some 80) h109 ?_
           refine JL.off 4 77 false (some 81) h109 ?_
           refine JL.val (.bool true) (some 82) (gives_pickT h109) ?_
           refine JL.mv (.bool true) ?_
           refine JL.off 10 83 false (some 84) rfl ?_
           refine JL.off 10 83 false (some 85) rfl ?_
           refine JL.off 10 83 false (some 86) rfl ?_
           refine JL.off 10 83 false (some 87) rfl ?_
           refine JL.val (.bool true) (some 88) (gives_pickT rfl) ?_
           refine JL.nil ?_
           refine JQ.then_normal ?_
           exact JQ.meet true () H0 (fun _ h => Heap.to (Heap.pick [0, 1] (by decide) h))
         · refine JL.on 4 77 h109 ?_
           refine JL.mv (.slice (some ⟨b64, 0, none⟩) l65.length 4) ?_
           refine JL.on 4 77 h109 ?_
           obtain ⟨⟨h110, h111⟩, H0⟩ := ite_must H0
           refine JL.ixAddr' 2 1 4 .i64 (elems_row (some ⟨b64, 0, none⟩) 4 3 ((flInt .i64).kd) l65 false) Try.underlying60 tySize_3 h110 h111 ?_
           refine JL.on 4 77 h109 ?_
           refine JL.val (.int .i64 (ix l65 3)) (some 80) (gives_loadEl (f := (flInt .i64)) 2 0 3 (elems_row (some ⟨b64, 0, none⟩) 4 3 ((flInt .i64).kd) l65 false) h110 h111 tySize_3 (.inr ⟨tyAgg_3, rfl, rfl⟩)) ?_
           refine JL.on 4 77 h109 ?_
           refine JL.pur (.bool (decide (8 ≤ (ix l65 3)))) (some 81) ?_
           refine JL.val (.bool (decide (8 ≤ (ix l65 3)))) (some 82) (gives_pickF h109) ?_
           refine JL.mv (.bool (decide (8 ≤ (ix l65 3)))) ?_
           rcases ite_cases H0 with ⟨h114, H0⟩ | ⟨h114, H0⟩
           · refine JL.off 10 83 false (some 84) h114 ?_
             refine JL.off 10 83 false (some 85) h114 ?_
             refine JL.off 10 83 false (some 86) h114 ?_
             refine JL.off 10 83 false (some 87) h114 ?_
             refine JL.val (.bool true) (some 88) (gives_pickT h114) ?_
             refine JL.nil ?_
             refine JQ.then_normal ?_
             exact JQ.meet true () H0 (fun _ h => Heap.to (Heap.pick [0, 1] (by decide) h))
           · refine JL.on 10 83 h114 ?_
             refine JL.mv (.slice (some ⟨b64, 0, none⟩) l65.length 4) ?_
             refine JL.on 10 83 h114 ?_
             obtain ⟨h116, H0⟩ := ite_must H0
             refine JL.call [] [] [false, false, true] (does_ext_57 l65 (some ⟨b64, 0, none⟩) 4 3 h116) trivial ?_
             rintro _ _ ⟨rfl, rfl⟩
             obtain ⟨l115, el115, H0⟩ := lt_some H0
             rw [el115]
             refine JQ.sub [(1, .int .i64 a5), (2, .int .i64 b6), (3, .int .i64 c7), (4, .int .i64 d8), (10, .pointer (some ⟨b9, 0, none⟩)), (13, .map (some b13)), (75, .int .i64 (ix l65 0)), (76, .bool (decide ((ix l65 0) < 0))), (77, .bool (decide ((ix l65 0) < 0))), (80, .int .i64 (ix l65 3)), (81, .bool (decide (8 ≤ (ix l65 3)))), (82, .bool (decide (8 ≤ (ix l65 3)))), (83, .bool (decide (8 ≤ (ix l65 3)))), (85, .slice (some ⟨b64, 0, none⟩) l115.length 4)] ?_
             refine JL.on 10 83 h114 ?_
             refine JL.pur (.int .i64 (l115.length : Int)) (some 86) ?_
             refine JL.on 10 83 h114 ?_
             refine JL.pur (.bool (decide ((l115.length : Int) < 4))) (some 87) ?_
             refine JL.val (.bool (decide ((l115.length : Int) < 4))) (some 88) (gives_pickF h114) ?_
             refine JL.nil ?_
             refine JQ.then_normal ?_
             exact JQ.meet (decide ((l115.length : Int) < 4)) () H0 (fun _ h => Heap.to (Heap.pick [0, 1] (by decide) h))
       · clear H0
         rintro x80 ⟨⟩ H0
         replace H0 : jones_Loop.k3 a5 b6 c7 d8 m62 x80 = some r := H0
         unfold jones_Loop.k3 at H0
         refine JQ.sub [(1, .int .i64 a5), (2, .int .i64 b6), (3, .int .i64 c7), (4, .int .i64 d8), (10, .pointer (some ⟨b9, 0, none⟩)), (13, .map (some b13)), (88, .bool x80)] ?_
         refine JQ.turn (Δ' := [At.box b9 25 (cl_25 zv_25), At.mp b13 mv_77 mv_25 m62]) (fun _ h => h.to) ?_
         rcases ite_cases H0 with ⟨h81, H0⟩ | ⟨h81, H0⟩
         · refine J.cond_true h81 ?_
           refine J.seq ?_
           refine J.region ?_
           refine JL.pur (mv_25 zv_25) (some 89) ?_
           refine JL.store 0 b9 0 25 (cl_25 zv_25) (cl_25 zv_25) tySize_25 ?_
           refine JL.as (.int .i64 2) ?_
           refine JL.nil ?_
           refine JQ.then_normal ?_
           refine JQ.sub [(10, .pointer (some ⟨b9, 0, none⟩)), (11, .int .i64 2)] ?_
           refine JQ.mask [At.box b9 25 (cl_25 zv_25)] [true, false] ?_
           refine J.ret ?_
           refine JQ.then_ret ?_
           obtain rfl := Option.some.inj H0
           exact JQ.done' (rs := [.cell 10 25, .tmp 11]) (vs := [.agg #[.int .i64 0, .int .i64 0, .int .i64 0, .int .i64 0, .int .i64 0, .int .i64 0, .int .i64 0, .int .i64 0, .int .i64 0, .int .i64 0, .int .i64 0, .int .i64 0], .int .i64 2]) [] (.inr rfl) ⟨⟨b9, 0, _, _, by kernel_rfl, by kernel_rfl, holds_box b9 25 (cl_25 zv_25), .inl ⟨tyAgg_25, tySize_25, rfl⟩⟩, by kernel_rfl, trivial⟩ (fun _ h => Heap.to (Heap.pick [] (by decide) h)) ⟨rfl, rfl⟩
         · refine J.cond_false h81 ?_
           refine J.skip ?_
           refine JQ.then_normal ?_
           refine JQ.sub [(1, .int .i64 a5), (2, .int .i64 b6), (3, .int .i64 c7), (4, .int .i64 d8), (10, .pointer (some ⟨b9, 0, none⟩)), (13, .map (some b13))] ?_
           refine J.seq ?_
           refine J.region ?_
           refine JL.mv (.map (some b13)) ?_
           refine JL.mv (.int .i64 a5) ?_
           refine JL.mv (.int .i64 b6) ?_
           refine JL.pur (.agg #[.int .i64 a5, .int .i64 b6]) (some 94) ?_
           refine JL.val (.tuple #[mv_25 (mgetD m62 (⟨a5, b6⟩ : (A2 Int)) (⟨(⟨0, 0, 0⟩ : Cx), (⟨0, 0, 0⟩ : Cx), (⟨0, 0, 0⟩ : Cx), (⟨0, 0, 0⟩ : Cx)⟩ : (A4 Cx))), .bool (mhas m62 (⟨a5, b6⟩ : (A2 Int)))]) (some 95) (gives_mapGet (b := b13) (l := m62) (ek := mv_77) (ev := mv_25) 1 true (⟨(⟨0, 0, 0⟩ : Cx), (⟨0, 0, 0⟩ : Cx), (⟨0, 0, 0⟩ : Cx), (⟨0, 0, 0⟩ : Cx)⟩ : (A4 Cx)) (⟨a5, b6⟩ : (A2 Int)) (.tuple #[mv_25 (mgetD m62 (⟨a5, b6⟩ : (A2 Int)) (⟨(⟨0, 0, 0⟩ : Cx), (⟨0, 0, 0⟩ : Cx), (⟨0, 0, 0⟩ : Cx), (⟨0, 0, 0⟩ : Cx)⟩ : (A4 Cx))), .bool (mhas m62 (⟨a5, b6⟩ : (A2 Int)))]) mk_77 Try.underlying76 mz_25 rfl) ?_
           refine JL.mv (.tuple #[mv_25 (mgetD m62 (⟨a5, b6⟩ : (A2 Int)) (⟨(⟨0, 0, 0⟩ : Cx), (⟨0, 0, 0⟩ : Cx), (⟨0, 0, 0⟩ : Cx), (⟨0, 0, 0⟩ : Cx)⟩ : (A4 Cx))), .bool (mhas m62 (⟨a5, b6⟩ : (A2 Int)))]) ?_
           refine JL.pur (mv_25 (mgetD m62 (⟨a5, b6⟩ : (A2 Int)) (⟨(⟨0, 0, 0⟩ : Cx), (⟨0, 0, 0⟩ : Cx), (⟨0, 0, 0⟩ : Cx), (⟨0, 0, 0⟩ : Cx)⟩ : (A4 Cx)))) (some 96) ?_
           refine JL.pur (.bool (mhas m62 (⟨a5, b6⟩ : (A2 Int)))) (some 97) ?_
           refine JL.alloc (cl_25 zv_25) fun b82 => ?_
           refine JL.store 2 b82 0 25 (cl_25 zv_25) (cl_25 (mgetD m62 (⟨a5, b6⟩ : (A2 Int)) (⟨(⟨0, 0, 0⟩ : Cx), (⟨0, 0, 0⟩ : Cx), (⟨0, 0, 0⟩ : Cx), (⟨0, 0, 0⟩ : Cx)⟩ : (A4 Cx)))) tySize_25 ?_
           refine JL.as (.bool (mhas m62 (⟨a5, b6⟩ : (A2 Int)))) ?_
           refine JL.nil ?_
           refine JQ.then_normal ?_
           refine JQ.sub [(1, .int .i64 a5), (2, .int .i64 b6), (3, .int .i64 c7), (4, .int .i64 d8), (10, .pointer (some ⟨b9, 0, none⟩)), (13, .map (some b13)), (17, .pointer (some ⟨b82, 0, none⟩)), (18, .bool (mhas m62 (⟨a5, b6⟩ : (A2 Int))))] ?_
           refine J.seq ?_
           refine J.region ?_
           refine JL.mv (.map (some b13)) ?_
           refine JL.mv (.int .i64 c7) ?_
           refine JL.mv (.int .i64 b6) ?_
           refine JL.pur (.agg #[.int .i64 c7, .int .i64 b6]) (some 102) ?_
           refine JL.val (.tuple #[mv_25 (mgetD m62 (⟨c7, b6⟩ : (A2 Int)) (⟨(⟨0, 0, 0⟩ : Cx), (⟨0, 0, 0⟩ : Cx), (⟨0, 0, 0⟩ : Cx), (⟨0, 0, 0⟩ : Cx)⟩ : (A4 Cx))), .bool (mhas m62 (⟨c7, b6⟩ : (A2 Int)))]) (some 103) (gives_mapGet (b := b13) (l := m62) (ek := mv_77) (ev := mv_25) 1 true (⟨(⟨0, 0, 0⟩ : Cx), (⟨0, 0, 0⟩ : Cx), (⟨0, 0, 0⟩ : Cx), (⟨0, 0, 0⟩ : Cx)⟩ : (A4 Cx)) (⟨c7, b6⟩ : (A2 Int)) (.tuple #[mv_25 (mgetD m62 (⟨c7, b6⟩ : (A2 Int)) (⟨(⟨0, 0, 0⟩ : Cx), (⟨0, 0, 0⟩ : Cx), (⟨0, 0, 0⟩ : Cx), (⟨0, 0, 0⟩ : Cx)⟩ : (A4 Cx))), .bool (mhas m62 (⟨c7, b6⟩ : (A2 Int)))]) mk_77 Try.underlying76 mz_25 rfl) ?_
           refine JL.mv (.tuple #[mv_25 (mgetD m62 (⟨c7, b6⟩ : (A2 Int)) (⟨(⟨0, 0, 0⟩ : Cx), (⟨0, 0, 0⟩ : Cx), (⟨0, 0, 0⟩ : Cx), (⟨0, 0, 0⟩ : Cx)⟩ : (A4 Cx))), .bool (mhas m62 (⟨c7, b6⟩ : (A2 Int)))]) ?_
           refine JL.pur (mv_25 (mgetD m62 (⟨c7, b6⟩ : (A2 Int)) (⟨(⟨0, 0, 0⟩ : Cx), (⟨0, 0, 0⟩ : Cx), (⟨0, 0, 0⟩ : Cx), (⟨0, 0, 0⟩ : Cx)⟩ : (A4 Cx)))) (some 104) ?_
           refine JL.pur (.bool (mhas m62 (⟨c7, b6⟩ : (A2 Int)))) (some 105) ?_
           refine JL.alloc (cl_25 zv_25) fun b83 => ?_
           refine JL.store 3 b83 0 25 (cl_25 zv_25) (cl_25 (mgetD m62 (⟨c7, b6⟩ : (A2 Int)) (⟨(⟨0, 0, 0⟩ : Cx), (⟨0, 0, 0⟩ : Cx), (⟨0, 0, 0⟩ : Cx), (⟨0, 0, 0⟩ : Cx)⟩ : (A4 Cx)))) tySize_25 ?_
           refine JL.as (.bool (mhas m62 (⟨c7, b6⟩ : (A2 Int)))) ?_
           refine JL.nil ?_
           refine JQ.then_normal ?_
           refine JQ.sub [(1, .int .i64 a5), (3, .int .i64 c7), (4, .int .i64 d8), (10, .pointer (some ⟨b9, 0, none⟩)), (13, .map (some b13)), (17, .pointer (some ⟨b82, 0, none⟩)), (18, .bool (mhas m62 (⟨a5, b6⟩ : (A2 Int)))), (19, .pointer (some ⟨b83, 0, none⟩)), (20, .bool (mhas m62 (⟨c7, b6⟩ : (A2 Int))))] ?_
           refine J.seq ?_
           refine J.region ?_
           refine JL.mv (.map (some b13)) ?_
           refine JL.mv (.int .i64 c7) ?_
           refine JL.mv (.int .i64 d8) ?_
           refine JL.pur (.agg #[.int .i64 c7, .int .i64 d8]) (some 110) ?_
           refine JL.val (.tuple #[mv_25 (mgetD m62 (⟨c7, d8⟩ : (A2 Int)) (⟨(⟨0, 0, 0⟩ : Cx), (⟨0, 0, 0⟩ : Cx), (⟨0, 0, 0⟩ : Cx), (⟨0, 0, 0⟩ : Cx)⟩ : (A4 Cx))), .bool (mhas m62 (⟨c7, d8⟩ : (A2 Int)))]) (some 111) (gives_mapGet (b := b13) (l := m62) (ek := mv_77) (ev := mv_25) 1 true (⟨(⟨0, 0, 0⟩ : Cx), (⟨0, 0, 0⟩ : Cx), (⟨0, 0, 0⟩ : Cx), (⟨0, 0, 0⟩ : Cx)⟩ : (A4 Cx)) (⟨c7, d8⟩ : (A2 Int)) (.tuple #[mv_25 (mgetD m62 (⟨c7, d8⟩ : (A2 Int)) (⟨(⟨0, 0, 0⟩ : Cx), (⟨0, 0, 0⟩ : Cx), (⟨0, 0, 0⟩ : Cx), (⟨0, 0, 0⟩ : Cx)⟩ : (A4 Cx))), .bool (mhas m62 (⟨c7, d8⟩ : (A2 Int)))]) mk_77 Try.underlying76 mz_25 rfl) ?_
           refine JL.mv (.tuple #[mv_25 (mgetD m62 (⟨c7, d8⟩ : (A2 Int)) (⟨(⟨0, 0, 0⟩ : Cx), (⟨0, 0, 0⟩ : Cx), (⟨0, 0, 0⟩ : Cx), (⟨0, 0, 0⟩ : Cx)⟩ : (A4 Cx))), .bool (mhas m62 (⟨c7, d8⟩ : (A2 Int)))]) ?_
           refine JL.pur (mv_25 (mgetD m62 (⟨c7, d8⟩ : (A2 Int)) (⟨(⟨0, 0, 0⟩ : Cx), (⟨0, 0, 0⟩ : Cx), (⟨0, 0, 0⟩ : Cx), (⟨0, 0, 0⟩ : Cx)⟩ : (A4 Cx)))) (some 112) ?_
           refine JL.pur (.bool (mhas m62 (⟨c7, d8⟩ : (A2 Int)))) (some 113) ?_
           refine JL.alloc (cl_25 zv_25) fun b84 => ?_
           refine JL.store 4 b84 0 25 (cl_25 zv_25) (cl_25 (mgetD m62 (⟨c7, d8⟩ : (A2 Int)) (⟨(⟨0, 0, 0⟩ : Cx), (⟨0, 0, 0⟩ : Cx), (⟨0, 0, 0⟩ : Cx), (⟨0, 0, 0⟩ : Cx)⟩ : (A4 Cx)))) tySize_25 ?_
           refine JL.as (.bool (mhas m62 (⟨c7, d8⟩ : (A2 Int)))) ?_
           refine JL.nil ?_
           refine JQ.then_normal ?_
           refine JQ.sub [(1, .int .i64 a5), (4, .int .i64 d8), (10, .pointer (some ⟨b9, 0, none⟩)), (13, .map (some b13)), (17, .pointer (some ⟨b82, 0, none⟩)), (18, .bool (mhas m62 (⟨a5, b6⟩ : (A2 Int)))), (19, .pointer (some ⟨b83, 0, none⟩)), (20, .bool (mhas m62 (⟨c7, b6⟩ : (A2 Int)))), (21, .pointer (some ⟨b84, 0, none⟩)), (22, .bool (mhas m62 (⟨c7, d8⟩ : (A2 Int))))] ?_
           refine J.seq ?_
           refine J.region ?_
           refine JL.mv (.map (some b13)) ?_
           refine JL.mv (.int .i64 a5) ?_
           refine JL.mv (.int .i64 d8) ?_
           refine JL.pur (.agg #[.int .i64 a5, .int .i64 d8]) (some 118) ?_
           refine JL.val (.tuple #[mv_25 (mgetD m62 (⟨a5, d8⟩ : (A2 Int)) (⟨(⟨0, 0, 0⟩ : Cx), (⟨0, 0, 0⟩ : Cx), (⟨0, 0, 0⟩ : Cx), (⟨0, 0, 0⟩ : Cx)⟩ : (A4 Cx))), .bool (mhas m62 (⟨a5, d8⟩ : (A2 Int)))]) (some 119) (gives_mapGet (b := b13) (l := m62) (ek := mv_77) (ev := mv_25) 1 true (⟨(⟨0, 0, 0⟩ : Cx), (⟨0, 0, 0⟩ : Cx), (⟨0, 0, 0⟩ : Cx), (⟨0, 0, 0⟩ : Cx)⟩ : (A4 Cx)) (⟨a5, d8⟩ : (A2 Int)) (.tuple #[mv_25 (mgetD m62 (⟨a5, d8⟩ : (A2 Int)) (⟨(⟨0, 0, 0⟩ : Cx), (⟨0, 0, 0⟩ : Cx), (⟨0, 0, 0⟩ : Cx), (⟨0, 0, 0⟩ : Cx)⟩ : (A4 Cx))), .bool (mhas m62 (⟨a5, d8⟩ : (A2 Int)))]) mk_77 Try.underlying76 mz_25 rfl) ?_
           refine JL.mv (.tuple #[mv_25 (mgetD m62 (⟨a5, d8⟩ : (A2 Int)) (⟨(⟨0, 0, 0⟩ : Cx), (⟨0, 0, 0⟩ : Cx), (⟨0, 0, 0⟩ : Cx), (⟨0, 0, 0⟩ : Cx)⟩ : (A4 Cx))), .bool (mhas m62 (⟨a5, d8⟩ : (A2 Int)))]) ?_
           refine JL.pur (mv_25 (mgetD m62 (⟨a5, d8⟩ : (A2 Int)) (⟨(⟨0, 0, 0⟩ : Cx), (⟨0, 0, 0⟩ : Cx), (⟨0, 0, 0⟩ : Cx), (⟨0, 0, 0⟩ : Cx)⟩ : (A4 Cx)))) (some 120) ?_
           refine JL.pur (.bool (mhas m62 (⟨a5, d8⟩ : (A2 Int)))) (some 121) ?_
           refine JL.alloc (cl_25 zv_25) fun b85 => ?_
           refine JL.store 5 b85 0 25 (cl_25 zv_25) (cl_25 (mgetD m62 (⟨a5, d8⟩ : (A2 Int)) (⟨(⟨0, 0, 0⟩ : Cx), (⟨0, 0, 0⟩ : Cx), (⟨0, 0, 0⟩ : Cx), (⟨0, 0, 0⟩ : Cx)⟩ : (A4 Cx)))) tySize_25 ?_
           refine JL.as (.bool (mhas m62 (⟨a5, d8⟩ : (A2 Int)))) ?_
           refine JL.nil ?_
           refine JQ.then_normal ?_
           refine JQ.sub [(10, .pointer (some ⟨b9, 0, none⟩)), (17, .pointer (some ⟨b82, 0, none⟩)), (18, .bool (mhas m62 (⟨a5, b6⟩ : (A2 Int)))), (19, .pointer (some ⟨b83, 0, none⟩)), (20, .bool (mhas m62 (⟨c7, b6⟩ : (A2 Int)))), (21, .pointer (some ⟨b84, 0, none⟩)), (22, .bool (mhas m62 (⟨c7, d8⟩ : (A2 Int)))), (23, .pointer (some ⟨b85, 0, none⟩)), (24, .bool (mhas m62 (⟨a5, d8⟩ : (A2 Int))))] ?_
           refine JQ.mask [At.box b9 25 (cl_25 zv_25), At.box b82 25 (cl_25 (mgetD m62 (⟨a5, b6⟩ : (A2 Int)) (⟨(⟨0, 0, 0⟩ : Cx), (⟨0, 0, 0⟩ : Cx), (⟨0, 0, 0⟩ : Cx), (⟨0, 0, 0⟩ : Cx)⟩ : (A4 Cx)))), At.box b83 25 (cl_25 (mgetD m62 (⟨c7, b6⟩ : (A2 Int)) (⟨(⟨0, 0, 0⟩ : Cx), (⟨0, 0, 0⟩ : Cx), (⟨0, 0, 0⟩ : Cx), (⟨0, 0, 0⟩ : Cx)⟩ : (A4 Cx)))), At.box b84 25 (cl_25 (mgetD m62 (⟨c7, d8⟩ : (A2 Int)) (⟨(⟨0, 0, 0⟩ : Cx), (⟨0, 0, 0⟩ : Cx), (⟨0, 0, 0⟩ : Cx), (⟨0, 0, 0⟩ : Cx)⟩ : (A4 Cx)))), At.box b85 25 (cl_25 (mgetD m62 (⟨a5, d8⟩ : (A2 Int)) (⟨(⟨0, 0, 0⟩ : Cx), (⟨0, 0, 0⟩ : Cx), (⟨0, 0, 0⟩ : Cx), (⟨0, 0, 0⟩ : Cx)⟩ : (A4 Cx))))] [true, false, true, true, true, true] ?_
           refine J.seq ?_
           refine J.join (T := Bool) (G := Unit) (fun t => jones_Loop.k4 a5 b6 c7 d8 m62 t = some r) (fun t g => [(10, .pointer (some ⟨b9, 0, none⟩)), (17, .pointer (some ⟨b82, 0, none⟩)), (19, .pointer (some ⟨b83, 0, none⟩)), (21, .pointer (some ⟨b84, 0, none⟩)), (23, .pointer (some ⟨b85, 0, none⟩)), (135, .bool t)]) (fun t g => [At.box b9 25 (cl_25 zv_25), At.box b82 25 (cl_25 (mgetD m62 (⟨a5, b6⟩ : (A2 Int)) (⟨(⟨0, 0, 0⟩ : Cx), (⟨0, 0, 0⟩ : Cx), (⟨0, 0, 0⟩ : Cx), (⟨0, 0, 0⟩ : Cx)⟩ : (A4 Cx)))), At.box b83 25 (cl_25 (mgetD m62 (⟨c7, b6⟩ : (A2 Int)) (⟨(⟨0, 0, 0⟩ : Cx), (⟨0, 0, 0⟩ : Cx), (⟨0, 0, 0⟩ : Cx), (⟨0, 0, 0⟩ : Cx)⟩ : (A4 Cx)))), At.box b84 25 (cl_25 (mgetD m62 (⟨c7, d8⟩ : (A2 Int)) (⟨(⟨0, 0, 0⟩ : Cx), (⟨0, 0, 0⟩ : Cx), (⟨0, 0, 0⟩ : Cx), (⟨0, 0, 0⟩ : Cx)⟩ : (A4 Cx)))), At.box b85 25 (cl_25 (mgetD m62 (⟨a5, d8⟩ : (A2 Int)) (⟨(⟨0, 0, 0⟩ : Cx), (⟨0, 0, 0⟩ : Cx), (⟨0, 0, 0⟩ : Cx), (⟨0, 0, 0⟩ : Cx)⟩ : (A4 Cx))))]) ?_ ?_
           · refine J.region ?_
             refine JL.mv (.bool (mhas m62 (⟨a5, b6⟩ : (A2 Int)))) ?_
             refine JL.pur (.bool (!(mhas m62 (⟨a5, b6⟩ : (A2 Int))))) (some 123) ?_
             refine JL.mv (.bool (!(mhas m62 (⟨a5, b6⟩ : (A2 Int))))) ?_
             rcases ite_cases H0 with ⟨h102, H0⟩ | ⟨h102, H0⟩
             · refine JL.off 2 124 false (some 125) h102 ?_
               refine JL.off 2 124 false (some 126) h102 ?_
               refine JL.val (.bool true) (some 127) (gives_pickT h102) ?_
               refine JL.mv (.bool true) ?_
               refine JL.off 6 128 false (some 129) rfl ?_
               refine JL.off 6 128 false (some 130) rfl ?_
               refine JL.val (.bool true) (some 131) (gives_pickT rfl) ?_
               refine JL.mv (.bool true) ?_
               refine JL.off 10 132 false (some 133) rfl ?_
               refine JL.off 10 132 false (some 134) rfl ?_
               refine JL.val (.bool true) (some 135) (gives_pickT rfl) ?_
               refine JL.nil ?_
               refine JQ.then_normal ?_
               exact JQ.meet true () H0 (fun _ h => Heap.to h)
             · refine JL.on 2 124 h102 ?_
               refine JL.mv (.bool (mhas m62 (⟨c7, b6⟩ : (A2 Int)))) ?_
               refine JL.on 2 124 h102 ?_
               refine JL.pur (.bool (!(mhas m62 (⟨c7, b6⟩ : (A2 Int))))) (some 126) ?_
               refine JL.val (.bool (!(mhas m62 (⟨c7, b6⟩ : (A2 Int))))) (some 127) (gives_pickF h102) ?_
               refine JL.mv (.bool (!(mhas m62 (⟨c7, b6⟩ : (A2 Int))))) ?_
               rcases ite_cases H0 with ⟨h103, H0⟩ | ⟨h103, H0⟩
               · refine JL.off 6 128 false (some 129) h103 ?_
                 refine JL.off 6 128 false (some 130) h103 ?_
                 refine JL.val (.bool true) (some 131) (gives_pickT h103) ?_
                 refine JL.mv (.bool true) ?_
                 refine JL.off 10 132 false (some 133) rfl ?_
                 refine JL.off 10 132 false (some 134) rfl ?_
                 refine JL.val (.bool true) (some 135) (gives_pickT rfl) ?_
                 refine JL.nil ?_
                 refine JQ.then_normal ?_
                 exact JQ.meet true () H0 (fun _ h => Heap.to h)
               · refine JL.on 6 128 h103 ?_
                 refine JL.mv (.bool (mhas m62 (⟨c7, d8⟩ : (A2 Int)))) ?_
                 refine JL.on 6 128 h103 ?_
                 refine JL.pur (.bool (!(mhas m62 (⟨c7, d8⟩ : (A2 Int))))) (some 130) ?_
                 refine JL.val (.bool (!(mhas m62 (⟨c7, d8⟩ : (A2 Int))))) (some 131) (gives_pickF h103) ?_
                 refine JL.mv (.bool (!(mhas m62 (⟨c7, d8⟩ : (A2 Int))))) ?_
                 rcases ite_cases H0 with ⟨h104, H0⟩ | ⟨h104, H0⟩
                 · refine JL.off 10 132 false (some 133) h104 ?_
                   refine JL.off 10 132 false (some 134) h104 ?_
                   refine JL.val (.bool true) (some 135) (gives_pickT h104) ?_
                   refine JL.nil ?_
                   refine JQ.then_normal ?_
                   exact JQ.meet true () H0 (fun _ h => Heap.to h)
                 · refine JL.on 10 132 h104 ?_
                   refine JL.mv (.bool (mhas m62 (⟨a5, d8⟩ : (A2 Int)))) ?_
                   refine JL.on 10 132 h104 ?_
                   refine JL.pur (.bool (!(mhas m62 (⟨a5, d8⟩ : (A2 Int))))) (some 134) ?_
                   refine JL.val (.bool (!(mhas m62 (⟨a5, d8⟩ : (A2 Int))))) (some 135) (gives_pickF h104) ?_
                   refine JL.nil ?_
                   refine JQ.then_normal ?_
                   exact JQ.meet (!(mhas m62 (⟨a5, d8⟩ : (A2 Int)))) () H0 (fun _ h => Heap.to h)
           · clear H0
             rintro x89 ⟨⟩ H0
             replace H0 : jones_Loop.k4 a5 b6 c7 d8 m62 x89 = some r := H0
             unfold jones_Loop.k4 at H0
             refine JQ.sub [(10, .pointer (some ⟨b9, 0, none⟩)), (17, .pointer (some ⟨b82, 0, none⟩)), (19, .pointer (some ⟨b83, 0, none⟩)), (21, .pointer (some ⟨b84, 0, none⟩)), (23, .pointer (some ⟨b85, 0, none⟩)), (135, .bool x89)] ?_
             refine JQ.turn (Δ' := [At.box b9 25 (cl_25 zv_25), At.box b82 25 (cl_25 (mgetD m62 (⟨a5, b6⟩ : (A2 Int)) (⟨(⟨0, 0, 0⟩ : Cx), (⟨0, 0, 0⟩ : Cx), (⟨0, 0, 0⟩ : Cx), (⟨0, 0, 0⟩ : Cx)⟩ : (A4 Cx)))), At.box b83 25 (cl_25 (mgetD m62 (⟨c7, b6⟩ : (A2 Int)) (⟨(⟨0, 0, 0⟩ : Cx), (⟨0, 0, 0⟩ : Cx), (⟨0, 0, 0⟩ : Cx), (⟨0, 0, 0⟩ : Cx)⟩ : (A4 Cx)))), At.box b84 25 (cl_25 (mgetD m62 (⟨c7, d8⟩ : (A2 Int)) (⟨(⟨0, 0, 0⟩ : Cx), (⟨0, 0, 0⟩ : Cx), (⟨0, 0, 0⟩ : Cx), (⟨0, 0, 0⟩ : Cx)⟩ : (A4 Cx)))), At.box b85 25 (cl_25 (mgetD m62 (⟨a5, d8⟩ : (A2 Int)) (⟨(⟨0, 0, 0⟩ : Cx), (⟨0, 0, 0⟩ : Cx), (⟨0, 0, 0⟩ : Cx), (⟨0, 0, 0⟩ : Cx)⟩ : (A4 Cx))))]) (fun _ h => h.to) ?_
             rcases ite_cases H0 with ⟨h90, H0⟩ | ⟨h90, H0⟩
             · refine J.cond_true h90 ?_
               refine J.seq ?_
               refine J.region ?_
               refine JL.pur (mv_25 zv_25) (some 136) ?_
               refine JL.store 0 b9 0 25 (cl_25 zv_25) (cl_25 zv_25) tySize_25 ?_
               refine JL.as (.int .i64 6) ?_
               refine JL.nil ?_
               refine JQ.then_normal ?_
               refine JQ.sub [(10, .pointer (some ⟨b9, 0, none⟩)), (11, .int .i64 6)] ?_
               refine JQ.mask [At.box b9 25 (cl_25 zv_25)] [true, false, false, false, false] ?_
               refine J.ret ?_
               refine JQ.then_ret ?_
               obtain rfl := Option.some.inj H0
               exact JQ.done' (rs := [.cell 10 25, .tmp 11]) (vs := [.agg #[.int .i64 0, .int .i64 0, .int .i64 0, .int .i64 0, .int .i64 0, .int .i64 0, .int .i64 0, .int .i64 0, .int .i64 0, .int .i64 0, .int .i64 0, .int .i64 0], .int .i64 6]) [] (.inr rfl) ⟨⟨b9, 0, _, _, by kernel_rfl, by kernel_rfl, holds_box b9 25 (cl_25 zv_25), .inl ⟨tyAgg_25, tySize_25, rfl⟩⟩, by kernel_rfl, trivial⟩ (fun _ h => Heap.to (Heap.pick [] (by decide) h)) ⟨rfl, rfl⟩
             · refine J.cond_false h90 ?_
               refine J.skip ?_
               refine JQ.then_normal ?_
               refine JQ.sub [(10, .pointer (some ⟨b9, 0, none⟩)), (17, .pointer (some ⟨b82, 0, none⟩)), (19, .pointer (some ⟨b83, 0, none⟩)), (21, .pointer (some ⟨b84, 0, none⟩)), (23, .pointer (some ⟨b85, 0, none⟩))] ?_
               refine J.seq ?_
               refine J.region ?_
               refine JL.val (mv_25 (mgetD m62 (⟨c7, b6⟩ : (A2 Int)) (⟨(⟨0, 0, 0⟩ : Cx), (⟨0, 0, 0⟩ : Cx), (⟨0, 0, 0⟩ : Cx), (⟨0, 0, 0⟩ : Cx)⟩ : (A4 Cx)))) (some 138) (yields_load_boxes 2 0 (cl_25 (mgetD m62 (⟨c7, b6⟩ : (A2 Int)) (⟨(⟨0, 0, 0⟩ : Cx), (⟨0, 0, 0⟩ : Cx), (⟨0, 0, 0⟩ : Cx), (⟨0, 0, 0⟩ : Cx)⟩ : (A4 Cx)))) (holds_box b83 25 (cl_25 (mgetD m62 (⟨c7, b6⟩ : (A2 Int)) (⟨(⟨0, 0, 0⟩ : Cx), (⟨0, 0, 0⟩ : Cx), (⟨0, 0, 0⟩ : Cx), (⟨0, 0, 0⟩ : Cx)⟩ : (A4 Cx))))) tyAgg_25 tySize_25) ?_
               obtain ⟨t91, hc92, H0⟩ := bind_some H0
               refine JL.call [] [] [] (jones_Inv.ok (mgetD m62 (⟨c7, b6⟩ : (A2 Int)) (⟨(⟨0, 0, 0⟩ : Cx), (⟨0, 0, 0⟩ : Cx), (⟨0, 0, 0⟩ : Cx), (⟨0, 0, 0⟩ : Cx)⟩ : (A4 Cx))) _ hc92) trivial ?_
               rintro _ _ ⟨rfl, rfl⟩
               refine JL.mv (.tuple #[mv_25 t91.1, .int .i64 t91.2]) ?_
               refine JL.pur (mv_25 t91.1) (some 140) ?_
               refine JL.pur (.int .i64 t91.2) (some 141) ?_
               refine JL.alloc (cl_25 zv_25) fun b93 => ?_
               refine JL.store 5 b93 0 25 (cl_25 zv_25) (cl_25 t91.1) tySize_25 ?_
               refine JL.as (.int .i64 t91.2) ?_
               refine JL.nil ?_
               refine JQ.then_normal ?_
               refine JQ.sub [(10, .pointer (some ⟨b9, 0, none⟩)), (17, .pointer (some ⟨b82, 0, none⟩)), (21, .pointer (some ⟨b84, 0, none⟩)), (23, .pointer (some ⟨b85, 0, none⟩)), (25, .pointer (some ⟨b93, 0, none⟩)), (26, .int .i64 t91.2)] ?_
               refine JQ.mask [At.box b9 25 (cl_25 zv_25), At.box b82 25 (cl_25 (mgetD m62 (⟨a5, b6⟩ : (A2 Int)) (⟨(⟨0, 0, 0⟩ : Cx), (⟨0, 0, 0⟩ : Cx), (⟨0, 0, 0⟩ : Cx), (⟨0, 0, 0⟩ : Cx)⟩ : (A4 Cx)))), At.box b84 25 (cl_25 (mgetD m62 (⟨c7, d8⟩ : (A2 Int)) (⟨(⟨0, 0, 0⟩ : Cx), (⟨0, 0, 0⟩ : Cx), (⟨0, 0, 0⟩ : Cx), (⟨0, 0, 0⟩ : Cx)⟩ : (A4 Cx)))), At.box b85 25 (cl_25 (mgetD m62 (⟨a5, d8⟩ : (A2 Int)) (⟨(⟨0, 0, 0⟩ : Cx), (⟨0, 0, 0⟩ : Cx), (⟨0, 0, 0⟩ : Cx), (⟨0, 0, 0⟩ : Cx)⟩ : (A4 Cx)))), At.box b93 25 (cl_25 t91.1)] [true, true, false, true, true, true] ?_
               refine J.seq ?_
               refine J.seq ?_
               refine J.region ?_
               refine JL.mv (.int .i64 t91.2) ?_
               refine JL.pur (.bool (!decide (t91.2 = 0))) (some 143) ?_
               refine JL.nil ?_
               refine JQ.then_normal ?_
               refine JQ.sub [(10, .pointer (some ⟨b9, 0, none⟩)), (17, .pointer (some ⟨b82, 0, none⟩)), (21, .pointer (some ⟨b84, 0, none⟩)), (23, .pointer (some ⟨b85, 0, none⟩)), (25, .pointer (some ⟨b93, 0, none⟩)), (26, .int .i64 t91.2), (143, .bool (!decide (t91.2 = 0)))] ?_
               rcases ite_cases H0 with ⟨h94, H0⟩ | ⟨h94, H0⟩
               · refine J.cond_true h94 ?_
                 refine J.seq ?_
                 refine J.region ?_
                 refine JL.pur (mv_25 zv_25) (some 144) ?_
                 refine JL.mv (.int .i64 t91.2) ?_
                 refine JL.store 0 b9 0 25 (cl_25 zv_25) (cl_25 zv_25) tySize_25 ?_
                 refine JL.as (.int .i64 t91.2) ?_
                 refine JL.nil ?_
                 refine JQ.then_normal ?_
                 refine JQ.sub [(10, .pointer (some ⟨b9, 0, none⟩)), (11, .int .i64 t91.2)] ?_
                 refine JQ.mask [At.box b9 25 (cl_25 zv_25)] [true, false, false, false, false] ?_
                 refine J.ret ?_
                 refine JQ.then_ret ?_
                 obtain rfl := Option.some.inj H0
                 exact JQ.done' (rs := [.cell 10 25, .tmp 11]) (vs := [.agg #[.int .i64 0, .int .i64 0, .int .i64 0, .int .i64 0, .int .i64 0, .int .i64 0, .int .i64 0, .int .i64 0, .int .i64 0, .int .i64 0, .int .i64 0, .int .i64 0], .int .i64 t91.2]) [] (.inr rfl) ⟨⟨b9, 0, _, _, by kernel_rfl, by kernel_rfl, holds_box b9 25 (cl_25 zv_25), .inl ⟨tyAgg_25, tySize_25, rfl⟩⟩, by kernel_rfl, trivial⟩ (fun _ h => Heap.to (Heap.pick [] (by decide) h)) ⟨rfl, rfl⟩
               · refine J.cond_false h94 ?_
                 refine J.skip ?_
                 refine JQ.then_normal ?_
                 refine JQ.sub [(10, .pointer (some ⟨b9, 0, none⟩)), (17, .pointer (some ⟨b82, 0, none⟩)), (21, .pointer (some ⟨b84, 0, none⟩)), (23, .pointer (some ⟨b85, 0, none⟩)), (25, .pointer (some ⟨b93, 0, none⟩))] ?_
                 refine J.seq ?_
                 refine J.region ?_
                 refine JL.val (mv_25 (mgetD m62 (⟨a5, d8⟩ : (A2 Int)) (⟨(⟨0, 0, 0⟩ : Cx), (⟨0, 0, 0⟩ : Cx), (⟨0, 0, 0⟩ : Cx), (⟨0, 0, 0⟩ : Cx)⟩ : (A4 Cx)))) (some 147) (yields_load_boxes 3 0 (cl_25 (mgetD m62 (⟨a5, d8⟩ : (A2 Int)) (⟨(⟨0, 0, 0⟩ : Cx), (⟨0, 0, 0⟩ : Cx), (⟨0, 0, 0⟩ : Cx), (⟨0, 0, 0⟩ : Cx)⟩ : (A4 Cx)))) (holds_box b85 25 (cl_25 (mgetD m62 (⟨a5, d8⟩ : (A2 Int)) (⟨(⟨0, 0, 0⟩ : Cx), (⟨0, 0, 0⟩ : Cx), (⟨0, 0, 0⟩ : Cx), (⟨0, 0, 0⟩ : Cx)⟩ : (A4 Cx))))) tyAgg_25 tySize_25) ?_
                 obtain ⟨t95, hc96, H0⟩ := bind_some H0
                 refine JL.call [] [] [] (jones_Inv.ok (mgetD m62 (⟨a5, d8⟩ : (A2 Int)) (⟨(⟨0, 0, 0⟩ : Cx), (⟨0, 0, 0⟩ : Cx), (⟨0, 0, 0⟩ : Cx), (⟨0, 0, 0⟩ : Cx)⟩ : (A4 Cx))) _ hc96) trivial ?_
                 rintro _ _ ⟨rfl, rfl⟩
                 refine JL.mv (.tuple #[mv_25 t95.1, .int .i64 t95.2]) ?_
                 refine JL.pur (mv_25 t95.1) (some 149) ?_
                 refine JL.pur (.int .i64 t95.2) (some 150) ?_
                 refine JL.alloc (cl_25 zv_25) fun b97 => ?_
                 refine JL.store 5 b97 0 25 (cl_25 zv_25) (cl_25 t95.1) tySize_25 ?_
                 refine JL.as (.int .i64 t95.2) ?_
                 refine JL.nil ?_
                 refine JQ.then_normal ?_
                 refine JQ.sub [(10, .pointer (some ⟨b9, 0, none⟩)), (17, .pointer (some ⟨b82, 0, none⟩)), (21, .pointer (some ⟨b84, 0, none⟩)), (25, .pointer (some ⟨b93, 0, none⟩)), (26, .int .i64 t95.2), (27, .pointer (some ⟨b97, 0, none⟩))] ?_
                 refine JQ.mask [At.box b9 25 (cl_25 zv_25), At.box b82 25 (cl_25 (mgetD m62 (⟨a5, b6⟩ : (A2 Int)) (⟨(⟨0, 0, 0⟩ : Cx), (⟨0, 0, 0⟩ : Cx), (⟨0, 0, 0⟩ : Cx), (⟨0, 0, 0⟩ : Cx)⟩ : (A4 Cx)))), At.box b84 25 (cl_25 (mgetD m62 (⟨c7, d8⟩ : (A2 Int)) (⟨(⟨0, 0, 0⟩ : Cx), (⟨0, 0, 0⟩ : Cx), (⟨0, 0, 0⟩ : Cx), (⟨0, 0, 0⟩ : Cx)⟩ : (A4 Cx)))), At.box b93 25 (cl_25 t91.1), At.box b97 25 (cl_25 t95.1)] [true, true, true, false, true, true] ?_
                 refine J.seq ?_
                 refine J.seq ?_
                 refine J.region ?_
                 refine JL.mv (.int .i64 t95.2) ?_
                 refine JL.pur (.bool (!decide (t95.2 = 0))) (some 152) ?_
                 refine JL.nil ?_
                 refine JQ.then_normal ?_
                 refine JQ.sub [(10, .pointer (some ⟨b9, 0, none⟩)), (17, .pointer (some ⟨b82, 0, none⟩)), (21, .pointer (some ⟨b84, 0, none⟩)), (25, .pointer (some ⟨b93, 0, none⟩)), (26, .int .i64 t95.2), (27, .pointer (some ⟨b97, 0, none⟩)), (152, .bool (!decide (t95.2 = 0)))] ?_
                 rcases ite_cases H0 with ⟨h98, H0⟩ | ⟨h98, H0⟩
                 · refine J.cond_true h98 ?_
                   refine J.seq ?_
                   refine J.region ?_
                   refine JL.pur (mv_25 zv_25) (some 153) ?_
                   refine JL.mv (.int .i64 t95.2) ?_
                   refine JL.store 0 b9 0 25 (cl_25 zv_25) (cl_25 zv_25) tySize_25 ?_
                   refine JL.as (.int .i64 t95.2) ?_
                   refine JL.nil ?_
                   refine JQ.then_normal ?_
                   refine JQ.sub [(10, .pointer (some ⟨b9, 0, none⟩)), (11, .int .i64 t95.2)] ?_
                   refine JQ.mask [At.box b9 25 (cl_25 zv_25)] [true, false, false, false, false] ?_
                   refine J.ret ?_
                   refine JQ.then_ret ?_
                   obtain rfl := Option.some.inj H0
                   exact JQ.done' (rs := [.cell 10 25, .tmp 11]) (vs := [.agg #[.int .i64 0, .int .i64 0, .int .i64 0, .int .i64 0, .int .i64 0, .int .i64 0, .int .i64 0, .int .i64 0, .int .i64 0, .int .i64 0, .int .i64 0, .int .i64 0], .int .i64 t95.2]) [] (.inr rfl) ⟨⟨b9, 0, _, _, by kernel_rfl, by kernel_rfl, holds_box b9 25 (cl_25 zv_25), .inl ⟨tyAgg_25, tySize_25, rfl⟩⟩, by kernel_rfl, trivial⟩ (fun _ h => Heap.to (Heap.pick [] (by decide) h)) ⟨rfl, rfl⟩
                 · refine J.cond_false h98 ?_
                   refine J.skip ?_
                   refine JQ.then_normal ?_
                   refine JQ.sub [(10, .pointer (some ⟨b9, 0, none⟩)), (17, .pointer (some ⟨b82, 0, none⟩)), (21, .pointer (some ⟨b84, 0, none⟩)), (25, .pointer (some ⟨b93, 0, none⟩)), (27, .pointer (some ⟨b97, 0, none⟩))] ?_
                   refine J.seq ?_
                   refine J.region ?_
                   refine JL.val (mv_25 (mgetD m62 (⟨a5, b6⟩ : (A2 Int)) (⟨(⟨0, 0, 0⟩ : Cx), (⟨0, 0, 0⟩ : Cx), (⟨0, 0, 0⟩ : Cx), (⟨0, 0, 0⟩ : Cx)⟩ : (A4 Cx)))) (some 155) (yields_load_boxes 1 0 (cl_25 (mgetD m62 (⟨a5, b6⟩ : (A2 Int)) (⟨(⟨0, 0, 0⟩ : Cx), (⟨0, 0, 0⟩ : Cx), (⟨0, 0, 0⟩ : Cx), (⟨0, 0, 0⟩ : Cx)⟩ : (A4 Cx)))) (holds_box b82 25 (cl_25 (mgetD m62 (⟨a5, b6⟩ : (A2 Int)) (⟨(⟨0, 0, 0⟩ : Cx), (⟨0, 0, 0⟩ : Cx), (⟨0, 0, 0⟩ : Cx), (⟨0, 0, 0⟩ : Cx)⟩ : (A4 Cx))))) tyAgg_25 tySize_25) ?_
                   refine JL.val (mv_25 t91.1) (some 156) (yields_load_boxes 3 0 (cl_25 t91.1) (holds_box b93 25 (cl_25 t91.1)) tyAgg_25 tySize_25) ?_
                   refine JL.val (mv_25 (mgetD m62 (⟨c7, d8⟩ : (A2 Int)) (⟨(⟨0, 0, 0⟩ : Cx), (⟨0, 0, 0⟩ : Cx), (⟨0, 0, 0⟩ : Cx), (⟨0, 0, 0⟩ : Cx)⟩ : (A4 Cx)))) (some 157) (yields_load_boxes 2 0 (cl_25 (mgetD m62 (⟨c7, d8⟩ : (A2 Int)) (⟨(⟨0, 0, 0⟩ : Cx), (⟨0, 0, 0⟩ : Cx), (⟨0, 0, 0⟩ : Cx), (⟨0, 0, 0⟩ : Cx)⟩ : (A4 Cx)))) (holds_box b84 25 (cl_25 (mgetD m62 (⟨c7, d8⟩ : (A2 Int)) (⟨(⟨0, 0, 0⟩ : Cx), (⟨0, 0, 0⟩ : Cx), (⟨0, 0, 0⟩ : Cx), (⟨0, 0, 0⟩ : Cx)⟩ : (A4 Cx))))) tyAgg_25 tySize_25) ?_
                   refine JL.val (mv_25 t95.1) (some 158) (yields_load_boxes 4 0 (cl_25 t95.1) (holds_box b97 25 (cl_25 t95.1)) tyAgg_25 tySize_25) ?_
                   refine JL.buildSl 25 ((flArr4 fl_Cx).kd) (([(mgetD m62 (⟨a5, b6⟩ : (A2 Int)) (⟨(⟨0, 0, 0⟩ : Cx), (⟨0, 0, 0⟩ : Cx), (⟨0, 0, 0⟩ : Cx), (⟨0, 0, 0⟩ : Cx)⟩ : (A4 Cx))), t91.1, (mgetD m62 (⟨c7, d8⟩ : (A2 Int)) (⟨(⟨0, 0, 0⟩ : Cx), (⟨0, 0, 0⟩ : Cx), (⟨0, 0, 0⟩ : Cx), (⟨0, 0, 0⟩ : Cx)⟩ : (A4 Cx))), t95.1] : List (A4 Cx)) : List (A4 Cx)) [.int .i64 ((mgetD m62 (⟨a5, b6⟩ : (A2 Int)) (⟨(⟨0, 0, 0⟩ : Cx), (⟨0, 0, 0⟩ : Cx), (⟨0, 0, 0⟩ : Cx), (⟨0, 0, 0⟩ : Cx)⟩ : (A4 Cx))).e0.Re), .int .i64 ((mgetD m62 (⟨a5, b6⟩ : (A2 Int)) (⟨(⟨0, 0, 0⟩ : Cx), (⟨0, 0, 0⟩ : Cx), (⟨0, 0, 0⟩ : Cx), (⟨0, 0, 0⟩ : Cx)⟩ : (A4 Cx))).e0.Im), .int .i64 ((mgetD m62 (⟨a5, b6⟩ : (A2 Int)) (⟨(⟨0, 0, 0⟩ : Cx), (⟨0, 0, 0⟩ : Cx), (⟨0, 0, 0⟩ : Cx), (⟨0, 0, 0⟩ : Cx)⟩ : (A4 Cx))).e0.Den), .int .i64 ((mgetD m62 (⟨a5, b6⟩ : (A2 Int)) (⟨(⟨0, 0, 0⟩ : Cx), (⟨0, 0, 0⟩ : Cx), (⟨0, 0, 0⟩ : Cx), (⟨0, 0, 0⟩ : Cx)⟩ : (A4 Cx))).e1.Re), .int .i64 ((mgetD m62 (⟨a5, b6⟩ : (A2 Int)) (⟨(⟨0, 0, 0⟩ : Cx), (⟨0, 0, 0⟩ : Cx), (⟨0, 0, 0⟩ : Cx), (⟨0, 0, 0⟩ : Cx)⟩ : (A4 Cx))).e1.Im), .int .i64 ((mgetD m62 (⟨a5, b6⟩ : (A2 Int)) (⟨(⟨0, 0, 0⟩ : Cx), (⟨0, 0, 0⟩ : Cx), (⟨0, 0, 0⟩ : Cx), (⟨0, 0, 0⟩ : Cx)⟩ : (A4 Cx))).e1.Den), .int .i64 ((mgetD m62 (⟨a5, b6⟩ : (A2 Int)) (⟨(⟨0, 0, 0⟩ : Cx), (⟨0, 0, 0⟩ : Cx), (⟨0, 0, 0⟩ : Cx), (⟨0, 0, 0⟩ : Cx)⟩ : (A4 Cx))).e2.Re), .int .i64 ((mgetD m62 (⟨a5, b6⟩ : (A2 Int)) (⟨(⟨0, 0, 0⟩ : Cx), (⟨0, 0, 0⟩ : Cx), (⟨0, 0, 0⟩ : Cx), (⟨0, 0, 0⟩ : Cx)⟩ : (A4 Cx))).e2.Im), .int .i64 ((mgetD m62 (⟨a5, b6⟩ : (A2 Int)) (⟨(⟨0, 0, 0⟩ : Cx), (⟨0, 0, 0⟩ : Cx), (⟨0, 0, 0⟩ : Cx), (⟨0, 0, 0⟩ : Cx)⟩ : (A4 Cx))).e2.Den), .int .i64 ((mgetD m62 (⟨a5, b6⟩ : (A2 Int)) (⟨(⟨0, 0, 0⟩ : Cx), (⟨0, 0, 0⟩ : Cx), (⟨0, 0, 0⟩ : Cx), (⟨0, 0, 0⟩ : Cx)⟩ : (A4 Cx))).e3.Re), .int .i64 ((mgetD m62 (⟨a5, b6⟩ : (A2 Int)) (⟨(⟨0, 0, 0⟩ : Cx), (⟨0, 0, 0⟩ : Cx), (⟨0, 0, 0⟩ : Cx), (⟨0, 0, 0⟩ : Cx)⟩ : (A4 Cx))).e3.Im), .int .i64 ((mgetD m62 (⟨a5, b6⟩ : (A2 Int)) (⟨(⟨0, 0, 0⟩ : Cx), (⟨0, 0, 0⟩ : Cx), (⟨0, 0, 0⟩ : Cx), (⟨0, 0, 0⟩ : Cx)⟩ : (A4 Cx))).e3.Den), .int .i64 t91.1.e0.Re, .int .i64 t91.1.e0.Im, .int .i64 t91.1.e0.Den, .int .i64 t91.1.e1.Re, .int .i64 t91.1.e1.Im, .int .i64 t91.1.e1.Den, .int .i64 t91.1.e2.Re, .int .i64 t91.1.e2.Im, .int .i64 t91.1.e2.Den, .int .i64 t91.1.e3.Re, .int .i64 t91.1.e3.Im, .int .i64 t91.1.e3.Den, .int .i64 ((mgetD m62 (⟨c7, d8⟩ : (A2 Int)) (⟨(⟨0, 0, 0⟩ : Cx), (⟨0, 0, 0⟩ : Cx), (⟨0, 0, 0⟩ : Cx), (⟨0, 0, 0⟩ : Cx)⟩ : (A4 Cx))).e0.Re), .int .i64 ((mgetD m62 (⟨c7, d8⟩ : (A2 Int)) (⟨(⟨0, 0, 0⟩ : Cx), (⟨0, 0, 0⟩ : Cx), (⟨0, 0, 0⟩ : Cx), (⟨0, 0, 0⟩ : Cx)⟩ : (A4 Cx))).e0.Im), .int .i64 ((mgetD m62 (⟨c7, d8⟩ : (A2 Int)) (⟨(⟨0, 0, 0⟩ : Cx), (⟨0, 0, 0⟩ : Cx), (⟨0, 0, 0⟩ : Cx), (⟨0, 0, 0⟩ : Cx)⟩ : (A4 Cx))).e0.Den), .int .i64 ((mgetD m62 (⟨c7, d8⟩ : (A2 Int)) (⟨(⟨0, 0, 0⟩ : Cx), (⟨0, 0, 0⟩ : Cx), (⟨0, 0, 0⟩ : Cx), (⟨0, 0, 0⟩ : Cx)⟩ : (A4 Cx))).e1.Re), .int .i64 ((mgetD m62 (⟨c7, d8⟩ : (A2 Int)) (⟨(⟨0, 0, 0⟩ : Cx), (⟨0, 0, 0⟩ : Cx), (⟨0, 0, 0⟩ : Cx), (⟨0, 0, 0⟩ : Cx)⟩ : (A4 Cx))).e1.Im), .int .i64 ((mgetD m62 (⟨c7, d8⟩ : (A2 Int)) (⟨(⟨0, 0, 0⟩ : Cx), (⟨0, 0, 0⟩ : Cx), (⟨0, 0, 0⟩ : Cx), (⟨0, 0, 0⟩ : Cx)⟩ : (A4 Cx))).e1.Den), .int .i64 ((mgetD m62 (⟨c7, d8⟩ : (A2 Int)) (⟨(⟨0, 0, 0⟩ : Cx), (⟨0, 0, 0⟩ : Cx), (⟨0, 0, 0⟩ : Cx), (⟨0, 0, 0⟩ : Cx)⟩ : (A4 Cx))).e2.Re), .int .i64 ((mgetD m62 (⟨c7, d8⟩ : (A2 Int)) (⟨(⟨0, 0, 0⟩ : Cx), (⟨0, 0, 0⟩ : Cx), (⟨0, 0, 0⟩ : Cx), (⟨0, 0, 0⟩ : Cx)⟩ : (A4 Cx))).e2.Im), .int .i64 ((mgetD m62 (⟨c7, d8⟩ : (A2 Int)) (⟨(⟨0, 0, 0⟩ : Cx), (⟨0, 0, 0⟩ : Cx), (⟨0, 0, 0⟩ : Cx), (⟨0, 0, 0⟩ : Cx)⟩ : (A4 Cx))).e2.Den), .int .i64 ((mgetD m62 (⟨c7, d8⟩ : (A2 Int)) (⟨(⟨0, 0, 0⟩ : Cx), (⟨0, 0, 0⟩ : Cx), (⟨0, 0, 0⟩ : Cx), (⟨0, 0, 0⟩ : Cx)⟩ : (A4 Cx))).e3.Re), .int .i64 ((mgetD m62 (⟨c7, d8⟩ : (A2 Int)) (⟨(⟨0, 0, 0⟩ : Cx), (⟨0, 0, 0⟩ : Cx), (⟨0, 0, 0⟩ : Cx), (⟨0, 0, 0⟩ : Cx)⟩ : (A4 Cx))).e3.Im), .int .i64 ((mgetD m62 (⟨c7, d8⟩ : (A2 Int)) (⟨(⟨0, 0, 0⟩ : Cx), (⟨0, 0, 0⟩ : Cx), (⟨0, 0, 0⟩ : Cx), (⟨0, 0, 0⟩ : Cx)⟩ : (A4 Cx))).e3.Den), .int .i64 t95.1.e0.Re, .int .i64 t95.1.e0.Im, .int .i64 t95.1.e0.Den, .int .i64 t95.1.e1.Re, .int .i64 t95.1.e1.Im, .int .i64 t95.1.e1.Den, .int .i64 t95.1.e2.Re, .int .i64 t95.1.e2.Im, .int .i64 t95.1.e2.Den, .int .i64 t95.1.e3.Re, .int .i64 t95.1.e3.Im, .int .i64 t95.1.e3.Den] false (closes_fl rfl) fun b99 => ?_
                   obtain ⟨t100, hc101, H0⟩ := bind_some H0
                   refine JL.call [] [] [] (jones_product.ok ([(mgetD m62 (⟨a5, b6⟩ : (A2 Int)) (⟨(⟨0, 0, 0⟩ : Cx), (⟨0, 0, 0⟩ : Cx), (⟨0, 0, 0⟩ : Cx), (⟨0, 0, 0⟩ : Cx)⟩ : (A4 Cx))), t91.1, (mgetD m62 (⟨c7, d8⟩ : (A2 Int)) (⟨(⟨0, 0, 0⟩ : Cx), (⟨0, 0, 0⟩ : Cx), (⟨0, 0, 0⟩ : Cx), (⟨0, 0, 0⟩ : Cx)⟩ : (A4 Cx))), t95.1] : List (A4 Cx)) (some ⟨b99, 0, none⟩) 4 _ hc101) ⟨pre_view 5 (view_row (some ⟨b99, 0, none⟩) 4 25 ((flArr4 fl_Cx).kd) ([(mgetD m62 (⟨a5, b6⟩ : (A2 Int)) (⟨(⟨0, 0, 0⟩ : Cx), (⟨0, 0, 0⟩ : Cx), (⟨0, 0, 0⟩ : Cx), (⟨0, 0, 0⟩ : Cx)⟩ : (A4 Cx))), t91.1, (mgetD m62 (⟨c7, d8⟩ : (A2 Int)) (⟨(⟨0, 0, 0⟩ : Cx), (⟨0, 0, 0⟩ : Cx), (⟨0, 0, 0⟩ : Cx), (⟨0, 0, 0⟩ : Cx)⟩ : (A4 Cx))), t95.1] : List (A4 Cx)) false true), trivial⟩ ?_
                   rintro _ _ ⟨rfl, rfl⟩
                   refine JL.pur (mv_25 t100.1) (some 161) ?_
                   refine JL.pur (.int .i64 t100.2) (some 162) ?_
                   refine JL.store 0 b9 0 25 (cl_25 zv_25) (cl_25 t100.1) tySize_25 ?_
                   refine JL.as (.int .i64 t100.2) ?_
                   refine JL.nil ?_
                   refine JQ.then_normal ?_
                   refine JQ.sub [(10, .pointer (some ⟨b9, 0, none⟩)), (11, .int .i64 t100.2)] ?_
                   refine JQ.mask [At.box b9 25 (cl_25 t100.1)] [true, false, false, false, false, false] ?_
                   refine J.ret ?_
                   obtain rfl := Option.some.inj H0
                   exact JQ.done' (rs := [.cell 10 25, .tmp 11]) (vs := [.agg #[.int .i64 t100.1.e0.Re, .int .i64 t100.1.e0.Im, .int .i64 t100.1.e0.Den, .int .i64 t100.1.e1.Re, .int .i64 t100.1.e1.Im, .int .i64 t100.1.e1.Den, .int .i64 t100.1.e2.Re, .int .i64 t100.1.e2.Im, .int .i64 t100.1.e2.Den, .int .i64 t100.1.e3.Re, .int .i64 t100.1.e3.Im, .int .i64 t100.1.e3.Den], .int .i64 t100.2]) [] (.inr rfl) ⟨⟨b9, 0, _, _, by kernel_rfl, by kernel_rfl, holds_box b9 25 (cl_25 t100.1), .inl ⟨tyAgg_25, tySize_25, rfl⟩⟩, by kernel_rfl, trivial⟩ (fun _ h => Heap.to (Heap.pick [] (by decide) h)) ⟨rfl, rfl⟩

theorem law33_example.ok  (r : (A4 Cx)) (H0 : law33_example.f = some r) :
    Does Try.prog 47 [].toArray [] [] false (fun v Δ => v = mv_25 r ∧ Δ = []) := by
 refine Does.body (vs := []) Try.func47 rfl trivial trivial fun w S => ?_
 unfold law33_example.f at H0
 refine J.seq ?_
 refine J.region ?_
 refine JL.alloc (cl_25 zv_25) fun b1 => ?_
 refine JL.nil ?_
 refine JQ.then_normal ?_
 refine J.seq ?_
 refine J.region ?_
 obtain ⟨t2, hc3, H0⟩ := bind_some H0
 refine JL.call [] [] [] (law33_of.ok 1 0 1 _ hc3) trivial ?_
 rintro _ _ ⟨rfl, rfl⟩
 obtain ⟨t4, hc5, H0⟩ := bind_some H0
 refine JL.call [] [] [] (law33_of.ok 0 1 1 _ hc5) trivial ?_
 rintro _ _ ⟨rfl, rfl⟩
 obtain ⟨t6, hc7, H0⟩ := bind_some H0
 refine JL.call [] [] [] (law33_of.ok 0 0 1 _ hc7) trivial ?_
 rintro _ _ ⟨rfl, rfl⟩
 obtain ⟨t8, hc9, H0⟩ := bind_some H0
 refine JL.call [] [] [] (law33_of.ok 2 0 1 _ hc9) trivial ?_
 rintro _ _ ⟨rfl, rfl⟩
 refine JL.pur (.agg #[.int .i64 t2.Re, .int .i64 t2.Im, .int .i64 t2.Den, .int .i64 t4.Re, .int .i64 t4.Im, .int .i64 t4.Den, .int .i64 t6.Re, .int .i64 t6.Im, .int .i64 t6.Den, .int .i64 t8.Re, .int .i64 t8.Im, .int .i64 t8.Den]) (some 5) ?_
 refine JL.store 0 b1 0 25 (cl_25 zv_25) [.int .i64 t2.Re, .int .i64 t2.Im, .int .i64 t2.Den, .int .i64 t4.Re, .int .i64 t4.Im, .int .i64 t4.Den, .int .i64 t6.Re, .int .i64 t6.Im, .int .i64 t6.Den, .int .i64 t8.Re, .int .i64 t8.Im, .int .i64 t8.Den] tySize_25 ?_
 refine JL.nil ?_
 refine JQ.then_normal ?_
 refine JQ.sub [(0, .pointer (some ⟨b1, 0, none⟩))] ?_
 refine J.ret ?_
 obtain rfl := Option.some.inj H0
 exact JQ.done' (rs := [.cell 0 25]) (vs := [.agg #[.int .i64 t2.Re, .int .i64 t2.Im, .int .i64 t2.Den, .int .i64 t4.Re, .int .i64 t4.Im, .int .i64 t4.Den, .int .i64 t6.Re, .int .i64 t6.Im, .int .i64 t6.Den, .int .i64 t8.Re, .int .i64 t8.Im, .int .i64 t8.Den]]) [] (.inr rfl) ⟨⟨b1, 0, _, _, by kernel_rfl, by kernel_rfl, holds_box b1 25 [.int .i64 t2.Re, .int .i64 t2.Im, .int .i64 t2.Den, .int .i64 t4.Re, .int .i64 t4.Im, .int .i64 t4.Den, .int .i64 t6.Re, .int .i64 t6.Im, .int .i64 t6.Den, .int .i64 t8.Re, .int .i64 t8.Im, .int .i64 t8.Den], .inl ⟨tyAgg_25, tySize_25, rfl⟩⟩, trivial⟩ (fun _ h => Heap.to (Heap.pick [] (by decide) h)) ⟨rfl, rfl⟩

theorem jones_Adjoint.ok (a1 : (A4 Cx)) (r : ((A4 Cx) × Int)) (H0 : jones_Adjoint.f a1 = some r) :
    Does Try.prog 11 [mv_25 a1].toArray [] [] false (fun v Δ => v = .tuple #[mv_25 r.1, .int .i64 r.2] ∧ Δ = []) := by
 refine Does.body (vs := [mv_25 a1]) Try.func11 rfl trivial trivial fun w S => ?_
 unfold jones_Adjoint.f at H0
 refine J.seq ?_
 refine J.region ?_
 refine JL.box (cl_25 a1) fun b2 => ?_
 refine JL.alloc (cl_25 zv_25) fun b3 => ?_
 refine JL.as (.int .i64 0) ?_
 refine JL.nil ?_
 refine JQ.then_normal ?_
 refine JQ.sub [(1, .pointer (some ⟨b2, 0, none⟩)), (2, .pointer (some ⟨b3, 0, none⟩))] ?_
 refine J.seq ?_
 refine J.seq ?_
 refine J.region ?_
 refine JL.val (mv_25 a1) (some 4) (yields_load_boxes 0 0 (cl_25 a1) (holds_box b2 25 (cl_25 a1)) tyAgg_25 tySize_25) ?_
 obtain ⟨t4, hc5, H0⟩ := bind_some H0
 refine JL.call [] [] [] (jones_valid.ok a1 _ hc5) trivial ?_
 rintro _ _ ⟨rfl, rfl⟩
 refine JL.pur (.bool (!t4)) (some 6) ?_
 refine JL.nil ?_
 refine JQ.then_normal ?_
 refine JQ.sub [(1, .pointer (some ⟨b2, 0, none⟩)), (2, .pointer (some ⟨b3, 0, none⟩)), (6, .bool (!t4))] ?_
 rcases ite_cases H0 with ⟨h6, H0⟩ | ⟨h6, H0⟩
 · refine J.cond_true h6 ?_
   refine J.seq ?_
   refine J.region ?_
   refine JL.pur (mv_25 zv_25) (some 7) ?_
   refine JL.store 1 b3 0 25 (cl_25 zv_25) (cl_25 zv_25) tySize_25 ?_
   refine JL.as (.int .i64 8) ?_
   refine JL.nil ?_
   refine JQ.then_normal ?_
   refine JQ.sub [(2, .pointer (some ⟨b3, 0, none⟩)), (3, .int .i64 8)] ?_
   refine JQ.mask [At.box b3 25 (cl_25 zv_25)] [false, true] ?_
   refine J.ret ?_
   refine JQ.then_ret ?_
   obtain rfl := Option.some.inj H0
   exact JQ.done' (rs := [.cell 2 25, .tmp 3]) (vs := [.agg #[.int .i64 0, .int .i64 0, .int .i64 0, .int .i64 0, .int .i64 0, .int .i64 0, .int .i64 0, .int .i64 0, .int .i64 0, .int .i64 0, .int .i64 0, .int .i64 0], .int .i64 8]) [] (.inr rfl) ⟨⟨b3, 0, _, _, by kernel_rfl, by kernel_rfl, holds_box b3 25 (cl_25 zv_25), .inl ⟨tyAgg_25, tySize_25, rfl⟩⟩, by kernel_rfl, trivial⟩ (fun _ h => Heap.to (Heap.pick [] (by decide) h)) ⟨rfl, rfl⟩
 · refine J.cond_false h6 ?_
   refine J.skip ?_
   refine JQ.then_normal ?_
   refine JQ.sub [(1, .pointer (some ⟨b2, 0, none⟩)), (2, .pointer (some ⟨b3, 0, none⟩))] ?_
   refine J.seq ?_
   refine J.region ?_
   refine JL.val (mv_25 a1) (some 8) (yields_load_boxes 0 0 (cl_25 a1) (holds_box b2 25 (cl_25 a1)) tyAgg_25 tySize_25) ?_
   obtain ⟨t7, hc8, H0⟩ := bind_some H0
   refine JL.call [] [] [] (jones_adjoint.ok a1 _ hc8) trivial ?_
   rintro _ _ ⟨rfl, rfl⟩
   refine JL.store 1 b3 0 25 (cl_25 zv_25) (cl_25 t7) tySize_25 ?_
   refine JL.as (.int .i64 0) ?_
   refine JL.nil ?_
   refine JQ.then_normal ?_
   refine JQ.sub [(2, .pointer (some ⟨b3, 0, none⟩)), (3, .int .i64 0)] ?_
   refine JQ.mask [At.box b3 25 (cl_25 t7)] [false, true] ?_
   refine J.ret ?_
   obtain rfl := Option.some.inj H0
   exact JQ.done' (rs := [.cell 2 25, .tmp 3]) (vs := [.agg #[.int .i64 t7.e0.Re, .int .i64 t7.e0.Im, .int .i64 t7.e0.Den, .int .i64 t7.e1.Re, .int .i64 t7.e1.Im, .int .i64 t7.e1.Den, .int .i64 t7.e2.Re, .int .i64 t7.e2.Im, .int .i64 t7.e2.Den, .int .i64 t7.e3.Re, .int .i64 t7.e3.Im, .int .i64 t7.e3.Den], .int .i64 0]) [] (.inr rfl) ⟨⟨b3, 0, _, _, by kernel_rfl, by kernel_rfl, holds_box b3 25 (cl_25 t7), .inl ⟨tyAgg_25, tySize_25, rfl⟩⟩, by kernel_rfl, trivial⟩ (fun _ h => Heap.to (Heap.pick [] (by decide) h)) ⟨rfl, rfl⟩

theorem ref33_Same.ok (a1 : (List Pol)) (Aa2 : Option Addr) (c3 : Nat) (b5 : (List Pol)) (Aa6 : Option Addr) (c7 : Nat) (r : Bool) (H0 : ref33_Same.f a1 b5 = some r) :
    Does Try.prog 23 [.slice Aa2 a1.length c3, .slice Aa6 b5.length c7].toArray [At.rd Aa2 c3 fl_Pol.kd a1 true, At.rd Aa6 c7 fl_Pol.kd b5 true] [] false (fun v Δ => v = .bool r ∧ Δ = []) := by
 refine Does.body (vs := [.slice Aa2 a1.length c3, .slice Aa6 b5.length c7]) Try.func23 rfl ⟨.inl rfl, .inl rfl, trivial⟩ trivial fun w S => ?_
 unfold ref33_Same.f at H0
 refine J.seq ?_
 refine J.region ?_
 refine JL.as (.bool false) ?_
 refine JL.nil ?_
 refine JQ.then_normal ?_
 refine JQ.sub [(0, .slice Aa2 a1.length c3), (1, .slice Aa6 b5.length c7)] ?_
 refine J.seq ?_
 refine J.seq ?_
 refine J.region ?_
 refine JL.mv (.slice Aa2 a1.length c3) ?_
 refine JL.pur (.int .i64 (a1.length : Int)) (some 7) ?_
 refine JL.mv (.slice Aa6 b5.length c7) ?_
 refine JL.pur (.int .i64 (b5.length : Int)) (some 9) ?_
 refine JL.pur (.bool (!decide ((a1.length : Int) = (b5.length : Int)))) (some 10) ?_
 refine JL.nil ?_
 refine JQ.then_normal ?_
 refine JQ.sub [(0, .slice Aa2 a1.length c3), (1, .slice Aa6 b5.length c7), (10, .bool (!decide ((a1.length : Int) = (b5.length : Int))))] ?_
 rcases ite_cases H0 with ⟨h9, H0⟩ | ⟨h9, H0⟩
 · refine J.cond_true h9 ?_
   refine J.seq ?_
   refine J.region ?_
   refine JL.as (.bool false) ?_
   refine JL.nil ?_
   refine JQ.then_normal ?_
   refine JQ.sub [(4, .bool false)] ?_
   refine JQ.mask [] [false, false] ?_
   refine J.ret ?_
   refine JQ.then_ret ?_
   obtain rfl := Option.some.inj H0
   exact JQ.done' (rs := [.tmp 4]) (vs := [.bool false]) [] (.inr rfl) ⟨by kernel_rfl, trivial⟩ (fun _ h => Heap.to h) ⟨rfl, rfl⟩
 · refine J.cond_false h9 ?_
   refine J.skip ?_
   refine JQ.then_normal ?_
   refine JQ.sub [(0, .slice Aa2 a1.length c3), (1, .slice Aa6 b5.length c7)] ?_
   refine J.seq ?_
   refine J.seq ?_
   refine J.region ?_
   refine JL.as (.int .i64 0) ?_
   refine JL.nil ?_
   refine JQ.then_normal ?_
   obtain ⟨o1, hit, H0⟩ := bind_some H0
   refine J.loop (σ := Int) (τ := Unit) (G := Unit) (G' := Unit) _ o1 (fun s g => [(0, .slice Aa2 a1.length c3), (1, .slice Aa6 b5.length c7), (5, .int .i64 s)]) (fun s g => [At.rd Aa2 c3 fl_Pol.kd a1 true, At.rd Aa6 c7 fl_Pol.kd b5 true]) (fun t => ref33_Same.k2 = some r) (fun t g => []) (fun t g => []) 0 () hit (fun _ h => Heap.to h) ?_ ?_
   · clear hit
     rintro i32 ⟨⟩ st1 H1 hb1 hr1
     replace H1 : ref33_Same.s1 a1 b5 i32 = some st1 := H1
     unfold ref33_Same.s1 at H1
     refine JQ.sub [(0, .slice Aa2 a1.length c3), (1, .slice Aa6 b5.length c7), (5, .int .i64 i32)] ?_
     refine JQ.turn (Δ' := [At.rd Aa2 c3 fl_Pol.kd a1 true, At.rd Aa6 c7 fl_Pol.kd b5 true]) (fun _ h => h.to) ?_
     refine J.seq ?_
     refine J.seq ?_
     refine J.region ?_
     refine JL.mv (.int .i64 i32) ?_
     refine JL.mv (.slice Aa2 a1.length c3) ?_
     refine JL.pur (.int .i64 (a1.length : Int)) (some 13) ?_
     refine JL.pur (.bool (decide (i32 < (a1.length : Int)))) (some 14) ?_
     refine JL.nil ?_
     refine JQ.then_normal ?_
     refine JQ.sub [(0, .slice Aa2 a1.length c3), (1, .slice Aa6 b5.length c7), (5, .int .i64 i32), (14, .bool (decide (i32 < (a1.length : Int))))] ?_
     rcases ite_cases H1 with ⟨h43, H1⟩ | ⟨h43, H1⟩
     · refine J.cond_true h43 ?_
       refine J.skip ?_
       refine JQ.then_normal ?_
       refine JQ.sub [(0, .slice Aa2 a1.length c3), (1, .slice Aa6 b5.length c7), (5, .int .i64 i32)] ?_
       refine J.seq ?_
       refine J.block ?_
       refine J.seq ?_
       refine J.draw ?_
       refine QL.mv (.slice Aa2 a1.length c3) ?_
       refine QL.mv (.int .i64 i32) ?_
       obtain ⟨⟨h44, h45⟩, H1⟩ := ite_must H1
       refine QL.ixAddr 0 15 c3 .i64 (elems_rd Aa2 c3 fl_Pol.kd a1 true) Try.underlying39 tySize_57 h44 h45 fun g46 o47 hA => ?_
       subst hA
       refine QL.val (mv_57 (ix a1 i32)) (some 20) (gives_loadEl (f := fl_Pol) 0 0 i32 (elems_rd (some ⟨g46, o47, none⟩) c3 fl_Pol.kd a1 true) h44 h45 tySize_57 (.inl ⟨tyAgg_57, rfl⟩)) ?_
       refine QL.mv (.slice Aa6 b5.length c7) ?_
       refine QL.mv (.int .i64 i32) ?_
       obtain ⟨⟨h48, h49⟩, H1⟩ := ite_must H1
       refine QL.ixAddr 1 15 c7 .i64 (elems_rd Aa6 c7 fl_Pol.kd b5 true) Try.underlying39 tySize_57 h48 h49 fun g50 o51 hA => ?_
       subst hA
       refine QL.val (mv_57 (ix b5 i32)) (some 24) (gives_loadEl (f := fl_Pol) 1 0 i32 (elems_rd (some ⟨g50, o51, none⟩) c7 fl_Pol.kd b5 true) h48 h49 tySize_57 (.inl ⟨tyAgg_57, rfl⟩)) ?_
       refine QL.val (.bool (!decide ((ix a1 i32) = (ix b5 i32)))) (some 25) (gives_neq eqg_57 (fun w => eqt_57 (ix a1 i32) (ix b5 i32) w)) ?_
       refine QL.nil ?_
       refine JA.nil ?_
       refine JQ.then_normal ?_
       refine JQ.sub [(0, .slice (some ⟨g46, o47, none⟩) a1.length c3), (1, .slice (some ⟨g50, o51, none⟩) b5.length c7), (5, .int .i64 i32), (25, .bool (!decide ((ix a1 i32) = (ix b5 i32))))] ?_
       rcases ite_cases H1 with ⟨h52, H1⟩ | ⟨h52, H1⟩
       · refine J.cond_true h52 ?_
         refine J.seq ?_
         refine J.region ?_
         refine JL.as (.bool false) ?_
         refine JL.nil ?_
         refine JQ.then_normal ?_
         refine JQ.sub [(4, .bool false)] ?_
         refine JQ.mask [] [false, false] ?_
         refine J.ret ?_
         refine JQ.blk_ret ?_
         refine JQ.then_ret ?_
         refine JQ.then_ret ?_
         refine JQ.blk_ret ?_
         refine JQ.met_ret ?_
         refine JQ.then_ret ?_
         rw [hr1 _ (Option.some.inj H1).symm, fin_ret] at H0
         obtain rfl := Option.some.inj H0
         exact JQ.done' (rs := [.tmp 4]) (vs := [.bool false]) [] (.inr rfl) ⟨by kernel_rfl, trivial⟩ (fun _ h => Heap.to h) ⟨rfl, rfl⟩
       · refine J.cond_false h52 ?_
         refine J.skip ?_
         refine JQ.blk_normal ?_
         refine JQ.then_normal ?_
         refine JQ.sub [(0, .slice (some ⟨g46, o47, none⟩) a1.length c3), (1, .slice (some ⟨g50, o51, none⟩) b5.length c7), (5, .int .i64 i32)] ?_
         refine J.region ?_
         refine JL.mv (.int .i64 i32) ?_
         refine JL.pur (.int .i64 (w64 (i32 + 1))) (some 16) ?_
         refine JL.as (.int .i64 (w64 (i32 + 1))) ?_
         refine JL.nil ?_
         refine JQ.then_normal ?_
         exact JQ.again (w64 (i32 + 1)) () (Option.some.inj H1).symm (fun _ h => Heap.to h)
     · refine J.cond_false h43 ?_
       refine J.exit ?_
       refine JQ.then_exit ?_
       refine JQ.then_exit ?_
       refine JQ.blk_exit ?_
       rw [hb1 _ (Option.some.inj H1).symm, fin_brk] at H0
       exact JQ.met () () H0 (fun _ h => Heap.to (Heap.pick [] (by decide) h))
   · clear hit H0
     rintro ⟨⟩ ⟨⟩ H0
     replace H0 : ref33_Same.k2 = some r := H0
     unfold ref33_Same.k2 at H0
     refine JQ.sub [] ?_
     refine JQ.turn (Δ' := []) (fun _ h => h.to) ?_
     refine JQ.then_normal ?_
     refine J.seq ?_
     refine J.region ?_
     refine JL.as (.bool true) ?_
     refine JL.nil ?_
     refine JQ.then_normal ?_
     refine J.ret ?_
     obtain rfl := Option.some.inj H0
     exact JQ.done' (rs := [.tmp 4]) (vs := [.bool true]) [] (.inr rfl) ⟨by kernel_rfl, trivial⟩ (fun _ h => Heap.to h) ⟨rfl, rfl⟩

theorem law33_alive.ok  (r : Bool) (H0 : law33_alive.f = some r) :
    Does Try.prog 19 [].toArray [] [] false (fun v Δ => v = .bool r ∧ Δ = []) := by
 refine Does.body (vs := []) Try.func19 rfl trivial trivial fun w S => ?_
 unfold law33_alive.f at H0
 refine J.seq ?_
 refine J.region ?_
 refine JL.as (.bool false) ?_
 refine JL.nil ?_
 refine JQ.then_normal ?_
 refine JQ.sub [] ?_
 refine J.seq ?_
 refine J.region ?_
 obtain ⟨t1, hc2, H0⟩ := bind_some H0
 refine JL.call [] [] [] (law33_example.ok _ hc2) trivial ?_
 rintro _ _ ⟨rfl, rfl⟩
 obtain ⟨t3, hc4, H0⟩ := bind_some H0
 refine JL.call [] [] [] (jones_Det.ok t1 _ hc4) trivial ?_
 rintro _ _ ⟨rfl, rfl⟩
 refine JL.mv (.tuple #[mv_23 t3.1, .int .i64 t3.2]) ?_
 refine JL.pur (mv_23 t3.1) (some 14) ?_
 refine JL.pur (.int .i64 t3.2) (some 15) ?_
 refine JL.alloc (cl_23 zv_23) fun b5 => ?_
 refine JL.store 0 b5 0 23 (cl_23 zv_23) (cl_23 t3.1) tySize_23 ?_
 refine JL.as (.int .i64 t3.2) ?_
 refine JL.nil ?_
 refine JQ.then_normal ?_
 refine JQ.sub [(1, .pointer (some ⟨b5, 0, none⟩)), (2, .int .i64 t3.2)] ?_
 refine J.seq ?_
 refine J.region ?_
 obtain ⟨t6, hc7, H0⟩ := bind_some H0
 refine JL.call [] [] [] (law33_example.ok _ hc7) trivial ?_
 rintro _ _ ⟨rfl, rfl⟩
 obtain ⟨t8, hc9, H0⟩ := bind_some H0
 refine JL.call [] [] [] (jones_Trace.ok t6 _ hc9) trivial ?_
 rintro _ _ ⟨rfl, rfl⟩
 refine JL.mv (.tuple #[mv_23 t8.1, .int .i64 t8.2]) ?_
 refine JL.pur (mv_23 t8.1) (some 19) ?_
 refine JL.pur (.int .i64 t8.2) (some 20) ?_
 refine JL.alloc (cl_23 zv_23) fun b10 => ?_
 refine JL.store 1 b10 0 23 (cl_23 zv_23) (cl_23 t8.1) tySize_23 ?_
 refine JL.as (.int .i64 t8.2) ?_
 refine JL.nil ?_
 refine JQ.then_normal ?_
 refine JQ.sub [(1, .pointer (some ⟨b5, 0, none⟩)), (2, .int .i64 t3.2), (3, .pointer (some ⟨b10, 0, none⟩)), (4, .int .i64 t8.2)] ?_
 refine J.seq ?_
 refine J.region ?_
 obtain ⟨t11, hc12, H0⟩ := bind_some H0
 refine JL.call [] [] [] (law33_example.ok _ hc12) trivial ?_
 rintro _ _ ⟨rfl, rfl⟩
 obtain ⟨t13, hc14, H0⟩ := bind_some H0
 refine JL.call [] [] [] (jones_Adjoint.ok t11 _ hc14) trivial ?_
 rintro _ _ ⟨rfl, rfl⟩
 refine JL.mv (.tuple #[mv_25 t13.1, .int .i64 t13.2]) ?_
 refine JL.pur (mv_25 t13.1) (some 24) ?_
 refine JL.pur (.int .i64 t13.2) (some 25) ?_
 refine JL.alloc (cl_25 zv_25) fun b15 => ?_
 refine JL.store 2 b15 0 25 (cl_25 zv_25) (cl_25 t13.1) tySize_25 ?_
 refine JL.as (.int .i64 t13.2) ?_
 refine JL.nil ?_
 refine JQ.then_normal ?_
 refine JQ.sub [(1, .pointer (some ⟨b5, 0, none⟩)), (2, .int .i64 t3.2), (3, .pointer (some ⟨b10, 0, none⟩)), (4, .int .i64 t8.2), (5, .pointer (some ⟨b15, 0, none⟩)), (6, .int .i64 t13.2)] ?_
 refine J.seq ?_
 refine J.region ?_
 obtain ⟨t16, hc17, H0⟩ := bind_some H0
 refine JL.call [] [] [] (law33_example.ok _ hc17) trivial ?_
 rintro _ _ ⟨rfl, rfl⟩
 obtain ⟨t18, hc19, H0⟩ := bind_some H0
 refine JL.call [] [] [] (jones_Inv.ok t16 _ hc19) trivial ?_
 rintro _ _ ⟨rfl, rfl⟩
 refine JL.mv (.tuple #[mv_25 t18.1, .int .i64 t18.2]) ?_
 refine JL.pur (mv_25 t18.1) (some 29) ?_
 refine JL.pur (.int .i64 t18.2) (some 30) ?_
 refine JL.alloc (cl_25 zv_25) fun b20 => ?_
 refine JL.store 3 b20 0 25 (cl_25 zv_25) (cl_25 t18.1) tySize_25 ?_
 refine JL.as (.int .i64 t18.2) ?_
 refine JL.nil ?_
 refine JQ.then_normal ?_
 refine JQ.sub [(1, .pointer (some ⟨b5, 0, none⟩)), (2, .int .i64 t3.2), (3, .pointer (some ⟨b10, 0, none⟩)), (4, .int .i64 t8.2), (5, .pointer (some ⟨b15, 0, none⟩)), (6, .int .i64 t13.2), (7, .pointer (some ⟨b20, 0, none⟩)), (8, .int .i64 t18.2)] ?_
 refine J.seq ?_
 refine J.region ?_
 obtain ⟨t21, hc22, H0⟩ := bind_some H0
 refine JL.call [] [] [] (law33_whole.ok 0 1 1 0 _ hc22) trivial ?_
 rintro _ _ ⟨rfl, rfl⟩
 obtain ⟨t23, hc24, H0⟩ := bind_some H0
 refine JL.call [] [] [] (law33_whole.ok 1 0 0 1 _ hc24) trivial ?_
 rintro _ _ ⟨rfl, rfl⟩
 refine JL.buildSl 25 ((flArr4 fl_Cx).kd) (([t21, t23] : List (A4 Cx)) : List (A4 Cx)) [.int .i64 t21.e0.Re, .int .i64 t21.e0.Im, .int .i64 t21.e0.Den, .int .i64 t21.e1.Re, .int .i64 t21.e1.Im, .int .i64 t21.e1.Den, .int .i64 t21.e2.Re, .int .i64 t21.e2.Im, .int .i64 t21.e2.Den, .int .i64 t21.e3.Re, .int .i64 t21.e3.Im, .int .i64 t21.e3.Den, .int .i64 t23.e0.Re, .int .i64 t23.e0.Im, .int .i64 t23.e0.Den, .int .i64 t23.e1.Re, .int .i64 t23.e1.Im, .int .i64 t23.e1.Den, .int .i64 t23.e2.Re, .int .i64 t23.e2.Im, .int .i64 t23.e2.Den, .int .i64 t23.e3.Re, .int .i64 t23.e3.Im, .int .i64 t23.e3.Den] false (closes_fl rfl) fun b25 => ?_
 obtain ⟨t26, hc27, H0⟩ := bind_some H0
 refine JL.call [] [] [] (law33_whole.ok 1 2 3 4 _ hc27) trivial ?_
 rintro _ _ ⟨rfl, rfl⟩
 refine JL.pur (.agg #[.int .i64 0, .int .i64 1, .int .i64 t26.e0.Re, .int .i64 t26.e0.Im, .int .i64 t26.e0.Den, .int .i64 t26.e1.Re, .int .i64 t26.e1.Im, .int .i64 t26.e1.Den, .int .i64 t26.e2.Re, .int .i64 t26.e2.Im, .int .i64 t26.e2.Den, .int .i64 t26.e3.Re, .int .i64 t26.e3.Im, .int .i64 t26.e3.Den, .int .i64 2]) (some 36) ?_
 refine JL.buildSl 57 fl_Pol.kd (([(⟨0, 1, t26, 2⟩ : Pol)] : List Pol) : List Pol) [.int .i64 0, .int .i64 1, .int .i64 t26.e0.Re, .int .i64 t26.e0.Im, .int .i64 t26.e0.Den, .int .i64 t26.e1.Re, .int .i64 t26.e1.Im, .int .i64 t26.e1.Den, .int .i64 t26.e2.Re, .int .i64 t26.e2.Im, .int .i64 t26.e2.Den, .int .i64 t26.e3.Re, .int .i64 t26.e3.Im, .int .i64 t26.e3.Den, .int .i64 2] false (closes_fl rfl) fun b28 => ?_
 obtain ⟨t29, hc30, H0⟩ := bind_some H0
 refine JL.call [] [] [] (jones_Act.ok ([t21, t23] : List (A4 Cx)) (some ⟨b25, 0, none⟩) 2 ([(⟨0, 1, t26, 2⟩ : Pol)] : List Pol) (some ⟨b28, 0, none⟩) 1 _ hc30) ⟨pre_view 4 (view_row (some ⟨b25, 0, none⟩) 2 25 ((flArr4 fl_Cx).kd) ([t21, t23] : List (A4 Cx)) false true), ⟨pre_view 5 (view_row (some ⟨b28, 0, none⟩) 1 57 fl_Pol.kd ([(⟨0, 1, t26, 2⟩ : Pol)] : List Pol) false true), trivial⟩⟩ ?_
 rintro _ _ ⟨Aa31, c32, rfl, rfl⟩
 refine JL.mv (.tuple #[.slice Aa31 t29.1.length c32, .int .i64 t29.2]) ?_
 refine JL.pur (.slice Aa31 t29.1.length c32) (some 39) ?_
 refine JL.pur (.int .i64 t29.2) (some 40) ?_
 refine JL.as (.slice Aa31 t29.1.length c32) ?_
 refine JL.as (.int .i64 t29.2) ?_
 refine JL.nil ?_
 refine JQ.then_normal ?_
 refine JQ.sub [(1, .pointer (some ⟨b5, 0, none⟩)), (2, .int .i64 t3.2), (3, .pointer (some ⟨b10, 0, none⟩)), (4, .int .i64 t8.2), (5, .pointer (some ⟨b15, 0, none⟩)), (6, .int .i64 t13.2), (7, .pointer (some ⟨b20, 0, none⟩)), (8, .int .i64 t18.2), (9, .slice Aa31 t29.1.length c32), (10, .int .i64 t29.2)] ?_
 refine JQ.mask [At.box b5 23 (cl_23 t3.1), At.box b10 23 (cl_23 t8.1), At.box b15 25 (cl_25 t13.1), At.box b20 25 (cl_25 t18.1), At.row Aa31 c32 57 fl_Pol.kd t29.1 false] [true, true, true, true, false, false, true] ?_
 refine J.seq ?_
 rcases ite_cases H0 with ⟨h34, H0⟩ | ⟨h34, H0⟩
 · obtain ⟨t35, hc36, H0⟩ := bind_some H0
   rcases ite_cases H0 with ⟨h37, H0⟩ | ⟨h37, H0⟩
   · rcases ite_cases H0 with ⟨h38, H0⟩ | ⟨h38, H0⟩
     · obtain ⟨t39, hc40, H0⟩ := bind_some H0
       rcases ite_cases H0 with ⟨h41, H0⟩ | ⟨h41, H0⟩
       · rcases ite_cases H0 with ⟨h42, H0⟩ | ⟨h42, H0⟩
         · obtain ⟨t43, hc44, H0⟩ := bind_some H0
           obtain ⟨t45, hc46, H0⟩ := bind_some H0
           obtain ⟨t47, hc48, H0⟩ := bind_some H0
           obtain ⟨t49, hc50, H0⟩ := bind_some H0
           rcases ite_cases H0 with ⟨h51, H0⟩ | ⟨h51, H0⟩
           · rcases ite_cases H0 with ⟨h52, H0⟩ | ⟨h52, H0⟩
             · obtain ⟨t53, hc54, H0⟩ := bind_some H0
               obtain ⟨t55, hc56, H0⟩ := bind_some H0
               obtain ⟨t57, hc58, H0⟩ := bind_some H0
               obtain ⟨t59, hc60, H0⟩ := bind_some H0
               rcases ite_cases H0 with ⟨h61, H0⟩ | ⟨h61, H0⟩
               · rcases ite_cases H0 with ⟨h62, H0⟩ | ⟨h62, H0⟩
                 · obtain ⟨t63, hc64, H0⟩ := bind_some H0
                   obtain ⟨t66, hc67, H0⟩ := bind_some H0
                   refine JY.start [] (ba 54 0) ?_
                   refine JY.pur (hi := rfl) 0 (ba 54 1) (.int .i64 t3.2) (some 41) want ?_
                   refine JY.pur (hi := rfl) 1 (ba 54 3) (.bool (decide (t3.2 = 0))) (some 42) want ?_
                   refine JY.pur (hi := rfl) 2 (ba 54 7) (.bool (decide (t3.2 = 0))) (some 43) want ?_
                   refine JY.takeG 3 (ba 54 15) (mv_23 t3.1) (some 44) [true, true, true, true, true] rfl (wantOn 2 43 h34) (yields_load_boxes 0 0 (cl_23 t3.1) (holds_box b5 23 (cl_23 t3.1)) tyAgg_23 tySize_23) ?_
                   refine JY.all [4] ⟨⟨_, rfl, ?_⟩, trivial⟩
                   refine JL.on 2 43 h34 ?_
                   refine JL.call [] [] [] (law33_of.ok 2 0 1 _ hc36) trivial ?_
                   rintro _ _ ⟨rfl, rfl⟩
                   refine JL.nil ?_
                   refine JY.ran (ba 54 31) [true, true, true, true, true] ?_
                   refine JY.takeG 5 (ba 54 63) (.bool (decide (t3.1 = t35))) (some 46) [true, true, true, true, true] rfl (wantOn 2 43 h34) (gives_eql eqg_23 (fun w => eqt_23 t3.1 t35 w)) ?_
                   refine JY.puw (hi := rfl) 6 (ba 54 127) (.bool (decide (t3.1 = t35))) (some 47) want (givesW_pickT h34) ?_
                   refine JY.pur (hi := rfl) 7 (ba 54 255) (.bool (decide (t3.1 = t35))) (some 48) want ?_
                   refine JY.pur (hi := rfl) 8 (ba 54 511) (.int .i64 t8.2) (some 49) (wantOn 7 48 h37) ?_
                   refine JY.pur (hi := rfl) 9 (ba 54 1023) (.bool (decide (t8.2 = 0))) (some 50) (wantOn 7 48 h37) ?_
                   refine JY.puw (hi := rfl) 10 (ba 54 2047) (.bool (decide (t8.2 = 0))) (some 51) want (givesW_pickT h37) ?_
                   refine JY.pur (hi := rfl) 11 (ba 54 4095) (.bool (decide (t8.2 = 0))) (some 52) want ?_
                   refine JY.takeG 12 (ba 54 8191) (mv_23 t8.1) (some 53) [true, true, true, true, true] rfl (wantOn 11 52 h38) (yields_load_boxes 1 0 (cl_23 t8.1) (holds_box b10 23 (cl_23 t8.1)) tyAgg_23 tySize_23) ?_
                   refine JY.all [13] ⟨⟨_, rfl, ?_⟩, trivial⟩
                   refine JL.on 11 52 h38 ?_
                   refine JL.call [] [] [] (law33_of.ok 3 0 1 _ hc40) trivial ?_
                   rintro _ _ ⟨rfl, rfl⟩
                   refine JL.nil ?_
                   refine JY.ran (ba 54 16383) [true, true, true, true, true] ?_
                   refine JY.takeG 14 (ba 54 32767) (.bool (decide (t8.1 = t39))) (some 55) [true, true, true, true, true] rfl (wantOn 11 52 h38) (gives_eql eqg_23 (fun w => eqt_23 t8.1 t39 w)) ?_
                   refine JY.puw (hi := rfl) 15 (ba 54 65535) (.bool (decide (t8.1 = t39))) (some 56) want (givesW_pickT h38) ?_
                   refine JY.pur (hi := rfl) 16 (ba 54 131071) (.bool (decide (t8.1 = t39))) (some 57) want ?_
                   refine JY.pur (hi := rfl) 17 (ba 54 262143) (.int .i64 t13.2) (some 58) (wantOn 16 57 h41) ?_
                   refine JY.pur (hi := rfl) 18 (ba 54 524287) (.bool (decide (t13.2 = 0))) (some 59) (wantOn 16 57 h41) ?_
                   refine JY.puw (hi := rfl) 19 (ba 54 1048575) (.bool (decide (t13.2 = 0))) (some 60) want (givesW_pickT h41) ?_
                   refine JY.pur (hi := rfl) 20 (ba 54 2097151) (.bool (decide (t13.2 = 0))) (some 61) want ?_
                   refine JY.takeG 21 (ba 54 4194303) (mv_25 t13.1) (some 62) [true, true, true, true, true] rfl (wantOn 20 61 h42) (yields_load_boxes 2 0 (cl_25 t13.1) (holds_box b15 25 (cl_25 t13.1)) tyAgg_25 tySize_25) ?_
                   refine JY.all [22] ⟨⟨_, rfl, ?_⟩, trivial⟩
                   refine JL.on 20 61 h42 ?_
                   refine JL.call [] [] [] (law33_of.ok 1 0 1 _ hc44) trivial ?_
                   rintro _ _ ⟨rfl, rfl⟩
                   refine JL.nil ?_
                   refine JY.ran (ba 54 8388607) [true, true, true, true, true] ?_
                   refine JY.all [23] ⟨⟨_, rfl, ?_⟩, trivial⟩
                   refine JL.on 20 61 h42 ?_
                   refine JL.call [] [] [] (law33_of.ok 0 0 1 _ hc46) trivial ?_
                   rintro _ _ ⟨rfl, rfl⟩
                   refine JL.nil ?_
                   refine JY.ran (ba 54 16777215) [true, true, true, true, true] ?_
                   refine JY.all [24] ⟨⟨_, rfl, ?_⟩, trivial⟩
                   refine JL.on 20 61 h42 ?_
                   refine JL.call [] [] [] (law33_of.ok 0 (-1) 1 _ hc48) trivial ?_
                   rintro _ _ ⟨rfl, rfl⟩
                   refine JL.nil ?_
                   refine JY.ran (ba 54 33554431) [true, true, true, true, true] ?_
                   refine JY.all [25] ⟨⟨_, rfl, ?_⟩, trivial⟩
                   refine JL.on 20 61 h42 ?_
                   refine JL.call [] [] [] (law33_of.ok 2 0 1 _ hc50) trivial ?_
                   rintro _ _ ⟨rfl, rfl⟩
                   refine JL.nil ?_
                   refine JY.ran (ba 54 67108863) [true, true, true, true, true] ?_
                   refine JY.pur (hi := rfl) 26 (ba 54 134217727) (.agg #[.int .i64 t43.Re, .int .i64 t43.Im, .int .i64 t43.Den, .int .i64 t45.Re, .int .i64 t45.Im, .int .i64 t45.Den, .int .i64 t47.Re, .int .i64 t47.Im, .int .i64 t47.Den, .int .i64 t49.Re, .int .i64 t49.Im, .int .i64 t49.Den]) (some 67) (wantOn 20 61 h42) ?_
                   refine JY.takeG 27 (ba 54 268435455) (.bool (decide (t13.1 = (⟨t43, t45, t47, t49⟩ : (A4 Cx))))) (some 68) [true, true, true, true, true] rfl (wantOn 20 61 h42) (gives_eql eqg_25 (fun w => eqt_25 t13.1 (⟨t43, t45, t47, t49⟩ : (A4 Cx)) w)) ?_
                   refine JY.puw (hi := rfl) 28 (ba 54 536870911) (.bool (decide (t13.1 = (⟨t43, t45, t47, t49⟩ : (A4 Cx))))) (some 69) want (givesW_pickT h42) ?_
                   refine JY.pur (hi := rfl) 29 (ba 54 1073741823) (.bool (decide (t13.1 = (⟨t43, t45, t47, t49⟩ : (A4 Cx))))) (some 70) want ?_
                   refine JY.pur (hi := rfl) 30 (ba 54 2147483647) (.int .i64 t18.2) (some 71) (wantOn 29 70 h51) ?_
                   refine JY.pur (hi := rfl) 31 (ba 54 4294967295) (.bool (decide (t18.2 = 0))) (some 72) (wantOn 29 70 h51) ?_
                   refine JY.puw (hi := rfl) 32 (ba 54 8589934591) (.bool (decide (t18.2 = 0))) (some 73) want (givesW_pickT h51) ?_
                   refine JY.pur (hi := rfl) 33 (ba 54 17179869183) (.bool (decide (t18.2 = 0))) (some 74) want ?_
                   refine JY.takeG 34 (ba 54 34359738367) (mv_25 t18.1) (some 75) [true, true, true, true, true] rfl (wantOn 33 74 h52) (yields_load_boxes 3 0 (cl_25 t18.1) (holds_box b20 25 (cl_25 t18.1)) tyAgg_25 tySize_25) ?_
                   refine JY.all [35] ⟨⟨_, rfl, ?_⟩, trivial⟩
                   refine JL.on 33 74 h52 ?_
                   refine JL.call [] [] [] (law33_of.ok 1 0 1 _ hc54) trivial ?_
                   rintro _ _ ⟨rfl, rfl⟩
                   refine JL.nil ?_
                   refine JY.ran (ba 54 68719476735) [true, true, true, true, true] ?_
                   refine JY.all [36] ⟨⟨_, rfl, ?_⟩, trivial⟩
                   refine JL.on 33 74 h52 ?_
                   refine JL.call [] [] [] (law33_of.ok 0 (-1) 2 _ hc56) trivial ?_
                   rintro _ _ ⟨rfl, rfl⟩
                   refine JL.nil ?_
                   refine JY.ran (ba 54 137438953471) [true, true, true, true, true] ?_
                   refine JY.all [37] ⟨⟨_, rfl, ?_⟩, trivial⟩
                   refine JL.on 33 74 h52 ?_
                   refine JL.call [] [] [] (law33_of.ok 0 0 1 _ hc58) trivial ?_
                   rintro _ _ ⟨rfl, rfl⟩
                   refine JL.nil ?_
                   refine JY.ran (ba 54 274877906943) [true, true, true, true, true] ?_
                   refine JY.all [38] ⟨⟨_, rfl, ?_⟩, trivial⟩
                   refine JL.on 33 74 h52 ?_
                   refine JL.call [] [] [] (law33_of.ok 1 0 2 _ hc60) trivial ?_
                   rintro _ _ ⟨rfl, rfl⟩
                   refine JL.nil ?_
                   refine JY.ran (ba 54 549755813887) [true, true, true, true, true] ?_
                   refine JY.pur (hi := rfl) 39 (ba 54 1099511627775) (.agg #[.int .i64 t53.Re, .int .i64 t53.Im, .int .i64 t53.Den, .int .i64 t55.Re, .int .i64 t55.Im, .int .i64 t55.Den, .int .i64 t57.Re, .int .i64 t57.Im, .int .i64 t57.Den, .int .i64 t59.Re, .int .i64 t59.Im, .int .i64 t59.Den]) (some 80) (wantOn 33 74 h52) ?_
                   refine JY.takeG 40 (ba 54 2199023255551) (.bool (decide (t18.1 = (⟨t53, t55, t57, t59⟩ : (A4 Cx))))) (some 81) [true, true, true, true, true] rfl (wantOn 33 74 h52) (gives_eql eqg_25 (fun w => eqt_25 t18.1 (⟨t53, t55, t57, t59⟩ : (A4 Cx)) w)) ?_
                   refine JY.puw (hi := rfl) 41 (ba 54 4398046511103) (.bool (decide (t18.1 = (⟨t53, t55, t57, t59⟩ : (A4 Cx))))) (some 82) want (givesW_pickT h52) ?_
                   refine JY.pur (hi := rfl) 42 (ba 54 8796093022207) (.bool (decide (t18.1 = (⟨t53, t55, t57, t59⟩ : (A4 Cx))))) (some 83) want ?_
                   refine JY.pur (hi := rfl) 43 (ba 54 17592186044415) (.int .i64 t29.2) (some 84) (wantOn 42 83 h61) ?_
                   refine JY.pur (hi := rfl) 44 (ba 54 35184372088831) (.bool (decide (t29.2 = 0))) (some 85) (wantOn 42 83 h61) ?_
                   refine JY.puw (hi := rfl) 45 (ba 54 70368744177663) (.bool (decide (t29.2 = 0))) (some 86) want (givesW_pickT h61) ?_
                   refine JY.pur (hi := rfl) 46 (ba 54 140737488355327) (.bool (decide (t29.2 = 0))) (some 87) want ?_
                   refine JY.pur (hi := rfl) 47 (ba 54 281474976710655) (.slice Aa31 t29.1.length c32) (some 88) (wantOn 46 87 h62) ?_
                   refine JY.all [48] ⟨⟨_, rfl, ?_⟩, trivial⟩
                   refine JL.on 46 87 h62 ?_
                   refine JL.call [] [] [] (law33_whole.ok 3 4 1 2 _ hc64) trivial ?_
                   rintro _ _ ⟨rfl, rfl⟩
                   refine JL.nil ?_
                   refine JY.ran (ba 54 562949953421311) [true, true, true, true, true] ?_
                   refine JY.pur (hi := rfl) 49 (ba 54 1125899906842623) (.agg #[.int .i64 0, .int .i64 1, .int .i64 t63.e0.Re, .int .i64 t63.e0.Im, .int .i64 t63.e0.Den, .int .i64 t63.e1.Re, .int .i64 t63.e1.Im, .int .i64 t63.e1.Den, .int .i64 t63.e2.Re, .int .i64 t63.e2.Im, .int .i64 t63.e2.Den, .int .i64 t63.e3.Re, .int .i64 t63.e3.Im, .int .i64 t63.e3.Den, .int .i64 2]) (some 90) (wantOn 46 87 h62) ?_
                   refine JY.all [50] ⟨⟨_, rfl, ?_⟩, trivial⟩
                   refine JL.on 46 87 h62 ?_
                   refine JL.buildSl 57 fl_Pol.kd (([(⟨0, 1, t63, 2⟩ : Pol)] : List Pol) : List Pol) [.int .i64 0, .int .i64 1, .int .i64 t63.e0.Re, .int .i64 t63.e0.Im, .int .i64 t63.e0.Den, .int .i64 t63.e1.Re, .int .i64 t63.e1.Im, .int .i64 t63.e1.Den, .int .i64 t63.e2.Re, .int .i64 t63.e2.Im, .int .i64 t63.e2.Den, .int .i64 t63.e3.Re, .int .i64 t63.e3.Im, .int .i64 t63.e3.Den, .int .i64 2] false (closes_fl rfl) fun b90 => ?_
                   refine JL.nil ?_
                   refine JY.ran (ba 54 2251799813685247) [true, true, true, true, true, false] ?_
                   refine JY.all [51] ⟨⟨_, rfl, ?_⟩, trivial⟩
                   refine JL.on 46 87 h62 ?_
                   refine JL.call [] [] [] (ref33_Same.ok t29.1 Aa31 c32 ([(⟨0, 1, t63, 2⟩ : Pol)] : List Pol) (some ⟨b90, 0, none⟩) 1 _ hc67) ⟨pre_view 4 (view_row Aa31 c32 57 fl_Pol.kd t29.1 false true), ⟨pre_view 5 (view_row (some ⟨b90, 0, none⟩) 1 57 fl_Pol.kd ([(⟨0, 1, t63, 2⟩ : Pol)] : List Pol) false true), trivial⟩⟩ ?_
                   rintro _ _ ⟨rfl, rfl⟩
                   refine JL.nil ?_
                   refine JY.ran (ba 54 4503599627370495) [true, true, true, true, true, false] ?_
                   refine JY.puw (hi := rfl) 52 (ba 54 9007199254740991) (.bool t66) (some 93) want (givesW_pickT h62) ?_
                   refine JY.pur (hi := rfl) 53 (ba 54 18014398509481983) (.bool t66) (some 0) want ?_
                   refine JY.done ?_
                   refine JQ.then_normal ?_
                   refine JQ.sub [(0, .bool t66)] ?_
                   refine JQ.mask [] [false, false, false, false, false, false] ?_
                   refine J.ret ?_
                   obtain rfl := Option.some.inj H0
                   exact JQ.done' (rs := [.tmp 0]) (vs := [.bool t66]) [] (.inr rfl) ⟨by kernel_rfl, trivial⟩ (fun _ h => Heap.to h) ⟨rfl, rfl⟩
                 · refine JY.start [] (ba 54 0) ?_
                   refine JY.pur (hi := rfl) 0 (ba 54 1) (.int .i64 t3.2) (some 41) want ?_
                   refine JY.pur (hi := rfl) 1 (ba 54 3) (.bool (decide (t3.2 = 0))) (some 42) want ?_
                   refine JY.pur (hi := rfl) 2 (ba 54 7) (.bool (decide (t3.2 = 0))) (some 43) want ?_
                   refine JY.takeG 3 (ba 54 15) (mv_23 t3.1) (some 44) [true, true, true, true, true] rfl (wantOn 2 43 h34) (yields_load_boxes 0 0 (cl_23 t3.1) (holds_box b5 23 (cl_23 t3.1)) tyAgg_23 tySize_23) ?_
                   refine JY.all [4] ⟨⟨_, rfl, ?_⟩, trivial⟩
                   refine JL.on 2 43 h34 ?_
                   refine JL.call [] [] [] (law33_of.ok 2 0 1 _ hc36) trivial ?_
                   rintro _ _ ⟨rfl, rfl⟩
                   refine JL.nil ?_
                   refine JY.ran (ba 54 31) [true, true, true, true, true] ?_
                   refine JY.takeG 5 (ba 54 63) (.bool (decide (t3.1 = t35))) (some 46) [true, true, true, true, true] rfl (wantOn 2 43 h34) (gives_eql eqg_23 (fun w => eqt_23 t3.1 t35 w)) ?_
                   refine JY.puw (hi := rfl) 6 (ba 54 127) (.bool (decide (t3.1 = t35))) (some 47) want (givesW_pickT h34) ?_
                   refine JY.pur (hi := rfl) 7 (ba 54 255) (.bool (decide (t3.1 = t35))) (some 48) want ?_
                   refine JY.pur (hi := rfl) 8 (ba 54 511) (.int .i64 t8.2) (some 49) (wantOn 7 48 h37) ?_
                   refine JY.pur (hi := rfl) 9 (ba 54 1023) (.bool (decide (t8.2 = 0))) (some 50) (wantOn 7 48 h37) ?_
                   refine JY.puw (hi := rfl) 10 (ba 54 2047) (.bool (decide (t8.2 = 0))) (some 51) want (givesW_pickT h37) ?_
                   refine JY.pur (hi := rfl) 11 (ba 54 4095) (.bool (decide (t8.2 = 0))) (some 52) want ?_
                   refine JY.takeG 12 (ba 54 8191) (mv_23 t8.1) (some 53) [true, true, true, true, true] rfl (wantOn 11 52 h38) (yields_load_boxes 1 0 (cl_23 t8.1) (holds_box b10 23 (cl_23 t8.1)) tyAgg_23 tySize_23) ?_
                   refine JY.all [13] ⟨⟨_, rfl, ?_⟩, trivial⟩
                   refine JL.on 11 52 h38 ?_
                   refine JL.call [] [] [] (law33_of.ok 3 0 1 _ hc40) trivial ?_
                   rintro _ _ ⟨rfl, rfl⟩
                   refine JL.nil ?_
                   refine JY.ran (ba 54 16383) [true, true, true, true, true] ?_
                   refine JY.takeG 14 (ba 54 32767) (.bool (decide (t8.1 = t39))) (some 55) [true, true, true, true, true] rfl (wantOn 11 52 h38) (gives_eql eqg_23 (fun w => eqt_23 t8.1 t39 w)) ?_
                   refine JY.puw (hi := rfl) 15 (ba 54 65535) (.bool (decide (t8.1 = t39))) (some 56) want (givesW_pickT h38) ?_
                   refine JY.pur (hi := rfl) 16 (ba 54 131071) (.bool (decide (t8.1 = t39))) (some 57) want ?_
                   refine JY.pur (hi := rfl) 17 (ba 54 262143) (.int .i64 t13.2) (some 58) (wantOn 16 57 h41) ?_
                   refine JY.pur (hi := rfl) 18 (ba 54 524287) (.bool (decide (t13.2 = 0))) (some 59) (wantOn 16 57 h41) ?_
                   refine JY.puw (hi := rfl) 19 (ba 54 1048575) (.bool (decide (t13.2 = 0))) (some 60) want (givesW_pickT h41) ?_
                   refine JY.pur (hi := rfl) 20 (ba 54 2097151) (.bool (decide (t13.2 = 0))) (some 61) want ?_
                   refine JY.takeG 21 (ba 54 4194303) (mv_25 t13.1) (some 62) [true, true, true, true, true] rfl (wantOn 20 61 h42) (yields_load_boxes 2 0 (cl_25 t13.1) (holds_box b15 25 (cl_25 t13.1)) tyAgg_25 tySize_25) ?_
                   refine JY.all [22] ⟨⟨_, rfl, ?_⟩, trivial⟩
                   refine JL.on 20 61 h42 ?_
                   refine JL.call [] [] [] (law33_of.ok 1 0 1 _ hc44) trivial ?_
                   rintro _ _ ⟨rfl, rfl⟩
                   refine JL.nil ?_
                   refine JY.ran (ba 54 8388607) [true, true, true, true, true] ?_
                   refine JY.all [23] ⟨⟨_, rfl, ?_⟩, trivial⟩
                   refine JL.on 20 61 h42 ?_
                   refine JL.call [] [] [] (law33_of.ok 0 0 1 _ hc46) trivial ?_
                   rintro _ _ ⟨rfl, rfl⟩
                   refine JL.nil ?_
                   refine JY.ran (ba 54 16777215) [true, true, true, true, true] ?_
                   refine JY.all [24] ⟨⟨_, rfl, ?_⟩, trivial⟩
                   refine JL.on 20 61 h42 ?_
                   refine JL.call [] [] [] (law33_of.ok 0 (-1) 1 _ hc48) trivial ?_
                   rintro _ _ ⟨rfl, rfl⟩
                   refine JL.nil ?_
                   refine JY.ran (ba 54 33554431) [true, true, true, true, true] ?_
                   refine JY.all [25] ⟨⟨_, rfl, ?_⟩, trivial⟩
                   refine JL.on 20 61 h42 ?_
                   refine JL.call [] [] [] (law33_of.ok 2 0 1 _ hc50) trivial ?_
                   rintro _ _ ⟨rfl, rfl⟩
                   refine JL.nil ?_
                   refine JY.ran (ba 54 67108863) [true, true, true, true, true] ?_
                   refine JY.pur (hi := rfl) 26 (ba 54 134217727) (.agg #[.int .i64 t43.Re, .int .i64 t43.Im, .int .i64 t43.Den, .int .i64 t45.Re, .int .i64 t45.Im, .int .i64 t45.Den, .int .i64 t47.Re, .int .i64 t47.Im, .int .i64 t47.Den, .int .i64 t49.Re, .int .i64 t49.Im, .int .i64 t49.Den]) (some 67) (wantOn 20 61 h42) ?_
                   refine JY.takeG 27 (ba 54 268435455) (.bool (decide (t13.1 = (⟨t43, t45, t47, t49⟩ : (A4 Cx))))) (some 68) [true, true, true, true, true] rfl (wantOn 20 61 h42) (gives_eql eqg_25 (fun w => eqt_25 t13.1 (⟨t43, t45, t47, t49⟩ : (A4 Cx)) w)) ?_
                   refine JY.puw (hi := rfl) 28 (ba 54 536870911) (.bool (decide (t13.1 = (⟨t43, t45, t47, t49⟩ : (A4 Cx))))) (some 69) want (givesW_pickT h42) ?_
                   refine JY.pur (hi := rfl) 29 (ba 54 1073741823) (.bool (decide (t13.1 = (⟨t43, t45, t47, t49⟩ : (A4 Cx))))) (some 70) want ?_
                   refine JY.pur (hi := rfl) 30 (ba 54 2147483647) (.int .i64 t18.2) (some 71) (wantOn 29 70 h51) ?_
                   refine JY.pur (hi := rfl) 31 (ba 54 4294967295) (.bool (decide (t18.2 = 0))) (some 72) (wantOn 29 70 h51) ?_
                   refine JY.puw (hi := rfl) 32 (ba 54 8589934591) (.bool (decide (t18.2 = 0))) (some 73) want (givesW_pickT h51) ?_
                   refine JY.pur (hi := rfl) 33 (ba 54 17179869183) (.bool (decide (t18.2 = 0))) (some 74) want ?_
                   refine JY.takeG 34 (ba 54 34359738367) (mv_25 t18.1) (some 75) [true, true, true, true, true] rfl (wantOn 33 74 h52) (yields_load_boxes 3 0 (cl_25 t18.1) (holds_box b20 25 (cl_25 t18.1)) tyAgg_25 tySize_25) ?_
                   refine JY.all [35] ⟨⟨_, rfl, ?_⟩, trivial⟩
                   refine JL.on 33 74 h52 ?_
                   refine JL.call [] [] [] (law33_of.ok 1 0 1 _ hc54) trivial ?_
                   rintro _ _ ⟨rfl, rfl⟩
                   refine JL.nil ?_
                   refine JY.ran (ba 54 68719476735) [true, true, true, true, true] ?_
                   refine JY.all [36] ⟨⟨_, rfl, ?_⟩, trivial⟩
                   refine JL.on 33 74 h52 ?_
                   refine JL.call [] [] [] (law33_of.ok 0 (-1) 2 _ hc56) trivial ?_
                   rintro _ _ ⟨rfl, rfl⟩
                   refine JL.nil ?_
                   refine JY.ran (ba 54 137438953471) [true, true, true, true, true] ?_
                   refine JY.all [37] ⟨⟨_, rfl, ?_⟩, trivial⟩
                   refine JL.on 33 74 h52 ?_
                   refine JL.call [] [] [] (law33_of.ok 0 0 1 _ hc58) trivial ?_
                   rintro _ _ ⟨rfl, rfl⟩
                   refine JL.nil ?_
                   refine JY.ran (ba 54 274877906943) [true, true, true, true, true] ?_
                   refine JY.all [38] ⟨⟨_, rfl, ?_⟩, trivial⟩
                   refine JL.on 33 74 h52 ?_
                   refine JL.call [] [] [] (law33_of.ok 1 0 2 _ hc60) trivial ?_
                   rintro _ _ ⟨rfl, rfl⟩
                   refine JL.nil ?_
                   refine JY.ran (ba 54 549755813887) [true, true, true, true, true] ?_
                   refine JY.pur (hi := rfl) 39 (ba 54 1099511627775) (.agg #[.int .i64 t53.Re, .int .i64 t53.Im, .int .i64 t53.Den, .int .i64 t55.Re, .int .i64 t55.Im, .int .i64 t55.Den, .int .i64 t57.Re, .int .i64 t57.Im, .int .i64 t57.Den, .int .i64 t59.Re, .int .i64 t59.Im, .int .i64 t59.Den]) (some 80) (wantOn 33 74 h52) ?_
                   refine JY.takeG 40 (ba 54 2199023255551) (.bool (decide (t18.1 = (⟨t53, t55, t57, t59⟩ : (A4 Cx))))) (some 81) [true, true, true, true, true] rfl (wantOn 33 74 h52) (gives_eql eqg_25 (fun w => eqt_25 t18.1 (⟨t53, t55, t57, t59⟩ : (A4 Cx)) w)) ?_
                   refine JY.puw (hi := rfl) 41 (ba 54 4398046511103) (.bool (decide (t18.1 = (⟨t53, t55, t57, t59⟩ : (A4 Cx))))) (some 82) want (givesW_pickT h52) ?_
                   refine JY.pur (hi := rfl) 42 (ba 54 8796093022207) (.bool (decide (t18.1 = (⟨t53, t55, t57, t59⟩ : (A4 Cx))))) (some 83) want ?_
                   refine JY.pur (hi := rfl) 43 (ba 54 17592186044415) (.int .i64 t29.2) (some 84) (wantOn 42 83 h61) ?_
                   refine JY.pur (hi := rfl) 44 (ba 54 35184372088831) (.bool (decide (t29.2 = 0))) (some 85) (wantOn 42 83 h61) ?_
                   refine JY.puw (hi := rfl) 45 (ba 54 70368744177663) (.bool (decide (t29.2 = 0))) (some 86) want (givesW_pickT h61) ?_
                   refine JY.pur (hi := rfl) 46 (ba 54 140737488355327) (.bool (decide (t29.2 = 0))) (some 87) want ?_
                   refine JY.skip (hi := rfl) 47 (ba 54 281474976710655) (some 88) (wantOff 46 87 true h62) ?_
                   refine JY.skip (hi := rfl) 48 (ba 54 562949953421311) (some 89) (wantOff 46 87 true h62) ?_
                   refine JY.skip (hi := rfl) 49 (ba 54 1125899906842623) (some 90) (wantOff 46 87 true h62) ?_
                   refine JY.skip (hi := rfl) 50 (ba 54 2251799813685247) (some 91) (wantOff 46 87 true h62) ?_
                   refine JY.skip (hi := rfl) 51 (ba 54 4503599627370495) (some 92) (wantOff 46 87 true h62) ?_
                   refine JY.puw (hi := rfl) 52 (ba 54 9007199254740991) (.bool false) (some 93) want (givesW_pickF h62) ?_
                   refine JY.pur (hi := rfl) 53 (ba 54 18014398509481983) (.bool false) (some 0) want ?_
                   refine JY.done ?_
                   refine JQ.then_normal ?_
                   refine JQ.sub [(0, .bool false)] ?_
                   refine JQ.mask [] [false, false, false, false, false] ?_
                   refine J.ret ?_
                   obtain rfl := Option.some.inj H0
                   exact JQ.done' (rs := [.tmp 0]) (vs := [.bool false]) [] (.inr rfl) ⟨by kernel_rfl, trivial⟩ (fun _ h => Heap.to h) ⟨rfl, rfl⟩
               · refine JY.start [] (ba 54 0) ?_
                 refine JY.pur (hi := rfl) 0 (ba 54 1) (.int .i64 t3.2) (some 41) want ?_
                 refine JY.pur (hi := rfl) 1 (ba 54 3) (.bool (decide (t3.2 = 0))) (some 42) want ?_
                 refine JY.pur (hi := rfl) 2 (ba 54 7) (.bool (decide (t3.2 = 0))) (some 43) want ?_
                 refine JY.takeG 3 (ba 54 15) (mv_23 t3.1) (some 44) [true, true, true, true, true] rfl (wantOn 2 43 h34) (yields_load_boxes 0 0 (cl_23 t3.1) (holds_box b5 23 (cl_23 t3.1)) tyAgg_23 tySize_23) ?_
                 refine JY.all [4] ⟨⟨_, rfl, ?_⟩, trivial⟩
                 refine JL.on 2 43 h34 ?_
                 refine JL.call [] [] [] (law33_of.ok 2 0 1 _ hc36) trivial ?_
                 rintro _ _ ⟨rfl, rfl⟩
                 refine JL.nil ?_
                 refine JY.ran (ba 54 31) [true, true, true, true, true] ?_
                 refine JY.takeG 5 (ba 54 63) (.bool (decide (t3.1 = t35))) (some 46) [true, true, true, true, true] rfl (wantOn 2 43 h34) (gives_eql eqg_23 (fun w => eqt_23 t3.1 t35 w)) ?_
                 refine JY.puw (hi := rfl) 6 (ba 54 127) (.bool (decide (t3.1 = t35))) (some 47) want (givesW_pickT h34) ?_
                 refine JY.pur (hi := rfl) 7 (ba 54 255) (.bool (decide (t3.1 = t35))) (some 48) want ?_
                 refine JY.pur (hi := rfl) 8 (ba 54 511) (.int .i64 t8.2) (some 49) (wantOn 7 48 h37) ?_
                 refine JY.pur (hi := rfl) 9 (ba 54 1023) (.bool (decide (t8.2 = 0))) (some 50) (wantOn 7 48 h37) ?_
                 refine JY.puw (hi := rfl) 10 (ba 54 2047) (.bool (decide (t8.2 = 0))) (some 51) want (givesW_pickT h37) ?_
                 refine JY.pur (hi := rfl) 11 (ba 54 4095) (.bool (decide (t8.2 = 0))) (some 52) want ?_
                 refine JY.takeG 12 (ba 54 8191) (mv_23 t8.1) (some 53) [true, true, true, true, true] rfl (wantOn 11 52 h38) (yields_load_boxes 1 0 (cl_23 t8.1) (holds_box b10 23 (cl_23 t8.1)) tyAgg_23 tySize_23) ?_
                 refine JY.all [13] ⟨⟨_, rfl, ?_⟩, trivial⟩
                 refine JL.on 11 52 h38 ?_
                 refine JL.call [] [] [] (law33_of.ok 3 0 1 _ hc40) trivial ?_
                 rintro _ _ ⟨rfl, rfl⟩
                 refine JL.nil ?_
                 refine JY.ran (ba 54 16383) [true, true, true, true, true] ?_
                 refine JY.takeG 14 (ba 54 32767) (.bool (decide (t8.1 = t39))) (some 55) [true, true, true, true, true] rfl (wantOn 11 52 h38) (gives_eql eqg_23 (fun w => eqt_23 t8.1 t39 w)) ?_
                 refine JY.puw (hi := rfl) 15 (ba 54 65535) (.bool (decide (t8.1 = t39))) (some 56) want (givesW_pickT h38) ?_
                 refine JY.pur (hi := rfl) 16 (ba 54 131071) (.bool (decide (t8.1 = t39))) (some 57) want ?_
                 refine JY.pur (hi := rfl) 17 (ba 54 262143) (.int .i64 t13.2) (some 58) (wantOn 16 57 h41) ?_
                 refine JY.pur (hi := rfl) 18 (ba 54 524287) (.bool (decide (t13.2 = 0))) (some 59) (wantOn 16 57 h41) ?_
                 refine JY.puw (hi := rfl) 19 (ba 54 1048575) (.bool (decide (t13.2 = 0))) (some 60) want (givesW_pickT h41) ?_
                 refine JY.pur (hi := rfl) 20 (ba 54 2097151) (.bool (decide (t13.2 = 0))) (some 61) want ?_
                 refine JY.takeG 21 (ba 54 4194303) (mv_25 t13.1) (some 62) [true, true, true, true, true] rfl (wantOn 20 61 h42) (yields_load_boxes 2 0 (cl_25 t13.1) (holds_box b15 25 (cl_25 t13.1)) tyAgg_25 tySize_25) ?_
                 refine JY.all [22] ⟨⟨_, rfl, ?_⟩, trivial⟩
                 refine JL.on 20 61 h42 ?_
                 refine JL.call [] [] [] (law33_of.ok 1 0 1 _ hc44) trivial ?_
                 rintro _ _ ⟨rfl, rfl⟩
                 refine JL.nil ?_
                 refine JY.ran (ba 54 8388607) [true, true, true, true, true] ?_
                 refine JY.all [23] ⟨⟨_, rfl, ?_⟩, trivial⟩
                 refine JL.on 20 61 h42 ?_
                 refine JL.call [] [] [] (law33_of.ok 0 0 1 _ hc46) trivial ?_
                 rintro _ _ ⟨rfl, rfl⟩
                 refine JL.nil ?_
                 refine JY.ran (ba 54 16777215) [true, true, true, true, true] ?_
                 refine JY.all [24] ⟨⟨_, rfl, ?_⟩, trivial⟩
                 refine JL.on 20 61 h42 ?_
                 refine JL.call [] [] [] (law33_of.ok 0 (-1) 1 _ hc48) trivial ?_
                 rintro _ _ ⟨rfl, rfl⟩
                 refine JL.nil ?_
                 refine JY.ran (ba 54 33554431) [true, true, true, true, true] ?_
                 refine JY.all [25] ⟨⟨_, rfl, ?_⟩, trivial⟩
                 refine JL.on 20 61 h42 ?_
                 refine JL.call [] [] [] (law33_of.ok 2 0 1 _ hc50) trivial ?_
                 rintro _ _ ⟨rfl, rfl⟩
                 refine JL.nil ?_
                 refine JY.ran (ba 54 67108863) [true, true, true, true, true] ?_
                 refine JY.pur (hi := rfl) 26 (ba 54 134217727) (.agg #[.int .i64 t43.Re, .int .i64 t43.Im, .int .i64 t43.Den, .int .i64 t45.Re, .int .i64 t45.Im, .int .i64 t45.Den, .int .i64 t47.Re, .int .i64 t47.Im, .int .i64 t47.Den, .int .i64 t49.Re, .int .i64 t49.Im, .int .i64 t49.Den]) (some 67) (wantOn 20 61 h42) ?_
                 refine JY.takeG 27 (ba 54 268435455) (.bool (decide (t13.1 = (⟨t43, t45, t47, t49⟩ : (A4 Cx))))) (some 68) [true, true, true, true, true] rfl (wantOn 20 61 h42) (gives_eql eqg_25 (fun w => eqt_25 t13.1 (⟨t43, t45, t47, t49⟩ : (A4 Cx)) w)) ?_
                 refine JY.puw (hi := rfl) 28 (ba 54 536870911) (.bool (decide (t13.1 = (⟨t43, t45, t47, t49⟩ : (A4 Cx))))) (some 69) want (givesW_pickT h42) ?_
                 refine JY.pur (hi := rfl) 29 (ba 54 1073741823) (.bool (decide (t13.1 = (⟨t43, t45, t47, t49⟩ : (A4 Cx))))) (some 70) want ?_
                 refine JY.pur (hi := rfl) 30 (ba 54 2147483647) (.int .i64 t18.2) (some 71) (wantOn 29 70 h51) ?_
                 refine JY.pur (hi := rfl) 31 (ba 54 4294967295) (.bool (decide (t18.2 = 0))) (some 72) (wantOn 29 70 h51) ?_
                 refine JY.puw (hi := rfl) 32 (ba 54 8589934591) (.bool (decide (t18.2 = 0))) (some 73) want (givesW_pickT h51) ?_
                 refine JY.pur (hi := rfl) 33 (ba 54 17179869183) (.bool (decide (t18.2 = 0))) (some 74) want ?_
                 refine JY.takeG 34 (ba 54 34359738367) (mv_25 t18.1) (some 75) [true, true, true, true, true] rfl (wantOn 33 74 h52) (yields_load_boxes 3 0 (cl_25 t18.1) (holds_box b20 25 (cl_25 t18.1)) tyAgg_25 tySize_25) ?_
                 refine JY.all [35] ⟨⟨_, rfl, ?_⟩, trivial⟩
                 refine JL.on 33 74 h52 ?_
                 refine JL.call [] [] [] (law33_of.ok 1 0 1 _ hc54) trivial ?_
                 rintro _ _ ⟨rfl, rfl⟩
                 refine JL.nil ?_
                 refine JY.ran (ba 54 68719476735) [true, true, true, true, true] ?_
                 refine JY.all [36] ⟨⟨_, rfl, ?_⟩, trivial⟩
                 refine JL.on 33 74 h52 ?_
                 refine JL.call [] [] [] (law33_of.ok 0 (-1) 2 _ hc56) trivial ?_
                 rintro _ _ ⟨rfl, rfl⟩
                 refine JL.nil ?_
                 refine JY.ran (ba 54 137438953471) [true, true, true, true, true] ?_
                 refine JY.all [37] ⟨⟨_, rfl, ?_⟩, trivial⟩
                 refine JL.on 33 74 h52 ?_
                 refine JL.call [] [] [] (law33_of.ok 0 0 1 _ hc58) trivial ?_
                 rintro _ _ ⟨rfl, rfl⟩
                 refine JL.nil ?_
                 refine JY.ran (ba 54 274877906943) [true, true, true, true, true] ?_
                 refine JY.all [38] ⟨⟨_, rfl, ?_⟩, trivial⟩
                 refine JL.on 33 74 h52 ?_
                 refine JL.call [] [] [] (law33_of.ok 1 0 2 _ hc60) trivial ?_
                 rintro _ _ ⟨rfl, rfl⟩
                 refine JL.nil ?_
                 refine JY.ran (ba 54 549755813887) [true, true, true, true, true] ?_
                 refine JY.pur (hi := rfl) 39 (ba 54 1099511627775) (.agg #[.int .i64 t53.Re, .int .i64 t53.Im, .int .i64 t53.Den, .int .i64 t55.Re, .int .i64 t55.Im, .int .i64 t55.Den, .int .i64 t57.Re, .int .i64 t57.Im, .int .i64 t57.Den, .int .i64 t59.Re, .int .i64 t59.Im, .int .i64 t59.Den]) (some 80) (wantOn 33 74 h52) ?_
                 refine JY.takeG 40 (ba 54 2199023255551) (.bool (decide (t18.1 = (⟨t53, t55, t57, t59⟩ : (A4 Cx))))) (some 81) [true, true, true, true, true] rfl (wantOn 33 74 h52) (gives_eql eqg_25 (fun w => eqt_25 t18.1 (⟨t53, t55, t57, t59⟩ : (A4 Cx)) w)) ?_
                 refine JY.puw (hi := rfl) 41 (ba 54 4398046511103) (.bool (decide (t18.1 = (⟨t53, t55, t57, t59⟩ : (A4 Cx))))) (some 82) want (givesW_pickT h52) ?_
                 refine JY.pur (hi := rfl) 42 (ba 54 8796093022207) (.bool (decide (t18.1 = (⟨t53, t55, t57, t59⟩ : (A4 Cx))))) (some 83) want ?_
                 refine JY.skip (hi := rfl) 43 (ba 54 17592186044415) (some 84) (wantOff 42 83 true h61) ?_
                 refine JY.skip (hi := rfl) 44 (ba 54 35184372088831) (some 85) (wantOff 42 83 true h61) ?_
                 refine JY.puw (hi := rfl) 45 (ba 54 70368744177663) (.bool false) (some 86) want (givesW_pickF h61) ?_
                 refine JY.pur (hi := rfl) 46 (ba 54 140737488355327) (.bool false) (some 87) want ?_
                 refine JY.skip (hi := rfl) 47 (ba 54 281474976710655) (some 88) (wantOff 46 87 true rfl) ?_
                 refine JY.skip (hi := rfl) 48 (ba 54 562949953421311) (some 89) (wantOff 46 87 true rfl) ?_
                 refine JY.skip (hi := rfl) 49 (ba 54 1125899906842623) (some 90) (wantOff 46 87 true rfl) ?_
                 refine JY.skip (hi := rfl) 50 (ba 54 2251799813685247) (some 91) (wantOff 46 87 true rfl) ?_
                 refine JY.skip (hi := rfl) 51 (ba 54 4503599627370495) (some 92) (wantOff 46 87 true rfl) ?_
                 refine JY.puw (hi := rfl) 52 (ba 54 9007199254740991) (.bool false) (some 93) want (givesW_pickF rfl) ?_
                 refine JY.pur (hi := rfl) 53 (ba 54 18014398509481983) (.bool false) (some 0) want ?_
                 refine JY.done ?_
                 refine JQ.then_normal ?_
                 refine JQ.sub [(0, .bool false)] ?_
                 refine JQ.mask [] [false, false, false, false, false] ?_
                 refine J.ret ?_
                 obtain rfl := Option.some.inj H0
                 exact JQ.done' (rs := [.tmp 0]) (vs := [.bool false]) [] (.inr rfl) ⟨by kernel_rfl, trivial⟩ (fun _ h => Heap.to h) ⟨rfl, rfl⟩
             · refine JY.start [] (ba 54 0) ?_
               refine JY.pur (hi := rfl) 0 (ba 54 1) (.int .i64 t3.2) (some 41) want ?_
               refine JY.pur (hi := rfl) 1 (ba 54 3) (.bool (decide (t3.2 = 0))) (some 42) want ?_
               refine JY.pur (hi := rfl) 2 (ba 54 7) (.bool (decide (t3.2 = 0))) (some 43) want ?_
               refine JY.takeG 3 (ba 54 15) (mv_23 t3.1) (some 44) [true, true, true, true, true] rfl (wantOn 2 43 h34) (yields_load_boxes 0 0 (cl_23 t3.1) (holds_box b5 23 (cl_23 t3.1)) tyAgg_23 tySize_23) ?_
               refine JY.all [4] ⟨⟨_, rfl, ?_⟩, trivial⟩
               refine JL.on 2 43 h34 ?_
               refine JL.call [] [] [] (law33_of.ok 2 0 1 _ hc36) trivial ?_
               rintro _ _ ⟨rfl, rfl⟩
               refine JL.nil ?_
               refine JY.ran (ba 54 31) [true, true, true, true, true] ?_
               refine JY.takeG 5 (ba 54 63) (.bool (decide (t3.1 = t35))) (some 46) [true, true, true, true, true] rfl (wantOn 2 43 h34) (gives_eql eqg_23 (fun w => eqt_23 t3.1 t35 w)) ?_
               refine JY.puw (hi := rfl) 6 (ba 54 127) (.bool (decide (t3.1 = t35))) (some 47) want (givesW_pickT h34) ?_
               refine JY.pur (hi := rfl) 7 (ba 54 255) (.bool (decide (t3.1 = t35))) (some 48) want ?_
               refine JY.pur (hi := rfl) 8 (ba 54 511) (.int .i64 t8.2) (some 49) (wantOn 7 48 h37) ?_
               refine JY.pur (hi := rfl) 9 (ba 54 1023) (.bool (decide (t8.2 = 0))) (some 50) (wantOn 7 48 h37) ?_
               refine JY.puw (hi := rfl) 10 (ba 54 2047) (.bool (decide (t8.2 = 0))) (some 51) want (givesW_pickT h37) ?_
               refine JY.pur (hi := rfl) 11 (ba 54 4095) (.bool (decide (t8.2 = 0))) (some 52) want ?_
               refine JY.takeG 12 (ba 54 8191) (mv_23 t8.1) (some 53) [true, true, true, true, true] rfl (wantOn 11 52 h38) (yields_load_boxes 1 0 (cl_23 t8.1) (holds_box b10 23 (cl_23 t8.1)) tyAgg_23 tySize_23) ?_
               refine JY.all [13] ⟨⟨_, rfl, ?_⟩, trivial⟩
               refine JL.on 11 52 h38 ?_
               refine JL.call [] [] [] (law33_of.ok 3 0 1 _ hc40) trivial ?_
               rintro _ _ ⟨rfl, rfl⟩
               refine JL.nil ?_
               refine JY.ran (ba 54 16383) [true, true, true, true, true] ?_
               refine JY.takeG 14 (ba 54 32767) (.bool (decide (t8.1 = t39))) (some 55) [true, true, true, true, true] rfl (wantOn 11 52 h38) (gives_eql eqg_23 (fun w => eqt_23 t8.1 t39 w)) ?_
               refine JY.puw (hi := rfl) 15 (ba 54 65535) (.bool (decide (t8.1 = t39))) (some 56) want (givesW_pickT h38) ?_
               refine JY.pur (hi := rfl) 16 (ba 54 131071) (.bool (decide (t8.1 = t39))) (some 57) want ?_
               refine JY.pur (hi := rfl) 17 (ba 54 262143) (.int .i64 t13.2) (some 58) (wantOn 16 57 h41) ?_
               refine JY.pur (hi := rfl) 18 (ba 54 524287) (.bool (decide (t13.2 = 0))) (some 59) (wantOn 16 57 h41) ?_
               refine JY.puw (hi := rfl) 19 (ba 54 1048575) (.bool (decide (t13.2 = 0))) (some 60) want (givesW_pickT h41) ?_
               refine JY.pur (hi := rfl) 20 (ba 54 2097151) (.bool (decide (t13.2 = 0))) (some 61) want ?_
               refine JY.takeG 21 (ba 54 4194303) (mv_25 t13.1) (some 62) [true, true, true, true, true] rfl (wantOn 20 61 h42) (yields_load_boxes 2 0 (cl_25 t13.1) (holds_box b15 25 (cl_25 t13.1)) tyAgg_25 tySize_25) ?_
               refine JY.all [22] ⟨⟨_, rfl, ?_⟩, trivial⟩
               refine JL.on 20 61 h42 ?_
               refine JL.call [] [] [] (law33_of.ok 1 0 1 _ hc44) trivial ?_
               rintro _ _ ⟨rfl, rfl⟩
               refine JL.nil ?_
               refine JY.ran (ba 54 8388607) [true, true, true, true, true] ?_
               refine JY.all [23] ⟨⟨_, rfl, ?_⟩, trivial⟩
               refine JL.on 20 61 h42 ?_
               refine JL.call [] [] [] (law33_of.ok 0 0 1 _ hc46) trivial ?_
               rintro _ _ ⟨rfl, rfl⟩
               refine JL.nil ?_
               refine JY.ran (ba 54 16777215) [true, true, true, true, true] ?_
               refine JY.all [24] ⟨⟨_, rfl, ?_⟩, trivial⟩
               refine JL.on 20 61 h42 ?_
               refine JL.call [] [] [] (law33_of.ok 0 (-1) 1 _ hc48) trivial ?_
               rintro _ _ ⟨rfl, rfl⟩
               refine JL.nil ?_
               refine JY.ran (ba 54 33554431) [true, true, true, true, true] ?_
               refine JY.all [25] ⟨⟨_, rfl, ?_⟩, trivial⟩
               refine JL.on 20 61 h42 ?_
               refine JL.call [] [] [] (law33_of.ok 2 0 1 _ hc50) trivial ?_
               rintro _ _ ⟨rfl, rfl⟩
               refine JL.nil ?_
               refine JY.ran (ba 54 67108863) [true, true, true, true, true] ?_
               refine JY.pur (hi := rfl) 26 (ba 54 134217727) (.agg #[.int .i64 t43.Re, .int .i64 t43.Im, .int .i64 t43.Den, .int .i64 t45.Re, .int .i64 t45.Im, .int .i64 t45.Den, .int .i64 t47.Re, .int .i64 t47.Im, .int .i64 t47.Den, .int .i64 t49.Re, .int .i64 t49.Im, .int .i64 t49.Den]) (some 67) (wantOn 20 61 h42) ?_
               refine JY.takeG 27 (ba 54 268435455) (.bool (decide (t13.1 = (⟨t43, t45, t47, t49⟩ : (A4 Cx))))) (some 68) [true, true, true, true, true] rfl (wantOn 20 61 h42) (gives_eql eqg_25 (fun w => eqt_25 t13.1 (⟨t43, t45, t47, t49⟩ : (A4 Cx)) w)) ?_
               refine JY.puw (hi := rfl) 28 (ba 54 536870911) (.bool (decide (t13.1 = (⟨t43, t45, t47, t49⟩ : (A4 Cx))))) (some 69) want (givesW_pickT h42) ?_
               refine JY.pur (hi := rfl) 29 (ba 54 1073741823) (.bool (decide (t13.1 = (⟨t43, t45, t47, t49⟩ : (A4 Cx))))) (some 70) want ?_
               refine JY.pur (hi := rfl) 30 (ba 54 2147483647) (.int .i64 t18.2) (some 71) (wantOn 29 70 h51) ?_
               refine JY.pur (hi := rfl) 31 (ba 54 4294967295) (.bool (decide (t18.2 = 0))) (some 72) (wantOn 29 70 h51) ?_
               refine JY.puw (hi := rfl) 32 (ba 54 8589934591) (.bool (decide (t18.2 = 0))) (some 73) want (givesW_pickT h51) ?_
               refine JY.pur (hi := rfl) 33 (ba 54 17179869183) (.bool (decide (t18.2 = 0))) (some 74) want ?_
               refine JY.skip (hi := rfl) 34 (ba 54 34359738367) (some 75) (wantOff 33 74 true h52) ?_
               refine JY.skip (hi := rfl) 35 (ba 54 68719476735) (some 76) (wantOff 33 74 true h52) ?_
               refine JY.skip (hi := rfl) 36 (ba 54 137438953471) (some 77) (wantOff 33 74 true h52) ?_
               refine JY.skip (hi := rfl) 37 (ba 54 274877906943) (some 78) (wantOff 33 74 true h52) ?_
               refine JY.skip (hi := rfl) 38 (ba 54 549755813887) (some 79) (wantOff 33 74 true h52) ?_
               refine JY.skip (hi := rfl) 39 (ba 54 1099511627775) (some 80) (wantOff 33 74 true h52) ?_
               refine JY.skip (hi := rfl) 40 (ba 54 2199023255551) (some 81) (wantOff 33 74 true h52) ?_
               refine JY.puw (hi := rfl) 41 (ba 54 4398046511103) (.bool false) (some 82) want (givesW_pickF h52) ?_
               refine JY.pur (hi := rfl) 42 (ba 54 8796093022207) (.bool false) (some 83) want ?_
               refine JY.skip (hi := rfl) 43 (ba 54 17592186044415) (some 84) (wantOff 42 83 true rfl) ?_
               refine JY.skip (hi := rfl) 44 (ba 54 35184372088831) (some 85) (wantOff 42 83 true rfl) ?_
               refine JY.puw (hi := rfl) 45 (ba 54 70368744177663) (.bool false) (some 86) want (givesW_pickF rfl) ?_
               refine JY.pur (hi := rfl) 46 (ba 54 140737488355327) (.bool false) (some 87) want ?_
               refine JY.skip (hi := rfl) 47 (ba 54 281474976710655) (some 88) (wantOff 46 87 true rfl) ?_
               refine JY.skip (hi := rfl) 48 (ba 54 562949953421311) (some 89) (wantOff 46 87 true rfl) ?_
               refine JY.skip (hi := rfl) 49 (ba 54 1125899906842623) (some 90) (wantOff 46 87 true rfl) ?_
               refine JY.skip (hi := rfl) 50 (ba 54 2251799813685247) (some 91) (wantOff 46 87 true rfl) ?_
               refine JY.skip (hi := rfl) 51 (ba 54 4503599627370495) (some 92) (wantOff 46 87 true rfl) ?_
               refine JY.puw (hi := rfl) 52 (ba 54 9007199254740991) (.bool false) (some 93) want (givesW_pickF rfl) ?_
               refine JY.pur (hi := rfl) 53 (ba 54 18014398509481983) (.bool false) (some 0) want ?_
               refine JY.done ?_
               refine JQ.then_normal ?_
               refine JQ.sub [(0, .bool false)] ?_
               refine JQ.mask [] [false, false, false, false, false] ?_
               refine J.ret ?_
               obtain rfl := Option.some.inj H0
               exact JQ.done' (rs := [.tmp 0]) (vs := [.bool false]) [] (.inr rfl) ⟨by kernel_rfl, trivial⟩ (fun _ h => Heap.to h) ⟨rfl, rfl⟩
           · refine JY.start [] (ba 54 0) ?_
             refine JY.pur (hi := rfl) 0 (ba 54 1) (.int .i64 t3.2) (some 41) want ?_
             refine JY.pur (hi := rfl) 1 (ba 54 3) (.bool (decide (t3.2 = 0))) (some 42) want ?_
             refine JY.pur (hi := rfl) 2 (ba 54 7) (.bool (decide (t3.2 = 0))) (some 43) want ?_
             refine JY.takeG 3 (ba 54 15) (mv_23 t3.1) (some 44) [true, true, true, true, true] rfl (wantOn 2 43 h34) (yields_load_boxes 0 0 (cl_23 t3.1) (holds_box b5 23 (cl_23 t3.1)) tyAgg_23 tySize_23) ?_
             refine JY.all [4] ⟨⟨_, rfl, ?_⟩, trivial⟩
             refine JL.on 2 43 h34 ?_
             refine JL.call [] [] [] (law33_of.ok 2 0 1 _ hc36) trivial ?_
             rintro _ _ ⟨rfl, rfl⟩
             refine JL.nil ?_
             refine JY.ran (ba 54 31) [true, true, true, true, true] ?_
             refine JY.takeG 5 (ba 54 63) (.bool (decide (t3.1 = t35))) (some 46) [true, true, true, true, true] rfl (wantOn 2 43 h34) (gives_eql eqg_23 (fun w => eqt_23 t3.1 t35 w)) ?_
             refine JY.puw (hi := rfl) 6 (ba 54 127) (.bool (decide (t3.1 = t35))) (some 47) want (givesW_pickT h34) ?_
             refine JY.pur (hi := rfl) 7 (ba 54 255) (.bool (decide (t3.1 = t35))) (some 48) want ?_
             refine JY.pur (hi := rfl) 8 (ba 54 511) (.int .i64 t8.2) (some 49) (wantOn 7 48 h37) ?_
             refine JY.pur (hi := rfl) 9 (ba 54 1023) (.bool (decide (t8.2 = 0))) (some 50) (wantOn 7 48 h37) ?_
             refine JY.puw (hi := rfl) 10 (ba 54 2047) (.bool (decide (t8.2 = 0))) (some 51) want (givesW_pickT h37) ?_
             refine JY.pur (hi := rfl) 11 (ba 54 4095) (.bool (decide (t8.2 = 0))) (some 52) want ?_
             refine JY.takeG 12 (ba 54 8191) (mv_23 t8.1) (some 53) [true, true, true, true, true] rfl (wantOn 11 52 h38) (yields_load_boxes 1 0 (cl_23 t8.1) (holds_box b10 23 (cl_23 t8.1)) tyAgg_23 tySize_23) ?_
             refine JY.all [13] ⟨⟨_, rfl, ?_⟩, trivial⟩
             refine JL.on 11 52 h38 ?_
             refine JL.call [] [] [] (law33_of.ok 3 0 1 _ hc40) trivial ?_
             rintro _ _ ⟨rfl, rfl⟩
             refine JL.nil ?_
             refine JY.ran (ba 54 16383) [true, true, true, true, true] ?_
             refine JY.takeG 14 (ba 54 32767) (.bool (decide (t8.1 = t39))) (some 55) [true, true, true, true, true] rfl (wantOn 11 52 h38) (gives_eql eqg_23 (fun w => eqt_23 t8.1 t39 w)) ?_
             refine JY.puw (hi := rfl) 15 (ba 54 65535) (.bool (decide (t8.1 = t39))) (some 56) want (givesW_pickT h38) ?_
             refine JY.pur (hi := rfl) 16 (ba 54 131071) (.bool (decide (t8.1 = t39))) (some 57) want ?_
             refine JY.pur (hi := rfl) 17 (ba 54 262143) (.int .i64 t13.2) (some 58) (wantOn 16 57 h41) ?_
             refine JY.pur (hi := rfl) 18 (ba 54 524287) (.bool (decide (t13.2 = 0))) (some 59) (wantOn 16 57 h41) ?_
             refine JY.puw (hi := rfl) 19 (ba 54 1048575) (.bool (decide (t13.2 = 0))) (some 60) want (givesW_pickT h41) ?_
             refine JY.pur (hi := rfl) 20 (ba 54 2097151) (.bool (decide (t13.2 = 0))) (some 61) want ?_
             refine JY.takeG 21 (ba 54 4194303) (mv_25 t13.1) (some 62) [true, true, true, true, true] rfl (wantOn 20 61 h42) (yields_load_boxes 2 0 (cl_25 t13.1) (holds_box b15 25 (cl_25 t13.1)) tyAgg_25 tySize_25) ?_
             refine JY.all [22] ⟨⟨_, rfl, ?_⟩, trivial⟩
             refine JL.on 20 61 h42 ?_
             refine JL.call [] [] [] (law33_of.ok 1 0 1 _ hc44) trivial ?_
             rintro _ _ ⟨rfl, rfl⟩
             refine JL.nil ?_
             refine JY.ran (ba 54 8388607) [true, true, true, true, true] ?_
             refine JY.all [23] ⟨⟨_, rfl, ?_⟩, trivial⟩
             refine JL.on 20 61 h42 ?_
             refine JL.call [] [] [] (law33_of.ok 0 0 1 _ hc46) trivial ?_
             rintro _ _ ⟨rfl, rfl⟩
             refine JL.nil ?_
             refine JY.ran (ba 54 16777215) [true, true, true, true, true] ?_
             refine JY.all [24] ⟨⟨_, rfl, ?_⟩, trivial⟩
             refine JL.on 20 61 h42 ?_
             refine JL.call [] [] [] (law33_of.ok 0 (-1) 1 _ hc48) trivial ?_
             rintro _ _ ⟨rfl, rfl⟩
             refine JL.nil ?_
             refine JY.ran (ba 54 33554431) [true, true, true, true, true] ?_
             refine JY.all [25] ⟨⟨_, rfl, ?_⟩, trivial⟩
             refine JL.on 20 61 h42 ?_
             refine JL.call [] [] [] (law33_of.ok 2 0 1 _ hc50) trivial ?_
             rintro _ _ ⟨rfl, rfl⟩
             refine JL.nil ?_
             refine JY.ran (ba 54 67108863) [true, true, true, true, true] ?_
             refine JY.pur (hi := rfl) 26 (ba 54 134217727) (.agg #[.int .i64 t43.Re, .int .i64 t43.Im, .int .i64 t43.Den, .int .i64 t45.Re, .int .i64 t45.Im, .int .i64 t45.Den, .int .i64 t47.Re, .int .i64 t47.Im, .int .i64 t47.Den, .int .i64 t49.Re, .int .i64 t49.Im, .int .i64 t49.Den]) (some 67) (wantOn 20 61 h42) ?_
             refine JY.takeG 27 (ba 54 268435455) (.bool (decide (t13.1 = (⟨t43, t45, t47, t49⟩ : (A4 Cx))))) (some 68) [true, true, true, true, true] rfl (wantOn 20 61 h42) (gives_eql eqg_25 (fun w => eqt_25 t13.1 (⟨t43, t45, t47, t49⟩ : (A4 Cx)) w)) ?_
             refine JY.puw (hi := rfl) 28 (ba 54 536870911) (.bool (decide (t13.1 = (⟨t43, t45, t47, t49⟩ : (A4 Cx))))) (some 69) want (givesW_pickT h42) ?_
             refine JY.pur (hi := rfl) 29 (ba 54 1073741823) (.bool (decide (t13.1 = (⟨t43, t45, t47, t49⟩ : (A4 Cx))))) (some 70) want ?_
             refine JY.skip (hi := rfl) 30 (ba 54 2147483647) (some 71) (wantOff 29 70 true h51) ?_
             refine JY.skip (hi := rfl) 31 (ba 54 4294967295) (some 72) (wantOff 29 70 true h51) ?_
             refine JY.puw (hi := rfl) 32 (ba 54 8589934591) (.bool false) (some 73) want (givesW_pickF h51) ?_
             refine JY.pur (hi := rfl) 33 (ba 54 17179869183) (.bool false) (some 74) want ?_
             refine JY.skip (hi := rfl) 34 (ba 54 34359738367) (some 75) (wantOff 33 74 true rfl) ?_
             refine JY.skip (hi := rfl) 35 (ba 54 68719476735) (some 76) (wantOff 33 74 true rfl) ?_
             refine JY.skip (hi := rfl) 36 (ba 54 137438953471) (some 77) (wantOff 33 74 true rfl) ?_
             refine JY.skip (hi := rfl) 37 (ba 54 274877906943) (some 78) (wantOff 33 74 true rfl) ?_
             refine JY.skip (hi := rfl) 38 (ba 54 549755813887) (some 79) (wantOff 33 74 true rfl) ?_
             refine JY.skip (hi := rfl) 39 (ba 54 1099511627775) (some 80) (wantOff 33 74 true rfl) ?_
             refine JY.skip (hi := rfl) 40 (ba 54 2199023255551) (some 81) (wantOff 33 74 true rfl) ?_
             refine JY.puw (hi := rfl) 41 (ba 54 4398046511103) (.bool false) (some 82) want (givesW_pickF rfl) ?_
             refine JY.pur (hi := rfl) 42 (ba 54 8796093022207) (.bool false) (some 83) want ?_
             refine JY.skip (hi := rfl) 43 (ba 54 17592186044415) (some 84) (wantOff 42 83 true rfl) ?_
             refine JY.skip (hi := rfl) 44 (ba 54 35184372088831) (some 85) (wantOff 42 83 true rfl) ?_
             refine JY.puw (hi := rfl) 45 (ba 54 70368744177663) (.bool false) (some 86) want (givesW_pickF rfl) ?_
             refine JY.pur (hi := rfl) 46 (ba 54 140737488355327) (.bool false) (some 87) want ?_
             refine JY.skip (hi := rfl) 47 (ba 54 281474976710655) (some 88) (wantOff 46 87 true rfl) ?_
             refine JY.skip (hi := rfl) 48 (ba 54 562949953421311) (some 89) (wantOff 46 87 true rfl) ?_
             refine JY.skip (hi := rfl) 49 (ba 54 1125899906842623) (some 90) (wantOff 46 87 true rfl) ?_
             refine JY.skip (hi := rfl) 50 (ba 54 2251799813685247) (some 91) (wantOff 46 87 true rfl) ?_
             refine JY.skip (hi := rfl) 51 (ba 54 4503599627370495) (some 92) (wantOff 46 87 true rfl) ?_
             refine JY.puw (hi := rfl) 52 (ba 54 9007199254740991) (.bool false) (some 93) want (givesW_pickF rfl) ?_
             refine JY.pur (hi := rfl) 53 (ba 54 18014398509481983) (.bool false) (some 0) want ?_
             refine JY.done ?_
             refine JQ.then_normal ?_
             refine JQ.sub [(0, .bool false)] ?_
             refine JQ.mask [] [false, false, false, false, false] ?_
             refine J.ret ?_
             obtain rfl := Option.some.inj H0
             exact JQ.done' (rs := [.tmp 0]) (vs := [.bool false]) [] (.inr rfl) ⟨by kernel_rfl, trivial⟩ (fun _ h => Heap.to h) ⟨rfl, rfl⟩
         · refine JY.start [] (ba 54 0) ?_
           refine JY.pur (hi := rfl) 0 (ba 54 1) (.int .i64 t3.2) (some 41) want ?_
           refine JY.pur (hi := rfl) 1 (ba 54 3) (.bool (decide (t3.2 = 0))) (some 42) want ?_
           refine JY.pur (hi := rfl) 2 (ba 54 7) (.bool (decide (t3.2 = 0))) (some 43) want ?_
           refine JY.takeG 3 (ba 54 15) (mv_23 t3.1) (some 44) [true, true, true, true, true] rfl (wantOn 2 43 h34) (yields_load_boxes 0 0 (cl_23 t3.1) (holds_box b5 23 (cl_23 t3.1)) tyAgg_23 tySize_23) ?_
           refine JY.all [4] ⟨⟨_, rfl, ?_⟩, trivial⟩
           refine JL.on 2 43 h34 ?_
           refine JL.call [] [] [] (law33_of.ok 2 0 1 _ hc36) trivial ?_
           rintro _ _ ⟨rfl, rfl⟩
           refine JL.nil ?_
           refine JY.ran (ba 54 31) [true, true, true, true, true] ?_
           refine JY.takeG 5 (ba 54 63) (.bool (decide (t3.1 = t35))) (some 46) [true, true, true, true, true] rfl (wantOn 2 43 h34) (gives_eql eqg_23 (fun w => eqt_23 t3.1 t35 w)) ?_
           refine JY.puw (hi := rfl) 6 (ba 54 127) (.bool (decide (t3.1 = t35))) (some 47) want (givesW_pickT h34) ?_
           refine JY.pur (hi := rfl) 7 (ba 54 255) (.bool (decide (t3.1 = t35))) (some 48) want ?_
           refine JY.pur (hi := rfl) 8 (ba 54 511) (.int .i64 t8.2) (some 49) (wantOn 7 48 h37) ?_
           refine JY.pur (hi := rfl) 9 (ba 54 1023) (.bool (decide (t8.2 = 0))) (some 50) (wantOn 7 48 h37) ?_
           refine JY.puw (hi := rfl) 10 (ba 54 2047) (.bool (decide (t8.2 = 0))) (some 51) want (givesW_pickT h37) ?_
           refine JY.pur (hi := rfl) 11 (ba 54 4095) (.bool (decide (t8.2 = 0))) (some 52) want ?_
           refine JY.takeG 12 (ba 54 8191) (mv_23 t8.1) (some 53) [true, true, true, true, true] rfl (wantOn 11 52 h38) (yields_load_boxes 1 0 (cl_23 t8.1) (holds_box b10 23 (cl_23 t8.1)) tyAgg_23 tySize_23) ?_
           refine JY.all [13] ⟨⟨_, rfl, ?_⟩, trivial⟩
           refine JL.on 11 52 h38 ?_
           refine JL.call [] [] [] (law33_of.ok 3 0 1 _ hc40) trivial ?_
           rintro _ _ ⟨rfl, rfl⟩
           refine JL.nil ?_
           refine JY.ran (ba 54 16383) [true, true, true, true, true] ?_
           refine JY.takeG 14 (ba 54 32767) (.bool (decide (t8.1 = t39))) (some 55) [true, true, true, true, true] rfl (wantOn 11 52 h38) (gives_eql eqg_23 (fun w => eqt_23 t8.1 t39 w)) ?_
           refine JY.puw (hi := rfl) 15 (ba 54 65535) (.bool (decide (t8.1 = t39))) (some 56) want (givesW_pickT h38) ?_
           refine JY.pur (hi := rfl) 16 (ba 54 131071) (.bool (decide (t8.1 = t39))) (some 57) want ?_
           refine JY.pur (hi := rfl) 17 (ba 54 262143) (.int .i64 t13.2) (some 58) (wantOn 16 57 h41) ?_
           refine JY.pur (hi := rfl) 18 (ba 54 524287) (.bool (decide (t13.2 = 0))) (some 59) (wantOn 16 57 h41) ?_
           refine JY.puw (hi := rfl) 19 (ba 54 1048575) (.bool (decide (t13.2 = 0))) (some 60) want (givesW_pickT h41) ?_
           refine JY.pur (hi := rfl) 20 (ba 54 2097151) (.bool (decide (t13.2 = 0))) (some 61) want ?_
           refine JY.skip (hi := rfl) 21 (ba 54 4194303) (some 62) (wantOff 20 61 true h42) ?_
           refine JY.skip (hi := rfl) 22 (ba 54 8388607) (some 63) (wantOff 20 61 true h42) ?_
           refine JY.skip (hi := rfl) 23 (ba 54 16777215) (some 64) (wantOff 20 61 true h42) ?_
           refine JY.skip (hi := rfl) 24 (ba 54 33554431) (some 65) (wantOff 20 61 true h42) ?_
           refine JY.skip (hi := rfl) 25 (ba 54 67108863) (some 66) (wantOff 20 61 true h42) ?_
           refine JY.skip (hi := rfl) 26 (ba 54 134217727) (some 67) (wantOff 20 61 true h42) ?_
           refine JY.skip (hi := rfl) 27 (ba 54 268435455) (some 68) (wantOff 20 61 true h42) ?_
           refine JY.puw (hi := rfl) 28 (ba 54 536870911) (.bool false) (some 69) want (givesW_pickF h42) ?_
           refine JY.pur (hi := rfl) 29 (ba 54 1073741823) (.bool false) (some 70) want ?_
           refine JY.skip (hi := rfl) 30 (ba 54 2147483647) (some 71) (wantOff 29 70 true rfl) ?_
           refine JY.skip (hi := rfl) 31 (ba 54 4294967295) (some 72) (wantOff 29 70 true rfl) ?_
           refine JY.puw (hi := rfl) 32 (ba 54 8589934591) (.bool false) (some 73) want (givesW_pickF rfl) ?_
           refine JY.pur (hi := rfl) 33 (ba 54 17179869183) (.bool false) (some 74) want ?_
           refine JY.skip (hi := rfl) 34 (ba 54 34359738367) (some 75) (wantOff 33 74 true rfl) ?_
           refine JY.skip (hi := rfl) 35 (ba 54 68719476735) (some 76) (wantOff 33 74 true rfl) ?_
           refine JY.skip (hi := rfl) 36 (ba 54 137438953471) (some 77) (wantOff 33 74 true rfl) ?_
           refine JY.skip (hi := rfl) 37 (ba 54 274877906943) (some 78) (wantOff 33 74 true rfl) ?_
           refine JY.skip (hi := rfl) 38 (ba 54 549755813887) (some 79) (wantOff 33 74 true rfl) ?_
           refine JY.skip (hi := rfl) 39 (ba 54 1099511627775) (some 80) (wantOff 33 74 true rfl) ?_
           refine JY.skip (hi := rfl) 40 (ba 54 2199023255551) (some 81) (wantOff 33 74 true rfl) ?_
           refine JY.puw (hi := rfl) 41 (ba 54 4398046511103) (.bool false) (some 82) want (givesW_pickF rfl) ?_
           refine JY.pur (hi := rfl) 42 (ba 54 8796093022207) (.bool false) (some 83) want ?_
           refine JY.skip (hi := rfl) 43 (ba 54 17592186044415) (some 84) (wantOff 42 83 true rfl) ?_
           refine JY.skip (hi := rfl) 44 (ba 54 35184372088831) (some 85) (wantOff 42 83 true rfl) ?_
           refine JY.puw (hi := rfl) 45 (ba 54 70368744177663) (.bool false) (some 86) want (givesW_pickF rfl) ?_
           refine JY.pur (hi := rfl) 46 (ba 54 140737488355327) (.bool false) (some 87) want ?_
           refine JY.skip (hi := rfl) 47 (ba 54 281474976710655) (some 88) (wantOff 46 87 true rfl) ?_
           refine JY.skip (hi := rfl) 48 (ba 54 562949953421311) (some 89) (wantOff 46 87 true rfl) ?_
           refine JY.skip (hi := rfl) 49 (ba 54 1125899906842623) (some 90) (wantOff 46 87 true rfl) ?_
           refine JY.skip (hi := rfl) 50 (ba 54 2251799813685247) (some 91) (wantOff 46 87 true rfl) ?_
           refine JY.skip (hi := rfl) 51 (ba 54 4503599627370495) (some 92) (wantOff 46 87 true rfl) ?_
           refine JY.puw (hi := rfl) 52 (ba 54 9007199254740991) (.bool false) (some 93) want (givesW_pickF rfl) ?_
           refine JY.pur (hi := rfl) 53 (ba 54 18014398509481983) (.bool false) (some 0) want ?_
           refine JY.done ?_
           refine JQ.then_normal ?_
           refine JQ.sub [(0, .bool false)] ?_
           refine JQ.mask [] [false, false, false, false, false] ?_
           refine J.ret ?_
           obtain rfl := Option.some.inj H0
           exact JQ.done' (rs := [.tmp 0]) (vs := [.bool false]) [] (.inr rfl) ⟨by kernel_rfl, trivial⟩ (fun _ h => Heap.to h) ⟨rfl, rfl⟩
       · refine JY.start [] (ba 54 0) ?_
         refine JY.pur (hi := rfl) 0 (ba 54 1) (.int .i64 t3.2) (some 41) want ?_
         refine JY.pur (hi := rfl) 1 (ba 54 3) (.bool (decide (t3.2 = 0))) (some 42) want ?_
         refine JY.pur (hi := rfl) 2 (ba 54 7) (.bool (decide (t3.2 = 0))) (some 43) want ?_
         refine JY.takeG 3 (ba 54 15) (mv_23 t3.1) (some 44) [true, true, true, true, true] rfl (wantOn 2 43 h34) (yields_load_boxes 0 0 (cl_23 t3.1) (holds_box b5 23 (cl_23 t3.1)) tyAgg_23 tySize_23) ?_
         refine JY.all [4] ⟨⟨_, rfl, ?_⟩, trivial⟩
         refine JL.on 2 43 h34 ?_
         refine JL.call [] [] [] (law33_of.ok 2 0 1 _ hc36) trivial ?_
         rintro _ _ ⟨rfl, rfl⟩
         refine JL.nil ?_
         refine JY.ran (ba 54 31) [true, true, true, true, true] ?_
         refine JY.takeG 5 (ba 54 63) (.bool (decide (t3.1 = t35))) (some 46) [true, true, true, true, true] rfl (wantOn 2 43 h34) (gives_eql eqg_23 (fun w => eqt_23 t3.1 t35 w)) ?_
         refine JY.puw (hi := rfl) 6 (ba 54 127) (.bool (decide (t3.1 = t35))) (some 47) want (givesW_pickT h34) ?_
         refine JY.pur (hi := rfl) 7 (ba 54 255) (.bool (decide (t3.1 = t35))) (some 48) want ?_
         refine JY.pur (hi := rfl) 8 (ba 54 511) (.int .i64 t8.2) (some 49) (wantOn 7 48 h37) ?_
         refine JY.pur (hi := rfl) 9 (ba 54 1023) (.bool (decide (t8.2 = 0))) (some 50) (wantOn 7 48 h37) ?_
         refine JY.puw (hi := rfl) 10 (ba 54 2047) (.bool (decide (t8.2 = 0))) (some 51) want (givesW_pickT h37) ?_
         refine JY.pur (hi := rfl) 11 (ba 54 4095) (.bool (decide (t8.2 = 0))) (some 52) want ?_
         refine JY.takeG 12 (ba 54 8191) (mv_23 t8.1) (some 53) [true, true, true, true, true] rfl (wantOn 11 52 h38) (yields_load_boxes 1 0 (cl_23 t8.1) (holds_box b10 23 (cl_23 t8.1)) tyAgg_23 tySize_23) ?_
         refine JY.all [13] ⟨⟨_, rfl, ?_⟩, trivial⟩
         refine JL.on 11 52 h38 ?_
         refine JL.call [] [] [] (law33_of.ok 3 0 1 _ hc40) trivial ?_
         rintro _ _ ⟨rfl, rfl⟩
         refine JL.nil ?_
         refine JY.ran (ba 54 16383) [true, true, true, true, true] ?_
         refine JY.takeG 14 (ba 54 32767) (.bool (decide (t8.1 = t39))) (some 55) [true, true, true, true, true] rfl (wantOn 11 52 h38) (gives_eql eqg_23 (fun w => eqt_23 t8.1 t39 w)) ?_
         refine JY.puw (hi := rfl) 15 (ba 54 65535) (.bool (decide (t8.1 = t39))) (some 56) want (givesW_pickT h38) ?_
         refine JY.pur (hi := rfl) 16 (ba 54 131071) (.bool (decide (t8.1 = t39))) (some 57) want ?_
         refine JY.skip (hi := rfl) 17 (ba 54 262143) (some 58) (wantOff 16 57 true h41) ?_
         refine JY.skip (hi := rfl) 18 (ba 54 524287) (some 59) (wantOff 16 57 true h41) ?_
         refine JY.puw (hi := rfl) 19 (ba 54 1048575) (.bool false) (some 60) want (givesW_pickF h41) ?_
         refine JY.pur (hi := rfl) 20 (ba 54 2097151) (.bool false) (some 61) want ?_
         refine JY.skip (hi := rfl) 21 (ba 54 4194303) (some 62) (wantOff 20 61 true rfl) ?_
         refine JY.skip (hi := rfl) 22 (ba 54 8388607) (some 63) (wantOff 20 61 true rfl) ?_
         refine JY.skip (hi := rfl) 23 (ba 54 16777215) (some 64) (wantOff 20 61 true rfl) ?_
         refine JY.skip (hi := rfl) 24 (ba 54 33554431) (some 65) (wantOff 20 61 true rfl) ?_
         refine JY.skip (hi := rfl) 25 (ba 54 67108863) (some 66) (wantOff 20 61 true rfl) ?_
         refine JY.skip (hi := rfl) 26 (ba 54 134217727) (some 67) (wantOff 20 61 true rfl) ?_
         refine JY.skip (hi := rfl) 27 (ba 54 268435455) (some 68) (wantOff 20 61 true rfl) ?_
         refine JY.puw (hi := rfl) 28 (ba 54 536870911) (.bool false) (some 69) want (givesW_pickF rfl) ?_
         refine JY.pur (hi := rfl) 29 (ba 54 1073741823) (.bool false) (some 70) want ?_
         refine JY.skip (hi := rfl) 30 (ba 54 2147483647) (some 71) (wantOff 29 70 true rfl) ?_
         refine JY.skip (hi := rfl) 31 (ba 54 4294967295) (some 72) (wantOff 29 70 true rfl) ?_
         refine JY.puw (hi := rfl) 32 (ba 54 8589934591) (.bool false) (some 73) want (givesW_pickF rfl) ?_
         refine JY.pur (hi := rfl) 33 (ba 54 17179869183) (.bool false) (some 74) want ?_
         refine JY.skip (hi := rfl) 34 (ba 54 34359738367) (some 75) (wantOff 33 74 true rfl) ?_
         refine JY.skip (hi := rfl) 35 (ba 54 68719476735) (some 76) (wantOff 33 74 true rfl) ?_
         refine JY.skip (hi := rfl) 36 (ba 54 137438953471) (some 77) (wantOff 33 74 true rfl) ?_
         refine JY.skip (hi := rfl) 37 (ba 54 274877906943) (some 78) (wantOff 33 74 true rfl) ?_
         refine JY.skip (hi := rfl) 38 (ba 54 549755813887) (some 79) (wantOff 33 74 true rfl) ?_
         refine JY.skip (hi := rfl) 39 (ba 54 1099511627775) (some 80) (wantOff 33 74 true rfl) ?_
         refine JY.skip (hi := rfl) 40 (ba 54 2199023255551) (some 81) (wantOff 33 74 true rfl) ?_
         refine JY.puw (hi := rfl) 41 (ba 54 4398046511103) (.bool false) (some 82) want (givesW_pickF rfl) ?_
         refine JY.pur (hi := rfl) 42 (ba 54 8796093022207) (.bool false) (some 83) want ?_
         refine JY.skip (hi := rfl) 43 (ba 54 17592186044415) (some 84) (wantOff 42 83 true rfl) ?_
         refine JY.skip (hi := rfl) 44 (ba 54 35184372088831) (some 85) (wantOff 42 83 true rfl) ?_
         refine JY.puw (hi := rfl) 45 (ba 54 70368744177663) (.bool false) (some 86) want (givesW_pickF rfl) ?_
         refine JY.pur (hi := rfl) 46 (ba 54 140737488355327) (.bool false) (some 87) want ?_
         refine JY.skip (hi := rfl) 47 (ba 54 281474976710655) (some 88) (wantOff 46 87 true rfl) ?_
         refine JY.skip (hi := rfl) 48 (ba 54 562949953421311) (some 89) (wantOff 46 87 true rfl) ?_
         refine JY.skip (hi := rfl) 49 (ba 54 1125899906842623) (some 90) (wantOff 46 87 true rfl) ?_
         refine JY.skip (hi := rfl) 50 (ba 54 2251799813685247) (some 91) (wantOff 46 87 true rfl) ?_
         refine JY.skip (hi := rfl) 51 (ba 54 4503599627370495) (some 92) (wantOff 46 87 true rfl) ?_
         refine JY.puw (hi := rfl) 52 (ba 54 9007199254740991) (.bool false) (some 93) want (givesW_pickF rfl) ?_
         refine JY.pur (hi := rfl) 53 (ba 54 18014398509481983) (.bool false) (some 0) want ?_
         refine JY.done ?_
         refine JQ.then_normal ?_
         refine JQ.sub [(0, .bool false)] ?_
         refine JQ.mask [] [false, false, false, false, false] ?_
         refine J.ret ?_
         obtain rfl := Option.some.inj H0
         exact JQ.done' (rs := [.tmp 0]) (vs := [.bool false]) [] (.inr rfl) ⟨by kernel_rfl, trivial⟩ (fun _ h => Heap.to h) ⟨rfl, rfl⟩
     · refine JY.start [] (ba 54 0) ?_
       refine JY.pur (hi := rfl) 0 (ba 54 1) (.int .i64 t3.2) (some 41) want ?_
       refine JY.pur (hi := rfl) 1 (ba 54 3) (.bool (decide (t3.2 = 0))) (some 42) want ?_
       refine JY.pur (hi := rfl) 2 (ba 54 7) (.bool (decide (t3.2 = 0))) (some 43) want ?_
       refine JY.takeG 3 (ba 54 15) (mv_23 t3.1) (some 44) [true, true, true, true, true] rfl (wantOn 2 43 h34) (yields_load_boxes 0 0 (cl_23 t3.1) (holds_box b5 23 (cl_23 t3.1)) tyAgg_23 tySize_23) ?_
       refine JY.all [4] ⟨⟨_, rfl, ?_⟩, trivial⟩
       refine JL.on 2 43 h34 ?_
       refine JL.call [] [] [] (law33_of.ok 2 0 1 _ hc36) trivial ?_
       rintro _ _ ⟨rfl, rfl⟩
       refine JL.nil ?_
       refine JY.ran (ba 54 31) [true, true, true, true, true] ?_
       refine JY.takeG 5 (ba 54 63) (.bool (decide (t3.1 = t35))) (some 46) [true, true, true, true, true] rfl (wantOn 2 43 h34) (gives_eql eqg_23 (fun w => eqt_23 t3.1 t35 w)) ?_
       refine JY.puw (hi := rfl) 6 (ba 54 127) (.bool (decide (t3.1 = t35))) (some 47) want (givesW_pickT h34) ?_
       refine JY.pur (hi := rfl) 7 (ba 54 255) (.bool (decide (t3.1 = t35))) (some 48) want ?_
       refine JY.pur (hi := rfl) 8 (ba 54 511) (.int .i64 t8.2) (some 49) (wantOn 7 48 h37) ?_
       refine JY.pur (hi := rfl) 9 (ba 54 1023) (.bool (decide (t8.2 = 0))) (some 50) (wantOn 7 48 h37) ?_
       refine JY.puw (hi := rfl) 10 (ba 54 2047) (.bool (decide (t8.2 = 0))) (some 51) want (givesW_pickT h37) ?_
       refine JY.pur (hi := rfl) 11 (ba 54 4095) (.bool (decide (t8.2 = 0))) (some 52) want ?_
       refine JY.skip (hi := rfl) 12 (ba 54 8191) (some 53) (wantOff 11 52 true h38) ?_
       refine JY.skip (hi := rfl) 13 (ba 54 16383) (some 54) (wantOff 11 52 true h38) ?_
       refine JY.skip (hi := rfl) 14 (ba 54 32767) (some 55) (wantOff 11 52 true h38) ?_
       refine JY.puw (hi := rfl) 15 (ba 54 65535) (.bool false) (some 56) want (givesW_pickF h38) ?_
       refine JY.pur (hi := rfl) 16 (ba 54 131071) (.bool false) (some 57) want ?_
       refine JY.skip (hi := rfl) 17 (ba 54 262143) (some 58) (wantOff 16 57 true rfl) ?_
       refine JY.skip (hi := rfl) 18 (ba 54 524287) (some 59) (wantOff 16 57 true rfl) ?_
       refine JY.puw (hi := rfl) 19 (ba 54 1048575) (.bool false) (some 60) want (givesW_pickF rfl) ?_
       refine JY.pur (hi := rfl) 20 (ba 54 2097151) (.bool false) (some 61) want ?_
       refine JY.skip (hi := rfl) 21 (ba 54 4194303) (some 62) (wantOff 20 61 true rfl) ?_
       refine JY.skip (hi := rfl) 22 (ba 54 8388607) (some 63) (wantOff 20 61 true rfl) ?_
       refine JY.skip (hi := rfl) 23 (ba 54 16777215) (some 64) (wantOff 20 61 true rfl) ?_
       refine JY.skip (hi := rfl) 24 (ba 54 33554431) (some 65) (wantOff 20 61 true rfl) ?_
       refine JY.skip (hi := rfl) 25 (ba 54 67108863) (some 66) (wantOff 20 61 true rfl) ?_
       refine JY.skip (hi := rfl) 26 (ba 54 134217727) (some 67) (wantOff 20 61 true rfl) ?_
       refine JY.skip (hi := rfl) 27 (ba 54 268435455) (some 68) (wantOff 20 61 true rfl) ?_
       refine JY.puw (hi := rfl) 28 (ba 54 536870911) (.bool false) (some 69) want (givesW_pickF rfl) ?_
       refine JY.pur (hi := rfl) 29 (ba 54 1073741823) (.bool false) (some 70) want ?_
       refine JY.skip (hi := rfl) 30 (ba 54 2147483647) (some 71) (wantOff 29 70 true rfl) ?_
       refine JY.skip (hi := rfl) 31 (ba 54 4294967295) (some 72) (wantOff 29 70 true rfl) ?_
       refine JY.puw (hi := rfl) 32 (ba 54 8589934591) (.bool false) (some 73) want (givesW_pickF rfl) ?_
       refine JY.pur (hi := rfl) 33 (ba 54 17179869183) (.bool false) (some 74) want ?_
       refine JY.skip (hi := rfl) 34 (ba 54 34359738367) (some 75) (wantOff 33 74 true rfl) ?_
       refine JY.skip (hi := rfl) 35 (ba 54 68719476735) (some 76) (wantOff 33 74 true rfl) ?_
       refine JY.skip (hi := rfl) 36 (ba 54 137438953471) (some 77) (wantOff 33 74 true rfl) ?_
       refine JY.skip (hi := rfl) 37 (ba 54 274877906943) (some 78) (wantOff 33 74 true rfl) ?_
       refine JY.skip (hi := rfl) 38 (ba 54 549755813887) (some 79) (wantOff 33 74 true rfl) ?_
       refine JY.skip (hi := rfl) 39 (ba 54 1099511627775) (some 80) (wantOff 33 74 true rfl) ?_
       refine JY.skip (hi := rfl) 40 (ba 54 2199023255551) (some 81) (wantOff 33 74 true rfl) ?_
       refine JY.puw (hi := rfl) 41 (ba 54 4398046511103) (.bool false) (some 82) want (givesW_pickF rfl) ?_
       refine JY.pur (hi := rfl) 42 (ba 54 8796093022207) (.bool false) (some 83) want ?_
       refine JY.skip (hi := rfl) 43 (ba 54 17592186044415) (some 84) (wantOff 42 83 true rfl) ?_
       refine JY.skip (hi := rfl) 44 (ba 54 35184372088831) (some 85) (wantOff 42 83 true rfl) ?_
       refine JY.puw (hi := rfl) 45 (ba 54 70368744177663) (.bool false) (some 86) want (givesW_pickF rfl) ?_
       refine JY.pur (hi := rfl) 46 (ba 54 140737488355327) (.bool false) (some 87) want ?_
       refine JY.skip (hi := rfl) 47 (ba 54 281474976710655) (some 88) (wantOff 46 87 true rfl) ?_
       refine JY.skip (hi := rfl) 48 (ba 54 562949953421311) (some 89) (wantOff 46 87 true rfl) ?_
       refine JY.skip (hi := rfl) 49 (ba 54 1125899906842623) (some 90) (wantOff 46 87 true rfl) ?_
       refine JY.skip (hi := rfl) 50 (ba 54 2251799813685247) (some 91) (wantOff 46 87 true rfl) ?_
       refine JY.skip (hi := rfl) 51 (ba 54 4503599627370495) (some 92) (wantOff 46 87 true rfl) ?_
       refine JY.puw (hi := rfl) 52 (ba 54 9007199254740991) (.bool false) (some 93) want (givesW_pickF rfl) ?_
       refine JY.pur (hi := rfl) 53 (ba 54 18014398509481983) (.bool false) (some 0) want ?_
       refine JY.done ?_
       refine JQ.then_normal ?_
       refine JQ.sub [(0, .bool false)] ?_
       refine JQ.mask [] [false, false, false, false, false] ?_
       refine J.ret ?_
       obtain rfl := Option.some.inj H0
       exact JQ.done' (rs := [.tmp 0]) (vs := [.bool false]) [] (.inr rfl) ⟨by kernel_rfl, trivial⟩ (fun _ h => Heap.to h) ⟨rfl, rfl⟩
   · refine JY.start [] (ba 54 0) ?_
     refine JY.pur (hi := rfl) 0 (ba 54 1) (.int .i64 t3.2) (some 41) want ?_
     refine JY.pur (hi := rfl) 1 (ba 54 3) (.bool (decide (t3.2 = 0))) (some 42) want ?_
     refine JY.pur (hi := rfl) 2 (ba 54 7) (.bool (decide (t3.2 = 0))) (some 43) want ?_
     refine JY.takeG 3 (ba 54 15) (mv_23 t3.1) (some 44) [true, true, true, true, true] rfl (wantOn 2 43 h34) (yields_load_boxes 0 0 (cl_23 t3.1) (holds_box b5 23 (cl_23 t3.1)) tyAgg_23 tySize_23) ?_
     refine JY.all [4] ⟨⟨_, rfl, ?_⟩, trivial⟩
     refine JL.on 2 43 h34 ?_
     refine JL.call [] [] [] (law33_of.ok 2 0 1 _ hc36) trivial ?_
     rintro _ _ ⟨rfl, rfl⟩
     refine JL.nil ?_
     refine JY.ran (ba 54 31) [true, true, true, true, true] ?_
     refine JY.takeG 5 (ba 54 63) (.bool (decide (t3.1 = t35))) (some 46) [true, true, true, true, true] rfl (wantOn 2 43 h34) (gives_eql eqg_23 (fun w => eqt_23 t3.1 t35 w)) ?_
     refine JY.puw (hi := rfl) 6 (ba 54 127) (.bool (decide (t3.1 = t35))) (some 47) want (givesW_pickT h34) ?_
     refine JY.pur (hi := rfl) 7 (ba 54 255) (.bool (decide (t3.1 = t35))) (some 48) want ?_
     refine JY.skip (hi := rfl) 8 (ba 54 511) (some 49) (wantOff 7 48 true h37) ?_
     refine JY.skip (hi := rfl) 9 (ba 54 1023) (some 50) (wantOff 7 48 true h37) ?_
     refine JY.puw (hi := rfl) 10 (ba 54 2047) (.bool false) (some 51) want (givesW_pickF h37) ?_
     refine JY.pur (hi := rfl) 11 (ba 54 4095) (.bool false) (some 52) want ?_
     refine JY.skip (hi := rfl) 12 (ba 54 8191) (some 53) (wantOff 11 52 true rfl) ?_
     refine JY.skip (hi := rfl) 13 (ba 54 16383) (some 54) (wantOff 11 52 true rfl) ?_
     refine JY.skip (hi := rfl) 14 (ba 54 32767) (some 55) (wantOff 11 52 true rfl) ?_
     refine JY.puw (hi := rfl) 15 (ba 54 65535) (.bool false) (some 56) want (givesW_pickF rfl) ?_
     refine JY.pur (hi := rfl) 16 (ba 54 131071) (.bool false) (some 57) want ?_
     refine JY.skip (hi := rfl) 17 (ba 54 262143) (some 58) (wantOff 16 57 true rfl) ?_
     refine JY.skip (hi := rfl) 18 (ba 54 524287) (some 59) (wantOff 16 57 true rfl) ?_
     refine JY.puw (hi := rfl) 19 (ba 54 1048575) (.bool false) (some 60) want (givesW_pickF rfl) ?_
     refine JY.pur (hi := rfl) 20 (ba 54 2097151) (.bool false) (some 61) want ?_
     refine JY.skip (hi := rfl) 21 (ba 54 4194303) (some 62) (wantOff 20 61 true rfl) ?_
     refine JY.skip (hi := rfl) 22 (ba 54 8388607) (some 63) (wantOff 20 61 true rfl) ?_
     refine JY.skip (hi := rfl) 23 (ba 54 16777215) (some 64) (wantOff 20 61 true rfl) ?_
     refine JY.skip (hi := rfl) 24 (ba 54 33554431) (some 65) (wantOff 20 61 true rfl) ?_
     refine JY.skip (hi := rfl) 25 (ba 54 67108863) (some 66) (wantOff 20 61 true rfl) ?_
     refine JY.skip (hi := rfl) 26 (ba 54 134217727) (some 67) (wantOff 20 61 true rfl) ?_
     refine JY.skip (hi := rfl) 27 (ba 54 268435455) (some 68) (wantOff 20 61 true rfl) ?_
     refine JY.puw (hi := rfl) 28 (ba 54 536870911) (.bool false) (some 69) want (givesW_pickF rfl) ?_
     refine JY.pur (hi := rfl) 29 (ba 54 1073741823) (.bool false) (some 70) want ?_
     refine JY.skip (hi := rfl) 30 (ba 54 2147483647) (some 71) (wantOff 29 70 true rfl) ?_
     refine JY.skip (hi := rfl) 31 (ba 54 4294967295) (some 72) (wantOff 29 70 true rfl) ?_
     refine JY.puw (hi := rfl) 32 (ba 54 8589934591) (.bool false) (some 73) want (givesW_pickF rfl) ?_
     refine JY.pur (hi := rfl) 33 (ba 54 17179869183) (.bool false) (some 74) want ?_
     refine JY.skip (hi := rfl) 34 (ba 54 34359738367) (some 75) (wantOff 33 74 true rfl) ?_
     refine JY.skip (hi := rfl) 35 (ba 54 68719476735) (some 76) (wantOff 33 74 true rfl) ?_
     refine JY.skip (hi := rfl) 36 (ba 54 137438953471) (some 77) (wantOff 33 74 true rfl) ?_
     refine JY.skip (hi := rfl) 37 (ba 54 274877906943) (some 78) (wantOff 33 74 true rfl) ?_
     refine JY.skip (hi := rfl) 38 (ba 54 549755813887) (some 79) (wantOff 33 74 true rfl) ?_
     refine JY.skip (hi := rfl) 39 (ba 54 1099511627775) (some 80) (wantOff 33 74 true rfl) ?_
     refine JY.skip (hi := rfl) 40 (ba 54 2199023255551) (some 81) (wantOff 33 74 true rfl) ?_
     refine JY.puw (hi := rfl) 41 (ba 54 4398046511103) (.bool false) (some 82) want (givesW_pickF rfl) ?_
     refine JY.pur (hi := rfl) 42 (ba 54 8796093022207) (.bool false) (some 83) want ?_
     refine JY.skip (hi := rfl) 43 (ba 54 17592186044415) (some 84) (wantOff 42 83 true rfl) ?_
     refine JY.skip (hi := rfl) 44 (ba 54 35184372088831) (some 85) (wantOff 42 83 true rfl) ?_
     refine JY.puw (hi := rfl) 45 (ba 54 70368744177663) (.bool false) (some 86) want (givesW_pickF rfl) ?_
     refine JY.pur (hi := rfl) 46 (ba 54 140737488355327) (.bool false) (some 87) want ?_
     refine JY.skip (hi := rfl) 47 (ba 54 281474976710655) (some 88) (wantOff 46 87 true rfl) ?_
     refine JY.skip (hi := rfl) 48 (ba 54 562949953421311) (some 89) (wantOff 46 87 true rfl) ?_
     refine JY.skip (hi := rfl) 49 (ba 54 1125899906842623) (some 90) (wantOff 46 87 true rfl) ?_
     refine JY.skip (hi := rfl) 50 (ba 54 2251799813685247) (some 91) (wantOff 46 87 true rfl) ?_
     refine JY.skip (hi := rfl) 51 (ba 54 4503599627370495) (some 92) (wantOff 46 87 true rfl) ?_
     refine JY.puw (hi := rfl) 52 (ba 54 9007199254740991) (.bool false) (some 93) want (givesW_pickF rfl) ?_
     refine JY.pur (hi := rfl) 53 (ba 54 18014398509481983) (.bool false) (some 0) want ?_
     refine JY.done ?_
     refine JQ.then_normal ?_
     refine JQ.sub [(0, .bool false)] ?_
     refine JQ.mask [] [false, false, false, false, false] ?_
     refine J.ret ?_
     obtain rfl := Option.some.inj H0
     exact JQ.done' (rs := [.tmp 0]) (vs := [.bool false]) [] (.inr rfl) ⟨by kernel_rfl, trivial⟩ (fun _ h => Heap.to h) ⟨rfl, rfl⟩
 · refine JY.start [] (ba 54 0) ?_
   refine JY.pur (hi := rfl) 0 (ba 54 1) (.int .i64 t3.2) (some 41) want ?_
   refine JY.pur (hi := rfl) 1 (ba 54 3) (.bool (decide (t3.2 = 0))) (some 42) want ?_
   refine JY.pur (hi := rfl) 2 (ba 54 7) (.bool (decide (t3.2 = 0))) (some 43) want ?_
   refine JY.skip (hi := rfl) 3 (ba 54 15) (some 44) (wantOff 2 43 true h34) ?_
   refine JY.skip (hi := rfl) 4 (ba 54 31) (some 45) (wantOff 2 43 true h34) ?_
   refine JY.skip (hi := rfl) 5 (ba 54 63) (some 46) (wantOff 2 43 true h34) ?_
   refine JY.puw (hi := rfl) 6 (ba 54 127) (.bool false) (some 47) want (givesW_pickF h34) ?_
   refine JY.pur (hi := rfl) 7 (ba 54 255) (.bool false) (some 48) want ?_
   refine JY.skip (hi := rfl) 8 (ba 54 511) (some 49) (wantOff 7 48 true rfl) ?_
   refine JY.skip (hi := rfl) 9 (ba 54 1023) (some 50) (wantOff 7 48 true rfl) ?_
   refine JY.puw (hi := rfl) 10 (ba 54 2047) (.bool false) (some 51) want (givesW_pickF rfl) ?_
   refine JY.pur (hi := rfl) 11 (ba 54 4095) (.bool false) (some 52) want ?_
   refine JY.skip (hi := rfl) 12 (ba 54 8191) (some 53) (wantOff 11 52 true rfl) ?_
   refine JY.skip (hi := rfl) 13 (ba 54 16383) (some 54) (wantOff 11 52 true rfl) ?_
   refine JY.skip (hi := rfl) 14 (ba 54 32767) (some 55) (wantOff 11 52 true rfl) ?_
   refine JY.puw (hi := rfl) 15 (ba 54 65535) (.bool false) (some 56) want (givesW_pickF rfl) ?_
   refine JY.pur (hi := rfl) 16 (ba 54 131071) (.bool false) (some 57) want ?_
   refine JY.skip (hi := rfl) 17 (ba 54 262143) (some 58) (wantOff 16 57 true rfl) ?_
   refine JY.skip (hi := rfl) 18 (ba 54 524287) (some 59) (wantOff 16 57 true rfl) ?_
   refine JY.puw (hi := rfl) 19 (ba 54 1048575) (.bool false) (some 60) want (givesW_pickF rfl) ?_
   refine JY.pur (hi := rfl) 20 (ba 54 2097151) (.bool false) (some 61) want ?_
   refine JY.skip (hi := rfl) 21 (ba 54 4194303) (some 62) (wantOff 20 61 true rfl) ?_
   refine JY.skip (hi := rfl) 22 (ba 54 8388607) (some 63) (wantOff 20 61 true rfl) ?_
   refine JY.skip (hi := rfl) 23 (ba 54 16777215) (some 64) (wantOff 20 61 true rfl) ?_
   refine JY.skip (hi := rfl) 24 (ba 54 33554431) (some 65) (wantOff 20 61 true rfl) ?_
   refine JY.skip (hi := rfl) 25 (ba 54 67108863) (some 66) (wantOff 20 61 true rfl) ?_
   refine JY.skip (hi := rfl) 26 (ba 54 134217727) (some 67) (wantOff 20 61 true rfl) ?_
   refine JY.skip (hi := rfl) 27 (ba 54 268435455) (some 68) (wantOff 20 61 true rfl) ?_
   refine JY.puw (hi := rfl) 28 (ba 54 536870911) (.bool false) (some 69) want (givesW_pickF rfl) ?_
   refine JY.pur (hi := rfl) 29 (ba 54 1073741823) (.bool false) (some 70) want ?_
   refine JY.skip (hi := rfl) 30 (ba 54 2147483647) (some 71) (wantOff 29 70 true rfl) ?_
   refine JY.skip (hi := rfl) 31 (ba 54 4294967295) (some 72) (wantOff 29 70 true rfl) ?_
   refine JY.puw (hi := rfl) 32 (ba 54 8589934591) (.bool false) (some 73) want (givesW_pickF rfl) ?_
   refine JY.pur (hi := rfl) 33 (ba 54 17179869183) (.bool false) (some 74) want ?_
   refine JY.skip (hi := rfl) 34 (ba 54 34359738367) (some 75) (wantOff 33 74 true rfl) ?_
   refine JY.skip (hi := rfl) 35 (ba 54 68719476735) (some 76) (wantOff 33 74 true rfl) ?_
   refine JY.skip (hi := rfl) 36 (ba 54 137438953471) (some 77) (wantOff 33 74 true rfl) ?_
   refine JY.skip (hi := rfl) 37 (ba 54 274877906943) (some 78) (wantOff 33 74 true rfl) ?_
   refine JY.skip (hi := rfl) 38 (ba 54 549755813887) (some 79) (wantOff 33 74 true rfl) ?_
   refine JY.skip (hi := rfl) 39 (ba 54 1099511627775) (some 80) (wantOff 33 74 true rfl) ?_
   refine JY.skip (hi := rfl) 40 (ba 54 2199023255551) (some 81) (wantOff 33 74 true rfl) ?_
   refine JY.puw (hi := rfl) 41 (ba 54 4398046511103) (.bool false) (some 82) want (givesW_pickF rfl) ?_
   refine JY.pur (hi := rfl) 42 (ba 54 8796093022207) (.bool false) (some 83) want ?_
   refine JY.skip (hi := rfl) 43 (ba 54 17592186044415) (some 84) (wantOff 42 83 true rfl) ?_
   refine JY.skip (hi := rfl) 44 (ba 54 35184372088831) (some 85) (wantOff 42 83 true rfl) ?_
   refine JY.puw (hi := rfl) 45 (ba 54 70368744177663) (.bool false) (some 86) want (givesW_pickF rfl) ?_
   refine JY.pur (hi := rfl) 46 (ba 54 140737488355327) (.bool false) (some 87) want ?_
   refine JY.skip (hi := rfl) 47 (ba 54 281474976710655) (some 88) (wantOff 46 87 true rfl) ?_
   refine JY.skip (hi := rfl) 48 (ba 54 562949953421311) (some 89) (wantOff 46 87 true rfl) ?_
   refine JY.skip (hi := rfl) 49 (ba 54 1125899906842623) (some 90) (wantOff 46 87 true rfl) ?_
   refine JY.skip (hi := rfl) 50 (ba 54 2251799813685247) (some 91) (wantOff 46 87 true rfl) ?_
   refine JY.skip (hi := rfl) 51 (ba 54 4503599627370495) (some 92) (wantOff 46 87 true rfl) ?_
   refine JY.puw (hi := rfl) 52 (ba 54 9007199254740991) (.bool false) (some 93) want (givesW_pickF rfl) ?_
   refine JY.pur (hi := rfl) 53 (ba 54 18014398509481983) (.bool false) (some 0) want ?_
   refine JY.done ?_
   refine JQ.then_normal ?_
   refine JQ.sub [(0, .bool false)] ?_
   refine JQ.mask [] [false, false, false, false, false] ?_
   refine J.ret ?_
   obtain rfl := Option.some.inj H0
   exact JQ.done' (rs := [.tmp 0]) (vs := [.bool false]) [] (.inr rfl) ⟨by kernel_rfl, trivial⟩ (fun _ h => Heap.to h) ⟨rfl, rfl⟩


end Go.Proofs.Ytlfmmenlkpoodaa.M
