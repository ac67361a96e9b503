import Derived.Test.YtlfmmenlkpoodaaW1
set_option linter.unusedVariables false
set_option linter.unusedSimpArgs false
set_option maxRecDepth 100000
set_option maxHeartbeats 8000000
namespace Go.Proofs.Ytlfmmenlkpoodaa.M
open Go.GW Go.Proofs

theorem jones_Loop.ok (l1 : (List Pol)) (Aa2 : Option Addr) (c3 : Nat) (a5 : Int) (b6 : Int) (c7 : Int) (d8 : Int) (r : ((A4 Cx) × Int)) (H0 : jones_Loop.f l1 a5 b6 c7 d8 = some r) :
    Does Try.prog 29 [.slice Aa2 l1.length c3, .int .i64 a5, .int .i64 b6, .int .i64 c7, .int .i64 d8].toArray [At.rd Aa2 c3 fl_Pol.kd l1 true] [] false (fun v Δ => v = .tuple #[mv_25 r.1, .int .i64 r.2] ∧ Δ = []) := by
 refine Does.body (vs := [.slice Aa2 l1.length c3, .int .i64 a5, .int .i64 b6, .int .i64 c7, .int .i64 d8]) Try.func29 rfl ⟨.inl rfl, trivial⟩ trivial fun w S => ?_
 unfold jones_Loop.f at H0
 refine J.seq ?_
 refine J.region ?_
 refine JL.alloc (cl_25 zv_25) fun b9 => ?_
 refine JL.as (.int .i64 0) ?_
 refine JL.nil ?_
 refine JQ.then_normal ?_
 refine JQ.sub [(0, .slice Aa2 l1.length c3), (1, .int .i64 a5), (2, .int .i64 b6), (3, .int .i64 c7), (4, .int .i64 d8), (10, .pointer (some ⟨b9, 0, none⟩))] ?_
 refine J.seq ?_
 refine J.seq ?_
 refine J.region ?_
 refine JL.mv (.slice Aa2 l1.length c3) ?_
 obtain ⟨t10, hc11, H0⟩ := bind_some H0
 refine JL.call [] [] [] (jones_seen.ok l1 Aa2 c3 8 _ hc11) ⟨pre_any 0 (view_rd Aa2 c3 fl_Pol.kd l1 true true), trivial⟩ ?_
 rintro _ _ ⟨rfl, rfl⟩
 refine JL.as (.int .i64 t10) ?_
 refine JL.nil ?_
 refine JQ.then_normal ?_
 refine JQ.sub [(0, .slice Aa2 l1.length c3), (1, .int .i64 a5), (2, .int .i64 b6), (3, .int .i64 c7), (4, .int .i64 d8), (10, .pointer (some ⟨b9, 0, none⟩)), (12, .int .i64 t10)] ?_
 refine J.seq ?_
 refine J.region ?_
 refine JL.mv (.int .i64 t10) ?_
 refine JL.pur (.bool (!decide (t10 = 0))) (some 31) ?_
 refine JL.nil ?_
 refine JQ.then_normal ?_
 refine JQ.sub [(0, .slice Aa2 l1.length c3), (1, .int .i64 a5), (2, .int .i64 b6), (3, .int .i64 c7), (4, .int .i64 d8), (10, .pointer (some ⟨b9, 0, none⟩)), (12, .int .i64 t10), (31, .bool (!decide (t10 = 0)))] ?_
 rcases ite_cases H0 with ⟨h12, H0⟩ | ⟨h12, H0⟩
 · refine J.cond_true h12 ?_
   refine J.seq ?_
   refine J.region ?_
   refine JL.pur (mv_25 zv_25) (some 32) ?_
   refine JL.mv (.int .i64 t10) ?_
   refine JL.store 1 b9 0 25 (cl_25 zv_25) (cl_25 zv_25) tySize_25 ?_
   refine JL.as (.int .i64 t10) ?_
   refine JL.nil ?_
   refine JQ.then_normal ?_
   refine JQ.sub [(10, .pointer (some ⟨b9, 0, none⟩)), (11, .int .i64 t10)] ?_
   refine JQ.mask [At.box b9 25 (cl_25 zv_25)] [false, true] ?_
   refine J.ret ?_
   refine JQ.then_ret ?_
   obtain rfl := Option.some.inj H0
   exact JQ.done' (rs := [.cell 10 25, .tmp 11]) (vs := [.agg #[.int .i64 0, .int .i64 0, .int .i64 0, .int .i64 0, .int .i64 0, .int .i64 0, .int .i64 0, .int .i64 0, .int .i64 0, .int .i64 0, .int .i64 0, .int .i64 0], .int .i64 t10]) [] (.inr rfl) ⟨⟨b9, 0, _, _, by kernel_rfl, by kernel_rfl, holds_box b9 25 (cl_25 zv_25), .inl ⟨tyAgg_25, tySize_25, rfl⟩⟩, by kernel_rfl, trivial⟩ (fun _ h => Heap.to (Heap.pick [] (by decide) h)) ⟨rfl, rfl⟩
 · refine J.cond_false h12 ?_
   refine J.skip ?_
   refine JQ.then_normal ?_
   refine JQ.sub [(0, .slice Aa2 l1.length c3), (1, .int .i64 a5), (2, .int .i64 b6), (3, .int .i64 c7), (4, .int .i64 d8), (10, .pointer (some ⟨b9, 0, none⟩))] ?_
   refine J.seq ?_
   refine J.region ?_
   refine JL.mkMap mv_77 mv_25 fun b13 => ?_
   refine JL.as (.map (some b13)) ?_
   refine JL.nil ?_
   refine JQ.then_normal ?_
   refine JQ.sub [(0, .slice Aa2 l1.length c3), (1, .int .i64 a5), (2, .int .i64 b6), (3, .int .i64 c7), (4, .int .i64 d8), (10, .pointer (some ⟨b9, 0, none⟩)), (13, .map (some b13))] ?_
   refine J.seq ?_
   refine J.seq ?_
   refine J.region ?_
   refine JL.mv (.slice Aa2 l1.length c3) ?_
   refine JL.pur (.int .i64 (l1.length : Int)) (some 36) ?_
   refine JL.mv (.int .i64 0) ?_
   refine JL.nil ?_
   refine JQ.then_normal ?_
   obtain ⟨o1, hit, H0⟩ := bind_some H0
   refine J.loop (σ := ((List ((A2 Int) × (A4 Cx))) × Int)) (τ := List ((A2 Int) × (A4 Cx))) (G := Unit) (G' := Unit) _ o1 (fun s g => [(0, .slice Aa2 l1.length c3), (1, .int .i64 a5), (2, .int .i64 b6), (3, .int .i64 c7), (4, .int .i64 d8), (10, .pointer (some ⟨b9, 0, none⟩)), (13, .map (some b13)), (35, .slice Aa2 l1.length c3), (36, .int .i64 (l1.length : Int)), (37, .int .i64 s.2)]) (fun s g => [At.rd Aa2 c3 fl_Pol.kd l1 true, At.box b9 25 (cl_25 zv_25), At.mp b13 mv_77 mv_25 s.1]) (fun t => jones_Loop.k2 l1 a5 b6 c7 d8 t = some r) (fun t g => [(0, .slice Aa2 l1.length c3), (1, .int .i64 a5), (2, .int .i64 b6), (3, .int .i64 c7), (4, .int .i64 d8), (10, .pointer (some ⟨b9, 0, none⟩)), (13, .map (some b13))]) (fun t g => [At.rd Aa2 c3 fl_Pol.kd l1 true, At.box b9 25 (cl_25 zv_25), At.mp b13 mv_77 mv_25 t]) (([] : List ((A2 Int) × (A4 Cx))), 0) () hit (fun _ h => Heap.to h) ?_ ?_
   · clear hit
     rintro ⟨m46, x47⟩ ⟨⟩ st1 H1 hb1 hr1
     replace H1 : jones_Loop.s1 l1 m46 x47 = some st1 := H1
     unfold jones_Loop.s1 at H1
     refine JQ.sub [(0, .slice Aa2 l1.length c3), (1, .int .i64 a5), (2, .int .i64 b6), (3, .int .i64 c7), (4, .int .i64 d8), (10, .pointer (some ⟨b9, 0, none⟩)), (13, .map (some b13)), (35, .slice Aa2 l1.length c3), (36, .int .i64 (l1.length : Int)), (37, .int .i64 x47)] ?_
     refine JQ.turn (Δ' := [At.rd Aa2 c3 fl_Pol.kd l1 true, At.box b9 25 (cl_25 zv_25), At.mp b13 mv_77 mv_25 m46]) (fun _ h => h.to) ?_
     refine J.seq ?_
     refine J.region ?_
     refine JL.pur (.bool (decide (x47 < (l1.length : Int)))) (some 38) ?_
     refine JL.nil ?_
     refine JQ.then_normal ?_
     refine J.seq ?_
     rcases ite_cases H1 with ⟨h118, H1⟩ | ⟨h118, H1⟩
     · refine J.cond_true h118 ?_
       refine J.skip ?_
       refine JQ.then_normal ?_
       refine JQ.sub [(0, .slice Aa2 l1.length c3), (1, .int .i64 a5), (2, .int .i64 b6), (3, .int .i64 c7), (4, .int .i64 d8), (10, .pointer (some ⟨b9, 0, none⟩)), (13, .map (some b13)), (35, .slice Aa2 l1.length c3), (36, .int .i64 (l1.length : Int)), (37, .int .i64 x47)] ?_
       refine J.seq ?_
       refine J.block ?_
       refine J.seq ?_
       refine J.region ?_
       obtain ⟨⟨h119, h120⟩, H1⟩ := ite_must H1
       refine JL.ixAddr 0 15 c3 .i64 (elems_rd Aa2 c3 fl_Pol.kd l1 true) Try.underlying39 tySize_57 h119 h120 fun g121 o122 hA => ?_
       subst hA
       refine JL.val (mv_57 (ix l1 x47)) (some 40) (gives_loadEl (f := fl_Pol) 0 0 x47 (elems_rd (some ⟨g121, o122, none⟩) c3 fl_Pol.kd l1 true) h119 h120 tySize_57 (.inl ⟨tyAgg_57, rfl⟩)) ?_
       refine JL.alloc (cl_57 zv_57) fun b123 => ?_
       refine JL.store 3 b123 0 57 (cl_57 zv_57) (cl_57 (ix l1 x47)) tySize_57 ?_
       refine JL.nil ?_
       refine JQ.then_normal ?_
       refine JQ.sub [(0, .slice (some ⟨g121, o122, none⟩) l1.length c3), (1, .int .i64 a5), (2, .int .i64 b6), (3, .int .i64 c7), (4, .int .i64 d8), (10, .pointer (some ⟨b9, 0, none⟩)), (13, .map (some b13)), (15, .pointer (some ⟨b123, 0, none⟩)), (35, .slice (some ⟨g121, o122, none⟩) l1.length c3), (36, .int .i64 (l1.length : Int)), (37, .int .i64 x47)] ?_
       obtain ⟨t124, hc125, H1⟩ := bind_some H1
       obtain ⟨m126, em126, H1⟩ := lt_some H1
       obtain ⟨m127, em127, H1⟩ := lt_some H1
       refine JY.startM [true, true, false, true] [] (ba 19 0) ?_
       refine JY.pur (hi := rfl) 0 (ba 19 1) (.map (some b13)) (some 41) want ?_
       refine JY.pur (hi := rfl) 1 (ba 19 3) (.pointer (some ⟨b123, 0, none⟩)) (some 42) want ?_
       refine JY.take (hi := rfl) 2 (ba 19 7) (.int .i64 ((ix l1 x47).I)) (some 43) [true, true, false, true] want (yields_load_box 2 0 (holds_box b123 57 (cl_57 (ix l1 x47))) tyAgg_3) ?_
       refine JY.pur (hi := rfl) 3 (ba 19 15) (.pointer (some ⟨b123, 1, none⟩)) (some 44) want ?_
       refine JY.take (hi := rfl) 4 (ba 19 31) (.int .i64 ((ix l1 x47).J)) (some 45) [true, true, false, true] want (yields_load_box 2 1 (holds_box b123 57 (cl_57 (ix l1 x47))) tyAgg_3) ?_
       refine JY.pur (hi := rfl) 5 (ba 19 63) (.agg #[.int .i64 ((ix l1 x47).I), .int .i64 ((ix l1 x47).J)]) (some 46) want ?_
       refine JY.pur (hi := rfl) 6 (ba 19 127) (.map (some b13)) (some 47) want ?_
       refine JY.pur (hi := rfl) 7 (ba 19 255) (.pointer (some ⟨b123, 1, none⟩)) (some 48) want ?_
       refine JY.take (hi := rfl) 8 (ba 19 511) (.int .i64 ((ix l1 x47).J)) (some 49) [true, true, false, true] want (yields_load_box 2 1 (holds_box b123 57 (cl_57 (ix l1 x47))) tyAgg_3) ?_
       refine JY.pur (hi := rfl) 9 (ba 19 1023) (.pointer (some ⟨b123, 0, none⟩)) (some 50) want ?_
       refine JY.take (hi := rfl) 10 (ba 19 2047) (.int .i64 ((ix l1 x47).I)) (some 51) [true, true, false, true] want (yields_load_box 2 0 (holds_box b123 57 (cl_57 (ix l1 x47))) tyAgg_3) ?_
       refine JY.pur (hi := rfl) 11 (ba 19 4095) (.agg #[.int .i64 ((ix l1 x47).J), .int .i64 ((ix l1 x47).I)]) (some 52) want ?_
       refine JY.pur (hi := rfl) 12 (ba 19 8191) (.pointer (some ⟨b123, 2, none⟩)) (some 53) want ?_
       refine JY.take (hi := rfl) 13 (ba 19 16383) (mv_25 ((ix l1 x47).V)) (some 54) [true, true, false, true] want (yields_load_boxes 2 2 (cl_25 ((ix l1 x47).V)) (holds_box b123 57 (cl_57 (ix l1 x47))) tyAgg_25 tySize_25) ?_
       refine JY.pur (hi := rfl) 14 (ba 19 32767) (.pointer (some ⟨b123, 2, none⟩)) (some 55) want ?_
       refine JY.take (hi := rfl) 15 (ba 19 65535) (mv_25 ((ix l1 x47).V)) (some 56) [true, true, false, true] want (yields_load_boxes 2 2 (cl_25 ((ix l1 x47).V)) (holds_box b123 57 (cl_57 (ix l1 x47))) tyAgg_25 tySize_25) ?_
       refine JY.all [16] ⟨⟨_, rfl, ?_⟩, trivial⟩
       refine JL.call [] [] [] (jones_adjoint.ok ((ix l1 x47).V) _ hc125) trivial ?_
       rintro _ _ ⟨rfl, rfl⟩
       refine JL.nil ?_
       refine JY.ran (ba 19 131071) [true, true, false, true] ?_
       refine JY.all [17] ⟨⟨_, rfl, ?_⟩, trivial⟩
       refine JL.mapPut (b := b13) (l := m46) (ek := mv_77) (ev := mv_25) 2 (⟨((ix l1 x47).I), ((ix l1 x47).J)⟩ : (A2 Int)) ((ix l1 x47).V) mk_77 Try.underlying76 ?_
       rw [em126]
       refine JL.nil ?_
       refine JY.ran (ba 19 262143) [true, true, false, true] ?_
       refine JY.all [18] ⟨⟨_, rfl, ?_⟩, trivial⟩
       refine JL.mapPut (b := b13) (l := m126) (ek := mv_77) (ev := mv_25) 2 (⟨((ix l1 x47).J), ((ix l1 x47).I)⟩ : (A2 Int)) t124 mk_77 Try.underlying76 ?_
       rw [em127]
       refine JL.nil ?_
       refine JY.ran (ba 19 524287) [true, true, false, true] ?_
       refine JY.done ?_
       refine JQ.blk_normal ?_
       refine JQ.then_normal ?_
       refine JQ.sub [(0, .slice (some ⟨g121, o122, none⟩) l1.length c3), (1, .int .i64 a5), (2, .int .i64 b6), (3, .int .i64 c7), (4, .int .i64 d8), (10, .pointer (some ⟨b9, 0, none⟩)), (13, .map (some b13)), (35, .slice (some ⟨g121, o122, none⟩) l1.length c3), (36, .int .i64 (l1.length : Int)), (37, .int .i64 x47)] ?_
       refine JQ.mask [At.rd (some ⟨g121, o122, none⟩) c3 fl_Pol.kd l1 true, At.box b9 25 (cl_25 zv_25), At.mp b13 mv_77 mv_25 m127] [true, true, true, false] ?_
       refine J.region ?_
       refine JL.pur (.int .i64 (w64 (x47 + 1))) (some 58) ?_
       refine JL.mv (.int .i64 (w64 (x47 + 1))) ?_
       refine JL.nil ?_
       refine JQ.then_normal ?_
       exact JQ.again (m127, w64 (x47 + 1)) () (Option.some.inj H1).symm (fun _ h => Heap.to h)
     · refine J.cond_false h118 ?_
       refine J.exit ?_
       refine JQ.then_exit ?_
       refine JQ.then_exit ?_
       refine JQ.blk_exit ?_
       rw [hb1 _ (Option.some.inj H1).symm, fin_brk] at H0
       exact JQ.met m46 () H0 (fun _ h => Heap.to h)
   · clear hit H0
     rintro m62 ⟨⟩ H0
     replace H0 : jones_Loop.k2 l1 a5 b6 c7 d8 m62 = some r := H0
     unfold jones_Loop.k2 at H0
     refine JQ.sub [(0, .slice Aa2 l1.length c3), (1, .int .i64 a5), (2, .int .i64 b6), (3, .int .i64 c7), (4, .int .i64 d8), (10, .pointer (some ⟨b9, 0, none⟩)), (13, .map (some b13))] ?_
     refine JQ.turn (Δ' := [At.rd Aa2 c3 fl_Pol.kd l1 true, At.box b9 25 (cl_25 zv_25), At.mp b13 mv_77 mv_25 m62]) (fun _ h => h.to) ?_
     refine JQ.then_normal ?_
     refine J.seq ?_
     refine J.seq ?_
     refine J.region ?_
     refine JL.mv (.map (some b13)) ?_
     refine JL.val (.int .i64 (m62.length : Int)) (some 60) (gives_mapLen (b := b13) (l := m62) (ek := mv_77) (ev := mv_25) 2 Try.underlying76) ?_
     refine JL.mv (.slice Aa2 l1.length c3) ?_
     refine JL.pur (.int .i64 (l1.length : Int)) (some 62) ?_
     refine JL.pur (.int .i64 (w64 (2 * (l1.length : Int)))) (some 63) ?_
     refine JL.pur (.bool (decide ((m62.length : Int) < w64 (2 * (l1.length : Int))))) (some 64) ?_
     refine JL.nil ?_
     refine JQ.then_normal ?_
     refine JQ.sub [(1, .int .i64 a5), (2, .int .i64 b6), (3, .int .i64 c7), (4, .int .i64 d8), (10, .pointer (some ⟨b9, 0, none⟩)), (13, .map (some b13)), (64, .bool (decide ((m62.length : Int) < w64 (2 * (l1.length : Int)))))] ?_
     refine JQ.mask [At.box b9 25 (cl_25 zv_25), At.mp b13 mv_77 mv_25 m62] [false, true, true] ?_
     rcases ite_cases H0 with ⟨h63, H0⟩ | ⟨h63, H0⟩
     · refine J.cond_true h63 ?_
       refine J.seq ?_
       refine J.region ?_
       refine JL.pur (mv_25 zv_25) (some 65) ?_
       refine JL.store 0 b9 0 25 (cl_25 zv_25) (cl_25 zv_25) tySize_25 ?_
       refine JL.as (.int .i64 14) ?_
       refine JL.nil ?_
       refine JQ.then_normal ?_
       refine JQ.sub [(10, .pointer (some ⟨b9, 0, none⟩)), (11, .int .i64 14)] ?_
       refine JQ.mask [At.box b9 25 (cl_25 zv_25)] [true, false] ?_
       refine J.ret ?_
       refine JQ.then_ret ?_
       obtain rfl := Option.some.inj H0
       exact JQ.done' (rs := [.cell 10 25, .tmp 11]) (vs := [.agg #[.int .i64 0, .int .i64 0, .int .i64 0, .int .i64 0, .int .i64 0, .int .i64 0, .int .i64 0, .int .i64 0, .int .i64 0, .int .i64 0, .int .i64 0, .int .i64 0], .int .i64 14]) [] (.inr rfl) ⟨⟨b9, 0, _, _, by kernel_rfl, by kernel_rfl, holds_box b9 25 (cl_25 zv_25), .inl ⟨tyAgg_25, tySize_25, rfl⟩⟩, by kernel_rfl, trivial⟩ (fun _ h => Heap.to (Heap.pick [] (by decide) h)) ⟨rfl, rfl⟩
     · refine J.cond_false h63 ?_
       refine J.skip ?_
       refine JQ.then_normal ?_
       refine JQ.sub [(1, .int .i64 a5), (2, .int .i64 b6), (3, .int .i64 c7), (4, .int .i64 d8), (10, .pointer (some ⟨b9, 0, none⟩)), (13, .map (some b13))] ?_
       refine J.seq ?_
       refine J.region ?_
       refine JL.mv (.int .i64 a5) ?_
       refine JL.mv (.int .i64 b6) ?_
       refine JL.mv (.int .i64 c7) ?_
       refine JL.mv (.int .i64 d8) ?_
       refine JL.buildSl 3 ((flInt .i64).kd) (([a5, b6, c7, d8] : List Int) : List Int) [.int .i64 a5, .int .i64 b6, .int .i64 c7, .int .i64 d8] false (closes_fl rfl) fun b64 => ?_
       refine JL.as (.slice (some ⟨b64, 0, none⟩) ([a5, b6, c7, d8] : List Int).length 4) ?_
       refine JL.nil ?_
       refine JQ.then_normal ?_
       refine JQ.sub [(1, .int .i64 a5), (2, .int .i64 b6), (3, .int .i64 c7), (4, .int .i64 d8), (10, .pointer (some ⟨b9, 0, none⟩)), (13, .map (some b13)), (16, .slice (some ⟨b64, 0, none⟩) ([a5, b6, c7, d8] : List Int).length 4)] ?_
       refine J.seq ?_
       refine J.region ?_
       refine JL.mv (.slice (some ⟨b64, 0, none⟩) ([a5, b6, c7, d8] : List Int).length 4) ?_
       obtain ⟨h66, H0⟩ := ite_must H0
       refine JL.call [] [] [false, false, true] (does_ext_56 ([a5, b6, c7, d8] : List Int) (some ⟨b64, 0, none⟩) 4 3 h66) trivial ?_
       rintro _ _ ⟨rfl, rfl⟩
       obtain ⟨l65, el65, H0⟩ := lt_some H0
       rw [el65]
       have nl65 : ([a5, b6, c7, d8] : List Int).length = l65.length := by rw [← el65]; exact (length_sortI _).symm
       refine JQ.len (fun n : Nat => [(1, .int .i64 a5), (2, .int .i64 b6), (3, .int .i64 c7), (4, .int .i64 d8), (10, .pointer (some ⟨b9, 0, none⟩)), (13, .map (some b13)), (16, .slice (some ⟨b64, 0, none⟩) n 4), (71, .slice (some ⟨b64, 0, none⟩) n 4), (72, .tuple #[])]) nl65 ?_
       refine JQ.sub [(1, .int .i64 a5), (2, .int .i64 b6), (3, .int .i64 c7), (4, .int .i64 d8), (10, .pointer (some ⟨b9, 0, none⟩)), (13, .map (some b13)), (16, .slice (some ⟨b64, 0, none⟩) l65.length 4), (71, .slice (some ⟨b64, 0, none⟩) l65.length 4), (72, .tuple #[])] ?_
       refine JL.nil ?_
       refine JQ.then_normal ?_
       refine JQ.sub [(1, .int .i64 a5), (2, .int .i64 b6), (3, .int .i64 c7), (4, .int .i64 d8), (10, .pointer (some ⟨b9, 0, none⟩)), (13, .map (some b13)), (16, .slice (some ⟨b64, 0, none⟩) l65.length 4)] ?_
       refine J.seq ?_
       refine J.join (T := Bool) (G := Unit) (fun t => jones_Loop.k3 a5 b6 c7 d8 m62 t = some r) (fun t g => [(1, .int .i64 a5), (2, .int .i64 b6), (3, .int .i64 c7), (4, .int .i64 d8), (10, .pointer (some ⟨b9, 0, none⟩)), (13, .map (some b13)), (88, .bool t)]) (fun t g => [At.box b9 25 (cl_25 zv_25), At.mp b13 mv_77 mv_25 m62]) ?_ ?_
       · refine J.region ?_
         refine JL.mv (.slice (some ⟨b64, 0, none⟩) l65.length 4) ?_
         obtain ⟨⟨h105, h106⟩, H0⟩ := ite_must H0
         refine JL.ixAddr' 2 1 4 .i64 (elems_row (some ⟨b64, 0, none⟩) 4 3 ((flInt .i64).kd) l65 false) Try.underlying60 tySize_3 h105 h106 ?_
         refine JL.val (.int .i64 (ix l65 0)) (some 75) (gives_loadEl (f := (flInt .i64)) 2 0 0 (elems_row (some ⟨b64, 0, none⟩) 4 3 ((flInt .i64).kd) l65 false) h105 h106 tySize_3 (.inr ⟨tyAgg_3, rfl, rfl⟩)) ?_
         refine JL.pur (.bool (decide ((ix l65 0) < 0))) (some 76) ?_
         refine JL.mv (.bool (decide ((ix l65 0) < 0))) ?_
         rcases ite_cases H0 with ⟨h109, H0⟩ | ⟨h109, H0⟩
         · refine JL.off 4 77 false (some 78) h109 ?_
           refine JL.off 4 77 false (some 79) h109 ?_
           refine JL.off 4 77 false (some 80) h109 ?_
           refine JL.off 4 77 false (some 81) h109 ?_
           refine JL.val (.bool true) (some 82) (gives_pickT h109) ?_
           refine JL.mv (.bool true) ?_
           refine JL.off 10 83 false (some 84) rfl ?_
           refine JL.off 10 83 false (some 85) rfl ?_
           refine JL.off 10 83 false (some 86) rfl ?_
           refine JL.off 10 83 false (some 87) rfl ?_
           refine JL.val (.bool true) (some 88) (gives_pickT rfl) ?_
           refine JL.nil ?_
           refine JQ.then_normal ?_
           exact JQ.meet true () H0 (fun _ h => Heap.to (Heap.pick [0, 1] (by decide) h))
         · refine JL.on 4 77 h109 ?_
           refine JL.mv (.slice (some ⟨b64, 0, none⟩) l65.length 4) ?_
           refine JL.on 4 77 h109 ?_
           obtain ⟨⟨h110, h111⟩, H0⟩ := ite_must H0
           refine JL.ixAddr' 2 1 4 .i64 (elems_row (some ⟨b64, 0, none⟩) 4 3 ((flInt .i64).kd) l65 false) Try.underlying60 tySize_3 h110 h111 ?_
           refine JL.on 4 77 h109 ?_
           refine JL.val (.int .i64 (ix l65 3)) (some 80) (gives_loadEl (f := (flInt .i64)) 2 0 3 (elems_row (some ⟨b64, 0, none⟩) 4 3 ((flInt .i64).kd) l65 false) h110 h111 tySize_3 (.inr ⟨tyAgg_3, rfl, rfl⟩)) ?_
           refine JL.on 4 77 h109 ?_
           refine JL.pur (.bool (decide (8 ≤ (ix l65 3)))) (some 81) ?_
           refine JL.val (.bool (decide (8 ≤ (ix l65 3)))) (some 82) (gives_pickF h109) ?_
           refine JL.mv (.bool (decide (8 ≤ (ix l65 3)))) ?_
           rcases ite_cases H0 with ⟨h114, H0⟩ | ⟨h114, H0⟩
           · refine JL.off 10 83 false (some 84) h114 ?_
             refine JL.off 10 83 false (some 85) h114 ?_
             refine JL.off 10 83 false (some 86) h114 ?_
             refine JL.off 10 83 false (some 87) h114 ?_
             refine JL.val (.bool true) (some 88) (gives_pickT h114) ?_
             refine JL.nil ?_
             refine JQ.then_normal ?_
             exact JQ.meet true () H0 (fun _ h => Heap.to (Heap.pick [0, 1] (by decide) h))
           · refine JL.on 10 83 h114 ?_
             refine JL.mv (.slice (some ⟨b64, 0, none⟩) l65.length 4) ?_
             refine JL.on 10 83 h114 ?_
             obtain ⟨h116, H0⟩ := ite_must H0
             refine JL.call [] [] [false, false, true] (does_ext_57 l65 (some ⟨b64, 0, none⟩) 4 3 h116) trivial ?_
             rintro _ _ ⟨rfl, rfl⟩
             obtain ⟨l115, el115, H0⟩ := lt_some H0
             rw [el115]
             refine JQ.sub [(1, .int .i64 a5), (2, .int .i64 b6), (3, .int .i64 c7), (4, .int .i64 d8), (10, .pointer (some ⟨b9, 0, none⟩)), (13, .map (some b13)), (75, .int .i64 (ix l65 0)), (76, .bool (decide ((ix l65 0) < 0))), (77, .bool (decide ((ix l65 0) < 0))), (80, .int .i64 (ix l65 3)), (81, .bool (decide (8 ≤ (ix l65 3)))), (82, .bool (decide (8 ≤ (ix l65 3)))), (83, .bool (decide (8 ≤ (ix l65 3)))), (85, .slice (some ⟨b64, 0, none⟩) l115.length 4)] ?_
             refine JL.on 10 83 h114 ?_
             refine JL.pur (.int .i64 (l115.length : Int)) (some 86) ?_
             refine JL.on 10 83 h114 ?_
             refine JL.pur (.bool (decide ((l115.length : Int) < 4))) (some 87) ?_
             refine JL.val (.bool (decide ((l115.length : Int) < 4))) (some 88) (gives_pickF h114) ?_
             refine JL.nil ?_
             refine JQ.then_normal ?_
             exact JQ.meet (decide ((l115.length : Int) < 4)) () H0 (fun _ h => Heap.to (Heap.pick [0, 1] (by decide) h))
       · clear H0
         rintro x80 ⟨⟩ H0
         replace H0 : jones_Loop.k3 a5 b6 c7 d8 m62 x80 = some r := H0
         unfold jones_Loop.k3 at H0
         refine JQ.sub [(1, .int .i64 a5), (2, .int .i64 b6), (3, .int .i64 c7), (4, .int .i64 d8), (10, .pointer (some ⟨b9, 0, none⟩)), (13, .map (some b13)), (88, .bool x80)] ?_
         refine JQ.turn (Δ' := [At.box b9 25 (cl_25 zv_25), At.mp b13 mv_77 mv_25 m62]) (fun _ h => h.to) ?_
         rcases ite_cases H0 with ⟨h81, H0⟩ | ⟨h81, H0⟩
         · refine J.cond_true h81 ?_
           refine J.seq ?_
           refine J.region ?_
           refine JL.pur (mv_25 zv_25) (some 89) ?_
           refine JL.store 0 b9 0 25 (cl_25 zv_25) (cl_25 zv_25) tySize_25 ?_
           refine JL.as (.int .i64 2) ?_
           refine JL.nil ?_
           refine JQ.then_normal ?_
           refine JQ.sub [(10, .pointer (some ⟨b9, 0, none⟩)), (11, .int .i64 2)] ?_
           refine JQ.mask [At.box b9 25 (cl_25 zv_25)] [true, false] ?_
           refine J.ret ?_
           refine JQ.then_ret ?_
           obtain rfl := Option.some.inj H0
           exact JQ.done' (rs := [.cell 10 25, .tmp 11]) (vs := [.agg #[.int .i64 0, .int .i64 0, .int .i64 0, .int .i64 0, .int .i64 0, .int .i64 0, .int .i64 0, .int .i64 0, .int .i64 0, .int .i64 0, .int .i64 0, .int .i64 0], .int .i64 2]) [] (.inr rfl) ⟨⟨b9, 0, _, _, by kernel_rfl, by kernel_rfl, holds_box b9 25 (cl_25 zv_25), .inl ⟨tyAgg_25, tySize_25, rfl⟩⟩, by kernel_rfl, trivial⟩ (fun _ h => Heap.to (Heap.pick [] (by decide) h)) ⟨rfl, rfl⟩
         · refine J.cond_false h81 ?_
           refine J.skip ?_
           refine JQ.then_normal ?_
           refine JQ.sub [(1, .int .i64 a5), (2, .int .i64 b6), (3, .int .i64 c7), (4, .int .i64 d8), (10, .pointer (some ⟨b9, 0, none⟩)), (13, .map (some b13))] ?_
           refine J.seq ?_
           refine J.region ?_
           refine JL.mv (.map (some b13)) ?_
           refine JL.mv (.int .i64 a5) ?_
           refine JL.mv (.int .i64 b6) ?_
           refine JL.pur (.agg #[.int .i64 a5, .int .i64 b6]) (some 94) ?_
           refine JL.val (.tuple #[mv_25 (mgetD m62 (⟨a5, b6⟩ : (A2 Int)) (⟨(⟨0, 0, 0⟩ : Cx), (⟨0, 0, 0⟩ : Cx), (⟨0, 0, 0⟩ : Cx), (⟨0, 0, 0⟩ : Cx)⟩ : (A4 Cx))), .bool (mhas m62 (⟨a5, b6⟩ : (A2 Int)))]) (some 95) (gives_mapGet (b := b13) (l := m62) (ek := mv_77) (ev := mv_25) 1 true (⟨(⟨0, 0, 0⟩ : Cx), (⟨0, 0, 0⟩ : Cx), (⟨0, 0, 0⟩ : Cx), (⟨0, 0, 0⟩ : Cx)⟩ : (A4 Cx)) (⟨a5, b6⟩ : (A2 Int)) (.tuple #[mv_25 (mgetD m62 (⟨a5, b6⟩ : (A2 Int)) (⟨(⟨0, 0, 0⟩ : Cx), (⟨0, 0, 0⟩ : Cx), (⟨0, 0, 0⟩ : Cx), (⟨0, 0, 0⟩ : Cx)⟩ : (A4 Cx))), .bool (mhas m62 (⟨a5, b6⟩ : (A2 Int)))]) mk_77 Try.underlying76 mz_25 rfl) ?_
           refine JL.mv (.tuple #[mv_25 (mgetD m62 (⟨a5, b6⟩ : (A2 Int)) (⟨(⟨0, 0, 0⟩ : Cx), (⟨0, 0, 0⟩ : Cx), (⟨0, 0, 0⟩ : Cx), (⟨0, 0, 0⟩ : Cx)⟩ : (A4 Cx))), .bool (mhas m62 (⟨a5, b6⟩ : (A2 Int)))]) ?_
           refine JL.pur (mv_25 (mgetD m62 (⟨a5, b6⟩ : (A2 Int)) (⟨(⟨0, 0, 0⟩ : Cx), (⟨0, 0, 0⟩ : Cx), (⟨0, 0, 0⟩ : Cx), (⟨0, 0, 0⟩ : Cx)⟩ : (A4 Cx)))) (some 96) ?_
           refine JL.pur (.bool (mhas m62 (⟨a5, b6⟩ : (A2 Int)))) (some 97) ?_
           refine JL.alloc (cl_25 zv_25) fun b82 => ?_
           refine JL.store 2 b82 0 25 (cl_25 zv_25) (cl_25 (mgetD m62 (⟨a5, b6⟩ : (A2 Int)) (⟨(⟨0, 0, 0⟩ : Cx), (⟨0, 0, 0⟩ : Cx), (⟨0, 0, 0⟩ : Cx), (⟨0, 0, 0⟩ : Cx)⟩ : (A4 Cx)))) tySize_25 ?_
           refine JL.as (.bool (mhas m62 (⟨a5, b6⟩ : (A2 Int)))) ?_
           refine JL.nil ?_
           refine JQ.then_normal ?_
           refine JQ.sub [(1, .int .i64 a5), (2, .int .i64 b6), (3, .int .i64 c7), (4, .int .i64 d8), (10, .pointer (some ⟨b9, 0, none⟩)), (13, .map (some b13)), (17, .pointer (some ⟨b82, 0, none⟩)), (18, .bool (mhas m62 (⟨a5, b6⟩ : (A2 Int))))] ?_
           refine J.seq ?_
           refine J.region ?_
           refine JL.mv (.map (some b13)) ?_
           refine JL.mv (.int .i64 c7) ?_
           refine JL.mv (.int .i64 b6) ?_
           refine JL.pur (.agg #[.int .i64 c7, .int .i64 b6]) (some 102) ?_
           refine JL.val (.tuple #[mv_25 (mgetD m62 (⟨c7, b6⟩ : (A2 Int)) (⟨(⟨0, 0, 0⟩ : Cx), (⟨0, 0, 0⟩ : Cx), (⟨0, 0, 0⟩ : Cx), (⟨0, 0, 0⟩ : Cx)⟩ : (A4 Cx))), .bool (mhas m62 (⟨c7, b6⟩ : (A2 Int)))]) (some 103) (gives_mapGet (b := b13) (l := m62) (ek := mv_77) (ev := mv_25) 1 true (⟨(⟨0, 0, 0⟩ : Cx), (⟨0, 0, 0⟩ : Cx), (⟨0, 0, 0⟩ : Cx), (⟨0, 0, 0⟩ : Cx)⟩ : (A4 Cx)) (⟨c7, b6⟩ : (A2 Int)) (.tuple #[mv_25 (mgetD m62 (⟨c7, b6⟩ : (A2 Int)) (⟨(⟨0, 0, 0⟩ : Cx), (⟨0, 0, 0⟩ : Cx), (⟨0, 0, 0⟩ : Cx), (⟨0, 0, 0⟩ : Cx)⟩ : (A4 Cx))), .bool (mhas m62 (⟨c7, b6⟩ : (A2 Int)))]) mk_77 Try.underlying76 mz_25 rfl) ?_
           refine JL.mv (.tuple #[mv_25 (mgetD m62 (⟨c7, b6⟩ : (A2 Int)) (⟨(⟨0, 0, 0⟩ : Cx), (⟨0, 0, 0⟩ : Cx), (⟨0, 0, 0⟩ : Cx), (⟨0, 0, 0⟩ : Cx)⟩ : (A4 Cx))), .bool (mhas m62 (⟨c7, b6⟩ : (A2 Int)))]) ?_
           refine JL.pur (mv_25 (mgetD m62 (⟨c7, b6⟩ : (A2 Int)) (⟨(⟨0, 0, 0⟩ : Cx), (⟨0, 0, 0⟩ : Cx), (⟨0, 0, 0⟩ : Cx), (⟨0, 0, 0⟩ : Cx)⟩ : (A4 Cx)))) (some 104) ?_
           refine JL.pur (.bool (mhas m62 (⟨c7, b6⟩ : (A2 Int)))) (some 105) ?_
           refine JL.alloc (cl_25 zv_25) fun b83 => ?_
           refine JL.store 3 b83 0 25 (cl_25 zv_25) (cl_25 (mgetD m62 (⟨c7, b6⟩ : (A2 Int)) (⟨(⟨0, 0, 0⟩ : Cx), (⟨0, 0, 0⟩ : Cx), (⟨0, 0, 0⟩ : Cx), (⟨0, 0, 0⟩ : Cx)⟩ : (A4 Cx)))) tySize_25 ?_
           refine JL.as (.bool (mhas m62 (⟨c7, b6⟩ : (A2 Int)))) ?_
           refine JL.nil ?_
           refine JQ.then_normal ?_
           refine JQ.sub [(1, .int .i64 a5), (3, .int .i64 c7), (4, .int .i64 d8), (10, .pointer (some ⟨b9, 0, none⟩)), (13, .map (some b13)), (17, .pointer (some ⟨b82, 0, none⟩)), (18, .bool (mhas m62 (⟨a5, b6⟩ : (A2 Int)))), (19, .pointer (some ⟨b83, 0, none⟩)), (20, .bool (mhas m62 (⟨c7, b6⟩ : (A2 Int))))] ?_
           refine J.seq ?_
           refine J.region ?_
           refine JL.mv (.map (some b13)) ?_
           refine JL.mv (.int .i64 c7) ?_
           refine JL.mv (.int .i64 d8) ?_
           refine JL.pur (.agg #[.int .i64 c7, .int .i64 d8]) (some 110) ?_
           refine JL.val (.tuple #[mv_25 (mgetD m62 (⟨c7, d8⟩ : (A2 Int)) (⟨(⟨0, 0, 0⟩ : Cx), (⟨0, 0, 0⟩ : Cx), (⟨0, 0, 0⟩ : Cx), (⟨0, 0, 0⟩ : Cx)⟩ : (A4 Cx))), .bool (mhas m62 (⟨c7, d8⟩ : (A2 Int)))]) (some 111) (gives_mapGet (b := b13) (l := m62) (ek := mv_77) (ev := mv_25) 1 true (⟨(⟨0, 0, 0⟩ : Cx), (⟨0, 0, 0⟩ : Cx), (⟨0, 0, 0⟩ : Cx), (⟨0, 0, 0⟩ : Cx)⟩ : (A4 Cx)) (⟨c7, d8⟩ : (A2 Int)) (.tuple #[mv_25 (mgetD m62 (⟨c7, d8⟩ : (A2 Int)) (⟨(⟨0, 0, 0⟩ : Cx), (⟨0, 0, 0⟩ : Cx), (⟨0, 0, 0⟩ : Cx), (⟨0, 0, 0⟩ : Cx)⟩ : (A4 Cx))), .bool (mhas m62 (⟨c7, d8⟩ : (A2 Int)))]) mk_77 Try.underlying76 mz_25 rfl) ?_
           refine JL.mv (.tuple #[mv_25 (mgetD m62 (⟨c7, d8⟩ : (A2 Int)) (⟨(⟨0, 0, 0⟩ : Cx), (⟨0, 0, 0⟩ : Cx), (⟨0, 0, 0⟩ : Cx), (⟨0, 0, 0⟩ : Cx)⟩ : (A4 Cx))), .bool (mhas m62 (⟨c7, d8⟩ : (A2 Int)))]) ?_
           refine JL.pur (mv_25 (mgetD m62 (⟨c7, d8⟩ : (A2 Int)) (⟨(⟨0, 0, 0⟩ : Cx), (⟨0, 0, 0⟩ : Cx), (⟨0, 0, 0⟩ : Cx), (⟨0, 0, 0⟩ : Cx)⟩ : (A4 Cx)))) (some 112) ?_
           refine JL.pur (.bool (mhas m62 (⟨c7, d8⟩ : (A2 Int)))) (some 113) ?_
           refine JL.alloc (cl_25 zv_25) fun b84 => ?_
           refine JL.store 4 b84 0 25 (cl_25 zv_25) (cl_25 (mgetD m62 (⟨c7, d8⟩ : (A2 Int)) (⟨(⟨0, 0, 0⟩ : Cx), (⟨0, 0, 0⟩ : Cx), (⟨0, 0, 0⟩ : Cx), (⟨0, 0, 0⟩ : Cx)⟩ : (A4 Cx)))) tySize_25 ?_
           refine JL.as (.bool (mhas m62 (⟨c7, d8⟩ : (A2 Int)))) ?_
           refine JL.nil ?_
           refine JQ.then_normal ?_
           refine JQ.sub [(1, .int .i64 a5), (4, .int .i64 d8), (10, .pointer (some ⟨b9, 0, none⟩)), (13, .map (some b13)), (17, .pointer (some ⟨b82, 0, none⟩)), (18, .bool (mhas m62 (⟨a5, b6⟩ : (A2 Int)))), (19, .pointer (some ⟨b83, 0, none⟩)), (20, .bool (mhas m62 (⟨c7, b6⟩ : (A2 Int)))), (21, .pointer (some ⟨b84, 0, none⟩)), (22, .bool (mhas m62 (⟨c7, d8⟩ : (A2 Int))))] ?_
           refine J.seq ?_
           refine J.region ?_
           refine JL.mv (.map (some b13)) ?_
           refine JL.mv (.int .i64 a5) ?_
           refine JL.mv (.int .i64 d8) ?_
           refine JL.pur (.agg #[.int .i64 a5, .int .i64 d8]) (some 118) ?_
           refine JL.val (.tuple #[mv_25 (mgetD m62 (⟨a5, d8⟩ : (A2 Int)) (⟨(⟨0, 0, 0⟩ : Cx), (⟨0, 0, 0⟩ : Cx), (⟨0, 0, 0⟩ : Cx), (⟨0, 0, 0⟩ : Cx)⟩ : (A4 Cx))), .bool (mhas m62 (⟨a5, d8⟩ : (A2 Int)))]) (some 119) (gives_mapGet (b := b13) (l := m62) (ek := mv_77) (ev := mv_25) 1 true (⟨(⟨0, 0, 0⟩ : Cx), (⟨0, 0, 0⟩ : Cx), (⟨0, 0, 0⟩ : Cx), (⟨0, 0, 0⟩ : Cx)⟩ : (A4 Cx)) (⟨a5, d8⟩ : (A2 Int)) (.tuple #[mv_25 (mgetD m62 (⟨a5, d8⟩ : (A2 Int)) (⟨(⟨0, 0, 0⟩ : Cx), (⟨0, 0, 0⟩ : Cx), (⟨0, 0, 0⟩ : Cx), (⟨0, 0, 0⟩ : Cx)⟩ : (A4 Cx))), .bool (mhas m62 (⟨a5, d8⟩ : (A2 Int)))]) mk_77 Try.underlying76 mz_25 rfl) ?_
           refine JL.mv (.tuple #[mv_25 (mgetD m62 (⟨a5, d8⟩ : (A2 Int)) (⟨(⟨0, 0, 0⟩ : Cx), (⟨0, 0, 0⟩ : Cx), (⟨0, 0, 0⟩ : Cx), (⟨0, 0, 0⟩ : Cx)⟩ : (A4 Cx))), .bool (mhas m62 (⟨a5, d8⟩ : (A2 Int)))]) ?_
           refine JL.pur (mv_25 (mgetD m62 (⟨a5, d8⟩ : (A2 Int)) (⟨(⟨0, 0, 0⟩ : Cx), (⟨0, 0, 0⟩ : Cx), (⟨0, 0, 0⟩ : Cx), (⟨0, 0, 0⟩ : Cx)⟩ : (A4 Cx)))) (some 120) ?_
           refine JL.pur (.bool (mhas m62 (⟨a5, d8⟩ : (A2 Int)))) (some 121) ?_
           refine JL.alloc (cl_25 zv_25) fun b85 => ?_
           refine JL.store 5 b85 0 25 (cl_25 zv_25) (cl_25 (mgetD m62 (⟨a5, d8⟩ : (A2 Int)) (⟨(⟨0, 0, 0⟩ : Cx), (⟨0, 0, 0⟩ : Cx), (⟨0, 0, 0⟩ : Cx), (⟨0, 0, 0⟩ : Cx)⟩ : (A4 Cx)))) tySize_25 ?_
           refine JL.as (.bool (mhas m62 (⟨a5, d8⟩ : (A2 Int)))) ?_
           refine JL.nil ?_
           refine JQ.then_normal ?_
           refine JQ.sub [(10, .pointer (some ⟨b9, 0, none⟩)), (17, .pointer (some ⟨b82, 0, none⟩)), (18, .bool (mhas m62 (⟨a5, b6⟩ : (A2 Int)))), (19, .pointer (some ⟨b83, 0, none⟩)), (20, .bool (mhas m62 (⟨c7, b6⟩ : (A2 Int)))), (21, .pointer (some ⟨b84, 0, none⟩)), (22, .bool (mhas m62 (⟨c7, d8⟩ : (A2 Int)))), (23, .pointer (some ⟨b85, 0, none⟩)), (24, .bool (mhas m62 (⟨a5, d8⟩ : (A2 Int))))] ?_
           refine JQ.mask [At.box b9 25 (cl_25 zv_25), At.box b82 25 (cl_25 (mgetD m62 (⟨a5, b6⟩ : (A2 Int)) (⟨(⟨0, 0, 0⟩ : Cx), (⟨0, 0, 0⟩ : Cx), (⟨0, 0, 0⟩ : Cx), (⟨0, 0, 0⟩ : Cx)⟩ : (A4 Cx)))), At.box b83 25 (cl_25 (mgetD m62 (⟨c7, b6⟩ : (A2 Int)) (⟨(⟨0, 0, 0⟩ : Cx), (⟨0, 0, 0⟩ : Cx), (⟨0, 0, 0⟩ : Cx), (⟨0, 0, 0⟩ : Cx)⟩ : (A4 Cx)))), At.box b84 25 (cl_25 (mgetD m62 (⟨c7, d8⟩ : (A2 Int)) (⟨(⟨0, 0, 0⟩ : Cx), (⟨0, 0, 0⟩ : Cx), (⟨0, 0, 0⟩ : Cx), (⟨0, 0, 0⟩ : Cx)⟩ : (A4 Cx)))), At.box b85 25 (cl_25 (mgetD m62 (⟨a5, d8⟩ : (A2 Int)) (⟨(⟨0, 0, 0⟩ : Cx), (⟨0, 0, 0⟩ : Cx), (⟨0, 0, 0⟩ : Cx), (⟨0, 0, 0⟩ : Cx)⟩ : (A4 Cx))))] [true, false, true, true, true, true] ?_
           refine J.seq ?_
           refine J.join (T := Bool) (G := Unit) (fun t => jones_Loop.k4 a5 b6 c7 d8 m62 t = some r) (fun t g => [(10, .pointer (some ⟨b9, 0, none⟩)), (17, .pointer (some ⟨b82, 0, none⟩)), (19, .pointer (some ⟨b83, 0, none⟩)), (21, .pointer (some ⟨b84, 0, none⟩)), (23, .pointer (some ⟨b85, 0, none⟩)), (135, .bool t)]) (fun t g => [At.box b9 25 (cl_25 zv_25), At.box b82 25 (cl_25 (mgetD m62 (⟨a5, b6⟩ : (A2 Int)) (⟨(⟨0, 0, 0⟩ : Cx), (⟨0, 0, 0⟩ : Cx), (⟨0, 0, 0⟩ : Cx), (⟨0, 0, 0⟩ : Cx)⟩ : (A4 Cx)))), At.box b83 25 (cl_25 (mgetD m62 (⟨c7, b6⟩ : (A2 Int)) (⟨(⟨0, 0, 0⟩ : Cx), (⟨0, 0, 0⟩ : Cx), (⟨0, 0, 0⟩ : Cx), (⟨0, 0, 0⟩ : Cx)⟩ : (A4 Cx)))), At.box b84 25 (cl_25 (mgetD m62 (⟨c7, d8⟩ : (A2 Int)) (⟨(⟨0, 0, 0⟩ : Cx), (⟨0, 0, 0⟩ : Cx), (⟨0, 0, 0⟩ : Cx), (⟨0, 0, 0⟩ : Cx)⟩ : (A4 Cx)))), At.box b85 25 (cl_25 (mgetD m62 (⟨a5, d8⟩ : (A2 Int)) (⟨(⟨0, 0, 0⟩ : Cx), (⟨0, 0, 0⟩ : Cx), (⟨0, 0, 0⟩ : Cx), (⟨0, 0, 0⟩ : Cx)⟩ : (A4 Cx))))]) ?_ ?_
           · refine J.region ?_
             refine JL.mv (.bool (mhas m62 (⟨a5, b6⟩ : (A2 Int)))) ?_
             refine JL.pur (.bool (!(mhas m62 (⟨a5, b6⟩ : (A2 Int))))) (some 123) ?_
             refine JL.mv (.bool (!(mhas m62 (⟨a5, b6⟩ : (A2 Int))))) ?_
             rcases ite_cases H0 with ⟨h102, H0⟩ | ⟨h102, H0⟩
             · refine JL.off 2 124 false (some 125) h102 ?_
               refine JL.off 2 124 false (some 126) h102 ?_
               refine JL.val (.bool true) (some 127) (gives_pickT h102) ?_
               refine JL.mv (.bool true) ?_
               refine JL.off 6 128 false (some 129) rfl ?_
               refine JL.off 6 128 false (some 130) rfl ?_
               refine JL.val (.bool true) (some 131) (gives_pickT rfl) ?_
               refine JL.mv (.bool true) ?_
               refine JL.off 10 132 false (some 133) rfl ?_
               refine JL.off 10 132 false (some 134) rfl ?_
               refine JL.val (.bool true) (some 135) (gives_pickT rfl) ?_
               refine JL.nil ?_
               refine JQ.then_normal ?_
               exact JQ.meet true () H0 (fun _ h => Heap.to h)
             · refine JL.on 2 124 h102 ?_
               refine JL.mv (.bool (mhas m62 (⟨c7, b6⟩ : (A2 Int)))) ?_
               refine JL.on 2 124 h102 ?_
               refine JL.pur (.bool (!(mhas m62 (⟨c7, b6⟩ : (A2 Int))))) (some 126) ?_
               refine JL.val (.bool (!(mhas m62 (⟨c7, b6⟩ : (A2 Int))))) (some 127) (gives_pickF h102) ?_
               refine JL.mv (.bool (!(mhas m62 (⟨c7, b6⟩ : (A2 Int))))) ?_
               rcases ite_cases H0 with ⟨h103, H0⟩ | ⟨h103, H0⟩
               · refine JL.off 6 128 false (some 129) h103 ?_
                 refine JL.off 6 128 false (some 130) h103 ?_
                 refine JL.val (.bool true) (some 131) (gives_pickT h103) ?_
                 refine JL.mv (.bool true) ?_
                 refine JL.off 10 132 false (some 133) rfl ?_
                 refine JL.off 10 132 false (some 134) rfl ?_
                 refine JL.val (.bool true) (some 135) (gives_pickT rfl) ?_
                 refine JL.nil ?_
                 refine JQ.then_normal ?_
                 exact JQ.meet true () H0 (fun _ h => Heap.to h)
               · refine JL.on 6 128 h103 ?_
                 refine JL.mv (.bool (mhas m62 (⟨c7, d8⟩ : (A2 Int)))) ?_
                 refine JL.on 6 128 h103 ?_
                 refine JL.pur (.bool (!(mhas m62 (⟨c7, d8⟩ : (A2 Int))))) (some 130) ?_
                 refine JL.val (.bool (!(mhas m62 (⟨c7, d8⟩ : (A2 Int))))) (some 131) (gives_pickF h103) ?_
                 refine JL.mv (.bool (!(mhas m62 (⟨c7, d8⟩ : (A2 Int))))) ?_
                 rcases ite_cases H0 with ⟨h104, H0⟩ | ⟨h104, H0⟩
                 · refine JL.off 10 132 false (some 133) h104 ?_
                   refine JL.off 10 132 false (some 134) h104 ?_
                   refine JL.val (.bool true) (some 135) (gives_pickT h104) ?_
                   refine JL.nil ?_
                   refine JQ.then_normal ?_
                   exact JQ.meet true () H0 (fun _ h => Heap.to h)
                 · refine JL.on 10 132 h104 ?_
                   refine JL.mv (.bool (mhas m62 (⟨a5, d8⟩ : (A2 Int)))) ?_
                   refine JL.on 10 132 h104 ?_
                   refine JL.pur (.bool (!(mhas m62 (⟨a5, d8⟩ : (A2 Int))))) (some 134) ?_
                   refine JL.val (.bool (!(mhas m62 (⟨a5, d8⟩ : (A2 Int))))) (some 135) (gives_pickF h104) ?_
                   refine JL.nil ?_
                   refine JQ.then_normal ?_
                   exact JQ.meet (!(mhas m62 (⟨a5, d8⟩ : (A2 Int)))) () H0 (fun _ h => Heap.to h)
           · clear H0
             rintro x89 ⟨⟩ H0
             replace H0 : jones_Loop.k4 a5 b6 c7 d8 m62 x89 = some r := H0
             unfold jones_Loop.k4 at H0
             refine JQ.sub [(10, .pointer (some ⟨b9, 0, none⟩)), (17, .pointer (some ⟨b82, 0, none⟩)), (19, .pointer (some ⟨b83, 0, none⟩)), (21, .pointer (some ⟨b84, 0, none⟩)), (23, .pointer (some ⟨b85, 0, none⟩)), (135, .bool x89)] ?_
             refine JQ.turn (Δ' := [At.box b9 25 (cl_25 zv_25), At.box b82 25 (cl_25 (mgetD m62 (⟨a5, b6⟩ : (A2 Int)) (⟨(⟨0, 0, 0⟩ : Cx), (⟨0, 0, 0⟩ : Cx), (⟨0, 0, 0⟩ : Cx), (⟨0, 0, 0⟩ : Cx)⟩ : (A4 Cx)))), At.box b83 25 (cl_25 (mgetD m62 (⟨c7, b6⟩ : (A2 Int)) (⟨(⟨0, 0, 0⟩ : Cx), (⟨0, 0, 0⟩ : Cx), (⟨0, 0, 0⟩ : Cx), (⟨0, 0, 0⟩ : Cx)⟩ : (A4 Cx)))), At.box b84 25 (cl_25 (mgetD m62 (⟨c7, d8⟩ : (A2 Int)) (⟨(⟨0, 0, 0⟩ : Cx), (⟨0, 0, 0⟩ : Cx), (⟨0, 0, 0⟩ : Cx), (⟨0, 0, 0⟩ : Cx)⟩ : (A4 Cx)))), At.box b85 25 (cl_25 (mgetD m62 (⟨a5, d8⟩ : (A2 Int)) (⟨(⟨0, 0, 0⟩ : Cx), (⟨0, 0, 0⟩ : Cx), (⟨0, 0, 0⟩ : Cx), (⟨0, 0, 0⟩ : Cx)⟩ : (A4 Cx))))]) (fun _ h => h.to) ?_
             rcases ite_cases H0 with ⟨h90, H0⟩ | ⟨h90, H0⟩
             · refine J.cond_true h90 ?_
               refine J.seq ?_
               refine J.region ?_
               refine JL.pur (mv_25 zv_25) (some 136) ?_
               refine JL.store 0 b9 0 25 (cl_25 zv_25) (cl_25 zv_25) tySize_25 ?_
               refine JL.as (.int .i64 6) ?_
               refine JL.nil ?_
               refine JQ.then_normal ?_
               refine JQ.sub [(10, .pointer (some ⟨b9, 0, none⟩)), (11, .int .i64 6)] ?_
               refine JQ.mask [At.box b9 25 (cl_25 zv_25)] [true, false, false, false, false] ?_
               refine J.ret ?_
               refine JQ.then_ret ?_
               obtain rfl := Option.some.inj H0
               exact JQ.done' (rs := [.cell 10 25, .tmp 11]) (vs := [.agg #[.int .i64 0, .int .i64 0, .int .i64 0, .int .i64 0, .int .i64 0, .int .i64 0, .int .i64 0, .int .i64 0, .int .i64 0, .int .i64 0, .int .i64 0, .int .i64 0], .int .i64 6]) [] (.inr rfl) ⟨⟨b9, 0, _, _, by kernel_rfl, by kernel_rfl, holds_box b9 25 (cl_25 zv_25), .inl ⟨tyAgg_25, tySize_25, rfl⟩⟩, by kernel_rfl, trivial⟩ (fun _ h => Heap.to (Heap.pick [] (by decide) h)) ⟨rfl, rfl⟩
             · refine J.cond_false h90 ?_
               refine J.skip ?_
               refine JQ.then_normal ?_
               refine JQ.sub [(10, .pointer (some ⟨b9, 0, none⟩)), (17, .pointer (some ⟨b82, 0, none⟩)), (19, .pointer (some ⟨b83, 0, none⟩)), (21, .pointer (some ⟨b84, 0, none⟩)), (23, .pointer (some ⟨b85, 0, none⟩))] ?_
               refine J.seq ?_
               refine J.region ?_
               refine JL.val (mv_25 (mgetD m62 (⟨c7, b6⟩ : (A2 Int)) (⟨(⟨0, 0, 0⟩ : Cx), (⟨0, 0, 0⟩ : Cx), (⟨0, 0, 0⟩ : Cx), (⟨0, 0, 0⟩ : Cx)⟩ : (A4 Cx)))) (some 138) (yields_load_boxes 2 0 (cl_25 (mgetD m62 (⟨c7, b6⟩ : (A2 Int)) (⟨(⟨0, 0, 0⟩ : Cx), (⟨0, 0, 0⟩ : Cx), (⟨0, 0, 0⟩ : Cx), (⟨0, 0, 0⟩ : Cx)⟩ : (A4 Cx)))) (holds_box b83 25 (cl_25 (mgetD m62 (⟨c7, b6⟩ : (A2 Int)) (⟨(⟨0, 0, 0⟩ : Cx), (⟨0, 0, 0⟩ : Cx), (⟨0, 0, 0⟩ : Cx), (⟨0, 0, 0⟩ : Cx)⟩ : (A4 Cx))))) tyAgg_25 tySize_25) ?_
               obtain ⟨t91, hc92, H0⟩ := bind_some H0
               refine JL.call [] [] [] (jones_Inv.ok (mgetD m62 (⟨c7, b6⟩ : (A2 Int)) (⟨(⟨0, 0, 0⟩ : Cx), (⟨0, 0, 0⟩ : Cx), (⟨0, 0, 0⟩ : Cx), (⟨0, 0, 0⟩ : Cx)⟩ : (A4 Cx))) _ hc92) trivial ?_
               rintro _ _ ⟨rfl, rfl⟩
               refine JL.mv (.tuple #[mv_25 t91.1, .int .i64 t91.2]) ?_
               refine JL.pur (mv_25 t91.1) (some 140) ?_
               refine JL.pur (.int .i64 t91.2) (some 141) ?_
               refine JL.alloc (cl_25 zv_25) fun b93 => ?_
               refine JL.store 5 b93 0 25 (cl_25 zv_25) (cl_25 t91.1) tySize_25 ?_
               refine JL.as (.int .i64 t91.2) ?_
               refine JL.nil ?_
               refine JQ.then_normal ?_
               refine JQ.sub [(10, .pointer (some ⟨b9, 0, none⟩)), (17, .pointer (some ⟨b82, 0, none⟩)), (21, .pointer (some ⟨b84, 0, none⟩)), (23, .pointer (some ⟨b85, 0, none⟩)), (25, .pointer (some ⟨b93, 0, none⟩)), (26, .int .i64 t91.2)] ?_
               refine JQ.mask [At.box b9 25 (cl_25 zv_25), At.box b82 25 (cl_25 (mgetD m62 (⟨a5, b6⟩ : (A2 Int)) (⟨(⟨0, 0, 0⟩ : Cx), (⟨0, 0, 0⟩ : Cx), (⟨0, 0, 0⟩ : Cx), (⟨0, 0, 0⟩ : Cx)⟩ : (A4 Cx)))), At.box b84 25 (cl_25 (mgetD m62 (⟨c7, d8⟩ : (A2 Int)) (⟨(⟨0, 0, 0⟩ : Cx), (⟨0, 0, 0⟩ : Cx), (⟨0, 0, 0⟩ : Cx), (⟨0, 0, 0⟩ : Cx)⟩ : (A4 Cx)))), At.box b85 25 (cl_25 (mgetD m62 (⟨a5, d8⟩ : (A2 Int)) (⟨(⟨0, 0, 0⟩ : Cx), (⟨0, 0, 0⟩ : Cx), (⟨0, 0, 0⟩ : Cx), (⟨0, 0, 0⟩ : Cx)⟩ : (A4 Cx)))), At.box b93 25 (cl_25 t91.1)] [true, true, false, true, true, true] ?_
               refine J.seq ?_
               refine J.seq ?_
               refine J.region ?_
               refine JL.mv (.int .i64 t91.2) ?_
               refine JL.pur (.bool (!decide (t91.2 = 0))) (some 143) ?_
               refine JL.nil ?_
               refine JQ.then_normal ?_
               refine JQ.sub [(10, .pointer (some ⟨b9, 0, none⟩)), (17, .pointer (some ⟨b82, 0, none⟩)), (21, .pointer (some ⟨b84, 0, none⟩)), (23, .pointer (some ⟨b85, 0, none⟩)), (25, .pointer (some ⟨b93, 0, none⟩)), (26, .int .i64 t91.2), (143, .bool (!decide (t91.2 = 0)))] ?_
               rcases ite_cases H0 with ⟨h94, H0⟩ | ⟨h94, H0⟩
               · refine J.cond_true h94 ?_
                 refine J.seq ?_
                 refine J.region ?_
                 refine JL.pur (mv_25 zv_25) (some 144) ?_
                 refine JL.mv (.int .i64 t91.2) ?_
                 refine JL.store 0 b9 0 25 (cl_25 zv_25) (cl_25 zv_25) tySize_25 ?_
                 refine JL.as (.int .i64 t91.2) ?_
                 refine JL.nil ?_
                 refine JQ.then_normal ?_
                 refine JQ.sub [(10, .pointer (some ⟨b9, 0, none⟩)), (11, .int .i64 t91.2)] ?_
                 refine JQ.mask [At.box b9 25 (cl_25 zv_25)] [true, false, false, false, false] ?_
                 refine J.ret ?_
                 refine JQ.then_ret ?_
                 obtain rfl := Option.some.inj H0
                 exact JQ.done' (rs := [.cell 10 25, .tmp 11]) (vs := [.agg #[.int .i64 0, .int .i64 0, .int .i64 0, .int .i64 0, .int .i64 0, .int .i64 0, .int .i64 0, .int .i64 0, .int .i64 0, .int .i64 0, .int .i64 0, .int .i64 0], .int .i64 t91.2]) [] (.inr rfl) ⟨⟨b9, 0, _, _, by kernel_rfl, by kernel_rfl, holds_box b9 25 (cl_25 zv_25), .inl ⟨tyAgg_25, tySize_25, rfl⟩⟩, by kernel_rfl, trivial⟩ (fun _ h => Heap.to (Heap.pick [] (by decide) h)) ⟨rfl, rfl⟩
               · refine J.cond_false h94 ?_
                 refine J.skip ?_
                 refine JQ.then_normal ?_
                 refine JQ.sub [(10, .pointer (some ⟨b9, 0, none⟩)), (17, .pointer (some ⟨b82, 0, none⟩)), (21, .pointer (some ⟨b84, 0, none⟩)), (23, .pointer (some ⟨b85, 0, none⟩)), (25, .pointer (some ⟨b93, 0, none⟩))] ?_
                 refine J.seq ?_
                 refine J.region ?_
                 refine JL.val (mv_25 (mgetD m62 (⟨a5, d8⟩ : (A2 Int)) (⟨(⟨0, 0, 0⟩ : Cx), (⟨0, 0, 0⟩ : Cx), (⟨0, 0, 0⟩ : Cx), (⟨0, 0, 0⟩ : Cx)⟩ : (A4 Cx)))) (some 147) (yields_load_boxes 3 0 (cl_25 (mgetD m62 (⟨a5, d8⟩ : (A2 Int)) (⟨(⟨0, 0, 0⟩ : Cx), (⟨0, 0, 0⟩ : Cx), (⟨0, 0, 0⟩ : Cx), (⟨0, 0, 0⟩ : Cx)⟩ : (A4 Cx)))) (holds_box b85 25 (cl_25 (mgetD m62 (⟨a5, d8⟩ : (A2 Int)) (⟨(⟨0, 0, 0⟩ : Cx), (⟨0, 0, 0⟩ : Cx), (⟨0, 0, 0⟩ : Cx), (⟨0, 0, 0⟩ : Cx)⟩ : (A4 Cx))))) tyAgg_25 tySize_25) ?_
                 obtain ⟨t95, hc96, H0⟩ := bind_some H0
                 refine JL.call [] [] [] (jones_Inv.ok (mgetD m62 (⟨a5, d8⟩ : (A2 Int)) (⟨(⟨0, 0, 0⟩ : Cx), (⟨0, 0, 0⟩ : Cx), (⟨0, 0, 0⟩ : Cx), (⟨0, 0, 0⟩ : Cx)⟩ : (A4 Cx))) _ hc96) trivial ?_
                 rintro _ _ ⟨rfl, rfl⟩
                 refine JL.mv (.tuple #[mv_25 t95.1, .int .i64 t95.2]) ?_
                 refine JL.pur (mv_25 t95.1) (some 149) ?_
                 refine JL.pur (.int .i64 t95.2) (some 150) ?_
                 refine JL.alloc (cl_25 zv_25) fun b97 => ?_
                 refine JL.store 5 b97 0 25 (cl_25 zv_25) (cl_25 t95.1) tySize_25 ?_
                 refine JL.as (.int .i64 t95.2) ?_
                 refine JL.nil ?_
                 refine JQ.then_normal ?_
                 refine JQ.sub [(10, .pointer (some ⟨b9, 0, none⟩)), (17, .pointer (some ⟨b82, 0, none⟩)), (21, .pointer (some ⟨b84, 0, none⟩)), (25, .pointer (some ⟨b93, 0, none⟩)), (26, .int .i64 t95.2), (27, .pointer (some ⟨b97, 0, none⟩))] ?_
                 refine JQ.mask [At.box b9 25 (cl_25 zv_25), At.box b82 25 (cl_25 (mgetD m62 (⟨a5, b6⟩ : (A2 Int)) (⟨(⟨0, 0, 0⟩ : Cx), (⟨0, 0, 0⟩ : Cx), (⟨0, 0, 0⟩ : Cx), (⟨0, 0, 0⟩ : Cx)⟩ : (A4 Cx)))), At.box b84 25 (cl_25 (mgetD m62 (⟨c7, d8⟩ : (A2 Int)) (⟨(⟨0, 0, 0⟩ : Cx), (⟨0, 0, 0⟩ : Cx), (⟨0, 0, 0⟩ : Cx), (⟨0, 0, 0⟩ : Cx)⟩ : (A4 Cx)))), At.box b93 25 (cl_25 t91.1), At.box b97 25 (cl_25 t95.1)] [true, true, true, false, true, true] ?_
                 refine J.seq ?_
                 refine J.seq ?_
                 refine J.region ?_
                 refine JL.mv (.int .i64 t95.2) ?_
                 refine JL.pur (.bool (!decide (t95.2 = 0))) (some 152) ?_
                 refine JL.nil ?_
                 refine JQ.then_normal ?_
                 refine JQ.sub [(10, .pointer (some ⟨b9, 0, none⟩)), (17, .pointer (some ⟨b82, 0, none⟩)), (21, .pointer (some ⟨b84, 0, none⟩)), (25, .pointer (some ⟨b93, 0, none⟩)), (26, .int .i64 t95.2), (27, .pointer (some ⟨b97, 0, none⟩)), (152, .bool (!decide (t95.2 = 0)))] ?_
                 rcases ite_cases H0 with ⟨h98, H0⟩ | ⟨h98, H0⟩
                 · refine J.cond_true h98 ?_
                   refine J.seq ?_
                   refine J.region ?_
                   refine JL.pur (mv_25 zv_25) (some 153) ?_
                   refine JL.mv (.int .i64 t95.2) ?_
                   refine JL.store 0 b9 0 25 (cl_25 zv_25) (cl_25 zv_25) tySize_25 ?_
                   refine JL.as (.int .i64 t95.2) ?_
                   refine JL.nil ?_
                   refine JQ.then_normal ?_
                   refine JQ.sub [(10, .pointer (some ⟨b9, 0, none⟩)), (11, .int .i64 t95.2)] ?_
                   refine JQ.mask [At.box b9 25 (cl_25 zv_25)] [true, false, false, false, false] ?_
                   refine J.ret ?_
                   refine JQ.then_ret ?_
                   obtain rfl := Option.some.inj H0
                   exact JQ.done' (rs := [.cell 10 25, .tmp 11]) (vs := [.agg #[.int .i64 0, .int .i64 0, .int .i64 0, .int .i64 0, .int .i64 0, .int .i64 0, .int .i64 0, .int .i64 0, .int .i64 0, .int .i64 0, .int .i64 0, .int .i64 0], .int .i64 t95.2]) [] (.inr rfl) ⟨⟨b9, 0, _, _, by kernel_rfl, by kernel_rfl, holds_box b9 25 (cl_25 zv_25), .inl ⟨tyAgg_25, tySize_25, rfl⟩⟩, by kernel_rfl, trivial⟩ (fun _ h => Heap.to (Heap.pick [] (by decide) h)) ⟨rfl, rfl⟩
                 · refine J.cond_false h98 ?_
                   refine J.skip ?_
                   refine JQ.then_normal ?_
                   refine JQ.sub [(10, .pointer (some ⟨b9, 0, none⟩)), (17, .pointer (some ⟨b82, 0, none⟩)), (21, .pointer (some ⟨b84, 0, none⟩)), (25, .pointer (some ⟨b93, 0, none⟩)), (27, .pointer (some ⟨b97, 0, none⟩))] ?_
                   refine J.seq ?_
                   refine J.region ?_
                   refine JL.val (mv_25 (mgetD m62 (⟨a5, b6⟩ : (A2 Int)) (⟨(⟨0, 0, 0⟩ : Cx), (⟨0, 0, 0⟩ : Cx), (⟨0, 0, 0⟩ : Cx), (⟨0, 0, 0⟩ : Cx)⟩ : (A4 Cx)))) (some 155) (yields_load_boxes 1 0 (cl_25 (mgetD m62 (⟨a5, b6⟩ : (A2 Int)) (⟨(⟨0, 0, 0⟩ : Cx), (⟨0, 0, 0⟩ : Cx), (⟨0, 0, 0⟩ : Cx), (⟨0, 0, 0⟩ : Cx)⟩ : (A4 Cx)))) (holds_box b82 25 (cl_25 (mgetD m62 (⟨a5, b6⟩ : (A2 Int)) (⟨(⟨0, 0, 0⟩ : Cx), (⟨0, 0, 0⟩ : Cx), (⟨0, 0, 0⟩ : Cx), (⟨0, 0, 0⟩ : Cx)⟩ : (A4 Cx))))) tyAgg_25 tySize_25) ?_
                   refine JL.val (mv_25 t91.1) (some 156) (yields_load_boxes 3 0 (cl_25 t91.1) (holds_box b93 25 (cl_25 t91.1)) tyAgg_25 tySize_25) ?_
                   refine JL.val (mv_25 (mgetD m62 (⟨c7, d8⟩ : (A2 Int)) (⟨(⟨0, 0, 0⟩ : Cx), (⟨0, 0, 0⟩ : Cx), (⟨0, 0, 0⟩ : Cx), (⟨0, 0, 0⟩ : Cx)⟩ : (A4 Cx)))) (some 157) (yields_load_boxes 2 0 (cl_25 (mgetD m62 (⟨c7, d8⟩ : (A2 Int)) (⟨(⟨0, 0, 0⟩ : Cx), (⟨0, 0, 0⟩ : Cx), (⟨0, 0, 0⟩ : Cx), (⟨0, 0, 0⟩ : Cx)⟩ : (A4 Cx)))) (holds_box b84 25 (cl_25 (mgetD m62 (⟨c7, d8⟩ : (A2 Int)) (⟨(⟨0, 0, 0⟩ : Cx), (⟨0, 0, 0⟩ : Cx), (⟨0, 0, 0⟩ : Cx), (⟨0, 0, 0⟩ : Cx)⟩ : (A4 Cx))))) tyAgg_25 tySize_25) ?_
                   refine JL.val (mv_25 t95.1) (some 158) (yields_load_boxes 4 0 (cl_25 t95.1) (holds_box b97 25 (cl_25 t95.1)) tyAgg_25 tySize_25) ?_
                   refine JL.buildSl 25 ((flArr4 fl_Cx).kd) (([(mgetD m62 (⟨a5, b6⟩ : (A2 Int)) (⟨(⟨0, 0, 0⟩ : Cx), (⟨0, 0, 0⟩ : Cx), (⟨0, 0, 0⟩ : Cx), (⟨0, 0, 0⟩ : Cx)⟩ : (A4 Cx))), t91.1, (mgetD m62 (⟨c7, d8⟩ : (A2 Int)) (⟨(⟨0, 0, 0⟩ : Cx), (⟨0, 0, 0⟩ : Cx), (⟨0, 0, 0⟩ : Cx), (⟨0, 0, 0⟩ : Cx)⟩ : (A4 Cx))), t95.1] : List (A4 Cx)) : List (A4 Cx)) [.int .i64 ((mgetD m62 (⟨a5, b6⟩ : (A2 Int)) (⟨(⟨0, 0, 0⟩ : Cx), (⟨0, 0, 0⟩ : Cx), (⟨0, 0, 0⟩ : Cx), (⟨0, 0, 0⟩ : Cx)⟩ : (A4 Cx))).e0.Re), .int .i64 ((mgetD m62 (⟨a5, b6⟩ : (A2 Int)) (⟨(⟨0, 0, 0⟩ : Cx), (⟨0, 0, 0⟩ : Cx), (⟨0, 0, 0⟩ : Cx), (⟨0, 0, 0⟩ : Cx)⟩ : (A4 Cx))).e0.Im), .int .i64 ((mgetD m62 (⟨a5, b6⟩ : (A2 Int)) (⟨(⟨0, 0, 0⟩ : Cx), (⟨0, 0, 0⟩ : Cx), (⟨0, 0, 0⟩ : Cx), (⟨0, 0, 0⟩ : Cx)⟩ : (A4 Cx))).e0.Den), .int .i64 ((mgetD m62 (⟨a5, b6⟩ : (A2 Int)) (⟨(⟨0, 0, 0⟩ : Cx), (⟨0, 0, 0⟩ : Cx), (⟨0, 0, 0⟩ : Cx), (⟨0, 0, 0⟩ : Cx)⟩ : (A4 Cx))).e1.Re), .int .i64 ((mgetD m62 (⟨a5, b6⟩ : (A2 Int)) (⟨(⟨0, 0, 0⟩ : Cx), (⟨0, 0, 0⟩ : Cx), (⟨0, 0, 0⟩ : Cx), (⟨0, 0, 0⟩ : Cx)⟩ : (A4 Cx))).e1.Im), .int .i64 ((mgetD m62 (⟨a5, b6⟩ : (A2 Int)) (⟨(⟨0, 0, 0⟩ : Cx), (⟨0, 0, 0⟩ : Cx), (⟨0, 0, 0⟩ : Cx), (⟨0, 0, 0⟩ : Cx)⟩ : (A4 Cx))).e1.Den), .int .i64 ((mgetD m62 (⟨a5, b6⟩ : (A2 Int)) (⟨(⟨0, 0, 0⟩ : Cx), (⟨0, 0, 0⟩ : Cx), (⟨0, 0, 0⟩ : Cx), (⟨0, 0, 0⟩ : Cx)⟩ : (A4 Cx))).e2.Re), .int .i64 ((mgetD m62 (⟨a5, b6⟩ : (A2 Int)) (⟨(⟨0, 0, 0⟩ : Cx), (⟨0, 0, 0⟩ : Cx), (⟨0, 0, 0⟩ : Cx), (⟨0, 0, 0⟩ : Cx)⟩ : (A4 Cx))).e2.Im), .int .i64 ((mgetD m62 (⟨a5, b6⟩ : (A2 Int)) (⟨(⟨0, 0, 0⟩ : Cx), (⟨0, 0, 0⟩ : Cx), (⟨0, 0, 0⟩ : Cx), (⟨0, 0, 0⟩ : Cx)⟩ : (A4 Cx))).e2.Den), .int .i64 ((mgetD m62 (⟨a5, b6⟩ : (A2 Int)) (⟨(⟨0, 0, 0⟩ : Cx), (⟨0, 0, 0⟩ : Cx), (⟨0, 0, 0⟩ : Cx), (⟨0, 0, 0⟩ : Cx)⟩ : (A4 Cx))).e3.Re), .int .i64 ((mgetD m62 (⟨a5, b6⟩ : (A2 Int)) (⟨(⟨0, 0, 0⟩ : Cx), (⟨0, 0, 0⟩ : Cx), (⟨0, 0, 0⟩ : Cx), (⟨0, 0, 0⟩ : Cx)⟩ : (A4 Cx))).e3.Im), .int .i64 ((mgetD m62 (⟨a5, b6⟩ : (A2 Int)) (⟨(⟨0, 0, 0⟩ : Cx), (⟨0, 0, 0⟩ : Cx), (⟨0, 0, 0⟩ : Cx), (⟨0, 0, 0⟩ : Cx)⟩ : (A4 Cx))).e3.Den), .int .i64 t91.1.e0.Re, .int .i64 t91.1.e0.Im, .int .i64 t91.1.e0.Den, .int .i64 t91.1.e1.Re, .int .i64 t91.1.e1.Im, .int .i64 t91.1.e1.Den, .int .i64 t91.1.e2.Re, .int .i64 t91.1.e2.Im, .int .i64 t91.1.e2.Den, .int .i64 t91.1.e3.Re, .int .i64 t91.1.e3.Im, .int .i64 t91.1.e3.Den, .int .i64 ((mgetD m62 (⟨c7, d8⟩ : (A2 Int)) (⟨(⟨0, 0, 0⟩ : Cx), (⟨0, 0, 0⟩ : Cx), (⟨0, 0, 0⟩ : Cx), (⟨0, 0, 0⟩ : Cx)⟩ : (A4 Cx))).e0.Re), .int .i64 ((mgetD m62 (⟨c7, d8⟩ : (A2 Int)) (⟨(⟨0, 0, 0⟩ : Cx), (⟨0, 0, 0⟩ : Cx), (⟨0, 0, 0⟩ : Cx), (⟨0, 0, 0⟩ : Cx)⟩ : (A4 Cx))).e0.Im), .int .i64 ((mgetD m62 (⟨c7, d8⟩ : (A2 Int)) (⟨(⟨0, 0, 0⟩ : Cx), (⟨0, 0, 0⟩ : Cx), (⟨0, 0, 0⟩ : Cx), (⟨0, 0, 0⟩ : Cx)⟩ : (A4 Cx))).e0.Den), .int .i64 ((mgetD m62 (⟨c7, d8⟩ : (A2 Int)) (⟨(⟨0, 0, 0⟩ : Cx), (⟨0, 0, 0⟩ : Cx), (⟨0, 0, 0⟩ : Cx), (⟨0, 0, 0⟩ : Cx)⟩ : (A4 Cx))).e1.Re), .int .i64 ((mgetD m62 (⟨c7, d8⟩ : (A2 Int)) (⟨(⟨0, 0, 0⟩ : Cx), (⟨0, 0, 0⟩ : Cx), (⟨0, 0, 0⟩ : Cx), (⟨0, 0, 0⟩ : Cx)⟩ : (A4 Cx))).e1.Im), .int .i64 ((mgetD m62 (⟨c7, d8⟩ : (A2 Int)) (⟨(⟨0, 0, 0⟩ : Cx), (⟨0, 0, 0⟩ : Cx), (⟨0, 0, 0⟩ : Cx), (⟨0, 0, 0⟩ : Cx)⟩ : (A4 Cx))).e1.Den), .int .i64 ((mgetD m62 (⟨c7, d8⟩ : (A2 Int)) (⟨(⟨0, 0, 0⟩ : Cx), (⟨0, 0, 0⟩ : Cx), (⟨0, 0, 0⟩ : Cx), (⟨0, 0, 0⟩ : Cx)⟩ : (A4 Cx))).e2.Re), .int .i64 ((mgetD m62 (⟨c7, d8⟩ : (A2 Int)) (⟨(⟨0, 0, 0⟩ : Cx), (⟨0, 0, 0⟩ : Cx), (⟨0, 0, 0⟩ : Cx), (⟨0, 0, 0⟩ : Cx)⟩ : (A4 Cx))).e2.Im), .int .i64 ((mgetD m62 (⟨c7, d8⟩ : (A2 Int)) (⟨(⟨0, 0, 0⟩ : Cx), (⟨0, 0, 0⟩ : Cx), (⟨0, 0, 0⟩ : Cx), (⟨0, 0, 0⟩ : Cx)⟩ : (A4 Cx))).e2.Den), .int .i64 ((mgetD m62 (⟨c7, d8⟩ : (A2 Int)) (⟨(⟨0, 0, 0⟩ : Cx), (⟨0, 0, 0⟩ : Cx), (⟨0, 0, 0⟩ : Cx), (⟨0, 0, 0⟩ : Cx)⟩ : (A4 Cx))).e3.Re), .int .i64 ((mgetD m62 (⟨c7, d8⟩ : (A2 Int)) (⟨(⟨0, 0, 0⟩ : Cx), (⟨0, 0, 0⟩ : Cx), (⟨0, 0, 0⟩ : Cx), (⟨0, 0, 0⟩ : Cx)⟩ : (A4 Cx))).e3.Im), .int .i64 ((mgetD m62 (⟨c7, d8⟩ : (A2 Int)) (⟨(⟨0, 0, 0⟩ : Cx), (⟨0, 0, 0⟩ : Cx), (⟨0, 0, 0⟩ : Cx), (⟨0, 0, 0⟩ : Cx)⟩ : (A4 Cx))).e3.Den), .int .i64 t95.1.e0.Re, .int .i64 t95.1.e0.Im, .int .i64 t95.1.e0.Den, .int .i64 t95.1.e1.Re, .int .i64 t95.1.e1.Im, .int .i64 t95.1.e1.Den, .int .i64 t95.1.e2.Re, .int .i64 t95.1.e2.Im, .int .i64 t95.1.e2.Den, .int .i64 t95.1.e3.Re, .int .i64 t95.1.e3.Im, .int .i64 t95.1.e3.Den] false (closes_fl rfl) fun b99 => ?_
                   obtain ⟨t100, hc101, H0⟩ := bind_some H0
                   refine JL.call [] [] [] (jones_product.ok ([(mgetD m62 (⟨a5, b6⟩ : (A2 Int)) (⟨(⟨0, 0, 0⟩ : Cx), (⟨0, 0, 0⟩ : Cx), (⟨0, 0, 0⟩ : Cx), (⟨0, 0, 0⟩ : Cx)⟩ : (A4 Cx))), t91.1, (mgetD m62 (⟨c7, d8⟩ : (A2 Int)) (⟨(⟨0, 0, 0⟩ : Cx), (⟨0, 0, 0⟩ : Cx), (⟨0, 0, 0⟩ : Cx), (⟨0, 0, 0⟩ : Cx)⟩ : (A4 Cx))), t95.1] : List (A4 Cx)) (some ⟨b99, 0, none⟩) 4 _ hc101) ⟨pre_view 5 (view_row (some ⟨b99, 0, none⟩) 4 25 ((flArr4 fl_Cx).kd) ([(mgetD m62 (⟨a5, b6⟩ : (A2 Int)) (⟨(⟨0, 0, 0⟩ : Cx), (⟨0, 0, 0⟩ : Cx), (⟨0, 0, 0⟩ : Cx), (⟨0, 0, 0⟩ : Cx)⟩ : (A4 Cx))), t91.1, (mgetD m62 (⟨c7, d8⟩ : (A2 Int)) (⟨(⟨0, 0, 0⟩ : Cx), (⟨0, 0, 0⟩ : Cx), (⟨0, 0, 0⟩ : Cx), (⟨0, 0, 0⟩ : Cx)⟩ : (A4 Cx))), t95.1] : List (A4 Cx)) false true), trivial⟩ ?_
                   rintro _ _ ⟨rfl, rfl⟩
                   refine JL.pur (mv_25 t100.1) (some 161) ?_
                   refine JL.pur (.int .i64 t100.2) (some 162) ?_
                   refine JL.store 0 b9 0 25 (cl_25 zv_25) (cl_25 t100.1) tySize_25 ?_
                   refine JL.as (.int .i64 t100.2) ?_
                   refine JL.nil ?_
                   refine JQ.then_normal ?_
                   refine JQ.sub [(10, .pointer (some ⟨b9, 0, none⟩)), (11, .int .i64 t100.2)] ?_
                   refine JQ.mask [At.box b9 25 (cl_25 t100.1)] [true, false, false, false, false, false] ?_
                   refine J.ret ?_
                   obtain rfl := Option.some.inj H0
                   exact JQ.done' (rs := [.cell 10 25, .tmp 11]) (vs := [.agg #[.int .i64 t100.1.e0.Re, .int .i64 t100.1.e0.Im, .int .i64 t100.1.e0.Den, .int .i64 t100.1.e1.Re, .int .i64 t100.1.e1.Im, .int .i64 t100.1.e1.Den, .int .i64 t100.1.e2.Re, .int .i64 t100.1.e2.Im, .int .i64 t100.1.e2.Den, .int .i64 t100.1.e3.Re, .int .i64 t100.1.e3.Im, .int .i64 t100.1.e3.Den], .int .i64 t100.2]) [] (.inr rfl) ⟨⟨b9, 0, _, _, by kernel_rfl, by kernel_rfl, holds_box b9 25 (cl_25 t100.1), .inl ⟨tyAgg_25, tySize_25, rfl⟩⟩, by kernel_rfl, trivial⟩ (fun _ h => Heap.to (Heap.pick [] (by decide) h)) ⟨rfl, rfl⟩

theorem law33_JonesLoops.ok (t1 : (List (A4 Cx))) (Aa2 : Option Addr) (c3 : Nat) (l5 : (List Pol)) (Aa6 : Option Addr) (c7 : Nat) (a9 : Int) (b10 : Int) (c11 : Int) (d12 : Int) (r : Bool) (H0 : law33_JonesLoops.f t1 l5 a9 b10 c11 d12 = some r) :
    Does Try.prog 8 [.slice Aa2 t1.length c3, .slice Aa6 l5.length c7, .int .i64 a9, .int .i64 b10, .int .i64 c11, .int .i64 d12].toArray [At.rd Aa2 c3 ((flArr4 fl_Cx).kd) t1 true, At.rd Aa6 c7 fl_Pol.kd l5 true] [] false (fun v Δ => v = .bool r ∧ Δ = []) := by
 refine Does.body (vs := [.slice Aa2 t1.length c3, .slice Aa6 l5.length c7, .int .i64 a9, .int .i64 b10, .int .i64 c11, .int .i64 d12]) Try.func8 rfl ⟨.inl rfl, .inl rfl, trivial⟩ trivial fun w S => ?_
 unfold law33_JonesLoops.f at H0
 refine J.seq ?_
 refine J.region ?_
 refine JL.as (.bool false) ?_
 refine JL.nil ?_
 refine JQ.then_normal ?_
 refine JQ.sub [(0, .slice Aa2 t1.length c3), (1, .slice Aa6 l5.length c7), (2, .int .i64 a9), (3, .int .i64 b10), (4, .int .i64 c11), (5, .int .i64 d12)] ?_
 refine J.seq ?_
 refine J.region ?_
 obtain ⟨t13, hc14, H0⟩ := bind_some H0
 refine JL.call [] [] [] (law33_alive.ok _ hc14) trivial ?_
 rintro _ _ ⟨rfl, rfl⟩
 refine JL.as (.bool t13) ?_
 refine JL.nil ?_
 refine JQ.then_normal ?_
 refine JQ.sub [(0, .slice Aa2 t1.length c3), (1, .slice Aa6 l5.length c7), (2, .int .i64 a9), (3, .int .i64 b10), (4, .int .i64 c11), (5, .int .i64 d12), (13, .bool t13)] ?_
 refine J.seq ?_
 refine J.join (T := Bool) (G := Unit) (fun t => law33_JonesLoops.k1 t1 l5 a9 b10 c11 d12 t13 t = some r) (fun t g => [(0, .slice Aa2 t1.length c3), (1, .slice Aa6 l5.length c7), (2, .int .i64 a9), (3, .int .i64 b10), (4, .int .i64 c11), (5, .int .i64 d12), (13, .bool t13), (58, .bool t)]) (fun t g => [At.rd Aa2 c3 ((flArr4 fl_Cx).kd) t1 true, At.rd Aa6 c7 fl_Pol.kd l5 true]) ?_ ?_
 · refine J.region ?_
   refine JL.mv (.slice Aa2 t1.length c3) ?_
   obtain ⟨t164, hc165, H0⟩ := bind_some H0
   refine JL.call [] [] [] (ref33_Table.ok t1 Aa2 c3 _ hc165) ⟨pre_any 0 (view_rd Aa2 c3 ((flArr4 fl_Cx).kd) t1 true true), trivial⟩ ?_
   rintro _ _ ⟨rfl, rfl⟩
   refine JL.pur (.bool (!decide (t164 = 0))) (some 35) ?_
   refine JL.mv (.bool (!decide (t164 = 0))) ?_
   rcases ite_cases H0 with ⟨h166, H0⟩ | ⟨h166, H0⟩
   · refine JL.off 3 36 false (some 37) h166 ?_
     refine JL.off 3 36 false (some 38) h166 ?_
     refine JL.off 3 36 false (some 39) h166 ?_
     refine JL.val (.bool true) (some 40) (gives_pickT h166) ?_
     refine JL.mv (.bool true) ?_
     refine JL.off 8 41 false (some 42) rfl ?_
     refine JL.off 8 41 false (some 43) rfl ?_
     refine JL.off 8 41 false (some 44) rfl ?_
     refine JL.val (.bool true) (some 45) (gives_pickT rfl) ?_
     refine JL.mv (.bool true) ?_
     refine JL.off 13 46 false (some 47) rfl ?_
     refine JL.off 13 46 false (some 48) rfl ?_
     refine JL.off 13 46 false (some 49) rfl ?_
     refine JL.off 13 46 false (some 50) rfl ?_
     refine JL.off 13 46 false (some 51) rfl ?_
     refine JL.off 13 46 false (some 52) rfl ?_
     refine JL.off 13 46 false (some 53) rfl ?_
     refine JL.val (.bool true) (some 54) (gives_pickT rfl) ?_
     refine JL.mv (.bool true) ?_
     refine JL.off 22 55 false (some 56) rfl ?_
     refine JL.off 22 55 false (some 57) rfl ?_
     refine JL.val (.bool true) (some 58) (gives_pickT rfl) ?_
     refine JL.nil ?_
     refine JQ.then_normal ?_
     exact JQ.meet true () H0 (fun _ h => Heap.to h)
   · refine JL.on 3 36 h166 ?_
     refine JL.mv (.slice Aa2 t1.length c3) ?_
     refine JL.on 3 36 h166 ?_
     refine JL.pur (.int .i64 (t1.length : Int)) (some 38) ?_
     refine JL.on 3 36 h166 ?_
     refine JL.pur (.bool (!decide ((t1.length : Int) = 8))) (some 39) ?_
     refine JL.val (.bool (!decide ((t1.length : Int) = 8))) (some 40) (gives_pickF h166) ?_
     refine JL.mv (.bool (!decide ((t1.length : Int) = 8))) ?_
     rcases ite_cases H0 with ⟨h167, H0⟩ | ⟨h167, H0⟩
     · refine JL.off 8 41 false (some 42) h167 ?_
       refine JL.off 8 41 false (some 43) h167 ?_
       refine JL.off 8 41 false (some 44) h167 ?_
       refine JL.val (.bool true) (some 45) (gives_pickT h167) ?_
       refine JL.mv (.bool true) ?_
       refine JL.off 13 46 false (some 47) rfl ?_
       refine JL.off 13 46 false (some 48) rfl ?_
       refine JL.off 13 46 false (some 49) rfl ?_
       refine JL.off 13 46 false (some 50) rfl ?_
       refine JL.off 13 46 false (some 51) rfl ?_
       refine JL.off 13 46 false (some 52) rfl ?_
       refine JL.off 13 46 false (some 53) rfl ?_
       refine JL.val (.bool true) (some 54) (gives_pickT rfl) ?_
       refine JL.mv (.bool true) ?_
       refine JL.off 22 55 false (some 56) rfl ?_
       refine JL.off 22 55 false (some 57) rfl ?_
       refine JL.val (.bool true) (some 58) (gives_pickT rfl) ?_
       refine JL.nil ?_
       refine JQ.then_normal ?_
       exact JQ.meet true () H0 (fun _ h => Heap.to h)
     · refine JL.on 8 41 h167 ?_
       refine JL.mv (.slice Aa6 l5.length c7) ?_
       refine JL.on 8 41 h167 ?_
       obtain ⟨t168, hc169, H0⟩ := bind_some H0
       refine JL.call [] [] [] (ref33_Check.ok l5 Aa6 c7 _ hc169) ⟨pre_any 1 (view_rd Aa6 c7 fl_Pol.kd l5 true true), trivial⟩ ?_
       rintro _ _ ⟨rfl, rfl⟩
       refine JL.on 8 41 h167 ?_
       refine JL.pur (.bool (!decide (t168 = 0))) (some 44) ?_
       refine JL.val (.bool (!decide (t168 = 0))) (some 45) (gives_pickF h167) ?_
       refine JL.mv (.bool (!decide (t168 = 0))) ?_
       rcases ite_cases H0 with ⟨h170, H0⟩ | ⟨h170, H0⟩
       · refine JL.off 13 46 false (some 47) h170 ?_
         refine JL.off 13 46 false (some 48) h170 ?_
         refine JL.off 13 46 false (some 49) h170 ?_
         refine JL.off 13 46 false (some 50) h170 ?_
         refine JL.off 13 46 false (some 51) h170 ?_
         refine JL.off 13 46 false (some 52) h170 ?_
         refine JL.off 13 46 false (some 53) h170 ?_
         refine JL.val (.bool true) (some 54) (gives_pickT h170) ?_
         refine JL.mv (.bool true) ?_
         refine JL.off 22 55 false (some 56) rfl ?_
         refine JL.off 22 55 false (some 57) rfl ?_
         refine JL.val (.bool true) (some 58) (gives_pickT rfl) ?_
         refine JL.nil ?_
         refine JQ.then_normal ?_
         exact JQ.meet true () H0 (fun _ h => Heap.to h)
       · refine JL.on 13 46 h170 ?_
         refine JL.mv (.int .i64 a9) ?_
         refine JL.on 13 46 h170 ?_
         refine JL.mv (.int .i64 b10) ?_
         refine JL.on 13 46 h170 ?_
         refine JL.mv (.int .i64 c11) ?_
         refine JL.on 13 46 h170 ?_
         refine JL.mv (.int .i64 d12) ?_
         refine JL.on 13 46 h170 ?_
         refine JL.buildSl 3 ((flInt .i64).kd) (([a9, b10, c11, d12] : List Int) : List Int) [.int .i64 a9, .int .i64 b10, .int .i64 c11, .int .i64 d12] false (closes_fl rfl) fun b171 => ?_
         refine JL.on 13 46 h170 ?_
         obtain ⟨t172, hc173, H0⟩ := bind_some H0
         refine JL.call [] [] [] (ref27_Apart.ok ([a9, b10, c11, d12] : List Int) (some ⟨b171, 0, none⟩) 4 _ hc173) ⟨pre_view 2 (view_row (some ⟨b171, 0, none⟩) 4 3 ((flInt .i64).kd) ([a9, b10, c11, d12] : List Int) false true), trivial⟩ ?_
         rintro _ _ ⟨rfl, rfl⟩
         refine JL.on 13 46 h170 ?_
         refine JL.pur (.bool (!t172)) (some 53) ?_
         refine JL.val (.bool (!t172)) (some 54) (gives_pickF h170) ?_
         refine JL.mv (.bool (!t172)) ?_
         rcases ite_cases H0 with ⟨h174, H0⟩ | ⟨h174, H0⟩
         · refine JL.off 22 55 false (some 56) h174 ?_
           refine JL.off 22 55 false (some 57) h174 ?_
           refine JL.val (.bool true) (some 58) (gives_pickT h174) ?_
           refine JL.nil ?_
           refine JQ.then_normal ?_
           exact JQ.meet true () H0 (fun _ h => Heap.to (Heap.pick [0, 1] (by decide) h))
         · refine JL.on 22 55 h174 ?_
           refine JL.mv (.bool t13) ?_
           refine JL.on 22 55 h174 ?_
           refine JL.pur (.bool (!t13)) (some 57) ?_
           refine JL.val (.bool (!t13)) (some 58) (gives_pickF h174) ?_
           refine JL.nil ?_
           refine JQ.then_normal ?_
           exact JQ.meet (!t13) () H0 (fun _ h => Heap.to (Heap.pick [0, 1] (by decide) h))
 · clear H0
   rintro x26 ⟨⟩ H0
   replace H0 : law33_JonesLoops.k1 t1 l5 a9 b10 c11 d12 t13 x26 = some r := H0
   unfold law33_JonesLoops.k1 at H0
   refine JQ.sub [(0, .slice Aa2 t1.length c3), (1, .slice Aa6 l5.length c7), (2, .int .i64 a9), (3, .int .i64 b10), (4, .int .i64 c11), (5, .int .i64 d12), (13, .bool t13), (58, .bool x26)] ?_
   refine JQ.turn (Δ' := [At.rd Aa2 c3 ((flArr4 fl_Cx).kd) t1 true, At.rd Aa6 c7 fl_Pol.kd l5 true]) (fun _ h => h.to) ?_
   rcases ite_cases H0 with ⟨h27, H0⟩ | ⟨h27, H0⟩
   · refine J.cond_true h27 ?_
     refine J.seq ?_
     refine J.region ?_
     refine JL.mv (.bool t13) ?_
     refine JL.as (.bool t13) ?_
     refine JL.nil ?_
     refine JQ.then_normal ?_
     refine JQ.sub [(12, .bool t13)] ?_
     refine JQ.mask [] [false, false] ?_
     refine J.ret ?_
     refine JQ.then_ret ?_
     obtain rfl := Option.some.inj H0
     exact JQ.done' (rs := [.tmp 12]) (vs := [.bool t13]) [] (.inr rfl) ⟨by kernel_rfl, trivial⟩ (fun _ h => Heap.to h) ⟨rfl, rfl⟩
   · refine J.cond_false h27 ?_
     refine J.skip ?_
     refine JQ.then_normal ?_
     refine JQ.sub [(0, .slice Aa2 t1.length c3), (1, .slice Aa6 l5.length c7), (2, .int .i64 a9), (3, .int .i64 b10), (4, .int .i64 c11), (5, .int .i64 d12), (13, .bool t13)] ?_
     refine J.seq ?_
     refine J.region ?_
     refine JL.mv (.slice Aa2 t1.length c3) ?_
     refine JL.mv (.slice Aa6 l5.length c7) ?_
     obtain ⟨t28, hc29, H0⟩ := bind_some H0
     refine JL.call [] [] [] (jones_Act.ok t1 Aa2 c3 l5 Aa6 c7 _ hc29) ⟨pre_any 0 (view_rd Aa2 c3 ((flArr4 fl_Cx).kd) t1 true true), ⟨pre_any 1 (view_rd Aa6 c7 fl_Pol.kd l5 true true), trivial⟩⟩ ?_
     rintro _ _ ⟨Aa30, c31, rfl, rfl⟩
     refine JL.mv (.tuple #[.slice Aa30 t28.1.length c31, .int .i64 t28.2]) ?_
     refine JL.pur (.slice Aa30 t28.1.length c31) (some 64) ?_
     refine JL.pur (.int .i64 t28.2) (some 65) ?_
     refine JL.as (.slice Aa30 t28.1.length c31) ?_
     refine JL.as (.int .i64 t28.2) ?_
     refine JL.nil ?_
     refine JQ.then_normal ?_
     refine JQ.sub [(0, .slice Aa2 t1.length c3), (1, .slice Aa6 l5.length c7), (2, .int .i64 a9), (3, .int .i64 b10), (4, .int .i64 c11), (5, .int .i64 d12), (13, .bool t13), (14, .slice Aa30 t28.1.length c31), (15, .int .i64 t28.2)] ?_
     refine J.seq ?_
     refine J.region ?_
     refine JL.mv (.slice Aa6 l5.length c7) ?_
     refine JL.mv (.int .i64 a9) ?_
     refine JL.mv (.int .i64 b10) ?_
     refine JL.mv (.int .i64 c11) ?_
     refine JL.mv (.int .i64 d12) ?_
     obtain ⟨t33, hc34, H0⟩ := bind_some H0
     refine JL.call [] [] [] (jones_Loop.ok l5 Aa6 c7 a9 b10 c11 d12 _ hc34) ⟨pre_any 1 (view_rd Aa6 c7 fl_Pol.kd l5 true true), trivial⟩ ?_
     rintro _ _ ⟨rfl, rfl⟩
     refine JL.mv (.tuple #[mv_25 t33.1, .int .i64 t33.2]) ?_
     refine JL.pur (mv_25 t33.1) (some 73) ?_
     refine JL.pur (.int .i64 t33.2) (some 74) ?_
     refine JL.alloc (cl_25 zv_25) fun b35 => ?_
     refine JL.store 3 b35 0 25 (cl_25 zv_25) (cl_25 t33.1) tySize_25 ?_
     refine JL.as (.int .i64 t33.2) ?_
     refine JL.nil ?_
     refine JQ.then_normal ?_
     refine JQ.sub [(0, .slice Aa2 t1.length c3), (2, .int .i64 a9), (3, .int .i64 b10), (4, .int .i64 c11), (5, .int .i64 d12), (13, .bool t13), (14, .slice Aa30 t28.1.length c31), (15, .int .i64 t28.2), (16, .pointer (some ⟨b35, 0, none⟩)), (17, .int .i64 t33.2)] ?_
     refine JQ.mask [At.rd Aa2 c3 ((flArr4 fl_Cx).kd) t1 true, At.row Aa30 c31 57 fl_Pol.kd t28.1 false, At.box b35 25 (cl_25 t33.1)] [true, false, true, true] ?_
     refine J.seq ?_
     refine J.join (T := Bool) (G := Unit) (fun t => law33_JonesLoops.k2 t1 a9 b10 c11 d12 t13 t28 t33 t = some r) (fun t g => [(0, .slice Aa2 t1.length c3), (2, .int .i64 a9), (3, .int .i64 b10), (4, .int .i64 c11), (5, .int .i64 d12), (13, .bool t13), (14, .slice Aa30 t28.1.length c31), (16, .pointer (some ⟨b35, 0, none⟩)), (80, .bool t)]) (fun t g => [At.rd Aa2 c3 ((flArr4 fl_Cx).kd) t1 true, At.row Aa30 c31 57 fl_Pol.kd t28.1 false, At.box b35 25 (cl_25 t33.1)]) ?_ ?_
     · refine J.region ?_
       refine JL.mv (.int .i64 t28.2) ?_
       refine JL.pur (.bool (!decide (t28.2 = 0))) (some 76) ?_
       refine JL.mv (.bool (!decide (t28.2 = 0))) ?_
       rcases ite_cases H0 with ⟨h163, H0⟩ | ⟨h163, H0⟩
       · refine JL.off 2 77 false (some 78) h163 ?_
         refine JL.off 2 77 false (some 79) h163 ?_
         refine JL.val (.bool true) (some 80) (gives_pickT h163) ?_
         refine JL.nil ?_
         refine JQ.then_normal ?_
         exact JQ.meet true () H0 (fun _ h => Heap.to h)
       · refine JL.on 2 77 h163 ?_
         refine JL.mv (.int .i64 t33.2) ?_
         refine JL.on 2 77 h163 ?_
         refine JL.pur (.bool (!decide (t33.2 = 0))) (some 79) ?_
         refine JL.val (.bool (!decide (t33.2 = 0))) (some 80) (gives_pickF h163) ?_
         refine JL.nil ?_
         refine JQ.then_normal ?_
         exact JQ.meet (!decide (t33.2 = 0)) () H0 (fun _ h => Heap.to h)
     · clear H0
       rintro x37 ⟨⟩ H0
       replace H0 : law33_JonesLoops.k2 t1 a9 b10 c11 d12 t13 t28 t33 x37 = some r := H0
       unfold law33_JonesLoops.k2 at H0
       refine JQ.sub [(0, .slice Aa2 t1.length c3), (2, .int .i64 a9), (3, .int .i64 b10), (4, .int .i64 c11), (5, .int .i64 d12), (13, .bool t13), (14, .slice Aa30 t28.1.length c31), (16, .pointer (some ⟨b35, 0, none⟩)), (80, .bool x37)] ?_
       refine JQ.turn (Δ' := [At.rd Aa2 c3 ((flArr4 fl_Cx).kd) t1 true, At.row Aa30 c31 57 fl_Pol.kd t28.1 false, At.box b35 25 (cl_25 t33.1)]) (fun _ h => h.to) ?_
       rcases ite_cases H0 with ⟨h38, H0⟩ | ⟨h38, H0⟩
       · refine J.cond_true h38 ?_
         refine J.seq ?_
         refine J.region ?_
         refine JL.mv (.bool t13) ?_
         refine JL.as (.bool t13) ?_
         refine JL.nil ?_
         refine JQ.then_normal ?_
         refine JQ.sub [(12, .bool t13)] ?_
         refine JQ.mask [] [false, false, false] ?_
         refine J.ret ?_
         refine JQ.then_ret ?_
         obtain rfl := Option.some.inj H0
         exact JQ.done' (rs := [.tmp 12]) (vs := [.bool t13]) [] (.inr rfl) ⟨by kernel_rfl, trivial⟩ (fun _ h => Heap.to h) ⟨rfl, rfl⟩
       · refine J.cond_false h38 ?_
         refine J.skip ?_
         refine JQ.then_normal ?_
         refine JQ.sub [(0, .slice Aa2 t1.length c3), (2, .int .i64 a9), (3, .int .i64 b10), (4, .int .i64 c11), (5, .int .i64 d12), (13, .bool t13), (14, .slice Aa30 t28.1.length c31), (16, .pointer (some ⟨b35, 0, none⟩))] ?_
         refine J.seq ?_
         refine J.region ?_
         refine JL.mv (.slice Aa30 t28.1.length c31) ?_
         refine JL.mv (.int .i64 a9) ?_
         refine JL.mv (.int .i64 b10) ?_
         refine JL.mv (.int .i64 c11) ?_
         refine JL.mv (.int .i64 d12) ?_
         obtain ⟨t39, hc40, H0⟩ := bind_some H0
         refine JL.call [] [] [] (jones_Loop.ok t28.1 Aa30 c31 a9 b10 c11 d12 _ hc40) ⟨pre_view 1 (view_row Aa30 c31 57 fl_Pol.kd t28.1 false true), trivial⟩ ?_
         rintro _ _ ⟨rfl, rfl⟩
         refine JL.mv (.tuple #[mv_25 t39.1, .int .i64 t39.2]) ?_
         refine JL.pur (mv_25 t39.1) (some 89) ?_
         refine JL.pur (.int .i64 t39.2) (some 90) ?_
         refine JL.alloc (cl_25 zv_25) fun b41 => ?_
         refine JL.store 3 b41 0 25 (cl_25 zv_25) (cl_25 t39.1) tySize_25 ?_
         refine JL.as (.int .i64 t39.2) ?_
         refine JL.nil ?_
         refine JQ.then_normal ?_
         refine JQ.sub [(0, .slice Aa2 t1.length c3), (2, .int .i64 a9), (13, .bool t13), (16, .pointer (some ⟨b35, 0, none⟩)), (18, .pointer (some ⟨b41, 0, none⟩)), (19, .int .i64 t39.2)] ?_
         refine JQ.mask [At.rd Aa2 c3 ((flArr4 fl_Cx).kd) t1 true, At.box b35 25 (cl_25 t33.1), At.box b41 25 (cl_25 t39.1)] [true, false, true, true] ?_
         refine J.seq ?_
         refine J.seq ?_
         refine J.region ?_
         refine JL.mv (.int .i64 t39.2) ?_
         refine JL.pur (.bool (!decide (t39.2 = 0))) (some 92) ?_
         refine JL.nil ?_
         refine JQ.then_normal ?_
         refine JQ.sub [(0, .slice Aa2 t1.length c3), (2, .int .i64 a9), (13, .bool t13), (16, .pointer (some ⟨b35, 0, none⟩)), (18, .pointer (some ⟨b41, 0, none⟩)), (19, .int .i64 t39.2), (92, .bool (!decide (t39.2 = 0)))] ?_
         rcases ite_cases H0 with ⟨h42, H0⟩ | ⟨h42, H0⟩
         · refine J.cond_true h42 ?_
           refine J.seq ?_
           refine J.region ?_
           refine JL.mv (.bool t13) ?_
           refine JL.mv (.bool t13) ?_
           rcases ite_cases H0 with ⟨h43, H0⟩ | ⟨h43, H0⟩
           · refine JL.on 1 94 h43 ?_
             refine JL.mv (.int .i64 t39.2) ?_
             refine JL.on 1 94 h43 ?_
             refine JL.pur (.bool (decide (t39.2 = 16))) (some 96) ?_
             refine JL.val (.bool (decide (t39.2 = 16))) (some 97) (gives_pickT h43) ?_
             refine JL.as (.bool (decide (t39.2 = 16))) ?_
             refine JL.nil ?_
             refine JQ.then_normal ?_
             refine JQ.sub [(12, .bool (decide (t39.2 = 16)))] ?_
             refine JQ.mask [] [false, false, false] ?_
             refine J.ret ?_
             refine JQ.then_ret ?_
             obtain rfl := Option.some.inj H0
             exact JQ.done' (rs := [.tmp 12]) (vs := [.bool (decide (t39.2 = 16))]) [] (.inr rfl) ⟨by kernel_rfl, trivial⟩ (fun _ h => Heap.to h) ⟨rfl, rfl⟩
           · refine JL.off 1 94 true (some 95) h43 ?_
             refine JL.off 1 94 true (some 96) h43 ?_
             refine JL.val (.bool false) (some 97) (gives_pickF h43) ?_
             refine JL.as (.bool false) ?_
             refine JL.nil ?_
             refine JQ.then_normal ?_
             refine JQ.sub [(12, .bool false)] ?_
             refine JQ.mask [] [false, false, false] ?_
             refine J.ret ?_
             refine JQ.then_ret ?_
             obtain rfl := Option.some.inj H0
             exact JQ.done' (rs := [.tmp 12]) (vs := [.bool false]) [] (.inr rfl) ⟨by kernel_rfl, trivial⟩ (fun _ h => Heap.to h) ⟨rfl, rfl⟩
         · refine J.cond_false h42 ?_
           refine J.skip ?_
           refine JQ.then_normal ?_
           refine JQ.sub [(0, .slice Aa2 t1.length c3), (2, .int .i64 a9), (13, .bool t13), (16, .pointer (some ⟨b35, 0, none⟩)), (18, .pointer (some ⟨b41, 0, none⟩))] ?_
           refine J.seq ?_
           refine J.region ?_
           refine JL.val (mv_25 t33.1) (some 99) (yields_load_boxes 1 0 (cl_25 t33.1) (holds_box b35 25 (cl_25 t33.1)) tyAgg_25 tySize_25) ?_
           obtain ⟨t44, hc45, H0⟩ := bind_some H0
           refine JL.call [] [] [] (jones_Trace.ok t33.1 _ hc45) trivial ?_
           rintro _ _ ⟨rfl, rfl⟩
           refine JL.mv (.tuple #[mv_23 t44.1, .int .i64 t44.2]) ?_
           refine JL.pur (mv_23 t44.1) (some 101) ?_
           refine JL.pur (.int .i64 t44.2) (some 102) ?_
           refine JL.alloc (cl_23 zv_23) fun b46 => ?_
           refine JL.store 3 b46 0 23 (cl_23 zv_23) (cl_23 t44.1) tySize_23 ?_
           refine JL.as (.int .i64 t44.2) ?_
           refine JL.nil ?_
           refine JQ.then_normal ?_
           refine JQ.sub [(0, .slice Aa2 t1.length c3), (2, .int .i64 a9), (13, .bool t13), (16, .pointer (some ⟨b35, 0, none⟩)), (18, .pointer (some ⟨b41, 0, none⟩)), (20, .pointer (some ⟨b46, 0, none⟩)), (21, .int .i64 t44.2)] ?_
           refine J.seq ?_
           refine J.region ?_
           refine JL.val (mv_25 t39.1) (some 104) (yields_load_boxes 2 0 (cl_25 t39.1) (holds_box b41 25 (cl_25 t39.1)) tyAgg_25 tySize_25) ?_
           obtain ⟨t47, hc48, H0⟩ := bind_some H0
           refine JL.call [] [] [] (jones_Trace.ok t39.1 _ hc48) trivial ?_
           rintro _ _ ⟨rfl, rfl⟩
           refine JL.mv (.tuple #[mv_23 t47.1, .int .i64 t47.2]) ?_
           refine JL.pur (mv_23 t47.1) (some 106) ?_
           refine JL.pur (.int .i64 t47.2) (some 107) ?_
           refine JL.alloc (cl_23 zv_23) fun b49 => ?_
           refine JL.store 4 b49 0 23 (cl_23 zv_23) (cl_23 t47.1) tySize_23 ?_
           refine JL.as (.int .i64 t47.2) ?_
           refine JL.nil ?_
           refine JQ.then_normal ?_
           refine JQ.sub [(0, .slice Aa2 t1.length c3), (2, .int .i64 a9), (13, .bool t13), (16, .pointer (some ⟨b35, 0, none⟩)), (18, .pointer (some ⟨b41, 0, none⟩)), (20, .pointer (some ⟨b46, 0, none⟩)), (21, .int .i64 t44.2), (22, .pointer (some ⟨b49, 0, none⟩)), (23, .int .i64 t47.2)] ?_
           refine J.seq ?_
           refine J.region ?_
           refine JL.val (mv_25 t33.1) (some 109) (yields_load_boxes 1 0 (cl_25 t33.1) (holds_box b35 25 (cl_25 t33.1)) tyAgg_25 tySize_25) ?_
           obtain ⟨t50, hc51, H0⟩ := bind_some H0
           refine JL.call [] [] [] (jones_Det.ok t33.1 _ hc51) trivial ?_
           rintro _ _ ⟨rfl, rfl⟩
           refine JL.mv (.tuple #[mv_23 t50.1, .int .i64 t50.2]) ?_
           refine JL.pur (mv_23 t50.1) (some 111) ?_
           refine JL.pur (.int .i64 t50.2) (some 112) ?_
           refine JL.alloc (cl_23 zv_23) fun b52 => ?_
           refine JL.store 5 b52 0 23 (cl_23 zv_23) (cl_23 t50.1) tySize_23 ?_
           refine JL.as (.int .i64 t50.2) ?_
           refine JL.nil ?_
           refine JQ.then_normal ?_
           refine JQ.sub [(0, .slice Aa2 t1.length c3), (2, .int .i64 a9), (13, .bool t13), (16, .pointer (some ⟨b35, 0, none⟩)), (18, .pointer (some ⟨b41, 0, none⟩)), (20, .pointer (some ⟨b46, 0, none⟩)), (21, .int .i64 t44.2), (22, .pointer (some ⟨b49, 0, none⟩)), (23, .int .i64 t47.2), (24, .pointer (some ⟨b52, 0, none⟩)), (25, .int .i64 t50.2)] ?_
           refine J.seq ?_
           refine J.region ?_
           refine JL.val (mv_25 t39.1) (some 114) (yields_load_boxes 2 0 (cl_25 t39.1) (holds_box b41 25 (cl_25 t39.1)) tyAgg_25 tySize_25) ?_
           obtain ⟨t53, hc54, H0⟩ := bind_some H0
           refine JL.call [] [] [] (jones_Det.ok t39.1 _ hc54) trivial ?_
           rintro _ _ ⟨rfl, rfl⟩
           refine JL.mv (.tuple #[mv_23 t53.1, .int .i64 t53.2]) ?_
           refine JL.pur (mv_23 t53.1) (some 116) ?_
           refine JL.pur (.int .i64 t53.2) (some 117) ?_
           refine JL.alloc (cl_23 zv_23) fun b55 => ?_
           refine JL.store 6 b55 0 23 (cl_23 zv_23) (cl_23 t53.1) tySize_23 ?_
           refine JL.as (.int .i64 t53.2) ?_
           refine JL.nil ?_
           refine JQ.then_normal ?_
           refine JQ.sub [(0, .slice Aa2 t1.length c3), (2, .int .i64 a9), (13, .bool t13), (16, .pointer (some ⟨b35, 0, none⟩)), (18, .pointer (some ⟨b41, 0, none⟩)), (20, .pointer (some ⟨b46, 0, none⟩)), (21, .int .i64 t44.2), (22, .pointer (some ⟨b49, 0, none⟩)), (23, .int .i64 t47.2), (24, .pointer (some ⟨b52, 0, none⟩)), (25, .int .i64 t50.2), (26, .pointer (some ⟨b55, 0, none⟩)), (27, .int .i64 t53.2)] ?_
           refine J.seq ?_
           refine J.join (T := Bool) (G := Unit) (fun t => law33_JonesLoops.k3 t1 a9 t13 t33 t39 t = some r) (fun t g => [(0, .slice Aa2 t1.length c3), (2, .int .i64 a9), (13, .bool t13), (16, .pointer (some ⟨b35, 0, none⟩)), (18, .pointer (some ⟨b41, 0, none⟩)), (141, .bool t)]) (fun t g => [At.rd Aa2 c3 ((flArr4 fl_Cx).kd) t1 true, At.box b35 25 (cl_25 t33.1), At.box b41 25 (cl_25 t39.1)]) ?_ ?_
           · refine J.region ?_
             refine JL.mv (.int .i64 t44.2) ?_
             refine JL.pur (.bool (decide (t44.2 = 0))) (some 119) ?_
             refine JL.mv (.bool (decide (t44.2 = 0))) ?_
             rcases ite_cases H0 with ⟨h154, H0⟩ | ⟨h154, H0⟩
             · refine JL.on 2 120 h154 ?_
               refine JL.mv (.int .i64 t47.2) ?_
               refine JL.on 2 120 h154 ?_
               refine JL.pur (.bool (decide (t47.2 = 0))) (some 122) ?_
               refine JL.val (.bool (decide (t47.2 = 0))) (some 123) (gives_pickT h154) ?_
               refine JL.mv (.bool (decide (t47.2 = 0))) ?_
               rcases ite_cases H0 with ⟨h155, H0⟩ | ⟨h155, H0⟩
               · refine JL.on 6 124 h155 ?_
                 refine JL.val (mv_23 t44.1) (some 125) (yields_load_boxes 3 0 (cl_23 t44.1) (holds_box b46 23 (cl_23 t44.1)) tyAgg_23 tySize_23) ?_
                 refine JL.on 6 124 h155 ?_
                 refine JL.val (mv_23 t47.1) (some 126) (yields_load_boxes 4 0 (cl_23 t47.1) (holds_box b49 23 (cl_23 t47.1)) tyAgg_23 tySize_23) ?_
                 refine JL.on 6 124 h155 ?_
                 refine JL.val (.bool (!decide (t44.1 = t47.1))) (some 127) (gives_neq eqg_23 (fun w => eqt_23 t44.1 t47.1 w)) ?_
                 refine JL.val (.bool (!decide (t44.1 = t47.1))) (some 128) (gives_pickT h155) ?_
                 refine JL.mv (.bool (!decide (t44.1 = t47.1))) ?_
                 rcases ite_cases H0 with ⟨h156, H0⟩ | ⟨h156, H0⟩
                 · refine JL.off 11 129 false (some 130) h156 ?_
                   refine JL.off 11 129 false (some 131) h156 ?_
                   refine JL.off 11 129 false (some 132) h156 ?_
                   refine JL.off' 14 132 true (some 133) ?_
                   refine JL.off' 14 132 true (some 134) ?_
                   refine JL.off 11 129 false (some 135) h156 ?_
                   refine JL.off 11 129 false (some 136) h156 ?_
                   refine JL.off' 18 136 true (some 137) ?_
                   refine JL.off' 18 136 true (some 138) ?_
                   refine JL.off' 18 136 true (some 139) ?_
                   refine JL.off 11 129 false (some 140) h156 ?_
                   refine JL.val (.bool true) (some 141) (gives_pickT h156) ?_
                   refine JL.nil ?_
                   refine JQ.then_normal ?_
                   exact JQ.meet true () H0 (fun _ h => Heap.to (Heap.pick [0, 1, 2] (by decide) h))
                 · refine JL.on 11 129 h156 ?_
                   refine JL.mv (.int .i64 t50.2) ?_
                   refine JL.on 11 129 h156 ?_
                   refine JL.pur (.bool (decide (t50.2 = 0))) (some 131) ?_
                   refine JL.on 11 129 h156 ?_
                   refine JL.mv (.bool (decide (t50.2 = 0))) ?_
                   rcases ite_cases H0 with ⟨h157, H0⟩ | ⟨h157, H0⟩
                   · refine JL.on 14 132 h157 ?_
                     refine JL.mv (.int .i64 t53.2) ?_
                     refine JL.on 14 132 h157 ?_
                     refine JL.pur (.bool (decide (t53.2 = 0))) (some 134) ?_
                     refine JL.on 11 129 h156 ?_
                     refine JL.val (.bool (decide (t53.2 = 0))) (some 135) (gives_pickT h157) ?_
                     refine JL.on 11 129 h156 ?_
                     refine JL.mv (.bool (decide (t53.2 = 0))) ?_
                     rcases ite_cases H0 with ⟨h158, H0⟩ | ⟨h158, H0⟩
                     · refine JL.on 18 136 h158 ?_
                       refine JL.val (mv_23 t50.1) (some 137) (yields_load_boxes 5 0 (cl_23 t50.1) (holds_box b52 23 (cl_23 t50.1)) tyAgg_23 tySize_23) ?_
                       refine JL.on 18 136 h158 ?_
                       refine JL.val (mv_23 t53.1) (some 138) (yields_load_boxes 6 0 (cl_23 t53.1) (holds_box b55 23 (cl_23 t53.1)) tyAgg_23 tySize_23) ?_
                       refine JL.on 18 136 h158 ?_
                       refine JL.val (.bool (!decide (t50.1 = t53.1))) (some 139) (gives_neq eqg_23 (fun w => eqt_23 t50.1 t53.1 w)) ?_
                       refine JL.on 11 129 h156 ?_
                       refine JL.val (.bool (!decide (t50.1 = t53.1))) (some 140) (gives_pickT h158) ?_
                       refine JL.val (.bool (!decide (t50.1 = t53.1))) (some 141) (gives_pickF h156) ?_
                       refine JL.nil ?_
                       refine JQ.then_normal ?_
                       exact JQ.meet (!decide (t50.1 = t53.1)) () H0 (fun _ h => Heap.to (Heap.pick [0, 1, 2] (by decide) h))
                     · refine JL.off 18 136 true (some 137) h158 ?_
                       refine JL.off 18 136 true (some 138) h158 ?_
                       refine JL.off 18 136 true (some 139) h158 ?_
                       refine JL.on 11 129 h156 ?_
                       refine JL.val (.bool false) (some 140) (gives_pickF h158) ?_
                       refine JL.val (.bool false) (some 141) (gives_pickF h156) ?_
                       refine JL.nil ?_
                       refine JQ.then_normal ?_
                       exact JQ.meet false () H0 (fun _ h => Heap.to (Heap.pick [0, 1, 2] (by decide) h))
                   · refine JL.off 14 132 true (some 133) h157 ?_
                     refine JL.off 14 132 true (some 134) h157 ?_
                     refine JL.on 11 129 h156 ?_
                     refine JL.val (.bool false) (some 135) (gives_pickF h157) ?_
                     refine JL.on 11 129 h156 ?_
                     refine JL.mv (.bool false) ?_
                     refine JL.off 18 136 true (some 137) rfl ?_
                     refine JL.off 18 136 true (some 138) rfl ?_
                     refine JL.off 18 136 true (some 139) rfl ?_
                     refine JL.on 11 129 h156 ?_
                     refine JL.val (.bool false) (some 140) (gives_pickF rfl) ?_
                     refine JL.val (.bool false) (some 141) (gives_pickF h156) ?_
                     refine JL.nil ?_
                     refine JQ.then_normal ?_
                     exact JQ.meet false () H0 (fun _ h => Heap.to (Heap.pick [0, 1, 2] (by decide) h))
               · refine JL.off 6 124 true (some 125) h155 ?_
                 refine JL.off 6 124 true (some 126) h155 ?_
                 refine JL.off 6 124 true (some 127) h155 ?_
                 refine JL.val (.bool false) (some 128) (gives_pickF h155) ?_
                 refine JL.mv (.bool false) ?_
                 refine JL.on 11 129 (rfl : (false) = false) ?_
                 refine JL.mv (.int .i64 t50.2) ?_
                 refine JL.on 11 129 (rfl : (false) = false) ?_
                 refine JL.pur (.bool (decide (t50.2 = 0))) (some 131) ?_
                 refine JL.on 11 129 (rfl : (false) = false) ?_
                 refine JL.mv (.bool (decide (t50.2 = 0))) ?_
                 rcases ite_cases H0 with ⟨h159, H0⟩ | ⟨h159, H0⟩
                 · refine JL.on 14 132 h159 ?_
                   refine JL.mv (.int .i64 t53.2) ?_
                   refine JL.on 14 132 h159 ?_
                   refine JL.pur (.bool (decide (t53.2 = 0))) (some 134) ?_
                   refine JL.on 11 129 (rfl : (false) = false) ?_
                   refine JL.val (.bool (decide (t53.2 = 0))) (some 135) (gives_pickT h159) ?_
                   refine JL.on 11 129 (rfl : (false) = false) ?_
                   refine JL.mv (.bool (decide (t53.2 = 0))) ?_
                   rcases ite_cases H0 with ⟨h160, H0⟩ | ⟨h160, H0⟩
                   · refine JL.on 18 136 h160 ?_
                     refine JL.val (mv_23 t50.1) (some 137) (yields_load_boxes 5 0 (cl_23 t50.1) (holds_box b52 23 (cl_23 t50.1)) tyAgg_23 tySize_23) ?_
                     refine JL.on 18 136 h160 ?_
                     refine JL.val (mv_23 t53.1) (some 138) (yields_load_boxes 6 0 (cl_23 t53.1) (holds_box b55 23 (cl_23 t53.1)) tyAgg_23 tySize_23) ?_
                     refine JL.on 18 136 h160 ?_
                     refine JL.val (.bool (!decide (t50.1 = t53.1))) (some 139) (gives_neq eqg_23 (fun w => eqt_23 t50.1 t53.1 w)) ?_
                     refine JL.on 11 129 (rfl : (false) = false) ?_
                     refine JL.val (.bool (!decide (t50.1 = t53.1))) (some 140) (gives_pickT h160) ?_
                     refine JL.val (.bool (!decide (t50.1 = t53.1))) (some 141) (gives_pickF rfl) ?_
                     refine JL.nil ?_
                     refine JQ.then_normal ?_
                     exact JQ.meet (!decide (t50.1 = t53.1)) () H0 (fun _ h => Heap.to (Heap.pick [0, 1, 2] (by decide) h))
                   · refine JL.off 18 136 true (some 137) h160 ?_
                     refine JL.off 18 136 true (some 138) h160 ?_
                     refine JL.off 18 136 true (some 139) h160 ?_
                     refine JL.on 11 129 (rfl : (false) = false) ?_
                     refine JL.val (.bool false) (some 140) (gives_pickF h160) ?_
                     refine JL.val (.bool false) (some 141) (gives_pickF rfl) ?_
                     refine JL.nil ?_
                     refine JQ.then_normal ?_
                     exact JQ.meet false () H0 (fun _ h => Heap.to (Heap.pick [0, 1, 2] (by decide) h))
                 · refine JL.off 14 132 true (some 133) h159 ?_
                   refine JL.off 14 132 true (some 134) h159 ?_
                   refine JL.on 11 129 (rfl : (false) = false) ?_
                   refine JL.val (.bool false) (some 135) (gives_pickF h159) ?_
                   refine JL.on 11 129 (rfl : (false) = false) ?_
                   refine JL.mv (.bool false) ?_
                   refine JL.off 18 136 true (some 137) rfl ?_
                   refine JL.off 18 136 true (some 138) rfl ?_
                   refine JL.off 18 136 true (some 139) rfl ?_
                   refine JL.on 11 129 (rfl : (false) = false) ?_
                   refine JL.val (.bool false) (some 140) (gives_pickF rfl) ?_
                   refine JL.val (.bool false) (some 141) (gives_pickF rfl) ?_
                   refine JL.nil ?_
                   refine JQ.then_normal ?_
                   exact JQ.meet false () H0 (fun _ h => Heap.to (Heap.pick [0, 1, 2] (by decide) h))
             · refine JL.off 2 120 true (some 121) h154 ?_
               refine JL.off 2 120 true (some 122) h154 ?_
               refine JL.val (.bool false) (some 123) (gives_pickF h154) ?_
               refine JL.mv (.bool false) ?_
               refine JL.off 6 124 true (some 125) rfl ?_
               refine JL.off 6 124 true (some 126) rfl ?_
               refine JL.off 6 124 true (some 127) rfl ?_
               refine JL.val (.bool false) (some 128) (gives_pickF rfl) ?_
               refine JL.mv (.bool false) ?_
               refine JL.on 11 129 (rfl : (false) = false) ?_
               refine JL.mv (.int .i64 t50.2) ?_
               refine JL.on 11 129 (rfl : (false) = false) ?_
               refine JL.pur (.bool (decide (t50.2 = 0))) (some 131) ?_
               refine JL.on 11 129 (rfl : (false) = false) ?_
               refine JL.mv (.bool (decide (t50.2 = 0))) ?_
               rcases ite_cases H0 with ⟨h161, H0⟩ | ⟨h161, H0⟩
               · refine JL.on 14 132 h161 ?_
                 refine JL.mv (.int .i64 t53.2) ?_
                 refine JL.on 14 132 h161 ?_
                 refine JL.pur (.bool (decide (t53.2 = 0))) (some 134) ?_
                 refine JL.on 11 129 (rfl : (false) = false) ?_
                 refine JL.val (.bool (decide (t53.2 = 0))) (some 135) (gives_pickT h161) ?_
                 refine JL.on 11 129 (rfl : (false) = false) ?_
                 refine JL.mv (.bool (decide (t53.2 = 0))) ?_
                 rcases ite_cases H0 with ⟨h162, H0⟩ | ⟨h162, H0⟩
                 · refine JL.on 18 136 h162 ?_
                   refine JL.val (mv_23 t50.1) (some 137) (yields_load_boxes 5 0 (cl_23 t50.1) (holds_box b52 23 (cl_23 t50.1)) tyAgg_23 tySize_23) ?_
                   refine JL.on 18 136 h162 ?_
                   refine JL.val (mv_23 t53.1) (some 138) (yields_load_boxes 6 0 (cl_23 t53.1) (holds_box b55 23 (cl_23 t53.1)) tyAgg_23 tySize_23) ?_
                   refine JL.on 18 136 h162 ?_
                   refine JL.val (.bool (!decide (t50.1 = t53.1))) (some 139) (gives_neq eqg_23 (fun w => eqt_23 t50.1 t53.1 w)) ?_
                   refine JL.on 11 129 (rfl : (false) = false) ?_
                   refine JL.val (.bool (!decide (t50.1 = t53.1))) (some 140) (gives_pickT h162) ?_
                   refine JL.val (.bool (!decide (t50.1 = t53.1))) (some 141) (gives_pickF rfl) ?_
                   refine JL.nil ?_
                   refine JQ.then_normal ?_
                   exact JQ.meet (!decide (t50.1 = t53.1)) () H0 (fun _ h => Heap.to (Heap.pick [0, 1, 2] (by decide) h))
                 · refine JL.off 18 136 true (some 137) h162 ?_
                   refine JL.off 18 136 true (some 138) h162 ?_
                   refine JL.off 18 136 true (some 139) h162 ?_
                   refine JL.on 11 129 (rfl : (false) = false) ?_
                   refine JL.val (.bool false) (some 140) (gives_pickF h162) ?_
                   refine JL.val (.bool false) (some 141) (gives_pickF rfl) ?_
                   refine JL.nil ?_
                   refine JQ.then_normal ?_
                   exact JQ.meet false () H0 (fun _ h => Heap.to (Heap.pick [0, 1, 2] (by decide) h))
               · refine JL.off 14 132 true (some 133) h161 ?_
                 refine JL.off 14 132 true (some 134) h161 ?_
                 refine JL.on 11 129 (rfl : (false) = false) ?_
                 refine JL.val (.bool false) (some 135) (gives_pickF h161) ?_
                 refine JL.on 11 129 (rfl : (false) = false) ?_
                 refine JL.mv (.bool false) ?_
                 refine JL.off 18 136 true (some 137) rfl ?_
                 refine JL.off 18 136 true (some 138) rfl ?_
                 refine JL.off 18 136 true (some 139) rfl ?_
                 refine JL.on 11 129 (rfl : (false) = false) ?_
                 refine JL.val (.bool false) (some 140) (gives_pickF rfl) ?_
                 refine JL.val (.bool false) (some 141) (gives_pickF rfl) ?_
                 refine JL.nil ?_
                 refine JQ.then_normal ?_
                 exact JQ.meet false () H0 (fun _ h => Heap.to (Heap.pick [0, 1, 2] (by decide) h))
           · clear H0
             rintro x65 ⟨⟩ H0
             replace H0 : law33_JonesLoops.k3 t1 a9 t13 t33 t39 x65 = some r := H0
             unfold law33_JonesLoops.k3 at H0
             refine JQ.sub [(0, .slice Aa2 t1.length c3), (2, .int .i64 a9), (13, .bool t13), (16, .pointer (some ⟨b35, 0, none⟩)), (18, .pointer (some ⟨b41, 0, none⟩)), (141, .bool x65)] ?_
             refine JQ.turn (Δ' := [At.rd Aa2 c3 ((flArr4 fl_Cx).kd) t1 true, At.box b35 25 (cl_25 t33.1), At.box b41 25 (cl_25 t39.1)]) (fun _ h => h.to) ?_
             rcases ite_cases H0 with ⟨h66, H0⟩ | ⟨h66, H0⟩
             · refine J.cond_true h66 ?_
               refine J.seq ?_
               refine J.region ?_
               refine JL.as (.bool false) ?_
               refine JL.nil ?_
               refine JQ.then_normal ?_
               refine JQ.sub [(12, .bool false)] ?_
               refine JQ.mask [] [false, false, false] ?_
               refine J.ret ?_
               refine JQ.then_ret ?_
               obtain rfl := Option.some.inj H0
               exact JQ.done' (rs := [.tmp 12]) (vs := [.bool false]) [] (.inr rfl) ⟨by kernel_rfl, trivial⟩ (fun _ h => Heap.to h) ⟨rfl, rfl⟩
             · refine J.cond_false h66 ?_
               refine J.skip ?_
               refine JQ.then_normal ?_
               refine JQ.sub [(0, .slice Aa2 t1.length c3), (2, .int .i64 a9), (13, .bool t13), (16, .pointer (some ⟨b35, 0, none⟩)), (18, .pointer (some ⟨b41, 0, none⟩))] ?_
               refine J.join (T := ((A4 Cx) × Int)) (G := Nat) (fun t => law33_JonesLoops.k4 t1 a9 t13 t33 t.1 t.2 = some r) (fun t g => [(0, .slice Aa2 t1.length c3), (2, .int .i64 a9), (13, .bool t13), (16, .pointer (some ⟨b35, 0, none⟩)), (28, .pointer (some ⟨g, 0, none⟩)), (29, .int .i64 t.2)]) (fun t g => [At.rd Aa2 c3 ((flArr4 fl_Cx).kd) t1 true, At.box b35 25 (cl_25 t33.1), At.box g 25 (cl_25 t.1)]) ?_ ?_
               · obtain ⟨⟨h135, h136⟩, H0⟩ := ite_must H0
                 obtain ⟨t139, hc140, H0⟩ := bind_some H0
                 refine JQ.openA 0 (elems_rd Aa2 c3 ((flArr4 fl_Cx).kd) t1 true) h135 h136 fun g142 o143 hA => ?_
                 subst hA
                 refine JY.start [10] (ba 12 0) ?_
                 refine JY.take (hi := rfl) 0 (ba 12 1) (mv_25 t39.1) (some 143) [true, true, true] want (yields_load_boxes 2 0 (cl_25 t39.1) (holds_box b41 25 (cl_25 t39.1)) tyAgg_25 tySize_25) ?_
                 refine JY.pur (hi := rfl) 1 (ba 12 3) (.slice (some ⟨g142, o143, none⟩) t1.length c3) (some 144) want ?_
                 refine JY.pur (hi := rfl) 2 (ba 12 7) (.int .i64 a9) (some 145) want ?_
                 obtain ⟨h144, h145⟩ : 0 ≤ a9 ∧ a9 < (t1.length : Int) := ⟨h135, h136⟩
                 refine JY.puw (hi := rfl) 3 (ba 12 15) (.pointer (some ⟨g142, o143 + a9.toNat * 12, none⟩)) (some 146) want (givesW_ixSl (g := g142) (o := o143) (n := t1.length) (i := a9) 12 c3 .i64 Try.underlying38 tySize_25 h144 h145) ?_
                 refine JY.take (hi := rfl) 4 (ba 12 31) (mv_25 (ix t1 a9)) (some 147) [true, true, true] want (gives_loadEl (f := (flArr4 fl_Cx)) 0 0 a9 (elems_rd (some ⟨g142, o143, none⟩) c3 ((flArr4 fl_Cx).kd) t1 true) h144 h145 tySize_25 (.inl ⟨tyAgg_25, rfl⟩)) ?_
                 refine JY.all [5, 9] ⟨⟨_, rfl, ?_⟩, ⟨_, rfl, ?_⟩, trivial⟩
                 · refine JL.call [] [] [] (jones_Mul.ok t39.1 (ix t1 a9) _ hc140) trivial ?_
                   rintro _ _ ⟨rfl, rfl⟩
                   refine JL.nil ?_
                   refine JY.ran (ba 12 63) [true, true, true] ?_
                   refine JY.pur (hi := rfl) 6 (ba 12 127) (.tuple #[mv_25 t139.1, .int .i64 t139.2]) (some 142) want ?_
                   refine JY.pur (hi := rfl) 7 (ba 12 255) (mv_25 t139.1) (some 149) want ?_
                   refine JY.pur (hi := rfl) 8 (ba 12 511) (.int .i64 t139.2) (some 150) want ?_
                   refine JY.all [9] ⟨⟨_, rfl, ?_⟩, trivial⟩
                   refine JL.alloc (cl_25 zv_25) fun b150 => ?_
                   refine JL.nil ?_
                   refine JY.ran (ba 12 1023) [true, true, true, false] ?_
                   refine JY.all [10] ⟨⟨_, rfl, ?_⟩, trivial⟩
                   refine JL.store 3 b150 0 25 (cl_25 zv_25) (cl_25 t139.1) tySize_25 ?_
                   refine JL.nil ?_
                   refine JY.ranD (ba 12 2047) ?_
                   refine JY.pur (hi := rfl) 11 (ba 12 4095) (.int .i64 t139.2) (some 29) want ?_
                   refine JY.done ?_
                   refine JQ.then_normal ?_
                   exact JQ.meet (t139.1, t139.2) b150 H0 (fun _ h => Heap.to (Heap.pick [0, 1, 3] (by decide) h))
                 · refine JL.alloc (cl_25 zv_25) fun b151 => ?_
                   refine JL.nil ?_
                   refine JY.ran (ba 12 543) [true, true, true, false] ?_
                   refine JY.all [5] ⟨⟨_, rfl, ?_⟩, trivial⟩
                   refine JL.call [] [] [] (jones_Mul.ok t39.1 (ix t1 a9) _ hc140) trivial ?_
                   rintro _ _ ⟨rfl, rfl⟩
                   refine JL.nil ?_
                   refine JY.ran (ba 12 575) [true, true, true, false] ?_
                   refine JY.pur (hi := rfl) 6 (ba 12 639) (.tuple #[mv_25 t139.1, .int .i64 t139.2]) (some 142) want ?_
                   refine JY.pur (hi := rfl) 7 (ba 12 767) (mv_25 t139.1) (some 149) want ?_
                   refine JY.pur (hi := rfl) 8 (ba 12 1023) (.int .i64 t139.2) (some 150) want ?_
                   refine JY.all [10] ⟨⟨_, rfl, ?_⟩, trivial⟩
                   refine JL.store 3 b151 0 25 (cl_25 zv_25) (cl_25 t139.1) tySize_25 ?_
                   refine JL.nil ?_
                   refine JY.ranD (ba 12 2047) ?_
                   refine JY.pur (hi := rfl) 11 (ba 12 4095) (.int .i64 t139.2) (some 29) want ?_
                   refine JY.done ?_
                   refine JQ.then_normal ?_
                   exact JQ.meet (t139.1, t139.2) b151 H0 (fun _ h => Heap.to (Heap.pick [0, 1, 3] (by decide) h))
               · clear H0
                 rintro ⟨u88, n89⟩ b86 H0
                 replace H0 : law33_JonesLoops.k4 t1 a9 t13 t33 u88 n89 = some r := H0
                 unfold law33_JonesLoops.k4 at H0
                 refine JQ.sub [(0, .slice Aa2 t1.length c3), (2, .int .i64 a9), (13, .bool t13), (16, .pointer (some ⟨b35, 0, none⟩)), (28, .pointer (some ⟨b86, 0, none⟩)), (29, .int .i64 n89)] ?_
                 refine JQ.turn (Δ' := [At.rd Aa2 c3 ((flArr4 fl_Cx).kd) t1 true, At.box b35 25 (cl_25 t33.1), At.box b86 25 (cl_25 u88)]) (fun _ h => h.to) ?_
                 refine J.join (T := ((A4 Cx) × Int)) (G := Nat) (fun t => law33_JonesLoops.k5 t13 u88 n89 t.1 t.2 = some r) (fun t g => [(13, .bool t13), (28, .pointer (some ⟨b86, 0, none⟩)), (29, .int .i64 n89), (30, .pointer (some ⟨g, 0, none⟩)), (31, .int .i64 t.2)]) (fun t g => [At.box b86 25 (cl_25 u88), At.box g 25 (cl_25 t.1)]) ?_ ?_
                 · obtain ⟨⟨h116, h117⟩, H0⟩ := ite_must H0
                   obtain ⟨t120, hc121, H0⟩ := bind_some H0
                   refine JQ.openA 0 (elems_rd Aa2 c3 ((flArr4 fl_Cx).kd) t1 true) h116 h117 fun g123 o124 hA => ?_
                   subst hA
                   refine JY.start [10] (ba 12 0) ?_
                   refine JY.pur (hi := rfl) 0 (ba 12 1) (.slice (some ⟨g123, o124, none⟩) t1.length c3) (some 152) want ?_
                   refine JY.pur (hi := rfl) 1 (ba 12 3) (.int .i64 a9) (some 153) want ?_
                   obtain ⟨h125, h126⟩ : 0 ≤ a9 ∧ a9 < (t1.length : Int) := ⟨h116, h117⟩
                   refine JY.puw (hi := rfl) 2 (ba 12 7) (.pointer (some ⟨g123, o124 + a9.toNat * 12, none⟩)) (some 154) want (givesW_ixSl (g := g123) (o := o124) (n := t1.length) (i := a9) 12 c3 .i64 Try.underlying38 tySize_25 h125 h126) ?_
                   refine JY.take (hi := rfl) 3 (ba 12 15) (mv_25 (ix t1 a9)) (some 155) [true, true, true] want (gives_loadEl (f := (flArr4 fl_Cx)) 0 0 a9 (elems_rd (some ⟨g123, o124, none⟩) c3 ((flArr4 fl_Cx).kd) t1 true) h125 h126 tySize_25 (.inl ⟨tyAgg_25, rfl⟩)) ?_
                   refine JY.take (hi := rfl) 4 (ba 12 31) (mv_25 t33.1) (some 156) [true, true, true] want (yields_load_boxes 1 0 (cl_25 t33.1) (holds_box b35 25 (cl_25 t33.1)) tyAgg_25 tySize_25) ?_
                   refine JY.all [5, 9] ⟨⟨_, rfl, ?_⟩, ⟨_, rfl, ?_⟩, trivial⟩
                   · refine JL.call [] [] [] (jones_Mul.ok (ix t1 a9) t33.1 _ hc121) trivial ?_
                     rintro _ _ ⟨rfl, rfl⟩
                     refine JL.nil ?_
                     refine JY.ran (ba 12 63) [true, true, true] ?_
                     refine JY.pur (hi := rfl) 6 (ba 12 127) (.tuple #[mv_25 t120.1, .int .i64 t120.2]) (some 151) want ?_
                     refine JY.pur (hi := rfl) 7 (ba 12 255) (mv_25 t120.1) (some 158) want ?_
                     refine JY.pur (hi := rfl) 8 (ba 12 511) (.int .i64 t120.2) (some 159) want ?_
                     refine JY.all [9] ⟨⟨_, rfl, ?_⟩, trivial⟩
                     refine JL.alloc (cl_25 zv_25) fun b131 => ?_
                     refine JL.nil ?_
                     refine JY.ran (ba 12 1023) [true, true, true, false] ?_
                     refine JY.all [10] ⟨⟨_, rfl, ?_⟩, trivial⟩
                     refine JL.store 3 b131 0 25 (cl_25 zv_25) (cl_25 t120.1) tySize_25 ?_
                     refine JL.nil ?_
                     refine JY.ranD (ba 12 2047) ?_
                     refine JY.pur (hi := rfl) 11 (ba 12 4095) (.int .i64 t120.2) (some 31) want ?_
                     refine JY.done ?_
                     refine JQ.then_normal ?_
                     exact JQ.meet (t120.1, t120.2) b131 H0 (fun _ h => Heap.to (Heap.pick [2, 3] (by decide) h))
                   · refine JL.alloc (cl_25 zv_25) fun b132 => ?_
                     refine JL.nil ?_
                     refine JY.ran (ba 12 543) [true, true, true, false] ?_
                     refine JY.all [5] ⟨⟨_, rfl, ?_⟩, trivial⟩
                     refine JL.call [] [] [] (jones_Mul.ok (ix t1 a9) t33.1 _ hc121) trivial ?_
                     rintro _ _ ⟨rfl, rfl⟩
                     refine JL.nil ?_
                     refine JY.ran (ba 12 575) [true, true, true, false] ?_
                     refine JY.pur (hi := rfl) 6 (ba 12 639) (.tuple #[mv_25 t120.1, .int .i64 t120.2]) (some 151) want ?_
                     refine JY.pur (hi := rfl) 7 (ba 12 767) (mv_25 t120.1) (some 158) want ?_
                     refine JY.pur (hi := rfl) 8 (ba 12 1023) (.int .i64 t120.2) (some 159) want ?_
                     refine JY.all [10] ⟨⟨_, rfl, ?_⟩, trivial⟩
                     refine JL.store 3 b132 0 25 (cl_25 zv_25) (cl_25 t120.1) tySize_25 ?_
                     refine JL.nil ?_
                     refine JY.ranD (ba 12 2047) ?_
                     refine JY.pur (hi := rfl) 11 (ba 12 4095) (.int .i64 t120.2) (some 31) want ?_
                     refine JY.done ?_
                     refine JQ.then_normal ?_
                     exact JQ.meet (t120.1, t120.2) b132 H0 (fun _ h => Heap.to (Heap.pick [2, 3] (by decide) h))
                 · clear H0
                   rintro ⟨v111, o112⟩ b109 H0
                   replace H0 : law33_JonesLoops.k5 t13 u88 n89 v111 o112 = some r := H0
                   unfold law33_JonesLoops.k5 at H0
                   refine JQ.sub [(13, .bool t13), (28, .pointer (some ⟨b86, 0, none⟩)), (29, .int .i64 n89), (30, .pointer (some ⟨b109, 0, none⟩)), (31, .int .i64 o112)] ?_
                   refine JQ.turn (Δ' := [At.box b86 25 (cl_25 u88), At.box b109 25 (cl_25 v111)]) (fun _ h => h.to) ?_
                   refine J.seq ?_
                   refine J.region ?_
                   refine JL.mv (.bool t13) ?_
                   refine JL.mv (.bool t13) ?_
                   rcases ite_cases H0 with ⟨h113, H0⟩ | ⟨h113, H0⟩
                   · refine JL.on 1 161 h113 ?_
                     refine JL.mv (.int .i64 n89) ?_
                     refine JL.on 1 161 h113 ?_
                     refine JL.pur (.bool (!decide (n89 = 0))) (some 163) ?_
                     refine JL.on 1 161 h113 ?_
                     refine JL.mv (.bool (!decide (n89 = 0))) ?_
                     rcases ite_cases H0 with ⟨h114, H0⟩ | ⟨h114, H0⟩
                     · refine JL.off 4 164 false (some 165) h114 ?_
                       refine JL.off 4 164 false (some 166) h114 ?_
                       refine JL.on 1 161 h113 ?_
                       refine JL.val (.bool true) (some 167) (gives_pickT h114) ?_
                       refine JL.on 1 161 h113 ?_
                       refine JL.mv (.bool true) ?_
                       refine JL.off 8 168 false (some 169) rfl ?_
                       refine JL.off 8 168 false (some 170) rfl ?_
                       refine JL.off 8 168 false (some 171) rfl ?_
                       refine JL.on 1 161 h113 ?_
                       refine JL.val (.bool true) (some 172) (gives_pickT rfl) ?_
                       refine JL.val (.bool true) (some 173) (gives_pickT h113) ?_
                       refine JL.as (.bool true) ?_
                       refine JL.nil ?_
                       refine JQ.then_normal ?_
                       refine JQ.sub [(12, .bool true)] ?_
                       refine JQ.mask [] [false, false] ?_
                       refine J.ret ?_
                       obtain rfl := Option.some.inj H0
                       exact JQ.done' (rs := [.tmp 12]) (vs := [.bool true]) [] (.inr rfl) ⟨by kernel_rfl, trivial⟩ (fun _ h => Heap.to h) ⟨rfl, rfl⟩
                     · refine JL.on 4 164 h114 ?_
                       refine JL.mv (.int .i64 o112) ?_
                       refine JL.on 4 164 h114 ?_
                       refine JL.pur (.bool (!decide (o112 = 0))) (some 166) ?_
                       refine JL.on 1 161 h113 ?_
                       refine JL.val (.bool (!decide (o112 = 0))) (some 167) (gives_pickF h114) ?_
                       refine JL.on 1 161 h113 ?_
                       refine JL.mv (.bool (!decide (o112 = 0))) ?_
                       rcases ite_cases H0 with ⟨h115, H0⟩ | ⟨h115, H0⟩
                       · refine JL.off 8 168 false (some 169) h115 ?_
                         refine JL.off 8 168 false (some 170) h115 ?_
                         refine JL.off 8 168 false (some 171) h115 ?_
                         refine JL.on 1 161 h113 ?_
                         refine JL.val (.bool true) (some 172) (gives_pickT h115) ?_
                         refine JL.val (.bool true) (some 173) (gives_pickT h113) ?_
                         refine JL.as (.bool true) ?_
                         refine JL.nil ?_
                         refine JQ.then_normal ?_
                         refine JQ.sub [(12, .bool true)] ?_
                         refine JQ.mask [] [false, false] ?_
                         refine J.ret ?_
                         obtain rfl := Option.some.inj H0
                         exact JQ.done' (rs := [.tmp 12]) (vs := [.bool true]) [] (.inr rfl) ⟨by kernel_rfl, trivial⟩ (fun _ h => Heap.to h) ⟨rfl, rfl⟩
                       · refine JL.on 8 168 h115 ?_
                         refine JL.val (mv_25 u88) (some 169) (yields_load_boxes 0 0 (cl_25 u88) (holds_box b86 25 (cl_25 u88)) tyAgg_25 tySize_25) ?_
                         refine JL.on 8 168 h115 ?_
                         refine JL.val (mv_25 v111) (some 170) (yields_load_boxes 1 0 (cl_25 v111) (holds_box b109 25 (cl_25 v111)) tyAgg_25 tySize_25) ?_
                         refine JL.on 8 168 h115 ?_
                         refine JL.val (.bool (decide (u88 = v111))) (some 171) (gives_eql eqg_25 (fun w => eqt_25 u88 v111 w)) ?_
                         refine JL.on 1 161 h113 ?_
                         refine JL.val (.bool (decide (u88 = v111))) (some 172) (gives_pickF h115) ?_
                         refine JL.val (.bool (decide (u88 = v111))) (some 173) (gives_pickT h113) ?_
                         refine JL.as (.bool (decide (u88 = v111))) ?_
                         refine JL.nil ?_
                         refine JQ.then_normal ?_
                         refine JQ.sub [(12, .bool (decide (u88 = v111)))] ?_
                         refine JQ.mask [] [false, false] ?_
                         refine J.ret ?_
                         obtain rfl := Option.some.inj H0
                         exact JQ.done' (rs := [.tmp 12]) (vs := [.bool (decide (u88 = v111))]) [] (.inr rfl) ⟨by kernel_rfl, trivial⟩ (fun _ h => Heap.to h) ⟨rfl, rfl⟩
                   · refine JL.off 1 161 true (some 162) h113 ?_
                     refine JL.off 1 161 true (some 163) h113 ?_
                     refine JL.off 1 161 true (some 164) h113 ?_
                     refine JL.off' 4 164 false (some 165) ?_
                     refine JL.off' 4 164 false (some 166) ?_
                     refine JL.off 1 161 true (some 167) h113 ?_
                     refine JL.off 1 161 true (some 168) h113 ?_
                     refine JL.off' 8 168 false (some 169) ?_
                     refine JL.off' 8 168 false (some 170) ?_
                     refine JL.off' 8 168 false (some 171) ?_
                     refine JL.off 1 161 true (some 172) h113 ?_
                     refine JL.val (.bool false) (some 173) (gives_pickF h113) ?_
                     refine JL.as (.bool false) ?_
                     refine JL.nil ?_
                     refine JQ.then_normal ?_
                     refine JQ.sub [(12, .bool false)] ?_
                     refine JQ.mask [] [false, false] ?_
                     refine J.ret ?_
                     obtain rfl := Option.some.inj H0
                     exact JQ.done' (rs := [.tmp 12]) (vs := [.bool false]) [] (.inr rfl) ⟨by kernel_rfl, trivial⟩ (fun _ h => Heap.to h) ⟨rfl, rfl⟩


end Go.Proofs.Ytlfmmenlkpoodaa.M
