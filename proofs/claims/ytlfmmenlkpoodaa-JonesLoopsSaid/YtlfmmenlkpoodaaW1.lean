import Derived.Test.YtlfmmenlkpoodaaW0
set_option linter.unusedVariables false
set_option linter.unusedSimpArgs false
set_option maxRecDepth 100000
set_option maxHeartbeats 8000000
namespace Go.Proofs.Ytlfmmenlkpoodaa.M
open Go.GW Go.Proofs

theorem jones_Act.ok (t1 : (List (A4 Cx))) (Aa2 : Option Addr) (c3 : Nat) (l5 : (List Pol)) (Aa6 : Option Addr) (c7 : Nat) (r : ((List Pol) × Int)) (H0 : jones_Act.f t1 l5 = some r) :
    Does Try.prog 22 [.slice Aa2 t1.length c3, .slice Aa6 l5.length c7].toArray [At.rd Aa2 c3 ((flArr4 fl_Cx).kd) t1 true, At.rd Aa6 c7 fl_Pol.kd l5 true] [] false (fun v Δ => ∃ A1001 : Option Addr, ∃ c1001 : Nat, v = .tuple #[.slice A1001 r.1.length c1001, .int .i64 r.2] ∧ Δ = [At.row A1001 c1001 57 fl_Pol.kd r.1 false]) := by
 refine Does.body (vs := [.slice Aa2 t1.length c3, .slice Aa6 l5.length c7]) Try.func22 rfl ⟨.inl rfl, .inl rfl, trivial⟩ trivial fun w S => ?_
 unfold jones_Act.f at H0
 refine J.seq ?_
 refine J.region ?_
 refine JL.as (.slice none 0 0) ?_
 refine JL.as (.int .i64 0) ?_
 refine JL.nil ?_
 refine JQ.then_normal ?_
 refine JQ.sub [(0, .slice Aa2 t1.length c3), (1, .slice Aa6 l5.length c7)] ?_
 refine J.seq ?_
 refine J.seq ?_
 refine J.region ?_
 refine JL.mv (.slice Aa2 t1.length c3) ?_
 obtain ⟨t9, hc10, H0⟩ := bind_some H0
 refine JL.call [] [] [] (jones_table.ok t1 Aa2 c3 _ hc10) ⟨pre_any 0 (view_rd Aa2 c3 ((flArr4 fl_Cx).kd) t1 true true), trivial⟩ ?_
 rintro _ _ ⟨rfl, rfl⟩
 refine JL.as (.int .i64 t9) ?_
 refine JL.nil ?_
 refine JQ.then_normal ?_
 refine JQ.sub [(0, .slice Aa2 t1.length c3), (1, .slice Aa6 l5.length c7), (6, .int .i64 t9)] ?_
 refine J.seq ?_
 refine J.region ?_
 refine JL.mv (.int .i64 t9) ?_
 refine JL.pur (.bool (!decide (t9 = 0))) (some 16) ?_
 refine JL.nil ?_
 refine JQ.then_normal ?_
 refine JQ.sub [(0, .slice Aa2 t1.length c3), (1, .slice Aa6 l5.length c7), (6, .int .i64 t9), (16, .bool (!decide (t9 = 0)))] ?_
 rcases ite_cases H0 with ⟨h11, H0⟩ | ⟨h11, H0⟩
 · refine J.cond_true h11 ?_
   refine J.seq ?_
   refine J.region ?_
   refine JL.mv (.int .i64 t9) ?_
   refine JL.as (.slice none 0 0) ?_
   refine JL.as (.int .i64 t9) ?_
   refine JL.nil ?_
   refine JQ.then_normal ?_
   refine JQ.sub [(4, .slice none 0 0), (5, .int .i64 t9)] ?_
   refine JQ.mask [] [false, false] ?_
   refine J.ret ?_
   refine JQ.then_ret ?_
   obtain rfl := Option.some.inj H0
   exact JQ.done' (rs := [.tmp 4, .tmp 5]) (vs := [.slice none 0 0, .int .i64 t9]) [At.row none 0 57 fl_Pol.kd ([] : List Pol) false] (.inr rfl) ⟨by kernel_rfl, by kernel_rfl, trivial⟩ (fun _ h => Heap.to (Heap.addRow0 (α := Pol) 57 fl_Pol.kd false h)) ⟨none, 0, rfl, rfl⟩
 · refine J.cond_false h11 ?_
   refine J.skip ?_
   refine JQ.then_normal ?_
   refine JQ.sub [(0, .slice Aa2 t1.length c3), (1, .slice Aa6 l5.length c7)] ?_
   refine J.seq ?_
   refine J.seq ?_
   refine J.region ?_
   refine JL.mv (.slice Aa6 l5.length c7) ?_
   refine JL.mv (.slice Aa2 t1.length c3) ?_
   refine JL.pur (.int .i64 (t1.length : Int)) (some 20) ?_
   obtain ⟨t12, hc13, H0⟩ := bind_some H0
   refine JL.call [] [] [] (jones_seen.ok l5 Aa6 c7 (t1.length : Int) _ hc13) ⟨pre_any 1 (view_rd Aa6 c7 fl_Pol.kd l5 true true), trivial⟩ ?_
   rintro _ _ ⟨rfl, rfl⟩
   refine JL.as (.int .i64 t12) ?_
   refine JL.nil ?_
   refine JQ.then_normal ?_
   refine JQ.sub [(0, .slice Aa2 t1.length c3), (1, .slice Aa6 l5.length c7), (7, .int .i64 t12)] ?_
   refine J.seq ?_
   refine J.region ?_
   refine JL.mv (.int .i64 t12) ?_
   refine JL.pur (.bool (!decide (t12 = 0))) (some 23) ?_
   refine JL.nil ?_
   refine JQ.then_normal ?_
   refine JQ.sub [(0, .slice Aa2 t1.length c3), (1, .slice Aa6 l5.length c7), (7, .int .i64 t12), (23, .bool (!decide (t12 = 0)))] ?_
   rcases ite_cases H0 with ⟨h14, H0⟩ | ⟨h14, H0⟩
   · refine J.cond_true h14 ?_
     refine J.seq ?_
     refine J.region ?_
     refine JL.mv (.int .i64 t12) ?_
     refine JL.as (.slice none 0 0) ?_
     refine JL.as (.int .i64 t12) ?_
     refine JL.nil ?_
     refine JQ.then_normal ?_
     refine JQ.sub [(4, .slice none 0 0), (5, .int .i64 t12)] ?_
     refine JQ.mask [] [false, false] ?_
     refine J.ret ?_
     refine JQ.then_ret ?_
     obtain rfl := Option.some.inj H0
     exact JQ.done' (rs := [.tmp 4, .tmp 5]) (vs := [.slice none 0 0, .int .i64 t12]) [At.row none 0 57 fl_Pol.kd ([] : List Pol) false] (.inr rfl) ⟨by kernel_rfl, by kernel_rfl, trivial⟩ (fun _ h => Heap.to (Heap.addRow0 (α := Pol) 57 fl_Pol.kd false h)) ⟨none, 0, rfl, rfl⟩
   · refine J.cond_false h14 ?_
     refine J.skip ?_
     refine JQ.then_normal ?_
     refine JQ.sub [(0, .slice Aa2 t1.length c3), (1, .slice Aa6 l5.length c7)] ?_
     refine J.seq ?_
     refine J.region ?_
     refine JL.as (.slice none 0 0) ?_
     refine JL.nil ?_
     refine JQ.then_normal ?_
     refine J.seq ?_
     refine J.seq ?_
     refine J.region ?_
     refine JL.mv (.slice Aa6 l5.length c7) ?_
     refine JL.pur (.int .i64 (l5.length : Int)) (some 26) ?_
     refine JL.mv (.int .i64 0) ?_
     refine JL.nil ?_
     refine JQ.then_normal ?_
     refine JQ.sub [(0, .slice Aa2 t1.length c3), (8, .slice none 0 0), (25, .slice Aa6 l5.length c7), (26, .int .i64 (l5.length : Int)), (27, .int .i64 0)] ?_
     obtain ⟨o1, hit, H0⟩ := bind_some H0
     refine J.loop (σ := ((List Pol) × Int)) (τ := List Pol) (G := ((Option Addr) × Nat × (Option Addr) × Nat)) (G' := ((Option Addr) × Nat)) _ o1 (fun s g => [(0, .slice Aa2 t1.length c3), (8, .slice g.1 s.1.length g.2.1), (25, .slice g.2.2.1 l5.length g.2.2.2), (26, .int .i64 (l5.length : Int)), (27, .int .i64 s.2)]) (fun s g => [At.rd Aa2 c3 ((flArr4 fl_Cx).kd) t1 true, At.row g.1 g.2.1 57 fl_Pol.kd s.1 false, At.rd g.2.2.1 g.2.2.2 fl_Pol.kd l5 true]) (fun t => jones_Act.k5 t = some r) (fun t g => [(8, .slice g.1 t.length g.2)]) (fun t g => [At.row g.1 g.2 57 fl_Pol.kd t false]) ([], 0) (none, 0, Aa6, c7) hit (fun _ h => Heap.to (Heap.pick [0, 2, 1] (by decide) (Heap.addRow0 (α := Pol) 57 fl_Pol.kd false h))) ?_ ?_
     · clear hit
       rintro ⟨out234, x241⟩ ⟨Aa235, c236, Aa238, c239⟩ st1 H1 hb1 hr1
       replace H1 : jones_Act.s4 t1 l5 out234 x241 = some st1 := H1
       unfold jones_Act.s4 at H1
       refine JQ.sub [(0, .slice Aa2 t1.length c3), (8, .slice Aa235 out234.length c236), (25, .slice Aa238 l5.length c239), (26, .int .i64 (l5.length : Int)), (27, .int .i64 x241)] ?_
       refine JQ.turn (Δ' := [At.rd Aa2 c3 ((flArr4 fl_Cx).kd) t1 true, At.row Aa235 c236 57 fl_Pol.kd out234 false, At.rd Aa238 c239 fl_Pol.kd l5 true]) (fun _ h => h.to) ?_
       refine J.seq ?_
       refine J.region ?_
       refine JL.pur (.bool (decide (x241 < (l5.length : Int)))) (some 28) ?_
       refine JL.nil ?_
       refine JQ.then_normal ?_
       refine J.seq ?_
       rcases ite_cases H1 with ⟨h347, H1⟩ | ⟨h347, H1⟩
       · refine J.cond_true h347 ?_
         refine J.skip ?_
         refine JQ.then_normal ?_
         refine JQ.sub [(0, .slice Aa2 t1.length c3), (8, .slice Aa235 out234.length c236), (25, .slice Aa238 l5.length c239), (26, .int .i64 (l5.length : Int)), (27, .int .i64 x241)] ?_
         refine J.seq ?_
         refine J.block ?_
         refine J.seq ?_
         refine J.region ?_
         obtain ⟨⟨h348, h349⟩, H1⟩ := ite_must H1
         refine JL.ixAddr 2 15 c239 .i64 (elems_rd Aa238 c239 fl_Pol.kd l5 true) Try.underlying39 tySize_57 h348 h349 fun g350 o351 hA => ?_
         subst hA
         refine JL.val (mv_57 (ix l5 x241)) (some 30) (gives_loadEl (f := fl_Pol) 2 0 x241 (elems_rd (some ⟨g350, o351, none⟩) c239 fl_Pol.kd l5 true) h348 h349 tySize_57 (.inl ⟨tyAgg_57, rfl⟩)) ?_
         refine JL.alloc (cl_57 zv_57) fun b352 => ?_
         refine JL.store 3 b352 0 57 (cl_57 zv_57) (cl_57 (ix l5 x241)) tySize_57 ?_
         refine JL.nil ?_
         refine JQ.then_normal ?_
         refine JQ.sub [(0, .slice Aa2 t1.length c3), (8, .slice Aa235 out234.length c236), (10, .pointer (some ⟨b352, 0, none⟩)), (25, .slice (some ⟨g350, o351, none⟩) l5.length c239), (26, .int .i64 (l5.length : Int)), (27, .int .i64 x241)] ?_
         refine J.join (T := ((A4 Cx) × Int)) (G := Nat) (fun t => jones_Act.k6 l5 out234 x241 t.1 t.2 = some st1) (fun t g => [(0, .slice Aa2 t1.length c3), (8, .slice Aa235 out234.length c236), (10, .pointer (some ⟨b352, 0, none⟩)), (11, .pointer (some ⟨g, 0, none⟩)), (12, .int .i64 t.2), (25, .slice (some ⟨g350, o351, none⟩) l5.length c239), (26, .int .i64 (l5.length : Int)), (27, .int .i64 x241)]) (fun t g => [At.rd Aa2 c3 ((flArr4 fl_Cx).kd) t1 true, At.row Aa235 c236 57 fl_Pol.kd out234 false, At.box b352 57 (cl_57 (ix l5 x241)), At.box g 25 (cl_25 t.1), At.rd (some ⟨g350, o351, none⟩) c239 fl_Pol.kd l5 true]) ?_ ?_
         · obtain ⟨⟨h405, h406⟩, H1⟩ := ite_must H1
           obtain ⟨⟨h409, h410⟩, H1⟩ := ite_must H1
           obtain ⟨t413, hc414, H1⟩ := bind_some H1
           obtain ⟨t416, hc417, H1⟩ := bind_some H1
           refine JQ.openA 0 (elems_rd Aa2 c3 ((flArr4 fl_Cx).kd) t1 true) h405 h406 fun g419 o420 hA => ?_
           subst hA
           refine JY.start [19] (ba 21 0) ?_
           refine JY.pur (hi := rfl) 0 (ba 21 1) (.slice (some ⟨g419, o420, none⟩) t1.length c3) (some 32) want ?_
           refine JY.pur (hi := rfl) 1 (ba 21 3) (.pointer (some ⟨b352, 0, none⟩)) (some 33) want ?_
           refine JY.take (hi := rfl) 2 (ba 21 7) (.int .i64 ((ix l5 x241).I)) (some 34) [true, true, true, true] want (yields_load_box 3 0 (holds_box b352 57 (cl_57 (ix l5 x241))) tyAgg_3) ?_
           obtain ⟨h421, h422⟩ : 0 ≤ (ix l5 x241).I ∧ (ix l5 x241).I < (t1.length : Int) := ⟨h405, h406⟩
           refine JY.puw (hi := rfl) 3 (ba 21 15) (.pointer (some ⟨g419, o420 + ((ix l5 x241).I).toNat * 12, none⟩)) (some 35) want (givesW_ixSl (g := g419) (o := o420) (n := t1.length) (i := (ix l5 x241).I) 12 c3 .i64 Try.underlying38 tySize_25 h421 h422) ?_
           refine JY.take (hi := rfl) 4 (ba 21 31) (mv_25 (ix t1 ((ix l5 x241).I))) (some 36) [true, true, true, true] want (gives_loadEl (f := (flArr4 fl_Cx)) 0 0 ((ix l5 x241).I) (elems_rd (some ⟨g419, o420, none⟩) c3 ((flArr4 fl_Cx).kd) t1 true) h421 h422 tySize_25 (.inl ⟨tyAgg_25, rfl⟩)) ?_
           refine JY.pur (hi := rfl) 5 (ba 21 63) (.pointer (some ⟨b352, 2, none⟩)) (some 37) want ?_
           refine JY.take (hi := rfl) 6 (ba 21 127) (mv_25 ((ix l5 x241).V)) (some 38) [true, true, true, true] want (yields_load_boxes 3 2 (cl_25 ((ix l5 x241).V)) (holds_box b352 57 (cl_57 (ix l5 x241))) tyAgg_25 tySize_25) ?_
           refine JY.pur (hi := rfl) 7 (ba 21 255) (.slice (some ⟨g419, o420, none⟩) t1.length c3) (some 39) want ?_
           refine JY.pur (hi := rfl) 8 (ba 21 511) (.pointer (some ⟨b352, 1, none⟩)) (some 40) want ?_
           refine JY.take (hi := rfl) 9 (ba 21 1023) (.int .i64 ((ix l5 x241).J)) (some 41) [true, true, true, true] want (yields_load_box 3 1 (holds_box b352 57 (cl_57 (ix l5 x241))) tyAgg_3) ?_
           obtain ⟨h425, h426⟩ : 0 ≤ (ix l5 x241).J ∧ (ix l5 x241).J < (t1.length : Int) := ⟨h409, h410⟩
           refine JY.puw (hi := rfl) 10 (ba 21 2047) (.pointer (some ⟨g419, o420 + ((ix l5 x241).J).toNat * 12, none⟩)) (some 42) want (givesW_ixSl (g := g419) (o := o420) (n := t1.length) (i := (ix l5 x241).J) 12 c3 .i64 Try.underlying38 tySize_25 h425 h426) ?_
           refine JY.take (hi := rfl) 11 (ba 21 4095) (mv_25 (ix t1 ((ix l5 x241).J))) (some 43) [true, true, true, true] want (gives_loadEl (f := (flArr4 fl_Cx)) 0 0 ((ix l5 x241).J) (elems_rd (some ⟨g419, o420, none⟩) c3 ((flArr4 fl_Cx).kd) t1 true) h425 h426 tySize_25 (.inl ⟨tyAgg_25, rfl⟩)) ?_
           refine JY.all [12, 18] ⟨⟨_, rfl, ?_⟩, ⟨_, rfl, ?_⟩, trivial⟩
           · refine JL.call [] [] [] (jones_adjoint.ok (ix t1 ((ix l5 x241).J)) _ hc414) trivial ?_
             rintro _ _ ⟨rfl, rfl⟩
             refine JL.nil ?_
             refine JY.ran (ba 21 8191) [true, true, true, true] ?_
             refine JY.all [13, 18] ⟨⟨_, rfl, ?_⟩, ⟨_, rfl, ?_⟩, trivial⟩
             · refine JL.buildSl 25 ((flArr4 fl_Cx).kd) (([(ix t1 ((ix l5 x241).I)), (ix l5 x241).V, t413] : List (A4 Cx)) : List (A4 Cx)) [.int .i64 ((ix t1 ((ix l5 x241).I)).e0.Re), .int .i64 ((ix t1 ((ix l5 x241).I)).e0.Im), .int .i64 ((ix t1 ((ix l5 x241).I)).e0.Den), .int .i64 ((ix t1 ((ix l5 x241).I)).e1.Re), .int .i64 ((ix t1 ((ix l5 x241).I)).e1.Im), .int .i64 ((ix t1 ((ix l5 x241).I)).e1.Den), .int .i64 ((ix t1 ((ix l5 x241).I)).e2.Re), .int .i64 ((ix t1 ((ix l5 x241).I)).e2.Im), .int .i64 ((ix t1 ((ix l5 x241).I)).e2.Den), .int .i64 ((ix t1 ((ix l5 x241).I)).e3.Re), .int .i64 ((ix t1 ((ix l5 x241).I)).e3.Im), .int .i64 ((ix t1 ((ix l5 x241).I)).e3.Den), .int .i64 ((ix l5 x241).V.e0.Re), .int .i64 ((ix l5 x241).V.e0.Im), .int .i64 ((ix l5 x241).V.e0.Den), .int .i64 ((ix l5 x241).V.e1.Re), .int .i64 ((ix l5 x241).V.e1.Im), .int .i64 ((ix l5 x241).V.e1.Den), .int .i64 ((ix l5 x241).V.e2.Re), .int .i64 ((ix l5 x241).V.e2.Im), .int .i64 ((ix l5 x241).V.e2.Den), .int .i64 ((ix l5 x241).V.e3.Re), .int .i64 ((ix l5 x241).V.e3.Im), .int .i64 ((ix l5 x241).V.e3.Den), .int .i64 t413.e0.Re, .int .i64 t413.e0.Im, .int .i64 t413.e0.Den, .int .i64 t413.e1.Re, .int .i64 t413.e1.Im, .int .i64 t413.e1.Den, .int .i64 t413.e2.Re, .int .i64 t413.e2.Im, .int .i64 t413.e2.Den, .int .i64 t413.e3.Re, .int .i64 t413.e3.Im, .int .i64 t413.e3.Den] false (closes_fl rfl) fun b431 => ?_
               refine JL.nil ?_
               refine JY.ran (ba 21 16383) [true, true, true, true, false] ?_
               refine JY.all [14, 18] ⟨⟨_, rfl, ?_⟩, ⟨_, rfl, ?_⟩, trivial⟩
               · refine JL.call [] [] [] (jones_product.ok ([(ix t1 ((ix l5 x241).I)), (ix l5 x241).V, t413] : List (A4 Cx)) (some ⟨b431, 0, none⟩) 3 _ hc417) ⟨pre_view 4 (view_row (some ⟨b431, 0, none⟩) 3 25 ((flArr4 fl_Cx).kd) ([(ix t1 ((ix l5 x241).I)), (ix l5 x241).V, t413] : List (A4 Cx)) false true), trivial⟩ ?_
                 rintro _ _ ⟨rfl, rfl⟩
                 refine JL.nil ?_
                 refine JY.ran (ba 21 32767) [true, true, true, true, false] ?_
                 refine JY.pur (hi := rfl) 15 (ba 21 65535) (.tuple #[mv_25 t416.1, .int .i64 t416.2]) (some 31) want ?_
                 refine JY.pur (hi := rfl) 16 (ba 21 131071) (mv_25 t416.1) (some 47) want ?_
                 refine JY.pur (hi := rfl) 17 (ba 21 262143) (.int .i64 t416.2) (some 48) want ?_
                 refine JY.all [18] ⟨⟨_, rfl, ?_⟩, trivial⟩
                 refine JL.alloc (cl_25 zv_25) fun b434 => ?_
                 refine JL.nil ?_
                 refine JY.ran (ba 21 524287) [true, true, true, true, false, false] ?_
                 refine JY.all [19] ⟨⟨_, rfl, ?_⟩, trivial⟩
                 refine JL.store 5 b434 0 25 (cl_25 zv_25) (cl_25 t416.1) tySize_25 ?_
                 refine JL.nil ?_
                 refine JY.ranD (ba 21 1048575) ?_
                 refine JY.pur (hi := rfl) 20 (ba 21 2097151) (.int .i64 t416.2) (some 12) want ?_
                 refine JY.done ?_
                 refine JQ.then_normal ?_
                 exact JQ.meet (t416.1, t416.2) b434 H1 (fun _ h => Heap.to (Heap.pick [0, 1, 3, 5, 2] (by decide) h))
               · refine JL.alloc (cl_25 zv_25) fun b435 => ?_
                 refine JL.nil ?_
                 refine JY.ran (ba 21 278527) [true, true, true, true, false, false] ?_
                 refine JY.all [14] ⟨⟨_, rfl, ?_⟩, trivial⟩
                 refine JL.call [] [] [] (jones_product.ok ([(ix t1 ((ix l5 x241).I)), (ix l5 x241).V, t413] : List (A4 Cx)) (some ⟨b431, 0, none⟩) 3 _ hc417) ⟨pre_view 4 (view_row (some ⟨b431, 0, none⟩) 3 25 ((flArr4 fl_Cx).kd) ([(ix t1 ((ix l5 x241).I)), (ix l5 x241).V, t413] : List (A4 Cx)) false true), trivial⟩ ?_
                 rintro _ _ ⟨rfl, rfl⟩
                 refine JL.nil ?_
                 refine JY.ran (ba 21 294911) [true, true, true, true, false, false] ?_
                 refine JY.pur (hi := rfl) 15 (ba 21 327679) (.tuple #[mv_25 t416.1, .int .i64 t416.2]) (some 31) want ?_
                 refine JY.pur (hi := rfl) 16 (ba 21 393215) (mv_25 t416.1) (some 47) want ?_
                 refine JY.pur (hi := rfl) 17 (ba 21 524287) (.int .i64 t416.2) (some 48) want ?_
                 refine JY.all [19] ⟨⟨_, rfl, ?_⟩, trivial⟩
                 refine JL.store 5 b435 0 25 (cl_25 zv_25) (cl_25 t416.1) tySize_25 ?_
                 refine JL.nil ?_
                 refine JY.ranD (ba 21 1048575) ?_
                 refine JY.pur (hi := rfl) 20 (ba 21 2097151) (.int .i64 t416.2) (some 12) want ?_
                 refine JY.done ?_
                 refine JQ.then_normal ?_
                 exact JQ.meet (t416.1, t416.2) b435 H1 (fun _ h => Heap.to (Heap.pick [0, 1, 3, 5, 2] (by decide) h))
             · refine JL.alloc (cl_25 zv_25) fun b438 => ?_
               refine JL.nil ?_
               refine JY.ran (ba 21 270335) [true, true, true, true, false] ?_
               refine JY.all [13] ⟨⟨_, rfl, ?_⟩, trivial⟩
               refine JL.buildSl 25 ((flArr4 fl_Cx).kd) (([(ix t1 ((ix l5 x241).I)), (ix l5 x241).V, t413] : List (A4 Cx)) : List (A4 Cx)) [.int .i64 ((ix t1 ((ix l5 x241).I)).e0.Re), .int .i64 ((ix t1 ((ix l5 x241).I)).e0.Im), .int .i64 ((ix t1 ((ix l5 x241).I)).e0.Den), .int .i64 ((ix t1 ((ix l5 x241).I)).e1.Re), .int .i64 ((ix t1 ((ix l5 x241).I)).e1.Im), .int .i64 ((ix t1 ((ix l5 x241).I)).e1.Den), .int .i64 ((ix t1 ((ix l5 x241).I)).e2.Re), .int .i64 ((ix t1 ((ix l5 x241).I)).e2.Im), .int .i64 ((ix t1 ((ix l5 x241).I)).e2.Den), .int .i64 ((ix t1 ((ix l5 x241).I)).e3.Re), .int .i64 ((ix t1 ((ix l5 x241).I)).e3.Im), .int .i64 ((ix t1 ((ix l5 x241).I)).e3.Den), .int .i64 ((ix l5 x241).V.e0.Re), .int .i64 ((ix l5 x241).V.e0.Im), .int .i64 ((ix l5 x241).V.e0.Den), .int .i64 ((ix l5 x241).V.e1.Re), .int .i64 ((ix l5 x241).V.e1.Im), .int .i64 ((ix l5 x241).V.e1.Den), .int .i64 ((ix l5 x241).V.e2.Re), .int .i64 ((ix l5 x241).V.e2.Im), .int .i64 ((ix l5 x241).V.e2.Den), .int .i64 ((ix l5 x241).V.e3.Re), .int .i64 ((ix l5 x241).V.e3.Im), .int .i64 ((ix l5 x241).V.e3.Den), .int .i64 t413.e0.Re, .int .i64 t413.e0.Im, .int .i64 t413.e0.Den, .int .i64 t413.e1.Re, .int .i64 t413.e1.Im, .int .i64 t413.e1.Den, .int .i64 t413.e2.Re, .int .i64 t413.e2.Im, .int .i64 t413.e2.Den, .int .i64 t413.e3.Re, .int .i64 t413.e3.Im, .int .i64 t413.e3.Den] false (closes_fl rfl) fun b439 => ?_
               refine JL.nil ?_
               refine JY.ran (ba 21 278527) [true, true, true, true, false, false] ?_
               refine JY.all [14] ⟨⟨_, rfl, ?_⟩, trivial⟩
               refine JL.call [] [] [] (jones_product.ok ([(ix t1 ((ix l5 x241).I)), (ix l5 x241).V, t413] : List (A4 Cx)) (some ⟨b439, 0, none⟩) 3 _ hc417) ⟨pre_view 5 (view_row (some ⟨b439, 0, none⟩) 3 25 ((flArr4 fl_Cx).kd) ([(ix t1 ((ix l5 x241).I)), (ix l5 x241).V, t413] : List (A4 Cx)) false true), trivial⟩ ?_
               rintro _ _ ⟨rfl, rfl⟩
               refine JL.nil ?_
               refine JY.ran (ba 21 294911) [true, true, true, true, false, false] ?_
               refine JY.pur (hi := rfl) 15 (ba 21 327679) (.tuple #[mv_25 t416.1, .int .i64 t416.2]) (some 31) want ?_
               refine JY.pur (hi := rfl) 16 (ba 21 393215) (mv_25 t416.1) (some 47) want ?_
               refine JY.pur (hi := rfl) 17 (ba 21 524287) (.int .i64 t416.2) (some 48) want ?_
               refine JY.all [19] ⟨⟨_, rfl, ?_⟩, trivial⟩
               refine JL.store 4 b438 0 25 (cl_25 zv_25) (cl_25 t416.1) tySize_25 ?_
               refine JL.nil ?_
               refine JY.ranD (ba 21 1048575) ?_
               refine JY.pur (hi := rfl) 20 (ba 21 2097151) (.int .i64 t416.2) (some 12) want ?_
               refine JY.done ?_
               refine JQ.then_normal ?_
               exact JQ.meet (t416.1, t416.2) b438 H1 (fun _ h => Heap.to (Heap.pick [0, 1, 3, 4, 2] (by decide) h))
           · refine JL.alloc (cl_25 zv_25) fun b442 => ?_
             refine JL.nil ?_
             refine JY.ran (ba 21 266239) [true, true, true, true, false] ?_
             refine JY.all [12] ⟨⟨_, rfl, ?_⟩, trivial⟩
             refine JL.call [] [] [] (jones_adjoint.ok (ix t1 ((ix l5 x241).J)) _ hc414) trivial ?_
             rintro _ _ ⟨rfl, rfl⟩
             refine JL.nil ?_
             refine JY.ran (ba 21 270335) [true, true, true, true, false] ?_
             refine JY.all [13] ⟨⟨_, rfl, ?_⟩, trivial⟩
             refine JL.buildSl 25 ((flArr4 fl_Cx).kd) (([(ix t1 ((ix l5 x241).I)), (ix l5 x241).V, t413] : List (A4 Cx)) : List (A4 Cx)) [.int .i64 ((ix t1 ((ix l5 x241).I)).e0.Re), .int .i64 ((ix t1 ((ix l5 x241).I)).e0.Im), .int .i64 ((ix t1 ((ix l5 x241).I)).e0.Den), .int .i64 ((ix t1 ((ix l5 x241).I)).e1.Re), .int .i64 ((ix t1 ((ix l5 x241).I)).e1.Im), .int .i64 ((ix t1 ((ix l5 x241).I)).e1.Den), .int .i64 ((ix t1 ((ix l5 x241).I)).e2.Re), .int .i64 ((ix t1 ((ix l5 x241).I)).e2.Im), .int .i64 ((ix t1 ((ix l5 x241).I)).e2.Den), .int .i64 ((ix t1 ((ix l5 x241).I)).e3.Re), .int .i64 ((ix t1 ((ix l5 x241).I)).e3.Im), .int .i64 ((ix t1 ((ix l5 x241).I)).e3.Den), .int .i64 ((ix l5 x241).V.e0.Re), .int .i64 ((ix l5 x241).V.e0.Im), .int .i64 ((ix l5 x241).V.e0.Den), .int .i64 ((ix l5 x241).V.e1.Re), .int .i64 ((ix l5 x241).V.e1.Im), .int .i64 ((ix l5 x241).V.e1.Den), .int .i64 ((ix l5 x241).V.e2.Re), .int .i64 ((ix l5 x241).V.e2.Im), .int .i64 ((ix l5 x241).V.e2.Den), .int .i64 ((ix l5 x241).V.e3.Re), .int .i64 ((ix l5 x241).V.e3.Im), .int .i64 ((ix l5 x241).V.e3.Den), .int .i64 t413.e0.Re, .int .i64 t413.e0.Im, .int .i64 t413.e0.Den, .int .i64 t413.e1.Re, .int .i64 t413.e1.Im, .int .i64 t413.e1.Den, .int .i64 t413.e2.Re, .int .i64 t413.e2.Im, .int .i64 t413.e2.Den, .int .i64 t413.e3.Re, .int .i64 t413.e3.Im, .int .i64 t413.e3.Den] false (closes_fl rfl) fun b445 => ?_
             refine JL.nil ?_
             refine JY.ran (ba 21 278527) [true, true, true, true, false, false] ?_
             refine JY.all [14] ⟨⟨_, rfl, ?_⟩, trivial⟩
             refine JL.call [] [] [] (jones_product.ok ([(ix t1 ((ix l5 x241).I)), (ix l5 x241).V, t413] : List (A4 Cx)) (some ⟨b445, 0, none⟩) 3 _ hc417) ⟨pre_view 5 (view_row (some ⟨b445, 0, none⟩) 3 25 ((flArr4 fl_Cx).kd) ([(ix t1 ((ix l5 x241).I)), (ix l5 x241).V, t413] : List (A4 Cx)) false true), trivial⟩ ?_
             rintro _ _ ⟨rfl, rfl⟩
             refine JL.nil ?_
             refine JY.ran (ba 21 294911) [true, true, true, true, false, false] ?_
             refine JY.pur (hi := rfl) 15 (ba 21 327679) (.tuple #[mv_25 t416.1, .int .i64 t416.2]) (some 31) want ?_
             refine JY.pur (hi := rfl) 16 (ba 21 393215) (mv_25 t416.1) (some 47) want ?_
             refine JY.pur (hi := rfl) 17 (ba 21 524287) (.int .i64 t416.2) (some 48) want ?_
             refine JY.all [19] ⟨⟨_, rfl, ?_⟩, trivial⟩
             refine JL.store 4 b442 0 25 (cl_25 zv_25) (cl_25 t416.1) tySize_25 ?_
             refine JL.nil ?_
             refine JY.ranD (ba 21 1048575) ?_
             refine JY.pur (hi := rfl) 20 (ba 21 2097151) (.int .i64 t416.2) (some 12) want ?_
             refine JY.done ?_
             refine JQ.then_normal ?_
             exact JQ.meet (t416.1, t416.2) b442 H1 (fun _ h => Heap.to (Heap.pick [0, 1, 3, 4, 2] (by decide) h))
         · clear H1
           rintro ⟨v398, e399⟩ b396 H1
           replace H1 : jones_Act.k6 l5 out234 x241 v398 e399 = some st1 := H1
           unfold jones_Act.k6 at H1
           refine JQ.sub [(0, .slice Aa2 t1.length c3), (8, .slice Aa235 out234.length c236), (10, .pointer (some ⟨b352, 0, none⟩)), (11, .pointer (some ⟨b396, 0, none⟩)), (12, .int .i64 e399), (25, .slice (some ⟨g350, o351, none⟩) l5.length c239), (26, .int .i64 (l5.length : Int)), (27, .int .i64 x241)] ?_
           refine JQ.turn (Δ' := [At.rd Aa2 c3 ((flArr4 fl_Cx).kd) t1 true, At.row Aa235 c236 57 fl_Pol.kd out234 false, At.box b352 57 (cl_57 (ix l5 x241)), At.box b396 25 (cl_25 v398), At.rd (some ⟨g350, o351, none⟩) c239 fl_Pol.kd l5 true]) (fun _ h => h.to) ?_
           refine J.seq ?_
           refine J.seq ?_
           refine J.region ?_
           refine JL.mv (.int .i64 e399) ?_
           refine JL.pur (.bool (!decide (e399 = 0))) (some 50) ?_
           refine JL.nil ?_
           refine JQ.then_normal ?_
           refine JQ.sub [(0, .slice Aa2 t1.length c3), (8, .slice Aa235 out234.length c236), (10, .pointer (some ⟨b352, 0, none⟩)), (11, .pointer (some ⟨b396, 0, none⟩)), (12, .int .i64 e399), (25, .slice (some ⟨g350, o351, none⟩) l5.length c239), (26, .int .i64 (l5.length : Int)), (27, .int .i64 x241), (50, .bool (!decide (e399 = 0)))] ?_
           rcases ite_cases H1 with ⟨h400, H1⟩ | ⟨h400, H1⟩
           · refine J.cond_true h400 ?_
             refine J.seq ?_
             refine J.region ?_
             refine JL.mv (.int .i64 e399) ?_
             refine JL.as (.slice none 0 0) ?_
             refine JL.as (.int .i64 e399) ?_
             refine JL.nil ?_
             refine JQ.then_normal ?_
             refine JQ.sub [(4, .slice none 0 0), (5, .int .i64 e399)] ?_
             refine JQ.mask [] [false, false, false, false, false] ?_
             refine J.ret ?_
             refine JQ.then_ret ?_
             refine JQ.blk_ret ?_
             refine JQ.then_ret ?_
             refine JQ.then_ret ?_
             refine JQ.blk_ret ?_
             refine JQ.met_ret ?_
             refine JQ.then_ret ?_
             rw [hr1 _ (Option.some.inj H1).symm, fin_ret] at H0
             obtain rfl := Option.some.inj H0
             exact JQ.done' (rs := [.tmp 4, .tmp 5]) (vs := [.slice none 0 0, .int .i64 e399]) [At.row none 0 57 fl_Pol.kd ([] : List Pol) false] (.inr rfl) ⟨by kernel_rfl, by kernel_rfl, trivial⟩ (fun _ h => Heap.to (Heap.addRow0 (α := Pol) 57 fl_Pol.kd false h)) ⟨none, 0, rfl, rfl⟩
           · refine J.cond_false h400 ?_
             refine J.skip ?_
             refine JQ.then_normal ?_
             refine JQ.sub [(0, .slice Aa2 t1.length c3), (8, .slice Aa235 out234.length c236), (10, .pointer (some ⟨b352, 0, none⟩)), (11, .pointer (some ⟨b396, 0, none⟩)), (25, .slice (some ⟨g350, o351, none⟩) l5.length c239), (26, .int .i64 (l5.length : Int)), (27, .int .i64 x241)] ?_
             refine J.seq ?_
             refine J.region ?_
             refine JL.val (mv_25 v398) (some 52) (yields_load_boxes 3 0 (cl_25 v398) (holds_box b396 25 (cl_25 v398)) tyAgg_25 tySize_25) ?_
             refine JL.pur (.pointer (some ⟨b352, 2, none⟩)) (some 53) ?_
             refine JL.store 2 b352 2 57 (cl_57 (ix l5 x241)) [.int .i64 ((ix l5 x241).I), .int .i64 ((ix l5 x241).J), .int .i64 v398.e0.Re, .int .i64 v398.e0.Im, .int .i64 v398.e0.Den, .int .i64 v398.e1.Re, .int .i64 v398.e1.Im, .int .i64 v398.e1.Den, .int .i64 v398.e2.Re, .int .i64 v398.e2.Im, .int .i64 v398.e2.Den, .int .i64 v398.e3.Re, .int .i64 v398.e3.Im, .int .i64 v398.e3.Den, .int .i64 ((ix l5 x241).N)] tySize_25 ?_
             refine JL.nil ?_
             refine JQ.then_normal ?_
             refine JQ.sub [(0, .slice Aa2 t1.length c3), (8, .slice Aa235 out234.length c236), (10, .pointer (some ⟨b352, 0, none⟩)), (25, .slice (some ⟨g350, o351, none⟩) l5.length c239), (26, .int .i64 (l5.length : Int)), (27, .int .i64 x241)] ?_
             refine JQ.mask [At.rd Aa2 c3 ((flArr4 fl_Cx).kd) t1 true, At.row Aa235 c236 57 fl_Pol.kd out234 false, At.box b352 57 [.int .i64 ((ix l5 x241).I), .int .i64 ((ix l5 x241).J), .int .i64 v398.e0.Re, .int .i64 v398.e0.Im, .int .i64 v398.e0.Den, .int .i64 v398.e1.Re, .int .i64 v398.e1.Im, .int .i64 v398.e1.Den, .int .i64 v398.e2.Re, .int .i64 v398.e2.Im, .int .i64 v398.e2.Den, .int .i64 v398.e3.Re, .int .i64 v398.e3.Im, .int .i64 v398.e3.Den, .int .i64 ((ix l5 x241).N)], At.rd (some ⟨g350, o351, none⟩) c239 fl_Pol.kd l5 true] [true, true, true, false, true] ?_
             refine J.region ?_
             refine JL.mv (.slice Aa235 out234.length c236) ?_
             refine JL.val (.agg #[.int .i64 ((ix l5 x241).I), .int .i64 ((ix l5 x241).J), .int .i64 v398.e0.Re, .int .i64 v398.e0.Im, .int .i64 v398.e0.Den, .int .i64 v398.e1.Re, .int .i64 v398.e1.Im, .int .i64 v398.e1.Den, .int .i64 v398.e2.Re, .int .i64 v398.e2.Im, .int .i64 v398.e2.Den, .int .i64 v398.e3.Re, .int .i64 v398.e3.Im, .int .i64 v398.e3.Den, .int .i64 ((ix l5 x241).N)]) (some 55) (yields_load_boxes 2 0 [.int .i64 ((ix l5 x241).I), .int .i64 ((ix l5 x241).J), .int .i64 v398.e0.Re, .int .i64 v398.e0.Im, .int .i64 v398.e0.Den, .int .i64 v398.e1.Re, .int .i64 v398.e1.Im, .int .i64 v398.e1.Den, .int .i64 v398.e2.Re, .int .i64 v398.e2.Im, .int .i64 v398.e2.Den, .int .i64 v398.e3.Re, .int .i64 v398.e3.Im, .int .i64 v398.e3.Den, .int .i64 ((ix l5 x241).N)] (holds_box b352 57 [.int .i64 ((ix l5 x241).I), .int .i64 ((ix l5 x241).J), .int .i64 v398.e0.Re, .int .i64 v398.e0.Im, .int .i64 v398.e0.Den, .int .i64 v398.e1.Re, .int .i64 v398.e1.Im, .int .i64 v398.e1.Den, .int .i64 v398.e2.Re, .int .i64 v398.e2.Im, .int .i64 v398.e2.Den, .int .i64 v398.e3.Re, .int .i64 v398.e3.Im, .int .i64 v398.e3.Den, .int .i64 ((ix l5 x241).N)]) tyAgg_57 tySize_57) ?_
             refine JL.buildSl 57 fl_Pol.kd (([(⟨((ix l5 x241).I), ((ix l5 x241).J), v398, ((ix l5 x241).N)⟩ : Pol)] : List Pol) : List Pol) [.int .i64 ((ix l5 x241).I), .int .i64 ((ix l5 x241).J), .int .i64 v398.e0.Re, .int .i64 v398.e0.Im, .int .i64 v398.e0.Den, .int .i64 v398.e1.Re, .int .i64 v398.e1.Im, .int .i64 v398.e1.Den, .int .i64 v398.e2.Re, .int .i64 v398.e2.Im, .int .i64 v398.e2.Den, .int .i64 v398.e3.Re, .int .i64 v398.e3.Im, .int .i64 v398.e3.Den, .int .i64 ((ix l5 x241).N)] false (closes_fl rfl) fun b401 => ?_
             obtain ⟨h404, H1⟩ := ite_must H1
             refine JL.append false false 1 4 Aa235 c236 1 out234 (elems_row (some ⟨b401, 0, none⟩) 1 57 fl_Pol.kd ([(⟨((ix l5 x241).I), ((ix l5 x241).J), v398, ((ix l5 x241).N)⟩ : Pol)] : List Pol) false) Try.underlying39 info_57 (by omega) (by omega) (fun h => h) (.inr ⟨_, rfl⟩) fun Aa402 c403 => ?_
             refine JL.as (.slice Aa402 (out234 ++ ([(⟨((ix l5 x241).I), ((ix l5 x241).J), v398, ((ix l5 x241).N)⟩ : Pol)] : List Pol)).length c403) ?_
             refine JL.nil ?_
             refine JQ.blk_normal ?_
             refine JQ.then_normal ?_
             refine JQ.sub [(0, .slice Aa2 t1.length c3), (8, .slice Aa402 (out234 ++ ([(⟨((ix l5 x241).I), ((ix l5 x241).J), v398, ((ix l5 x241).N)⟩ : Pol)] : List Pol)).length c403), (25, .slice (some ⟨g350, o351, none⟩) l5.length c239), (26, .int .i64 (l5.length : Int)), (27, .int .i64 x241)] ?_
             refine JQ.mask [At.rd Aa2 c3 ((flArr4 fl_Cx).kd) t1 true, At.row Aa402 c403 57 fl_Pol.kd (out234 ++ ([(⟨((ix l5 x241).I), ((ix l5 x241).J), v398, ((ix l5 x241).N)⟩ : Pol)] : List Pol)) false, At.rd (some ⟨g350, o351, none⟩) c239 fl_Pol.kd l5 true] [true, true, false, true, false] ?_
             refine J.region ?_
             refine JL.pur (.int .i64 (w64 (x241 + 1))) (some 58) ?_
             refine JL.mv (.int .i64 (w64 (x241 + 1))) ?_
             refine JL.nil ?_
             refine JQ.then_normal ?_
             exact JQ.again ((out234 ++ ([(⟨((ix l5 x241).I), ((ix l5 x241).J), v398, ((ix l5 x241).N)⟩ : Pol)] : List Pol)), w64 (x241 + 1)) (Aa402, c403, (some ⟨g350, o351, none⟩), c239) (Option.some.inj H1).symm (fun _ h => Heap.to h)
       · refine J.cond_false h347 ?_
         refine J.exit ?_
         refine JQ.then_exit ?_
         refine JQ.then_exit ?_
         refine JQ.blk_exit ?_
         rw [hb1 _ (Option.some.inj H1).symm, fin_brk] at H0
         exact JQ.met out234 (Aa235, c236) H0 (fun _ h => Heap.to (Heap.pick [1] (by decide) h))
     · clear hit H0
       rintro out343 ⟨Aa344, c345⟩ H0
       replace H0 : jones_Act.k5 out343 = some r := H0
       unfold jones_Act.k5 at H0
       refine JQ.sub [(8, .slice Aa344 out343.length c345)] ?_
       refine JQ.turn (Δ' := [At.row Aa344 c345 57 fl_Pol.kd out343 false]) (fun _ h => h.to) ?_
       refine JQ.then_normal ?_
       refine J.seq ?_
       refine J.region ?_
       refine JL.mv (.slice Aa344 out343.length c345) ?_
       refine JL.as (.slice Aa344 out343.length c345) ?_
       refine JL.as (.int .i64 0) ?_
       refine JL.nil ?_
       refine JQ.then_normal ?_
       refine JQ.sub [(4, .slice Aa344 out343.length c345), (5, .int .i64 0)] ?_
       refine J.ret ?_
       obtain rfl := Option.some.inj H0
       exact JQ.done' (rs := [.tmp 4, .tmp 5]) (vs := [.slice Aa344 out343.length c345, .int .i64 0]) [At.row Aa344 c345 57 fl_Pol.kd out343 false] (.inr rfl) ⟨by kernel_rfl, by kernel_rfl, trivial⟩ (fun _ h => Heap.to h) ⟨Aa344, c345, rfl, rfl⟩

theorem ref33_Same.ok (a1 : (List Pol)) (Aa2 : Option Addr) (c3 : Nat) (b5 : (List Pol)) (Aa6 : Option Addr) (c7 : Nat) (r : Bool) (H0 : ref33_Same.f a1 b5 = some r) :
    Does Try.prog 23 [.slice Aa2 a1.length c3, .slice Aa6 b5.length c7].toArray [At.rd Aa2 c3 fl_Pol.kd a1 true, At.rd Aa6 c7 fl_Pol.kd b5 true] [] false (fun v Δ => v = .bool r ∧ Δ = []) := by
 refine Does.body (vs := [.slice Aa2 a1.length c3, .slice Aa6 b5.length c7]) Try.func23 rfl ⟨.inl rfl, .inl rfl, trivial⟩ trivial fun w S => ?_
 unfold ref33_Same.f at H0
 refine J.seq ?_
 refine J.region ?_
 refine JL.as (.bool false) ?_
 refine JL.nil ?_
 refine JQ.then_normal ?_
 refine JQ.sub [(0, .slice Aa2 a1.length c3), (1, .slice Aa6 b5.length c7)] ?_
 refine J.seq ?_
 refine J.seq ?_
 refine J.region ?_
 refine JL.mv (.slice Aa2 a1.length c3) ?_
 refine JL.pur (.int .i64 (a1.length : Int)) (some 7) ?_
 refine JL.mv (.slice Aa6 b5.length c7) ?_
 refine JL.pur (.int .i64 (b5.length : Int)) (some 9) ?_
 refine JL.pur (.bool (!decide ((a1.length : Int) = (b5.length : Int)))) (some 10) ?_
 refine JL.nil ?_
 refine JQ.then_normal ?_
 refine JQ.sub [(0, .slice Aa2 a1.length c3), (1, .slice Aa6 b5.length c7), (10, .bool (!decide ((a1.length : Int) = (b5.length : Int))))] ?_
 rcases ite_cases H0 with ⟨h9, H0⟩ | ⟨h9, H0⟩
 · refine J.cond_true h9 ?_
   refine J.seq ?_
   refine J.region ?_
   refine JL.as (.bool false) ?_
   refine JL.nil ?_
   refine JQ.then_normal ?_
   refine JQ.sub [(4, .bool false)] ?_
   refine JQ.mask [] [false, false] ?_
   refine J.ret ?_
   refine JQ.then_ret ?_
   obtain rfl := Option.some.inj H0
   exact JQ.done' (rs := [.tmp 4]) (vs := [.bool false]) [] (.inr rfl) ⟨by kernel_rfl, trivial⟩ (fun _ h => Heap.to h) ⟨rfl, rfl⟩
 · refine J.cond_false h9 ?_
   refine J.skip ?_
   refine JQ.then_normal ?_
   refine JQ.sub [(0, .slice Aa2 a1.length c3), (1, .slice Aa6 b5.length c7)] ?_
   refine J.seq ?_
   refine J.seq ?_
   refine J.region ?_
   refine JL.as (.int .i64 0) ?_
   refine JL.nil ?_
   refine JQ.then_normal ?_
   obtain ⟨o1, hit, H0⟩ := bind_some H0
   refine J.loop (σ := Int) (τ := Unit) (G := Unit) (G' := Unit) _ o1 (fun s g => [(0, .slice Aa2 a1.length c3), (1, .slice Aa6 b5.length c7), (5, .int .i64 s)]) (fun s g => [At.rd Aa2 c3 fl_Pol.kd a1 true, At.rd Aa6 c7 fl_Pol.kd b5 true]) (fun t => ref33_Same.k2 = some r) (fun t g => []) (fun t g => []) 0 () hit (fun _ h => Heap.to h) ?_ ?_
   · clear hit
     rintro i32 ⟨⟩ st1 H1 hb1 hr1
     replace H1 : ref33_Same.s1 a1 b5 i32 = some st1 := H1
     unfold ref33_Same.s1 at H1
     refine JQ.sub [(0, .slice Aa2 a1.length c3), (1, .slice Aa6 b5.length c7), (5, .int .i64 i32)] ?_
     refine JQ.turn (Δ' := [At.rd Aa2 c3 fl_Pol.kd a1 true, At.rd Aa6 c7 fl_Pol.kd b5 true]) (fun _ h => h.to) ?_
     refine J.seq ?_
     refine J.seq ?_
     refine J.region ?_
     refine JL.mv (.int .i64 i32) ?_
     refine JL.mv (.slice Aa2 a1.length c3) ?_
     refine JL.pur (.int .i64 (a1.length : Int)) (some 13) ?_
     refine JL.pur (.bool (decide (i32 < (a1.length : Int)))) (some 14) ?_
     refine JL.nil ?_
     refine JQ.then_normal ?_
     refine JQ.sub [(0, .slice Aa2 a1.length c3), (1, .slice Aa6 b5.length c7), (5, .int .i64 i32), (14, .bool (decide (i32 < (a1.length : Int))))] ?_
     rcases ite_cases H1 with ⟨h43, H1⟩ | ⟨h43, H1⟩
     · refine J.cond_true h43 ?_
       refine J.skip ?_
       refine JQ.then_normal ?_
       refine JQ.sub [(0, .slice Aa2 a1.length c3), (1, .slice Aa6 b5.length c7), (5, .int .i64 i32)] ?_
       refine J.seq ?_
       refine J.block ?_
       refine J.seq ?_
       refine J.draw ?_
       refine QL.mv (.slice Aa2 a1.length c3) ?_
       refine QL.mv (.int .i64 i32) ?_
       obtain ⟨⟨h44, h45⟩, H1⟩ := ite_must H1
       refine QL.ixAddr 0 15 c3 .i64 (elems_rd Aa2 c3 fl_Pol.kd a1 true) Try.underlying39 tySize_57 h44 h45 fun g46 o47 hA => ?_
       subst hA
       refine QL.val (mv_57 (ix a1 i32)) (some 20) (gives_loadEl (f := fl_Pol) 0 0 i32 (elems_rd (some ⟨g46, o47, none⟩) c3 fl_Pol.kd a1 true) h44 h45 tySize_57 (.inl ⟨tyAgg_57, rfl⟩)) ?_
       refine QL.mv (.slice Aa6 b5.length c7) ?_
       refine QL.mv (.int .i64 i32) ?_
       obtain ⟨⟨h48, h49⟩, H1⟩ := ite_must H1
       refine QL.ixAddr 1 15 c7 .i64 (elems_rd Aa6 c7 fl_Pol.kd b5 true) Try.underlying39 tySize_57 h48 h49 fun g50 o51 hA => ?_
       subst hA
       refine QL.val (mv_57 (ix b5 i32)) (some 24) (gives_loadEl (f := fl_Pol) 1 0 i32 (elems_rd (some ⟨g50, o51, none⟩) c7 fl_Pol.kd b5 true) h48 h49 tySize_57 (.inl ⟨tyAgg_57, rfl⟩)) ?_
       refine QL.val (.bool (!decide ((ix a1 i32) = (ix b5 i32)))) (some 25) (gives_neq eqg_57 (fun w => eqt_57 (ix a1 i32) (ix b5 i32) w)) ?_
       refine QL.nil ?_
       refine JA.nil ?_
       refine JQ.then_normal ?_
       refine JQ.sub [(0, .slice (some ⟨g46, o47, none⟩) a1.length c3), (1, .slice (some ⟨g50, o51, none⟩) b5.length c7), (5, .int .i64 i32), (25, .bool (!decide ((ix a1 i32) = (ix b5 i32))))] ?_
       rcases ite_cases H1 with ⟨h52, H1⟩ | ⟨h52, H1⟩
       · refine J.cond_true h52 ?_
         refine J.seq ?_
         refine J.region ?_
         refine JL.as (.bool false) ?_
         refine JL.nil ?_
         refine JQ.then_normal ?_
         refine JQ.sub [(4, .bool false)] ?_
         refine JQ.mask [] [false, false] ?_
         refine J.ret ?_
         refine JQ.blk_ret ?_
         refine JQ.then_ret ?_
         refine JQ.then_ret ?_
         refine JQ.blk_ret ?_
         refine JQ.met_ret ?_
         refine JQ.then_ret ?_
         rw [hr1 _ (Option.some.inj H1).symm, fin_ret] at H0
         obtain rfl := Option.some.inj H0
         exact JQ.done' (rs := [.tmp 4]) (vs := [.bool false]) [] (.inr rfl) ⟨by kernel_rfl, trivial⟩ (fun _ h => Heap.to h) ⟨rfl, rfl⟩
       · refine J.cond_false h52 ?_
         refine J.skip ?_
         refine JQ.blk_normal ?_
         refine JQ.then_normal ?_
         refine JQ.sub [(0, .slice (some ⟨g46, o47, none⟩) a1.length c3), (1, .slice (some ⟨g50, o51, none⟩) b5.length c7), (5, .int .i64 i32)] ?_
         refine J.region ?_
         refine JL.mv (.int .i64 i32) ?_
         refine JL.pur (.int .i64 (w64 (i32 + 1))) (some 16) ?_
         refine JL.as (.int .i64 (w64 (i32 + 1))) ?_
         refine JL.nil ?_
         refine JQ.then_normal ?_
         exact JQ.again (w64 (i32 + 1)) () (Option.some.inj H1).symm (fun _ h => Heap.to h)
     · refine J.cond_false h43 ?_
       refine J.exit ?_
       refine JQ.then_exit ?_
       refine JQ.then_exit ?_
       refine JQ.blk_exit ?_
       rw [hb1 _ (Option.some.inj H1).symm, fin_brk] at H0
       exact JQ.met () () H0 (fun _ h => Heap.to (Heap.pick [] (by decide) h))
   · clear hit H0
     rintro ⟨⟩ ⟨⟩ H0
     replace H0 : ref33_Same.k2 = some r := H0
     unfold ref33_Same.k2 at H0
     refine JQ.sub [] ?_
     refine JQ.turn (Δ' := []) (fun _ h => h.to) ?_
     refine JQ.then_normal ?_
     refine J.seq ?_
     refine J.region ?_
     refine JL.as (.bool true) ?_
     refine JL.nil ?_
     refine JQ.then_normal ?_
     refine J.ret ?_
     obtain rfl := Option.some.inj H0
     exact JQ.done' (rs := [.tmp 4]) (vs := [.bool true]) [] (.inr rfl) ⟨by kernel_rfl, trivial⟩ (fun _ h => Heap.to h) ⟨rfl, rfl⟩

theorem law33_alive.ok  (r : Bool) (H0 : law33_alive.f = some r) :
    Does Try.prog 19 [].toArray [] [] false (fun v Δ => v = .bool r ∧ Δ = []) := by
 refine Does.body (vs := []) Try.func19 rfl trivial trivial fun w S => ?_
 unfold law33_alive.f at H0
 refine J.seq ?_
 refine J.region ?_
 refine JL.as (.bool false) ?_
 refine JL.nil ?_
 refine JQ.then_normal ?_
 refine JQ.sub [] ?_
 refine J.seq ?_
 refine J.region ?_
 obtain ⟨t1, hc2, H0⟩ := bind_some H0
 refine JL.call [] [] [] (law33_example.ok _ hc2) trivial ?_
 rintro _ _ ⟨rfl, rfl⟩
 obtain ⟨t3, hc4, H0⟩ := bind_some H0
 refine JL.call [] [] [] (jones_Det.ok t1 _ hc4) trivial ?_
 rintro _ _ ⟨rfl, rfl⟩
 refine JL.mv (.tuple #[mv_23 t3.1, .int .i64 t3.2]) ?_
 refine JL.pur (mv_23 t3.1) (some 14) ?_
 refine JL.pur (.int .i64 t3.2) (some 15) ?_
 refine JL.alloc (cl_23 zv_23) fun b5 => ?_
 refine JL.store 0 b5 0 23 (cl_23 zv_23) (cl_23 t3.1) tySize_23 ?_
 refine JL.as (.int .i64 t3.2) ?_
 refine JL.nil ?_
 refine JQ.then_normal ?_
 refine JQ.sub [(1, .pointer (some ⟨b5, 0, none⟩)), (2, .int .i64 t3.2)] ?_
 refine J.seq ?_
 refine J.region ?_
 obtain ⟨t6, hc7, H0⟩ := bind_some H0
 refine JL.call [] [] [] (law33_example.ok _ hc7) trivial ?_
 rintro _ _ ⟨rfl, rfl⟩
 obtain ⟨t8, hc9, H0⟩ := bind_some H0
 refine JL.call [] [] [] (jones_Trace.ok t6 _ hc9) trivial ?_
 rintro _ _ ⟨rfl, rfl⟩
 refine JL.mv (.tuple #[mv_23 t8.1, .int .i64 t8.2]) ?_
 refine JL.pur (mv_23 t8.1) (some 19) ?_
 refine JL.pur (.int .i64 t8.2) (some 20) ?_
 refine JL.alloc (cl_23 zv_23) fun b10 => ?_
 refine JL.store 1 b10 0 23 (cl_23 zv_23) (cl_23 t8.1) tySize_23 ?_
 refine JL.as (.int .i64 t8.2) ?_
 refine JL.nil ?_
 refine JQ.then_normal ?_
 refine JQ.sub [(1, .pointer (some ⟨b5, 0, none⟩)), (2, .int .i64 t3.2), (3, .pointer (some ⟨b10, 0, none⟩)), (4, .int .i64 t8.2)] ?_
 refine J.seq ?_
 refine J.region ?_
 obtain ⟨t11, hc12, H0⟩ := bind_some H0
 refine JL.call [] [] [] (law33_example.ok _ hc12) trivial ?_
 rintro _ _ ⟨rfl, rfl⟩
 obtain ⟨t13, hc14, H0⟩ := bind_some H0
 refine JL.call [] [] [] (jones_Adjoint.ok t11 _ hc14) trivial ?_
 rintro _ _ ⟨rfl, rfl⟩
 refine JL.mv (.tuple #[mv_25 t13.1, .int .i64 t13.2]) ?_
 refine JL.pur (mv_25 t13.1) (some 24) ?_
 refine JL.pur (.int .i64 t13.2) (some 25) ?_
 refine JL.alloc (cl_25 zv_25) fun b15 => ?_
 refine JL.store 2 b15 0 25 (cl_25 zv_25) (cl_25 t13.1) tySize_25 ?_
 refine JL.as (.int .i64 t13.2) ?_
 refine JL.nil ?_
 refine JQ.then_normal ?_
 refine JQ.sub [(1, .pointer (some ⟨b5, 0, none⟩)), (2, .int .i64 t3.2), (3, .pointer (some ⟨b10, 0, none⟩)), (4, .int .i64 t8.2), (5, .pointer (some ⟨b15, 0, none⟩)), (6, .int .i64 t13.2)] ?_
 refine J.seq ?_
 refine J.region ?_
 obtain ⟨t16, hc17, H0⟩ := bind_some H0
 refine JL.call [] [] [] (law33_example.ok _ hc17) trivial ?_
 rintro _ _ ⟨rfl, rfl⟩
 obtain ⟨t18, hc19, H0⟩ := bind_some H0
 refine JL.call [] [] [] (jones_Inv.ok t16 _ hc19) trivial ?_
 rintro _ _ ⟨rfl, rfl⟩
 refine JL.mv (.tuple #[mv_25 t18.1, .int .i64 t18.2]) ?_
 refine JL.pur (mv_25 t18.1) (some 29) ?_
 refine JL.pur (.int .i64 t18.2) (some 30) ?_
 refine JL.alloc (cl_25 zv_25) fun b20 => ?_
 refine JL.store 3 b20 0 25 (cl_25 zv_25) (cl_25 t18.1) tySize_25 ?_
 refine JL.as (.int .i64 t18.2) ?_
 refine JL.nil ?_
 refine JQ.then_normal ?_
 refine JQ.sub [(1, .pointer (some ⟨b5, 0, none⟩)), (2, .int .i64 t3.2), (3, .pointer (some ⟨b10, 0, none⟩)), (4, .int .i64 t8.2), (5, .pointer (some ⟨b15, 0, none⟩)), (6, .int .i64 t13.2), (7, .pointer (some ⟨b20, 0, none⟩)), (8, .int .i64 t18.2)] ?_
 refine J.seq ?_
 refine J.region ?_
 obtain ⟨t21, hc22, H0⟩ := bind_some H0
 refine JL.call [] [] [] (law33_whole.ok 0 1 1 0 _ hc22) trivial ?_
 rintro _ _ ⟨rfl, rfl⟩
 obtain ⟨t23, hc24, H0⟩ := bind_some H0
 refine JL.call [] [] [] (law33_whole.ok 1 0 0 1 _ hc24) trivial ?_
 rintro _ _ ⟨rfl, rfl⟩
 refine JL.buildSl 25 ((flArr4 fl_Cx).kd) (([t21, t23] : List (A4 Cx)) : List (A4 Cx)) [.int .i64 t21.e0.Re, .int .i64 t21.e0.Im, .int .i64 t21.e0.Den, .int .i64 t21.e1.Re, .int .i64 t21.e1.Im, .int .i64 t21.e1.Den, .int .i64 t21.e2.Re, .int .i64 t21.e2.Im, .int .i64 t21.e2.Den, .int .i64 t21.e3.Re, .int .i64 t21.e3.Im, .int .i64 t21.e3.Den, .int .i64 t23.e0.Re, .int .i64 t23.e0.Im, .int .i64 t23.e0.Den, .int .i64 t23.e1.Re, .int .i64 t23.e1.Im, .int .i64 t23.e1.Den, .int .i64 t23.e2.Re, .int .i64 t23.e2.Im, .int .i64 t23.e2.Den, .int .i64 t23.e3.Re, .int .i64 t23.e3.Im, .int .i64 t23.e3.Den] false (closes_fl rfl) fun b25 => ?_
 obtain ⟨t26, hc27, H0⟩ := bind_some H0
 refine JL.call [] [] [] (law33_whole.ok 1 2 3 4 _ hc27) trivial ?_
 rintro _ _ ⟨rfl, rfl⟩
 refine JL.pur (.agg #[.int .i64 0, .int .i64 1, .int .i64 t26.e0.Re, .int .i64 t26.e0.Im, .int .i64 t26.e0.Den, .int .i64 t26.e1.Re, .int .i64 t26.e1.Im, .int .i64 t26.e1.Den, .int .i64 t26.e2.Re, .int .i64 t26.e2.Im, .int .i64 t26.e2.Den, .int .i64 t26.e3.Re, .int .i64 t26.e3.Im, .int .i64 t26.e3.Den, .int .i64 2]) (some 36) ?_
 refine JL.buildSl 57 fl_Pol.kd (([(⟨0, 1, t26, 2⟩ : Pol)] : List Pol) : List Pol) [.int .i64 0, .int .i64 1, .int .i64 t26.e0.Re, .int .i64 t26.e0.Im, .int .i64 t26.e0.Den, .int .i64 t26.e1.Re, .int .i64 t26.e1.Im, .int .i64 t26.e1.Den, .int .i64 t26.e2.Re, .int .i64 t26.e2.Im, .int .i64 t26.e2.Den, .int .i64 t26.e3.Re, .int .i64 t26.e3.Im, .int .i64 t26.e3.Den, .int .i64 2] false (closes_fl rfl) fun b28 => ?_
 obtain ⟨t29, hc30, H0⟩ := bind_some H0
 refine JL.call [] [] [] (jones_Act.ok ([t21, t23] : List (A4 Cx)) (some ⟨b25, 0, none⟩) 2 ([(⟨0, 1, t26, 2⟩ : Pol)] : List Pol) (some ⟨b28, 0, none⟩) 1 _ hc30) ⟨pre_view 4 (view_row (some ⟨b25, 0, none⟩) 2 25 ((flArr4 fl_Cx).kd) ([t21, t23] : List (A4 Cx)) false true), ⟨pre_view 5 (view_row (some ⟨b28, 0, none⟩) 1 57 fl_Pol.kd ([(⟨0, 1, t26, 2⟩ : Pol)] : List Pol) false true), trivial⟩⟩ ?_
 rintro _ _ ⟨Aa31, c32, rfl, rfl⟩
 refine JL.mv (.tuple #[.slice Aa31 t29.1.length c32, .int .i64 t29.2]) ?_
 refine JL.pur (.slice Aa31 t29.1.length c32) (some 39) ?_
 refine JL.pur (.int .i64 t29.2) (some 40) ?_
 refine JL.as (.slice Aa31 t29.1.length c32) ?_
 refine JL.as (.int .i64 t29.2) ?_
 refine JL.nil ?_
 refine JQ.then_normal ?_
 refine JQ.sub [(1, .pointer (some ⟨b5, 0, none⟩)), (2, .int .i64 t3.2), (3, .pointer (some ⟨b10, 0, none⟩)), (4, .int .i64 t8.2), (5, .pointer (some ⟨b15, 0, none⟩)), (6, .int .i64 t13.2), (7, .pointer (some ⟨b20, 0, none⟩)), (8, .int .i64 t18.2), (9, .slice Aa31 t29.1.length c32), (10, .int .i64 t29.2)] ?_
 refine JQ.mask [At.box b5 23 (cl_23 t3.1), At.box b10 23 (cl_23 t8.1), At.box b15 25 (cl_25 t13.1), At.box b20 25 (cl_25 t18.1), At.row Aa31 c32 57 fl_Pol.kd t29.1 false] [true, true, true, true, false, false, true] ?_
 refine J.seq ?_
 rcases ite_cases H0 with ⟨h34, H0⟩ | ⟨h34, H0⟩
 · obtain ⟨t35, hc36, H0⟩ := bind_some H0
   rcases ite_cases H0 with ⟨h37, H0⟩ | ⟨h37, H0⟩
   · rcases ite_cases H0 with ⟨h38, H0⟩ | ⟨h38, H0⟩
     · obtain ⟨t39, hc40, H0⟩ := bind_some H0
       rcases ite_cases H0 with ⟨h41, H0⟩ | ⟨h41, H0⟩
       · rcases ite_cases H0 with ⟨h42, H0⟩ | ⟨h42, H0⟩
         · obtain ⟨t43, hc44, H0⟩ := bind_some H0
           obtain ⟨t45, hc46, H0⟩ := bind_some H0
           obtain ⟨t47, hc48, H0⟩ := bind_some H0
           obtain ⟨t49, hc50, H0⟩ := bind_some H0
           rcases ite_cases H0 with ⟨h51, H0⟩ | ⟨h51, H0⟩
           · rcases ite_cases H0 with ⟨h52, H0⟩ | ⟨h52, H0⟩
             · obtain ⟨t53, hc54, H0⟩ := bind_some H0
               obtain ⟨t55, hc56, H0⟩ := bind_some H0
               obtain ⟨t57, hc58, H0⟩ := bind_some H0
               obtain ⟨t59, hc60, H0⟩ := bind_some H0
               rcases ite_cases H0 with ⟨h61, H0⟩ | ⟨h61, H0⟩
               · rcases ite_cases H0 with ⟨h62, H0⟩ | ⟨h62, H0⟩
                 · obtain ⟨t63, hc64, H0⟩ := bind_some H0
                   obtain ⟨t66, hc67, H0⟩ := bind_some H0
                   refine JY.start [] (ba 54 0) ?_
                   refine JY.pur (hi := rfl) 0 (ba 54 1) (.int .i64 t3.2) (some 41) want ?_
                   refine JY.pur (hi := rfl) 1 (ba 54 3) (.bool (decide (t3.2 = 0))) (some 42) want ?_
                   refine JY.pur (hi := rfl) 2 (ba 54 7) (.bool (decide (t3.2 = 0))) (some 43) want ?_
                   refine JY.takeG 3 (ba 54 15) (mv_23 t3.1) (some 44) [true, true, true, true, true] rfl (wantOn 2 43 h34) (yields_load_boxes 0 0 (cl_23 t3.1) (holds_box b5 23 (cl_23 t3.1)) tyAgg_23 tySize_23) ?_
                   refine JY.all [4] ⟨⟨_, rfl, ?_⟩, trivial⟩
                   refine JL.on 2 43 h34 ?_
                   refine JL.call [] [] [] (law33_of.ok 2 0 1 _ hc36) trivial ?_
                   rintro _ _ ⟨rfl, rfl⟩
                   refine JL.nil ?_
                   refine JY.ran (ba 54 31) [true, true, true, true, true] ?_
                   refine JY.takeG 5 (ba 54 63) (.bool (decide (t3.1 = t35))) (some 46) [true, true, true, true, true] rfl (wantOn 2 43 h34) (gives_eql eqg_23 (fun w => eqt_23 t3.1 t35 w)) ?_
                   refine JY.puw (hi := rfl) 6 (ba 54 127) (.bool (decide (t3.1 = t35))) (some 47) want (givesW_pickT h34) ?_
                   refine JY.pur (hi := rfl) 7 (ba 54 255) (.bool (decide (t3.1 = t35))) (some 48) want ?_
                   refine JY.pur (hi := rfl) 8 (ba 54 511) (.int .i64 t8.2) (some 49) (wantOn 7 48 h37) ?_
                   refine JY.pur (hi := rfl) 9 (ba 54 1023) (.bool (decide (t8.2 = 0))) (some 50) (wantOn 7 48 h37) ?_
                   refine JY.puw (hi := rfl) 10 (ba 54 2047) (.bool (decide (t8.2 = 0))) (some 51) want (givesW_pickT h37) ?_
                   refine JY.pur (hi := rfl) 11 (ba 54 4095) (.bool (decide (t8.2 = 0))) (some 52) want ?_
                   refine JY.takeG 12 (ba 54 8191) (mv_23 t8.1) (some 53) [true, true, true, true, true] rfl (wantOn 11 52 h38) (yields_load_boxes 1 0 (cl_23 t8.1) (holds_box b10 23 (cl_23 t8.1)) tyAgg_23 tySize_23) ?_
                   refine JY.all [13] ⟨⟨_, rfl, ?_⟩, trivial⟩
                   refine JL.on 11 52 h38 ?_
                   refine JL.call [] [] [] (law33_of.ok 3 0 1 _ hc40) trivial ?_
                   rintro _ _ ⟨rfl, rfl⟩
                   refine JL.nil ?_
                   refine JY.ran (ba 54 16383) [true, true, true, true, true] ?_
                   refine JY.takeG 14 (ba 54 32767) (.bool (decide (t8.1 = t39))) (some 55) [true, true, true, true, true] rfl (wantOn 11 52 h38) (gives_eql eqg_23 (fun w => eqt_23 t8.1 t39 w)) ?_
                   refine JY.puw (hi := rfl) 15 (ba 54 65535) (.bool (decide (t8.1 = t39))) (some 56) want (givesW_pickT h38) ?_
                   refine JY.pur (hi := rfl) 16 (ba 54 131071) (.bool (decide (t8.1 = t39))) (some 57) want ?_
                   refine JY.pur (hi := rfl) 17 (ba 54 262143) (.int .i64 t13.2) (some 58) (wantOn 16 57 h41) ?_
                   refine JY.pur (hi := rfl) 18 (ba 54 524287) (.bool (decide (t13.2 = 0))) (some 59) (wantOn 16 57 h41) ?_
                   refine JY.puw (hi := rfl) 19 (ba 54 1048575) (.bool (decide (t13.2 = 0))) (some 60) want (givesW_pickT h41) ?_
                   refine JY.pur (hi := rfl) 20 (ba 54 2097151) (.bool (decide (t13.2 = 0))) (some 61) want ?_
                   refine JY.takeG 21 (ba 54 4194303) (mv_25 t13.1) (some 62) [true, true, true, true, true] rfl (wantOn 20 61 h42) (yields_load_boxes 2 0 (cl_25 t13.1) (holds_box b15 25 (cl_25 t13.1)) tyAgg_25 tySize_25) ?_
                   refine JY.all [22] ⟨⟨_, rfl, ?_⟩, trivial⟩
                   refine JL.on 20 61 h42 ?_
                   refine JL.call [] [] [] (law33_of.ok 1 0 1 _ hc44) trivial ?_
                   rintro _ _ ⟨rfl, rfl⟩
                   refine JL.nil ?_
                   refine JY.ran (ba 54 8388607) [true, true, true, true, true] ?_
                   refine JY.all [23] ⟨⟨_, rfl, ?_⟩, trivial⟩
                   refine JL.on 20 61 h42 ?_
                   refine JL.call [] [] [] (law33_of.ok 0 0 1 _ hc46) trivial ?_
                   rintro _ _ ⟨rfl, rfl⟩
                   refine JL.nil ?_
                   refine JY.ran (ba 54 16777215) [true, true, true, true, true] ?_
                   refine JY.all [24] ⟨⟨_, rfl, ?_⟩, trivial⟩
                   refine JL.on 20 61 h42 ?_
                   refine JL.call [] [] [] (law33_of.ok 0 (-1) 1 _ hc48) trivial ?_
                   rintro _ _ ⟨rfl, rfl⟩
                   refine JL.nil ?_
                   refine JY.ran (ba 54 33554431) [true, true, true, true, true] ?_
                   refine JY.all [25] ⟨⟨_, rfl, ?_⟩, trivial⟩
                   refine JL.on 20 61 h42 ?_
                   refine JL.call [] [] [] (law33_of.ok 2 0 1 _ hc50) trivial ?_
                   rintro _ _ ⟨rfl, rfl⟩
                   refine JL.nil ?_
                   refine JY.ran (ba 54 67108863) [true, true, true, true, true] ?_
                   refine JY.pur (hi := rfl) 26 (ba 54 134217727) (.agg #[.int .i64 t43.Re, .int .i64 t43.Im, .int .i64 t43.Den, .int .i64 t45.Re, .int .i64 t45.Im, .int .i64 t45.Den, .int .i64 t47.Re, .int .i64 t47.Im, .int .i64 t47.Den, .int .i64 t49.Re, .int .i64 t49.Im, .int .i64 t49.Den]) (some 67) (wantOn 20 61 h42) ?_
                   refine JY.takeG 27 (ba 54 268435455) (.bool (decide (t13.1 = (⟨t43, t45, t47, t49⟩ : (A4 Cx))))) (some 68) [true, true, true, true, true] rfl (wantOn 20 61 h42) (gives_eql eqg_25 (fun w => eqt_25 t13.1 (⟨t43, t45, t47, t49⟩ : (A4 Cx)) w)) ?_
                   refine JY.puw (hi := rfl) 28 (ba 54 536870911) (.bool (decide (t13.1 = (⟨t43, t45, t47, t49⟩ : (A4 Cx))))) (some 69) want (givesW_pickT h42) ?_
                   refine JY.pur (hi := rfl) 29 (ba 54 1073741823) (.bool (decide (t13.1 = (⟨t43, t45, t47, t49⟩ : (A4 Cx))))) (some 70) want ?_
                   refine JY.pur (hi := rfl) 30 (ba 54 2147483647) (.int .i64 t18.2) (some 71) (wantOn 29 70 h51) ?_
                   refine JY.pur (hi := rfl) 31 (ba 54 4294967295) (.bool (decide (t18.2 = 0))) (some 72) (wantOn 29 70 h51) ?_
                   refine JY.puw (hi := rfl) 32 (ba 54 8589934591) (.bool (decide (t18.2 = 0))) (some 73) want (givesW_pickT h51) ?_
                   refine JY.pur (hi := rfl) 33 (ba 54 17179869183) (.bool (decide (t18.2 = 0))) (some 74) want ?_
                   refine JY.takeG 34 (ba 54 34359738367) (mv_25 t18.1) (some 75) [true, true, true, true, true] rfl (wantOn 33 74 h52) (yields_load_boxes 3 0 (cl_25 t18.1) (holds_box b20 25 (cl_25 t18.1)) tyAgg_25 tySize_25) ?_
                   refine JY.all [35] ⟨⟨_, rfl, ?_⟩, trivial⟩
                   refine JL.on 33 74 h52 ?_
                   refine JL.call [] [] [] (law33_of.ok 1 0 1 _ hc54) trivial ?_
                   rintro _ _ ⟨rfl, rfl⟩
                   refine JL.nil ?_
                   refine JY.ran (ba 54 68719476735) [true, true, true, true, true] ?_
                   refine JY.all [36] ⟨⟨_, rfl, ?_⟩, trivial⟩
                   refine JL.on 33 74 h52 ?_
                   refine JL.call [] [] [] (law33_of.ok 0 (-1) 2 _ hc56) trivial ?_
                   rintro _ _ ⟨rfl, rfl⟩
                   refine JL.nil ?_
                   refine JY.ran (ba 54 137438953471) [true, true, true, true, true] ?_
                   refine JY.all [37] ⟨⟨_, rfl, ?_⟩, trivial⟩
                   refine JL.on 33 74 h52 ?_
                   refine JL.call [] [] [] (law33_of.ok 0 0 1 _ hc58) trivial ?_
                   rintro _ _ ⟨rfl, rfl⟩
                   refine JL.nil ?_
                   refine JY.ran (ba 54 274877906943) [true, true, true, true, true] ?_
                   refine JY.all [38] ⟨⟨_, rfl, ?_⟩, trivial⟩
                   refine JL.on 33 74 h52 ?_
                   refine JL.call [] [] [] (law33_of.ok 1 0 2 _ hc60) trivial ?_
                   rintro _ _ ⟨rfl, rfl⟩
                   refine JL.nil ?_
                   refine JY.ran (ba 54 549755813887) [true, true, true, true, true] ?_
                   refine JY.pur (hi := rfl) 39 (ba 54 1099511627775) (.agg #[.int .i64 t53.Re, .int .i64 t53.Im, .int .i64 t53.Den, .int .i64 t55.Re, .int .i64 t55.Im, .int .i64 t55.Den, .int .i64 t57.Re, .int .i64 t57.Im, .int .i64 t57.Den, .int .i64 t59.Re, .int .i64 t59.Im, .int .i64 t59.Den]) (some 80) (wantOn 33 74 h52) ?_
                   refine JY.takeG 40 (ba 54 2199023255551) (.bool (decide (t18.1 = (⟨t53, t55, t57, t59⟩ : (A4 Cx))))) (some 81) [true, true, true, true, true] rfl (wantOn 33 74 h52) (gives_eql eqg_25 (fun w => eqt_25 t18.1 (⟨t53, t55, t57, t59⟩ : (A4 Cx)) w)) ?_
                   refine JY.puw (hi := rfl) 41 (ba 54 4398046511103) (.bool (decide (t18.1 = (⟨t53, t55, t57, t59⟩ : (A4 Cx))))) (some 82) want (givesW_pickT h52) ?_
                   refine JY.pur (hi := rfl) 42 (ba 54 8796093022207) (.bool (decide (t18.1 = (⟨t53, t55, t57, t59⟩ : (A4 Cx))))) (some 83) want ?_
                   refine JY.pur (hi := rfl) 43 (ba 54 17592186044415) (.int .i64 t29.2) (some 84) (wantOn 42 83 h61) ?_
                   refine JY.pur (hi := rfl) 44 (ba 54 35184372088831) (.bool (decide (t29.2 = 0))) (some 85) (wantOn 42 83 h61) ?_
                   refine JY.puw (hi := rfl) 45 (ba 54 70368744177663) (.bool (decide (t29.2 = 0))) (some 86) want (givesW_pickT h61) ?_
                   refine JY.pur (hi := rfl) 46 (ba 54 140737488355327) (.bool (decide (t29.2 = 0))) (some 87) want ?_
                   refine JY.pur (hi := rfl) 47 (ba 54 281474976710655) (.slice Aa31 t29.1.length c32) (some 88) (wantOn 46 87 h62) ?_
                   refine JY.all [48] ⟨⟨_, rfl, ?_⟩, trivial⟩
                   refine JL.on 46 87 h62 ?_
                   refine JL.call [] [] [] (law33_whole.ok 3 4 1 2 _ hc64) trivial ?_
                   rintro _ _ ⟨rfl, rfl⟩
                   refine JL.nil ?_
                   refine JY.ran (ba 54 562949953421311) [true, true, true, true, true] ?_
                   refine JY.pur (hi := rfl) 49 (ba 54 1125899906842623) (.agg #[.int .i64 0, .int .i64 1, .int .i64 t63.e0.Re, .int .i64 t63.e0.Im, .int .i64 t63.e0.Den, .int .i64 t63.e1.Re, .int .i64 t63.e1.Im, .int .i64 t63.e1.Den, .int .i64 t63.e2.Re, .int .i64 t63.e2.Im, .int .i64 t63.e2.Den, .int .i64 t63.e3.Re, .int .i64 t63.e3.Im, .int .i64 t63.e3.Den, .int .i64 2]) (some 90) (wantOn 46 87 h62) ?_
                   refine JY.all [50] ⟨⟨_, rfl, ?_⟩, trivial⟩
                   refine JL.on 46 87 h62 ?_
                   refine JL.buildSl 57 fl_Pol.kd (([(⟨0, 1, t63, 2⟩ : Pol)] : List Pol) : List Pol) [.int .i64 0, .int .i64 1, .int .i64 t63.e0.Re, .int .i64 t63.e0.Im, .int .i64 t63.e0.Den, .int .i64 t63.e1.Re, .int .i64 t63.e1.Im, .int .i64 t63.e1.Den, .int .i64 t63.e2.Re, .int .i64 t63.e2.Im, .int .i64 t63.e2.Den, .int .i64 t63.e3.Re, .int .i64 t63.e3.Im, .int .i64 t63.e3.Den, .int .i64 2] false (closes_fl rfl) fun b90 => ?_
                   refine JL.nil ?_
                   refine JY.ran (ba 54 2251799813685247) [true, true, true, true, true, false] ?_
                   refine JY.all [51] ⟨⟨_, rfl, ?_⟩, trivial⟩
                   refine JL.on 46 87 h62 ?_
                   refine JL.call [] [] [] (ref33_Same.ok t29.1 Aa31 c32 ([(⟨0, 1, t63, 2⟩ : Pol)] : List Pol) (some ⟨b90, 0, none⟩) 1 _ hc67) ⟨pre_view 4 (view_row Aa31 c32 57 fl_Pol.kd t29.1 false true), ⟨pre_view 5 (view_row (some ⟨b90, 0, none⟩) 1 57 fl_Pol.kd ([(⟨0, 1, t63, 2⟩ : Pol)] : List Pol) false true), trivial⟩⟩ ?_
                   rintro _ _ ⟨rfl, rfl⟩
                   refine JL.nil ?_
                   refine JY.ran (ba 54 4503599627370495) [true, true, true, true, true, false] ?_
                   refine JY.puw (hi := rfl) 52 (ba 54 9007199254740991) (.bool t66) (some 93) want (givesW_pickT h62) ?_
                   refine JY.pur (hi := rfl) 53 (ba 54 18014398509481983) (.bool t66) (some 0) want ?_
                   refine JY.done ?_
                   refine JQ.then_normal ?_
                   refine JQ.sub [(0, .bool t66)] ?_
                   refine JQ.mask [] [false, false, false, false, false, false] ?_
                   refine J.ret ?_
                   obtain rfl := Option.some.inj H0
                   exact JQ.done' (rs := [.tmp 0]) (vs := [.bool t66]) [] (.inr rfl) ⟨by kernel_rfl, trivial⟩ (fun _ h => Heap.to h) ⟨rfl, rfl⟩
                 · refine JY.start [] (ba 54 0) ?_
                   refine JY.pur (hi := rfl) 0 (ba 54 1) (.int .i64 t3.2) (some 41) want ?_
                   refine JY.pur (hi := rfl) 1 (ba 54 3) (.bool (decide (t3.2 = 0))) (some 42) want ?_
                   refine JY.pur (hi := rfl) 2 (ba 54 7) (.bool (decide (t3.2 = 0))) (some 43) want ?_
                   refine JY.takeG 3 (ba 54 15) (mv_23 t3.1) (some 44) [true, true, true, true, true] rfl (wantOn 2 43 h34) (yields_load_boxes 0 0 (cl_23 t3.1) (holds_box b5 23 (cl_23 t3.1)) tyAgg_23 tySize_23) ?_
                   refine JY.all [4] ⟨⟨_, rfl, ?_⟩, trivial⟩
                   refine JL.on 2 43 h34 ?_
                   refine JL.call [] [] [] (law33_of.ok 2 0 1 _ hc36) trivial ?_
                   rintro _ _ ⟨rfl, rfl⟩
                   refine JL.nil ?_
                   refine JY.ran (ba 54 31) [true, true, true, true, true] ?_
                   refine JY.takeG 5 (ba 54 63) (.bool (decide (t3.1 = t35))) (some 46) [true, true, true, true, true] rfl (wantOn 2 43 h34) (gives_eql eqg_23 (fun w => eqt_23 t3.1 t35 w)) ?_
                   refine JY.puw (hi := rfl) 6 (ba 54 127) (.bool (decide (t3.1 = t35))) (some 47) want (givesW_pickT h34) ?_
                   refine JY.pur (hi := rfl) 7 (ba 54 255) (.bool (decide (t3.1 = t35))) (some 48) want ?_
                   refine JY.pur (hi := rfl) 8 (ba 54 511) (.int .i64 t8.2) (some 49) (wantOn 7 48 h37) ?_
                   refine JY.pur (hi := rfl) 9 (ba 54 1023) (.bool (decide (t8.2 = 0))) (some 50) (wantOn 7 48 h37) ?_
                   refine JY.puw (hi := rfl) 10 (ba 54 2047) (.bool (decide (t8.2 = 0))) (some 51) want (givesW_pickT h37) ?_
                   refine JY.pur (hi := rfl) 11 (ba 54 4095) (.bool (decide (t8.2 = 0))) (some 52) want ?_
                   refine JY.takeG 12 (ba 54 8191) (mv_23 t8.1) (some 53) [true, true, true, true, true] rfl (wantOn 11 52 h38) (yields_load_boxes 1 0 (cl_23 t8.1) (holds_box b10 23 (cl_23 t8.1)) tyAgg_23 tySize_23) ?_
                   refine JY.all [13] ⟨⟨_, rfl, ?_⟩, trivial⟩
                   refine JL.on 11 52 h38 ?_
                   refine JL.call [] [] [] (law33_of.ok 3 0 1 _ hc40) trivial ?_
                   rintro _ _ ⟨rfl, rfl⟩
                   refine JL.nil ?_
                   refine JY.ran (ba 54 16383) [true, true, true, true, true] ?_
                   refine JY.takeG 14 (ba 54 32767) (.bool (decide (t8.1 = t39))) (some 55) [true, true, true, true, true] rfl (wantOn 11 52 h38) (gives_eql eqg_23 (fun w => eqt_23 t8.1 t39 w)) ?_
                   refine JY.puw (hi := rfl) 15 (ba 54 65535) (.bool (decide (t8.1 = t39))) (some 56) want (givesW_pickT h38) ?_
                   refine JY.pur (hi := rfl) 16 (ba 54 131071) (.bool (decide (t8.1 = t39))) (some 57) want ?_
                   refine JY.pur (hi := rfl) 17 (ba 54 262143) (.int .i64 t13.2) (some 58) (wantOn 16 57 h41) ?_
                   refine JY.pur (hi := rfl) 18 (ba 54 524287) (.bool (decide (t13.2 = 0))) (some 59) (wantOn 16 57 h41) ?_
                   refine JY.puw (hi := rfl) 19 (ba 54 1048575) (.bool (decide (t13.2 = 0))) (some 60) want (givesW_pickT h41) ?_
                   refine JY.pur (hi := rfl) 20 (ba 54 2097151) (.bool (decide (t13.2 = 0))) (some 61) want ?_
                   refine JY.takeG 21 (ba 54 4194303) (mv_25 t13.1) (some 62) [true, true, true, true, true] rfl (wantOn 20 61 h42) (yields_load_boxes 2 0 (cl_25 t13.1) (holds_box b15 25 (cl_25 t13.1)) tyAgg_25 tySize_25) ?_
                   refine JY.all [22] ⟨⟨_, rfl, ?_⟩, trivial⟩
                   refine JL.on 20 61 h42 ?_
                   refine JL.call [] [] [] (law33_of.ok 1 0 1 _ hc44) trivial ?_
                   rintro _ _ ⟨rfl, rfl⟩
                   refine JL.nil ?_
                   refine JY.ran (ba 54 8388607) [true, true, true, true, true] ?_
                   refine JY.all [23] ⟨⟨_, rfl, ?_⟩, trivial⟩
                   refine JL.on 20 61 h42 ?_
                   refine JL.call [] [] [] (law33_of.ok 0 0 1 _ hc46) trivial ?_
                   rintro _ _ ⟨rfl, rfl⟩
                   refine JL.nil ?_
                   refine JY.ran (ba 54 16777215) [true, true, true, true, true] ?_
                   refine JY.all [24] ⟨⟨_, rfl, ?_⟩, trivial⟩
                   refine JL.on 20 61 h42 ?_
                   refine JL.call [] [] [] (law33_of.ok 0 (-1) 1 _ hc48) trivial ?_
                   rintro _ _ ⟨rfl, rfl⟩
                   refine JL.nil ?_
                   refine JY.ran (ba 54 33554431) [true, true, true, true, true] ?_
                   refine JY.all [25] ⟨⟨_, rfl, ?_⟩, trivial⟩
                   refine JL.on 20 61 h42 ?_
                   refine JL.call [] [] [] (law33_of.ok 2 0 1 _ hc50) trivial ?_
                   rintro _ _ ⟨rfl, rfl⟩
                   refine JL.nil ?_
                   refine JY.ran (ba 54 67108863) [true, true, true, true, true] ?_
                   refine JY.pur (hi := rfl) 26 (ba 54 134217727) (.agg #[.int .i64 t43.Re, .int .i64 t43.Im, .int .i64 t43.Den, .int .i64 t45.Re, .int .i64 t45.Im, .int .i64 t45.Den, .int .i64 t47.Re, .int .i64 t47.Im, .int .i64 t47.Den, .int .i64 t49.Re, .int .i64 t49.Im, .int .i64 t49.Den]) (some 67) (wantOn 20 61 h42) ?_
                   refine JY.takeG 27 (ba 54 268435455) (.bool (decide (t13.1 = (⟨t43, t45, t47, t49⟩ : (A4 Cx))))) (some 68) [true, true, true, true, true] rfl (wantOn 20 61 h42) (gives_eql eqg_25 (fun w => eqt_25 t13.1 (⟨t43, t45, t47, t49⟩ : (A4 Cx)) w)) ?_
                   refine JY.puw (hi := rfl) 28 (ba 54 536870911) (.bool (decide (t13.1 = (⟨t43, t45, t47, t49⟩ : (A4 Cx))))) (some 69) want (givesW_pickT h42) ?_
                   refine JY.pur (hi := rfl) 29 (ba 54 1073741823) (.bool (decide (t13.1 = (⟨t43, t45, t47, t49⟩ : (A4 Cx))))) (some 70) want ?_
                   refine JY.pur (hi := rfl) 30 (ba 54 2147483647) (.int .i64 t18.2) (some 71) (wantOn 29 70 h51) ?_
                   refine JY.pur (hi := rfl) 31 (ba 54 4294967295) (.bool (decide (t18.2 = 0))) (some 72) (wantOn 29 70 h51) ?_
                   refine JY.puw (hi := rfl) 32 (ba 54 8589934591) (.bool (decide (t18.2 = 0))) (some 73) want (givesW_pickT h51) ?_
                   refine JY.pur (hi := rfl) 33 (ba 54 17179869183) (.bool (decide (t18.2 = 0))) (some 74) want ?_
                   refine JY.takeG 34 (ba 54 34359738367) (mv_25 t18.1) (some 75) [true, true, true, true, true] rfl (wantOn 33 74 h52) (yields_load_boxes 3 0 (cl_25 t18.1) (holds_box b20 25 (cl_25 t18.1)) tyAgg_25 tySize_25) ?_
                   refine JY.all [35] ⟨⟨_, rfl, ?_⟩, trivial⟩
                   refine JL.on 33 74 h52 ?_
                   refine JL.call [] [] [] (law33_of.ok 1 0 1 _ hc54) trivial ?_
                   rintro _ _ ⟨rfl, rfl⟩
                   refine JL.nil ?_
                   refine JY.ran (ba 54 68719476735) [true, true, true, true, true] ?_
                   refine JY.all [36] ⟨⟨_, rfl, ?_⟩, trivial⟩
                   refine JL.on 33 74 h52 ?_
                   refine JL.call [] [] [] (law33_of.ok 0 (-1) 2 _ hc56) trivial ?_
                   rintro _ _ ⟨rfl, rfl⟩
                   refine JL.nil ?_
                   refine JY.ran (ba 54 137438953471) [true, true, true, true, true] ?_
                   refine JY.all [37] ⟨⟨_, rfl, ?_⟩, trivial⟩
                   refine JL.on 33 74 h52 ?_
                   refine JL.call [] [] [] (law33_of.ok 0 0 1 _ hc58) trivial ?_
                   rintro _ _ ⟨rfl, rfl⟩
                   refine JL.nil ?_
                   refine JY.ran (ba 54 274877906943) [true, true, true, true, true] ?_
                   refine JY.all [38] ⟨⟨_, rfl, ?_⟩, trivial⟩
                   refine JL.on 33 74 h52 ?_
                   refine JL.call [] [] [] (law33_of.ok 1 0 2 _ hc60) trivial ?_
                   rintro _ _ ⟨rfl, rfl⟩
                   refine JL.nil ?_
                   refine JY.ran (ba 54 549755813887) [true, true, true, true, true] ?_
                   refine JY.pur (hi := rfl) 39 (ba 54 1099511627775) (.agg #[.int .i64 t53.Re, .int .i64 t53.Im, .int .i64 t53.Den, .int .i64 t55.Re, .int .i64 t55.Im, .int .i64 t55.Den, .int .i64 t57.Re, .int .i64 t57.Im, .int .i64 t57.Den, .int .i64 t59.Re, .int .i64 t59.Im, .int .i64 t59.Den]) (some 80) (wantOn 33 74 h52) ?_
                   refine JY.takeG 40 (ba 54 2199023255551) (.bool (decide (t18.1 = (⟨t53, t55, t57, t59⟩ : (A4 Cx))))) (some 81) [true, true, true, true, true] rfl (wantOn 33 74 h52) (gives_eql eqg_25 (fun w => eqt_25 t18.1 (⟨t53, t55, t57, t59⟩ : (A4 Cx)) w)) ?_
                   refine JY.puw (hi := rfl) 41 (ba 54 4398046511103) (.bool (decide (t18.1 = (⟨t53, t55, t57, t59⟩ : (A4 Cx))))) (some 82) want (givesW_pickT h52) ?_
                   refine JY.pur (hi := rfl) 42 (ba 54 8796093022207) (.bool (decide (t18.1 = (⟨t53, t55, t57, t59⟩ : (A4 Cx))))) (some 83) want ?_
                   refine JY.pur (hi := rfl) 43 (ba 54 17592186044415) (.int .i64 t29.2) (some 84) (wantOn 42 83 h61) ?_
                   refine JY.pur (hi := rfl) 44 (ba 54 35184372088831) (.bool (decide (t29.2 = 0))) (some 85) (wantOn 42 83 h61) ?_
                   refine JY.puw (hi := rfl) 45 (ba 54 70368744177663) (.bool (decide (t29.2 = 0))) (some 86) want (givesW_pickT h61) ?_
                   refine JY.pur (hi := rfl) 46 (ba 54 140737488355327) (.bool (decide (t29.2 = 0))) (some 87) want ?_
                   refine JY.skip (hi := rfl) 47 (ba 54 281474976710655) (some 88) (wantOff 46 87 true h62) ?_
                   refine JY.skip (hi := rfl) 48 (ba 54 562949953421311) (some 89) (wantOff 46 87 true h62) ?_
                   refine JY.skip (hi := rfl) 49 (ba 54 1125899906842623) (some 90) (wantOff 46 87 true h62) ?_
                   refine JY.skip (hi := rfl) 50 (ba 54 2251799813685247) (some 91) (wantOff 46 87 true h62) ?_
                   refine JY.skip (hi := rfl) 51 (ba 54 4503599627370495) (some 92) (wantOff 46 87 true h62) ?_
                   refine JY.puw (hi := rfl) 52 (ba 54 9007199254740991) (.bool false) (some 93) want (givesW_pickF h62) ?_
                   refine JY.pur (hi := rfl) 53 (ba 54 18014398509481983) (.bool false) (some 0) want ?_
                   refine JY.done ?_
                   refine JQ.then_normal ?_
                   refine JQ.sub [(0, .bool false)] ?_
                   refine JQ.mask [] [false, false, false, false, false] ?_
                   refine J.ret ?_
                   obtain rfl := Option.some.inj H0
                   exact JQ.done' (rs := [.tmp 0]) (vs := [.bool false]) [] (.inr rfl) ⟨by kernel_rfl, trivial⟩ (fun _ h => Heap.to h) ⟨rfl, rfl⟩
               · refine JY.start [] (ba 54 0) ?_
                 refine JY.pur (hi := rfl) 0 (ba 54 1) (.int .i64 t3.2) (some 41) want ?_
                 refine JY.pur (hi := rfl) 1 (ba 54 3) (.bool (decide (t3.2 = 0))) (some 42) want ?_
                 refine JY.pur (hi := rfl) 2 (ba 54 7) (.bool (decide (t3.2 = 0))) (some 43) want ?_
                 refine JY.takeG 3 (ba 54 15) (mv_23 t3.1) (some 44) [true, true, true, true, true] rfl (wantOn 2 43 h34) (yields_load_boxes 0 0 (cl_23 t3.1) (holds_box b5 23 (cl_23 t3.1)) tyAgg_23 tySize_23) ?_
                 refine JY.all [4] ⟨⟨_, rfl, ?_⟩, trivial⟩
                 refine JL.on 2 43 h34 ?_
                 refine JL.call [] [] [] (law33_of.ok 2 0 1 _ hc36) trivial ?_
                 rintro _ _ ⟨rfl, rfl⟩
                 refine JL.nil ?_
                 refine JY.ran (ba 54 31) [true, true, true, true, true] ?_
                 refine JY.takeG 5 (ba 54 63) (.bool (decide (t3.1 = t35))) (some 46) [true, true, true, true, true] rfl (wantOn 2 43 h34) (gives_eql eqg_23 (fun w => eqt_23 t3.1 t35 w)) ?_
                 refine JY.puw (hi := rfl) 6 (ba 54 127) (.bool (decide (t3.1 = t35))) (some 47) want (givesW_pickT h34) ?_
                 refine JY.pur (hi := rfl) 7 (ba 54 255) (.bool (decide (t3.1 = t35))) (some 48) want ?_
                 refine JY.pur (hi := rfl) 8 (ba 54 511) (.int .i64 t8.2) (some 49) (wantOn 7 48 h37) ?_
                 refine JY.pur (hi := rfl) 9 (ba 54 1023) (.bool (decide (t8.2 = 0))) (some 50) (wantOn 7 48 h37) ?_
                 refine JY.puw (hi := rfl) 10 (ba 54 2047) (.bool (decide (t8.2 = 0))) (some 51) want (givesW_pickT h37) ?_
                 refine JY.pur (hi := rfl) 11 (ba 54 4095) (.bool (decide (t8.2 = 0))) (some 52) want ?_
                 refine JY.takeG 12 (ba 54 8191) (mv_23 t8.1) (some 53) [true, true, true, true, true] rfl (wantOn 11 52 h38) (yields_load_boxes 1 0 (cl_23 t8.1) (holds_box b10 23 (cl_23 t8.1)) tyAgg_23 tySize_23) ?_
                 refine JY.all [13] ⟨⟨_, rfl, ?_⟩, trivial⟩
                 refine JL.on 11 52 h38 ?_
                 refine JL.call [] [] [] (law33_of.ok 3 0 1 _ hc40) trivial ?_
                 rintro _ _ ⟨rfl, rfl⟩
                 refine JL.nil ?_
                 refine JY.ran (ba 54 16383) [true, true, true, true, true] ?_
                 refine JY.takeG 14 (ba 54 32767) (.bool (decide (t8.1 = t39))) (some 55) [true, true, true, true, true] rfl (wantOn 11 52 h38) (gives_eql eqg_23 (fun w => eqt_23 t8.1 t39 w)) ?_
                 refine JY.puw (hi := rfl) 15 (ba 54 65535) (.bool (decide (t8.1 = t39))) (some 56) want (givesW_pickT h38) ?_
                 refine JY.pur (hi := rfl) 16 (ba 54 131071) (.bool (decide (t8.1 = t39))) (some 57) want ?_
                 refine JY.pur (hi := rfl) 17 (ba 54 262143) (.int .i64 t13.2) (some 58) (wantOn 16 57 h41) ?_
                 refine JY.pur (hi := rfl) 18 (ba 54 524287) (.bool (decide (t13.2 = 0))) (some 59) (wantOn 16 57 h41) ?_
                 refine JY.puw (hi := rfl) 19 (ba 54 1048575) (.bool (decide (t13.2 = 0))) (some 60) want (givesW_pickT h41) ?_
                 refine JY.pur (hi := rfl) 20 (ba 54 2097151) (.bool (decide (t13.2 = 0))) (some 61) want ?_
                 refine JY.takeG 21 (ba 54 4194303) (mv_25 t13.1) (some 62) [true, true, true, true, true] rfl (wantOn 20 61 h42) (yields_load_boxes 2 0 (cl_25 t13.1) (holds_box b15 25 (cl_25 t13.1)) tyAgg_25 tySize_25) ?_
                 refine JY.all [22] ⟨⟨_, rfl, ?_⟩, trivial⟩
                 refine JL.on 20 61 h42 ?_
                 refine JL.call [] [] [] (law33_of.ok 1 0 1 _ hc44) trivial ?_
                 rintro _ _ ⟨rfl, rfl⟩
                 refine JL.nil ?_
                 refine JY.ran (ba 54 8388607) [true, true, true, true, true] ?_
                 refine JY.all [23] ⟨⟨_, rfl, ?_⟩, trivial⟩
                 refine JL.on 20 61 h42 ?_
                 refine JL.call [] [] [] (law33_of.ok 0 0 1 _ hc46) trivial ?_
                 rintro _ _ ⟨rfl, rfl⟩
                 refine JL.nil ?_
                 refine JY.ran (ba 54 16777215) [true, true, true, true, true] ?_
                 refine JY.all [24] ⟨⟨_, rfl, ?_⟩, trivial⟩
                 refine JL.on 20 61 h42 ?_
                 refine JL.call [] [] [] (law33_of.ok 0 (-1) 1 _ hc48) trivial ?_
                 rintro _ _ ⟨rfl, rfl⟩
                 refine JL.nil ?_
                 refine JY.ran (ba 54 33554431) [true, true, true, true, true] ?_
                 refine JY.all [25] ⟨⟨_, rfl, ?_⟩, trivial⟩
                 refine JL.on 20 61 h42 ?_
                 refine JL.call [] [] [] (law33_of.ok 2 0 1 _ hc50) trivial ?_
                 rintro _ _ ⟨rfl, rfl⟩
                 refine JL.nil ?_
                 refine JY.ran (ba 54 67108863) [true, true, true, true, true] ?_
                 refine JY.pur (hi := rfl) 26 (ba 54 134217727) (.agg #[.int .i64 t43.Re, .int .i64 t43.Im, .int .i64 t43.Den, .int .i64 t45.Re, .int .i64 t45.Im, .int .i64 t45.Den, .int .i64 t47.Re, .int .i64 t47.Im, .int .i64 t47.Den, .int .i64 t49.Re, .int .i64 t49.Im, .int .i64 t49.Den]) (some 67) (wantOn 20 61 h42) ?_
                 refine JY.takeG 27 (ba 54 268435455) (.bool (decide (t13.1 = (⟨t43, t45, t47, t49⟩ : (A4 Cx))))) (some 68) [true, true, true, true, true] rfl (wantOn 20 61 h42) (gives_eql eqg_25 (fun w => eqt_25 t13.1 (⟨t43, t45, t47, t49⟩ : (A4 Cx)) w)) ?_
                 refine JY.puw (hi := rfl) 28 (ba 54 536870911) (.bool (decide (t13.1 = (⟨t43, t45, t47, t49⟩ : (A4 Cx))))) (some 69) want (givesW_pickT h42) ?_
                 refine JY.pur (hi := rfl) 29 (ba 54 1073741823) (.bool (decide (t13.1 = (⟨t43, t45, t47, t49⟩ : (A4 Cx))))) (some 70) want ?_
                 refine JY.pur (hi := rfl) 30 (ba 54 2147483647) (.int .i64 t18.2) (some 71) (wantOn 29 70 h51) ?_
                 refine JY.pur (hi := rfl) 31 (ba 54 4294967295) (.bool (decide (t18.2 = 0))) (some 72) (wantOn 29 70 h51) ?_
                 refine JY.puw (hi := rfl) 32 (ba 54 8589934591) (.bool (decide (t18.2 = 0))) (some 73) want (givesW_pickT h51) ?_
                 refine JY.pur (hi := rfl) 33 (ba 54 17179869183) (.bool (decide (t18.2 = 0))) (some 74) want ?_
                 refine JY.takeG 34 (ba 54 34359738367) (mv_25 t18.1) (some 75) [true, true, true, true, true] rfl (wantOn 33 74 h52) (yields_load_boxes 3 0 (cl_25 t18.1) (holds_box b20 25 (cl_25 t18.1)) tyAgg_25 tySize_25) ?_
                 refine JY.all [35] ⟨⟨_, rfl, ?_⟩, trivial⟩
                 refine JL.on 33 74 h52 ?_
                 refine JL.call [] [] [] (law33_of.ok 1 0 1 _ hc54) trivial ?_
                 rintro _ _ ⟨rfl, rfl⟩
                 refine JL.nil ?_
                 refine JY.ran (ba 54 68719476735) [true, true, true, true, true] ?_
                 refine JY.all [36] ⟨⟨_, rfl, ?_⟩, trivial⟩
                 refine JL.on 33 74 h52 ?_
                 refine JL.call [] [] [] (law33_of.ok 0 (-1) 2 _ hc56) trivial ?_
                 rintro _ _ ⟨rfl, rfl⟩
                 refine JL.nil ?_
                 refine JY.ran (ba 54 137438953471) [true, true, true, true, true] ?_
                 refine JY.all [37] ⟨⟨_, rfl, ?_⟩, trivial⟩
                 refine JL.on 33 74 h52 ?_
                 refine JL.call [] [] [] (law33_of.ok 0 0 1 _ hc58) trivial ?_
                 rintro _ _ ⟨rfl, rfl⟩
                 refine JL.nil ?_
                 refine JY.ran (ba 54 274877906943) [true, true, true, true, true] ?_
                 refine JY.all [38] ⟨⟨_, rfl, ?_⟩, trivial⟩
                 refine JL.on 33 74 h52 ?_
                 refine JL.call [] [] [] (law33_of.ok 1 0 2 _ hc60) trivial ?_
                 rintro _ _ ⟨rfl, rfl⟩
                 refine JL.nil ?_
                 refine JY.ran (ba 54 549755813887) [true, true, true, true, true] ?_
                 refine JY.pur (hi := rfl) 39 (ba 54 1099511627775) (.agg #[.int .i64 t53.Re, .int .i64 t53.Im, .int .i64 t53.Den, .int .i64 t55.Re, .int .i64 t55.Im, .int .i64 t55.Den, .int .i64 t57.Re, .int .i64 t57.Im, .int .i64 t57.Den, .int .i64 t59.Re, .int .i64 t59.Im, .int .i64 t59.Den]) (some 80) (wantOn 33 74 h52) ?_
                 refine JY.takeG 40 (ba 54 2199023255551) (.bool (decide (t18.1 = (⟨t53, t55, t57, t59⟩ : (A4 Cx))))) (some 81) [true, true, true, true, true] rfl (wantOn 33 74 h52) (gives_eql eqg_25 (fun w => eqt_25 t18.1 (⟨t53, t55, t57, t59⟩ : (A4 Cx)) w)) ?_
                 refine JY.puw (hi := rfl) 41 (ba 54 4398046511103) (.bool (decide (t18.1 = (⟨t53, t55, t57, t59⟩ : (A4 Cx))))) (some 82) want (givesW_pickT h52) ?_
                 refine JY.pur (hi := rfl) 42 (ba 54 8796093022207) (.bool (decide (t18.1 = (⟨t53, t55, t57, t59⟩ : (A4 Cx))))) (some 83) want ?_
                 refine JY.skip (hi := rfl) 43 (ba 54 17592186044415) (some 84) (wantOff 42 83 true h61) ?_
                 refine JY.skip (hi := rfl) 44 (ba 54 35184372088831) (some 85) (wantOff 42 83 true h61) ?_
                 refine JY.puw (hi := rfl) 45 (ba 54 70368744177663) (.bool false) (some 86) want (givesW_pickF h61) ?_
                 refine JY.pur (hi := rfl) 46 (ba 54 140737488355327) (.bool false) (some 87) want ?_
                 refine JY.skip (hi := rfl) 47 (ba 54 281474976710655) (some 88) (wantOff 46 87 true rfl) ?_
                 refine JY.skip (hi := rfl) 48 (ba 54 562949953421311) (some 89) (wantOff 46 87 true rfl) ?_
                 refine JY.skip (hi := rfl) 49 (ba 54 1125899906842623) (some 90) (wantOff 46 87 true rfl) ?_
                 refine JY.skip (hi := rfl) 50 (ba 54 2251799813685247) (some 91) (wantOff 46 87 true rfl) ?_
                 refine JY.skip (hi := rfl) 51 (ba 54 4503599627370495) (some 92) (wantOff 46 87 true rfl) ?_
                 refine JY.puw (hi := rfl) 52 (ba 54 9007199254740991) (.bool false) (some 93) want (givesW_pickF rfl) ?_
                 refine JY.pur (hi := rfl) 53 (ba 54 18014398509481983) (.bool false) (some 0) want ?_
                 refine JY.done ?_
                 refine JQ.then_normal ?_
                 refine JQ.sub [(0, .bool false)] ?_
                 refine JQ.mask [] [false, false, false, false, false] ?_
                 refine J.ret ?_
                 obtain rfl := Option.some.inj H0
                 exact JQ.done' (rs := [.tmp 0]) (vs := [.bool false]) [] (.inr rfl) ⟨by kernel_rfl, trivial⟩ (fun _ h => Heap.to h) ⟨rfl, rfl⟩
             · refine JY.start [] (ba 54 0) ?_
               refine JY.pur (hi := rfl) 0 (ba 54 1) (.int .i64 t3.2) (some 41) want ?_
               refine JY.pur (hi := rfl) 1 (ba 54 3) (.bool (decide (t3.2 = 0))) (some 42) want ?_
               refine JY.pur (hi := rfl) 2 (ba 54 7) (.bool (decide (t3.2 = 0))) (some 43) want ?_
               refine JY.takeG 3 (ba 54 15) (mv_23 t3.1) (some 44) [true, true, true, true, true] rfl (wantOn 2 43 h34) (yields_load_boxes 0 0 (cl_23 t3.1) (holds_box b5 23 (cl_23 t3.1)) tyAgg_23 tySize_23) ?_
               refine JY.all [4] ⟨⟨_, rfl, ?_⟩, trivial⟩
               refine JL.on 2 43 h34 ?_
               refine JL.call [] [] [] (law33_of.ok 2 0 1 _ hc36) trivial ?_
               rintro _ _ ⟨rfl, rfl⟩
               refine JL.nil ?_
               refine JY.ran (ba 54 31) [true, true, true, true, true] ?_
               refine JY.takeG 5 (ba 54 63) (.bool (decide (t3.1 = t35))) (some 46) [true, true, true, true, true] rfl (wantOn 2 43 h34) (gives_eql eqg_23 (fun w => eqt_23 t3.1 t35 w)) ?_
               refine JY.puw (hi := rfl) 6 (ba 54 127) (.bool (decide (t3.1 = t35))) (some 47) want (givesW_pickT h34) ?_
               refine JY.pur (hi := rfl) 7 (ba 54 255) (.bool (decide (t3.1 = t35))) (some 48) want ?_
               refine JY.pur (hi := rfl) 8 (ba 54 511) (.int .i64 t8.2) (some 49) (wantOn 7 48 h37) ?_
               refine JY.pur (hi := rfl) 9 (ba 54 1023) (.bool (decide (t8.2 = 0))) (some 50) (wantOn 7 48 h37) ?_
               refine JY.puw (hi := rfl) 10 (ba 54 2047) (.bool (decide (t8.2 = 0))) (some 51) want (givesW_pickT h37) ?_
               refine JY.pur (hi := rfl) 11 (ba 54 4095) (.bool (decide (t8.2 = 0))) (some 52) want ?_
               refine JY.takeG 12 (ba 54 8191) (mv_23 t8.1) (some 53) [true, true, true, true, true] rfl (wantOn 11 52 h38) (yields_load_boxes 1 0 (cl_23 t8.1) (holds_box b10 23 (cl_23 t8.1)) tyAgg_23 tySize_23) ?_
               refine JY.all [13] ⟨⟨_, rfl, ?_⟩, trivial⟩
               refine JL.on 11 52 h38 ?_
               refine JL.call [] [] [] (law33_of.ok 3 0 1 _ hc40) trivial ?_
               rintro _ _ ⟨rfl, rfl⟩
               refine JL.nil ?_
               refine JY.ran (ba 54 16383) [true, true, true, true, true] ?_
               refine JY.takeG 14 (ba 54 32767) (.bool (decide (t8.1 = t39))) (some 55) [true, true, true, true, true] rfl (wantOn 11 52 h38) (gives_eql eqg_23 (fun w => eqt_23 t8.1 t39 w)) ?_
               refine JY.puw (hi := rfl) 15 (ba 54 65535) (.bool (decide (t8.1 = t39))) (some 56) want (givesW_pickT h38) ?_
               refine JY.pur (hi := rfl) 16 (ba 54 131071) (.bool (decide (t8.1 = t39))) (some 57) want ?_
               refine JY.pur (hi := rfl) 17 (ba 54 262143) (.int .i64 t13.2) (some 58) (wantOn 16 57 h41) ?_
               refine JY.pur (hi := rfl) 18 (ba 54 524287) (.bool (decide (t13.2 = 0))) (some 59) (wantOn 16 57 h41) ?_
               refine JY.puw (hi := rfl) 19 (ba 54 1048575) (.bool (decide (t13.2 = 0))) (some 60) want (givesW_pickT h41) ?_
               refine JY.pur (hi := rfl) 20 (ba 54 2097151) (.bool (decide (t13.2 = 0))) (some 61) want ?_
               refine JY.takeG 21 (ba 54 4194303) (mv_25 t13.1) (some 62) [true, true, true, true, true] rfl (wantOn 20 61 h42) (yields_load_boxes 2 0 (cl_25 t13.1) (holds_box b15 25 (cl_25 t13.1)) tyAgg_25 tySize_25) ?_
               refine JY.all [22] ⟨⟨_, rfl, ?_⟩, trivial⟩
               refine JL.on 20 61 h42 ?_
               refine JL.call [] [] [] (law33_of.ok 1 0 1 _ hc44) trivial ?_
               rintro _ _ ⟨rfl, rfl⟩
               refine JL.nil ?_
               refine JY.ran (ba 54 8388607) [true, true, true, true, true] ?_
               refine JY.all [23] ⟨⟨_, rfl, ?_⟩, trivial⟩
               refine JL.on 20 61 h42 ?_
               refine JL.call [] [] [] (law33_of.ok 0 0 1 _ hc46) trivial ?_
               rintro _ _ ⟨rfl, rfl⟩
               refine JL.nil ?_
               refine JY.ran (ba 54 16777215) [true, true, true, true, true] ?_
               refine JY.all [24] ⟨⟨_, rfl, ?_⟩, trivial⟩
               refine JL.on 20 61 h42 ?_
               refine JL.call [] [] [] (law33_of.ok 0 (-1) 1 _ hc48) trivial ?_
               rintro _ _ ⟨rfl, rfl⟩
               refine JL.nil ?_
               refine JY.ran (ba 54 33554431) [true, true, true, true, true] ?_
               refine JY.all [25] ⟨⟨_, rfl, ?_⟩, trivial⟩
               refine JL.on 20 61 h42 ?_
               refine JL.call [] [] [] (law33_of.ok 2 0 1 _ hc50) trivial ?_
               rintro _ _ ⟨rfl, rfl⟩
               refine JL.nil ?_
               refine JY.ran (ba 54 67108863) [true, true, true, true, true] ?_
               refine JY.pur (hi := rfl) 26 (ba 54 134217727) (.agg #[.int .i64 t43.Re, .int .i64 t43.Im, .int .i64 t43.Den, .int .i64 t45.Re, .int .i64 t45.Im, .int .i64 t45.Den, .int .i64 t47.Re, .int .i64 t47.Im, .int .i64 t47.Den, .int .i64 t49.Re, .int .i64 t49.Im, .int .i64 t49.Den]) (some 67) (wantOn 20 61 h42) ?_
               refine JY.takeG 27 (ba 54 268435455) (.bool (decide (t13.1 = (⟨t43, t45, t47, t49⟩ : (A4 Cx))))) (some 68) [true, true, true, true, true] rfl (wantOn 20 61 h42) (gives_eql eqg_25 (fun w => eqt_25 t13.1 (⟨t43, t45, t47, t49⟩ : (A4 Cx)) w)) ?_
               refine JY.puw (hi := rfl) 28 (ba 54 536870911) (.bool (decide (t13.1 = (⟨t43, t45, t47, t49⟩ : (A4 Cx))))) (some 69) want (givesW_pickT h42) ?_
               refine JY.pur (hi := rfl) 29 (ba 54 1073741823) (.bool (decide (t13.1 = (⟨t43, t45, t47, t49⟩ : (A4 Cx))))) (some 70) want ?_
               refine JY.pur (hi := rfl) 30 (ba 54 2147483647) (.int .i64 t18.2) (some 71) (wantOn 29 70 h51) ?_
               refine JY.pur (hi := rfl) 31 (ba 54 4294967295) (.bool (decide (t18.2 = 0))) (some 72) (wantOn 29 70 h51) ?_
               refine JY.puw (hi := rfl) 32 (ba 54 8589934591) (.bool (decide (t18.2 = 0))) (some 73) want (givesW_pickT h51) ?_
               refine JY.pur (hi := rfl) 33 (ba 54 17179869183) (.bool (decide (t18.2 = 0))) (some 74) want ?_
               refine JY.skip (hi := rfl) 34 (ba 54 34359738367) (some 75) (wantOff 33 74 true h52) ?_
               refine JY.skip (hi := rfl) 35 (ba 54 68719476735) (some 76) (wantOff 33 74 true h52) ?_
               refine JY.skip (hi := rfl) 36 (ba 54 137438953471) (some 77) (wantOff 33 74 true h52) ?_
               refine JY.skip (hi := rfl) 37 (ba 54 274877906943) (some 78) (wantOff 33 74 true h52) ?_
               refine JY.skip (hi := rfl) 38 (ba 54 549755813887) (some 79) (wantOff 33 74 true h52) ?_
               refine JY.skip (hi := rfl) 39 (ba 54 1099511627775) (some 80) (wantOff 33 74 true h52) ?_
               refine JY.skip (hi := rfl) 40 (ba 54 2199023255551) (some 81) (wantOff 33 74 true h52) ?_
               refine JY.puw (hi := rfl) 41 (ba 54 4398046511103) (.bool false) (some 82) want (givesW_pickF h52) ?_
               refine JY.pur (hi := rfl) 42 (ba 54 8796093022207) (.bool false) (some 83) want ?_
               refine JY.skip (hi := rfl) 43 (ba 54 17592186044415) (some 84) (wantOff 42 83 true rfl) ?_
               refine JY.skip (hi := rfl) 44 (ba 54 35184372088831) (some 85) (wantOff 42 83 true rfl) ?_
               refine JY.puw (hi := rfl) 45 (ba 54 70368744177663) (.bool false) (some 86) want (givesW_pickF rfl) ?_
               refine JY.pur (hi := rfl) 46 (ba 54 140737488355327) (.bool false) (some 87) want ?_
               refine JY.skip (hi := rfl) 47 (ba 54 281474976710655) (some 88) (wantOff 46 87 true rfl) ?_
               refine JY.skip (hi := rfl) 48 (ba 54 562949953421311) (some 89) (wantOff 46 87 true rfl) ?_
               refine JY.skip (hi := rfl) 49 (ba 54 1125899906842623) (some 90) (wantOff 46 87 true rfl) ?_
               refine JY.skip (hi := rfl) 50 (ba 54 2251799813685247) (some 91) (wantOff 46 87 true rfl) ?_
               refine JY.skip (hi := rfl) 51 (ba 54 4503599627370495) (some 92) (wantOff 46 87 true rfl) ?_
               refine JY.puw (hi := rfl) 52 (ba 54 9007199254740991) (.bool false) (some 93) want (givesW_pickF rfl) ?_
               refine JY.pur (hi := rfl) 53 (ba 54 18014398509481983) (.bool false) (some 0) want ?_
               refine JY.done ?_
               refine JQ.then_normal ?_
               refine JQ.sub [(0, .bool false)] ?_
               refine JQ.mask [] [false, false, false, false, false] ?_
               refine J.ret ?_
               obtain rfl := Option.some.inj H0
               exact JQ.done' (rs := [.tmp 0]) (vs := [.bool false]) [] (.inr rfl) ⟨by kernel_rfl, trivial⟩ (fun _ h => Heap.to h) ⟨rfl, rfl⟩
           · refine JY.start [] (ba 54 0) ?_
             refine JY.pur (hi := rfl) 0 (ba 54 1) (.int .i64 t3.2) (some 41) want ?_
             refine JY.pur (hi := rfl) 1 (ba 54 3) (.bool (decide (t3.2 = 0))) (some 42) want ?_
             refine JY.pur (hi := rfl) 2 (ba 54 7) (.bool (decide (t3.2 = 0))) (some 43) want ?_
             refine JY.takeG 3 (ba 54 15) (mv_23 t3.1) (some 44) [true, true, true, true, true] rfl (wantOn 2 43 h34) (yields_load_boxes 0 0 (cl_23 t3.1) (holds_box b5 23 (cl_23 t3.1)) tyAgg_23 tySize_23) ?_
             refine JY.all [4] ⟨⟨_, rfl, ?_⟩, trivial⟩
             refine JL.on 2 43 h34 ?_
             refine JL.call [] [] [] (law33_of.ok 2 0 1 _ hc36) trivial ?_
             rintro _ _ ⟨rfl, rfl⟩
             refine JL.nil ?_
             refine JY.ran (ba 54 31) [true, true, true, true, true] ?_
             refine JY.takeG 5 (ba 54 63) (.bool (decide (t3.1 = t35))) (some 46) [true, true, true, true, true] rfl (wantOn 2 43 h34) (gives_eql eqg_23 (fun w => eqt_23 t3.1 t35 w)) ?_
             refine JY.puw (hi := rfl) 6 (ba 54 127) (.bool (decide (t3.1 = t35))) (some 47) want (givesW_pickT h34) ?_
             refine JY.pur (hi := rfl) 7 (ba 54 255) (.bool (decide (t3.1 = t35))) (some 48) want ?_
             refine JY.pur (hi := rfl) 8 (ba 54 511) (.int .i64 t8.2) (some 49) (wantOn 7 48 h37) ?_
             refine JY.pur (hi := rfl) 9 (ba 54 1023) (.bool (decide (t8.2 = 0))) (some 50) (wantOn 7 48 h37) ?_
             refine JY.puw (hi := rfl) 10 (ba 54 2047) (.bool (decide (t8.2 = 0))) (some 51) want (givesW_pickT h37) ?_
             refine JY.pur (hi := rfl) 11 (ba 54 4095) (.bool (decide (t8.2 = 0))) (some 52) want ?_
             refine JY.takeG 12 (ba 54 8191) (mv_23 t8.1) (some 53) [true, true, true, true, true] rfl (wantOn 11 52 h38) (yields_load_boxes 1 0 (cl_23 t8.1) (holds_box b10 23 (cl_23 t8.1)) tyAgg_23 tySize_23) ?_
             refine JY.all [13] ⟨⟨_, rfl, ?_⟩, trivial⟩
             refine JL.on 11 52 h38 ?_
             refine JL.call [] [] [] (law33_of.ok 3 0 1 _ hc40) trivial ?_
             rintro _ _ ⟨rfl, rfl⟩
             refine JL.nil ?_
             refine JY.ran (ba 54 16383) [true, true, true, true, true] ?_
             refine JY.takeG 14 (ba 54 32767) (.bool (decide (t8.1 = t39))) (some 55) [true, true, true, true, true] rfl (wantOn 11 52 h38) (gives_eql eqg_23 (fun w => eqt_23 t8.1 t39 w)) ?_
             refine JY.puw (hi := rfl) 15 (ba 54 65535) (.bool (decide (t8.1 = t39))) (some 56) want (givesW_pickT h38) ?_
             refine JY.pur (hi := rfl) 16 (ba 54 131071) (.bool (decide (t8.1 = t39))) (some 57) want ?_
             refine JY.pur (hi := rfl) 17 (ba 54 262143) (.int .i64 t13.2) (some 58) (wantOn 16 57 h41) ?_
             refine JY.pur (hi := rfl) 18 (ba 54 524287) (.bool (decide (t13.2 = 0))) (some 59) (wantOn 16 57 h41) ?_
             refine JY.puw (hi := rfl) 19 (ba 54 1048575) (.bool (decide (t13.2 = 0))) (some 60) want (givesW_pickT h41) ?_
             refine JY.pur (hi := rfl) 20 (ba 54 2097151) (.bool (decide (t13.2 = 0))) (some 61) want ?_
             refine JY.takeG 21 (ba 54 4194303) (mv_25 t13.1) (some 62) [true, true, true, true, true] rfl (wantOn 20 61 h42) (yields_load_boxes 2 0 (cl_25 t13.1) (holds_box b15 25 (cl_25 t13.1)) tyAgg_25 tySize_25) ?_
             refine JY.all [22] ⟨⟨_, rfl, ?_⟩, trivial⟩
             refine JL.on 20 61 h42 ?_
             refine JL.call [] [] [] (law33_of.ok 1 0 1 _ hc44) trivial ?_
             rintro _ _ ⟨rfl, rfl⟩
             refine JL.nil ?_
             refine JY.ran (ba 54 8388607) [true, true, true, true, true] ?_
             refine JY.all [23] ⟨⟨_, rfl, ?_⟩, trivial⟩
             refine JL.on 20 61 h42 ?_
             refine JL.call [] [] [] (law33_of.ok 0 0 1 _ hc46) trivial ?_
             rintro _ _ ⟨rfl, rfl⟩
             refine JL.nil ?_
             refine JY.ran (ba 54 16777215) [true, true, true, true, true] ?_
             refine JY.all [24] ⟨⟨_, rfl, ?_⟩, trivial⟩
             refine JL.on 20 61 h42 ?_
             refine JL.call [] [] [] (law33_of.ok 0 (-1) 1 _ hc48) trivial ?_
             rintro _ _ ⟨rfl, rfl⟩
             refine JL.nil ?_
             refine JY.ran (ba 54 33554431) [true, true, true, true, true] ?_
             refine JY.all [25] ⟨⟨_, rfl, ?_⟩, trivial⟩
             refine JL.on 20 61 h42 ?_
             refine JL.call [] [] [] (law33_of.ok 2 0 1 _ hc50) trivial ?_
             rintro _ _ ⟨rfl, rfl⟩
             refine JL.nil ?_
             refine JY.ran (ba 54 67108863) [true, true, true, true, true] ?_
             refine JY.pur (hi := rfl) 26 (ba 54 134217727) (.agg #[.int .i64 t43.Re, .int .i64 t43.Im, .int .i64 t43.Den, .int .i64 t45.Re, .int .i64 t45.Im, .int .i64 t45.Den, .int .i64 t47.Re, .int .i64 t47.Im, .int .i64 t47.Den, .int .i64 t49.Re, .int .i64 t49.Im, .int .i64 t49.Den]) (some 67) (wantOn 20 61 h42) ?_
             refine JY.takeG 27 (ba 54 268435455) (.bool (decide (t13.1 = (⟨t43, t45, t47, t49⟩ : (A4 Cx))))) (some 68) [true, true, true, true, true] rfl (wantOn 20 61 h42) (gives_eql eqg_25 (fun w => eqt_25 t13.1 (⟨t43, t45, t47, t49⟩ : (A4 Cx)) w)) ?_
             refine JY.puw (hi := rfl) 28 (ba 54 536870911) (.bool (decide (t13.1 = (⟨t43, t45, t47, t49⟩ : (A4 Cx))))) (some 69) want (givesW_pickT h42) ?_
             refine JY.pur (hi := rfl) 29 (ba 54 1073741823) (.bool (decide (t13.1 = (⟨t43, t45, t47, t49⟩ : (A4 Cx))))) (some 70) want ?_
             refine JY.skip (hi := rfl) 30 (ba 54 2147483647) (some 71) (wantOff 29 70 true h51) ?_
             refine JY.skip (hi := rfl) 31 (ba 54 4294967295) (some 72) (wantOff 29 70 true h51) ?_
             refine JY.puw (hi := rfl) 32 (ba 54 8589934591) (.bool false) (some 73) want (givesW_pickF h51) ?_
             refine JY.pur (hi := rfl) 33 (ba 54 17179869183) (.bool false) (some 74) want ?_
             refine JY.skip (hi := rfl) 34 (ba 54 34359738367) (some 75) (wantOff 33 74 true rfl) ?_
             refine JY.skip (hi := rfl) 35 (ba 54 68719476735) (some 76) (wantOff 33 74 true rfl) ?_
             refine JY.skip (hi := rfl) 36 (ba 54 137438953471) (some 77) (wantOff 33 74 true rfl) ?_
             refine JY.skip (hi := rfl) 37 (ba 54 274877906943) (some 78) (wantOff 33 74 true rfl) ?_
             refine JY.skip (hi := rfl) 38 (ba 54 549755813887) (some 79) (wantOff 33 74 true rfl) ?_
             refine JY.skip (hi := rfl) 39 (ba 54 1099511627775) (some 80) (wantOff 33 74 true rfl) ?_
             refine JY.skip (hi := rfl) 40 (ba 54 2199023255551) (some 81) (wantOff 33 74 true rfl) ?_
             refine JY.puw (hi := rfl) 41 (ba 54 4398046511103) (.bool false) (some 82) want (givesW_pickF rfl) ?_
             refine JY.pur (hi := rfl) 42 (ba 54 8796093022207) (.bool false) (some 83) want ?_
             refine JY.skip (hi := rfl) 43 (ba 54 17592186044415) (some 84) (wantOff 42 83 true rfl) ?_
             refine JY.skip (hi := rfl) 44 (ba 54 35184372088831) (some 85) (wantOff 42 83 true rfl) ?_
             refine JY.puw (hi := rfl) 45 (ba 54 70368744177663) (.bool false) (some 86) want (givesW_pickF rfl) ?_
             refine JY.pur (hi := rfl) 46 (ba 54 140737488355327) (.bool false) (some 87) want ?_
             refine JY.skip (hi := rfl) 47 (ba 54 281474976710655) (some 88) (wantOff 46 87 true rfl) ?_
             refine JY.skip (hi := rfl) 48 (ba 54 562949953421311) (some 89) (wantOff 46 87 true rfl) ?_
             refine JY.skip (hi := rfl) 49 (ba 54 1125899906842623) (some 90) (wantOff 46 87 true rfl) ?_
             refine JY.skip (hi := rfl) 50 (ba 54 2251799813685247) (some 91) (wantOff 46 87 true rfl) ?_
             refine JY.skip (hi := rfl) 51 (ba 54 4503599627370495) (some 92) (wantOff 46 87 true rfl) ?_
             refine JY.puw (hi := rfl) 52 (ba 54 9007199254740991) (.bool false) (some 93) want (givesW_pickF rfl) ?_
             refine JY.pur (hi := rfl) 53 (ba 54 18014398509481983) (.bool false) (some 0) want ?_
             refine JY.done ?_
             refine JQ.then_normal ?_
             refine JQ.sub [(0, .bool false)] ?_
             refine JQ.mask [] [false, false, false, false, false] ?_
             refine J.ret ?_
             obtain rfl := Option.some.inj H0
             exact JQ.done' (rs := [.tmp 0]) (vs := [.bool false]) [] (.inr rfl) ⟨by kernel_rfl, trivial⟩ (fun _ h => Heap.to h) ⟨rfl, rfl⟩
         · refine JY.start [] (ba 54 0) ?_
           refine JY.pur (hi := rfl) 0 (ba 54 1) (.int .i64 t3.2) (some 41) want ?_
           refine JY.pur (hi := rfl) 1 (ba 54 3) (.bool (decide (t3.2 = 0))) (some 42) want ?_
           refine JY.pur (hi := rfl) 2 (ba 54 7) (.bool (decide (t3.2 = 0))) (some 43) want ?_
           refine JY.takeG 3 (ba 54 15) (mv_23 t3.1) (some 44) [true, true, true, true, true] rfl (wantOn 2 43 h34) (yields_load_boxes 0 0 (cl_23 t3.1) (holds_box b5 23 (cl_23 t3.1)) tyAgg_23 tySize_23) ?_
           refine JY.all [4] ⟨⟨_, rfl, ?_⟩, trivial⟩
           refine JL.on 2 43 h34 ?_
           refine JL.call [] [] [] (law33_of.ok 2 0 1 _ hc36) trivial ?_
           rintro _ _ ⟨rfl, rfl⟩
           refine JL.nil ?_
           refine JY.ran (ba 54 31) [true, true, true, true, true] ?_
           refine JY.takeG 5 (ba 54 63) (.bool (decide (t3.1 = t35))) (some 46) [true, true, true, true, true] rfl (wantOn 2 43 h34) (gives_eql eqg_23 (fun w => eqt_23 t3.1 t35 w)) ?_
           refine JY.puw (hi := rfl) 6 (ba 54 127) (.bool (decide (t3.1 = t35))) (some 47) want (givesW_pickT h34) ?_
           refine JY.pur (hi := rfl) 7 (ba 54 255) (.bool (decide (t3.1 = t35))) (some 48) want ?_
           refine JY.pur (hi := rfl) 8 (ba 54 511) (.int .i64 t8.2) (some 49) (wantOn 7 48 h37) ?_
           refine JY.pur (hi := rfl) 9 (ba 54 1023) (.bool (decide (t8.2 = 0))) (some 50) (wantOn 7 48 h37) ?_
           refine JY.puw (hi := rfl) 10 (ba 54 2047) (.bool (decide (t8.2 = 0))) (some 51) want (givesW_pickT h37) ?_
           refine JY.pur (hi := rfl) 11 (ba 54 4095) (.bool (decide (t8.2 = 0))) (some 52) want ?_
           refine JY.takeG 12 (ba 54 8191) (mv_23 t8.1) (some 53) [true, true, true, true, true] rfl (wantOn 11 52 h38) (yields_load_boxes 1 0 (cl_23 t8.1) (holds_box b10 23 (cl_23 t8.1)) tyAgg_23 tySize_23) ?_
           refine JY.all [13] ⟨⟨_, rfl, ?_⟩, trivial⟩
           refine JL.on 11 52 h38 ?_
           refine JL.call [] [] [] (law33_of.ok 3 0 1 _ hc40) trivial ?_
           rintro _ _ ⟨rfl, rfl⟩
           refine JL.nil ?_
           refine JY.ran (ba 54 16383) [true, true, true, true, true] ?_
           refine JY.takeG 14 (ba 54 32767) (.bool (decide (t8.1 = t39))) (some 55) [true, true, true, true, true] rfl (wantOn 11 52 h38) (gives_eql eqg_23 (fun w => eqt_23 t8.1 t39 w)) ?_
           refine JY.puw (hi := rfl) 15 (ba 54 65535) (.bool (decide (t8.1 = t39))) (some 56) want (givesW_pickT h38) ?_
           refine JY.pur (hi := rfl) 16 (ba 54 131071) (.bool (decide (t8.1 = t39))) (some 57) want ?_
           refine JY.pur (hi := rfl) 17 (ba 54 262143) (.int .i64 t13.2) (some 58) (wantOn 16 57 h41) ?_
           refine JY.pur (hi := rfl) 18 (ba 54 524287) (.bool (decide (t13.2 = 0))) (some 59) (wantOn 16 57 h41) ?_
           refine JY.puw (hi := rfl) 19 (ba 54 1048575) (.bool (decide (t13.2 = 0))) (some 60) want (givesW_pickT h41) ?_
           refine JY.pur (hi := rfl) 20 (ba 54 2097151) (.bool (decide (t13.2 = 0))) (some 61) want ?_
           refine JY.skip (hi := rfl) 21 (ba 54 4194303) (some 62) (wantOff 20 61 true h42) ?_
           refine JY.skip (hi := rfl) 22 (ba 54 8388607) (some 63) (wantOff 20 61 true h42) ?_
           refine JY.skip (hi := rfl) 23 (ba 54 16777215) (some 64) (wantOff 20 61 true h42) ?_
           refine JY.skip (hi := rfl) 24 (ba 54 33554431) (some 65) (wantOff 20 61 true h42) ?_
           refine JY.skip (hi := rfl) 25 (ba 54 67108863) (some 66) (wantOff 20 61 true h42) ?_
           refine JY.skip (hi := rfl) 26 (ba 54 134217727) (some 67) (wantOff 20 61 true h42) ?_
           refine JY.skip (hi := rfl) 27 (ba 54 268435455) (some 68) (wantOff 20 61 true h42) ?_
           refine JY.puw (hi := rfl) 28 (ba 54 536870911) (.bool false) (some 69) want (givesW_pickF h42) ?_
           refine JY.pur (hi := rfl) 29 (ba 54 1073741823) (.bool false) (some 70) want ?_
           refine JY.skip (hi := rfl) 30 (ba 54 2147483647) (some 71) (wantOff 29 70 true rfl) ?_
           refine JY.skip (hi := rfl) 31 (ba 54 4294967295) (some 72) (wantOff 29 70 true rfl) ?_
           refine JY.puw (hi := rfl) 32 (ba 54 8589934591) (.bool false) (some 73) want (givesW_pickF rfl) ?_
           refine JY.pur (hi := rfl) 33 (ba 54 17179869183) (.bool false) (some 74) want ?_
           refine JY.skip (hi := rfl) 34 (ba 54 34359738367) (some 75) (wantOff 33 74 true rfl) ?_
           refine JY.skip (hi := rfl) 35 (ba 54 68719476735) (some 76) (wantOff 33 74 true rfl) ?_
           refine JY.skip (hi := rfl) 36 (ba 54 137438953471) (some 77) (wantOff 33 74 true rfl) ?_
           refine JY.skip (hi := rfl) 37 (ba 54 274877906943) (some 78) (wantOff 33 74 true rfl) ?_
           refine JY.skip (hi := rfl) 38 (ba 54 549755813887) (some 79) (wantOff 33 74 true rfl) ?_
           refine JY.skip (hi := rfl) 39 (ba 54 1099511627775) (some 80) (wantOff 33 74 true rfl) ?_
           refine JY.skip (hi := rfl) 40 (ba 54 2199023255551) (some 81) (wantOff 33 74 true rfl) ?_
           refine JY.puw (hi := rfl) 41 (ba 54 4398046511103) (.bool false) (some 82) want (givesW_pickF rfl) ?_
           refine JY.pur (hi := rfl) 42 (ba 54 8796093022207) (.bool false) (some 83) want ?_
           refine JY.skip (hi := rfl) 43 (ba 54 17592186044415) (some 84) (wantOff 42 83 true rfl) ?_
           refine JY.skip (hi := rfl) 44 (ba 54 35184372088831) (some 85) (wantOff 42 83 true rfl) ?_
           refine JY.puw (hi := rfl) 45 (ba 54 70368744177663) (.bool false) (some 86) want (givesW_pickF rfl) ?_
           refine JY.pur (hi := rfl) 46 (ba 54 140737488355327) (.bool false) (some 87) want ?_
           refine JY.skip (hi := rfl) 47 (ba 54 281474976710655) (some 88) (wantOff 46 87 true rfl) ?_
           refine JY.skip (hi := rfl) 48 (ba 54 562949953421311) (some 89) (wantOff 46 87 true rfl) ?_
           refine JY.skip (hi := rfl) 49 (ba 54 1125899906842623) (some 90) (wantOff 46 87 true rfl) ?_
           refine JY.skip (hi := rfl) 50 (ba 54 2251799813685247) (some 91) (wantOff 46 87 true rfl) ?_
           refine JY.skip (hi := rfl) 51 (ba 54 4503599627370495) (some 92) (wantOff 46 87 true rfl) ?_
           refine JY.puw (hi := rfl) 52 (ba 54 9007199254740991) (.bool false) (some 93) want (givesW_pickF rfl) ?_
           refine JY.pur (hi := rfl) 53 (ba 54 18014398509481983) (.bool false) (some 0) want ?_
           refine JY.done ?_
           refine JQ.then_normal ?_
           refine JQ.sub [(0, .bool false)] ?_
           refine JQ.mask [] [false, false, false, false, false] ?_
           refine J.ret ?_
           obtain rfl := Option.some.inj H0
           exact JQ.done' (rs := [.tmp 0]) (vs := [.bool false]) [] (.inr rfl) ⟨by kernel_rfl, trivial⟩ (fun _ h => Heap.to h) ⟨rfl, rfl⟩
       · refine JY.start [] (ba 54 0) ?_
         refine JY.pur (hi := rfl) 0 (ba 54 1) (.int .i64 t3.2) (some 41) want ?_
         refine JY.pur (hi := rfl) 1 (ba 54 3) (.bool (decide (t3.2 = 0))) (some 42) want ?_
         refine JY.pur (hi := rfl) 2 (ba 54 7) (.bool (decide (t3.2 = 0))) (some 43) want ?_
         refine JY.takeG 3 (ba 54 15) (mv_23 t3.1) (some 44) [true, true, true, true, true] rfl (wantOn 2 43 h34) (yields_load_boxes 0 0 (cl_23 t3.1) (holds_box b5 23 (cl_23 t3.1)) tyAgg_23 tySize_23) ?_
         refine JY.all [4] ⟨⟨_, rfl, ?_⟩, trivial⟩
         refine JL.on 2 43 h34 ?_
         refine JL.call [] [] [] (law33_of.ok 2 0 1 _ hc36) trivial ?_
         rintro _ _ ⟨rfl, rfl⟩
         refine JL.nil ?_
         refine JY.ran (ba 54 31) [true, true, true, true, true] ?_
         refine JY.takeG 5 (ba 54 63) (.bool (decide (t3.1 = t35))) (some 46) [true, true, true, true, true] rfl (wantOn 2 43 h34) (gives_eql eqg_23 (fun w => eqt_23 t3.1 t35 w)) ?_
         refine JY.puw (hi := rfl) 6 (ba 54 127) (.bool (decide (t3.1 = t35))) (some 47) want (givesW_pickT h34) ?_
         refine JY.pur (hi := rfl) 7 (ba 54 255) (.bool (decide (t3.1 = t35))) (some 48) want ?_
         refine JY.pur (hi := rfl) 8 (ba 54 511) (.int .i64 t8.2) (some 49) (wantOn 7 48 h37) ?_
         refine JY.pur (hi := rfl) 9 (ba 54 1023) (.bool (decide (t8.2 = 0))) (some 50) (wantOn 7 48 h37) ?_
         refine JY.puw (hi := rfl) 10 (ba 54 2047) (.bool (decide (t8.2 = 0))) (some 51) want (givesW_pickT h37) ?_
         refine JY.pur (hi := rfl) 11 (ba 54 4095) (.bool (decide (t8.2 = 0))) (some 52) want ?_
         refine JY.takeG 12 (ba 54 8191) (mv_23 t8.1) (some 53) [true, true, true, true, true] rfl (wantOn 11 52 h38) (yields_load_boxes 1 0 (cl_23 t8.1) (holds_box b10 23 (cl_23 t8.1)) tyAgg_23 tySize_23) ?_
         refine JY.all [13] ⟨⟨_, rfl, ?_⟩, trivial⟩
         refine JL.on 11 52 h38 ?_
         refine JL.call [] [] [] (law33_of.ok 3 0 1 _ hc40) trivial ?_
         rintro _ _ ⟨rfl, rfl⟩
         refine JL.nil ?_
         refine JY.ran (ba 54 16383) [true, true, true, true, true] ?_
         refine JY.takeG 14 (ba 54 32767) (.bool (decide (t8.1 = t39))) (some 55) [true, true, true, true, true] rfl (wantOn 11 52 h38) (gives_eql eqg_23 (fun w => eqt_23 t8.1 t39 w)) ?_
         refine JY.puw (hi := rfl) 15 (ba 54 65535) (.bool (decide (t8.1 = t39))) (some 56) want (givesW_pickT h38) ?_
         refine JY.pur (hi := rfl) 16 (ba 54 131071) (.bool (decide (t8.1 = t39))) (some 57) want ?_
         refine JY.skip (hi := rfl) 17 (ba 54 262143) (some 58) (wantOff 16 57 true h41) ?_
         refine JY.skip (hi := rfl) 18 (ba 54 524287) (some 59) (wantOff 16 57 true h41) ?_
         refine JY.puw (hi := rfl) 19 (ba 54 1048575) (.bool false) (some 60) want (givesW_pickF h41) ?_
         refine JY.pur (hi := rfl) 20 (ba 54 2097151) (.bool false) (some 61) want ?_
         refine JY.skip (hi := rfl) 21 (ba 54 4194303) (some 62) (wantOff 20 61 true rfl) ?_
         refine JY.skip (hi := rfl) 22 (ba 54 8388607) (some 63) (wantOff 20 61 true rfl) ?_
         refine JY.skip (hi := rfl) 23 (ba 54 16777215) (some 64) (wantOff 20 61 true rfl) ?_
         refine JY.skip (hi := rfl) 24 (ba 54 33554431) (some 65) (wantOff 20 61 true rfl) ?_
         refine JY.skip (hi := rfl) 25 (ba 54 67108863) (some 66) (wantOff 20 61 true rfl) ?_
         refine JY.skip (hi := rfl) 26 (ba 54 134217727) (some 67) (wantOff 20 61 true rfl) ?_
         refine JY.skip (hi := rfl) 27 (ba 54 268435455) (some 68) (wantOff 20 61 true rfl) ?_
         refine JY.puw (hi := rfl) 28 (ba 54 536870911) (.bool false) (some 69) want (givesW_pickF rfl) ?_
         refine JY.pur (hi := rfl) 29 (ba 54 1073741823) (.bool false) (some 70) want ?_
         refine JY.skip (hi := rfl) 30 (ba 54 2147483647) (some 71) (wantOff 29 70 true rfl) ?_
         refine JY.skip (hi := rfl) 31 (ba 54 4294967295) (some 72) (wantOff 29 70 true rfl) ?_
         refine JY.puw (hi := rfl) 32 (ba 54 8589934591) (.bool false) (some 73) want (givesW_pickF rfl) ?_
         refine JY.pur (hi := rfl) 33 (ba 54 17179869183) (.bool false) (some 74) want ?_
         refine JY.skip (hi := rfl) 34 (ba 54 34359738367) (some 75) (wantOff 33 74 true rfl) ?_
         refine JY.skip (hi := rfl) 35 (ba 54 68719476735) (some 76) (wantOff 33 74 true rfl) ?_
         refine JY.skip (hi := rfl) 36 (ba 54 137438953471) (some 77) (wantOff 33 74 true rfl) ?_
         refine JY.skip (hi := rfl) 37 (ba 54 274877906943) (some 78) (wantOff 33 74 true rfl) ?_
         refine JY.skip (hi := rfl) 38 (ba 54 549755813887) (some 79) (wantOff 33 74 true rfl) ?_
         refine JY.skip (hi := rfl) 39 (ba 54 1099511627775) (some 80) (wantOff 33 74 true rfl) ?_
         refine JY.skip (hi := rfl) 40 (ba 54 2199023255551) (some 81) (wantOff 33 74 true rfl) ?_
         refine JY.puw (hi := rfl) 41 (ba 54 4398046511103) (.bool false) (some 82) want (givesW_pickF rfl) ?_
         refine JY.pur (hi := rfl) 42 (ba 54 8796093022207) (.bool false) (some 83) want ?_
         refine JY.skip (hi := rfl) 43 (ba 54 17592186044415) (some 84) (wantOff 42 83 true rfl) ?_
         refine JY.skip (hi := rfl) 44 (ba 54 35184372088831) (some 85) (wantOff 42 83 true rfl) ?_
         refine JY.puw (hi := rfl) 45 (ba 54 70368744177663) (.bool false) (some 86) want (givesW_pickF rfl) ?_
         refine JY.pur (hi := rfl) 46 (ba 54 140737488355327) (.bool false) (some 87) want ?_
         refine JY.skip (hi := rfl) 47 (ba 54 281474976710655) (some 88) (wantOff 46 87 true rfl) ?_
         refine JY.skip (hi := rfl) 48 (ba 54 562949953421311) (some 89) (wantOff 46 87 true rfl) ?_
         refine JY.skip (hi := rfl) 49 (ba 54 1125899906842623) (some 90) (wantOff 46 87 true rfl) ?_
         refine JY.skip (hi := rfl) 50 (ba 54 2251799813685247) (some 91) (wantOff 46 87 true rfl) ?_
         refine JY.skip (hi := rfl) 51 (ba 54 4503599627370495) (some 92) (wantOff 46 87 true rfl) ?_
         refine JY.puw (hi := rfl) 52 (ba 54 9007199254740991) (.bool false) (some 93) want (givesW_pickF rfl) ?_
         refine JY.pur (hi := rfl) 53 (ba 54 18014398509481983) (.bool false) (some 0) want ?_
         refine JY.done ?_
         refine JQ.then_normal ?_
         refine JQ.sub [(0, .bool false)] ?_
         refine JQ.mask [] [false, false, false, false, false] ?_
         refine J.ret ?_
         obtain rfl := Option.some.inj H0
         exact JQ.done' (rs := [.tmp 0]) (vs := [.bool false]) [] (.inr rfl) ⟨by kernel_rfl, trivial⟩ (fun _ h => Heap.to h) ⟨rfl, rfl⟩
     · refine JY.start [] (ba 54 0) ?_
       refine JY.pur (hi := rfl) 0 (ba 54 1) (.int .i64 t3.2) (some 41) want ?_
       refine JY.pur (hi := rfl) 1 (ba 54 3) (.bool (decide (t3.2 = 0))) (some 42) want ?_
       refine JY.pur (hi := rfl) 2 (ba 54 7) (.bool (decide (t3.2 = 0))) (some 43) want ?_
       refine JY.takeG 3 (ba 54 15) (mv_23 t3.1) (some 44) [true, true, true, true, true] rfl (wantOn 2 43 h34) (yields_load_boxes 0 0 (cl_23 t3.1) (holds_box b5 23 (cl_23 t3.1)) tyAgg_23 tySize_23) ?_
       refine JY.all [4] ⟨⟨_, rfl, ?_⟩, trivial⟩
       refine JL.on 2 43 h34 ?_
       refine JL.call [] [] [] (law33_of.ok 2 0 1 _ hc36) trivial ?_
       rintro _ _ ⟨rfl, rfl⟩
       refine JL.nil ?_
       refine JY.ran (ba 54 31) [true, true, true, true, true] ?_
       refine JY.takeG 5 (ba 54 63) (.bool (decide (t3.1 = t35))) (some 46) [true, true, true, true, true] rfl (wantOn 2 43 h34) (gives_eql eqg_23 (fun w => eqt_23 t3.1 t35 w)) ?_
       refine JY.puw (hi := rfl) 6 (ba 54 127) (.bool (decide (t3.1 = t35))) (some 47) want (givesW_pickT h34) ?_
       refine JY.pur (hi := rfl) 7 (ba 54 255) (.bool (decide (t3.1 = t35))) (some 48) want ?_
       refine JY.pur (hi := rfl) 8 (ba 54 511) (.int .i64 t8.2) (some 49) (wantOn 7 48 h37) ?_
       refine JY.pur (hi := rfl) 9 (ba 54 1023) (.bool (decide (t8.2 = 0))) (some 50) (wantOn 7 48 h37) ?_
       refine JY.puw (hi := rfl) 10 (ba 54 2047) (.bool (decide (t8.2 = 0))) (some 51) want (givesW_pickT h37) ?_
       refine JY.pur (hi := rfl) 11 (ba 54 4095) (.bool (decide (t8.2 = 0))) (some 52) want ?_
       refine JY.skip (hi := rfl) 12 (ba 54 8191) (some 53) (wantOff 11 52 true h38) ?_
       refine JY.skip (hi := rfl) 13 (ba 54 16383) (some 54) (wantOff 11 52 true h38) ?_
       refine JY.skip (hi := rfl) 14 (ba 54 32767) (some 55) (wantOff 11 52 true h38) ?_
       refine JY.puw (hi := rfl) 15 (ba 54 65535) (.bool false) (some 56) want (givesW_pickF h38) ?_
       refine JY.pur (hi := rfl) 16 (ba 54 131071) (.bool false) (some 57) want ?_
       refine JY.skip (hi := rfl) 17 (ba 54 262143) (some 58) (wantOff 16 57 true rfl) ?_
       refine JY.skip (hi := rfl) 18 (ba 54 524287) (some 59) (wantOff 16 57 true rfl) ?_
       refine JY.puw (hi := rfl) 19 (ba 54 1048575) (.bool false) (some 60) want (givesW_pickF rfl) ?_
       refine JY.pur (hi := rfl) 20 (ba 54 2097151) (.bool false) (some 61) want ?_
       refine JY.skip (hi := rfl) 21 (ba 54 4194303) (some 62) (wantOff 20 61 true rfl) ?_
       refine JY.skip (hi := rfl) 22 (ba 54 8388607) (some 63) (wantOff 20 61 true rfl) ?_
       refine JY.skip (hi := rfl) 23 (ba 54 16777215) (some 64) (wantOff 20 61 true rfl) ?_
       refine JY.skip (hi := rfl) 24 (ba 54 33554431) (some 65) (wantOff 20 61 true rfl) ?_
       refine JY.skip (hi := rfl) 25 (ba 54 67108863) (some 66) (wantOff 20 61 true rfl) ?_
       refine JY.skip (hi := rfl) 26 (ba 54 134217727) (some 67) (wantOff 20 61 true rfl) ?_
       refine JY.skip (hi := rfl) 27 (ba 54 268435455) (some 68) (wantOff 20 61 true rfl) ?_
       refine JY.puw (hi := rfl) 28 (ba 54 536870911) (.bool false) (some 69) want (givesW_pickF rfl) ?_
       refine JY.pur (hi := rfl) 29 (ba 54 1073741823) (.bool false) (some 70) want ?_
       refine JY.skip (hi := rfl) 30 (ba 54 2147483647) (some 71) (wantOff 29 70 true rfl) ?_
       refine JY.skip (hi := rfl) 31 (ba 54 4294967295) (some 72) (wantOff 29 70 true rfl) ?_
       refine JY.puw (hi := rfl) 32 (ba 54 8589934591) (.bool false) (some 73) want (givesW_pickF rfl) ?_
       refine JY.pur (hi := rfl) 33 (ba 54 17179869183) (.bool false) (some 74) want ?_
       refine JY.skip (hi := rfl) 34 (ba 54 34359738367) (some 75) (wantOff 33 74 true rfl) ?_
       refine JY.skip (hi := rfl) 35 (ba 54 68719476735) (some 76) (wantOff 33 74 true rfl) ?_
       refine JY.skip (hi := rfl) 36 (ba 54 137438953471) (some 77) (wantOff 33 74 true rfl) ?_
       refine JY.skip (hi := rfl) 37 (ba 54 274877906943) (some 78) (wantOff 33 74 true rfl) ?_
       refine JY.skip (hi := rfl) 38 (ba 54 549755813887) (some 79) (wantOff 33 74 true rfl) ?_
       refine JY.skip (hi := rfl) 39 (ba 54 1099511627775) (some 80) (wantOff 33 74 true rfl) ?_
       refine JY.skip (hi := rfl) 40 (ba 54 2199023255551) (some 81) (wantOff 33 74 true rfl) ?_
       refine JY.puw (hi := rfl) 41 (ba 54 4398046511103) (.bool false) (some 82) want (givesW_pickF rfl) ?_
       refine JY.pur (hi := rfl) 42 (ba 54 8796093022207) (.bool false) (some 83) want ?_
       refine JY.skip (hi := rfl) 43 (ba 54 17592186044415) (some 84) (wantOff 42 83 true rfl) ?_
       refine JY.skip (hi := rfl) 44 (ba 54 35184372088831) (some 85) (wantOff 42 83 true rfl) ?_
       refine JY.puw (hi := rfl) 45 (ba 54 70368744177663) (.bool false) (some 86) want (givesW_pickF rfl) ?_
       refine JY.pur (hi := rfl) 46 (ba 54 140737488355327) (.bool false) (some 87) want ?_
       refine JY.skip (hi := rfl) 47 (ba 54 281474976710655) (some 88) (wantOff 46 87 true rfl) ?_
       refine JY.skip (hi := rfl) 48 (ba 54 562949953421311) (some 89) (wantOff 46 87 true rfl) ?_
       refine JY.skip (hi := rfl) 49 (ba 54 1125899906842623) (some 90) (wantOff 46 87 true rfl) ?_
       refine JY.skip (hi := rfl) 50 (ba 54 2251799813685247) (some 91) (wantOff 46 87 true rfl) ?_
       refine JY.skip (hi := rfl) 51 (ba 54 4503599627370495) (some 92) (wantOff 46 87 true rfl) ?_
       refine JY.puw (hi := rfl) 52 (ba 54 9007199254740991) (.bool false) (some 93) want (givesW_pickF rfl) ?_
       refine JY.pur (hi := rfl) 53 (ba 54 18014398509481983) (.bool false) (some 0) want ?_
       refine JY.done ?_
       refine JQ.then_normal ?_
       refine JQ.sub [(0, .bool false)] ?_
       refine JQ.mask [] [false, false, false, false, false] ?_
       refine J.ret ?_
       obtain rfl := Option.some.inj H0
       exact JQ.done' (rs := [.tmp 0]) (vs := [.bool false]) [] (.inr rfl) ⟨by kernel_rfl, trivial⟩ (fun _ h => Heap.to h) ⟨rfl, rfl⟩
   · refine JY.start [] (ba 54 0) ?_
     refine JY.pur (hi := rfl) 0 (ba 54 1) (.int .i64 t3.2) (some 41) want ?_
     refine JY.pur (hi := rfl) 1 (ba 54 3) (.bool (decide (t3.2 = 0))) (some 42) want ?_
     refine JY.pur (hi := rfl) 2 (ba 54 7) (.bool (decide (t3.2 = 0))) (some 43) want ?_
     refine JY.takeG 3 (ba 54 15) (mv_23 t3.1) (some 44) [true, true, true, true, true] rfl (wantOn 2 43 h34) (yields_load_boxes 0 0 (cl_23 t3.1) (holds_box b5 23 (cl_23 t3.1)) tyAgg_23 tySize_23) ?_
     refine JY.all [4] ⟨⟨_, rfl, ?_⟩, trivial⟩
     refine JL.on 2 43 h34 ?_
     refine JL.call [] [] [] (law33_of.ok 2 0 1 _ hc36) trivial ?_
     rintro _ _ ⟨rfl, rfl⟩
     refine JL.nil ?_
     refine JY.ran (ba 54 31) [true, true, true, true, true] ?_
     refine JY.takeG 5 (ba 54 63) (.bool (decide (t3.1 = t35))) (some 46) [true, true, true, true, true] rfl (wantOn 2 43 h34) (gives_eql eqg_23 (fun w => eqt_23 t3.1 t35 w)) ?_
     refine JY.puw (hi := rfl) 6 (ba 54 127) (.bool (decide (t3.1 = t35))) (some 47) want (givesW_pickT h34) ?_
     refine JY.pur (hi := rfl) 7 (ba 54 255) (.bool (decide (t3.1 = t35))) (some 48) want ?_
     refine JY.skip (hi := rfl) 8 (ba 54 511) (some 49) (wantOff 7 48 true h37) ?_
     refine JY.skip (hi := rfl) 9 (ba 54 1023) (some 50) (wantOff 7 48 true h37) ?_
     refine JY.puw (hi := rfl) 10 (ba 54 2047) (.bool false) (some 51) want (givesW_pickF h37) ?_
     refine JY.pur (hi := rfl) 11 (ba 54 4095) (.bool false) (some 52) want ?_
     refine JY.skip (hi := rfl) 12 (ba 54 8191) (some 53) (wantOff 11 52 true rfl) ?_
     refine JY.skip (hi := rfl) 13 (ba 54 16383) (some 54) (wantOff 11 52 true rfl) ?_
     refine JY.skip (hi := rfl) 14 (ba 54 32767) (some 55) (wantOff 11 52 true rfl) ?_
     refine JY.puw (hi := rfl) 15 (ba 54 65535) (.bool false) (some 56) want (givesW_pickF rfl) ?_
     refine JY.pur (hi := rfl) 16 (ba 54 131071) (.bool false) (some 57) want ?_
     refine JY.skip (hi := rfl) 17 (ba 54 262143) (some 58) (wantOff 16 57 true rfl) ?_
     refine JY.skip (hi := rfl) 18 (ba 54 524287) (some 59) (wantOff 16 57 true rfl) ?_
     refine JY.puw (hi := rfl) 19 (ba 54 1048575) (.bool false) (some 60) want (givesW_pickF rfl) ?_
     refine JY.pur (hi := rfl) 20 (ba 54 2097151) (.bool false) (some 61) want ?_
     refine JY.skip (hi := rfl) 21 (ba 54 4194303) (some 62) (wantOff 20 61 true rfl) ?_
     refine JY.skip (hi := rfl) 22 (ba 54 8388607) (some 63) (wantOff 20 61 true rfl) ?_
     refine JY.skip (hi := rfl) 23 (ba 54 16777215) (some 64) (wantOff 20 61 true rfl) ?_
     refine JY.skip (hi := rfl) 24 (ba 54 33554431) (some 65) (wantOff 20 61 true rfl) ?_
     refine JY.skip (hi := rfl) 25 (ba 54 67108863) (some 66) (wantOff 20 61 true rfl) ?_
     refine JY.skip (hi := rfl) 26 (ba 54 134217727) (some 67) (wantOff 20 61 true rfl) ?_
     refine JY.skip (hi := rfl) 27 (ba 54 268435455) (some 68) (wantOff 20 61 true rfl) ?_
     refine JY.puw (hi := rfl) 28 (ba 54 536870911) (.bool false) (some 69) want (givesW_pickF rfl) ?_
     refine JY.pur (hi := rfl) 29 (ba 54 1073741823) (.bool false) (some 70) want ?_
     refine JY.skip (hi := rfl) 30 (ba 54 2147483647) (some 71) (wantOff 29 70 true rfl) ?_
     refine JY.skip (hi := rfl) 31 (ba 54 4294967295) (some 72) (wantOff 29 70 true rfl) ?_
     refine JY.puw (hi := rfl) 32 (ba 54 8589934591) (.bool false) (some 73) want (givesW_pickF rfl) ?_
     refine JY.pur (hi := rfl) 33 (ba 54 17179869183) (.bool false) (some 74) want ?_
     refine JY.skip (hi := rfl) 34 (ba 54 34359738367) (some 75) (wantOff 33 74 true rfl) ?_
     refine JY.skip (hi := rfl) 35 (ba 54 68719476735) (some 76) (wantOff 33 74 true rfl) ?_
     refine JY.skip (hi := rfl) 36 (ba 54 137438953471) (some 77) (wantOff 33 74 true rfl) ?_
     refine JY.skip (hi := rfl) 37 (ba 54 274877906943) (some 78) (wantOff 33 74 true rfl) ?_
     refine JY.skip (hi := rfl) 38 (ba 54 549755813887) (some 79) (wantOff 33 74 true rfl) ?_
     refine JY.skip (hi := rfl) 39 (ba 54 1099511627775) (some 80) (wantOff 33 74 true rfl) ?_
     refine JY.skip (hi := rfl) 40 (ba 54 2199023255551) (some 81) (wantOff 33 74 true rfl) ?_
     refine JY.puw (hi := rfl) 41 (ba 54 4398046511103) (.bool false) (some 82) want (givesW_pickF rfl) ?_
     refine JY.pur (hi := rfl) 42 (ba 54 8796093022207) (.bool false) (some 83) want ?_
     refine JY.skip (hi := rfl) 43 (ba 54 17592186044415) (some 84) (wantOff 42 83 true rfl) ?_
     refine JY.skip (hi := rfl) 44 (ba 54 35184372088831) (some 85) (wantOff 42 83 true rfl) ?_
     refine JY.puw (hi := rfl) 45 (ba 54 70368744177663) (.bool false) (some 86) want (givesW_pickF rfl) ?_
     refine JY.pur (hi := rfl) 46 (ba 54 140737488355327) (.bool false) (some 87) want ?_
     refine JY.skip (hi := rfl) 47 (ba 54 281474976710655) (some 88) (wantOff 46 87 true rfl) ?_
     refine JY.skip (hi := rfl) 48 (ba 54 562949953421311) (some 89) (wantOff 46 87 true rfl) ?_
     refine JY.skip (hi := rfl) 49 (ba 54 1125899906842623) (some 90) (wantOff 46 87 true rfl) ?_
     refine JY.skip (hi := rfl) 50 (ba 54 2251799813685247) (some 91) (wantOff 46 87 true rfl) ?_
     refine JY.skip (hi := rfl) 51 (ba 54 4503599627370495) (some 92) (wantOff 46 87 true rfl) ?_
     refine JY.puw (hi := rfl) 52 (ba 54 9007199254740991) (.bool false) (some 93) want (givesW_pickF rfl) ?_
     refine JY.pur (hi := rfl) 53 (ba 54 18014398509481983) (.bool false) (some 0) want ?_
     refine JY.done ?_
     refine JQ.then_normal ?_
     refine JQ.sub [(0, .bool false)] ?_
     refine JQ.mask [] [false, false, false, false, false] ?_
     refine J.ret ?_
     obtain rfl := Option.some.inj H0
     exact JQ.done' (rs := [.tmp 0]) (vs := [.bool false]) [] (.inr rfl) ⟨by kernel_rfl, trivial⟩ (fun _ h => Heap.to h) ⟨rfl, rfl⟩
 · refine JY.start [] (ba 54 0) ?_
   refine JY.pur (hi := rfl) 0 (ba 54 1) (.int .i64 t3.2) (some 41) want ?_
   refine JY.pur (hi := rfl) 1 (ba 54 3) (.bool (decide (t3.2 = 0))) (some 42) want ?_
   refine JY.pur (hi := rfl) 2 (ba 54 7) (.bool (decide (t3.2 = 0))) (some 43) want ?_
   refine JY.skip (hi := rfl) 3 (ba 54 15) (some 44) (wantOff 2 43 true h34) ?_
   refine JY.skip (hi := rfl) 4 (ba 54 31) (some 45) (wantOff 2 43 true h34) ?_
   refine JY.skip (hi := rfl) 5 (ba 54 63) (some 46) (wantOff 2 43 true h34) ?_
   refine JY.puw (hi := rfl) 6 (ba 54 127) (.bool false) (some 47) want (givesW_pickF h34) ?_
   refine JY.pur (hi := rfl) 7 (ba 54 255) (.bool false) (some 48) want ?_
   refine JY.skip (hi := rfl) 8 (ba 54 511) (some 49) (wantOff 7 48 true rfl) ?_
   refine JY.skip (hi := rfl) 9 (ba 54 1023) (some 50) (wantOff 7 48 true rfl) ?_
   refine JY.puw (hi := rfl) 10 (ba 54 2047) (.bool false) (some 51) want (givesW_pickF rfl) ?_
   refine JY.pur (hi := rfl) 11 (ba 54 4095) (.bool false) (some 52) want ?_
   refine JY.skip (hi := rfl) 12 (ba 54 8191) (some 53) (wantOff 11 52 true rfl) ?_
   refine JY.skip (hi := rfl) 13 (ba 54 16383) (some 54) (wantOff 11 52 true rfl) ?_
   refine JY.skip (hi := rfl) 14 (ba 54 32767) (some 55) (wantOff 11 52 true rfl) ?_
   refine JY.puw (hi := rfl) 15 (ba 54 65535) (.bool false) (some 56) want (givesW_pickF rfl) ?_
   refine JY.pur (hi := rfl) 16 (ba 54 131071) (.bool false) (some 57) want ?_
   refine JY.skip (hi := rfl) 17 (ba 54 262143) (some 58) (wantOff 16 57 true rfl) ?_
   refine JY.skip (hi := rfl) 18 (ba 54 524287) (some 59) (wantOff 16 57 true rfl) ?_
   refine JY.puw (hi := rfl) 19 (ba 54 1048575) (.bool false) (some 60) want (givesW_pickF rfl) ?_
   refine JY.pur (hi := rfl) 20 (ba 54 2097151) (.bool false) (some 61) want ?_
   refine JY.skip (hi := rfl) 21 (ba 54 4194303) (some 62) (wantOff 20 61 true rfl) ?_
   refine JY.skip (hi := rfl) 22 (ba 54 8388607) (some 63) (wantOff 20 61 true rfl) ?_
   refine JY.skip (hi := rfl) 23 (ba 54 16777215) (some 64) (wantOff 20 61 true rfl) ?_
   refine JY.skip (hi := rfl) 24 (ba 54 33554431) (some 65) (wantOff 20 61 true rfl) ?_
   refine JY.skip (hi := rfl) 25 (ba 54 67108863) (some 66) (wantOff 20 61 true rfl) ?_
   refine JY.skip (hi := rfl) 26 (ba 54 134217727) (some 67) (wantOff 20 61 true rfl) ?_
   refine JY.skip (hi := rfl) 27 (ba 54 268435455) (some 68) (wantOff 20 61 true rfl) ?_
   refine JY.puw (hi := rfl) 28 (ba 54 536870911) (.bool false) (some 69) want (givesW_pickF rfl) ?_
   refine JY.pur (hi := rfl) 29 (ba 54 1073741823) (.bool false) (some 70) want ?_
   refine JY.skip (hi := rfl) 30 (ba 54 2147483647) (some 71) (wantOff 29 70 true rfl) ?_
   refine JY.skip (hi := rfl) 31 (ba 54 4294967295) (some 72) (wantOff 29 70 true rfl) ?_
   refine JY.puw (hi := rfl) 32 (ba 54 8589934591) (.bool false) (some 73) want (givesW_pickF rfl) ?_
   refine JY.pur (hi := rfl) 33 (ba 54 17179869183) (.bool false) (some 74) want ?_
   refine JY.skip (hi := rfl) 34 (ba 54 34359738367) (some 75) (wantOff 33 74 true rfl) ?_
   refine JY.skip (hi := rfl) 35 (ba 54 68719476735) (some 76) (wantOff 33 74 true rfl) ?_
   refine JY.skip (hi := rfl) 36 (ba 54 137438953471) (some 77) (wantOff 33 74 true rfl) ?_
   refine JY.skip (hi := rfl) 37 (ba 54 274877906943) (some 78) (wantOff 33 74 true rfl) ?_
   refine JY.skip (hi := rfl) 38 (ba 54 549755813887) (some 79) (wantOff 33 74 true rfl) ?_
   refine JY.skip (hi := rfl) 39 (ba 54 1099511627775) (some 80) (wantOff 33 74 true rfl) ?_
   refine JY.skip (hi := rfl) 40 (ba 54 2199023255551) (some 81) (wantOff 33 74 true rfl) ?_
   refine JY.puw (hi := rfl) 41 (ba 54 4398046511103) (.bool false) (some 82) want (givesW_pickF rfl) ?_
   refine JY.pur (hi := rfl) 42 (ba 54 8796093022207) (.bool false) (some 83) want ?_
   refine JY.skip (hi := rfl) 43 (ba 54 17592186044415) (some 84) (wantOff 42 83 true rfl) ?_
   refine JY.skip (hi := rfl) 44 (ba 54 35184372088831) (some 85) (wantOff 42 83 true rfl) ?_
   refine JY.puw (hi := rfl) 45 (ba 54 70368744177663) (.bool false) (some 86) want (givesW_pickF rfl) ?_
   refine JY.pur (hi := rfl) 46 (ba 54 140737488355327) (.bool false) (some 87) want ?_
   refine JY.skip (hi := rfl) 47 (ba 54 281474976710655) (some 88) (wantOff 46 87 true rfl) ?_
   refine JY.skip (hi := rfl) 48 (ba 54 562949953421311) (some 89) (wantOff 46 87 true rfl) ?_
   refine JY.skip (hi := rfl) 49 (ba 54 1125899906842623) (some 90) (wantOff 46 87 true rfl) ?_
   refine JY.skip (hi := rfl) 50 (ba 54 2251799813685247) (some 91) (wantOff 46 87 true rfl) ?_
   refine JY.skip (hi := rfl) 51 (ba 54 4503599627370495) (some 92) (wantOff 46 87 true rfl) ?_
   refine JY.puw (hi := rfl) 52 (ba 54 9007199254740991) (.bool false) (some 93) want (givesW_pickF rfl) ?_
   refine JY.pur (hi := rfl) 53 (ba 54 18014398509481983) (.bool false) (some 0) want ?_
   refine JY.done ?_
   refine JQ.then_normal ?_
   refine JQ.sub [(0, .bool false)] ?_
   refine JQ.mask [] [false, false, false, false, false] ?_
   refine J.ret ?_
   obtain rfl := Option.some.inj H0
   exact JQ.done' (rs := [.tmp 0]) (vs := [.bool false]) [] (.inr rfl) ⟨by kernel_rfl, trivial⟩ (fun _ h => Heap.to h) ⟨rfl, rfl⟩

theorem ref25_Gcd.ok (a1 : Int) (b2 : Int) (r : Int) (H0 : ref25_Gcd.f a1 b2 = some r) :
    Does Try.prog 69 [.int .i64 a1, .int .i64 b2].toArray [] [] false (fun v Δ => v = .int .i64 r ∧ Δ = []) := by
 refine Does.body (vs := [.int .i64 a1, .int .i64 b2]) Try.func69 rfl trivial trivial fun w S => ?_
 unfold ref25_Gcd.f at H0
 refine J.seq ?_
 refine J.region ?_
 refine JL.as (.int .i64 0) ?_
 refine JL.nil ?_
 refine JQ.then_normal ?_
 refine JQ.sub [(0, .int .i64 a1), (1, .int .i64 b2)] ?_
 refine J.seq ?_
 refine J.region ?_
 refine JL.mv (.int .i64 a1) ?_
 refine JL.mv (.int .i64 a1) ?_
 refine JL.pur (.int .i64 (w64 (0 - a1))) (some 7) ?_
 refine JL.pur (.int .i64 (gmax a1 (w64 (0 - a1)))) (some 8) ?_
 refine JL.mv (.int .i64 b2) ?_
 refine JL.mv (.int .i64 b2) ?_
 refine JL.pur (.int .i64 (w64 (0 - b2))) (some 11) ?_
 refine JL.pur (.int .i64 (gmax b2 (w64 (0 - b2)))) (some 12) ?_
 obtain ⟨a3, ea3, H0⟩ := lt_some H0
 refine JL.as' (k := .i64) a3 ea3 ?_
 obtain ⟨b4, eb4, H0⟩ := lt_some H0
 refine JL.as' (k := .i64) b4 eb4 ?_
 refine JL.nil ?_
 refine JQ.then_normal ?_
 refine JQ.sub [(0, .int .i64 a3), (1, .int .i64 b4)] ?_
 refine J.seq ?_
 obtain ⟨o1, hit, H0⟩ := bind_some H0
 refine J.loop (σ := (Int × Int)) (τ := Int) (G := Unit) (G' := Unit) _ o1 (fun s g => [(0, .int .i64 s.1), (1, .int .i64 s.2)]) (fun s g => []) (fun t => ref25_Gcd.k2 t = some r) (fun t g => [(0, .int .i64 t)]) (fun t g => []) (a3, b4) () hit (fun _ h => Heap.to h) ?_ ?_
 · clear hit
   rintro ⟨a13, b14⟩ ⟨⟩ st1 H1 hb1 hr1
   replace H1 : ref25_Gcd.s1 a13 b14 = some st1 := H1
   unfold ref25_Gcd.s1 at H1
   refine JQ.sub [(0, .int .i64 a13), (1, .int .i64 b14)] ?_
   refine JQ.turn (Δ' := []) (fun _ h => h.to) ?_
   refine J.seq ?_
   refine J.seq ?_
   refine J.region ?_
   refine JL.mv (.int .i64 b14) ?_
   refine JL.pur (.bool (!decide (b14 = 0))) (some 14) ?_
   refine JL.nil ?_
   refine JQ.then_normal ?_
   refine JQ.sub [(0, .int .i64 a13), (1, .int .i64 b14), (14, .bool (!decide (b14 = 0)))] ?_
   rcases ite_cases H1 with ⟨h19, H1⟩ | ⟨h19, H1⟩
   · refine J.cond_true h19 ?_
     refine J.skip ?_
     refine JQ.then_normal ?_
     refine JQ.sub [(0, .int .i64 a13), (1, .int .i64 b14)] ?_
     refine J.block ?_
     refine J.draw ?_
     refine QL.mv (.int .i64 b14) ?_
     refine QL.mv (.int .i64 a13) ?_
     refine QL.mv (.int .i64 b14) ?_
     obtain ⟨h20, H1⟩ := ite_must H1
     refine QL.val (.int .i64 (Int.tmod a13 b14)) (some 18) (gives_rem .i64 a13 b14 h20) ?_
     refine QL.as (.int .i64 b14) ?_
     obtain ⟨b21, eb21, H1⟩ := lt_some H1
     refine QL.as' (k := .i64) b21 eb21 ?_
     refine QL.nil ?_
     refine JA.nil ?_
     refine JQ.blk_normal ?_
     refine JQ.then_normal ?_
     exact JQ.again (b14, b21) () (Option.some.inj H1).symm (fun _ h => Heap.to h)
   · refine J.cond_false h19 ?_
     refine J.exit ?_
     refine JQ.then_exit ?_
     refine JQ.then_exit ?_
     refine JQ.blk_exit ?_
     rw [hb1 _ (Option.some.inj H1).symm, fin_brk] at H0
     exact JQ.met a13 () H0 (fun _ h => Heap.to h)
 · clear hit H0
   rintro a18 ⟨⟩ H0
   replace H0 : ref25_Gcd.k2 a18 = some r := H0
   unfold ref25_Gcd.k2 at H0
   refine JQ.sub [(0, .int .i64 a18)] ?_
   refine JQ.turn (Δ' := []) (fun _ h => h.to) ?_
   refine JQ.then_normal ?_
   refine J.seq ?_
   refine J.region ?_
   refine JL.mv (.int .i64 a18) ?_
   refine JL.as (.int .i64 a18) ?_
   refine JL.nil ?_
   refine JQ.then_normal ?_
   refine JQ.sub [(4, .int .i64 a18)] ?_
   refine J.ret ?_
   obtain rfl := Option.some.inj H0
   exact JQ.done' (rs := [.tmp 4]) (vs := [.int .i64 a18]) [] (.inr rfl) ⟨by kernel_rfl, trivial⟩ (fun _ h => Heap.to h) ⟨rfl, rfl⟩

theorem ref25_Check.ok (a1 : Cx) (r : Int) (H0 : ref25_Check.f a1 = some r) :
    Does Try.prog 53 [mv_23 a1].toArray [] [] false (fun v Δ => v = .int .i64 r ∧ Δ = []) := by
 refine Does.body (vs := [mv_23 a1]) Try.func53 rfl trivial trivial fun w S => ?_
 unfold ref25_Check.f at H0
 refine J.seq ?_
 refine J.region ?_
 refine JL.box (cl_23 a1) fun b2 => ?_
 refine JL.as (.int .i64 0) ?_
 refine JL.nil ?_
 refine JQ.then_normal ?_
 refine JQ.sub [(1, .pointer (some ⟨b2, 0, none⟩))] ?_
 refine J.seq ?_
 refine J.join (T := Bool) (G := Unit) (fun t => ref25_Check.k1 t = some r) (fun t g => [(41, .bool t)]) (fun t g => []) ?_ ?_
 · refine J.draw ?_
   refine QL.pur (.pointer (some ⟨b2, 2, none⟩)) (some 3) ?_
   refine QL.val (.int .i64 a1.Den) (some 4) (yields_load_box 0 2 (holds_box b2 23 (cl_23 a1)) tyAgg_2) ?_
   refine QL.pur (.bool (decide (a1.Den < 1))) (some 5) ?_
   refine QL.mv (.bool (decide (a1.Den < 1))) ?_
   rcases ite_cases H0 with ⟨h15, H0⟩ | ⟨h15, H0⟩
   · refine QL.off 3 6 false (some 7) h15 ?_
     refine QL.off 3 6 false (some 8) h15 ?_
     refine QL.off 3 6 false (some 9) h15 ?_
     refine QL.val (.bool true) (some 10) (gives_pickT h15) ?_
     refine QL.mv (.bool true) ?_
     refine QL.off 8 11 false (some 12) rfl ?_
     refine QL.off 8 11 false (some 13) rfl ?_
     refine QL.off 8 11 false (some 14) rfl ?_
     refine QL.val (.bool true) (some 15) (gives_pickT rfl) ?_
     refine QL.mv (.bool true) ?_
     refine QL.off 13 16 false (some 17) rfl ?_
     refine QL.off 13 16 false (some 18) rfl ?_
     refine QL.off 13 16 false (some 19) rfl ?_
     refine QL.val (.bool true) (some 20) (gives_pickT rfl) ?_
     refine QL.mv (.bool true) ?_
     refine QL.off 18 21 false (some 22) rfl ?_
     refine QL.off 18 21 false (some 23) rfl ?_
     refine QL.off 18 21 false (some 24) rfl ?_
     refine QL.val (.bool true) (some 25) (gives_pickT rfl) ?_
     refine QL.mv (.bool true) ?_
     refine QL.off 23 26 false (some 27) rfl ?_
     refine QL.off 23 26 false (some 28) rfl ?_
     refine QL.off 23 26 false (some 29) rfl ?_
     refine QL.val (.bool true) (some 30) (gives_pickT rfl) ?_
     refine QL.mv (.bool true) ?_
     refine QL.off 28 31 false (some 32) rfl ?_
     refine QL.off 28 31 false (some 33) rfl ?_
     refine QL.off 28 31 false (some 34) rfl ?_
     refine QL.off 28 31 false (some 35) rfl ?_
     refine QL.off 28 31 false (some 36) rfl ?_
     refine QL.off 28 31 false (some 37) rfl ?_
     refine QL.off 28 31 false (some 38) rfl ?_
     refine QL.off 28 31 false (some 39) rfl ?_
     refine QL.off 28 31 false (some 40) rfl ?_
     refine QL.val (.bool true) (some 41) (gives_pickT rfl) ?_
     refine QL.nil ?_
     refine JA.nil ?_
     refine JQ.then_normal ?_
     exact JQ.meet true () H0 (fun _ h => Heap.to (Heap.pick [] (by decide) h))
   · refine QL.on 3 6 h15 ?_
     refine QL.pur (.pointer (some ⟨b2, 2, none⟩)) (some 7) ?_
     refine QL.on 3 6 h15 ?_
     refine QL.val (.int .i64 a1.Den) (some 8) (yields_load_box 0 2 (holds_box b2 23 (cl_23 a1)) tyAgg_2) ?_
     refine QL.on 3 6 h15 ?_
     refine QL.pur (.bool (decide (1000000000 < a1.Den))) (some 9) ?_
     refine QL.val (.bool (decide (1000000000 < a1.Den))) (some 10) (gives_pickF h15) ?_
     refine QL.mv (.bool (decide (1000000000 < a1.Den))) ?_
     rcases ite_cases H0 with ⟨h16, H0⟩ | ⟨h16, H0⟩
     · refine QL.off 8 11 false (some 12) h16 ?_
       refine QL.off 8 11 false (some 13) h16 ?_
       refine QL.off 8 11 false (some 14) h16 ?_
       refine QL.val (.bool true) (some 15) (gives_pickT h16) ?_
       refine QL.mv (.bool true) ?_
       refine QL.off 13 16 false (some 17) rfl ?_
       refine QL.off 13 16 false (some 18) rfl ?_
       refine QL.off 13 16 false (some 19) rfl ?_
       refine QL.val (.bool true) (some 20) (gives_pickT rfl) ?_
       refine QL.mv (.bool true) ?_
       refine QL.off 18 21 false (some 22) rfl ?_
       refine QL.off 18 21 false (some 23) rfl ?_
       refine QL.off 18 21 false (some 24) rfl ?_
       refine QL.val (.bool true) (some 25) (gives_pickT rfl) ?_
       refine QL.mv (.bool true) ?_
       refine QL.off 23 26 false (some 27) rfl ?_
       refine QL.off 23 26 false (some 28) rfl ?_
       refine QL.off 23 26 false (some 29) rfl ?_
       refine QL.val (.bool true) (some 30) (gives_pickT rfl) ?_
       refine QL.mv (.bool true) ?_
       refine QL.off 28 31 false (some 32) rfl ?_
       refine QL.off 28 31 false (some 33) rfl ?_
       refine QL.off 28 31 false (some 34) rfl ?_
       refine QL.off 28 31 false (some 35) rfl ?_
       refine QL.off 28 31 false (some 36) rfl ?_
       refine QL.off 28 31 false (some 37) rfl ?_
       refine QL.off 28 31 false (some 38) rfl ?_
       refine QL.off 28 31 false (some 39) rfl ?_
       refine QL.off 28 31 false (some 40) rfl ?_
       refine QL.val (.bool true) (some 41) (gives_pickT rfl) ?_
       refine QL.nil ?_
       refine JA.nil ?_
       refine JQ.then_normal ?_
       exact JQ.meet true () H0 (fun _ h => Heap.to (Heap.pick [] (by decide) h))
     · refine QL.on 8 11 h16 ?_
       refine QL.pur (.pointer (some ⟨b2, 0, none⟩)) (some 12) ?_
       refine QL.on 8 11 h16 ?_
       refine QL.val (.int .i64 a1.Re) (some 13) (yields_load_box 0 0 (holds_box b2 23 (cl_23 a1)) tyAgg_2) ?_
       refine QL.on 8 11 h16 ?_
       refine QL.pur (.bool (decide (a1.Re < (-1000000000)))) (some 14) ?_
       refine QL.val (.bool (decide (a1.Re < (-1000000000)))) (some 15) (gives_pickF h16) ?_
       refine QL.mv (.bool (decide (a1.Re < (-1000000000)))) ?_
       rcases ite_cases H0 with ⟨h17, H0⟩ | ⟨h17, H0⟩
       · refine QL.off 13 16 false (some 17) h17 ?_
         refine QL.off 13 16 false (some 18) h17 ?_
         refine QL.off 13 16 false (some 19) h17 ?_
         refine QL.val (.bool true) (some 20) (gives_pickT h17) ?_
         refine QL.mv (.bool true) ?_
         refine QL.off 18 21 false (some 22) rfl ?_
         refine QL.off 18 21 false (some 23) rfl ?_
         refine QL.off 18 21 false (some 24) rfl ?_
         refine QL.val (.bool true) (some 25) (gives_pickT rfl) ?_
         refine QL.mv (.bool true) ?_
         refine QL.off 23 26 false (some 27) rfl ?_
         refine QL.off 23 26 false (some 28) rfl ?_
         refine QL.off 23 26 false (some 29) rfl ?_
         refine QL.val (.bool true) (some 30) (gives_pickT rfl) ?_
         refine QL.mv (.bool true) ?_
         refine QL.off 28 31 false (some 32) rfl ?_
         refine QL.off 28 31 false (some 33) rfl ?_
         refine QL.off 28 31 false (some 34) rfl ?_
         refine QL.off 28 31 false (some 35) rfl ?_
         refine QL.off 28 31 false (some 36) rfl ?_
         refine QL.off 28 31 false (some 37) rfl ?_
         refine QL.off 28 31 false (some 38) rfl ?_
         refine QL.off 28 31 false (some 39) rfl ?_
         refine QL.off 28 31 false (some 40) rfl ?_
         refine QL.val (.bool true) (some 41) (gives_pickT rfl) ?_
         refine QL.nil ?_
         refine JA.nil ?_
         refine JQ.then_normal ?_
         exact JQ.meet true () H0 (fun _ h => Heap.to (Heap.pick [] (by decide) h))
       · refine QL.on 13 16 h17 ?_
         refine QL.pur (.pointer (some ⟨b2, 0, none⟩)) (some 17) ?_
         refine QL.on 13 16 h17 ?_
         refine QL.val (.int .i64 a1.Re) (some 18) (yields_load_box 0 0 (holds_box b2 23 (cl_23 a1)) tyAgg_2) ?_
         refine QL.on 13 16 h17 ?_
         refine QL.pur (.bool (decide (1000000000 < a1.Re))) (some 19) ?_
         refine QL.val (.bool (decide (1000000000 < a1.Re))) (some 20) (gives_pickF h17) ?_
         refine QL.mv (.bool (decide (1000000000 < a1.Re))) ?_
         rcases ite_cases H0 with ⟨h18, H0⟩ | ⟨h18, H0⟩
         · refine QL.off 18 21 false (some 22) h18 ?_
           refine QL.off 18 21 false (some 23) h18 ?_
           refine QL.off 18 21 false (some 24) h18 ?_
           refine QL.val (.bool true) (some 25) (gives_pickT h18) ?_
           refine QL.mv (.bool true) ?_
           refine QL.off 23 26 false (some 27) rfl ?_
           refine QL.off 23 26 false (some 28) rfl ?_
           refine QL.off 23 26 false (some 29) rfl ?_
           refine QL.val (.bool true) (some 30) (gives_pickT rfl) ?_
           refine QL.mv (.bool true) ?_
           refine QL.off 28 31 false (some 32) rfl ?_
           refine QL.off 28 31 false (some 33) rfl ?_
           refine QL.off 28 31 false (some 34) rfl ?_
           refine QL.off 28 31 false (some 35) rfl ?_
           refine QL.off 28 31 false (some 36) rfl ?_
           refine QL.off 28 31 false (some 37) rfl ?_
           refine QL.off 28 31 false (some 38) rfl ?_
           refine QL.off 28 31 false (some 39) rfl ?_
           refine QL.off 28 31 false (some 40) rfl ?_
           refine QL.val (.bool true) (some 41) (gives_pickT rfl) ?_
           refine QL.nil ?_
           refine JA.nil ?_
           refine JQ.then_normal ?_
           exact JQ.meet true () H0 (fun _ h => Heap.to (Heap.pick [] (by decide) h))
         · refine QL.on 18 21 h18 ?_
           refine QL.pur (.pointer (some ⟨b2, 1, none⟩)) (some 22) ?_
           refine QL.on 18 21 h18 ?_
           refine QL.val (.int .i64 a1.Im) (some 23) (yields_load_box 0 1 (holds_box b2 23 (cl_23 a1)) tyAgg_2) ?_
           refine QL.on 18 21 h18 ?_
           refine QL.pur (.bool (decide (a1.Im < (-1000000000)))) (some 24) ?_
           refine QL.val (.bool (decide (a1.Im < (-1000000000)))) (some 25) (gives_pickF h18) ?_
           refine QL.mv (.bool (decide (a1.Im < (-1000000000)))) ?_
           rcases ite_cases H0 with ⟨h19, H0⟩ | ⟨h19, H0⟩
           · refine QL.off 23 26 false (some 27) h19 ?_
             refine QL.off 23 26 false (some 28) h19 ?_
             refine QL.off 23 26 false (some 29) h19 ?_
             refine QL.val (.bool true) (some 30) (gives_pickT h19) ?_
             refine QL.mv (.bool true) ?_
             refine QL.off 28 31 false (some 32) rfl ?_
             refine QL.off 28 31 false (some 33) rfl ?_
             refine QL.off 28 31 false (some 34) rfl ?_
             refine QL.off 28 31 false (some 35) rfl ?_
             refine QL.off 28 31 false (some 36) rfl ?_
             refine QL.off 28 31 false (some 37) rfl ?_
             refine QL.off 28 31 false (some 38) rfl ?_
             refine QL.off 28 31 false (some 39) rfl ?_
             refine QL.off 28 31 false (some 40) rfl ?_
             refine QL.val (.bool true) (some 41) (gives_pickT rfl) ?_
             refine QL.nil ?_
             refine JA.nil ?_
             refine JQ.then_normal ?_
             exact JQ.meet true () H0 (fun _ h => Heap.to (Heap.pick [] (by decide) h))
           · refine QL.on 23 26 h19 ?_
             refine QL.pur (.pointer (some ⟨b2, 1, none⟩)) (some 27) ?_
             refine QL.on 23 26 h19 ?_
             refine QL.val (.int .i64 a1.Im) (some 28) (yields_load_box 0 1 (holds_box b2 23 (cl_23 a1)) tyAgg_2) ?_
             refine QL.on 23 26 h19 ?_
             refine QL.pur (.bool (decide (1000000000 < a1.Im))) (some 29) ?_
             refine QL.val (.bool (decide (1000000000 < a1.Im))) (some 30) (gives_pickF h19) ?_
             refine QL.mv (.bool (decide (1000000000 < a1.Im))) ?_
             rcases ite_cases H0 with ⟨h20, H0⟩ | ⟨h20, H0⟩
             · refine QL.off 28 31 false (some 32) h20 ?_
               refine QL.off 28 31 false (some 33) h20 ?_
               refine QL.off 28 31 false (some 34) h20 ?_
               refine QL.off 28 31 false (some 35) h20 ?_
               refine QL.off 28 31 false (some 36) h20 ?_
               refine QL.off 28 31 false (some 37) h20 ?_
               refine QL.off 28 31 false (some 38) h20 ?_
               refine QL.off 28 31 false (some 39) h20 ?_
               refine QL.off 28 31 false (some 40) h20 ?_
               refine QL.val (.bool true) (some 41) (gives_pickT h20) ?_
               refine QL.nil ?_
               refine JA.nil ?_
               refine JQ.then_normal ?_
               exact JQ.meet true () H0 (fun _ h => Heap.to (Heap.pick [] (by decide) h))
             · refine QL.on 28 31 h20 ?_
               refine QL.pur (.pointer (some ⟨b2, 0, none⟩)) (some 32) ?_
               refine QL.on 28 31 h20 ?_
               refine QL.val (.int .i64 a1.Re) (some 33) (yields_load_box 0 0 (holds_box b2 23 (cl_23 a1)) tyAgg_2) ?_
               refine QL.on 28 31 h20 ?_
               refine QL.pur (.pointer (some ⟨b2, 1, none⟩)) (some 34) ?_
               refine QL.on 28 31 h20 ?_
               refine QL.val (.int .i64 a1.Im) (some 35) (yields_load_box 0 1 (holds_box b2 23 (cl_23 a1)) tyAgg_2) ?_
               refine QL.on 28 31 h20 ?_
               obtain ⟨t21, hc22, H0⟩ := bind_some H0
               refine QL.call [] [] (ref25_Gcd.ok a1.Re a1.Im _ hc22) trivial ?_
               refine QL.on 28 31 h20 ?_
               refine QL.pur (.pointer (some ⟨b2, 2, none⟩)) (some 37) ?_
               refine QL.on 28 31 h20 ?_
               refine QL.val (.int .i64 a1.Den) (some 38) (yields_load_box 0 2 (holds_box b2 23 (cl_23 a1)) tyAgg_2) ?_
               refine QL.on 28 31 h20 ?_
               obtain ⟨t23, hc24, H0⟩ := bind_some H0
               refine QL.call [] [] (ref25_Gcd.ok t21 a1.Den _ hc24) trivial ?_
               refine QL.on 28 31 h20 ?_
               refine QL.pur (.bool (!decide (t23 = 1))) (some 40) ?_
               refine QL.val (.bool (!decide (t23 = 1))) (some 41) (gives_pickF h20) ?_
               refine QL.nil ?_
               refine JA.nil ?_
               refine JQ.then_normal ?_
               exact JQ.meet (!decide (t23 = 1)) () H0 (fun _ h => Heap.to (Heap.pick [] (by decide) h))
 · clear H0
   rintro x13 ⟨⟩ H0
   replace H0 : ref25_Check.k1 x13 = some r := H0
   unfold ref25_Check.k1 at H0
   refine JQ.sub [(41, .bool x13)] ?_
   refine JQ.turn (Δ' := []) (fun _ h => h.to) ?_
   rcases ite_cases H0 with ⟨h14, H0⟩ | ⟨h14, H0⟩
   · refine J.cond_true h14 ?_
     refine J.seq ?_
     refine J.region ?_
     refine JL.as (.int .i64 8) ?_
     refine JL.nil ?_
     refine JQ.then_normal ?_
     refine JQ.sub [(2, .int .i64 8)] ?_
     refine J.ret ?_
     refine JQ.then_ret ?_
     obtain rfl := Option.some.inj H0
     exact JQ.done' (rs := [.tmp 2]) (vs := [.int .i64 8]) [] (.inr rfl) ⟨by kernel_rfl, trivial⟩ (fun _ h => Heap.to h) ⟨rfl, rfl⟩
   · refine J.cond_false h14 ?_
     refine J.skip ?_
     refine JQ.then_normal ?_
     refine JQ.sub [] ?_
     refine J.seq ?_
     refine J.region ?_
     refine JL.as (.int .i64 0) ?_
     refine JL.nil ?_
     refine JQ.then_normal ?_
     refine J.ret ?_
     obtain rfl := Option.some.inj H0
     exact JQ.done' (rs := [.tmp 2]) (vs := [.int .i64 0]) [] (.inr rfl) ⟨by kernel_rfl, trivial⟩ (fun _ h => Heap.to h) ⟨rfl, rfl⟩

theorem ref33_Valid.ok (a1 : (A4 Cx)) (r : Bool) (H0 : ref33_Valid.f a1 = some r) :
    Does Try.prog 24 [mv_25 a1].toArray [] [] false (fun v Δ => v = .bool r ∧ Δ = []) := by
 refine Does.body (vs := [mv_25 a1]) Try.func24 rfl trivial trivial fun w S => ?_
 unfold ref33_Valid.f at H0
 refine J.seq ?_
 refine J.region ?_
 refine JL.box (cl_25 a1) fun b2 => ?_
 refine JL.as (.bool false) ?_
 refine JL.nil ?_
 refine JQ.then_normal ?_
 refine JQ.sub [(1, .pointer (some ⟨b2, 0, none⟩))] ?_
 refine J.seq ?_
 refine J.seq ?_
 refine J.region ?_
 refine JL.as (.int .i64 0) ?_
 refine JL.nil ?_
 refine JQ.then_normal ?_
 obtain ⟨o1, hit, H0⟩ := bind_some H0
 refine J.loop (σ := Int) (τ := Unit) (G := Unit) (G' := Unit) _ o1 (fun s g => [(1, .pointer (some ⟨b2, 0, none⟩)), (3, .int .i64 s)]) (fun s g => [At.box b2 25 (cl_25 a1)]) (fun t => ref33_Valid.k2 = some r) (fun t g => []) (fun t g => []) 0 () hit (fun _ h => Heap.to h) ?_ ?_
 · clear hit
   rintro k14 ⟨⟩ st1 H1 hb1 hr1
   replace H1 : ref33_Valid.s1 a1 k14 = some st1 := H1
   unfold ref33_Valid.s1 at H1
   refine JQ.sub [(1, .pointer (some ⟨b2, 0, none⟩)), (3, .int .i64 k14)] ?_
   refine JQ.turn (Δ' := [At.box b2 25 (cl_25 a1)]) (fun _ h => h.to) ?_
   refine J.seq ?_
   refine J.seq ?_
   refine J.region ?_
   refine JL.mv (.int .i64 k14) ?_
   refine JL.pur (.bool (decide (k14 < 4))) (some 5) ?_
   refine JL.nil ?_
   refine JQ.then_normal ?_
   refine JQ.sub [(1, .pointer (some ⟨b2, 0, none⟩)), (3, .int .i64 k14), (5, .bool (decide (k14 < 4)))] ?_
   rcases ite_cases H1 with ⟨h21, H1⟩ | ⟨h21, H1⟩
   · refine J.cond_true h21 ?_
     refine J.skip ?_
     refine JQ.then_normal ?_
     refine JQ.sub [(1, .pointer (some ⟨b2, 0, none⟩)), (3, .int .i64 k14)] ?_
     refine J.seq ?_
     refine J.block ?_
     refine J.seq ?_
     refine J.region ?_
     refine JL.mv (.int .i64 k14) ?_
     obtain ⟨⟨h22, h23⟩, H1⟩ := ite_must H1
     refine JL.val (.pointer (some ⟨b2, 0 + k14.toNat * 3, none⟩)) (some 9) (gives_ixArrD (b := b2) (o := 0) (i := k14) 4 3 .i64 h22 h23 Try.underlying25 tySize_23) ?_
     refine JL.val (mv_23 (ix ([a1.e0, a1.e1, a1.e2, a1.e3] : List Cx) k14)) (some 10) (gives_loadEl (f := fl_Cx) 0 0 k14 (elems_arr b2 25 (cl_25 a1) fl_Cx ([a1.e0, a1.e1, a1.e2, a1.e3] : List Cx) 0) h22 h23 tySize_23 (.inl ⟨tyAgg_23, rfl⟩)) ?_
     obtain ⟨t24, hc25, H1⟩ := bind_some H1
     refine JL.call [] [] [] (ref25_Check.ok (ix ([a1.e0, a1.e1, a1.e2, a1.e3] : List Cx) k14) _ hc25) trivial ?_
     rintro _ _ ⟨rfl, rfl⟩
     refine JL.pur (.bool (!decide (t24 = 0))) (some 12) ?_
     refine JL.nil ?_
     refine JQ.then_normal ?_
     refine JQ.sub [(1, .pointer (some ⟨b2, 0, none⟩)), (3, .int .i64 k14), (12, .bool (!decide (t24 = 0)))] ?_
     rcases ite_cases H1 with ⟨h26, H1⟩ | ⟨h26, H1⟩
     · refine J.cond_true h26 ?_
       refine J.seq ?_
       refine J.region ?_
       refine JL.as (.bool false) ?_
       refine JL.nil ?_
       refine JQ.then_normal ?_
       refine JQ.sub [(2, .bool false)] ?_
       refine JQ.mask [] [false] ?_
       refine J.ret ?_
       refine JQ.blk_ret ?_
       refine JQ.then_ret ?_
       refine JQ.then_ret ?_
       refine JQ.blk_ret ?_
       refine JQ.met_ret ?_
       refine JQ.then_ret ?_
       rw [hr1 _ (Option.some.inj H1).symm, fin_ret] at H0
       obtain rfl := Option.some.inj H0
       exact JQ.done' (rs := [.tmp 2]) (vs := [.bool false]) [] (.inr rfl) ⟨by kernel_rfl, trivial⟩ (fun _ h => Heap.to h) ⟨rfl, rfl⟩
     · refine J.cond_false h26 ?_
       refine J.skip ?_
       refine JQ.blk_normal ?_
       refine JQ.then_normal ?_
       refine JQ.sub [(1, .pointer (some ⟨b2, 0, none⟩)), (3, .int .i64 k14)] ?_
       refine J.region ?_
       refine JL.mv (.int .i64 k14) ?_
       refine JL.pur (.int .i64 (w64 (k14 + 1))) (some 7) ?_
       refine JL.as (.int .i64 (w64 (k14 + 1))) ?_
       refine JL.nil ?_
       refine JQ.then_normal ?_
       exact JQ.again (w64 (k14 + 1)) () (Option.some.inj H1).symm (fun _ h => Heap.to h)
   · refine J.cond_false h21 ?_
     refine J.exit ?_
     refine JQ.then_exit ?_
     refine JQ.then_exit ?_
     refine JQ.blk_exit ?_
     rw [hb1 _ (Option.some.inj H1).symm, fin_brk] at H0
     exact JQ.met () () H0 (fun _ h => Heap.to (Heap.pick [] (by decide) h))
 · clear hit H0
   rintro ⟨⟩ ⟨⟩ H0
   replace H0 : ref33_Valid.k2 = some r := H0
   unfold ref33_Valid.k2 at H0
   refine JQ.sub [] ?_
   refine JQ.turn (Δ' := []) (fun _ h => h.to) ?_
   refine JQ.then_normal ?_
   refine J.seq ?_
   refine J.region ?_
   refine JL.as (.bool true) ?_
   refine JL.nil ?_
   refine JQ.then_normal ?_
   refine J.ret ?_
   obtain rfl := Option.some.inj H0
   exact JQ.done' (rs := [.tmp 2]) (vs := [.bool true]) [] (.inr rfl) ⟨by kernel_rfl, trivial⟩ (fun _ h => Heap.to h) ⟨rfl, rfl⟩

theorem ref25_Both.ok (a1 : Cx) (b2 : Cx) (r : Int) (H0 : ref25_Both.f a1 b2 = some r) :
    Does Try.prog 64 [mv_23 a1, mv_23 b2].toArray [] [] false (fun v Δ => v = .int .i64 r ∧ Δ = []) := by
 refine Does.body (vs := [mv_23 a1, mv_23 b2]) Try.func64 rfl trivial trivial fun w S => ?_
 unfold ref25_Both.f at H0
 refine J.seq ?_
 refine J.region ?_
 refine JL.box (cl_23 a1) fun b3 => ?_
 refine JL.box (cl_23 b2) fun b4 => ?_
 refine JL.as (.int .i64 0) ?_
 refine JL.nil ?_
 refine JQ.then_normal ?_
 refine JQ.sub [(2, .pointer (some ⟨b3, 0, none⟩)), (3, .pointer (some ⟨b4, 0, none⟩))] ?_
 refine J.seq ?_
 refine J.join (T := Bool) (G := Unit) (fun t => ref25_Both.k1 t = some r) (fun t g => [(12, .bool t)]) (fun t g => []) ?_ ?_
 · refine J.region ?_
   refine JL.val (mv_23 a1) (some 5) (yields_load_boxes 0 0 (cl_23 a1) (holds_box b3 23 (cl_23 a1)) tyAgg_23 tySize_23) ?_
   obtain ⟨t12, hc13, H0⟩ := bind_some H0
   refine JL.call [] [] [] (ref25_Check.ok a1 _ hc13) trivial ?_
   rintro _ _ ⟨rfl, rfl⟩
   refine JL.pur (.bool (!decide (t12 = 0))) (some 7) ?_
   refine JL.mv (.bool (!decide (t12 = 0))) ?_
   rcases ite_cases H0 with ⟨h14, H0⟩ | ⟨h14, H0⟩
   · refine JL.off 3 8 false (some 9) h14 ?_
     refine JL.off 3 8 false (some 10) h14 ?_
     refine JL.off 3 8 false (some 11) h14 ?_
     refine JL.val (.bool true) (some 12) (gives_pickT h14) ?_
     refine JL.nil ?_
     refine JQ.then_normal ?_
     exact JQ.meet true () H0 (fun _ h => Heap.to (Heap.pick [] (by decide) h))
   · refine JL.on 3 8 h14 ?_
     refine JL.val (mv_23 b2) (some 9) (yields_load_boxes 1 0 (cl_23 b2) (holds_box b4 23 (cl_23 b2)) tyAgg_23 tySize_23) ?_
     refine JL.on 3 8 h14 ?_
     obtain ⟨t15, hc16, H0⟩ := bind_some H0
     refine JL.call [] [] [] (ref25_Check.ok b2 _ hc16) trivial ?_
     rintro _ _ ⟨rfl, rfl⟩
     refine JL.on 3 8 h14 ?_
     refine JL.pur (.bool (!decide (t15 = 0))) (some 11) ?_
     refine JL.val (.bool (!decide (t15 = 0))) (some 12) (gives_pickF h14) ?_
     refine JL.nil ?_
     refine JQ.then_normal ?_
     exact JQ.meet (!decide (t15 = 0)) () H0 (fun _ h => Heap.to (Heap.pick [] (by decide) h))
 · clear H0
   rintro x10 ⟨⟩ H0
   replace H0 : ref25_Both.k1 x10 = some r := H0
   unfold ref25_Both.k1 at H0
   refine JQ.sub [(12, .bool x10)] ?_
   refine JQ.turn (Δ' := []) (fun _ h => h.to) ?_
   rcases ite_cases H0 with ⟨h11, H0⟩ | ⟨h11, H0⟩
   · refine J.cond_true h11 ?_
     refine J.seq ?_
     refine J.region ?_
     refine JL.as (.int .i64 8) ?_
     refine JL.nil ?_
     refine JQ.then_normal ?_
     refine JQ.sub [(4, .int .i64 8)] ?_
     refine J.ret ?_
     refine JQ.then_ret ?_
     obtain rfl := Option.some.inj H0
     exact JQ.done' (rs := [.tmp 4]) (vs := [.int .i64 8]) [] (.inr rfl) ⟨by kernel_rfl, trivial⟩ (fun _ h => Heap.to h) ⟨rfl, rfl⟩
   · refine J.cond_false h11 ?_
     refine J.skip ?_
     refine JQ.then_normal ?_
     refine JQ.sub [] ?_
     refine J.seq ?_
     refine J.region ?_
     refine JL.as (.int .i64 0) ?_
     refine JL.nil ?_
     refine JQ.then_normal ?_
     refine J.ret ?_
     obtain rfl := Option.some.inj H0
     exact JQ.done' (rs := [.tmp 4]) (vs := [.int .i64 0]) [] (.inr rfl) ⟨by kernel_rfl, trivial⟩ (fun _ h => Heap.to h) ⟨rfl, rfl⟩

theorem ref25_made.ok (re1 : Int) (im2 : Int) (den3 : Int) (r : (Cx × Int)) (H0 : ref25_made.f re1 im2 den3 = some r) :
    Does Try.prog 65 [.int .i64 re1, .int .i64 im2, .int .i64 den3].toArray [] [] false (fun v Δ => v = .tuple #[mv_23 r.1, .int .i64 r.2] ∧ Δ = []) := by
 refine Does.body (vs := [.int .i64 re1, .int .i64 im2, .int .i64 den3]) Try.func65 rfl trivial trivial fun w S => ?_
 unfold ref25_made.f at H0
 refine J.seq ?_
 refine J.region ?_
 refine JL.alloc (cl_23 zv_23) fun b4 => ?_
 refine JL.as (.int .i64 0) ?_
 refine JL.nil ?_
 refine JQ.then_normal ?_
 refine JQ.sub [(0, .int .i64 re1), (1, .int .i64 im2), (2, .int .i64 den3), (6, .pointer (some ⟨b4, 0, none⟩))] ?_
 refine J.seq ?_
 refine J.seq ?_
 refine J.region ?_
 refine JL.mv (.int .i64 den3) ?_
 refine JL.pur (.bool (decide (den3 = 0))) (some 11) ?_
 refine JL.nil ?_
 refine JQ.then_normal ?_
 refine JQ.sub [(0, .int .i64 re1), (1, .int .i64 im2), (2, .int .i64 den3), (6, .pointer (some ⟨b4, 0, none⟩)), (11, .bool (decide (den3 = 0)))] ?_
 rcases ite_cases H0 with ⟨h5, H0⟩ | ⟨h5, H0⟩
 · refine J.cond_true h5 ?_
   refine J.seq ?_
   refine J.region ?_
   refine JL.pur (mv_23 zv_23) (some 12) ?_
   refine JL.store 0 b4 0 23 (cl_23 zv_23) (cl_23 zv_23) tySize_23 ?_
   refine JL.as (.int .i64 18) ?_
   refine JL.nil ?_
   refine JQ.then_normal ?_
   refine JQ.sub [(6, .pointer (some ⟨b4, 0, none⟩)), (7, .int .i64 18)] ?_
   refine J.ret ?_
   refine JQ.then_ret ?_
   obtain rfl := Option.some.inj H0
   exact JQ.done' (rs := [.cell 6 23, .tmp 7]) (vs := [.agg #[.int .i64 0, .int .i64 0, .int .i64 0], .int .i64 18]) [] (.inr rfl) ⟨⟨b4, 0, _, _, by kernel_rfl, by kernel_rfl, holds_box b4 23 (cl_23 zv_23), .inl ⟨tyAgg_23, tySize_23, rfl⟩⟩, by kernel_rfl, trivial⟩ (fun _ h => Heap.to (Heap.pick [] (by decide) h)) ⟨rfl, rfl⟩
 · refine J.cond_false h5 ?_
   refine J.skip ?_
   refine JQ.then_normal ?_
   refine JQ.sub [(0, .int .i64 re1), (1, .int .i64 im2), (2, .int .i64 den3), (6, .pointer (some ⟨b4, 0, none⟩))] ?_
   refine J.seq ?_
   refine J.region ?_
   refine JL.mv (.int .i64 re1) ?_
   refine JL.mv (.int .i64 im2) ?_
   obtain ⟨t6, hc7, H0⟩ := bind_some H0
   refine JL.call [] [] [] (ref25_Gcd.ok re1 im2 _ hc7) trivial ?_
   rintro _ _ ⟨rfl, rfl⟩
   refine JL.mv (.int .i64 den3) ?_
   obtain ⟨t8, hc9, H0⟩ := bind_some H0
   refine JL.call [] [] [] (ref25_Gcd.ok t6 den3 _ hc9) trivial ?_
   rintro _ _ ⟨rfl, rfl⟩
   refine JL.as (.int .i64 t8) ?_
   refine JL.nil ?_
   refine JQ.then_normal ?_
   refine JQ.sub [(0, .int .i64 re1), (1, .int .i64 im2), (2, .int .i64 den3), (6, .pointer (some ⟨b4, 0, none⟩)), (8, .int .i64 t8)] ?_
   refine J.join (T := Int) (G := Unit) (fun t => ref25_made.k1 re1 im2 den3 t = some r) (fun t g => [(0, .int .i64 re1), (1, .int .i64 im2), (2, .int .i64 den3), (6, .pointer (some ⟨b4, 0, none⟩)), (8, .int .i64 t)]) (fun t g => [At.box b4 23 (cl_23 zv_23)]) ?_ ?_
   · refine J.seq ?_
     refine J.region ?_
     refine JL.mv (.int .i64 den3) ?_
     refine JL.pur (.bool (decide (den3 < 0))) (some 19) ?_
     refine JL.nil ?_
     refine JQ.then_normal ?_
     refine JQ.sub [(0, .int .i64 re1), (1, .int .i64 im2), (2, .int .i64 den3), (6, .pointer (some ⟨b4, 0, none⟩)), (8, .int .i64 t8), (19, .bool (decide (den3 < 0)))] ?_
     rcases ite_cases H0 with ⟨h19, H0⟩ | ⟨h19, H0⟩
     · refine J.cond_true h19 ?_
       refine J.region ?_
       refine JL.mv (.int .i64 t8) ?_
       refine JL.pur (.int .i64 (w64 (0 - t8))) (some 21) ?_
       refine JL.as (.int .i64 (w64 (0 - t8))) ?_
       refine JL.nil ?_
       refine JQ.then_normal ?_
       exact JQ.meet (w64 (0 - t8)) () H0 (fun _ h => Heap.to h)
     · refine J.cond_false h19 ?_
       refine J.skip ?_
       refine JQ.then_normal ?_
       exact JQ.meet t8 () H0 (fun _ h => Heap.to h)
   · clear H0
     rintro g11 ⟨⟩ H0
     replace H0 : ref25_made.k1 re1 im2 den3 g11 = some r := H0
     unfold ref25_made.k1 at H0
     refine JQ.sub [(0, .int .i64 re1), (1, .int .i64 im2), (2, .int .i64 den3), (6, .pointer (some ⟨b4, 0, none⟩)), (8, .int .i64 g11)] ?_
     refine JQ.turn (Δ' := [At.box b4 23 (cl_23 zv_23)]) (fun _ h => h.to) ?_
     refine J.seq ?_
     refine J.drawA 11 [⟨10, 9, 23, [.int .i64 0, .int .i64 0, .int .i64 0]⟩] ?_ (by simp only [List.mem_cons, List.not_mem_nil, or_false, forall_eq_or_imp, forall_eq]; exact ⟨by decide, ⟨_, _, _, rfl⟩, by kernel_rfl⟩)
     refine QL.mv (.int .i64 re1) ?_
     refine QL.mv (.int .i64 g11) ?_
     obtain ⟨h12, H0⟩ := ite_must H0
     refine QL.val (.int .i64 (w64 (Int.tdiv re1 g11))) (some 24) (gives_quo .i64 re1 g11 h12) ?_
     refine QL.mv (.int .i64 im2) ?_
     refine QL.mv (.int .i64 g11) ?_
     obtain ⟨h13, H0⟩ := ite_must H0
     refine QL.val (.int .i64 (w64 (Int.tdiv im2 g11))) (some 27) (gives_quo .i64 im2 g11 h13) ?_
     refine QL.mv (.int .i64 den3) ?_
     refine QL.mv (.int .i64 g11) ?_
     obtain ⟨h14, H0⟩ := ite_must H0
     refine QL.val (.int .i64 (w64 (Int.tdiv den3 g11))) (some 30) (gives_quo .i64 den3 g11 h14) ?_
     refine QL.pur (.agg #[.int .i64 (w64 (Int.tdiv re1 g11)), .int .i64 (w64 (Int.tdiv im2 g11)), .int .i64 (w64 (Int.tdiv den3 g11))]) (some 31) ?_
     refine QL.skipA ?_
     refine QL.nil ?_
     refine JA.alloc fun b15 => ?_
     refine JA.nil ?_
     refine JL.store 1 b15 0 23 (cl_23 zv_23) [.int .i64 (w64 (Int.tdiv re1 g11)), .int .i64 (w64 (Int.tdiv im2 g11)), .int .i64 (w64 (Int.tdiv den3 g11))] tySize_23 ?_
     refine JL.nil ?_
     refine JQ.then_normal ?_
     refine JQ.sub [(6, .pointer (some ⟨b4, 0, none⟩)), (9, .pointer (some ⟨b15, 0, none⟩))] ?_
     refine J.seq ?_
     refine J.seq ?_
     refine J.region ?_
     refine JL.val (.agg #[.int .i64 (w64 (Int.tdiv re1 g11)), .int .i64 (w64 (Int.tdiv im2 g11)), .int .i64 (w64 (Int.tdiv den3 g11))]) (some 32) (yields_load_boxes 1 0 [.int .i64 (w64 (Int.tdiv re1 g11)), .int .i64 (w64 (Int.tdiv im2 g11)), .int .i64 (w64 (Int.tdiv den3 g11))] (holds_box b15 23 [.int .i64 (w64 (Int.tdiv re1 g11)), .int .i64 (w64 (Int.tdiv im2 g11)), .int .i64 (w64 (Int.tdiv den3 g11))]) tyAgg_23 tySize_23) ?_
     obtain ⟨t16, hc17, H0⟩ := bind_some H0
     refine JL.call [] [] [] (ref25_Check.ok (⟨(w64 (Int.tdiv re1 g11)), (w64 (Int.tdiv im2 g11)), (w64 (Int.tdiv den3 g11))⟩ : Cx) _ hc17) trivial ?_
     rintro _ _ ⟨rfl, rfl⟩
     refine JL.pur (.bool (!decide (t16 = 0))) (some 34) ?_
     refine JL.nil ?_
     refine JQ.then_normal ?_
     refine JQ.sub [(6, .pointer (some ⟨b4, 0, none⟩)), (9, .pointer (some ⟨b15, 0, none⟩)), (34, .bool (!decide (t16 = 0)))] ?_
     rcases ite_cases H0 with ⟨h18, H0⟩ | ⟨h18, H0⟩
     · refine J.cond_true h18 ?_
       refine J.seq ?_
       refine J.region ?_
       refine JL.pur (mv_23 zv_23) (some 35) ?_
       refine JL.store 0 b4 0 23 (cl_23 zv_23) (cl_23 zv_23) tySize_23 ?_
       refine JL.as (.int .i64 16) ?_
       refine JL.nil ?_
       refine JQ.then_normal ?_
       refine JQ.sub [(6, .pointer (some ⟨b4, 0, none⟩)), (7, .int .i64 16)] ?_
       refine JQ.mask [At.box b4 23 (cl_23 zv_23)] [true, false] ?_
       refine J.ret ?_
       refine JQ.then_ret ?_
       obtain rfl := Option.some.inj H0
       exact JQ.done' (rs := [.cell 6 23, .tmp 7]) (vs := [.agg #[.int .i64 0, .int .i64 0, .int .i64 0], .int .i64 16]) [] (.inr rfl) ⟨⟨b4, 0, _, _, by kernel_rfl, by kernel_rfl, holds_box b4 23 (cl_23 zv_23), .inl ⟨tyAgg_23, tySize_23, rfl⟩⟩, by kernel_rfl, trivial⟩ (fun _ h => Heap.to (Heap.pick [] (by decide) h)) ⟨rfl, rfl⟩
     · refine J.cond_false h18 ?_
       refine J.skip ?_
       refine JQ.then_normal ?_
       refine JQ.sub [(6, .pointer (some ⟨b4, 0, none⟩)), (9, .pointer (some ⟨b15, 0, none⟩))] ?_
       refine J.seq ?_
       refine J.region ?_
       refine JL.val (.agg #[.int .i64 (w64 (Int.tdiv re1 g11)), .int .i64 (w64 (Int.tdiv im2 g11)), .int .i64 (w64 (Int.tdiv den3 g11))]) (some 36) (yields_load_boxes 1 0 [.int .i64 (w64 (Int.tdiv re1 g11)), .int .i64 (w64 (Int.tdiv im2 g11)), .int .i64 (w64 (Int.tdiv den3 g11))] (holds_box b15 23 [.int .i64 (w64 (Int.tdiv re1 g11)), .int .i64 (w64 (Int.tdiv im2 g11)), .int .i64 (w64 (Int.tdiv den3 g11))]) tyAgg_23 tySize_23) ?_
       refine JL.store 0 b4 0 23 (cl_23 zv_23) [.int .i64 (w64 (Int.tdiv re1 g11)), .int .i64 (w64 (Int.tdiv im2 g11)), .int .i64 (w64 (Int.tdiv den3 g11))] tySize_23 ?_
       refine JL.as (.int .i64 0) ?_
       refine JL.nil ?_
       refine JQ.then_normal ?_
       refine JQ.sub [(6, .pointer (some ⟨b4, 0, none⟩)), (7, .int .i64 0)] ?_
       refine JQ.mask [At.box b4 23 [.int .i64 (w64 (Int.tdiv re1 g11)), .int .i64 (w64 (Int.tdiv im2 g11)), .int .i64 (w64 (Int.tdiv den3 g11))]] [true, false] ?_
       refine J.ret ?_
       obtain rfl := Option.some.inj H0
       exact JQ.done' (rs := [.cell 6 23, .tmp 7]) (vs := [.agg #[.int .i64 (w64 (Int.tdiv re1 g11)), .int .i64 (w64 (Int.tdiv im2 g11)), .int .i64 (w64 (Int.tdiv den3 g11))], .int .i64 0]) [] (.inr rfl) ⟨⟨b4, 0, _, _, by kernel_rfl, by kernel_rfl, holds_box b4 23 [.int .i64 (w64 (Int.tdiv re1 g11)), .int .i64 (w64 (Int.tdiv im2 g11)), .int .i64 (w64 (Int.tdiv den3 g11))], .inl ⟨tyAgg_23, tySize_23, rfl⟩⟩, by kernel_rfl, trivial⟩ (fun _ h => Heap.to (Heap.pick [] (by decide) h)) ⟨rfl, rfl⟩

theorem ref25_Mul.ok (a1 : Cx) (b2 : Cx) (r : (Cx × Int)) (H0 : ref25_Mul.f a1 b2 = some r) :
    Does Try.prog 40 [mv_23 a1, mv_23 b2].toArray [] [] false (fun v Δ => v = .tuple #[mv_23 r.1, .int .i64 r.2] ∧ Δ = []) := by
 refine Does.body (vs := [mv_23 a1, mv_23 b2]) Try.func40 rfl trivial trivial fun w S => ?_
 unfold ref25_Mul.f at H0
 refine J.seq ?_
 refine J.region ?_
 refine JL.box (cl_23 a1) fun b3 => ?_
 refine JL.box (cl_23 b2) fun b4 => ?_
 refine JL.alloc (cl_23 zv_23) fun b5 => ?_
 refine JL.as (.int .i64 0) ?_
 refine JL.nil ?_
 refine JQ.then_normal ?_
 refine JQ.sub [(2, .pointer (some ⟨b3, 0, none⟩)), (3, .pointer (some ⟨b4, 0, none⟩)), (4, .pointer (some ⟨b5, 0, none⟩))] ?_
 refine J.seq ?_
 refine J.seq ?_
 refine J.region ?_
 refine JL.val (mv_23 a1) (some 6) (yields_load_boxes 0 0 (cl_23 a1) (holds_box b3 23 (cl_23 a1)) tyAgg_23 tySize_23) ?_
 refine JL.val (mv_23 b2) (some 7) (yields_load_boxes 1 0 (cl_23 b2) (holds_box b4 23 (cl_23 b2)) tyAgg_23 tySize_23) ?_
 obtain ⟨t6, hc7, H0⟩ := bind_some H0
 refine JL.call [] [] [] (ref25_Both.ok a1 b2 _ hc7) trivial ?_
 rintro _ _ ⟨rfl, rfl⟩
 refine JL.pur (.bool (!decide (t6 = 0))) (some 9) ?_
 refine JL.nil ?_
 refine JQ.then_normal ?_
 refine JQ.sub [(2, .pointer (some ⟨b3, 0, none⟩)), (3, .pointer (some ⟨b4, 0, none⟩)), (4, .pointer (some ⟨b5, 0, none⟩)), (9, .bool (!decide (t6 = 0)))] ?_
 rcases ite_cases H0 with ⟨h8, H0⟩ | ⟨h8, H0⟩
 · refine J.cond_true h8 ?_
   refine J.seq ?_
   refine J.region ?_
   refine JL.pur (mv_23 zv_23) (some 10) ?_
   refine JL.store 2 b5 0 23 (cl_23 zv_23) (cl_23 zv_23) tySize_23 ?_
   refine JL.as (.int .i64 8) ?_
   refine JL.nil ?_
   refine JQ.then_normal ?_
   refine JQ.sub [(4, .pointer (some ⟨b5, 0, none⟩)), (5, .int .i64 8)] ?_
   refine JQ.mask [At.box b5 23 (cl_23 zv_23)] [false, false, true] ?_
   refine J.ret ?_
   refine JQ.then_ret ?_
   obtain rfl := Option.some.inj H0
   exact JQ.done' (rs := [.cell 4 23, .tmp 5]) (vs := [.agg #[.int .i64 0, .int .i64 0, .int .i64 0], .int .i64 8]) [] (.inr rfl) ⟨⟨b5, 0, _, _, by kernel_rfl, by kernel_rfl, holds_box b5 23 (cl_23 zv_23), .inl ⟨tyAgg_23, tySize_23, rfl⟩⟩, by kernel_rfl, trivial⟩ (fun _ h => Heap.to (Heap.pick [] (by decide) h)) ⟨rfl, rfl⟩
 · refine J.cond_false h8 ?_
   refine J.skip ?_
   refine JQ.then_normal ?_
   refine JQ.sub [(2, .pointer (some ⟨b3, 0, none⟩)), (3, .pointer (some ⟨b4, 0, none⟩)), (4, .pointer (some ⟨b5, 0, none⟩))] ?_
   refine J.seq ?_
   refine J.region ?_
   refine JL.pur (.pointer (some ⟨b3, 0, none⟩)) (some 11) ?_
   refine JL.val (.int .i64 a1.Re) (some 12) (yields_load_box 0 0 (holds_box b3 23 (cl_23 a1)) tyAgg_2) ?_
   refine JL.pur (.pointer (some ⟨b4, 0, none⟩)) (some 13) ?_
   refine JL.val (.int .i64 b2.Re) (some 14) (yields_load_box 1 0 (holds_box b4 23 (cl_23 b2)) tyAgg_2) ?_
   refine JL.pur (.int .i64 (w64 (a1.Re * b2.Re))) (some 15) ?_
   refine JL.pur (.pointer (some ⟨b3, 1, none⟩)) (some 16) ?_
   refine JL.val (.int .i64 a1.Im) (some 17) (yields_load_box 0 1 (holds_box b3 23 (cl_23 a1)) tyAgg_2) ?_
   refine JL.pur (.pointer (some ⟨b4, 1, none⟩)) (some 18) ?_
   refine JL.val (.int .i64 b2.Im) (some 19) (yields_load_box 1 1 (holds_box b4 23 (cl_23 b2)) tyAgg_2) ?_
   refine JL.pur (.int .i64 (w64 (a1.Im * b2.Im))) (some 20) ?_
   refine JL.pur (.int .i64 (w64 ((w64 (a1.Re * b2.Re)) - (w64 (a1.Im * b2.Im))))) (some 21) ?_
   refine JL.pur (.pointer (some ⟨b3, 0, none⟩)) (some 22) ?_
   refine JL.val (.int .i64 a1.Re) (some 23) (yields_load_box 0 0 (holds_box b3 23 (cl_23 a1)) tyAgg_2) ?_
   refine JL.pur (.pointer (some ⟨b4, 1, none⟩)) (some 24) ?_
   refine JL.val (.int .i64 b2.Im) (some 25) (yields_load_box 1 1 (holds_box b4 23 (cl_23 b2)) tyAgg_2) ?_
   refine JL.pur (.int .i64 (w64 (a1.Re * b2.Im))) (some 26) ?_
   refine JL.pur (.pointer (some ⟨b3, 1, none⟩)) (some 27) ?_
   refine JL.val (.int .i64 a1.Im) (some 28) (yields_load_box 0 1 (holds_box b3 23 (cl_23 a1)) tyAgg_2) ?_
   refine JL.pur (.pointer (some ⟨b4, 0, none⟩)) (some 29) ?_
   refine JL.val (.int .i64 b2.Re) (some 30) (yields_load_box 1 0 (holds_box b4 23 (cl_23 b2)) tyAgg_2) ?_
   refine JL.pur (.int .i64 (w64 (a1.Im * b2.Re))) (some 31) ?_
   refine JL.pur (.int .i64 (w64 ((w64 (a1.Re * b2.Im)) + (w64 (a1.Im * b2.Re))))) (some 32) ?_
   refine JL.pur (.pointer (some ⟨b3, 2, none⟩)) (some 33) ?_
   refine JL.val (.int .i64 a1.Den) (some 34) (yields_load_box 0 2 (holds_box b3 23 (cl_23 a1)) tyAgg_2) ?_
   refine JL.pur (.pointer (some ⟨b4, 2, none⟩)) (some 35) ?_
   refine JL.val (.int .i64 b2.Den) (some 36) (yields_load_box 1 2 (holds_box b4 23 (cl_23 b2)) tyAgg_2) ?_
   refine JL.pur (.int .i64 (w64 (a1.Den * b2.Den))) (some 37) ?_
   obtain ⟨t9, hc10, H0⟩ := bind_some H0
   refine JL.call [] [] [] (ref25_made.ok (w64 ((w64 (a1.Re * b2.Re)) - (w64 (a1.Im * b2.Im)))) (w64 ((w64 (a1.Re * b2.Im)) + (w64 (a1.Im * b2.Re)))) (w64 (a1.Den * b2.Den)) _ hc10) trivial ?_
   rintro _ _ ⟨rfl, rfl⟩
   refine JL.pur (mv_23 t9.1) (some 39) ?_
   refine JL.pur (.int .i64 t9.2) (some 40) ?_
   refine JL.store 2 b5 0 23 (cl_23 zv_23) (cl_23 t9.1) tySize_23 ?_
   refine JL.as (.int .i64 t9.2) ?_
   refine JL.nil ?_
   refine JQ.then_normal ?_
   refine JQ.sub [(4, .pointer (some ⟨b5, 0, none⟩)), (5, .int .i64 t9.2)] ?_
   refine JQ.mask [At.box b5 23 (cl_23 t9.1)] [false, false, true] ?_
   refine J.ret ?_
   obtain rfl := Option.some.inj H0
   exact JQ.done' (rs := [.cell 4 23, .tmp 5]) (vs := [.agg #[.int .i64 t9.1.Re, .int .i64 t9.1.Im, .int .i64 t9.1.Den], .int .i64 t9.2]) [] (.inr rfl) ⟨⟨b5, 0, _, _, by kernel_rfl, by kernel_rfl, holds_box b5 23 (cl_23 t9.1), .inl ⟨tyAgg_23, tySize_23, rfl⟩⟩, by kernel_rfl, trivial⟩ (fun _ h => Heap.to (Heap.pick [] (by decide) h)) ⟨rfl, rfl⟩

theorem ref25_Neg.ok (a1 : Cx) (r : Cx) (H0 : ref25_Neg.f a1 = some r) :
    Does Try.prog 45 [mv_23 a1].toArray [] [] false (fun v Δ => v = mv_23 r ∧ Δ = []) := by
 refine Does.body (vs := [mv_23 a1]) Try.func45 rfl trivial trivial fun w S => ?_
 unfold ref25_Neg.f at H0
 refine J.seq ?_
 refine J.region ?_
 refine JL.box (cl_23 a1) fun b2 => ?_
 refine JL.alloc (cl_23 zv_23) fun b3 => ?_
 refine JL.nil ?_
 refine JQ.then_normal ?_
 refine JQ.sub [(1, .pointer (some ⟨b2, 0, none⟩)), (2, .pointer (some ⟨b3, 0, none⟩))] ?_
 refine J.seq ?_
 refine J.region ?_
 refine JL.pur (.pointer (some ⟨b2, 0, none⟩)) (some 3) ?_
 refine JL.val (.int .i64 a1.Re) (some 4) (yields_load_box 0 0 (holds_box b2 23 (cl_23 a1)) tyAgg_2) ?_
 refine JL.pur (.int .i64 (w64 (0 - a1.Re))) (some 5) ?_
 refine JL.pur (.pointer (some ⟨b2, 1, none⟩)) (some 6) ?_
 refine JL.val (.int .i64 a1.Im) (some 7) (yields_load_box 0 1 (holds_box b2 23 (cl_23 a1)) tyAgg_2) ?_
 refine JL.pur (.int .i64 (w64 (0 - a1.Im))) (some 8) ?_
 refine JL.pur (.pointer (some ⟨b2, 2, none⟩)) (some 9) ?_
 refine JL.val (.int .i64 a1.Den) (some 10) (yields_load_box 0 2 (holds_box b2 23 (cl_23 a1)) tyAgg_2) ?_
 refine JL.pur (.agg #[.int .i64 (w64 (0 - a1.Re)), .int .i64 (w64 (0 - a1.Im)), .int .i64 a1.Den]) (some 11) ?_
 refine JL.store 1 b3 0 23 (cl_23 zv_23) [.int .i64 (w64 (0 - a1.Re)), .int .i64 (w64 (0 - a1.Im)), .int .i64 a1.Den] tySize_23 ?_
 refine JL.nil ?_
 refine JQ.then_normal ?_
 refine JQ.sub [(2, .pointer (some ⟨b3, 0, none⟩))] ?_
 refine JQ.mask [At.box b3 23 [.int .i64 (w64 (0 - a1.Re)), .int .i64 (w64 (0 - a1.Im)), .int .i64 a1.Den]] [false, true] ?_
 refine J.ret ?_
 obtain rfl := Option.some.inj H0
 exact JQ.done' (rs := [.cell 2 23]) (vs := [.agg #[.int .i64 (w64 (0 - a1.Re)), .int .i64 (w64 (0 - a1.Im)), .int .i64 a1.Den]]) [] (.inr rfl) ⟨⟨b3, 0, _, _, by kernel_rfl, by kernel_rfl, holds_box b3 23 [.int .i64 (w64 (0 - a1.Re)), .int .i64 (w64 (0 - a1.Im)), .int .i64 a1.Den], .inl ⟨tyAgg_23, tySize_23, rfl⟩⟩, trivial⟩ (fun _ h => Heap.to (Heap.pick [] (by decide) h)) ⟨rfl, rfl⟩

theorem ref25_Add.ok (a1 : Cx) (b2 : Cx) (r : (Cx × Int)) (H0 : ref25_Add.f a1 b2 = some r) :
    Does Try.prog 42 [mv_23 a1, mv_23 b2].toArray [] [] false (fun v Δ => v = .tuple #[mv_23 r.1, .int .i64 r.2] ∧ Δ = []) := by
 refine Does.body (vs := [mv_23 a1, mv_23 b2]) Try.func42 rfl trivial trivial fun w S => ?_
 unfold ref25_Add.f at H0
 refine J.seq ?_
 refine J.region ?_
 refine JL.box (cl_23 a1) fun b3 => ?_
 refine JL.box (cl_23 b2) fun b4 => ?_
 refine JL.alloc (cl_23 zv_23) fun b5 => ?_
 refine JL.as (.int .i64 0) ?_
 refine JL.nil ?_
 refine JQ.then_normal ?_
 refine JQ.sub [(2, .pointer (some ⟨b3, 0, none⟩)), (3, .pointer (some ⟨b4, 0, none⟩)), (4, .pointer (some ⟨b5, 0, none⟩))] ?_
 refine J.seq ?_
 refine J.seq ?_
 refine J.region ?_
 refine JL.val (mv_23 a1) (some 6) (yields_load_boxes 0 0 (cl_23 a1) (holds_box b3 23 (cl_23 a1)) tyAgg_23 tySize_23) ?_
 refine JL.val (mv_23 b2) (some 7) (yields_load_boxes 1 0 (cl_23 b2) (holds_box b4 23 (cl_23 b2)) tyAgg_23 tySize_23) ?_
 obtain ⟨t6, hc7, H0⟩ := bind_some H0
 refine JL.call [] [] [] (ref25_Both.ok a1 b2 _ hc7) trivial ?_
 rintro _ _ ⟨rfl, rfl⟩
 refine JL.pur (.bool (!decide (t6 = 0))) (some 9) ?_
 refine JL.nil ?_
 refine JQ.then_normal ?_
 refine JQ.sub [(2, .pointer (some ⟨b3, 0, none⟩)), (3, .pointer (some ⟨b4, 0, none⟩)), (4, .pointer (some ⟨b5, 0, none⟩)), (9, .bool (!decide (t6 = 0)))] ?_
 rcases ite_cases H0 with ⟨h8, H0⟩ | ⟨h8, H0⟩
 · refine J.cond_true h8 ?_
   refine J.seq ?_
   refine J.region ?_
   refine JL.pur (mv_23 zv_23) (some 10) ?_
   refine JL.store 2 b5 0 23 (cl_23 zv_23) (cl_23 zv_23) tySize_23 ?_
   refine JL.as (.int .i64 8) ?_
   refine JL.nil ?_
   refine JQ.then_normal ?_
   refine JQ.sub [(4, .pointer (some ⟨b5, 0, none⟩)), (5, .int .i64 8)] ?_
   refine JQ.mask [At.box b5 23 (cl_23 zv_23)] [false, false, true] ?_
   refine J.ret ?_
   refine JQ.then_ret ?_
   obtain rfl := Option.some.inj H0
   exact JQ.done' (rs := [.cell 4 23, .tmp 5]) (vs := [.agg #[.int .i64 0, .int .i64 0, .int .i64 0], .int .i64 8]) [] (.inr rfl) ⟨⟨b5, 0, _, _, by kernel_rfl, by kernel_rfl, holds_box b5 23 (cl_23 zv_23), .inl ⟨tyAgg_23, tySize_23, rfl⟩⟩, by kernel_rfl, trivial⟩ (fun _ h => Heap.to (Heap.pick [] (by decide) h)) ⟨rfl, rfl⟩
 · refine J.cond_false h8 ?_
   refine J.skip ?_
   refine JQ.then_normal ?_
   refine JQ.sub [(2, .pointer (some ⟨b3, 0, none⟩)), (3, .pointer (some ⟨b4, 0, none⟩)), (4, .pointer (some ⟨b5, 0, none⟩))] ?_
   refine J.seq ?_
   refine J.region ?_
   refine JL.pur (.pointer (some ⟨b3, 0, none⟩)) (some 11) ?_
   refine JL.val (.int .i64 a1.Re) (some 12) (yields_load_box 0 0 (holds_box b3 23 (cl_23 a1)) tyAgg_2) ?_
   refine JL.pur (.pointer (some ⟨b4, 2, none⟩)) (some 13) ?_
   refine JL.val (.int .i64 b2.Den) (some 14) (yields_load_box 1 2 (holds_box b4 23 (cl_23 b2)) tyAgg_2) ?_
   refine JL.pur (.int .i64 (w64 (a1.Re * b2.Den))) (some 15) ?_
   refine JL.pur (.pointer (some ⟨b4, 0, none⟩)) (some 16) ?_
   refine JL.val (.int .i64 b2.Re) (some 17) (yields_load_box 1 0 (holds_box b4 23 (cl_23 b2)) tyAgg_2) ?_
   refine JL.pur (.pointer (some ⟨b3, 2, none⟩)) (some 18) ?_
   refine JL.val (.int .i64 a1.Den) (some 19) (yields_load_box 0 2 (holds_box b3 23 (cl_23 a1)) tyAgg_2) ?_
   refine JL.pur (.int .i64 (w64 (b2.Re * a1.Den))) (some 20) ?_
   refine JL.pur (.int .i64 (w64 ((w64 (a1.Re * b2.Den)) + (w64 (b2.Re * a1.Den))))) (some 21) ?_
   refine JL.pur (.pointer (some ⟨b3, 1, none⟩)) (some 22) ?_
   refine JL.val (.int .i64 a1.Im) (some 23) (yields_load_box 0 1 (holds_box b3 23 (cl_23 a1)) tyAgg_2) ?_
   refine JL.pur (.pointer (some ⟨b4, 2, none⟩)) (some 24) ?_
   refine JL.val (.int .i64 b2.Den) (some 25) (yields_load_box 1 2 (holds_box b4 23 (cl_23 b2)) tyAgg_2) ?_
   refine JL.pur (.int .i64 (w64 (a1.Im * b2.Den))) (some 26) ?_
   refine JL.pur (.pointer (some ⟨b4, 1, none⟩)) (some 27) ?_
   refine JL.val (.int .i64 b2.Im) (some 28) (yields_load_box 1 1 (holds_box b4 23 (cl_23 b2)) tyAgg_2) ?_
   refine JL.pur (.pointer (some ⟨b3, 2, none⟩)) (some 29) ?_
   refine JL.val (.int .i64 a1.Den) (some 30) (yields_load_box 0 2 (holds_box b3 23 (cl_23 a1)) tyAgg_2) ?_
   refine JL.pur (.int .i64 (w64 (b2.Im * a1.Den))) (some 31) ?_
   refine JL.pur (.int .i64 (w64 ((w64 (a1.Im * b2.Den)) + (w64 (b2.Im * a1.Den))))) (some 32) ?_
   refine JL.pur (.pointer (some ⟨b3, 2, none⟩)) (some 33) ?_
   refine JL.val (.int .i64 a1.Den) (some 34) (yields_load_box 0 2 (holds_box b3 23 (cl_23 a1)) tyAgg_2) ?_
   refine JL.pur (.pointer (some ⟨b4, 2, none⟩)) (some 35) ?_
   refine JL.val (.int .i64 b2.Den) (some 36) (yields_load_box 1 2 (holds_box b4 23 (cl_23 b2)) tyAgg_2) ?_
   refine JL.pur (.int .i64 (w64 (a1.Den * b2.Den))) (some 37) ?_
   obtain ⟨t9, hc10, H0⟩ := bind_some H0
   refine JL.call [] [] [] (ref25_made.ok (w64 ((w64 (a1.Re * b2.Den)) + (w64 (b2.Re * a1.Den)))) (w64 ((w64 (a1.Im * b2.Den)) + (w64 (b2.Im * a1.Den)))) (w64 (a1.Den * b2.Den)) _ hc10) trivial ?_
   rintro _ _ ⟨rfl, rfl⟩
   refine JL.pur (mv_23 t9.1) (some 39) ?_
   refine JL.pur (.int .i64 t9.2) (some 40) ?_
   refine JL.store 2 b5 0 23 (cl_23 zv_23) (cl_23 t9.1) tySize_23 ?_
   refine JL.as (.int .i64 t9.2) ?_
   refine JL.nil ?_
   refine JQ.then_normal ?_
   refine JQ.sub [(4, .pointer (some ⟨b5, 0, none⟩)), (5, .int .i64 t9.2)] ?_
   refine JQ.mask [At.box b5 23 (cl_23 t9.1)] [false, false, true] ?_
   refine J.ret ?_
   obtain rfl := Option.some.inj H0
   exact JQ.done' (rs := [.cell 4 23, .tmp 5]) (vs := [.agg #[.int .i64 t9.1.Re, .int .i64 t9.1.Im, .int .i64 t9.1.Den], .int .i64 t9.2]) [] (.inr rfl) ⟨⟨b5, 0, _, _, by kernel_rfl, by kernel_rfl, holds_box b5 23 (cl_23 t9.1), .inl ⟨tyAgg_23, tySize_23, rfl⟩⟩, by kernel_rfl, trivial⟩ (fun _ h => Heap.to (Heap.pick [] (by decide) h)) ⟨rfl, rfl⟩

theorem ref25_Sub.ok (a1 : Cx) (b2 : Cx) (r : (Cx × Int)) (H0 : ref25_Sub.f a1 b2 = some r) :
    Does Try.prog 41 [mv_23 a1, mv_23 b2].toArray [] [] false (fun v Δ => v = .tuple #[mv_23 r.1, .int .i64 r.2] ∧ Δ = []) := by
 refine Does.body (vs := [mv_23 a1, mv_23 b2]) Try.func41 rfl trivial trivial fun w S => ?_
 unfold ref25_Sub.f at H0
 refine J.seq ?_
 refine J.region ?_
 refine JL.box (cl_23 a1) fun b3 => ?_
 refine JL.box (cl_23 b2) fun b4 => ?_
 refine JL.alloc (cl_23 zv_23) fun b5 => ?_
 refine JL.as (.int .i64 0) ?_
 refine JL.nil ?_
 refine JQ.then_normal ?_
 refine JQ.sub [(2, .pointer (some ⟨b3, 0, none⟩)), (3, .pointer (some ⟨b4, 0, none⟩)), (4, .pointer (some ⟨b5, 0, none⟩))] ?_
 refine J.seq ?_
 refine J.seq ?_
 refine J.region ?_
 refine JL.val (mv_23 a1) (some 6) (yields_load_boxes 0 0 (cl_23 a1) (holds_box b3 23 (cl_23 a1)) tyAgg_23 tySize_23) ?_
 refine JL.val (mv_23 b2) (some 7) (yields_load_boxes 1 0 (cl_23 b2) (holds_box b4 23 (cl_23 b2)) tyAgg_23 tySize_23) ?_
 obtain ⟨t6, hc7, H0⟩ := bind_some H0
 refine JL.call [] [] [] (ref25_Both.ok a1 b2 _ hc7) trivial ?_
 rintro _ _ ⟨rfl, rfl⟩
 refine JL.pur (.bool (!decide (t6 = 0))) (some 9) ?_
 refine JL.nil ?_
 refine JQ.then_normal ?_
 refine JQ.sub [(2, .pointer (some ⟨b3, 0, none⟩)), (3, .pointer (some ⟨b4, 0, none⟩)), (4, .pointer (some ⟨b5, 0, none⟩)), (9, .bool (!decide (t6 = 0)))] ?_
 rcases ite_cases H0 with ⟨h8, H0⟩ | ⟨h8, H0⟩
 · refine J.cond_true h8 ?_
   refine J.seq ?_
   refine J.region ?_
   refine JL.pur (mv_23 zv_23) (some 10) ?_
   refine JL.store 2 b5 0 23 (cl_23 zv_23) (cl_23 zv_23) tySize_23 ?_
   refine JL.as (.int .i64 8) ?_
   refine JL.nil ?_
   refine JQ.then_normal ?_
   refine JQ.sub [(4, .pointer (some ⟨b5, 0, none⟩)), (5, .int .i64 8)] ?_
   refine JQ.mask [At.box b5 23 (cl_23 zv_23)] [false, false, true] ?_
   refine J.ret ?_
   refine JQ.then_ret ?_
   obtain rfl := Option.some.inj H0
   exact JQ.done' (rs := [.cell 4 23, .tmp 5]) (vs := [.agg #[.int .i64 0, .int .i64 0, .int .i64 0], .int .i64 8]) [] (.inr rfl) ⟨⟨b5, 0, _, _, by kernel_rfl, by kernel_rfl, holds_box b5 23 (cl_23 zv_23), .inl ⟨tyAgg_23, tySize_23, rfl⟩⟩, by kernel_rfl, trivial⟩ (fun _ h => Heap.to (Heap.pick [] (by decide) h)) ⟨rfl, rfl⟩
 · refine J.cond_false h8 ?_
   refine J.skip ?_
   refine JQ.then_normal ?_
   refine JQ.sub [(2, .pointer (some ⟨b3, 0, none⟩)), (3, .pointer (some ⟨b4, 0, none⟩)), (4, .pointer (some ⟨b5, 0, none⟩))] ?_
   refine J.seq ?_
   refine J.drawT 6 ?_
   refine QL.val (mv_23 a1) (some 11) (yields_load_boxes 0 0 (cl_23 a1) (holds_box b3 23 (cl_23 a1)) tyAgg_23 tySize_23) ?_
   refine QL.val (mv_23 b2) (some 12) (yields_load_boxes 1 0 (cl_23 b2) (holds_box b4 23 (cl_23 b2)) tyAgg_23 tySize_23) ?_
   obtain ⟨t9, hc10, H0⟩ := bind_some H0
   refine QL.call [] [] (ref25_Neg.ok b2 _ hc10) trivial ?_
   obtain ⟨t11, hc12, H0⟩ := bind_some H0
   refine QL.call [] [] (ref25_Add.ok a1 t9 _ hc12) trivial ?_
   refine QL.pur (mv_23 t11.1) (some 15) ?_
   refine QL.pur (.int .i64 t11.2) (some 16) ?_
   refine QL.nil ?_
   refine JA.nil ?_
   refine JL.store 2 b5 0 23 (cl_23 zv_23) (cl_23 t11.1) tySize_23 ?_
   refine JL.as (.int .i64 t11.2) ?_
   refine JL.nil ?_
   refine JQ.then_normal ?_
   refine JQ.sub [(4, .pointer (some ⟨b5, 0, none⟩)), (5, .int .i64 t11.2)] ?_
   refine JQ.mask [At.box b5 23 (cl_23 t11.1)] [false, false, true] ?_
   refine J.ret ?_
   obtain rfl := Option.some.inj H0
   exact JQ.done' (rs := [.cell 4 23, .tmp 5]) (vs := [.agg #[.int .i64 t11.1.Re, .int .i64 t11.1.Im, .int .i64 t11.1.Den], .int .i64 t11.2]) [] (.inr rfl) ⟨⟨b5, 0, _, _, by kernel_rfl, by kernel_rfl, holds_box b5 23 (cl_23 t11.1), .inl ⟨tyAgg_23, tySize_23, rfl⟩⟩, by kernel_rfl, trivial⟩ (fun _ h => Heap.to (Heap.pick [] (by decide) h)) ⟨rfl, rfl⟩

theorem ref33_Det.ok (a1 : (A4 Cx)) (r : (Cx × Int)) (H0 : ref33_Det.f a1 = some r) :
    Does Try.prog 14 [mv_25 a1].toArray [] [] false (fun v Δ => v = .tuple #[mv_23 r.1, .int .i64 r.2] ∧ Δ = []) := by
 refine Does.body (vs := [mv_25 a1]) Try.func14 rfl trivial trivial fun w S => ?_
 unfold ref33_Det.f at H0
 refine J.seq ?_
 refine J.region ?_
 refine JL.box (cl_25 a1) fun b2 => ?_
 refine JL.alloc (cl_23 zv_23) fun b3 => ?_
 refine JL.as (.int .i64 0) ?_
 refine JL.nil ?_
 refine JQ.then_normal ?_
 refine JQ.sub [(1, .pointer (some ⟨b2, 0, none⟩)), (2, .pointer (some ⟨b3, 0, none⟩))] ?_
 refine J.seq ?_
 refine J.seq ?_
 refine J.region ?_
 refine JL.val (mv_25 a1) (some 9) (yields_load_boxes 0 0 (cl_25 a1) (holds_box b2 25 (cl_25 a1)) tyAgg_25 tySize_25) ?_
 obtain ⟨t4, hc5, H0⟩ := bind_some H0
 refine JL.call [] [] [] (ref33_Valid.ok a1 _ hc5) trivial ?_
 rintro _ _ ⟨rfl, rfl⟩
 refine JL.pur (.bool (!t4)) (some 11) ?_
 refine JL.nil ?_
 refine JQ.then_normal ?_
 refine JQ.sub [(1, .pointer (some ⟨b2, 0, none⟩)), (2, .pointer (some ⟨b3, 0, none⟩)), (11, .bool (!t4))] ?_
 rcases ite_cases H0 with ⟨h6, H0⟩ | ⟨h6, H0⟩
 · refine J.cond_true h6 ?_
   refine J.seq ?_
   refine J.region ?_
   refine JL.pur (mv_23 zv_23) (some 12) ?_
   refine JL.store 1 b3 0 23 (cl_23 zv_23) (cl_23 zv_23) tySize_23 ?_
   refine JL.as (.int .i64 8) ?_
   refine JL.nil ?_
   refine JQ.then_normal ?_
   refine JQ.sub [(2, .pointer (some ⟨b3, 0, none⟩)), (3, .int .i64 8)] ?_
   refine JQ.mask [At.box b3 23 (cl_23 zv_23)] [false, true] ?_
   refine J.ret ?_
   refine JQ.then_ret ?_
   obtain rfl := Option.some.inj H0
   exact JQ.done' (rs := [.cell 2 23, .tmp 3]) (vs := [.agg #[.int .i64 0, .int .i64 0, .int .i64 0], .int .i64 8]) [] (.inr rfl) ⟨⟨b3, 0, _, _, by kernel_rfl, by kernel_rfl, holds_box b3 23 (cl_23 zv_23), .inl ⟨tyAgg_23, tySize_23, rfl⟩⟩, by kernel_rfl, trivial⟩ (fun _ h => Heap.to (Heap.pick [] (by decide) h)) ⟨rfl, rfl⟩
 · refine J.cond_false h6 ?_
   refine J.skip ?_
   refine JQ.then_normal ?_
   refine JQ.sub [(1, .pointer (some ⟨b2, 0, none⟩)), (2, .pointer (some ⟨b3, 0, none⟩))] ?_
   refine J.seq ?_
   refine J.region ?_
   refine JL.pur (.pointer (some ⟨b2, 0, none⟩)) (some 14) ?_
   refine JL.val (mv_23 a1.e0) (some 15) (yields_load_boxes 0 0 (cl_23 a1.e0) (holds_box b2 25 (cl_25 a1)) tyAgg_23 tySize_23) ?_
   refine JL.pur (.pointer (some ⟨b2, 9, none⟩)) (some 16) ?_
   refine JL.val (mv_23 a1.e3) (some 17) (yields_load_boxes 0 9 (cl_23 a1.e3) (holds_box b2 25 (cl_25 a1)) tyAgg_23 tySize_23) ?_
   obtain ⟨t7, hc8, H0⟩ := bind_some H0
   refine JL.call [] [] [] (ref25_Mul.ok a1.e0 a1.e3 _ hc8) trivial ?_
   rintro _ _ ⟨rfl, rfl⟩
   refine JL.mv (.tuple #[mv_23 t7.1, .int .i64 t7.2]) ?_
   refine JL.pur (mv_23 t7.1) (some 19) ?_
   refine JL.pur (.int .i64 t7.2) (some 20) ?_
   refine JL.alloc (cl_23 zv_23) fun b9 => ?_
   refine JL.store 2 b9 0 23 (cl_23 zv_23) (cl_23 t7.1) tySize_23 ?_
   refine JL.as (.int .i64 t7.2) ?_
   refine JL.nil ?_
   refine JQ.then_normal ?_
   refine JQ.sub [(1, .pointer (some ⟨b2, 0, none⟩)), (2, .pointer (some ⟨b3, 0, none⟩)), (4, .pointer (some ⟨b9, 0, none⟩)), (5, .int .i64 t7.2)] ?_
   refine J.seq ?_
   refine J.region ?_
   refine JL.pur (.pointer (some ⟨b2, 3, none⟩)) (some 22) ?_
   refine JL.val (mv_23 a1.e1) (some 23) (yields_load_boxes 0 3 (cl_23 a1.e1) (holds_box b2 25 (cl_25 a1)) tyAgg_23 tySize_23) ?_
   refine JL.pur (.pointer (some ⟨b2, 6, none⟩)) (some 24) ?_
   refine JL.val (mv_23 a1.e2) (some 25) (yields_load_boxes 0 6 (cl_23 a1.e2) (holds_box b2 25 (cl_25 a1)) tyAgg_23 tySize_23) ?_
   obtain ⟨t10, hc11, H0⟩ := bind_some H0
   refine JL.call [] [] [] (ref25_Mul.ok a1.e1 a1.e2 _ hc11) trivial ?_
   rintro _ _ ⟨rfl, rfl⟩
   refine JL.mv (.tuple #[mv_23 t10.1, .int .i64 t10.2]) ?_
   refine JL.pur (mv_23 t10.1) (some 27) ?_
   refine JL.pur (.int .i64 t10.2) (some 28) ?_
   refine JL.alloc (cl_23 zv_23) fun b12 => ?_
   refine JL.store 3 b12 0 23 (cl_23 zv_23) (cl_23 t10.1) tySize_23 ?_
   refine JL.as (.int .i64 t10.2) ?_
   refine JL.nil ?_
   refine JQ.then_normal ?_
   refine JQ.sub [(2, .pointer (some ⟨b3, 0, none⟩)), (4, .pointer (some ⟨b9, 0, none⟩)), (5, .int .i64 t7.2), (6, .pointer (some ⟨b12, 0, none⟩)), (7, .int .i64 t10.2)] ?_
   refine JQ.mask [At.box b3 23 (cl_23 zv_23), At.box b9 23 (cl_23 t7.1), At.box b12 23 (cl_23 t10.1)] [false, true, true, true] ?_
   refine J.seq ?_
   refine J.join (T := Bool) (G := Unit) (fun t => ref33_Det.k1 t7 t10 t = some r) (fun t g => [(2, .pointer (some ⟨b3, 0, none⟩)), (4, .pointer (some ⟨b9, 0, none⟩)), (6, .pointer (some ⟨b12, 0, none⟩)), (34, .bool t)]) (fun t g => [At.box b3 23 (cl_23 zv_23), At.box b9 23 (cl_23 t7.1), At.box b12 23 (cl_23 t10.1)]) ?_ ?_
   · refine J.region ?_
     refine JL.mv (.int .i64 t7.2) ?_
     refine JL.pur (.bool (!decide (t7.2 = 0))) (some 30) ?_
     refine JL.mv (.bool (!decide (t7.2 = 0))) ?_
     rcases ite_cases H0 with ⟨h20, H0⟩ | ⟨h20, H0⟩
     · refine JL.off 2 31 false (some 32) h20 ?_
       refine JL.off 2 31 false (some 33) h20 ?_
       refine JL.val (.bool true) (some 34) (gives_pickT h20) ?_
       refine JL.nil ?_
       refine JQ.then_normal ?_
       exact JQ.meet true () H0 (fun _ h => Heap.to h)
     · refine JL.on 2 31 h20 ?_
       refine JL.mv (.int .i64 t10.2) ?_
       refine JL.on 2 31 h20 ?_
       refine JL.pur (.bool (!decide (t10.2 = 0))) (some 33) ?_
       refine JL.val (.bool (!decide (t10.2 = 0))) (some 34) (gives_pickF h20) ?_
       refine JL.nil ?_
       refine JQ.then_normal ?_
       exact JQ.meet (!decide (t10.2 = 0)) () H0 (fun _ h => Heap.to h)
   · clear H0
     rintro x14 ⟨⟩ H0
     replace H0 : ref33_Det.k1 t7 t10 x14 = some r := H0
     unfold ref33_Det.k1 at H0
     refine JQ.sub [(2, .pointer (some ⟨b3, 0, none⟩)), (4, .pointer (some ⟨b9, 0, none⟩)), (6, .pointer (some ⟨b12, 0, none⟩)), (34, .bool x14)] ?_
     refine JQ.turn (Δ' := [At.box b3 23 (cl_23 zv_23), At.box b9 23 (cl_23 t7.1), At.box b12 23 (cl_23 t10.1)]) (fun _ h => h.to) ?_
     rcases ite_cases H0 with ⟨h15, H0⟩ | ⟨h15, H0⟩
     · refine J.cond_true h15 ?_
       refine J.seq ?_
       refine J.region ?_
       refine JL.pur (mv_23 zv_23) (some 35) ?_
       refine JL.store 0 b3 0 23 (cl_23 zv_23) (cl_23 zv_23) tySize_23 ?_
       refine JL.as (.int .i64 16) ?_
       refine JL.nil ?_
       refine JQ.then_normal ?_
       refine JQ.sub [(2, .pointer (some ⟨b3, 0, none⟩)), (3, .int .i64 16)] ?_
       refine JQ.mask [At.box b3 23 (cl_23 zv_23)] [true, false, false] ?_
       refine J.ret ?_
       refine JQ.then_ret ?_
       obtain rfl := Option.some.inj H0
       exact JQ.done' (rs := [.cell 2 23, .tmp 3]) (vs := [.agg #[.int .i64 0, .int .i64 0, .int .i64 0], .int .i64 16]) [] (.inr rfl) ⟨⟨b3, 0, _, _, by kernel_rfl, by kernel_rfl, holds_box b3 23 (cl_23 zv_23), .inl ⟨tyAgg_23, tySize_23, rfl⟩⟩, by kernel_rfl, trivial⟩ (fun _ h => Heap.to (Heap.pick [] (by decide) h)) ⟨rfl, rfl⟩
     · refine J.cond_false h15 ?_
       refine J.skip ?_
       refine JQ.then_normal ?_
       refine JQ.sub [(2, .pointer (some ⟨b3, 0, none⟩)), (4, .pointer (some ⟨b9, 0, none⟩)), (6, .pointer (some ⟨b12, 0, none⟩))] ?_
       refine J.seq ?_
       refine J.region ?_
       refine JL.val (mv_23 t7.1) (some 37) (yields_load_boxes 1 0 (cl_23 t7.1) (holds_box b9 23 (cl_23 t7.1)) tyAgg_23 tySize_23) ?_
       refine JL.val (mv_23 t10.1) (some 38) (yields_load_boxes 2 0 (cl_23 t10.1) (holds_box b12 23 (cl_23 t10.1)) tyAgg_23 tySize_23) ?_
       obtain ⟨t16, hc17, H0⟩ := bind_some H0
       refine JL.call [] [] [] (ref25_Sub.ok t7.1 t10.1 _ hc17) trivial ?_
       rintro _ _ ⟨rfl, rfl⟩
       refine JL.mv (.tuple #[mv_23 t16.1, .int .i64 t16.2]) ?_
       refine JL.pur (mv_23 t16.1) (some 40) ?_
       refine JL.pur (.int .i64 t16.2) (some 41) ?_
       refine JL.alloc (cl_23 zv_23) fun b18 => ?_
       refine JL.store 3 b18 0 23 (cl_23 zv_23) (cl_23 t16.1) tySize_23 ?_
       refine JL.as (.int .i64 t16.2) ?_
       refine JL.nil ?_
       refine JQ.then_normal ?_
       refine JQ.sub [(2, .pointer (some ⟨b3, 0, none⟩)), (5, .int .i64 t16.2), (8, .pointer (some ⟨b18, 0, none⟩))] ?_
       refine JQ.mask [At.box b3 23 (cl_23 zv_23), At.box b18 23 (cl_23 t16.1)] [true, false, false, true] ?_
       refine J.seq ?_
       refine J.seq ?_
       refine J.region ?_
       refine JL.mv (.int .i64 t16.2) ?_
       refine JL.pur (.bool (!decide (t16.2 = 0))) (some 43) ?_
       refine JL.nil ?_
       refine JQ.then_normal ?_
       refine JQ.sub [(2, .pointer (some ⟨b3, 0, none⟩)), (8, .pointer (some ⟨b18, 0, none⟩)), (43, .bool (!decide (t16.2 = 0)))] ?_
       rcases ite_cases H0 with ⟨h19, H0⟩ | ⟨h19, H0⟩
       · refine J.cond_true h19 ?_
         refine J.seq ?_
         refine J.region ?_
         refine JL.pur (mv_23 zv_23) (some 44) ?_
         refine JL.store 0 b3 0 23 (cl_23 zv_23) (cl_23 zv_23) tySize_23 ?_
         refine JL.as (.int .i64 16) ?_
         refine JL.nil ?_
         refine JQ.then_normal ?_
         refine JQ.sub [(2, .pointer (some ⟨b3, 0, none⟩)), (3, .int .i64 16)] ?_
         refine JQ.mask [At.box b3 23 (cl_23 zv_23)] [true, false] ?_
         refine J.ret ?_
         refine JQ.then_ret ?_
         obtain rfl := Option.some.inj H0
         exact JQ.done' (rs := [.cell 2 23, .tmp 3]) (vs := [.agg #[.int .i64 0, .int .i64 0, .int .i64 0], .int .i64 16]) [] (.inr rfl) ⟨⟨b3, 0, _, _, by kernel_rfl, by kernel_rfl, holds_box b3 23 (cl_23 zv_23), .inl ⟨tyAgg_23, tySize_23, rfl⟩⟩, by kernel_rfl, trivial⟩ (fun _ h => Heap.to (Heap.pick [] (by decide) h)) ⟨rfl, rfl⟩
       · refine J.cond_false h19 ?_
         refine J.skip ?_
         refine JQ.then_normal ?_
         refine JQ.sub [(2, .pointer (some ⟨b3, 0, none⟩)), (8, .pointer (some ⟨b18, 0, none⟩))] ?_
         refine J.seq ?_
         refine J.region ?_
         refine JL.val (mv_23 t16.1) (some 45) (yields_load_boxes 1 0 (cl_23 t16.1) (holds_box b18 23 (cl_23 t16.1)) tyAgg_23 tySize_23) ?_
         refine JL.store 0 b3 0 23 (cl_23 zv_23) (cl_23 t16.1) tySize_23 ?_
         refine JL.as (.int .i64 0) ?_
         refine JL.nil ?_
         refine JQ.then_normal ?_
         refine JQ.sub [(2, .pointer (some ⟨b3, 0, none⟩)), (3, .int .i64 0)] ?_
         refine JQ.mask [At.box b3 23 (cl_23 t16.1)] [true, false] ?_
         refine J.ret ?_
         obtain rfl := Option.some.inj H0
         exact JQ.done' (rs := [.cell 2 23, .tmp 3]) (vs := [.agg #[.int .i64 t16.1.Re, .int .i64 t16.1.Im, .int .i64 t16.1.Den], .int .i64 0]) [] (.inr rfl) ⟨⟨b3, 0, _, _, by kernel_rfl, by kernel_rfl, holds_box b3 23 (cl_23 t16.1), .inl ⟨tyAgg_23, tySize_23, rfl⟩⟩, by kernel_rfl, trivial⟩ (fun _ h => Heap.to (Heap.pick [] (by decide) h)) ⟨rfl, rfl⟩

theorem ref25_Zero.ok (a1 : Cx) (r : Bool) (H0 : ref25_Zero.f a1 = some r) :
    Does Try.prog 26 [mv_23 a1].toArray [] [] false (fun v Δ => v = .bool r ∧ Δ = []) := by
 refine Does.body (vs := [mv_23 a1]) Try.func26 rfl trivial trivial fun w S => ?_
 unfold ref25_Zero.f at H0
 refine J.seq ?_
 refine J.region ?_
 refine JL.box (cl_23 a1) fun b2 => ?_
 refine JL.as (.bool false) ?_
 refine JL.nil ?_
 refine JQ.then_normal ?_
 refine JQ.sub [(1, .pointer (some ⟨b2, 0, none⟩))] ?_
 refine J.seq ?_
 refine J.region ?_
 refine JL.pur (.pointer (some ⟨b2, 0, none⟩)) (some 3) ?_
 refine JL.val (.int .i64 a1.Re) (some 4) (yields_load_box 0 0 (holds_box b2 23 (cl_23 a1)) tyAgg_2) ?_
 refine JL.pur (.bool (decide (a1.Re = 0))) (some 5) ?_
 refine JL.mv (.bool (decide (a1.Re = 0))) ?_
 rcases ite_cases H0 with ⟨h3, H0⟩ | ⟨h3, H0⟩
 · refine JL.on 3 6 h3 ?_
   refine JL.pur (.pointer (some ⟨b2, 1, none⟩)) (some 7) ?_
   refine JL.on 3 6 h3 ?_
   refine JL.val (.int .i64 a1.Im) (some 8) (yields_load_box 0 1 (holds_box b2 23 (cl_23 a1)) tyAgg_2) ?_
   refine JL.on 3 6 h3 ?_
   refine JL.pur (.bool (decide (a1.Im = 0))) (some 9) ?_
   refine JL.val (.bool (decide (a1.Im = 0))) (some 10) (gives_pickT h3) ?_
   refine JL.as (.bool (decide (a1.Im = 0))) ?_
   refine JL.nil ?_
   refine JQ.then_normal ?_
   refine JQ.sub [(2, .bool (decide (a1.Im = 0)))] ?_
   refine JQ.mask [] [false] ?_
   refine J.ret ?_
   obtain rfl := Option.some.inj H0
   exact JQ.done' (rs := [.tmp 2]) (vs := [.bool (decide (a1.Im = 0))]) [] (.inr rfl) ⟨by kernel_rfl, trivial⟩ (fun _ h => Heap.to h) ⟨rfl, rfl⟩
 · refine JL.off 3 6 true (some 7) h3 ?_
   refine JL.off 3 6 true (some 8) h3 ?_
   refine JL.off 3 6 true (some 9) h3 ?_
   refine JL.val (.bool false) (some 10) (gives_pickF h3) ?_
   refine JL.as (.bool false) ?_
   refine JL.nil ?_
   refine JQ.then_normal ?_
   refine JQ.sub [(2, .bool false)] ?_
   refine JQ.mask [] [false] ?_
   refine J.ret ?_
   obtain rfl := Option.some.inj H0
   exact JQ.done' (rs := [.tmp 2]) (vs := [.bool false]) [] (.inr rfl) ⟨by kernel_rfl, trivial⟩ (fun _ h => Heap.to h) ⟨rfl, rfl⟩

theorem ref33_Table.ok (t1 : (List (A4 Cx))) (Aa2 : Option Addr) (c3 : Nat) (r : Int) (H0 : ref33_Table.f t1 = some r) :
    Does Try.prog 20 [.slice Aa2 t1.length c3].toArray [At.rd Aa2 c3 ((flArr4 fl_Cx).kd) t1 true] [] false (fun v Δ => v = .int .i64 r ∧ Δ = []) := by
 refine Does.body (vs := [.slice Aa2 t1.length c3]) Try.func20 rfl ⟨.inl rfl, trivial⟩ trivial fun w S => ?_
 unfold ref33_Table.f at H0
 refine J.seq ?_
 refine J.region ?_
 refine JL.as (.int .i64 0) ?_
 refine JL.nil ?_
 refine JQ.then_normal ?_
 refine JQ.sub [(0, .slice Aa2 t1.length c3)] ?_
 refine J.seq ?_
 refine J.seq ?_
 refine J.region ?_
 refine JL.mv (.slice Aa2 t1.length c3) ?_
 refine JL.pur (.int .i64 (t1.length : Int)) (some 8) ?_
 refine JL.pur (.bool (decide (8 < (t1.length : Int)))) (some 9) ?_
 refine JL.nil ?_
 refine JQ.then_normal ?_
 refine JQ.sub [(0, .slice Aa2 t1.length c3), (9, .bool (decide (8 < (t1.length : Int))))] ?_
 rcases ite_cases H0 with ⟨h5, H0⟩ | ⟨h5, H0⟩
 · refine J.cond_true h5 ?_
   refine J.seq ?_
   refine J.region ?_
   refine JL.as (.int .i64 4) ?_
   refine JL.nil ?_
   refine JQ.then_normal ?_
   refine JQ.sub [(2, .int .i64 4)] ?_
   refine JQ.mask [] [false] ?_
   refine J.ret ?_
   refine JQ.then_ret ?_
   obtain rfl := Option.some.inj H0
   exact JQ.done' (rs := [.tmp 2]) (vs := [.int .i64 4]) [] (.inr rfl) ⟨by kernel_rfl, trivial⟩ (fun _ h => Heap.to h) ⟨rfl, rfl⟩
 · refine J.cond_false h5 ?_
   refine J.skip ?_
   refine JQ.then_normal ?_
   refine JQ.sub [(0, .slice Aa2 t1.length c3)] ?_
   refine J.seq ?_
   refine J.seq ?_
   refine J.region ?_
   refine JL.as (.int .i64 0) ?_
   refine JL.nil ?_
   refine JQ.then_normal ?_
   obtain ⟨o1, hit, H0⟩ := bind_some H0
   refine J.loop (σ := Int) (τ := Unit) (G := Unit) (G' := Unit) _ o1 (fun s g => [(0, .slice Aa2 t1.length c3), (3, .int .i64 s)]) (fun s g => [At.rd Aa2 c3 ((flArr4 fl_Cx).kd) t1 true]) (fun t => ref33_Table.k2 t1 = some r) (fun t g => [(0, .slice Aa2 t1.length c3)]) (fun t g => [At.rd Aa2 c3 ((flArr4 fl_Cx).kd) t1 true]) 0 () hit (fun _ h => Heap.to h) ?_ ?_
   · clear hit
     rintro i24 ⟨⟩ st1 H1 hb1 hr1
     replace H1 : ref33_Table.s1 t1 i24 = some st1 := H1
     unfold ref33_Table.s1 at H1
     refine JQ.sub [(0, .slice Aa2 t1.length c3), (3, .int .i64 i24)] ?_
     refine JQ.turn (Δ' := [At.rd Aa2 c3 ((flArr4 fl_Cx).kd) t1 true]) (fun _ h => h.to) ?_
     refine J.seq ?_
     refine J.seq ?_
     refine J.region ?_
     refine JL.mv (.int .i64 i24) ?_
     refine JL.mv (.slice Aa2 t1.length c3) ?_
     refine JL.pur (.int .i64 (t1.length : Int)) (some 12) ?_
     refine JL.pur (.bool (decide (i24 < (t1.length : Int)))) (some 13) ?_
     refine JL.nil ?_
     refine JQ.then_normal ?_
     refine JQ.sub [(0, .slice Aa2 t1.length c3), (3, .int .i64 i24), (13, .bool (decide (i24 < (t1.length : Int))))] ?_
     rcases ite_cases H1 with ⟨h85, H1⟩ | ⟨h85, H1⟩
     · refine J.cond_true h85 ?_
       refine J.skip ?_
       refine JQ.then_normal ?_
       refine JQ.sub [(0, .slice Aa2 t1.length c3), (3, .int .i64 i24)] ?_
       refine J.seq ?_
       refine J.block ?_
       refine J.seq ?_
       refine J.region ?_
       refine JL.mv (.slice Aa2 t1.length c3) ?_
       refine JL.mv (.int .i64 i24) ?_
       obtain ⟨⟨h86, h87⟩, H1⟩ := ite_must H1
       refine JL.ixAddr 0 12 c3 .i64 (elems_rd Aa2 c3 ((flArr4 fl_Cx).kd) t1 true) Try.underlying38 tySize_25 h86 h87 fun g88 o89 hA => ?_
       subst hA
       refine JL.val (mv_25 (ix t1 i24)) (some 19) (gives_loadEl (f := (flArr4 fl_Cx)) 0 0 i24 (elems_rd (some ⟨g88, o89, none⟩) c3 ((flArr4 fl_Cx).kd) t1 true) h86 h87 tySize_25 (.inl ⟨tyAgg_25, rfl⟩)) ?_
       obtain ⟨t90, hc91, H1⟩ := bind_some H1
       refine JL.call [] [] [] (ref33_Valid.ok (ix t1 i24) _ hc91) trivial ?_
       rintro _ _ ⟨rfl, rfl⟩
       refine JL.pur (.bool (!t90)) (some 21) ?_
       refine JL.nil ?_
       refine JQ.then_normal ?_
       refine JQ.sub [(0, .slice (some ⟨g88, o89, none⟩) t1.length c3), (3, .int .i64 i24), (21, .bool (!t90))] ?_
       rcases ite_cases H1 with ⟨h92, H1⟩ | ⟨h92, H1⟩
       · refine J.cond_true h92 ?_
         refine J.seq ?_
         refine J.region ?_
         refine JL.as (.int .i64 8) ?_
         refine JL.nil ?_
         refine JQ.then_normal ?_
         refine JQ.sub [(2, .int .i64 8)] ?_
         refine JQ.mask [] [false] ?_
         refine J.ret ?_
         refine JQ.blk_ret ?_
         refine JQ.then_ret ?_
         refine JQ.then_ret ?_
         refine JQ.blk_ret ?_
         refine JQ.met_ret ?_
         refine JQ.then_ret ?_
         rw [hr1 _ (Option.some.inj H1).symm, fin_ret] at H0
         obtain rfl := Option.some.inj H0
         exact JQ.done' (rs := [.tmp 2]) (vs := [.int .i64 8]) [] (.inr rfl) ⟨by kernel_rfl, trivial⟩ (fun _ h => Heap.to h) ⟨rfl, rfl⟩
       · refine J.cond_false h92 ?_
         refine J.skip ?_
         refine JQ.blk_normal ?_
         refine JQ.then_normal ?_
         refine JQ.sub [(0, .slice (some ⟨g88, o89, none⟩) t1.length c3), (3, .int .i64 i24)] ?_
         refine J.region ?_
         refine JL.mv (.int .i64 i24) ?_
         refine JL.pur (.int .i64 (w64 (i24 + 1))) (some 15) ?_
         refine JL.as (.int .i64 (w64 (i24 + 1))) ?_
         refine JL.nil ?_
         refine JQ.then_normal ?_
         exact JQ.again (w64 (i24 + 1)) () (Option.some.inj H1).symm (fun _ h => Heap.to h)
     · refine J.cond_false h85 ?_
       refine J.exit ?_
       refine JQ.then_exit ?_
       refine JQ.then_exit ?_
       refine JQ.blk_exit ?_
       rw [hb1 _ (Option.some.inj H1).symm, fin_brk] at H0
       exact JQ.met () () H0 (fun _ h => Heap.to h)
   · clear hit H0
     rintro ⟨⟩ ⟨⟩ H0
     replace H0 : ref33_Table.k2 t1 = some r := H0
     unfold ref33_Table.k2 at H0
     refine JQ.sub [(0, .slice Aa2 t1.length c3)] ?_
     refine JQ.turn (Δ' := [At.rd Aa2 c3 ((flArr4 fl_Cx).kd) t1 true]) (fun _ h => h.to) ?_
     refine JQ.then_normal ?_
     refine J.seq ?_
     refine J.seq ?_
     refine J.region ?_
     refine JL.mv (.slice Aa2 t1.length c3) ?_
     refine JL.pur (.int .i64 (t1.length : Int)) (some 23) ?_
     refine JL.pur (.bool (decide ((t1.length : Int) = 0))) (some 24) ?_
     refine JL.nil ?_
     refine JQ.then_normal ?_
     refine JQ.sub [(0, .slice Aa2 t1.length c3), (24, .bool (decide ((t1.length : Int) = 0)))] ?_
     rcases ite_cases H0 with ⟨h33, H0⟩ | ⟨h33, H0⟩
     · refine J.cond_true h33 ?_
       refine J.seq ?_
       refine J.region ?_
       refine JL.as (.int .i64 8) ?_
       refine JL.nil ?_
       refine JQ.then_normal ?_
       refine JQ.sub [(2, .int .i64 8)] ?_
       refine JQ.mask [] [false] ?_
       refine J.ret ?_
       refine JQ.then_ret ?_
       obtain rfl := Option.some.inj H0
       exact JQ.done' (rs := [.tmp 2]) (vs := [.int .i64 8]) [] (.inr rfl) ⟨by kernel_rfl, trivial⟩ (fun _ h => Heap.to h) ⟨rfl, rfl⟩
     · refine J.cond_false h33 ?_
       refine J.skip ?_
       refine JQ.then_normal ?_
       refine JQ.sub [(0, .slice Aa2 t1.length c3)] ?_
       refine J.seq ?_
       refine J.seq ?_
       refine J.region ?_
       refine JL.as (.int .i64 0) ?_
       refine JL.nil ?_
       refine JQ.then_normal ?_
       obtain ⟨o1, hit, H0⟩ := bind_some H0
       refine J.loop (σ := Int) (τ := Unit) (G := Unit) (G' := Unit) _ o1 (fun s g => [(0, .slice Aa2 t1.length c3), (4, .int .i64 s)]) (fun s g => [At.rd Aa2 c3 ((flArr4 fl_Cx).kd) t1 true]) (fun t => ref33_Table.k4 = some r) (fun t g => []) (fun t g => []) 0 () hit (fun _ h => Heap.to h) ?_ ?_
       · clear hit
         rintro i60 ⟨⟩ st1 H1 hb1 hr1
         replace H1 : ref33_Table.s3 t1 i60 = some st1 := H1
         unfold ref33_Table.s3 at H1
         refine JQ.sub [(0, .slice Aa2 t1.length c3), (4, .int .i64 i60)] ?_
         refine JQ.turn (Δ' := [At.rd Aa2 c3 ((flArr4 fl_Cx).kd) t1 true]) (fun _ h => h.to) ?_
         refine J.seq ?_
         refine J.seq ?_
         refine J.region ?_
         refine JL.mv (.int .i64 i60) ?_
         refine JL.mv (.slice Aa2 t1.length c3) ?_
         refine JL.pur (.int .i64 (t1.length : Int)) (some 27) ?_
         refine JL.pur (.bool (decide (i60 < (t1.length : Int)))) (some 28) ?_
         refine JL.nil ?_
         refine JQ.then_normal ?_
         refine JQ.sub [(0, .slice Aa2 t1.length c3), (4, .int .i64 i60), (28, .bool (decide (i60 < (t1.length : Int))))] ?_
         rcases ite_cases H1 with ⟨h73, H1⟩ | ⟨h73, H1⟩
         · refine J.cond_true h73 ?_
           refine J.skip ?_
           refine JQ.then_normal ?_
           refine JQ.sub [(0, .slice Aa2 t1.length c3), (4, .int .i64 i60)] ?_
           refine J.seq ?_
           refine J.block ?_
           refine J.seq ?_
           refine J.region ?_
           refine JL.mv (.slice Aa2 t1.length c3) ?_
           refine JL.mv (.int .i64 i60) ?_
           obtain ⟨⟨h74, h75⟩, H1⟩ := ite_must H1
           refine JL.ixAddr 0 12 c3 .i64 (elems_rd Aa2 c3 ((flArr4 fl_Cx).kd) t1 true) Try.underlying38 tySize_25 h74 h75 fun g76 o77 hA => ?_
           subst hA
           refine JL.val (mv_25 (ix t1 i60)) (some 35) (gives_loadEl (f := (flArr4 fl_Cx)) 0 0 i60 (elems_rd (some ⟨g76, o77, none⟩) c3 ((flArr4 fl_Cx).kd) t1 true) h74 h75 tySize_25 (.inl ⟨tyAgg_25, rfl⟩)) ?_
           obtain ⟨t78, hc79, H1⟩ := bind_some H1
           refine JL.call [] [] [] (ref33_Det.ok (ix t1 i60) _ hc79) trivial ?_
           rintro _ _ ⟨rfl, rfl⟩
           refine JL.mv (.tuple #[mv_23 t78.1, .int .i64 t78.2]) ?_
           refine JL.pur (mv_23 t78.1) (some 37) ?_
           refine JL.pur (.int .i64 t78.2) (some 38) ?_
           refine JL.alloc (cl_23 zv_23) fun b80 => ?_
           refine JL.store 1 b80 0 23 (cl_23 zv_23) (cl_23 t78.1) tySize_23 ?_
           refine JL.as (.int .i64 t78.2) ?_
           refine JL.nil ?_
           refine JQ.then_normal ?_
           refine JQ.sub [(0, .slice (some ⟨g76, o77, none⟩) t1.length c3), (4, .int .i64 i60), (5, .pointer (some ⟨b80, 0, none⟩)), (6, .int .i64 t78.2)] ?_
           refine J.seq ?_
           refine J.seq ?_
           refine J.region ?_
           refine JL.mv (.int .i64 t78.2) ?_
           refine JL.pur (.bool (!decide (t78.2 = 0))) (some 40) ?_
           refine JL.nil ?_
           refine JQ.then_normal ?_
           refine JQ.sub [(0, .slice (some ⟨g76, o77, none⟩) t1.length c3), (4, .int .i64 i60), (5, .pointer (some ⟨b80, 0, none⟩)), (6, .int .i64 t78.2), (40, .bool (!decide (t78.2 = 0)))] ?_
           rcases ite_cases H1 with ⟨h81, H1⟩ | ⟨h81, H1⟩
           · refine J.cond_true h81 ?_
             refine J.seq ?_
             refine J.region ?_
             refine JL.mv (.int .i64 t78.2) ?_
             refine JL.as (.int .i64 t78.2) ?_
             refine JL.nil ?_
             refine JQ.then_normal ?_
             refine JQ.sub [(2, .int .i64 t78.2)] ?_
             refine JQ.mask [] [false, false] ?_
             refine J.ret ?_
             refine JQ.then_ret ?_
             refine JQ.blk_ret ?_
             refine JQ.then_ret ?_
             refine JQ.then_ret ?_
             refine JQ.blk_ret ?_
             refine JQ.met_ret ?_
             refine JQ.then_ret ?_
             rw [hr1 _ (Option.some.inj H1).symm, fin_ret] at H0
             obtain rfl := Option.some.inj H0
             exact JQ.done' (rs := [.tmp 2]) (vs := [.int .i64 t78.2]) [] (.inr rfl) ⟨by kernel_rfl, trivial⟩ (fun _ h => Heap.to h) ⟨rfl, rfl⟩
           · refine J.cond_false h81 ?_
             refine J.skip ?_
             refine JQ.then_normal ?_
             refine JQ.sub [(0, .slice (some ⟨g76, o77, none⟩) t1.length c3), (4, .int .i64 i60), (5, .pointer (some ⟨b80, 0, none⟩))] ?_
             refine J.seq ?_
             refine J.region ?_
             refine JL.val (mv_23 t78.1) (some 42) (yields_load_boxes 1 0 (cl_23 t78.1) (holds_box b80 23 (cl_23 t78.1)) tyAgg_23 tySize_23) ?_
             obtain ⟨t82, hc83, H1⟩ := bind_some H1
             refine JL.call [] [] [] (ref25_Zero.ok t78.1 _ hc83) trivial ?_
             rintro _ _ ⟨rfl, rfl⟩
             refine JL.nil ?_
             refine JQ.then_normal ?_
             refine JQ.sub [(0, .slice (some ⟨g76, o77, none⟩) t1.length c3), (4, .int .i64 i60), (43, .bool t82)] ?_
             refine JQ.mask [At.rd (some ⟨g76, o77, none⟩) c3 ((flArr4 fl_Cx).kd) t1 true] [true, false] ?_
             rcases ite_cases H1 with ⟨h84, H1⟩ | ⟨h84, H1⟩
             · refine J.cond_true h84 ?_
               refine J.seq ?_
               refine J.region ?_
               refine JL.as (.int .i64 18) ?_
               refine JL.nil ?_
               refine JQ.then_normal ?_
               refine JQ.sub [(2, .int .i64 18)] ?_
               refine JQ.mask [] [false] ?_
               refine J.ret ?_
               refine JQ.blk_ret ?_
               refine JQ.then_ret ?_
               refine JQ.then_ret ?_
               refine JQ.blk_ret ?_
               refine JQ.met_ret ?_
               refine JQ.then_ret ?_
               rw [hr1 _ (Option.some.inj H1).symm, fin_ret] at H0
               obtain rfl := Option.some.inj H0
               exact JQ.done' (rs := [.tmp 2]) (vs := [.int .i64 18]) [] (.inr rfl) ⟨by kernel_rfl, trivial⟩ (fun _ h => Heap.to h) ⟨rfl, rfl⟩
             · refine J.cond_false h84 ?_
               refine J.skip ?_
               refine JQ.blk_normal ?_
               refine JQ.then_normal ?_
               refine JQ.sub [(0, .slice (some ⟨g76, o77, none⟩) t1.length c3), (4, .int .i64 i60)] ?_
               refine J.region ?_
               refine JL.mv (.int .i64 i60) ?_
               refine JL.pur (.int .i64 (w64 (i60 + 1))) (some 30) ?_
               refine JL.as (.int .i64 (w64 (i60 + 1))) ?_
               refine JL.nil ?_
               refine JQ.then_normal ?_
               exact JQ.again (w64 (i60 + 1)) () (Option.some.inj H1).symm (fun _ h => Heap.to h)
         · refine J.cond_false h73 ?_
           refine J.exit ?_
           refine JQ.then_exit ?_
           refine JQ.then_exit ?_
           refine JQ.blk_exit ?_
           rw [hb1 _ (Option.some.inj H1).symm, fin_brk] at H0
           exact JQ.met () () H0 (fun _ h => Heap.to (Heap.pick [] (by decide) h))
       · clear hit H0
         rintro ⟨⟩ ⟨⟩ H0
         replace H0 : ref33_Table.k4 = some r := H0
         unfold ref33_Table.k4 at H0
         refine JQ.sub [] ?_
         refine JQ.turn (Δ' := []) (fun _ h => h.to) ?_
         refine JQ.then_normal ?_
         refine J.seq ?_
         refine J.region ?_
         refine JL.as (.int .i64 0) ?_
         refine JL.nil ?_
         refine JQ.then_normal ?_
         refine J.ret ?_
         obtain rfl := Option.some.inj H0
         exact JQ.done' (rs := [.tmp 2]) (vs := [.int .i64 0]) [] (.inr rfl) ⟨by kernel_rfl, trivial⟩ (fun _ h => Heap.to h) ⟨rfl, rfl⟩

theorem ref33_Seen.ok (p1 : Pol) (n2 : Int) (r : Bool) (H0 : ref33_Seen.f p1 n2 = some r) :
    Does Try.prog 49 [mv_57 p1, .int .i64 n2].toArray [] [] false (fun v Δ => v = .bool r ∧ Δ = []) := by
 refine Does.body (vs := [mv_57 p1, .int .i64 n2]) Try.func49 rfl trivial trivial fun w S => ?_
 unfold ref33_Seen.f at H0
 refine J.seq ?_
 refine J.region ?_
 refine JL.box (cl_57 p1) fun b3 => ?_
 refine JL.as (.bool false) ?_
 refine JL.nil ?_
 refine JQ.then_normal ?_
 refine JQ.sub [(1, .int .i64 n2), (2, .pointer (some ⟨b3, 0, none⟩))] ?_
 refine J.seq ?_
 refine J.region ?_
 refine JL.pur (.pointer (some ⟨b3, 0, none⟩)) (some 5) ?_
 refine JL.val (.int .i64 p1.I) (some 6) (yields_load_box 0 0 (holds_box b3 57 (cl_57 p1)) tyAgg_3) ?_
 refine JL.pur (.bool (decide (0 ≤ p1.I))) (some 7) ?_
 refine JL.mv (.bool (decide (0 ≤ p1.I))) ?_
 rcases ite_cases H0 with ⟨h4, H0⟩ | ⟨h4, H0⟩
 · refine JL.on 3 8 h4 ?_
   refine JL.pur (.pointer (some ⟨b3, 0, none⟩)) (some 9) ?_
   refine JL.on 3 8 h4 ?_
   refine JL.val (.int .i64 p1.I) (some 10) (yields_load_box 0 0 (holds_box b3 57 (cl_57 p1)) tyAgg_3) ?_
   refine JL.on 3 8 h4 ?_
   refine JL.pur (.pointer (some ⟨b3, 1, none⟩)) (some 11) ?_
   refine JL.on 3 8 h4 ?_
   refine JL.val (.int .i64 p1.J) (some 12) (yields_load_box 0 1 (holds_box b3 57 (cl_57 p1)) tyAgg_3) ?_
   refine JL.on 3 8 h4 ?_
   refine JL.pur (.bool (decide (p1.I < p1.J))) (some 13) ?_
   refine JL.val (.bool (decide (p1.I < p1.J))) (some 14) (gives_pickT h4) ?_
   refine JL.mv (.bool (decide (p1.I < p1.J))) ?_
   rcases ite_cases H0 with ⟨h5, H0⟩ | ⟨h5, H0⟩
   · refine JL.on 10 15 h5 ?_
     refine JL.pur (.pointer (some ⟨b3, 1, none⟩)) (some 16) ?_
     refine JL.on 10 15 h5 ?_
     refine JL.val (.int .i64 p1.J) (some 17) (yields_load_box 0 1 (holds_box b3 57 (cl_57 p1)) tyAgg_3) ?_
     refine JL.on 10 15 h5 ?_
     refine JL.mv (.int .i64 n2) ?_
     refine JL.on 10 15 h5 ?_
     refine JL.pur (.bool (decide (p1.J < n2))) (some 19) ?_
     refine JL.val (.bool (decide (p1.J < n2))) (some 20) (gives_pickT h5) ?_
     refine JL.mv (.bool (decide (p1.J < n2))) ?_
     rcases ite_cases H0 with ⟨h6, H0⟩ | ⟨h6, H0⟩
     · refine JL.on 16 21 h6 ?_
       refine JL.pur (.pointer (some ⟨b3, 14, none⟩)) (some 22) ?_
       refine JL.on 16 21 h6 ?_
       refine JL.val (.int .i64 p1.N) (some 23) (yields_load_box 0 14 (holds_box b3 57 (cl_57 p1)) tyAgg_3) ?_
       refine JL.on 16 21 h6 ?_
       refine JL.pur (.bool (decide (0 ≤ p1.N))) (some 24) ?_
       refine JL.val (.bool (decide (0 ≤ p1.N))) (some 25) (gives_pickT h6) ?_
       refine JL.mv (.bool (decide (0 ≤ p1.N))) ?_
       rcases ite_cases H0 with ⟨h7, H0⟩ | ⟨h7, H0⟩
       · refine JL.on 21 26 h7 ?_
         refine JL.pur (.pointer (some ⟨b3, 2, none⟩)) (some 27) ?_
         refine JL.on 21 26 h7 ?_
         refine JL.val (mv_25 p1.V) (some 28) (yields_load_boxes 0 2 (cl_25 p1.V) (holds_box b3 57 (cl_57 p1)) tyAgg_25 tySize_25) ?_
         refine JL.on 21 26 h7 ?_
         obtain ⟨t8, hc9, H0⟩ := bind_some H0
         refine JL.call [] [] [] (ref33_Valid.ok p1.V _ hc9) trivial ?_
         rintro _ _ ⟨rfl, rfl⟩
         refine JL.val (.bool t8) (some 30) (gives_pickT h7) ?_
         refine JL.as (.bool t8) ?_
         refine JL.nil ?_
         refine JQ.then_normal ?_
         refine JQ.sub [(4, .bool t8)] ?_
         refine JQ.mask [] [false] ?_
         refine J.ret ?_
         obtain rfl := Option.some.inj H0
         exact JQ.done' (rs := [.tmp 4]) (vs := [.bool t8]) [] (.inr rfl) ⟨by kernel_rfl, trivial⟩ (fun _ h => Heap.to h) ⟨rfl, rfl⟩
       · refine JL.off 21 26 true (some 27) h7 ?_
         refine JL.off 21 26 true (some 28) h7 ?_
         refine JL.off 21 26 true (some 29) h7 ?_
         refine JL.val (.bool false) (some 30) (gives_pickF h7) ?_
         refine JL.as (.bool false) ?_
         refine JL.nil ?_
         refine JQ.then_normal ?_
         refine JQ.sub [(4, .bool false)] ?_
         refine JQ.mask [] [false] ?_
         refine J.ret ?_
         obtain rfl := Option.some.inj H0
         exact JQ.done' (rs := [.tmp 4]) (vs := [.bool false]) [] (.inr rfl) ⟨by kernel_rfl, trivial⟩ (fun _ h => Heap.to h) ⟨rfl, rfl⟩
     · refine JL.off 16 21 true (some 22) h6 ?_
       refine JL.off 16 21 true (some 23) h6 ?_
       refine JL.off 16 21 true (some 24) h6 ?_
       refine JL.val (.bool false) (some 25) (gives_pickF h6) ?_
       refine JL.mv (.bool false) ?_
       refine JL.off 21 26 true (some 27) rfl ?_
       refine JL.off 21 26 true (some 28) rfl ?_
       refine JL.off 21 26 true (some 29) rfl ?_
       refine JL.val (.bool false) (some 30) (gives_pickF rfl) ?_
       refine JL.as (.bool false) ?_
       refine JL.nil ?_
       refine JQ.then_normal ?_
       refine JQ.sub [(4, .bool false)] ?_
       refine JQ.mask [] [false] ?_
       refine J.ret ?_
       obtain rfl := Option.some.inj H0
       exact JQ.done' (rs := [.tmp 4]) (vs := [.bool false]) [] (.inr rfl) ⟨by kernel_rfl, trivial⟩ (fun _ h => Heap.to h) ⟨rfl, rfl⟩
   · refine JL.off 10 15 true (some 16) h5 ?_
     refine JL.off 10 15 true (some 17) h5 ?_
     refine JL.off 10 15 true (some 18) h5 ?_
     refine JL.off 10 15 true (some 19) h5 ?_
     refine JL.val (.bool false) (some 20) (gives_pickF h5) ?_
     refine JL.mv (.bool false) ?_
     refine JL.off 16 21 true (some 22) rfl ?_
     refine JL.off 16 21 true (some 23) rfl ?_
     refine JL.off 16 21 true (some 24) rfl ?_
     refine JL.val (.bool false) (some 25) (gives_pickF rfl) ?_
     refine JL.mv (.bool false) ?_
     refine JL.off 21 26 true (some 27) rfl ?_
     refine JL.off 21 26 true (some 28) rfl ?_
     refine JL.off 21 26 true (some 29) rfl ?_
     refine JL.val (.bool false) (some 30) (gives_pickF rfl) ?_
     refine JL.as (.bool false) ?_
     refine JL.nil ?_
     refine JQ.then_normal ?_
     refine JQ.sub [(4, .bool false)] ?_
     refine JQ.mask [] [false] ?_
     refine J.ret ?_
     obtain rfl := Option.some.inj H0
     exact JQ.done' (rs := [.tmp 4]) (vs := [.bool false]) [] (.inr rfl) ⟨by kernel_rfl, trivial⟩ (fun _ h => Heap.to h) ⟨rfl, rfl⟩
 · refine JL.off 3 8 true (some 9) h4 ?_
   refine JL.off 3 8 true (some 10) h4 ?_
   refine JL.off 3 8 true (some 11) h4 ?_
   refine JL.off 3 8 true (some 12) h4 ?_
   refine JL.off 3 8 true (some 13) h4 ?_
   refine JL.val (.bool false) (some 14) (gives_pickF h4) ?_
   refine JL.mv (.bool false) ?_
   refine JL.off 10 15 true (some 16) rfl ?_
   refine JL.off 10 15 true (some 17) rfl ?_
   refine JL.off 10 15 true (some 18) rfl ?_
   refine JL.off 10 15 true (some 19) rfl ?_
   refine JL.val (.bool false) (some 20) (gives_pickF rfl) ?_
   refine JL.mv (.bool false) ?_
   refine JL.off 16 21 true (some 22) rfl ?_
   refine JL.off 16 21 true (some 23) rfl ?_
   refine JL.off 16 21 true (some 24) rfl ?_
   refine JL.val (.bool false) (some 25) (gives_pickF rfl) ?_
   refine JL.mv (.bool false) ?_
   refine JL.off 21 26 true (some 27) rfl ?_
   refine JL.off 21 26 true (some 28) rfl ?_
   refine JL.off 21 26 true (some 29) rfl ?_
   refine JL.val (.bool false) (some 30) (gives_pickF rfl) ?_
   refine JL.as (.bool false) ?_
   refine JL.nil ?_
   refine JQ.then_normal ?_
   refine JQ.sub [(4, .bool false)] ?_
   refine JQ.mask [] [false] ?_
   refine J.ret ?_
   obtain rfl := Option.some.inj H0
   exact JQ.done' (rs := [.tmp 4]) (vs := [.bool false]) [] (.inr rfl) ⟨by kernel_rfl, trivial⟩ (fun _ h => Heap.to h) ⟨rfl, rfl⟩

theorem ref33_All.ok (l1 : (List Pol)) (Aa2 : Option Addr) (c3 : Nat) (n5 : Int) (r : Int) (H0 : ref33_All.f l1 n5 = some r) :
    Does Try.prog 21 [.slice Aa2 l1.length c3, .int .i64 n5].toArray [At.rd Aa2 c3 fl_Pol.kd l1 true] [] false (fun v Δ => v = .int .i64 r ∧ Δ = []) := by
 refine Does.body (vs := [.slice Aa2 l1.length c3, .int .i64 n5]) Try.func21 rfl ⟨.inl rfl, trivial⟩ trivial fun w S => ?_
 unfold ref33_All.f at H0
 refine J.seq ?_
 refine J.region ?_
 refine JL.as (.int .i64 0) ?_
 refine JL.nil ?_
 refine JQ.then_normal ?_
 refine JQ.sub [(0, .slice Aa2 l1.length c3), (1, .int .i64 n5)] ?_
 refine J.seq ?_
 refine J.seq ?_
 refine J.region ?_
 refine JL.mv (.slice Aa2 l1.length c3) ?_
 refine JL.pur (.int .i64 (l1.length : Int)) (some 7) ?_
 refine JL.pur (.bool (decide (64 < (l1.length : Int)))) (some 8) ?_
 refine JL.nil ?_
 refine JQ.then_normal ?_
 refine JQ.sub [(0, .slice Aa2 l1.length c3), (1, .int .i64 n5), (8, .bool (decide (64 < (l1.length : Int))))] ?_
 rcases ite_cases H0 with ⟨h6, H0⟩ | ⟨h6, H0⟩
 · refine J.cond_true h6 ?_
   refine J.seq ?_
   refine J.region ?_
   refine JL.as (.int .i64 4) ?_
   refine JL.nil ?_
   refine JQ.then_normal ?_
   refine JQ.sub [(4, .int .i64 4)] ?_
   refine JQ.mask [] [false] ?_
   refine J.ret ?_
   refine JQ.then_ret ?_
   obtain rfl := Option.some.inj H0
   exact JQ.done' (rs := [.tmp 4]) (vs := [.int .i64 4]) [] (.inr rfl) ⟨by kernel_rfl, trivial⟩ (fun _ h => Heap.to h) ⟨rfl, rfl⟩
 · refine J.cond_false h6 ?_
   refine J.skip ?_
   refine JQ.then_normal ?_
   refine JQ.sub [(0, .slice Aa2 l1.length c3), (1, .int .i64 n5)] ?_
   refine J.seq ?_
   refine J.seq ?_
   refine J.region ?_
   refine JL.as (.int .i64 0) ?_
   refine JL.nil ?_
   refine JQ.then_normal ?_
   obtain ⟨o1, hit, H0⟩ := bind_some H0
   refine J.loop (σ := Int) (τ := Unit) (G := Unit) (G' := Unit) _ o1 (fun s g => [(0, .slice Aa2 l1.length c3), (1, .int .i64 n5), (5, .int .i64 s)]) (fun s g => [At.rd Aa2 c3 fl_Pol.kd l1 true]) (fun t => ref33_All.k2 = some r) (fun t g => []) (fun t g => []) 0 () hit (fun _ h => Heap.to h) ?_ ?_
   · clear hit
     rintro i25 ⟨⟩ st1 H1 hb1 hr1
     replace H1 : ref33_All.s1 l1 n5 i25 = some st1 := H1
     unfold ref33_All.s1 at H1
     refine JQ.sub [(0, .slice Aa2 l1.length c3), (1, .int .i64 n5), (5, .int .i64 i25)] ?_
     refine JQ.turn (Δ' := [At.rd Aa2 c3 fl_Pol.kd l1 true]) (fun _ h => h.to) ?_
     refine J.seq ?_
     refine J.seq ?_
     refine J.region ?_
     refine JL.mv (.int .i64 i25) ?_
     refine JL.mv (.slice Aa2 l1.length c3) ?_
     refine JL.pur (.int .i64 (l1.length : Int)) (some 11) ?_
     refine JL.pur (.bool (decide (i25 < (l1.length : Int)))) (some 12) ?_
     refine JL.nil ?_
     refine JQ.then_normal ?_
     refine JQ.sub [(0, .slice Aa2 l1.length c3), (1, .int .i64 n5), (5, .int .i64 i25), (12, .bool (decide (i25 < (l1.length : Int))))] ?_
     rcases ite_cases H1 with ⟨h34, H1⟩ | ⟨h34, H1⟩
     · refine J.cond_true h34 ?_
       refine J.skip ?_
       refine JQ.then_normal ?_
       refine JQ.sub [(0, .slice Aa2 l1.length c3), (1, .int .i64 n5), (5, .int .i64 i25)] ?_
       refine J.seq ?_
       refine J.block ?_
       refine J.seq ?_
       refine J.region ?_
       refine JL.mv (.slice Aa2 l1.length c3) ?_
       refine JL.mv (.int .i64 i25) ?_
       obtain ⟨⟨h35, h36⟩, H1⟩ := ite_must H1
       refine JL.ixAddr 0 15 c3 .i64 (elems_rd Aa2 c3 fl_Pol.kd l1 true) Try.underlying39 tySize_57 h35 h36 fun g37 o38 hA => ?_
       subst hA
       refine JL.val (mv_57 (ix l1 i25)) (some 18) (gives_loadEl (f := fl_Pol) 0 0 i25 (elems_rd (some ⟨g37, o38, none⟩) c3 fl_Pol.kd l1 true) h35 h36 tySize_57 (.inl ⟨tyAgg_57, rfl⟩)) ?_
       refine JL.mv (.int .i64 n5) ?_
       obtain ⟨t39, hc40, H1⟩ := bind_some H1
       refine JL.call [] [] [] (ref33_Seen.ok (ix l1 i25) n5 _ hc40) trivial ?_
       rintro _ _ ⟨rfl, rfl⟩
       refine JL.pur (.bool (!t39)) (some 21) ?_
       refine JL.nil ?_
       refine JQ.then_normal ?_
       refine JQ.sub [(0, .slice (some ⟨g37, o38, none⟩) l1.length c3), (1, .int .i64 n5), (5, .int .i64 i25), (21, .bool (!t39))] ?_
       rcases ite_cases H1 with ⟨h41, H1⟩ | ⟨h41, H1⟩
       · refine J.cond_true h41 ?_
         refine J.seq ?_
         refine J.region ?_
         refine JL.as (.int .i64 8) ?_
         refine JL.nil ?_
         refine JQ.then_normal ?_
         refine JQ.sub [(4, .int .i64 8)] ?_
         refine JQ.mask [] [false] ?_
         refine J.ret ?_
         refine JQ.blk_ret ?_
         refine JQ.then_ret ?_
         refine JQ.then_ret ?_
         refine JQ.blk_ret ?_
         refine JQ.met_ret ?_
         refine JQ.then_ret ?_
         rw [hr1 _ (Option.some.inj H1).symm, fin_ret] at H0
         obtain rfl := Option.some.inj H0
         exact JQ.done' (rs := [.tmp 4]) (vs := [.int .i64 8]) [] (.inr rfl) ⟨by kernel_rfl, trivial⟩ (fun _ h => Heap.to h) ⟨rfl, rfl⟩
       · refine J.cond_false h41 ?_
         refine J.skip ?_
         refine JQ.blk_normal ?_
         refine JQ.then_normal ?_
         refine JQ.sub [(0, .slice (some ⟨g37, o38, none⟩) l1.length c3), (1, .int .i64 n5), (5, .int .i64 i25)] ?_
         refine J.region ?_
         refine JL.mv (.int .i64 i25) ?_
         refine JL.pur (.int .i64 (w64 (i25 + 1))) (some 14) ?_
         refine JL.as (.int .i64 (w64 (i25 + 1))) ?_
         refine JL.nil ?_
         refine JQ.then_normal ?_
         exact JQ.again (w64 (i25 + 1)) () (Option.some.inj H1).symm (fun _ h => Heap.to h)
     · refine J.cond_false h34 ?_
       refine J.exit ?_
       refine JQ.then_exit ?_
       refine JQ.then_exit ?_
       refine JQ.blk_exit ?_
       rw [hb1 _ (Option.some.inj H1).symm, fin_brk] at H0
       exact JQ.met () () H0 (fun _ h => Heap.to (Heap.pick [] (by decide) h))
   · clear hit H0
     rintro ⟨⟩ ⟨⟩ H0
     replace H0 : ref33_All.k2 = some r := H0
     unfold ref33_All.k2 at H0
     refine JQ.sub [] ?_
     refine JQ.turn (Δ' := []) (fun _ h => h.to) ?_
     refine JQ.then_normal ?_
     refine J.seq ?_
     refine J.region ?_
     refine JL.as (.int .i64 0) ?_
     refine JL.nil ?_
     refine JQ.then_normal ?_
     refine J.ret ?_
     obtain rfl := Option.some.inj H0
     exact JQ.done' (rs := [.tmp 4]) (vs := [.int .i64 0]) [] (.inr rfl) ⟨by kernel_rfl, trivial⟩ (fun _ h => Heap.to h) ⟨rfl, rfl⟩

theorem ref33_Check.ok (l1 : (List Pol)) (Aa2 : Option Addr) (c3 : Nat) (r : Int) (H0 : ref33_Check.f l1 = some r) :
    Does Try.prog 31 [.slice Aa2 l1.length c3].toArray [At.rd Aa2 c3 fl_Pol.kd l1 true] [] false (fun v Δ => v = .int .i64 r ∧ Δ = []) := by
 refine Does.body (vs := [.slice Aa2 l1.length c3]) Try.func31 rfl ⟨.inl rfl, trivial⟩ trivial fun w S => ?_
 unfold ref33_Check.f at H0
 refine J.seq ?_
 refine J.region ?_
 refine JL.as (.int .i64 0) ?_
 refine JL.nil ?_
 refine JQ.then_normal ?_
 refine JQ.sub [(0, .slice Aa2 l1.length c3)] ?_
 refine J.seq ?_
 refine J.seq ?_
 refine J.region ?_
 refine JL.mv (.slice Aa2 l1.length c3) ?_
 obtain ⟨t5, hc6, H0⟩ := bind_some H0
 refine JL.call [] [] [] (ref33_All.ok l1 Aa2 c3 8 _ hc6) ⟨pre_any 0 (view_rd Aa2 c3 fl_Pol.kd l1 true true), trivial⟩ ?_
 rintro _ _ ⟨rfl, rfl⟩
 refine JL.as (.int .i64 t5) ?_
 refine JL.nil ?_
 refine JQ.then_normal ?_
 refine JQ.sub [(0, .slice Aa2 l1.length c3), (3, .int .i64 t5)] ?_
 refine J.seq ?_
 refine J.region ?_
 refine JL.mv (.int .i64 t5) ?_
 refine JL.pur (.bool (!decide (t5 = 0))) (some 9) ?_
 refine JL.nil ?_
 refine JQ.then_normal ?_
 refine JQ.sub [(0, .slice Aa2 l1.length c3), (3, .int .i64 t5), (9, .bool (!decide (t5 = 0)))] ?_
 rcases ite_cases H0 with ⟨h7, H0⟩ | ⟨h7, H0⟩
 · refine J.cond_true h7 ?_
   refine J.seq ?_
   refine J.region ?_
   refine JL.mv (.int .i64 t5) ?_
   refine JL.as (.int .i64 t5) ?_
   refine JL.nil ?_
   refine JQ.then_normal ?_
   refine JQ.sub [(2, .int .i64 t5)] ?_
   refine JQ.mask [] [false] ?_
   refine J.ret ?_
   refine JQ.then_ret ?_
   obtain rfl := Option.some.inj H0
   exact JQ.done' (rs := [.tmp 2]) (vs := [.int .i64 t5]) [] (.inr rfl) ⟨by kernel_rfl, trivial⟩ (fun _ h => Heap.to h) ⟨rfl, rfl⟩
 · refine J.cond_false h7 ?_
   refine J.skip ?_
   refine JQ.then_normal ?_
   refine JQ.sub [(0, .slice Aa2 l1.length c3)] ?_
   refine J.seq ?_
   refine J.seq ?_
   refine J.region ?_
   refine JL.as (.int .i64 0) ?_
   refine JL.nil ?_
   refine JQ.then_normal ?_
   obtain ⟨o1, hit, H0⟩ := bind_some H0
   refine J.loop (σ := Int) (τ := Unit) (G := Unit) (G' := Unit) _ o1 (fun s g => [(0, .slice Aa2 l1.length c3), (4, .int .i64 s)]) (fun s g => [At.rd Aa2 c3 fl_Pol.kd l1 true]) (fun t => ref33_Check.k16 = some r) (fun t g => []) (fun t g => []) 0 () hit (fun _ h => Heap.to h) ?_ ?_
   · clear hit
     rintro i163 ⟨⟩ st1 H1 hb1 hr1
     replace H1 : ref33_Check.s15 l1 i163 = some st1 := H1
     unfold ref33_Check.s15 at H1
     refine JQ.sub [(0, .slice Aa2 l1.length c3), (4, .int .i64 i163)] ?_
     refine JQ.turn (Δ' := [At.rd Aa2 c3 fl_Pol.kd l1 true]) (fun _ h => h.to) ?_
     refine J.seq ?_
     refine J.seq ?_
     refine J.region ?_
     refine JL.mv (.int .i64 i163) ?_
     refine JL.mv (.slice Aa2 l1.length c3) ?_
     refine JL.pur (.int .i64 (l1.length : Int)) (some 13) ?_
     refine JL.pur (.bool (decide (i163 < (l1.length : Int)))) (some 14) ?_
     refine JL.nil ?_
     refine JQ.then_normal ?_
     refine JQ.sub [(0, .slice Aa2 l1.length c3), (4, .int .i64 i163), (14, .bool (decide (i163 < (l1.length : Int))))] ?_
     rcases ite_cases H1 with ⟨h316, H1⟩ | ⟨h316, H1⟩
     · refine J.cond_true h316 ?_
       refine J.skip ?_
       refine JQ.then_normal ?_
       refine JQ.sub [(0, .slice Aa2 l1.length c3), (4, .int .i64 i163)] ?_
       refine J.seq ?_
       refine J.block ?_
       refine J.seq ?_
       refine J.region ?_
       refine JL.as (.int .i64 0) ?_
       refine JL.nil ?_
       refine JQ.then_normal ?_
       obtain ⟨o2, hit, H1⟩ := bind_some H1
       refine J.loop (σ := Int) (τ := Unit) (G := Unit) (G' := Unit) _ o2 (fun s g => [(0, .slice Aa2 l1.length c3), (4, .int .i64 i163), (5, .int .i64 s)]) (fun s g => [At.rd Aa2 c3 fl_Pol.kd l1 true]) (fun t => ref33_Check.k21 i163 = some st1) (fun t g => [(0, .slice Aa2 l1.length c3), (4, .int .i64 i163)]) (fun t g => [At.rd Aa2 c3 fl_Pol.kd l1 true]) 0 () hit (fun _ h => Heap.to h) ?_ ?_
       · clear hit
         rintro k393 ⟨⟩ st2 H2 hb2 hr2
         replace H2 : ref33_Check.s20 l1 i163 k393 = some st2 := H2
         unfold ref33_Check.s20 at H2
         refine JQ.sub [(0, .slice Aa2 l1.length c3), (4, .int .i64 i163), (5, .int .i64 k393)] ?_
         refine JQ.turn (Δ' := [At.rd Aa2 c3 fl_Pol.kd l1 true]) (fun _ h => h.to) ?_
         refine J.seq ?_
         refine J.seq ?_
         refine J.region ?_
         refine JL.mv (.int .i64 k393) ?_
         refine JL.mv (.int .i64 i163) ?_
         refine JL.pur (.bool (decide (k393 < i163))) (some 19) ?_
         refine JL.nil ?_
         refine JQ.then_normal ?_
         refine JQ.sub [(0, .slice Aa2 l1.length c3), (4, .int .i64 i163), (5, .int .i64 k393), (19, .bool (decide (k393 < i163)))] ?_
         rcases ite_cases H2 with ⟨h431, H2⟩ | ⟨h431, H2⟩
         · refine J.cond_true h431 ?_
           refine J.skip ?_
           refine JQ.then_normal ?_
           refine JQ.sub [(0, .slice Aa2 l1.length c3), (4, .int .i64 i163), (5, .int .i64 k393)] ?_
           refine J.seq ?_
           refine J.block ?_
           refine J.join (T := Bool) (G := Unit) (fun t => ref33_Check.k22 k393 t = some st2) (fun t g => [(0, .slice Aa2 l1.length c3), (4, .int .i64 i163), (5, .int .i64 k393), (45, .bool t)]) (fun t g => [At.rd Aa2 c3 fl_Pol.kd l1 true]) ?_ ?_
           · refine J.draw ?_
             refine QL.mv (.slice Aa2 l1.length c3) ?_
             refine QL.mv (.int .i64 i163) ?_
             obtain ⟨⟨h451, h452⟩, H2⟩ := ite_must H2
             refine QL.ixAddr 0 15 c3 .i64 (elems_rd Aa2 c3 fl_Pol.kd l1 true) Try.underlying39 tySize_57 h451 h452 fun g453 o454 hA => ?_
             subst hA
             refine QL.pur (.pointer (some ⟨g453, o454 + i163.toNat * 15, none⟩)) (some 25) ?_
             refine QL.val (.int .i64 ((ix l1 i163).I)) (some 26) (gives_loadEl (f := fl_Pol) 0 0 i163 (elems_rd (some ⟨g453, o454, none⟩) c3 fl_Pol.kd l1 true) h451 h452 tySize_3 (.inr ⟨tyAgg_3, rfl, rfl⟩)) ?_
             refine QL.mv (.slice (some ⟨g453, o454, none⟩) l1.length c3) ?_
             refine QL.mv (.int .i64 k393) ?_
             obtain ⟨⟨h455, h456⟩, H2⟩ := ite_must H2
             refine QL.ixAddr' 0 15 c3 .i64 (elems_rd (some ⟨g453, o454, none⟩) c3 fl_Pol.kd l1 true) Try.underlying39 tySize_57 h455 h456 ?_
             refine QL.pur (.pointer (some ⟨g453, o454 + k393.toNat * 15, none⟩)) (some 30) ?_
             refine QL.val (.int .i64 ((ix l1 k393).I)) (some 31) (gives_loadEl (f := fl_Pol) 0 0 k393 (elems_rd (some ⟨g453, o454, none⟩) c3 fl_Pol.kd l1 true) h455 h456 tySize_3 (.inr ⟨tyAgg_3, rfl, rfl⟩)) ?_
             refine QL.pur (.bool (decide ((ix l1 i163).I = (ix l1 k393).I))) (some 32) ?_
             refine QL.mv (.bool (decide ((ix l1 i163).I = (ix l1 k393).I))) ?_
             rcases ite_cases H2 with ⟨h459, H2⟩ | ⟨h459, H2⟩
             · refine QL.on 11 33 h459 ?_
               refine QL.mv (.slice (some ⟨g453, o454, none⟩) l1.length c3) ?_
               refine QL.on 11 33 h459 ?_
               refine QL.mv (.int .i64 i163) ?_
               refine QL.on 11 33 h459 ?_
               refine QL.ixAddr' 0 15 c3 .i64 (elems_rd (some ⟨g453, o454, none⟩) c3 fl_Pol.kd l1 true) Try.underlying39 tySize_57 h451 h452 ?_
               refine QL.on 11 33 h459 ?_
               refine QL.pur (.pointer (some ⟨g453, o454 + i163.toNat * 15 + 1, none⟩)) (some 37) ?_
               refine QL.on 11 33 h459 ?_
               refine QL.val (.int .i64 ((ix l1 i163).J)) (some 38) (gives_loadEl (f := fl_Pol) 0 1 i163 (elems_rd (some ⟨g453, o454, none⟩) c3 fl_Pol.kd l1 true) h451 h452 tySize_3 (.inr ⟨tyAgg_3, rfl, rfl⟩)) ?_
               refine QL.on 11 33 h459 ?_
               refine QL.mv (.slice (some ⟨g453, o454, none⟩) l1.length c3) ?_
               refine QL.on 11 33 h459 ?_
               refine QL.mv (.int .i64 k393) ?_
               refine QL.on 11 33 h459 ?_
               refine QL.ixAddr' 0 15 c3 .i64 (elems_rd (some ⟨g453, o454, none⟩) c3 fl_Pol.kd l1 true) Try.underlying39 tySize_57 h455 h456 ?_
               refine QL.on 11 33 h459 ?_
               refine QL.pur (.pointer (some ⟨g453, o454 + k393.toNat * 15 + 1, none⟩)) (some 42) ?_
               refine QL.on 11 33 h459 ?_
               refine QL.val (.int .i64 ((ix l1 k393).J)) (some 43) (gives_loadEl (f := fl_Pol) 0 1 k393 (elems_rd (some ⟨g453, o454, none⟩) c3 fl_Pol.kd l1 true) h455 h456 tySize_3 (.inr ⟨tyAgg_3, rfl, rfl⟩)) ?_
               refine QL.on 11 33 h459 ?_
               refine QL.pur (.bool (decide ((ix l1 i163).J = (ix l1 k393).J))) (some 44) ?_
               refine QL.val (.bool (decide ((ix l1 i163).J = (ix l1 k393).J))) (some 45) (gives_pickT h459) ?_
               refine QL.nil ?_
               refine JA.nil ?_
               refine JQ.then_normal ?_
               exact JQ.meet (decide ((ix l1 i163).J = (ix l1 k393).J)) () H2 (fun _ h => Heap.to h)
             · refine QL.off 11 33 true (some 34) h459 ?_
               refine QL.off 11 33 true (some 35) h459 ?_
               refine QL.off 11 33 true (some 36) h459 ?_
               refine QL.off 11 33 true (some 37) h459 ?_
               refine QL.off 11 33 true (some 38) h459 ?_
               refine QL.off 11 33 true (some 39) h459 ?_
               refine QL.off 11 33 true (some 40) h459 ?_
               refine QL.off 11 33 true (some 41) h459 ?_
               refine QL.off 11 33 true (some 42) h459 ?_
               refine QL.off 11 33 true (some 43) h459 ?_
               refine QL.off 11 33 true (some 44) h459 ?_
               refine QL.val (.bool false) (some 45) (gives_pickF h459) ?_
               refine QL.nil ?_
               refine JA.nil ?_
               refine JQ.then_normal ?_
               exact JQ.meet false () H2 (fun _ h => Heap.to h)
           · clear H2
             rintro x449 ⟨⟩ H2
             replace H2 : ref33_Check.k22 k393 x449 = some st2 := H2
             unfold ref33_Check.k22 at H2
             refine JQ.sub [(0, .slice Aa2 l1.length c3), (4, .int .i64 i163), (5, .int .i64 k393), (45, .bool x449)] ?_
             refine JQ.turn (Δ' := [At.rd Aa2 c3 fl_Pol.kd l1 true]) (fun _ h => h.to) ?_
             rcases ite_cases H2 with ⟨h450, H2⟩ | ⟨h450, H2⟩
             · refine J.cond_true h450 ?_
               refine J.seq ?_
               refine J.region ?_
               refine JL.as (.int .i64 14) ?_
               refine JL.nil ?_
               refine JQ.then_normal ?_
               refine JQ.sub [(2, .int .i64 14)] ?_
               refine JQ.mask [] [false] ?_
               refine J.ret ?_
               refine JQ.blk_ret ?_
               refine JQ.then_ret ?_
               refine JQ.then_ret ?_
               refine JQ.blk_ret ?_
               refine JQ.met_ret ?_
               refine JQ.blk_ret ?_
               refine JQ.then_ret ?_
               refine JQ.then_ret ?_
               refine JQ.blk_ret ?_
               refine JQ.met_ret ?_
               refine JQ.then_ret ?_
               rw [hr2 _ (Option.some.inj H2).symm, fin_ret] at H1
               rw [hr1 _ (Option.some.inj H1).symm, fin_ret] at H0
               obtain rfl := Option.some.inj H0
               exact JQ.done' (rs := [.tmp 2]) (vs := [.int .i64 14]) [] (.inr rfl) ⟨by kernel_rfl, trivial⟩ (fun _ h => Heap.to h) ⟨rfl, rfl⟩
             · refine J.cond_false h450 ?_
               refine J.skip ?_
               refine JQ.blk_normal ?_
               refine JQ.then_normal ?_
               refine JQ.sub [(0, .slice Aa2 l1.length c3), (4, .int .i64 i163), (5, .int .i64 k393)] ?_
               refine J.region ?_
               refine JL.mv (.int .i64 k393) ?_
               refine JL.pur (.int .i64 (w64 (k393 + 1))) (some 21) ?_
               refine JL.as (.int .i64 (w64 (k393 + 1))) ?_
               refine JL.nil ?_
               refine JQ.then_normal ?_
               exact JQ.again (w64 (k393 + 1)) () (Option.some.inj H2).symm (fun _ h => Heap.to h)
         · refine J.cond_false h431 ?_
           refine J.exit ?_
           refine JQ.then_exit ?_
           refine JQ.then_exit ?_
           refine JQ.blk_exit ?_
           rw [hb2 _ (Option.some.inj H2).symm, fin_brk] at H1
           exact JQ.met () () H1 (fun _ h => Heap.to h)
       · clear hit H1
         rintro ⟨⟩ ⟨⟩ H1
         replace H1 : ref33_Check.k21 i163 = some st1 := H1
         unfold ref33_Check.k21 at H1
         refine JQ.sub [(0, .slice Aa2 l1.length c3), (4, .int .i64 i163)] ?_
         refine JQ.turn (Δ' := [At.rd Aa2 c3 fl_Pol.kd l1 true]) (fun _ h => h.to) ?_
         refine JQ.blk_normal ?_
         refine JQ.then_normal ?_
         refine J.region ?_
         refine JL.mv (.int .i64 i163) ?_
         refine JL.pur (.int .i64 (w64 (i163 + 1))) (some 16) ?_
         refine JL.as (.int .i64 (w64 (i163 + 1))) ?_
         refine JL.nil ?_
         refine JQ.then_normal ?_
         exact JQ.again (w64 (i163 + 1)) () (Option.some.inj H1).symm (fun _ h => Heap.to h)
     · refine J.cond_false h316 ?_
       refine J.exit ?_
       refine JQ.then_exit ?_
       refine JQ.then_exit ?_
       refine JQ.blk_exit ?_
       rw [hb1 _ (Option.some.inj H1).symm, fin_brk] at H0
       exact JQ.met () () H0 (fun _ h => Heap.to (Heap.pick [] (by decide) h))
   · clear hit H0
     rintro ⟨⟩ ⟨⟩ H0
     replace H0 : ref33_Check.k16 = some r := H0
     unfold ref33_Check.k16 at H0
     refine JQ.sub [] ?_
     refine JQ.turn (Δ' := []) (fun _ h => h.to) ?_
     refine JQ.then_normal ?_
     refine J.seq ?_
     refine J.region ?_
     refine JL.as (.int .i64 0) ?_
     refine JL.nil ?_
     refine JQ.then_normal ?_
     refine J.ret ?_
     obtain rfl := Option.some.inj H0
     exact JQ.done' (rs := [.tmp 2]) (vs := [.int .i64 0]) [] (.inr rfl) ⟨by kernel_rfl, trivial⟩ (fun _ h => Heap.to h) ⟨rfl, rfl⟩

theorem ref27_Station.ok (i1 : Int) (r : Bool) (H0 : ref27_Station.f i1 = some r) :
    Does Try.prog 59 [.int .i64 i1].toArray [] [] false (fun v Δ => v = .bool r ∧ Δ = []) := by
 refine Does.body (vs := [.int .i64 i1]) Try.func59 rfl trivial trivial fun w S => ?_
 unfold ref27_Station.f at H0
 refine J.seq ?_
 refine J.region ?_
 refine JL.as (.bool false) ?_
 refine JL.nil ?_
 refine JQ.then_normal ?_
 refine JQ.sub [(0, .int .i64 i1)] ?_
 refine J.seq ?_
 refine J.region ?_
 refine JL.mv (.int .i64 i1) ?_
 refine JL.pur (.bool (decide (0 ≤ i1))) (some 4) ?_
 refine JL.mv (.bool (decide (0 ≤ i1))) ?_
 rcases ite_cases H0 with ⟨h2, H0⟩ | ⟨h2, H0⟩
 · refine JL.on 2 5 h2 ?_
   refine JL.mv (.int .i64 i1) ?_
   refine JL.on 2 5 h2 ?_
   refine JL.pur (.bool (decide (i1 < 8))) (some 7) ?_
   refine JL.val (.bool (decide (i1 < 8))) (some 8) (gives_pickT h2) ?_
   refine JL.as (.bool (decide (i1 < 8))) ?_
   refine JL.nil ?_
   refine JQ.then_normal ?_
   refine JQ.sub [(2, .bool (decide (i1 < 8)))] ?_
   refine J.ret ?_
   obtain rfl := Option.some.inj H0
   exact JQ.done' (rs := [.tmp 2]) (vs := [.bool (decide (i1 < 8))]) [] (.inr rfl) ⟨by kernel_rfl, trivial⟩ (fun _ h => Heap.to h) ⟨rfl, rfl⟩
 · refine JL.off 2 5 true (some 6) h2 ?_
   refine JL.off 2 5 true (some 7) h2 ?_
   refine JL.val (.bool false) (some 8) (gives_pickF h2) ?_
   refine JL.as (.bool false) ?_
   refine JL.nil ?_
   refine JQ.then_normal ?_
   refine JQ.sub [(2, .bool false)] ?_
   refine J.ret ?_
   obtain rfl := Option.some.inj H0
   exact JQ.done' (rs := [.tmp 2]) (vs := [.bool false]) [] (.inr rfl) ⟨by kernel_rfl, trivial⟩ (fun _ h => Heap.to h) ⟨rfl, rfl⟩

theorem ref27_Apart.ok (l1 : (List Int)) (Aa2 : Option Addr) (c3 : Nat) (r : Bool) (H0 : ref27_Apart.f l1 = some r) :
    Does Try.prog 32 [.slice Aa2 l1.length c3].toArray [At.rd Aa2 c3 ((flInt .i64).kd) l1 true] [] false (fun v Δ => v = .bool r ∧ Δ = []) := by
 refine Does.body (vs := [.slice Aa2 l1.length c3]) Try.func32 rfl ⟨.inl rfl, trivial⟩ trivial fun w S => ?_
 unfold ref27_Apart.f at H0
 refine J.seq ?_
 refine J.region ?_
 refine JL.as (.bool false) ?_
 refine JL.nil ?_
 refine JQ.then_normal ?_
 refine JQ.sub [(0, .slice Aa2 l1.length c3)] ?_
 refine J.seq ?_
 refine J.seq ?_
 refine J.region ?_
 refine JL.as (.int .i64 0) ?_
 refine JL.nil ?_
 refine JQ.then_normal ?_
 obtain ⟨o1, hit, H0⟩ := bind_some H0
 refine J.loop (σ := Int) (τ := Unit) (G := ((Option Addr) × Nat)) (G' := Unit) _ o1 (fun s g => [(0, .slice g.1 l1.length g.2), (3, .int .i64 s)]) (fun s g => [At.rd g.1 g.2 ((flInt .i64).kd) l1 true]) (fun t => ref27_Apart.k8 = some r) (fun t g => []) (fun t g => []) 0 (Aa2, c3) hit (fun _ h => Heap.to h) ?_ ?_
 · clear hit
   rintro i75 ⟨Aa72, c73⟩ st1 H1 hb1 hr1
   replace H1 : ref27_Apart.s7 l1 i75 = some st1 := H1
   unfold ref27_Apart.s7 at H1
   refine JQ.sub [(0, .slice Aa72 l1.length c73), (3, .int .i64 i75)] ?_
   refine JQ.turn (Δ' := [At.rd Aa72 c73 ((flInt .i64).kd) l1 true]) (fun _ h => h.to) ?_
   refine J.seq ?_
   refine J.seq ?_
   refine J.region ?_
   refine JL.mv (.int .i64 i75) ?_
   refine JL.mv (.slice Aa72 l1.length c73) ?_
   refine JL.pur (.int .i64 (l1.length : Int)) (some 7) ?_
   refine JL.pur (.bool (decide (i75 < (l1.length : Int)))) (some 8) ?_
   refine JL.nil ?_
   refine JQ.then_normal ?_
   refine JQ.sub [(0, .slice Aa72 l1.length c73), (3, .int .i64 i75), (8, .bool (decide (i75 < (l1.length : Int))))] ?_
   rcases ite_cases H1 with ⟨h127, H1⟩ | ⟨h127, H1⟩
   · refine J.cond_true h127 ?_
     refine J.skip ?_
     refine JQ.then_normal ?_
     refine JQ.sub [(0, .slice Aa72 l1.length c73), (3, .int .i64 i75)] ?_
     refine J.seq ?_
     refine J.block ?_
     refine J.seq ?_
     refine J.seq ?_
     refine J.region ?_
     refine JL.mv (.slice Aa72 l1.length c73) ?_
     refine JL.mv (.int .i64 i75) ?_
     obtain ⟨⟨h128, h129⟩, H1⟩ := ite_must H1
     refine JL.ixAddr 0 1 c73 .i64 (elems_rd Aa72 c73 ((flInt .i64).kd) l1 true) Try.underlying60 tySize_3 h128 h129 fun g130 o131 hA => ?_
     subst hA
     refine JL.val (.int .i64 (ix l1 i75)) (some 14) (gives_loadEl (f := (flInt .i64)) 0 0 i75 (elems_rd (some ⟨g130, o131, none⟩) c73 ((flInt .i64).kd) l1 true) h128 h129 tySize_3 (.inr ⟨tyAgg_3, rfl, rfl⟩)) ?_
     obtain ⟨t132, hc133, H1⟩ := bind_some H1
     refine JL.call [] [] [] (ref27_Station.ok (ix l1 i75) _ hc133) trivial ?_
     rintro _ _ ⟨rfl, rfl⟩
     refine JL.pur (.bool (!t132)) (some 16) ?_
     refine JL.nil ?_
     refine JQ.then_normal ?_
     refine JQ.sub [(0, .slice (some ⟨g130, o131, none⟩) l1.length c73), (3, .int .i64 i75), (16, .bool (!t132))] ?_
     rcases ite_cases H1 with ⟨h134, H1⟩ | ⟨h134, H1⟩
     · refine J.cond_true h134 ?_
       refine J.seq ?_
       refine J.region ?_
       refine JL.as (.bool false) ?_
       refine JL.nil ?_
       refine JQ.then_normal ?_
       refine JQ.sub [(2, .bool false)] ?_
       refine JQ.mask [] [false] ?_
       refine J.ret ?_
       refine JQ.then_ret ?_
       refine JQ.blk_ret ?_
       refine JQ.then_ret ?_
       refine JQ.then_ret ?_
       refine JQ.blk_ret ?_
       refine JQ.met_ret ?_
       refine JQ.then_ret ?_
       rw [hr1 _ (Option.some.inj H1).symm, fin_ret] at H0
       obtain rfl := Option.some.inj H0
       exact JQ.done' (rs := [.tmp 2]) (vs := [.bool false]) [] (.inr rfl) ⟨by kernel_rfl, trivial⟩ (fun _ h => Heap.to h) ⟨rfl, rfl⟩
     · refine J.cond_false h134 ?_
       refine J.skip ?_
       refine JQ.then_normal ?_
       refine JQ.sub [(0, .slice (some ⟨g130, o131, none⟩) l1.length c73), (3, .int .i64 i75)] ?_
       refine J.seq ?_
       refine J.region ?_
       refine JL.as (.int .i64 0) ?_
       refine JL.nil ?_
       refine JQ.then_normal ?_
       obtain ⟨o2, hit, H1⟩ := bind_some H1
       refine J.loop (σ := Int) (τ := Unit) (G := Unit) (G' := Unit) _ o2 (fun s g => [(0, .slice (some ⟨g130, o131, none⟩) l1.length c73), (3, .int .i64 i75), (4, .int .i64 s)]) (fun s g => [At.rd (some ⟨g130, o131, none⟩) c73 ((flInt .i64).kd) l1 true]) (fun t => ref27_Apart.k10 i75 = some st1) (fun t g => [(0, .slice (some ⟨g130, o131, none⟩) l1.length c73), (3, .int .i64 i75)]) (fun t g => [At.rd (some ⟨g130, o131, none⟩) c73 ((flInt .i64).kd) l1 true]) 0 () hit (fun _ h => Heap.to h) ?_ ?_
       · clear hit
         rintro k157 ⟨⟩ st2 H2 hb2 hr2
         replace H2 : ref27_Apart.s9 l1 i75 k157 = some st2 := H2
         unfold ref27_Apart.s9 at H2
         refine JQ.sub [(0, .slice (some ⟨g130, o131, none⟩) l1.length c73), (3, .int .i64 i75), (4, .int .i64 k157)] ?_
         refine JQ.turn (Δ' := [At.rd (some ⟨g130, o131, none⟩) c73 ((flInt .i64).kd) l1 true]) (fun _ h => h.to) ?_
         refine J.seq ?_
         refine J.seq ?_
         refine J.region ?_
         refine JL.mv (.int .i64 k157) ?_
         refine JL.mv (.int .i64 i75) ?_
         refine JL.pur (.bool (decide (k157 < i75))) (some 19) ?_
         refine JL.nil ?_
         refine JQ.then_normal ?_
         refine JQ.sub [(0, .slice (some ⟨g130, o131, none⟩) l1.length c73), (3, .int .i64 i75), (4, .int .i64 k157), (19, .bool (decide (k157 < i75)))] ?_
         rcases ite_cases H2 with ⟨h168, H2⟩ | ⟨h168, H2⟩
         · refine J.cond_true h168 ?_
           refine J.skip ?_
           refine JQ.then_normal ?_
           refine JQ.sub [(0, .slice (some ⟨g130, o131, none⟩) l1.length c73), (3, .int .i64 i75), (4, .int .i64 k157)] ?_
           refine J.seq ?_
           refine J.block ?_
           refine J.seq ?_
           refine J.draw ?_
           refine QL.mv (.slice (some ⟨g130, o131, none⟩) l1.length c73) ?_
           refine QL.mv (.int .i64 k157) ?_
           obtain ⟨⟨h169, h170⟩, H2⟩ := ite_must H2
           refine QL.ixAddr' 0 1 c73 .i64 (elems_rd (some ⟨g130, o131, none⟩) c73 ((flInt .i64).kd) l1 true) Try.underlying60 tySize_3 h169 h170 ?_
           refine QL.val (.int .i64 (ix l1 k157)) (some 25) (gives_loadEl (f := (flInt .i64)) 0 0 k157 (elems_rd (some ⟨g130, o131, none⟩) c73 ((flInt .i64).kd) l1 true) h169 h170 tySize_3 (.inr ⟨tyAgg_3, rfl, rfl⟩)) ?_
           refine QL.mv (.slice (some ⟨g130, o131, none⟩) l1.length c73) ?_
           refine QL.mv (.int .i64 i75) ?_
           obtain ⟨⟨h173, h174⟩, H2⟩ := ite_must H2
           refine QL.ixAddr' 0 1 c73 .i64 (elems_rd (some ⟨g130, o131, none⟩) c73 ((flInt .i64).kd) l1 true) Try.underlying60 tySize_3 h173 h174 ?_
           refine QL.val (.int .i64 (ix l1 i75)) (some 29) (gives_loadEl (f := (flInt .i64)) 0 0 i75 (elems_rd (some ⟨g130, o131, none⟩) c73 ((flInt .i64).kd) l1 true) h173 h174 tySize_3 (.inr ⟨tyAgg_3, rfl, rfl⟩)) ?_
           refine QL.pur (.bool (decide ((ix l1 k157) = (ix l1 i75)))) (some 30) ?_
           refine QL.nil ?_
           refine JA.nil ?_
           refine JQ.then_normal ?_
           refine JQ.sub [(0, .slice (some ⟨g130, o131, none⟩) l1.length c73), (3, .int .i64 i75), (4, .int .i64 k157), (30, .bool (decide ((ix l1 k157) = (ix l1 i75))))] ?_
           rcases ite_cases H2 with ⟨h177, H2⟩ | ⟨h177, H2⟩
           · refine J.cond_true h177 ?_
             refine J.seq ?_
             refine J.region ?_
             refine JL.as (.bool false) ?_
             refine JL.nil ?_
             refine JQ.then_normal ?_
             refine JQ.sub [(2, .bool false)] ?_
             refine JQ.mask [] [false] ?_
             refine J.ret ?_
             refine JQ.blk_ret ?_
             refine JQ.then_ret ?_
             refine JQ.then_ret ?_
             refine JQ.blk_ret ?_
             refine JQ.met_ret ?_
             refine JQ.blk_ret ?_
             refine JQ.then_ret ?_
             refine JQ.then_ret ?_
             refine JQ.blk_ret ?_
             refine JQ.met_ret ?_
             refine JQ.then_ret ?_
             rw [hr2 _ (Option.some.inj H2).symm, fin_ret] at H1
             rw [hr1 _ (Option.some.inj H1).symm, fin_ret] at H0
             obtain rfl := Option.some.inj H0
             exact JQ.done' (rs := [.tmp 2]) (vs := [.bool false]) [] (.inr rfl) ⟨by kernel_rfl, trivial⟩ (fun _ h => Heap.to h) ⟨rfl, rfl⟩
           · refine J.cond_false h177 ?_
             refine J.skip ?_
             refine JQ.blk_normal ?_
             refine JQ.then_normal ?_
             refine JQ.sub [(0, .slice (some ⟨g130, o131, none⟩) l1.length c73), (3, .int .i64 i75), (4, .int .i64 k157)] ?_
             refine J.region ?_
             refine JL.mv (.int .i64 k157) ?_
             refine JL.pur (.int .i64 (w64 (k157 + 1))) (some 21) ?_
             refine JL.as (.int .i64 (w64 (k157 + 1))) ?_
             refine JL.nil ?_
             refine JQ.then_normal ?_
             exact JQ.again (w64 (k157 + 1)) () (Option.some.inj H2).symm (fun _ h => Heap.to h)
         · refine J.cond_false h168 ?_
           refine J.exit ?_
           refine JQ.then_exit ?_
           refine JQ.then_exit ?_
           refine JQ.blk_exit ?_
           rw [hb2 _ (Option.some.inj H2).symm, fin_brk] at H1
           exact JQ.met () () H1 (fun _ h => Heap.to h)
       · clear hit H1
         rintro ⟨⟩ ⟨⟩ H1
         replace H1 : ref27_Apart.k10 i75 = some st1 := H1
         unfold ref27_Apart.k10 at H1
         refine JQ.sub [(0, .slice (some ⟨g130, o131, none⟩) l1.length c73), (3, .int .i64 i75)] ?_
         refine JQ.turn (Δ' := [At.rd (some ⟨g130, o131, none⟩) c73 ((flInt .i64).kd) l1 true]) (fun _ h => h.to) ?_
         refine JQ.blk_normal ?_
         refine JQ.then_normal ?_
         refine J.region ?_
         refine JL.mv (.int .i64 i75) ?_
         refine JL.pur (.int .i64 (w64 (i75 + 1))) (some 10) ?_
         refine JL.as (.int .i64 (w64 (i75 + 1))) ?_
         refine JL.nil ?_
         refine JQ.then_normal ?_
         exact JQ.again (w64 (i75 + 1)) ((some ⟨g130, o131, none⟩), c73) (Option.some.inj H1).symm (fun _ h => Heap.to h)
   · refine J.cond_false h127 ?_
     refine J.exit ?_
     refine JQ.then_exit ?_
     refine JQ.then_exit ?_
     refine JQ.blk_exit ?_
     rw [hb1 _ (Option.some.inj H1).symm, fin_brk] at H0
     exact JQ.met () () H0 (fun _ h => Heap.to (Heap.pick [] (by decide) h))
 · clear hit H0
   rintro ⟨⟩ ⟨⟩ H0
   replace H0 : ref27_Apart.k8 = some r := H0
   unfold ref27_Apart.k8 at H0
   refine JQ.sub [] ?_
   refine JQ.turn (Δ' := []) (fun _ h => h.to) ?_
   refine JQ.then_normal ?_
   refine J.seq ?_
   refine J.region ?_
   refine JL.as (.bool true) ?_
   refine JL.nil ?_
   refine JQ.then_normal ?_
   refine J.ret ?_
   obtain rfl := Option.some.inj H0
   exact JQ.done' (rs := [.tmp 2]) (vs := [.bool true]) [] (.inr rfl) ⟨by kernel_rfl, trivial⟩ (fun _ h => Heap.to h) ⟨rfl, rfl⟩


end Go.Proofs.Ytlfmmenlkpoodaa.M
