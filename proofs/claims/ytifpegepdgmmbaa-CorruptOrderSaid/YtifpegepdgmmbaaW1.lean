import Derived.Test.YtifpegepdgmmbaaW0
set_option linter.unusedVariables false
set_option linter.unusedSimpArgs false
set_option maxRecDepth 100000
set_option maxHeartbeats 8000000
namespace Go.Proofs.Ytifpegepdgmmbaa.M
open Go.GW Go.Proofs

theorem corrupt_baselines_1.ok (v1 : Vis) (w2 : Vis) (r : Bool) (H0 : corrupt_baselines_1.f v1 w2 = some r) :
    Does Try.prog 50 [mv_47 v1, mv_47 w2].toArray [] [] false (fun v Δ => v = .bool r ∧ Δ = []) := by
 refine Does.body (vs := [mv_47 v1, mv_47 w2]) Try.func50 rfl trivial trivial fun w S => ?_
 unfold corrupt_baselines_1.f at H0
 refine J.seq ?_
 refine J.region ?_
 refine JL.box (cl_47 v1) fun b3 => ?_
 refine JL.box (cl_47 w2) fun b4 => ?_
 refine JL.as (.bool false) ?_
 refine JL.nil ?_
 refine JQ.then_normal ?_
 refine JQ.sub [(2, .pointer (some ⟨b3, 0, none⟩)), (3, .pointer (some ⟨b4, 0, none⟩))] ?_
 refine J.seq ?_
 refine J.region ?_
 refine JL.pur (.pointer (some ⟨b3, 0, none⟩)) (some 5) ?_
 refine JL.val (.int .i64 v1.I) (some 6) (yields_load_box 0 0 (holds_box b3 47 (cl_47 v1)) tyAgg_3) ?_
 refine JL.pur (.pointer (some ⟨b4, 0, none⟩)) (some 7) ?_
 refine JL.val (.int .i64 w2.I) (some 8) (yields_load_box 1 0 (holds_box b4 47 (cl_47 w2)) tyAgg_3) ?_
 refine JL.pur (.bool (decide (v1.I = w2.I))) (some 9) ?_
 refine JL.mv (.bool (decide (v1.I = w2.I))) ?_
 rcases ite_cases H0 with ⟨h5, H0⟩ | ⟨h5, H0⟩
 · refine JL.on 5 10 h5 ?_
   refine JL.pur (.pointer (some ⟨b3, 1, none⟩)) (some 11) ?_
   refine JL.on 5 10 h5 ?_
   refine JL.val (.int .i64 v1.J) (some 12) (yields_load_box 0 1 (holds_box b3 47 (cl_47 v1)) tyAgg_3) ?_
   refine JL.on 5 10 h5 ?_
   refine JL.pur (.pointer (some ⟨b4, 1, none⟩)) (some 13) ?_
   refine JL.on 5 10 h5 ?_
   refine JL.val (.int .i64 w2.J) (some 14) (yields_load_box 1 1 (holds_box b4 47 (cl_47 w2)) tyAgg_3) ?_
   refine JL.on 5 10 h5 ?_
   refine JL.pur (.bool (decide (v1.J = w2.J))) (some 15) ?_
   refine JL.val (.bool (decide (v1.J = w2.J))) (some 16) (gives_pickT h5) ?_
   refine JL.as (.bool (decide (v1.J = w2.J))) ?_
   refine JL.nil ?_
   refine JQ.then_normal ?_
   refine JQ.sub [(4, .bool (decide (v1.J = w2.J)))] ?_
   refine JQ.mask [] [false, false] ?_
   refine J.ret ?_
   obtain rfl := Option.some.inj H0
   exact JQ.done' (rs := [.tmp 4]) (vs := [.bool (decide (v1.J = w2.J))]) [] (.inr rfl) ⟨by kernel_rfl, trivial⟩ (fun _ h => Heap.to h) ⟨rfl, rfl⟩
 · refine JL.off 5 10 true (some 11) h5 ?_
   refine JL.off 5 10 true (some 12) h5 ?_
   refine JL.off 5 10 true (some 13) h5 ?_
   refine JL.off 5 10 true (some 14) h5 ?_
   refine JL.off 5 10 true (some 15) h5 ?_
   refine JL.val (.bool false) (some 16) (gives_pickF h5) ?_
   refine JL.as (.bool false) ?_
   refine JL.nil ?_
   refine JQ.then_normal ?_
   refine JQ.sub [(4, .bool false)] ?_
   refine JQ.mask [] [false, false] ?_
   refine J.ret ?_
   obtain rfl := Option.some.inj H0
   exact JQ.done' (rs := [.tmp 4]) (vs := [.bool false]) [] (.inr rfl) ⟨by kernel_rfl, trivial⟩ (fun _ h => Heap.to h) ⟨rfl, rfl⟩

theorem slices_EqualFunc__api_Vis_api_Vis_api_Vis_api_Vis__corrupt_baselines_1.ok (s1 : (List Vis)) (Aa2 : Option Addr) (c3 : Nat) (s5 : (List Vis)) (Aa6 : Option Addr) (c7 : Nat) (r : Bool) (H0 : slices_EqualFunc__api_Vis_api_Vis_api_Vis_api_Vis__corrupt_baselines_1.f s1 s5 = some r) :
    Does Try.prog 49 [.slice Aa2 s1.length c3, .slice Aa6 s5.length c7, .func (.func 50) #[] #[]].toArray [At.rd Aa2 c3 fl_Vis.kd s1 true, At.rd Aa6 c7 fl_Vis.kd s5 true] [] false (fun v Δ => v = .bool r ∧ Δ = []) := by
 refine Does.body (vs := [.slice Aa2 s1.length c3, .slice Aa6 s5.length c7, .func (.func 50) #[] #[]]) Try.func49 rfl ⟨.inl rfl, .inl rfl, trivial⟩ trivial fun w S => ?_
 unfold slices_EqualFunc__api_Vis_api_Vis_api_Vis_api_Vis__corrupt_baselines_1.f at H0
 refine J.seq ?_
 refine J.region ?_
 refine JL.as (.bool false) ?_
 refine JL.nil ?_
 refine JQ.then_normal ?_
 refine JQ.sub [(0, .slice Aa2 s1.length c3), (1, .slice Aa6 s5.length c7), (2, .func (.func 50) #[] #[])] ?_
 refine J.seq ?_
 refine J.seq ?_
 refine J.region ?_
 refine JL.mv (.slice Aa2 s1.length c3) ?_
 refine JL.pur (.int .i64 (s1.length : Int)) (some 11) ?_
 refine JL.mv (.slice Aa6 s5.length c7) ?_
 refine JL.pur (.int .i64 (s5.length : Int)) (some 13) ?_
 refine JL.pur (.bool (!decide ((s1.length : Int) = (s5.length : Int)))) (some 14) ?_
 refine JL.nil ?_
 refine JQ.then_normal ?_
 refine JQ.sub [(0, .slice Aa2 s1.length c3), (1, .slice Aa6 s5.length c7), (2, .func (.func 50) #[] #[]), (14, .bool (!decide ((s1.length : Int) = (s5.length : Int))))] ?_
 rcases ite_cases H0 with ⟨h9, H0⟩ | ⟨h9, H0⟩
 · refine J.cond_true h9 ?_
   refine J.seq ?_
   refine J.region ?_
   refine JL.as (.bool false) ?_
   refine JL.nil ?_
   refine JQ.then_normal ?_
   refine JQ.sub [(6, .bool false)] ?_
   refine JQ.mask [] [false, false] ?_
   refine J.ret ?_
   refine JQ.then_ret ?_
   obtain rfl := Option.some.inj H0
   exact JQ.done' (rs := [.tmp 6]) (vs := [.bool false]) [] (.inr rfl) ⟨by kernel_rfl, trivial⟩ (fun _ h => Heap.to h) ⟨rfl, rfl⟩
 · refine J.cond_false h9 ?_
   refine J.skip ?_
   refine JQ.then_normal ?_
   refine JQ.sub [(0, .slice Aa2 s1.length c3), (1, .slice Aa6 s5.length c7), (2, .func (.func 50) #[] #[])] ?_
   refine J.seq ?_
   refine J.seq ?_
   refine J.region ?_
   refine JL.mv (.slice Aa2 s1.length c3) ?_
   refine JL.pur (.int .i64 (s1.length : Int)) (some 16) ?_
   refine JL.mv (.int .i64 0) ?_
   refine JL.nil ?_
   refine JQ.then_normal ?_
   refine JQ.sub [(1, .slice Aa6 s5.length c7), (2, .func (.func 50) #[] #[]), (15, .slice Aa2 s1.length c3), (16, .int .i64 (s1.length : Int)), (17, .int .i64 0)] ?_
   obtain ⟨o1, hit, H0⟩ := bind_some H0
   refine J.loop (σ := Int) (τ := Unit) (G := Unit) (G' := Unit) _ o1 (fun s g => [(1, .slice Aa6 s5.length c7), (2, .func (.func 50) #[] #[]), (15, .slice Aa2 s1.length c3), (16, .int .i64 (s1.length : Int)), (17, .int .i64 s)]) (fun s g => [At.rd Aa6 c7 fl_Vis.kd s5 true, At.rd Aa2 c3 fl_Vis.kd s1 true]) (fun t => slices_EqualFunc__api_Vis_api_Vis_api_Vis_api_Vis__corrupt_baselines_1.k2 = some r) (fun t g => []) (fun t g => []) 0 () hit (fun _ h => Heap.to (Heap.pick [1, 0] (by decide) h)) ?_ ?_
   · clear hit
     rintro x40 ⟨⟩ st1 H1 hb1 hr1
     replace H1 : slices_EqualFunc__api_Vis_api_Vis_api_Vis_api_Vis__corrupt_baselines_1.s1 s1 s5 x40 = some st1 := H1
     unfold slices_EqualFunc__api_Vis_api_Vis_api_Vis_api_Vis__corrupt_baselines_1.s1 at H1
     refine JQ.sub [(1, .slice Aa6 s5.length c7), (2, .func (.func 50) #[] #[]), (15, .slice Aa2 s1.length c3), (16, .int .i64 (s1.length : Int)), (17, .int .i64 x40)] ?_
     refine JQ.turn (Δ' := [At.rd Aa6 c7 fl_Vis.kd s5 true, At.rd Aa2 c3 fl_Vis.kd s1 true]) (fun _ h => h.to) ?_
     refine J.seq ?_
     refine J.region ?_
     refine JL.pur (.bool (decide (x40 < (s1.length : Int)))) (some 18) ?_
     refine JL.nil ?_
     refine JQ.then_normal ?_
     refine J.seq ?_
     rcases ite_cases H1 with ⟨h55, H1⟩ | ⟨h55, H1⟩
     · refine J.cond_true h55 ?_
       refine J.skip ?_
       refine JQ.then_normal ?_
       refine JQ.sub [(1, .slice Aa6 s5.length c7), (2, .func (.func 50) #[] #[]), (15, .slice Aa2 s1.length c3), (16, .int .i64 (s1.length : Int)), (17, .int .i64 x40)] ?_
       refine J.seq ?_
       refine J.block ?_
       refine J.seq ?_
       refine J.region ?_
       refine JL.mv (.int .i64 x40) ?_
       obtain ⟨⟨h56, h57⟩, H1⟩ := ite_must H1
       refine JL.ixAddr 1 6 c3 .i64 (elems_rd Aa2 c3 fl_Vis.kd s1 true) Try.underlying48 tySize_47 h56 h57 fun g58 o59 hA => ?_
       subst hA
       refine JL.val (mv_47 (ix s1 x40)) (some 21) (gives_loadEl (f := fl_Vis) 1 0 x40 (elems_rd (some ⟨g58, o59, none⟩) c3 fl_Vis.kd s1 true) h56 h57 tySize_47 (.inl ⟨tyAgg_47, rfl⟩)) ?_
       refine JL.alloc (cl_47 zv_47) fun b60 => ?_
       refine JL.as (.int .i64 x40) ?_
       refine JL.store 2 b60 0 47 (cl_47 zv_47) (cl_47 (ix s1 x40)) tySize_47 ?_
       refine JL.nil ?_
       refine JQ.then_normal ?_
       refine JQ.sub [(1, .slice Aa6 s5.length c7), (2, .func (.func 50) #[] #[]), (7, .int .i64 x40), (8, .pointer (some ⟨b60, 0, none⟩)), (15, .slice (some ⟨g58, o59, none⟩) s1.length c3), (16, .int .i64 (s1.length : Int)), (17, .int .i64 x40)] ?_
       refine J.seq ?_
       refine J.region ?_
       refine JL.mv (.slice Aa6 s5.length c7) ?_
       refine JL.mv (.int .i64 x40) ?_
       obtain ⟨⟨h61, h62⟩, H1⟩ := ite_must H1
       refine JL.ixAddr 0 6 c7 .i64 (elems_rd Aa6 c7 fl_Vis.kd s5 true) Try.underlying48 tySize_47 h61 h62 fun g63 o64 hA => ?_
       subst hA
       refine JL.val (mv_47 (ix s5 x40)) (some 25) (gives_loadEl (f := fl_Vis) 0 0 x40 (elems_rd (some ⟨g63, o64, none⟩) c7 fl_Vis.kd s5 true) h61 h62 tySize_47 (.inl ⟨tyAgg_47, rfl⟩)) ?_
       refine JL.alloc (cl_47 zv_47) fun b65 => ?_
       refine JL.store 3 b65 0 47 (cl_47 zv_47) (cl_47 (ix s5 x40)) tySize_47 ?_
       refine JL.nil ?_
       refine JQ.then_normal ?_
       refine JQ.sub [(1, .slice (some ⟨g63, o64, none⟩) s5.length c7), (2, .func (.func 50) #[] #[]), (8, .pointer (some ⟨b60, 0, none⟩)), (9, .pointer (some ⟨b65, 0, none⟩)), (15, .slice (some ⟨g58, o59, none⟩) s1.length c3), (16, .int .i64 (s1.length : Int)), (17, .int .i64 x40)] ?_
       refine J.seq ?_
       refine J.region ?_
       refine JL.mv (.func (.func 50) #[] #[]) ?_
       refine JL.val (mv_47 (ix s1 x40)) (some 27) (yields_load_boxes 2 0 (cl_47 (ix s1 x40)) (holds_box b60 47 (cl_47 (ix s1 x40))) tyAgg_47 tySize_47) ?_
       refine JL.val (mv_47 (ix s5 x40)) (some 28) (yields_load_boxes 3 0 (cl_47 (ix s5 x40)) (holds_box b65 47 (cl_47 (ix s5 x40))) tyAgg_47 tySize_47) ?_
       obtain ⟨t66, hc67, H1⟩ := bind_some H1
       refine JL.call [] [] [] (corrupt_baselines_1.ok (ix s1 x40) (ix s5 x40) _ hc67) trivial ?_
       rintro _ _ ⟨rfl, rfl⟩
       refine JL.pur (.bool (!t66)) (some 30) ?_
       refine JL.nil ?_
       refine JQ.then_normal ?_
       refine JQ.sub [(1, .slice (some ⟨g63, o64, none⟩) s5.length c7), (2, .func (.func 50) #[] #[]), (15, .slice (some ⟨g58, o59, none⟩) s1.length c3), (16, .int .i64 (s1.length : Int)), (17, .int .i64 x40), (30, .bool (!t66))] ?_
       refine JQ.mask [At.rd (some ⟨g63, o64, none⟩) c7 fl_Vis.kd s5 true, At.rd (some ⟨g58, o59, none⟩) c3 fl_Vis.kd s1 true] [true, true, false, false] ?_
       rcases ite_cases H1 with ⟨h68, H1⟩ | ⟨h68, H1⟩
       · refine J.cond_true h68 ?_
         refine J.seq ?_
         refine J.region ?_
         refine JL.as (.bool false) ?_
         refine JL.nil ?_
         refine JQ.then_normal ?_
         refine JQ.sub [(6, .bool false)] ?_
         refine JQ.mask [] [false, false] ?_
         refine J.ret ?_
         refine JQ.blk_ret ?_
         refine JQ.then_ret ?_
         refine JQ.then_ret ?_
         refine JQ.blk_ret ?_
         refine JQ.met_ret ?_
         refine JQ.then_ret ?_
         rw [hr1 _ (Option.some.inj H1).symm, fin_ret] at H0
         obtain rfl := Option.some.inj H0
         exact JQ.done' (rs := [.tmp 6]) (vs := [.bool false]) [] (.inr rfl) ⟨by kernel_rfl, trivial⟩ (fun _ h => Heap.to h) ⟨rfl, rfl⟩
       · refine J.cond_false h68 ?_
         refine J.skip ?_
         refine JQ.blk_normal ?_
         refine JQ.then_normal ?_
         refine JQ.sub [(1, .slice (some ⟨g63, o64, none⟩) s5.length c7), (2, .func (.func 50) #[] #[]), (15, .slice (some ⟨g58, o59, none⟩) s1.length c3), (16, .int .i64 (s1.length : Int)), (17, .int .i64 x40)] ?_
         refine J.region ?_
         refine JL.pur (.int .i64 (w64 (x40 + 1))) (some 31) ?_
         refine JL.mv (.int .i64 (w64 (x40 + 1))) ?_
         refine JL.nil ?_
         refine JQ.then_normal ?_
         exact JQ.again (w64 (x40 + 1)) () (Option.some.inj H1).symm (fun _ h => Heap.to h)
     · refine J.cond_false h55 ?_
       refine J.exit ?_
       refine JQ.then_exit ?_
       refine JQ.then_exit ?_
       refine JQ.blk_exit ?_
       rw [hb1 _ (Option.some.inj H1).symm, fin_brk] at H0
       exact JQ.met () () H0 (fun _ h => Heap.to (Heap.pick [] (by decide) h))
   · clear hit H0
     rintro ⟨⟩ ⟨⟩ H0
     replace H0 : slices_EqualFunc__api_Vis_api_Vis_api_Vis_api_Vis__corrupt_baselines_1.k2 = some r := H0
     unfold slices_EqualFunc__api_Vis_api_Vis_api_Vis_api_Vis__corrupt_baselines_1.k2 at H0
     refine JQ.sub [] ?_
     refine JQ.turn (Δ' := []) (fun _ h => h.to) ?_
     refine JQ.then_normal ?_
     refine J.seq ?_
     refine J.region ?_
     refine JL.as (.bool true) ?_
     refine JL.nil ?_
     refine JQ.then_normal ?_
     refine J.ret ?_
     obtain rfl := Option.some.inj H0
     exact JQ.done' (rs := [.tmp 6]) (vs := [.bool true]) [] (.inr rfl) ⟨by kernel_rfl, trivial⟩ (fun _ h => Heap.to h) ⟨rfl, rfl⟩

theorem corrupt_baselines.ok (a1 : (List Vis)) (Aa2 : Option Addr) (c3 : Nat) (b5 : (List Vis)) (Aa6 : Option Addr) (c7 : Nat) (r : Bool) (H0 : corrupt_baselines.f a1 b5 = some r) :
    Does Try.prog 35 [.slice Aa2 a1.length c3, .slice Aa6 b5.length c7].toArray [At.rd Aa2 c3 fl_Vis.kd a1 true, At.rd Aa6 c7 fl_Vis.kd b5 true] [] false (fun v Δ => v = .bool r ∧ Δ = []) := by
 refine Does.body (vs := [.slice Aa2 a1.length c3, .slice Aa6 b5.length c7]) Try.func35 rfl ⟨.inl rfl, .inl rfl, trivial⟩ trivial fun w S => ?_
 unfold corrupt_baselines.f at H0
 refine J.seq ?_
 refine J.region ?_
 refine JL.as (.bool false) ?_
 refine JL.nil ?_
 refine JQ.then_normal ?_
 refine JQ.sub [(0, .slice Aa2 a1.length c3), (1, .slice Aa6 b5.length c7)] ?_
 refine J.seq ?_
 refine J.region ?_
 refine JL.mv (.slice Aa2 a1.length c3) ?_
 refine JL.mv (.slice Aa6 b5.length c7) ?_
 obtain ⟨t9, hc10, H0⟩ := bind_some H0
 refine JL.call [] [] [] (slices_EqualFunc__api_Vis_api_Vis_api_Vis_api_Vis__corrupt_baselines_1.ok a1 Aa2 c3 b5 Aa6 c7 _ hc10) ⟨pre_any 0 (view_rd Aa2 c3 fl_Vis.kd a1 true true), ⟨pre_any 1 (view_rd Aa6 c7 fl_Vis.kd b5 true true), trivial⟩⟩ ?_
 rintro _ _ ⟨rfl, rfl⟩
 refine JL.as (.bool t9) ?_
 refine JL.nil ?_
 refine JQ.then_normal ?_
 refine JQ.sub [(4, .bool t9)] ?_
 refine JQ.mask [] [false, false] ?_
 refine J.ret ?_
 obtain rfl := Option.some.inj H0
 exact JQ.done' (rs := [.tmp 4]) (vs := [.bool t9]) [] (.inr rfl) ⟨by kernel_rfl, trivial⟩ (fun _ h => Heap.to h) ⟨rfl, rfl⟩

theorem corrupt_Check_1.ok (l1 : (List Vis)) (Aa2 : Option Addr) (c3 : Nat) (v5 : (List (List Vis))) (b6 : Nat) (Aa7 : Option Addr) (c8 : Nat) (r : Bool) (H0 : corrupt_Check_1.f l1 v5 = some r) :
    Does Try.prog 34 [.slice Aa2 l1.length c3, .pointer (some ⟨b6, 0, none⟩)].toArray [At.rd Aa2 c3 fl_Vis.kd l1 true, At.rd Aa7 c8 fl_Vis.kd.sl v5 true] [At.box b6 37 [.slice Aa7 v5.length c8]] false (fun v Δ => v = .bool r ∧ Δ = [At.box b6 37 [.slice Aa7 v5.length c8]]) := by
 refine Does.body (vs := [.slice Aa2 l1.length c3, .pointer (some ⟨b6, 0, none⟩)]) Try.func34 rfl ⟨.inl rfl, .inl rfl, trivial⟩ ⟨.inr (fun _ _ _ h => h), trivial⟩ fun w S => ?_
 unfold corrupt_Check_1.f at H0
 refine J.seq ?_
 refine J.region ?_
 refine JL.as (.bool false) ?_
 refine JL.nil ?_
 refine JQ.then_normal ?_
 refine JQ.sub [(0, .slice Aa2 l1.length c3), (1, .pointer (some ⟨b6, 0, none⟩))] ?_
 refine J.seq ?_
 refine J.region ?_
 refine JL.val (.slice Aa7 v5.length c8) (some 4) (yields_load_box 2 0 (holds_box b6 37 [.slice Aa7 v5.length c8]) tyAgg_37) ?_
 obtain ⟨⟨h10, h11⟩, H0⟩ := ite_must H0
 refine JL.ixAddr 1 1 c8 .i64 (elems_rd Aa7 c8 fl_Vis.kd.sl v5 true) Try.underlying37 tySize_48 h10 h11 fun g12 o13 hA => ?_
 subst hA
 refine JL.loadEl (fun q : Option Addr × Nat => [.slice q.1 (ix v5 0).length q.2]) (fun q : Option Addr × Nat => [At.rd q.1 q.2 fl_Vis.kd (ix v5 0) true]) (fun q : Option Addr × Nat => .slice q.1 (ix v5 0).length q.2) (off := 0) 1 (elems_rd (some ⟨g12, o13, none⟩) c8 fl_Vis.kd.sl v5 true) (opens_sl fl_Vis.kd _ _) h10 h11 tySize_48 (.inr ⟨tyAgg_48, rfl, fun _ => rfl⟩) ?_
 rintro ⟨Aa14, c15⟩
 refine JL.mv (.slice Aa2 l1.length c3) ?_
 obtain ⟨t17, hc18, H0⟩ := bind_some H0
 refine JL.call [] [] [] (corrupt_baselines.ok (ix v5 0) Aa14 c15 l1 Aa2 c3 _ hc18) ⟨pre_any 3 (view_rd Aa14 c15 fl_Vis.kd (ix v5 0) true true), ⟨pre_any 0 (view_rd Aa2 c3 fl_Vis.kd l1 true true), trivial⟩⟩ ?_
 rintro _ _ ⟨rfl, rfl⟩
 refine JL.pur (.bool (!t17)) (some 9) ?_
 refine JL.as (.bool (!t17)) ?_
 refine JL.nil ?_
 refine JQ.then_normal ?_
 refine JQ.sub [(3, .bool (!t17))] ?_
 refine JQ.mask [At.rd (some ⟨g12, o13, none⟩) c8 fl_Vis.kd.sl v5 true, At.box b6 37 [.slice (some ⟨g12, o13, none⟩) v5.length c8]] [false, true, true, false] ?_
 refine J.ret ?_
 obtain rfl := Option.some.inj H0
 exact JQ.done' (rs := [.tmp 3]) (vs := [.bool (!t17)]) [At.box b6 37 [.slice (some ⟨g12, o13, none⟩) v5.length c8]] (.inr rfl) ⟨by kernel_rfl, trivial⟩ (fun _ h => Heap.to (Heap.pick [1] (by decide) h)) ⟨rfl, rfl⟩

theorem slices_IndexFunc__api_Vis_api_Vis__corrupt_Check_1.ok (s1 : (List (List Vis))) (Aa2 : Option Addr) (c3 : Nat) (v5 : (List (List Vis))) (b6 : Nat) (Aa7 : Option Addr) (c8 : Nat) (r : Int) (H0 : slices_IndexFunc__api_Vis_api_Vis__corrupt_Check_1.f s1 v5 = some r) :
    Does Try.prog 48 [.slice Aa2 s1.length c3, .func (.func 34) #[] #[.pointer (some ⟨b6, 0, none⟩)]].toArray [At.rd Aa2 c3 fl_Vis.kd.sl s1 true, At.rd Aa7 c8 fl_Vis.kd.sl v5 true] [At.box b6 37 [.slice Aa7 v5.length c8]] false (fun v Δ => v = .int .i64 r ∧ Δ = [At.box b6 37 [.slice Aa7 v5.length c8]]) := by
 refine Does.body (vs := [.slice Aa2 s1.length c3, .func (.func 34) #[] #[.pointer (some ⟨b6, 0, none⟩)]]) Try.func48 rfl ⟨.inl rfl, .inl rfl, trivial⟩ ⟨.inr (fun _ _ _ h => h), trivial⟩ fun w S => ?_
 unfold slices_IndexFunc__api_Vis_api_Vis__corrupt_Check_1.f at H0
 refine J.seq ?_
 refine J.region ?_
 refine JL.as (.int .i64 0) ?_
 refine JL.nil ?_
 refine JQ.then_normal ?_
 refine JQ.sub [(0, .slice Aa2 s1.length c3), (1, .func (.func 34) #[] #[.pointer (some ⟨b6, 0, none⟩)])] ?_
 refine J.seq ?_
 refine J.seq ?_
 refine J.region ?_
 refine JL.mv (.slice Aa2 s1.length c3) ?_
 refine JL.pur (.int .i64 (s1.length : Int)) (some 7) ?_
 refine JL.mv (.int .i64 0) ?_
 refine JL.nil ?_
 refine JQ.then_normal ?_
 refine JQ.sub [(0, .slice Aa2 s1.length c3), (1, .func (.func 34) #[] #[.pointer (some ⟨b6, 0, none⟩)]), (7, .int .i64 (s1.length : Int)), (8, .int .i64 0)] ?_
 obtain ⟨o1, hit, H0⟩ := bind_some H0
 refine J.loop (σ := Int) (τ := Unit) (G := Unit) (G' := Unit) _ o1 (fun s g => [(0, .slice Aa2 s1.length c3), (1, .func (.func 34) #[] #[.pointer (some ⟨b6, 0, none⟩)]), (7, .int .i64 (s1.length : Int)), (8, .int .i64 s)]) (fun s g => [At.rd Aa2 c3 fl_Vis.kd.sl s1 true, At.box b6 37 [.slice Aa7 v5.length c8], At.rd Aa7 c8 fl_Vis.kd.sl v5 true]) (fun t => slices_IndexFunc__api_Vis_api_Vis__corrupt_Check_1.k2 = some r) (fun t g => []) (fun t g => [At.box b6 37 [.slice Aa7 v5.length c8], At.rd Aa7 c8 fl_Vis.kd.sl v5 true]) 0 () hit (fun _ h => Heap.to (Heap.pick [0, 2, 1] (by decide) h)) ?_ ?_
 · clear hit
   rintro x34 ⟨⟩ st1 H1 hb1 hr1
   replace H1 : slices_IndexFunc__api_Vis_api_Vis__corrupt_Check_1.s1 s1 v5 x34 = some st1 := H1
   unfold slices_IndexFunc__api_Vis_api_Vis__corrupt_Check_1.s1 at H1
   refine JQ.sub [(0, .slice Aa2 s1.length c3), (1, .func (.func 34) #[] #[.pointer (some ⟨b6, 0, none⟩)]), (7, .int .i64 (s1.length : Int)), (8, .int .i64 x34)] ?_
   refine JQ.turn (Δ' := [At.rd Aa2 c3 fl_Vis.kd.sl s1 true, At.box b6 37 [.slice Aa7 v5.length c8], At.rd Aa7 c8 fl_Vis.kd.sl v5 true]) (fun _ h => h.to) ?_
   refine J.seq ?_
   refine J.region ?_
   refine JL.pur (.bool (decide (x34 < (s1.length : Int)))) (some 9) ?_
   refine JL.nil ?_
   refine JQ.then_normal ?_
   refine J.seq ?_
   rcases ite_cases H1 with ⟨h46, H1⟩ | ⟨h46, H1⟩
   · refine J.cond_true h46 ?_
     refine J.skip ?_
     refine JQ.then_normal ?_
     refine JQ.sub [(0, .slice Aa2 s1.length c3), (1, .func (.func 34) #[] #[.pointer (some ⟨b6, 0, none⟩)]), (7, .int .i64 (s1.length : Int)), (8, .int .i64 x34)] ?_
     refine J.seq ?_
     refine J.block ?_
     refine J.seq ?_
     refine J.region ?_
     refine JL.mv (.int .i64 x34) ?_
     refine JL.as (.int .i64 x34) ?_
     refine JL.nil ?_
     refine JQ.then_normal ?_
     refine JQ.sub [(0, .slice Aa2 s1.length c3), (1, .func (.func 34) #[] #[.pointer (some ⟨b6, 0, none⟩)]), (5, .int .i64 x34), (7, .int .i64 (s1.length : Int)), (8, .int .i64 x34)] ?_
     refine J.seq ?_
     refine J.region ?_
     refine JL.mv (.func (.func 34) #[] #[.pointer (some ⟨b6, 0, none⟩)]) ?_
     refine JL.mv (.slice Aa2 s1.length c3) ?_
     refine JL.mv (.int .i64 x34) ?_
     obtain ⟨⟨h47, h48⟩, H1⟩ := ite_must H1
     refine JL.ixAddr 0 1 c3 .i64 (elems_rd Aa2 c3 fl_Vis.kd.sl s1 true) Try.underlying37 tySize_48 h47 h48 fun g49 o50 hA => ?_
     subst hA
     refine JL.loadEl (fun q : Option Addr × Nat => [.slice q.1 (ix s1 x34).length q.2]) (fun q : Option Addr × Nat => [At.rd q.1 q.2 fl_Vis.kd (ix s1 x34) true]) (fun q : Option Addr × Nat => .slice q.1 (ix s1 x34).length q.2) (off := 0) 0 (elems_rd (some ⟨g49, o50, none⟩) c3 fl_Vis.kd.sl s1 true) (opens_sl fl_Vis.kd _ _) h47 h48 tySize_48 (.inr ⟨tyAgg_48, rfl, fun _ => rfl⟩) ?_
     rintro ⟨Aa51, c52⟩
     obtain ⟨t54, hc55, H1⟩ := bind_some H1
     refine JL.call [] [.pointer (some ⟨b6, 0, none⟩)] [false, true] (corrupt_Check_1.ok (ix s1 x34) Aa51 c52 v5 b6 Aa7 c8 _ hc55) ⟨pre_any 2 (view_rd Aa51 c52 fl_Vis.kd (ix s1 x34) true true), ⟨pre_any 1 (view_rd Aa7 c8 fl_Vis.kd.sl v5 true true), trivial⟩⟩ ?_
     rintro _ _ ⟨rfl, rfl⟩
     refine JL.nil ?_
     refine JQ.then_normal ?_
     refine JQ.sub [(0, .slice (some ⟨g49, o50, none⟩) s1.length c3), (1, .func (.func 34) #[] #[.pointer (some ⟨b6, 0, none⟩)]), (5, .int .i64 x34), (7, .int .i64 (s1.length : Int)), (8, .int .i64 x34), (16, .bool t54)] ?_
     refine JQ.mask [At.rd (some ⟨g49, o50, none⟩) c3 fl_Vis.kd.sl s1 true, At.rd Aa7 c8 fl_Vis.kd.sl v5 true, At.box b6 37 [.slice Aa7 v5.length c8]] [true, true, false, true] ?_
     rcases ite_cases H1 with ⟨h56, H1⟩ | ⟨h56, H1⟩
     · refine J.cond_true h56 ?_
       refine J.seq ?_
       refine J.region ?_
       refine JL.mv (.int .i64 x34) ?_
       refine JL.as (.int .i64 x34) ?_
       refine JL.nil ?_
       refine JQ.then_normal ?_
       refine JQ.sub [(4, .int .i64 x34)] ?_
       refine JQ.mask [At.rd Aa7 c8 fl_Vis.kd.sl v5 true, At.box b6 37 [.slice Aa7 v5.length c8]] [false, true, true] ?_
       refine J.ret ?_
       refine JQ.blk_ret ?_
       refine JQ.then_ret ?_
       refine JQ.then_ret ?_
       refine JQ.blk_ret ?_
       refine JQ.met_ret ?_
       refine JQ.then_ret ?_
       rw [hr1 _ (Option.some.inj H1).symm, fin_ret] at H0
       obtain rfl := Option.some.inj H0
       exact JQ.done' (rs := [.tmp 4]) (vs := [.int .i64 x34]) [At.box b6 37 [.slice Aa7 v5.length c8]] (.inr rfl) ⟨by kernel_rfl, trivial⟩ (fun _ h => Heap.to (Heap.pick [1] (by decide) h)) ⟨rfl, rfl⟩
     · refine J.cond_false h56 ?_
       refine J.skip ?_
       refine JQ.blk_normal ?_
       refine JQ.then_normal ?_
       refine JQ.sub [(0, .slice (some ⟨g49, o50, none⟩) s1.length c3), (1, .func (.func 34) #[] #[.pointer (some ⟨b6, 0, none⟩)]), (7, .int .i64 (s1.length : Int)), (8, .int .i64 x34)] ?_
       refine J.region ?_
       refine JL.pur (.int .i64 (w64 (x34 + 1))) (some 18) ?_
       refine JL.mv (.int .i64 (w64 (x34 + 1))) ?_
       refine JL.nil ?_
       refine JQ.then_normal ?_
       exact JQ.again (w64 (x34 + 1)) () (Option.some.inj H1).symm (fun _ h => Heap.to (Heap.pick [0, 2, 1] (by decide) h))
   · refine J.cond_false h46 ?_
     refine J.exit ?_
     refine JQ.then_exit ?_
     refine JQ.then_exit ?_
     refine JQ.blk_exit ?_
     rw [hb1 _ (Option.some.inj H1).symm, fin_brk] at H0
     exact JQ.met () () H0 (fun _ h => Heap.to (Heap.pick [1, 2] (by decide) h))
 · clear hit H0
   rintro ⟨⟩ ⟨⟩ H0
   replace H0 : slices_IndexFunc__api_Vis_api_Vis__corrupt_Check_1.k2 = some r := H0
   unfold slices_IndexFunc__api_Vis_api_Vis__corrupt_Check_1.k2 at H0
   refine JQ.sub [] ?_
   refine JQ.turn (Δ' := [At.box b6 37 [.slice Aa7 v5.length c8], At.rd Aa7 c8 fl_Vis.kd.sl v5 true]) (fun _ h => h.to) ?_
   refine JQ.then_normal ?_
   refine J.seq ?_
   refine J.region ?_
   refine JL.as (.int .i64 (-1)) ?_
   refine JL.nil ?_
   refine JQ.then_normal ?_
   refine J.ret ?_
   obtain rfl := Option.some.inj H0
   exact JQ.done' (rs := [.tmp 4]) (vs := [.int .i64 (-1)]) [At.box b6 37 [.slice Aa7 v5.length c8]] (.inr rfl) ⟨by kernel_rfl, trivial⟩ (fun _ h => Heap.to (Heap.pick [0] (by decide) h)) ⟨rfl, rfl⟩

theorem slices_ContainsFunc__api_Vis_api_Vis__corrupt_Check_1.ok (s1 : (List (List Vis))) (Aa2 : Option Addr) (c3 : Nat) (v5 : (List (List Vis))) (b6 : Nat) (Aa7 : Option Addr) (c8 : Nat) (r : Bool) (H0 : slices_ContainsFunc__api_Vis_api_Vis__corrupt_Check_1.f s1 v5 = some r) :
    Does Try.prog 33 [.slice Aa2 s1.length c3, .func (.func 34) #[] #[.pointer (some ⟨b6, 0, none⟩)]].toArray [At.rd Aa2 c3 fl_Vis.kd.sl s1 true, At.rd Aa7 c8 fl_Vis.kd.sl v5 true] [At.box b6 37 [.slice Aa7 v5.length c8]] false (fun v Δ => v = .bool r ∧ Δ = [At.box b6 37 [.slice Aa7 v5.length c8]]) := by
 refine Does.body (vs := [.slice Aa2 s1.length c3, .func (.func 34) #[] #[.pointer (some ⟨b6, 0, none⟩)]]) Try.func33 rfl ⟨.inl rfl, .inl rfl, trivial⟩ ⟨.inr (fun _ _ _ h => h), trivial⟩ fun w S => ?_
 unfold slices_ContainsFunc__api_Vis_api_Vis__corrupt_Check_1.f at H0
 refine J.seq ?_
 refine J.region ?_
 refine JL.as (.bool false) ?_
 refine JL.nil ?_
 refine JQ.then_normal ?_
 refine JQ.sub [(0, .slice Aa2 s1.length c3), (1, .func (.func 34) #[] #[.pointer (some ⟨b6, 0, none⟩)])] ?_
 refine J.seq ?_
 refine J.region ?_
 refine JL.mv (.slice Aa2 s1.length c3) ?_
 refine JL.mv (.func (.func 34) #[] #[.pointer (some ⟨b6, 0, none⟩)]) ?_
 obtain ⟨t10, hc11, H0⟩ := bind_some H0
 refine JL.call [] [] [false, false, true] (slices_IndexFunc__api_Vis_api_Vis__corrupt_Check_1.ok s1 Aa2 c3 v5 b6 Aa7 c8 _ hc11) ⟨pre_any 0 (view_rd Aa2 c3 fl_Vis.kd.sl s1 true true), ⟨pre_any 1 (view_rd Aa7 c8 fl_Vis.kd.sl v5 true true), trivial⟩⟩ ?_
 rintro _ _ ⟨rfl, rfl⟩
 refine JL.pur (.bool (decide (0 ≤ t10))) (some 8) ?_
 refine JL.as (.bool (decide (0 ≤ t10))) ?_
 refine JL.nil ?_
 refine JQ.then_normal ?_
 refine JQ.sub [(4, .bool (decide (0 ≤ t10)))] ?_
 refine JQ.mask [At.rd Aa7 c8 fl_Vis.kd.sl v5 true, At.box b6 37 [.slice Aa7 v5.length c8]] [false, true, true] ?_
 refine J.ret ?_
 obtain rfl := Option.some.inj H0
 exact JQ.done' (rs := [.tmp 4]) (vs := [.bool (decide (0 ≤ t10))]) [At.box b6 37 [.slice Aa7 v5.length c8]] (.inr rfl) ⟨by kernel_rfl, trivial⟩ (fun _ h => Heap.to (Heap.pick [1] (by decide) h)) ⟨rfl, rfl⟩

theorem corrupt_Check.ok (s1 : (List (List Vis))) (Aa2 : Option Addr) (c3 : Nat) (r : Int) (H0 : corrupt_Check.f s1 = some r) :
    Does Try.prog 16 [.slice Aa2 s1.length c3].toArray [At.rd Aa2 c3 fl_Vis.kd.sl s1 true] [] false (fun v Δ => v = .int .i64 r ∧ Δ = []) := by
 refine Does.body (vs := [.slice Aa2 s1.length c3]) Try.func16 rfl ⟨.inl rfl, trivial⟩ trivial fun w S => ?_
 unfold corrupt_Check.f at H0
 refine J.seq ?_
 refine J.region ?_
 refine JL.box [.slice Aa2 s1.length c3] fun b5 => ?_
 refine JL.as (.int .i64 0) ?_
 refine JL.nil ?_
 refine JQ.then_normal ?_
 refine JQ.sub [(1, .pointer (some ⟨b5, 0, none⟩))] ?_
 refine J.seq ?_
 refine J.seq ?_
 refine J.region ?_
 refine JL.val (.slice Aa2 s1.length c3) (some 6) (yields_load_box 1 0 (holds_box b5 37 [.slice Aa2 s1.length c3]) tyAgg_37) ?_
 refine JL.pur (.int .i64 (s1.length : Int)) (some 7) ?_
 refine JL.pur (.bool (decide (32 < (s1.length : Int)))) (some 8) ?_
 refine JL.nil ?_
 refine JQ.then_normal ?_
 refine JQ.sub [(1, .pointer (some ⟨b5, 0, none⟩)), (8, .bool (decide (32 < (s1.length : Int))))] ?_
 rcases ite_cases H0 with ⟨h6, H0⟩ | ⟨h6, H0⟩
 · refine J.cond_true h6 ?_
   refine J.seq ?_
   refine J.region ?_
   refine JL.as (.int .i64 4) ?_
   refine JL.nil ?_
   refine JQ.then_normal ?_
   refine JQ.sub [(2, .int .i64 4)] ?_
   refine JQ.mask [] [false, false] ?_
   refine J.ret ?_
   refine JQ.then_ret ?_
   obtain rfl := Option.some.inj H0
   exact JQ.done' (rs := [.tmp 2]) (vs := [.int .i64 4]) [] (.inr rfl) ⟨by kernel_rfl, trivial⟩ (fun _ h => Heap.to h) ⟨rfl, rfl⟩
 · refine J.cond_false h6 ?_
   refine J.skip ?_
   refine JQ.then_normal ?_
   refine JQ.sub [(1, .pointer (some ⟨b5, 0, none⟩))] ?_
   refine J.seq ?_
   refine J.seq ?_
   refine J.region ?_
   refine JL.val (.slice Aa2 s1.length c3) (some 9) (yields_load_box 1 0 (holds_box b5 37 [.slice Aa2 s1.length c3]) tyAgg_37) ?_
   refine JL.pur (.int .i64 (s1.length : Int)) (some 10) ?_
   refine JL.mv (.int .i64 0) ?_
   refine JL.nil ?_
   refine JQ.then_normal ?_
   obtain ⟨o1, hit, H0⟩ := bind_some H0
   refine J.loop (σ := Int) (τ := Unit) (G := Unit) (G' := Unit) _ o1 (fun s g => [(1, .pointer (some ⟨b5, 0, none⟩)), (9, .slice Aa2 s1.length c3), (10, .int .i64 (s1.length : Int)), (11, .int .i64 s)]) (fun s g => [At.box b5 37 [.slice Aa2 s1.length c3], At.rd Aa2 c3 fl_Vis.kd.sl s1 true]) (fun t => corrupt_Check.k2 s1 = some r) (fun t g => [(1, .pointer (some ⟨b5, 0, none⟩))]) (fun t g => [At.box b5 37 [.slice Aa2 s1.length c3], At.rd Aa2 c3 fl_Vis.kd.sl s1 true]) 0 () hit (fun _ h => Heap.to (Heap.pick [1, 0] (by decide) h)) ?_ ?_
   · clear hit
     rintro x31 ⟨⟩ st1 H1 hb1 hr1
     replace H1 : corrupt_Check.s1 s1 x31 = some st1 := H1
     unfold corrupt_Check.s1 at H1
     refine JQ.sub [(1, .pointer (some ⟨b5, 0, none⟩)), (9, .slice Aa2 s1.length c3), (10, .int .i64 (s1.length : Int)), (11, .int .i64 x31)] ?_
     refine JQ.turn (Δ' := [At.box b5 37 [.slice Aa2 s1.length c3], At.rd Aa2 c3 fl_Vis.kd.sl s1 true]) (fun _ h => h.to) ?_
     refine J.seq ?_
     refine J.region ?_
     refine JL.pur (.bool (decide (x31 < (s1.length : Int)))) (some 12) ?_
     refine JL.nil ?_
     refine JQ.then_normal ?_
     refine J.seq ?_
     rcases ite_cases H1 with ⟨h46, H1⟩ | ⟨h46, H1⟩
     · refine J.cond_true h46 ?_
       refine J.skip ?_
       refine JQ.then_normal ?_
       refine JQ.sub [(1, .pointer (some ⟨b5, 0, none⟩)), (9, .slice Aa2 s1.length c3), (10, .int .i64 (s1.length : Int)), (11, .int .i64 x31)] ?_
       refine J.seq ?_
       refine J.block ?_
       refine J.seq ?_
       refine J.region ?_
       obtain ⟨⟨h47, h48⟩, H1⟩ := ite_must H1
       refine JL.ixAddr 1 1 c3 .i64 (elems_rd Aa2 c3 fl_Vis.kd.sl s1 true) Try.underlying37 tySize_48 h47 h48 fun g49 o50 hA => ?_
       subst hA
       refine JL.loadEl (fun q : Option Addr × Nat => [.slice q.1 (ix s1 x31).length q.2]) (fun q : Option Addr × Nat => [At.rd q.1 q.2 fl_Vis.kd (ix s1 x31) true]) (fun q : Option Addr × Nat => .slice q.1 (ix s1 x31).length q.2) (off := 0) 1 (elems_rd (some ⟨g49, o50, none⟩) c3 fl_Vis.kd.sl s1 true) (opens_sl fl_Vis.kd _ _) h47 h48 tySize_48 (.inr ⟨tyAgg_48, rfl, fun _ => rfl⟩) ?_
       rintro ⟨Aa51, c52⟩
       refine JL.as (.slice Aa51 (ix s1 x31).length c52) ?_
       refine JL.nil ?_
       refine JQ.then_normal ?_
       refine JQ.sub [(1, .pointer (some ⟨b5, 0, none⟩)), (4, .slice Aa51 (ix s1 x31).length c52), (9, .slice (some ⟨g49, o50, none⟩) s1.length c3), (10, .int .i64 (s1.length : Int)), (11, .int .i64 x31)] ?_
       refine J.seq ?_
       refine J.region ?_
       refine JL.mv (.slice Aa51 (ix s1 x31).length c52) ?_
       obtain ⟨t54, hc55, H1⟩ := bind_some H1
       refine JL.call [] [] [] (closure_Check.ok (ix s1 x31) Aa51 c52 _ hc55) ⟨pre_any 2 (view_rd Aa51 c52 fl_Vis.kd (ix s1 x31) true true), trivial⟩ ?_
       rintro _ _ ⟨rfl, rfl⟩
       refine JL.as (.int .i64 t54) ?_
       refine JL.nil ?_
       refine JQ.then_normal ?_
       refine JQ.sub [(1, .pointer (some ⟨b5, 0, none⟩)), (5, .int .i64 t54), (9, .slice (some ⟨g49, o50, none⟩) s1.length c3), (10, .int .i64 (s1.length : Int)), (11, .int .i64 x31)] ?_
       refine JQ.mask [At.box b5 37 [.slice (some ⟨g49, o50, none⟩) s1.length c3], At.rd (some ⟨g49, o50, none⟩) c3 fl_Vis.kd.sl s1 true] [true, true, false] ?_
       refine J.seq ?_
       refine J.region ?_
       refine JL.mv (.int .i64 t54) ?_
       refine JL.pur (.bool (!decide (t54 = 0))) (some 18) ?_
       refine JL.nil ?_
       refine JQ.then_normal ?_
       refine JQ.sub [(1, .pointer (some ⟨b5, 0, none⟩)), (5, .int .i64 t54), (9, .slice (some ⟨g49, o50, none⟩) s1.length c3), (10, .int .i64 (s1.length : Int)), (11, .int .i64 x31), (18, .bool (!decide (t54 = 0)))] ?_
       rcases ite_cases H1 with ⟨h56, H1⟩ | ⟨h56, H1⟩
       · refine J.cond_true h56 ?_
         refine J.seq ?_
         refine J.region ?_
         refine JL.mv (.int .i64 t54) ?_
         refine JL.as (.int .i64 t54) ?_
         refine JL.nil ?_
         refine JQ.then_normal ?_
         refine JQ.sub [(2, .int .i64 t54)] ?_
         refine JQ.mask [] [false, false] ?_
         refine J.ret ?_
         refine JQ.blk_ret ?_
         refine JQ.then_ret ?_
         refine JQ.then_ret ?_
         refine JQ.blk_ret ?_
         refine JQ.met_ret ?_
         refine JQ.then_ret ?_
         rw [hr1 _ (Option.some.inj H1).symm, fin_ret] at H0
         obtain rfl := Option.some.inj H0
         exact JQ.done' (rs := [.tmp 2]) (vs := [.int .i64 t54]) [] (.inr rfl) ⟨by kernel_rfl, trivial⟩ (fun _ h => Heap.to h) ⟨rfl, rfl⟩
       · refine J.cond_false h56 ?_
         refine J.skip ?_
         refine JQ.blk_normal ?_
         refine JQ.then_normal ?_
         refine JQ.sub [(1, .pointer (some ⟨b5, 0, none⟩)), (9, .slice (some ⟨g49, o50, none⟩) s1.length c3), (10, .int .i64 (s1.length : Int)), (11, .int .i64 x31)] ?_
         refine J.region ?_
         refine JL.pur (.int .i64 (w64 (x31 + 1))) (some 20) ?_
         refine JL.mv (.int .i64 (w64 (x31 + 1))) ?_
         refine JL.nil ?_
         refine JQ.then_normal ?_
         exact JQ.again (w64 (x31 + 1)) () (Option.some.inj H1).symm (fun _ h => Heap.to h)
     · refine J.cond_false h46 ?_
       refine J.exit ?_
       refine JQ.then_exit ?_
       refine JQ.then_exit ?_
       refine JQ.blk_exit ?_
       rw [hb1 _ (Option.some.inj H1).symm, fin_brk] at H0
       exact JQ.met () () H0 (fun _ h => Heap.to h)
   · clear hit H0
     rintro ⟨⟩ ⟨⟩ H0
     replace H0 : corrupt_Check.k2 s1 = some r := H0
     unfold corrupt_Check.k2 at H0
     refine JQ.sub [(1, .pointer (some ⟨b5, 0, none⟩))] ?_
     refine JQ.turn (Δ' := [At.box b5 37 [.slice Aa2 s1.length c3], At.rd Aa2 c3 fl_Vis.kd.sl s1 true]) (fun _ h => h.to) ?_
     refine JQ.then_normal ?_
     refine J.seq ?_
     refine J.seq ?_
     refine J.region ?_
     refine JL.val (.slice Aa2 s1.length c3) (some 21) (yields_load_box 0 0 (holds_box b5 37 [.slice Aa2 s1.length c3]) tyAgg_37) ?_
     refine JL.pur (.func (.func 34) #[] #[.pointer (some ⟨b5, 0, none⟩)]) (some 22) ?_
     obtain ⟨t43, hc44, H0⟩ := bind_some H0
     refine JL.call [] [] [true] (slices_ContainsFunc__api_Vis_api_Vis__corrupt_Check_1.ok s1 Aa2 c3 s1 b5 Aa2 c3 _ hc44) ⟨pre_any 0 (view_rd Aa2 c3 fl_Vis.kd.sl s1 true true), ⟨pre_any 0 (view_rd Aa2 c3 fl_Vis.kd.sl s1 true true), trivial⟩⟩ ?_
     rintro _ _ ⟨rfl, rfl⟩
     refine JL.nil ?_
     refine JQ.then_normal ?_
     refine JQ.sub [(23, .bool t43)] ?_
     refine JQ.mask [] [false, false] ?_
     rcases ite_cases H0 with ⟨h45, H0⟩ | ⟨h45, H0⟩
     · refine J.cond_true h45 ?_
       refine J.seq ?_
       refine J.region ?_
       refine JL.as (.int .i64 8) ?_
       refine JL.nil ?_
       refine JQ.then_normal ?_
       refine JQ.sub [(2, .int .i64 8)] ?_
       refine J.ret ?_
       refine JQ.then_ret ?_
       obtain rfl := Option.some.inj H0
       exact JQ.done' (rs := [.tmp 2]) (vs := [.int .i64 8]) [] (.inr rfl) ⟨by kernel_rfl, trivial⟩ (fun _ h => Heap.to h) ⟨rfl, rfl⟩
     · refine J.cond_false h45 ?_
       refine J.skip ?_
       refine JQ.then_normal ?_
       refine JQ.sub [] ?_
       refine J.seq ?_
       refine J.region ?_
       refine JL.as (.int .i64 0) ?_
       refine JL.nil ?_
       refine JQ.then_normal ?_
       refine J.ret ?_
       obtain rfl := Option.some.inj H0
       exact JQ.done' (rs := [.tmp 2]) (vs := [.int .i64 0]) [] (.inr rfl) ⟨by kernel_rfl, trivial⟩ (fun _ h => Heap.to h) ⟨rfl, rfl⟩

theorem corrupt_Spoil_1.ok (g1 : (List Cx)) (Aa2 : Option Addr) (c3 : Nat) (r : ((List Cx) × Int)) (H0 : corrupt_Spoil_1.f g1 = some r) :
    Does Try.prog 30 [.slice Aa2 g1.length c3].toArray [At.rd Aa2 c3 fl_Cx.kd g1 true] [] true (fun v Δ => ∃ A1001 : Option Addr, ∃ c1001 : Nat, v = .tuple #[.slice A1001 r.1.length c1001, .int .i64 r.2] ∧ Δ = [At.rd A1001 c1001 fl_Cx.kd r.1 true]) := by
 refine Does.body (vs := [.slice Aa2 g1.length c3]) Try.func30 rfl ⟨.inl rfl, trivial⟩ trivial fun w S => ?_
 unfold corrupt_Spoil_1.f at H0
 refine J.seq ?_
 refine J.region ?_
 refine JL.as (.slice none 0 0) ?_
 refine JL.as (.int .i64 0) ?_
 refine JL.nil ?_
 refine JQ.then_normal ?_
 refine JQ.sub [(0, .slice Aa2 g1.length c3)] ?_
 refine J.seq ?_
 refine J.region ?_
 refine JL.mv (.slice Aa2 g1.length c3) ?_
 refine JL.as (.slice Aa2 g1.length c3) ?_
 refine JL.as (.int .i64 0) ?_
 refine JL.nil ?_
 refine JQ.then_normal ?_
 refine JQ.sub [(2, .slice Aa2 g1.length c3), (3, .int .i64 0)] ?_
 refine J.ret ?_
 obtain rfl := Option.some.inj H0
 exact JQ.done' (rs := [.tmp 2, .tmp 3]) (vs := [.slice Aa2 g1.length c3, .int .i64 0]) [At.rd Aa2 c3 fl_Cx.kd g1 true] (.inr rfl) ⟨by kernel_rfl, by kernel_rfl, trivial⟩ (fun _ h => Heap.to h) ⟨Aa2, c3, rfl, rfl⟩

theorem gain_zero.ok (a1 : Cx) (r : Bool) (H0 : gain_zero.f a1 = some r) :
    Does Try.prog 75 [mv_23 a1].toArray [] [] false (fun v Δ => v = .bool r ∧ Δ = []) := by
 refine Does.body (vs := [mv_23 a1]) Try.func75 rfl trivial trivial fun w S => ?_
 unfold gain_zero.f at H0
 refine J.seq ?_
 refine J.region ?_
 refine JL.box (cl_23 a1) fun b2 => ?_
 refine JL.as (.bool false) ?_
 refine JL.nil ?_
 refine JQ.then_normal ?_
 refine JQ.sub [(1, .pointer (some ⟨b2, 0, none⟩))] ?_
 refine J.seq ?_
 refine J.region ?_
 refine JL.pur (.pointer (some ⟨b2, 0, none⟩)) (some 3) ?_
 refine JL.val (.int .i64 a1.Re) (some 4) (yields_load_box 0 0 (holds_box b2 23 (cl_23 a1)) tyAgg_2) ?_
 refine JL.pur (.bool (decide (a1.Re = 0))) (some 5) ?_
 refine JL.mv (.bool (decide (a1.Re = 0))) ?_
 rcases ite_cases H0 with ⟨h3, H0⟩ | ⟨h3, H0⟩
 · refine JL.on 3 6 h3 ?_
   refine JL.pur (.pointer (some ⟨b2, 1, none⟩)) (some 7) ?_
   refine JL.on 3 6 h3 ?_
   refine JL.val (.int .i64 a1.Im) (some 8) (yields_load_box 0 1 (holds_box b2 23 (cl_23 a1)) tyAgg_2) ?_
   refine JL.on 3 6 h3 ?_
   refine JL.pur (.bool (decide (a1.Im = 0))) (some 9) ?_
   refine JL.val (.bool (decide (a1.Im = 0))) (some 10) (gives_pickT h3) ?_
   refine JL.as (.bool (decide (a1.Im = 0))) ?_
   refine JL.nil ?_
   refine JQ.then_normal ?_
   refine JQ.sub [(2, .bool (decide (a1.Im = 0)))] ?_
   refine JQ.mask [] [false] ?_
   refine J.ret ?_
   obtain rfl := Option.some.inj H0
   exact JQ.done' (rs := [.tmp 2]) (vs := [.bool (decide (a1.Im = 0))]) [] (.inr rfl) ⟨by kernel_rfl, trivial⟩ (fun _ h => Heap.to h) ⟨rfl, rfl⟩
 · refine JL.off 3 6 true (some 7) h3 ?_
   refine JL.off 3 6 true (some 8) h3 ?_
   refine JL.off 3 6 true (some 9) h3 ?_
   refine JL.val (.bool false) (some 10) (gives_pickF h3) ?_
   refine JL.as (.bool false) ?_
   refine JL.nil ?_
   refine JQ.then_normal ?_
   refine JQ.sub [(2, .bool false)] ?_
   refine JQ.mask [] [false] ?_
   refine J.ret ?_
   obtain rfl := Option.some.inj H0
   exact JQ.done' (rs := [.tmp 2]) (vs := [.bool false]) [] (.inr rfl) ⟨by kernel_rfl, trivial⟩ (fun _ h => Heap.to h) ⟨rfl, rfl⟩

theorem gain_Check_1.ok (a1 : Cx) (r : Bool) (H0 : gain_Check_1.f a1 = some r) :
    Does Try.prog 74 [mv_23 a1].toArray [] [] false (fun v Δ => v = .bool r ∧ Δ = []) := by
 refine Does.body (vs := [mv_23 a1]) Try.func74 rfl trivial trivial fun w S => ?_
 unfold gain_Check_1.f at H0
 refine J.seq ?_
 refine J.region ?_
 refine JL.box (cl_23 a1) fun b2 => ?_
 refine JL.as (.bool false) ?_
 refine JL.nil ?_
 refine JQ.then_normal ?_
 refine JQ.sub [(1, .pointer (some ⟨b2, 0, none⟩))] ?_
 refine J.seq ?_
 refine J.region ?_
 refine JL.val (mv_23 a1) (some 3) (yields_load_boxes 0 0 (cl_23 a1) (holds_box b2 23 (cl_23 a1)) tyAgg_23 tySize_23) ?_
 obtain ⟨t3, hc4, H0⟩ := bind_some H0
 refine JL.call [] [] [] (cx_Check.ok a1 _ hc4) trivial ?_
 rintro _ _ ⟨rfl, rfl⟩
 refine JL.pur (.bool (!decide (t3 = 0))) (some 5) ?_
 refine JL.mv (.bool (!decide (t3 = 0))) ?_
 rcases ite_cases H0 with ⟨h5, H0⟩ | ⟨h5, H0⟩
 · refine JL.off 3 6 false (some 7) h5 ?_
   refine JL.off 3 6 false (some 8) h5 ?_
   refine JL.val (.bool true) (some 9) (gives_pickT h5) ?_
   refine JL.as (.bool true) ?_
   refine JL.nil ?_
   refine JQ.then_normal ?_
   refine JQ.sub [(2, .bool true)] ?_
   refine JQ.mask [] [false] ?_
   refine J.ret ?_
   obtain rfl := Option.some.inj H0
   exact JQ.done' (rs := [.tmp 2]) (vs := [.bool true]) [] (.inr rfl) ⟨by kernel_rfl, trivial⟩ (fun _ h => Heap.to h) ⟨rfl, rfl⟩
 · refine JL.on 3 6 h5 ?_
   refine JL.val (mv_23 a1) (some 7) (yields_load_boxes 0 0 (cl_23 a1) (holds_box b2 23 (cl_23 a1)) tyAgg_23 tySize_23) ?_
   refine JL.on 3 6 h5 ?_
   obtain ⟨t6, hc7, H0⟩ := bind_some H0
   refine JL.call [] [] [] (gain_zero.ok a1 _ hc7) trivial ?_
   rintro _ _ ⟨rfl, rfl⟩
   refine JL.val (.bool t6) (some 9) (gives_pickF h5) ?_
   refine JL.as (.bool t6) ?_
   refine JL.nil ?_
   refine JQ.then_normal ?_
   refine JQ.sub [(2, .bool t6)] ?_
   refine JQ.mask [] [false] ?_
   refine J.ret ?_
   obtain rfl := Option.some.inj H0
   exact JQ.done' (rs := [.tmp 2]) (vs := [.bool t6]) [] (.inr rfl) ⟨by kernel_rfl, trivial⟩ (fun _ h => Heap.to h) ⟨rfl, rfl⟩

theorem slices_IndexFunc__api_Cx_api_Cx__gain_Check_1.ok (s1 : (List Cx)) (Aa2 : Option Addr) (c3 : Nat) (r : Int) (H0 : slices_IndexFunc__api_Cx_api_Cx__gain_Check_1.f s1 = some r) :
    Does Try.prog 88 [.slice Aa2 s1.length c3, .func (.func 74) #[] #[]].toArray [At.rd Aa2 c3 fl_Cx.kd s1 true] [] false (fun v Δ => v = .int .i64 r ∧ Δ = []) := by
 refine Does.body (vs := [.slice Aa2 s1.length c3, .func (.func 74) #[] #[]]) Try.func88 rfl ⟨.inl rfl, trivial⟩ trivial fun w S => ?_
 unfold slices_IndexFunc__api_Cx_api_Cx__gain_Check_1.f at H0
 refine J.seq ?_
 refine J.region ?_
 refine JL.as (.int .i64 0) ?_
 refine JL.nil ?_
 refine JQ.then_normal ?_
 refine JQ.sub [(0, .slice Aa2 s1.length c3), (1, .func (.func 74) #[] #[])] ?_
 refine J.seq ?_
 refine J.seq ?_
 refine J.region ?_
 refine JL.mv (.slice Aa2 s1.length c3) ?_
 refine JL.pur (.int .i64 (s1.length : Int)) (some 7) ?_
 refine JL.mv (.int .i64 0) ?_
 refine JL.nil ?_
 refine JQ.then_normal ?_
 refine JQ.sub [(0, .slice Aa2 s1.length c3), (1, .func (.func 74) #[] #[]), (7, .int .i64 (s1.length : Int)), (8, .int .i64 0)] ?_
 obtain ⟨o1, hit, H0⟩ := bind_some H0
 refine J.loop (σ := Int) (τ := Unit) (G := Unit) (G' := Unit) _ o1 (fun s g => [(0, .slice Aa2 s1.length c3), (1, .func (.func 74) #[] #[]), (7, .int .i64 (s1.length : Int)), (8, .int .i64 s)]) (fun s g => [At.rd Aa2 c3 fl_Cx.kd s1 true]) (fun t => slices_IndexFunc__api_Cx_api_Cx__gain_Check_1.k2 = some r) (fun t g => []) (fun t g => []) 0 () hit (fun _ h => Heap.to h) ?_ ?_
 · clear hit
   rintro x23 ⟨⟩ st1 H1 hb1 hr1
   replace H1 : slices_IndexFunc__api_Cx_api_Cx__gain_Check_1.s1 s1 x23 = some st1 := H1
   unfold slices_IndexFunc__api_Cx_api_Cx__gain_Check_1.s1 at H1
   refine JQ.sub [(0, .slice Aa2 s1.length c3), (1, .func (.func 74) #[] #[]), (7, .int .i64 (s1.length : Int)), (8, .int .i64 x23)] ?_
   refine JQ.turn (Δ' := [At.rd Aa2 c3 fl_Cx.kd s1 true]) (fun _ h => h.to) ?_
   refine J.seq ?_
   refine J.region ?_
   refine JL.pur (.bool (decide (x23 < (s1.length : Int)))) (some 9) ?_
   refine JL.nil ?_
   refine JQ.then_normal ?_
   refine J.seq ?_
   rcases ite_cases H1 with ⟨h32, H1⟩ | ⟨h32, H1⟩
   · refine J.cond_true h32 ?_
     refine J.skip ?_
     refine JQ.then_normal ?_
     refine JQ.sub [(0, .slice Aa2 s1.length c3), (1, .func (.func 74) #[] #[]), (7, .int .i64 (s1.length : Int)), (8, .int .i64 x23)] ?_
     refine J.seq ?_
     refine J.block ?_
     refine J.seq ?_
     refine J.region ?_
     refine JL.mv (.int .i64 x23) ?_
     refine JL.as (.int .i64 x23) ?_
     refine JL.nil ?_
     refine JQ.then_normal ?_
     refine JQ.sub [(0, .slice Aa2 s1.length c3), (1, .func (.func 74) #[] #[]), (5, .int .i64 x23), (7, .int .i64 (s1.length : Int)), (8, .int .i64 x23)] ?_
     refine J.seq ?_
     refine J.region ?_
     refine JL.mv (.func (.func 74) #[] #[]) ?_
     refine JL.mv (.slice Aa2 s1.length c3) ?_
     refine JL.mv (.int .i64 x23) ?_
     obtain ⟨⟨h33, h34⟩, H1⟩ := ite_must H1
     refine JL.ixAddr 0 3 c3 .i64 (elems_rd Aa2 c3 fl_Cx.kd s1 true) Try.underlying28 tySize_23 h33 h34 fun g35 o36 hA => ?_
     subst hA
     refine JL.val (mv_23 (ix s1 x23)) (some 15) (gives_loadEl (f := fl_Cx) 0 0 x23 (elems_rd (some ⟨g35, o36, none⟩) c3 fl_Cx.kd s1 true) h33 h34 tySize_23 (.inl ⟨tyAgg_23, rfl⟩)) ?_
     obtain ⟨t37, hc38, H1⟩ := bind_some H1
     refine JL.call [] [] [] (gain_Check_1.ok (ix s1 x23) _ hc38) trivial ?_
     rintro _ _ ⟨rfl, rfl⟩
     refine JL.nil ?_
     refine JQ.then_normal ?_
     refine JQ.sub [(0, .slice (some ⟨g35, o36, none⟩) s1.length c3), (1, .func (.func 74) #[] #[]), (5, .int .i64 x23), (7, .int .i64 (s1.length : Int)), (8, .int .i64 x23), (16, .bool t37)] ?_
     rcases ite_cases H1 with ⟨h39, H1⟩ | ⟨h39, H1⟩
     · refine J.cond_true h39 ?_
       refine J.seq ?_
       refine J.region ?_
       refine JL.mv (.int .i64 x23) ?_
       refine JL.as (.int .i64 x23) ?_
       refine JL.nil ?_
       refine JQ.then_normal ?_
       refine JQ.sub [(4, .int .i64 x23)] ?_
       refine JQ.mask [] [false] ?_
       refine J.ret ?_
       refine JQ.blk_ret ?_
       refine JQ.then_ret ?_
       refine JQ.then_ret ?_
       refine JQ.blk_ret ?_
       refine JQ.met_ret ?_
       refine JQ.then_ret ?_
       rw [hr1 _ (Option.some.inj H1).symm, fin_ret] at H0
       obtain rfl := Option.some.inj H0
       exact JQ.done' (rs := [.tmp 4]) (vs := [.int .i64 x23]) [] (.inr rfl) ⟨by kernel_rfl, trivial⟩ (fun _ h => Heap.to h) ⟨rfl, rfl⟩
     · refine J.cond_false h39 ?_
       refine J.skip ?_
       refine JQ.blk_normal ?_
       refine JQ.then_normal ?_
       refine JQ.sub [(0, .slice (some ⟨g35, o36, none⟩) s1.length c3), (1, .func (.func 74) #[] #[]), (7, .int .i64 (s1.length : Int)), (8, .int .i64 x23)] ?_
       refine J.region ?_
       refine JL.pur (.int .i64 (w64 (x23 + 1))) (some 18) ?_
       refine JL.mv (.int .i64 (w64 (x23 + 1))) ?_
       refine JL.nil ?_
       refine JQ.then_normal ?_
       exact JQ.again (w64 (x23 + 1)) () (Option.some.inj H1).symm (fun _ h => Heap.to h)
   · refine J.cond_false h32 ?_
     refine J.exit ?_
     refine JQ.then_exit ?_
     refine JQ.then_exit ?_
     refine JQ.blk_exit ?_
     rw [hb1 _ (Option.some.inj H1).symm, fin_brk] at H0
     exact JQ.met () () H0 (fun _ h => Heap.to (Heap.pick [] (by decide) h))
 · clear hit H0
   rintro ⟨⟩ ⟨⟩ H0
   replace H0 : slices_IndexFunc__api_Cx_api_Cx__gain_Check_1.k2 = some r := H0
   unfold slices_IndexFunc__api_Cx_api_Cx__gain_Check_1.k2 at H0
   refine JQ.sub [] ?_
   refine JQ.turn (Δ' := []) (fun _ h => h.to) ?_
   refine JQ.then_normal ?_
   refine J.seq ?_
   refine J.region ?_
   refine JL.as (.int .i64 (-1)) ?_
   refine JL.nil ?_
   refine JQ.then_normal ?_
   refine J.ret ?_
   obtain rfl := Option.some.inj H0
   exact JQ.done' (rs := [.tmp 4]) (vs := [.int .i64 (-1)]) [] (.inr rfl) ⟨by kernel_rfl, trivial⟩ (fun _ h => Heap.to h) ⟨rfl, rfl⟩

theorem slices_ContainsFunc__api_Cx_api_Cx__gain_Check_1.ok (s1 : (List Cx)) (Aa2 : Option Addr) (c3 : Nat) (r : Bool) (H0 : slices_ContainsFunc__api_Cx_api_Cx__gain_Check_1.f s1 = some r) :
    Does Try.prog 73 [.slice Aa2 s1.length c3, .func (.func 74) #[] #[]].toArray [At.rd Aa2 c3 fl_Cx.kd s1 true] [] false (fun v Δ => v = .bool r ∧ Δ = []) := by
 refine Does.body (vs := [.slice Aa2 s1.length c3, .func (.func 74) #[] #[]]) Try.func73 rfl ⟨.inl rfl, trivial⟩ trivial fun w S => ?_
 unfold slices_ContainsFunc__api_Cx_api_Cx__gain_Check_1.f at H0
 refine J.seq ?_
 refine J.region ?_
 refine JL.as (.bool false) ?_
 refine JL.nil ?_
 refine JQ.then_normal ?_
 refine JQ.sub [(0, .slice Aa2 s1.length c3), (1, .func (.func 74) #[] #[])] ?_
 refine J.seq ?_
 refine J.region ?_
 refine JL.mv (.slice Aa2 s1.length c3) ?_
 refine JL.mv (.func (.func 74) #[] #[]) ?_
 obtain ⟨t5, hc6, H0⟩ := bind_some H0
 refine JL.call [] [] [] (slices_IndexFunc__api_Cx_api_Cx__gain_Check_1.ok s1 Aa2 c3 _ hc6) ⟨pre_any 0 (view_rd Aa2 c3 fl_Cx.kd s1 true true), trivial⟩ ?_
 rintro _ _ ⟨rfl, rfl⟩
 refine JL.pur (.bool (decide (0 ≤ t5))) (some 8) ?_
 refine JL.as (.bool (decide (0 ≤ t5))) ?_
 refine JL.nil ?_
 refine JQ.then_normal ?_
 refine JQ.sub [(4, .bool (decide (0 ≤ t5)))] ?_
 refine JQ.mask [] [false] ?_
 refine J.ret ?_
 obtain rfl := Option.some.inj H0
 exact JQ.done' (rs := [.tmp 4]) (vs := [.bool (decide (0 ≤ t5))]) [] (.inr rfl) ⟨by kernel_rfl, trivial⟩ (fun _ h => Heap.to h) ⟨rfl, rfl⟩

theorem gain_Check.ok (g1 : (List Cx)) (Aa2 : Option Addr) (c3 : Nat) (r : Int) (H0 : gain_Check.f g1 = some r) :
    Does Try.prog 51 [.slice Aa2 g1.length c3].toArray [At.rd Aa2 c3 fl_Cx.kd g1 true] [] false (fun v Δ => v = .int .i64 r ∧ Δ = []) := by
 refine Does.body (vs := [.slice Aa2 g1.length c3]) Try.func51 rfl ⟨.inl rfl, trivial⟩ trivial fun w S => ?_
 unfold gain_Check.f at H0
 refine J.seq ?_
 refine J.region ?_
 refine JL.as (.int .i64 0) ?_
 refine JL.nil ?_
 refine JQ.then_normal ?_
 refine JQ.sub [(0, .slice Aa2 g1.length c3)] ?_
 refine J.seq ?_
 refine J.seq ?_
 refine J.region ?_
 refine JL.mv (.slice Aa2 g1.length c3) ?_
 refine JL.pur (.int .i64 (g1.length : Int)) (some 4) ?_
 refine JL.pur (.bool (decide (8 < (g1.length : Int)))) (some 5) ?_
 refine JL.nil ?_
 refine JQ.then_normal ?_
 refine JQ.sub [(0, .slice Aa2 g1.length c3), (5, .bool (decide (8 < (g1.length : Int))))] ?_
 rcases ite_cases H0 with ⟨h5, H0⟩ | ⟨h5, H0⟩
 · refine J.cond_true h5 ?_
   refine J.seq ?_
   refine J.region ?_
   refine JL.as (.int .i64 4) ?_
   refine JL.nil ?_
   refine JQ.then_normal ?_
   refine JQ.sub [(2, .int .i64 4)] ?_
   refine JQ.mask [] [false] ?_
   refine J.ret ?_
   refine JQ.then_ret ?_
   obtain rfl := Option.some.inj H0
   exact JQ.done' (rs := [.tmp 2]) (vs := [.int .i64 4]) [] (.inr rfl) ⟨by kernel_rfl, trivial⟩ (fun _ h => Heap.to h) ⟨rfl, rfl⟩
 · refine J.cond_false h5 ?_
   refine J.skip ?_
   refine JQ.then_normal ?_
   refine JQ.sub [(0, .slice Aa2 g1.length c3)] ?_
   refine J.seq ?_
   refine J.join (T := Bool) (G := Unit) (fun t => gain_Check.k1 t = some r) (fun t g => [(12, .bool t)]) (fun t g => []) ?_ ?_
   · refine J.region ?_
     refine JL.mv (.slice Aa2 g1.length c3) ?_
     refine JL.pur (.int .i64 (g1.length : Int)) (some 7) ?_
     refine JL.pur (.bool (decide ((g1.length : Int) = 0))) (some 8) ?_
     refine JL.mv (.bool (decide ((g1.length : Int) = 0))) ?_
     rcases ite_cases H0 with ⟨h11, H0⟩ | ⟨h11, H0⟩
     · refine JL.off 3 9 false (some 10) h11 ?_
       refine JL.off 3 9 false (some 11) h11 ?_
       refine JL.val (.bool true) (some 12) (gives_pickT h11) ?_
       refine JL.nil ?_
       refine JQ.then_normal ?_
       exact JQ.meet true () H0 (fun _ h => Heap.to (Heap.pick [] (by decide) h))
     · refine JL.on 3 9 h11 ?_
       refine JL.mv (.slice Aa2 g1.length c3) ?_
       refine JL.on 3 9 h11 ?_
       obtain ⟨t12, hc13, H0⟩ := bind_some H0
       refine JL.call [] [] [] (slices_ContainsFunc__api_Cx_api_Cx__gain_Check_1.ok g1 Aa2 c3 _ hc13) ⟨pre_any 0 (view_rd Aa2 c3 fl_Cx.kd g1 true true), trivial⟩ ?_
       rintro _ _ ⟨rfl, rfl⟩
       refine JL.val (.bool t12) (some 12) (gives_pickF h11) ?_
       refine JL.nil ?_
       refine JQ.then_normal ?_
       exact JQ.meet t12 () H0 (fun _ h => Heap.to (Heap.pick [] (by decide) h))
   · clear H0
     rintro x9 ⟨⟩ H0
     replace H0 : gain_Check.k1 x9 = some r := H0
     unfold gain_Check.k1 at H0
     refine JQ.sub [(12, .bool x9)] ?_
     refine JQ.turn (Δ' := []) (fun _ h => h.to) ?_
     rcases ite_cases H0 with ⟨h10, H0⟩ | ⟨h10, H0⟩
     · refine J.cond_true h10 ?_
       refine J.seq ?_
       refine J.region ?_
       refine JL.as (.int .i64 8) ?_
       refine JL.nil ?_
       refine JQ.then_normal ?_
       refine JQ.sub [(2, .int .i64 8)] ?_
       refine J.ret ?_
       refine JQ.then_ret ?_
       obtain rfl := Option.some.inj H0
       exact JQ.done' (rs := [.tmp 2]) (vs := [.int .i64 8]) [] (.inr rfl) ⟨by kernel_rfl, trivial⟩ (fun _ h => Heap.to h) ⟨rfl, rfl⟩
     · refine J.cond_false h10 ?_
       refine J.skip ?_
       refine JQ.then_normal ?_
       refine JQ.sub [] ?_
       refine J.seq ?_
       refine J.region ?_
       refine JL.as (.int .i64 0) ?_
       refine JL.nil ?_
       refine JQ.then_normal ?_
       refine J.ret ?_
       obtain rfl := Option.some.inj H0
       exact JQ.done' (rs := [.tmp 2]) (vs := [.int .i64 0]) [] (.inr rfl) ⟨by kernel_rfl, trivial⟩ (fun _ h => Heap.to h) ⟨rfl, rfl⟩

theorem gain_Act_1.ok (v1 : Vis) (v2 : (List Cx)) (b3 : Nat) (Aa4 : Option Addr) (c5 : Nat) (r : Bool) (H0 : gain_Act_1.f v1 v2 = some r) :
    Does Try.prog 68 [mv_47 v1, .pointer (some ⟨b3, 0, none⟩)].toArray [At.rd Aa4 c5 fl_Cx.kd v2 true] [At.box b3 28 [.slice Aa4 v2.length c5]] false (fun v Δ => v = .bool r ∧ Δ = [At.box b3 28 [.slice Aa4 v2.length c5]]) := by
 refine Does.body (vs := [mv_47 v1, .pointer (some ⟨b3, 0, none⟩)]) Try.func68 rfl ⟨.inl rfl, trivial⟩ ⟨.inr (fun _ _ _ h => h), trivial⟩ fun w S => ?_
 unfold gain_Act_1.f at H0
 refine J.seq ?_
 refine J.region ?_
 refine JL.box (cl_47 v1) fun b7 => ?_
 refine JL.as (.bool false) ?_
 refine JL.nil ?_
 refine JQ.then_normal ?_
 refine JQ.sub [(1, .pointer (some ⟨b3, 0, none⟩)), (2, .pointer (some ⟨b7, 0, none⟩))] ?_
 refine J.seq ?_
 refine J.region ?_
 refine JL.pur (.pointer (some ⟨b7, 0, none⟩)) (some 4) ?_
 refine JL.val (.int .i64 v1.I) (some 5) (yields_load_box 2 0 (holds_box b7 47 (cl_47 v1)) tyAgg_3) ?_
 refine JL.pur (.bool (decide (v1.I < 0))) (some 6) ?_
 refine JL.mv (.bool (decide (v1.I < 0))) ?_
 rcases ite_cases H0 with ⟨h8, H0⟩ | ⟨h8, H0⟩
 · refine JL.off 3 7 false (some 8) h8 ?_
   refine JL.off 3 7 false (some 9) h8 ?_
   refine JL.off 3 7 false (some 10) h8 ?_
   refine JL.off 3 7 false (some 11) h8 ?_
   refine JL.off 3 7 false (some 12) h8 ?_
   refine JL.val (.bool true) (some 13) (gives_pickT h8) ?_
   refine JL.mv (.bool true) ?_
   refine JL.off 10 14 false (some 15) rfl ?_
   refine JL.off 10 14 false (some 16) rfl ?_
   refine JL.off 10 14 false (some 17) rfl ?_
   refine JL.off 10 14 false (some 18) rfl ?_
   refine JL.off 10 14 false (some 19) rfl ?_
   refine JL.val (.bool true) (some 20) (gives_pickT rfl) ?_
   refine JL.mv (.bool true) ?_
   refine JL.off 17 21 false (some 22) rfl ?_
   refine JL.off 17 21 false (some 23) rfl ?_
   refine JL.off 17 21 false (some 24) rfl ?_
   refine JL.val (.bool true) (some 25) (gives_pickT rfl) ?_
   refine JL.mv (.bool true) ?_
   refine JL.off 22 26 false (some 27) rfl ?_
   refine JL.off 22 26 false (some 28) rfl ?_
   refine JL.off 22 26 false (some 29) rfl ?_
   refine JL.off 22 26 false (some 30) rfl ?_
   refine JL.val (.bool true) (some 31) (gives_pickT rfl) ?_
   refine JL.as (.bool true) ?_
   refine JL.nil ?_
   refine JQ.then_normal ?_
   refine JQ.sub [(3, .bool true)] ?_
   refine JQ.mask [At.rd Aa4 c5 fl_Cx.kd v2 true, At.box b3 28 [.slice Aa4 v2.length c5]] [true, true, false] ?_
   refine J.ret ?_
   obtain rfl := Option.some.inj H0
   exact JQ.done' (rs := [.tmp 3]) (vs := [.bool true]) [At.box b3 28 [.slice Aa4 v2.length c5]] (.inr rfl) ⟨by kernel_rfl, trivial⟩ (fun _ h => Heap.to (Heap.pick [1] (by decide) h)) ⟨rfl, rfl⟩
 · refine JL.on 3 7 h8 ?_
   refine JL.pur (.pointer (some ⟨b7, 1, none⟩)) (some 8) ?_
   refine JL.on 3 7 h8 ?_
   refine JL.val (.int .i64 v1.J) (some 9) (yields_load_box 2 1 (holds_box b7 47 (cl_47 v1)) tyAgg_3) ?_
   refine JL.on 3 7 h8 ?_
   refine JL.pur (.pointer (some ⟨b7, 0, none⟩)) (some 10) ?_
   refine JL.on 3 7 h8 ?_
   refine JL.val (.int .i64 v1.I) (some 11) (yields_load_box 2 0 (holds_box b7 47 (cl_47 v1)) tyAgg_3) ?_
   refine JL.on 3 7 h8 ?_
   refine JL.pur (.bool (decide (v1.J ≤ v1.I))) (some 12) ?_
   refine JL.val (.bool (decide (v1.J ≤ v1.I))) (some 13) (gives_pickF h8) ?_
   refine JL.mv (.bool (decide (v1.J ≤ v1.I))) ?_
   rcases ite_cases H0 with ⟨h9, H0⟩ | ⟨h9, H0⟩
   · refine JL.off 10 14 false (some 15) h9 ?_
     refine JL.off 10 14 false (some 16) h9 ?_
     refine JL.off 10 14 false (some 17) h9 ?_
     refine JL.off 10 14 false (some 18) h9 ?_
     refine JL.off 10 14 false (some 19) h9 ?_
     refine JL.val (.bool true) (some 20) (gives_pickT h9) ?_
     refine JL.mv (.bool true) ?_
     refine JL.off 17 21 false (some 22) rfl ?_
     refine JL.off 17 21 false (some 23) rfl ?_
     refine JL.off 17 21 false (some 24) rfl ?_
     refine JL.val (.bool true) (some 25) (gives_pickT rfl) ?_
     refine JL.mv (.bool true) ?_
     refine JL.off 22 26 false (some 27) rfl ?_
     refine JL.off 22 26 false (some 28) rfl ?_
     refine JL.off 22 26 false (some 29) rfl ?_
     refine JL.off 22 26 false (some 30) rfl ?_
     refine JL.val (.bool true) (some 31) (gives_pickT rfl) ?_
     refine JL.as (.bool true) ?_
     refine JL.nil ?_
     refine JQ.then_normal ?_
     refine JQ.sub [(3, .bool true)] ?_
     refine JQ.mask [At.rd Aa4 c5 fl_Cx.kd v2 true, At.box b3 28 [.slice Aa4 v2.length c5]] [true, true, false] ?_
     refine J.ret ?_
     obtain rfl := Option.some.inj H0
     exact JQ.done' (rs := [.tmp 3]) (vs := [.bool true]) [At.box b3 28 [.slice Aa4 v2.length c5]] (.inr rfl) ⟨by kernel_rfl, trivial⟩ (fun _ h => Heap.to (Heap.pick [1] (by decide) h)) ⟨rfl, rfl⟩
   · refine JL.on 10 14 h9 ?_
     refine JL.pur (.pointer (some ⟨b7, 1, none⟩)) (some 15) ?_
     refine JL.on 10 14 h9 ?_
     refine JL.val (.int .i64 v1.J) (some 16) (yields_load_box 2 1 (holds_box b7 47 (cl_47 v1)) tyAgg_3) ?_
     refine JL.on 10 14 h9 ?_
     refine JL.val (.slice Aa4 v2.length c5) (some 17) (yields_load_box 1 0 (holds_box b3 28 [.slice Aa4 v2.length c5]) tyAgg_28) ?_
     refine JL.on 10 14 h9 ?_
     refine JL.pur (.int .i64 (v2.length : Int)) (some 18) ?_
     refine JL.on 10 14 h9 ?_
     refine JL.pur (.bool (decide ((v2.length : Int) ≤ v1.J))) (some 19) ?_
     refine JL.val (.bool (decide ((v2.length : Int) ≤ v1.J))) (some 20) (gives_pickF h9) ?_
     refine JL.mv (.bool (decide ((v2.length : Int) ≤ v1.J))) ?_
     rcases ite_cases H0 with ⟨h10, H0⟩ | ⟨h10, H0⟩
     · refine JL.off 17 21 false (some 22) h10 ?_
       refine JL.off 17 21 false (some 23) h10 ?_
       refine JL.off 17 21 false (some 24) h10 ?_
       refine JL.val (.bool true) (some 25) (gives_pickT h10) ?_
       refine JL.mv (.bool true) ?_
       refine JL.off 22 26 false (some 27) rfl ?_
       refine JL.off 22 26 false (some 28) rfl ?_
       refine JL.off 22 26 false (some 29) rfl ?_
       refine JL.off 22 26 false (some 30) rfl ?_
       refine JL.val (.bool true) (some 31) (gives_pickT rfl) ?_
       refine JL.as (.bool true) ?_
       refine JL.nil ?_
       refine JQ.then_normal ?_
       refine JQ.sub [(3, .bool true)] ?_
       refine JQ.mask [At.rd Aa4 c5 fl_Cx.kd v2 true, At.box b3 28 [.slice Aa4 v2.length c5]] [true, true, false] ?_
       refine J.ret ?_
       obtain rfl := Option.some.inj H0
       exact JQ.done' (rs := [.tmp 3]) (vs := [.bool true]) [At.box b3 28 [.slice Aa4 v2.length c5]] (.inr rfl) ⟨by kernel_rfl, trivial⟩ (fun _ h => Heap.to (Heap.pick [1] (by decide) h)) ⟨rfl, rfl⟩
     · refine JL.on 17 21 h10 ?_
       refine JL.pur (.pointer (some ⟨b7, 5, none⟩)) (some 22) ?_
       refine JL.on 17 21 h10 ?_
       refine JL.val (.int .i64 v1.N) (some 23) (yields_load_box 2 5 (holds_box b7 47 (cl_47 v1)) tyAgg_3) ?_
       refine JL.on 17 21 h10 ?_
       refine JL.pur (.bool (decide (v1.N < 0))) (some 24) ?_
       refine JL.val (.bool (decide (v1.N < 0))) (some 25) (gives_pickF h10) ?_
       refine JL.mv (.bool (decide (v1.N < 0))) ?_
       rcases ite_cases H0 with ⟨h11, H0⟩ | ⟨h11, H0⟩
       · refine JL.off 22 26 false (some 27) h11 ?_
         refine JL.off 22 26 false (some 28) h11 ?_
         refine JL.off 22 26 false (some 29) h11 ?_
         refine JL.off 22 26 false (some 30) h11 ?_
         refine JL.val (.bool true) (some 31) (gives_pickT h11) ?_
         refine JL.as (.bool true) ?_
         refine JL.nil ?_
         refine JQ.then_normal ?_
         refine JQ.sub [(3, .bool true)] ?_
         refine JQ.mask [At.rd Aa4 c5 fl_Cx.kd v2 true, At.box b3 28 [.slice Aa4 v2.length c5]] [true, true, false] ?_
         refine J.ret ?_
         obtain rfl := Option.some.inj H0
         exact JQ.done' (rs := [.tmp 3]) (vs := [.bool true]) [At.box b3 28 [.slice Aa4 v2.length c5]] (.inr rfl) ⟨by kernel_rfl, trivial⟩ (fun _ h => Heap.to (Heap.pick [1] (by decide) h)) ⟨rfl, rfl⟩
       · refine JL.on 22 26 h11 ?_
         refine JL.pur (.pointer (some ⟨b7, 2, none⟩)) (some 27) ?_
         refine JL.on 22 26 h11 ?_
         refine JL.val (mv_23 v1.V) (some 28) (yields_load_boxes 2 2 (cl_23 v1.V) (holds_box b7 47 (cl_47 v1)) tyAgg_23 tySize_23) ?_
         refine JL.on 22 26 h11 ?_
         obtain ⟨t12, hc13, H0⟩ := bind_some H0
         refine JL.call [] [] [] (cx_Check.ok v1.V _ hc13) trivial ?_
         rintro _ _ ⟨rfl, rfl⟩
         refine JL.on 22 26 h11 ?_
         refine JL.pur (.bool (!decide (t12 = 0))) (some 30) ?_
         refine JL.val (.bool (!decide (t12 = 0))) (some 31) (gives_pickF h11) ?_
         refine JL.as (.bool (!decide (t12 = 0))) ?_
         refine JL.nil ?_
         refine JQ.then_normal ?_
         refine JQ.sub [(3, .bool (!decide (t12 = 0)))] ?_
         refine JQ.mask [At.rd Aa4 c5 fl_Cx.kd v2 true, At.box b3 28 [.slice Aa4 v2.length c5]] [true, true, false] ?_
         refine J.ret ?_
         obtain rfl := Option.some.inj H0
         exact JQ.done' (rs := [.tmp 3]) (vs := [.bool (!decide (t12 = 0))]) [At.box b3 28 [.slice Aa4 v2.length c5]] (.inr rfl) ⟨by kernel_rfl, trivial⟩ (fun _ h => Heap.to (Heap.pick [1] (by decide) h)) ⟨rfl, rfl⟩

theorem slices_IndexFunc__api_Vis_api_Vis__gain_Act_1.ok (s1 : (List Vis)) (Aa2 : Option Addr) (c3 : Nat) (v5 : (List Cx)) (b6 : Nat) (Aa7 : Option Addr) (c8 : Nat) (r : Int) (H0 : slices_IndexFunc__api_Vis_api_Vis__gain_Act_1.f s1 v5 = some r) :
    Does Try.prog 87 [.slice Aa2 s1.length c3, .func (.func 68) #[] #[.pointer (some ⟨b6, 0, none⟩)]].toArray [At.rd Aa2 c3 fl_Vis.kd s1 true, At.rd Aa7 c8 fl_Cx.kd v5 true] [At.box b6 28 [.slice Aa7 v5.length c8]] false (fun v Δ => v = .int .i64 r ∧ Δ = [At.box b6 28 [.slice Aa7 v5.length c8]]) := by
 refine Does.body (vs := [.slice Aa2 s1.length c3, .func (.func 68) #[] #[.pointer (some ⟨b6, 0, none⟩)]]) Try.func87 rfl ⟨.inl rfl, .inl rfl, trivial⟩ ⟨.inr (fun _ _ _ h => h), trivial⟩ fun w S => ?_
 unfold slices_IndexFunc__api_Vis_api_Vis__gain_Act_1.f at H0
 refine J.seq ?_
 refine J.region ?_
 refine JL.as (.int .i64 0) ?_
 refine JL.nil ?_
 refine JQ.then_normal ?_
 refine JQ.sub [(0, .slice Aa2 s1.length c3), (1, .func (.func 68) #[] #[.pointer (some ⟨b6, 0, none⟩)])] ?_
 refine J.seq ?_
 refine J.seq ?_
 refine J.region ?_
 refine JL.mv (.slice Aa2 s1.length c3) ?_
 refine JL.pur (.int .i64 (s1.length : Int)) (some 7) ?_
 refine JL.mv (.int .i64 0) ?_
 refine JL.nil ?_
 refine JQ.then_normal ?_
 refine JQ.sub [(0, .slice Aa2 s1.length c3), (1, .func (.func 68) #[] #[.pointer (some ⟨b6, 0, none⟩)]), (7, .int .i64 (s1.length : Int)), (8, .int .i64 0)] ?_
 obtain ⟨o1, hit, H0⟩ := bind_some H0
 refine J.loop (σ := Int) (τ := Unit) (G := Unit) (G' := Unit) _ o1 (fun s g => [(0, .slice Aa2 s1.length c3), (1, .func (.func 68) #[] #[.pointer (some ⟨b6, 0, none⟩)]), (7, .int .i64 (s1.length : Int)), (8, .int .i64 s)]) (fun s g => [At.rd Aa2 c3 fl_Vis.kd s1 true, At.box b6 28 [.slice Aa7 v5.length c8], At.rd Aa7 c8 fl_Cx.kd v5 true]) (fun t => slices_IndexFunc__api_Vis_api_Vis__gain_Act_1.k2 = some r) (fun t g => []) (fun t g => [At.box b6 28 [.slice Aa7 v5.length c8], At.rd Aa7 c8 fl_Cx.kd v5 true]) 0 () hit (fun _ h => Heap.to (Heap.pick [0, 2, 1] (by decide) h)) ?_ ?_
 · clear hit
   rintro x28 ⟨⟩ st1 H1 hb1 hr1
   replace H1 : slices_IndexFunc__api_Vis_api_Vis__gain_Act_1.s1 s1 v5 x28 = some st1 := H1
   unfold slices_IndexFunc__api_Vis_api_Vis__gain_Act_1.s1 at H1
   refine JQ.sub [(0, .slice Aa2 s1.length c3), (1, .func (.func 68) #[] #[.pointer (some ⟨b6, 0, none⟩)]), (7, .int .i64 (s1.length : Int)), (8, .int .i64 x28)] ?_
   refine JQ.turn (Δ' := [At.rd Aa2 c3 fl_Vis.kd s1 true, At.box b6 28 [.slice Aa7 v5.length c8], At.rd Aa7 c8 fl_Cx.kd v5 true]) (fun _ h => h.to) ?_
   refine J.seq ?_
   refine J.region ?_
   refine JL.pur (.bool (decide (x28 < (s1.length : Int)))) (some 9) ?_
   refine JL.nil ?_
   refine JQ.then_normal ?_
   refine J.seq ?_
   rcases ite_cases H1 with ⟨h37, H1⟩ | ⟨h37, H1⟩
   · refine J.cond_true h37 ?_
     refine J.skip ?_
     refine JQ.then_normal ?_
     refine JQ.sub [(0, .slice Aa2 s1.length c3), (1, .func (.func 68) #[] #[.pointer (some ⟨b6, 0, none⟩)]), (7, .int .i64 (s1.length : Int)), (8, .int .i64 x28)] ?_
     refine J.seq ?_
     refine J.block ?_
     refine J.seq ?_
     refine J.region ?_
     refine JL.mv (.int .i64 x28) ?_
     refine JL.as (.int .i64 x28) ?_
     refine JL.nil ?_
     refine JQ.then_normal ?_
     refine JQ.sub [(0, .slice Aa2 s1.length c3), (1, .func (.func 68) #[] #[.pointer (some ⟨b6, 0, none⟩)]), (5, .int .i64 x28), (7, .int .i64 (s1.length : Int)), (8, .int .i64 x28)] ?_
     refine J.seq ?_
     refine J.region ?_
     refine JL.mv (.func (.func 68) #[] #[.pointer (some ⟨b6, 0, none⟩)]) ?_
     refine JL.mv (.slice Aa2 s1.length c3) ?_
     refine JL.mv (.int .i64 x28) ?_
     obtain ⟨⟨h38, h39⟩, H1⟩ := ite_must H1
     refine JL.ixAddr 0 6 c3 .i64 (elems_rd Aa2 c3 fl_Vis.kd s1 true) Try.underlying48 tySize_47 h38 h39 fun g40 o41 hA => ?_
     subst hA
     refine JL.val (mv_47 (ix s1 x28)) (some 15) (gives_loadEl (f := fl_Vis) 0 0 x28 (elems_rd (some ⟨g40, o41, none⟩) c3 fl_Vis.kd s1 true) h38 h39 tySize_47 (.inl ⟨tyAgg_47, rfl⟩)) ?_
     obtain ⟨t42, hc43, H1⟩ := bind_some H1
     refine JL.call [] [.pointer (some ⟨b6, 0, none⟩)] [false, true] (gain_Act_1.ok (ix s1 x28) v5 b6 Aa7 c8 _ hc43) ⟨pre_any 1 (view_rd Aa7 c8 fl_Cx.kd v5 true true), trivial⟩ ?_
     rintro _ _ ⟨rfl, rfl⟩
     refine JL.nil ?_
     refine JQ.then_normal ?_
     refine JQ.sub [(0, .slice (some ⟨g40, o41, none⟩) s1.length c3), (1, .func (.func 68) #[] #[.pointer (some ⟨b6, 0, none⟩)]), (5, .int .i64 x28), (7, .int .i64 (s1.length : Int)), (8, .int .i64 x28), (16, .bool t42)] ?_
     rcases ite_cases H1 with ⟨h44, H1⟩ | ⟨h44, H1⟩
     · refine J.cond_true h44 ?_
       refine J.seq ?_
       refine J.region ?_
       refine JL.mv (.int .i64 x28) ?_
       refine JL.as (.int .i64 x28) ?_
       refine JL.nil ?_
       refine JQ.then_normal ?_
       refine JQ.sub [(4, .int .i64 x28)] ?_
       refine JQ.mask [At.rd Aa7 c8 fl_Cx.kd v5 true, At.box b6 28 [.slice Aa7 v5.length c8]] [false, true, true] ?_
       refine J.ret ?_
       refine JQ.blk_ret ?_
       refine JQ.then_ret ?_
       refine JQ.then_ret ?_
       refine JQ.blk_ret ?_
       refine JQ.met_ret ?_
       refine JQ.then_ret ?_
       rw [hr1 _ (Option.some.inj H1).symm, fin_ret] at H0
       obtain rfl := Option.some.inj H0
       exact JQ.done' (rs := [.tmp 4]) (vs := [.int .i64 x28]) [At.box b6 28 [.slice Aa7 v5.length c8]] (.inr rfl) ⟨by kernel_rfl, trivial⟩ (fun _ h => Heap.to (Heap.pick [1] (by decide) h)) ⟨rfl, rfl⟩
     · refine J.cond_false h44 ?_
       refine J.skip ?_
       refine JQ.blk_normal ?_
       refine JQ.then_normal ?_
       refine JQ.sub [(0, .slice (some ⟨g40, o41, none⟩) s1.length c3), (1, .func (.func 68) #[] #[.pointer (some ⟨b6, 0, none⟩)]), (7, .int .i64 (s1.length : Int)), (8, .int .i64 x28)] ?_
       refine J.region ?_
       refine JL.pur (.int .i64 (w64 (x28 + 1))) (some 18) ?_
       refine JL.mv (.int .i64 (w64 (x28 + 1))) ?_
       refine JL.nil ?_
       refine JQ.then_normal ?_
       exact JQ.again (w64 (x28 + 1)) () (Option.some.inj H1).symm (fun _ h => Heap.to (Heap.pick [0, 2, 1] (by decide) h))
   · refine J.cond_false h37 ?_
     refine J.exit ?_
     refine JQ.then_exit ?_
     refine JQ.then_exit ?_
     refine JQ.blk_exit ?_
     rw [hb1 _ (Option.some.inj H1).symm, fin_brk] at H0
     exact JQ.met () () H0 (fun _ h => Heap.to (Heap.pick [1, 2] (by decide) h))
 · clear hit H0
   rintro ⟨⟩ ⟨⟩ H0
   replace H0 : slices_IndexFunc__api_Vis_api_Vis__gain_Act_1.k2 = some r := H0
   unfold slices_IndexFunc__api_Vis_api_Vis__gain_Act_1.k2 at H0
   refine JQ.sub [] ?_
   refine JQ.turn (Δ' := [At.box b6 28 [.slice Aa7 v5.length c8], At.rd Aa7 c8 fl_Cx.kd v5 true]) (fun _ h => h.to) ?_
   refine JQ.then_normal ?_
   refine J.seq ?_
   refine J.region ?_
   refine JL.as (.int .i64 (-1)) ?_
   refine JL.nil ?_
   refine JQ.then_normal ?_
   refine J.ret ?_
   obtain rfl := Option.some.inj H0
   exact JQ.done' (rs := [.tmp 4]) (vs := [.int .i64 (-1)]) [At.box b6 28 [.slice Aa7 v5.length c8]] (.inr rfl) ⟨by kernel_rfl, trivial⟩ (fun _ h => Heap.to (Heap.pick [0] (by decide) h)) ⟨rfl, rfl⟩

theorem slices_ContainsFunc__api_Vis_api_Vis__gain_Act_1.ok (s1 : (List Vis)) (Aa2 : Option Addr) (c3 : Nat) (v5 : (List Cx)) (b6 : Nat) (Aa7 : Option Addr) (c8 : Nat) (r : Bool) (H0 : slices_ContainsFunc__api_Vis_api_Vis__gain_Act_1.f s1 v5 = some r) :
    Does Try.prog 69 [.slice Aa2 s1.length c3, .func (.func 68) #[] #[.pointer (some ⟨b6, 0, none⟩)]].toArray [At.rd Aa2 c3 fl_Vis.kd s1 true, At.rd Aa7 c8 fl_Cx.kd v5 true] [At.box b6 28 [.slice Aa7 v5.length c8]] false (fun v Δ => v = .bool r ∧ Δ = [At.box b6 28 [.slice Aa7 v5.length c8]]) := by
 refine Does.body (vs := [.slice Aa2 s1.length c3, .func (.func 68) #[] #[.pointer (some ⟨b6, 0, none⟩)]]) Try.func69 rfl ⟨.inl rfl, .inl rfl, trivial⟩ ⟨.inr (fun _ _ _ h => h), trivial⟩ fun w S => ?_
 unfold slices_ContainsFunc__api_Vis_api_Vis__gain_Act_1.f at H0
 refine J.seq ?_
 refine J.region ?_
 refine JL.as (.bool false) ?_
 refine JL.nil ?_
 refine JQ.then_normal ?_
 refine JQ.sub [(0, .slice Aa2 s1.length c3), (1, .func (.func 68) #[] #[.pointer (some ⟨b6, 0, none⟩)])] ?_
 refine J.seq ?_
 refine J.region ?_
 refine JL.mv (.slice Aa2 s1.length c3) ?_
 refine JL.mv (.func (.func 68) #[] #[.pointer (some ⟨b6, 0, none⟩)]) ?_
 obtain ⟨t10, hc11, H0⟩ := bind_some H0
 refine JL.call [] [] [false, false, true] (slices_IndexFunc__api_Vis_api_Vis__gain_Act_1.ok s1 Aa2 c3 v5 b6 Aa7 c8 _ hc11) ⟨pre_any 0 (view_rd Aa2 c3 fl_Vis.kd s1 true true), ⟨pre_any 1 (view_rd Aa7 c8 fl_Cx.kd v5 true true), trivial⟩⟩ ?_
 rintro _ _ ⟨rfl, rfl⟩
 refine JL.pur (.bool (decide (0 ≤ t10))) (some 8) ?_
 refine JL.as (.bool (decide (0 ≤ t10))) ?_
 refine JL.nil ?_
 refine JQ.then_normal ?_
 refine JQ.sub [(4, .bool (decide (0 ≤ t10)))] ?_
 refine JQ.mask [At.rd Aa7 c8 fl_Cx.kd v5 true, At.box b6 28 [.slice Aa7 v5.length c8]] [false, true, true] ?_
 refine J.ret ?_
 obtain rfl := Option.some.inj H0
 exact JQ.done' (rs := [.tmp 4]) (vs := [.bool (decide (0 ≤ t10))]) [At.box b6 28 [.slice Aa7 v5.length c8]] (.inr rfl) ⟨by kernel_rfl, trivial⟩ (fun _ h => Heap.to (Heap.pick [1] (by decide) h)) ⟨rfl, rfl⟩

theorem gain_times.ok (a1 : Cx) (b2 : Cx) (r : (Cx × Int)) (H0 : gain_times.f a1 b2 = some r) :
    Does Try.prog 72 [mv_23 a1, mv_23 b2].toArray [] [] false (fun v Δ => v = .tuple #[mv_23 r.1, .int .i64 r.2] ∧ Δ = []) := by
 refine Does.body (vs := [mv_23 a1, mv_23 b2]) Try.func72 rfl trivial trivial fun w S => ?_
 unfold gain_times.f at H0
 refine J.seq ?_
 refine J.region ?_
 refine JL.box (cl_23 a1) fun b3 => ?_
 refine JL.box (cl_23 b2) fun b4 => ?_
 refine JL.alloc (cl_23 zv_23) fun b5 => ?_
 refine JL.as (.int .i64 0) ?_
 refine JL.nil ?_
 refine JQ.then_normal ?_
 refine JQ.sub [(2, .pointer (some ⟨b3, 0, none⟩)), (3, .pointer (some ⟨b4, 0, none⟩)), (4, .pointer (some ⟨b5, 0, none⟩))] ?_
 refine J.seq ?_
 refine J.region ?_
 refine JL.pur (.pointer (some ⟨b4, 1, none⟩)) (some 6) ?_
 refine JL.val (.int .i64 b2.Im) (some 7) (yields_load_box 1 1 (holds_box b4 23 (cl_23 b2)) tyAgg_2) ?_
 refine JL.pur (.int .i64 (w64 (0 - b2.Im))) (some 8) ?_
 refine JL.pur (.pointer (some ⟨b4, 1, none⟩)) (some 9) ?_
 refine JL.store 1 b4 1 23 (cl_23 b2) [.int .i64 b2.Re, .int .i64 (w64 (0 - b2.Im)), .int .i64 b2.Den] tySize_2 ?_
 refine JL.nil ?_
 refine JQ.then_normal ?_
 refine JQ.sub [(2, .pointer (some ⟨b3, 0, none⟩)), (3, .pointer (some ⟨b4, 0, none⟩)), (4, .pointer (some ⟨b5, 0, none⟩))] ?_
 refine J.seq ?_
 refine J.region ?_
 refine JL.val (mv_23 a1) (some 10) (yields_load_boxes 0 0 (cl_23 a1) (holds_box b3 23 (cl_23 a1)) tyAgg_23 tySize_23) ?_
 refine JL.val (.agg #[.int .i64 b2.Re, .int .i64 (w64 (0 - b2.Im)), .int .i64 b2.Den]) (some 11) (yields_load_boxes 1 0 [.int .i64 b2.Re, .int .i64 (w64 (0 - b2.Im)), .int .i64 b2.Den] (holds_box b4 23 [.int .i64 b2.Re, .int .i64 (w64 (0 - b2.Im)), .int .i64 b2.Den]) tyAgg_23 tySize_23) ?_
 obtain ⟨t6, hc7, H0⟩ := bind_some H0
 refine JL.call [] [] [] (cx_Mul.ok a1 (⟨b2.Re, (w64 (0 - b2.Im)), b2.Den⟩ : Cx) _ hc7) trivial ?_
 rintro _ _ ⟨rfl, rfl⟩
 refine JL.pur (mv_23 t6.1) (some 13) ?_
 refine JL.pur (.int .i64 t6.2) (some 14) ?_
 refine JL.store 2 b5 0 23 (cl_23 zv_23) (cl_23 t6.1) tySize_23 ?_
 refine JL.as (.int .i64 t6.2) ?_
 refine JL.nil ?_
 refine JQ.then_normal ?_
 refine JQ.sub [(4, .pointer (some ⟨b5, 0, none⟩)), (5, .int .i64 t6.2)] ?_
 refine JQ.mask [At.box b5 23 (cl_23 t6.1)] [false, false, true] ?_
 refine J.ret ?_
 obtain rfl := Option.some.inj H0
 exact JQ.done' (rs := [.cell 4 23, .tmp 5]) (vs := [.agg #[.int .i64 t6.1.Re, .int .i64 t6.1.Im, .int .i64 t6.1.Den], .int .i64 t6.2]) [] (.inr rfl) ⟨⟨b5, 0, _, _, by kernel_rfl, by kernel_rfl, holds_box b5 23 (cl_23 t6.1), .inl ⟨tyAgg_23, tySize_23, rfl⟩⟩, by kernel_rfl, trivial⟩ (fun _ h => Heap.to (Heap.pick [] (by decide) h)) ⟨rfl, rfl⟩

theorem gain_Act_2.ok (a1 : Int) (v2 : Vis) (v3 : (List Cx)) (b4 : Nat) (Aa5 : Option Addr) (c6 : Nat) (r : (Vis × Int)) (H0 : gain_Act_2.f a1 v2 v3 = some r) :
    Does Try.prog 71 [.int .i64 a1, mv_47 v2, .pointer (some ⟨b4, 0, none⟩)].toArray [At.rd Aa5 c6 fl_Cx.kd v3 true] [At.box b4 28 [.slice Aa5 v3.length c6]] false (fun v Δ => v = .tuple #[mv_47 r.1, .int .i64 r.2] ∧ Δ = [At.box b4 28 [.slice Aa5 v3.length c6]]) := by
 refine Does.body (vs := [.int .i64 a1, mv_47 v2, .pointer (some ⟨b4, 0, none⟩)]) Try.func71 rfl ⟨.inl rfl, trivial⟩ ⟨.inr (fun _ _ _ h => h), trivial⟩ fun w S => ?_
 unfold gain_Act_2.f at H0
 refine J.seq ?_
 refine J.region ?_
 refine JL.box (cl_47 v2) fun b8 => ?_
 refine JL.alloc (cl_47 zv_47) fun b9 => ?_
 refine JL.as (.int .i64 0) ?_
 refine JL.nil ?_
 refine JQ.then_normal ?_
 refine JQ.sub [(2, .pointer (some ⟨b4, 0, none⟩)), (4, .pointer (some ⟨b8, 0, none⟩)), (5, .pointer (some ⟨b9, 0, none⟩))] ?_
 refine J.join (T := (Cx × Int)) (G := Nat) (fun t => gain_Act_2.k1 v2 v3 t.1 t.2 = some r) (fun t g => [(2, .pointer (some ⟨b4, 0, none⟩)), (4, .pointer (some ⟨b8, 0, none⟩)), (5, .pointer (some ⟨b9, 0, none⟩)), (7, .pointer (some ⟨g, 0, none⟩)), (8, .int .i64 t.2)]) (fun t g => [At.box b4 28 [.slice Aa5 v3.length c6], At.rd Aa5 c6 fl_Cx.kd v3 true, At.box b8 47 (cl_47 v2), At.box b9 47 (cl_47 zv_47), At.box g 23 (cl_23 t.1)]) ?_ ?_
 · obtain ⟨⟨h48, h49⟩, H0⟩ := ite_must H0
   obtain ⟨t52, hc53, H0⟩ := bind_some H0
   refine JQ.openA 0 (elems_rd Aa5 c6 fl_Cx.kd v3 true) h48 h49 fun g55 o56 hA => ?_
   subst hA
   refine JY.start [12] (ba 14 0) ?_
   refine JY.take (hi := rfl) 0 (ba 14 1) (.slice (some ⟨g55, o56, none⟩) v3.length c6) (some 10) [true, true, true, true] want (yields_load_box 1 0 (holds_box b4 28 [.slice (some ⟨g55, o56, none⟩) v3.length c6]) tyAgg_28) ?_
   refine JY.pur (hi := rfl) 1 (ba 14 3) (.pointer (some ⟨b8, 0, none⟩)) (some 11) want ?_
   refine JY.take (hi := rfl) 2 (ba 14 7) (.int .i64 v2.I) (some 12) [true, true, true, true] want (yields_load_box 2 0 (holds_box b8 47 (cl_47 v2)) tyAgg_3) ?_
   obtain ⟨h57, h58⟩ : 0 ≤ v2.I ∧ v2.I < (v3.length : Int) := ⟨h48, h49⟩
   refine JY.puw (hi := rfl) 3 (ba 14 15) (.pointer (some ⟨g55, o56 + v2.I.toNat * 3, none⟩)) (some 13) want (givesW_ixSl (g := g55) (o := o56) (n := v3.length) (i := v2.I) 3 c6 .i64 Try.underlying28 tySize_23 h57 h58) ?_
   refine JY.take (hi := rfl) 4 (ba 14 31) (mv_23 (ix v3 v2.I)) (some 14) [true, true, true, true] want (gives_loadEl (f := fl_Cx) 0 0 v2.I (elems_rd (some ⟨g55, o56, none⟩) c6 fl_Cx.kd v3 true) h57 h58 tySize_23 (.inl ⟨tyAgg_23, rfl⟩)) ?_
   refine JY.pur (hi := rfl) 5 (ba 14 63) (.pointer (some ⟨b8, 2, none⟩)) (some 15) want ?_
   refine JY.take (hi := rfl) 6 (ba 14 127) (mv_23 v2.V) (some 16) [true, true, true, true] want (yields_load_boxes 2 2 (cl_23 v2.V) (holds_box b8 47 (cl_47 v2)) tyAgg_23 tySize_23) ?_
   refine JY.all [7, 11] ⟨⟨_, rfl, ?_⟩, ⟨_, rfl, ?_⟩, trivial⟩
   · refine JL.call [] [] [] (cx_Mul.ok (ix v3 v2.I) v2.V _ hc53) trivial ?_
     rintro _ _ ⟨rfl, rfl⟩
     refine JL.nil ?_
     refine JY.ran (ba 14 255) [true, true, true, true] ?_
     refine JY.pur (hi := rfl) 8 (ba 14 511) (.tuple #[mv_23 t52.1, .int .i64 t52.2]) (some 9) want ?_
     refine JY.pur (hi := rfl) 9 (ba 14 1023) (mv_23 t52.1) (some 18) want ?_
     refine JY.pur (hi := rfl) 10 (ba 14 2047) (.int .i64 t52.2) (some 19) want ?_
     refine JY.all [11] ⟨⟨_, rfl, ?_⟩, trivial⟩
     refine JL.alloc (cl_23 zv_23) fun b63 => ?_
     refine JL.nil ?_
     refine JY.ran (ba 14 4095) [true, true, true, true, false] ?_
     refine JY.all [12] ⟨⟨_, rfl, ?_⟩, trivial⟩
     refine JL.store 4 b63 0 23 (cl_23 zv_23) (cl_23 t52.1) tySize_23 ?_
     refine JL.nil ?_
     refine JY.ranD (ba 14 8191) ?_
     refine JY.pur (hi := rfl) 13 (ba 14 16383) (.int .i64 t52.2) (some 8) want ?_
     refine JY.done ?_
     refine JQ.then_normal ?_
     exact JQ.meet (t52.1, t52.2) b63 H0 (fun _ h => Heap.to (Heap.pick [1, 0, 2, 3, 4] (by decide) h))
   · refine JL.alloc (cl_23 zv_23) fun b64 => ?_
     refine JL.nil ?_
     refine JY.ran (ba 14 2175) [true, true, true, true, false] ?_
     refine JY.all [7] ⟨⟨_, rfl, ?_⟩, trivial⟩
     refine JL.call [] [] [] (cx_Mul.ok (ix v3 v2.I) v2.V _ hc53) trivial ?_
     rintro _ _ ⟨rfl, rfl⟩
     refine JL.nil ?_
     refine JY.ran (ba 14 2303) [true, true, true, true, false] ?_
     refine JY.pur (hi := rfl) 8 (ba 14 2559) (.tuple #[mv_23 t52.1, .int .i64 t52.2]) (some 9) want ?_
     refine JY.pur (hi := rfl) 9 (ba 14 3071) (mv_23 t52.1) (some 18) want ?_
     refine JY.pur (hi := rfl) 10 (ba 14 4095) (.int .i64 t52.2) (some 19) want ?_
     refine JY.all [12] ⟨⟨_, rfl, ?_⟩, trivial⟩
     refine JL.store 4 b64 0 23 (cl_23 zv_23) (cl_23 t52.1) tySize_23 ?_
     refine JL.nil ?_
     refine JY.ranD (ba 14 8191) ?_
     refine JY.pur (hi := rfl) 13 (ba 14 16383) (.int .i64 t52.2) (some 8) want ?_
     refine JY.done ?_
     refine JQ.then_normal ?_
     exact JQ.meet (t52.1, t52.2) b64 H0 (fun _ h => Heap.to (Heap.pick [1, 0, 2, 3, 4] (by decide) h))
 · clear H0
   rintro ⟨p31, e32⟩ b29 H0
   replace H0 : gain_Act_2.k1 v2 v3 p31 e32 = some r := H0
   unfold gain_Act_2.k1 at H0
   refine JQ.sub [(2, .pointer (some ⟨b4, 0, none⟩)), (4, .pointer (some ⟨b8, 0, none⟩)), (5, .pointer (some ⟨b9, 0, none⟩)), (7, .pointer (some ⟨b29, 0, none⟩)), (8, .int .i64 e32)] ?_
   refine JQ.turn (Δ' := [At.box b4 28 [.slice Aa5 v3.length c6], At.rd Aa5 c6 fl_Cx.kd v3 true, At.box b8 47 (cl_47 v2), At.box b9 47 (cl_47 zv_47), At.box b29 23 (cl_23 p31)]) (fun _ h => h.to) ?_
   refine J.seq ?_
   refine J.seq ?_
   refine J.region ?_
   refine JL.mv (.int .i64 e32) ?_
   refine JL.pur (.bool (!decide (e32 = 0))) (some 21) ?_
   refine JL.nil ?_
   refine JQ.then_normal ?_
   refine JQ.sub [(2, .pointer (some ⟨b4, 0, none⟩)), (4, .pointer (some ⟨b8, 0, none⟩)), (5, .pointer (some ⟨b9, 0, none⟩)), (7, .pointer (some ⟨b29, 0, none⟩)), (8, .int .i64 e32), (21, .bool (!decide (e32 = 0)))] ?_
   rcases ite_cases H0 with ⟨h33, H0⟩ | ⟨h33, H0⟩
   · refine J.cond_true h33 ?_
     refine J.seq ?_
     refine J.region ?_
     refine JL.val (mv_47 v2) (some 22) (yields_load_boxes 2 0 (cl_47 v2) (holds_box b8 47 (cl_47 v2)) tyAgg_47 tySize_47) ?_
     refine JL.mv (.int .i64 e32) ?_
     refine JL.store 3 b9 0 47 (cl_47 zv_47) (cl_47 v2) tySize_47 ?_
     refine JL.as (.int .i64 e32) ?_
     refine JL.nil ?_
     refine JQ.then_normal ?_
     refine JQ.sub [(5, .pointer (some ⟨b9, 0, none⟩)), (6, .int .i64 e32)] ?_
     refine JQ.mask [At.box b4 28 [.slice Aa5 v3.length c6], At.rd Aa5 c6 fl_Cx.kd v3 true, At.box b9 47 (cl_47 v2)] [true, true, false, true, false] ?_
     refine J.ret ?_
     refine JQ.then_ret ?_
     obtain rfl := Option.some.inj H0
     exact JQ.done' (rs := [.cell 5 47, .tmp 6]) (vs := [.agg #[.int .i64 v2.I, .int .i64 v2.J, .int .i64 v2.V.Re, .int .i64 v2.V.Im, .int .i64 v2.V.Den, .int .i64 v2.N], .int .i64 e32]) [At.box b4 28 [.slice Aa5 v3.length c6]] (.inr rfl) ⟨⟨b9, 2, _, _, by kernel_rfl, by kernel_rfl, holds_box b9 47 (cl_47 v2), .inl ⟨tyAgg_47, tySize_47, rfl⟩⟩, by kernel_rfl, trivial⟩ (fun _ h => Heap.to (Heap.pick [0] (by decide) h)) ⟨rfl, rfl⟩
   · refine J.cond_false h33 ?_
     refine J.skip ?_
     refine JQ.then_normal ?_
     refine JQ.sub [(2, .pointer (some ⟨b4, 0, none⟩)), (4, .pointer (some ⟨b8, 0, none⟩)), (5, .pointer (some ⟨b9, 0, none⟩)), (7, .pointer (some ⟨b29, 0, none⟩))] ?_
     refine J.seq ?_
     obtain ⟨⟨h34, h35⟩, H0⟩ := ite_must H0
     obtain ⟨t38, hc39, H0⟩ := bind_some H0
     refine JQ.openA 1 (elems_rd Aa5 c6 fl_Cx.kd v3 true) h34 h35 fun g40 o41 hA => ?_
     subst hA
     refine JY.start [11] (ba 13 0) ?_
     refine JY.take (hi := rfl) 0 (ba 13 1) (mv_23 p31) (some 25) [true, true, true, true, true] want (yields_load_boxes 4 0 (cl_23 p31) (holds_box b29 23 (cl_23 p31)) tyAgg_23 tySize_23) ?_
     refine JY.take (hi := rfl) 1 (ba 13 3) (.slice (some ⟨g40, o41, none⟩) v3.length c6) (some 26) [true, true, true, true, true] want (yields_load_box 0 0 (holds_box b4 28 [.slice (some ⟨g40, o41, none⟩) v3.length c6]) tyAgg_28) ?_
     refine JY.pur (hi := rfl) 2 (ba 13 7) (.pointer (some ⟨b8, 1, none⟩)) (some 27) want ?_
     refine JY.take (hi := rfl) 3 (ba 13 15) (.int .i64 v2.J) (some 28) [true, true, true, true, true] want (yields_load_box 2 1 (holds_box b8 47 (cl_47 v2)) tyAgg_3) ?_
     obtain ⟨h42, h43⟩ : 0 ≤ v2.J ∧ v2.J < (v3.length : Int) := ⟨h34, h35⟩
     refine JY.puw (hi := rfl) 4 (ba 13 31) (.pointer (some ⟨g40, o41 + v2.J.toNat * 3, none⟩)) (some 29) want (givesW_ixSl (g := g40) (o := o41) (n := v3.length) (i := v2.J) 3 c6 .i64 Try.underlying28 tySize_23 h42 h43) ?_
     refine JY.take (hi := rfl) 5 (ba 13 63) (mv_23 (ix v3 v2.J)) (some 30) [true, true, true, true, true] want (gives_loadEl (f := fl_Cx) 1 0 v2.J (elems_rd (some ⟨g40, o41, none⟩) c6 fl_Cx.kd v3 true) h42 h43 tySize_23 (.inl ⟨tyAgg_23, rfl⟩)) ?_
     refine JY.all [6] ⟨⟨_, rfl, ?_⟩, trivial⟩
     refine JL.call [] [] [] (gain_times.ok p31 (ix v3 v2.J) _ hc39) trivial ?_
     rintro _ _ ⟨rfl, rfl⟩
     refine JL.nil ?_
     refine JY.ran (ba 13 127) [true, true, true, true, true] ?_
     refine JY.pur (hi := rfl) 7 (ba 13 255) (.tuple #[mv_23 t38.1, .int .i64 t38.2]) (some 24) want ?_
     refine JY.pur (hi := rfl) 8 (ba 13 511) (mv_23 t38.1) (some 32) want ?_
     refine JY.pur (hi := rfl) 9 (ba 13 1023) (.int .i64 t38.2) (some 33) want ?_
     refine JY.pur (hi := rfl) 10 (ba 13 2047) (.pointer (some ⟨b8, 2, none⟩)) (some 34) want ?_
     refine JY.all [11] ⟨⟨_, rfl, ?_⟩, trivial⟩
     refine JL.store 2 b8 2 47 (cl_47 v2) [.int .i64 v2.I, .int .i64 v2.J, .int .i64 t38.1.Re, .int .i64 t38.1.Im, .int .i64 t38.1.Den, .int .i64 v2.N] tySize_23 ?_
     refine JL.nil ?_
     refine JY.ranD (ba 13 4095) ?_
     refine JY.pur (hi := rfl) 12 (ba 13 8191) (.int .i64 t38.2) (some 8) want ?_
     refine JY.done ?_
     refine JQ.then_normal ?_
     refine JQ.sub [(4, .pointer (some ⟨b8, 0, none⟩)), (5, .pointer (some ⟨b9, 0, none⟩)), (8, .int .i64 t38.2)] ?_
     refine JQ.mask [At.box b4 28 [.slice (some ⟨g40, o41, none⟩) v3.length c6], At.rd (some ⟨g40, o41, none⟩) c6 fl_Cx.kd v3 true, At.box b8 47 [.int .i64 v2.I, .int .i64 v2.J, .int .i64 t38.1.Re, .int .i64 t38.1.Im, .int .i64 t38.1.Den, .int .i64 v2.N], At.box b9 47 (cl_47 zv_47)] [true, true, true, true, false] ?_
     refine J.seq ?_
     refine J.region ?_
     refine JL.val (.agg #[.int .i64 v2.I, .int .i64 v2.J, .int .i64 t38.1.Re, .int .i64 t38.1.Im, .int .i64 t38.1.Den, .int .i64 v2.N]) (some 35) (yields_load_boxes 2 0 [.int .i64 v2.I, .int .i64 v2.J, .int .i64 t38.1.Re, .int .i64 t38.1.Im, .int .i64 t38.1.Den, .int .i64 v2.N] (holds_box b8 47 [.int .i64 v2.I, .int .i64 v2.J, .int .i64 t38.1.Re, .int .i64 t38.1.Im, .int .i64 t38.1.Den, .int .i64 v2.N]) tyAgg_47 tySize_47) ?_
     refine JL.mv (.int .i64 t38.2) ?_
     refine JL.store 3 b9 0 47 (cl_47 zv_47) [.int .i64 v2.I, .int .i64 v2.J, .int .i64 t38.1.Re, .int .i64 t38.1.Im, .int .i64 t38.1.Den, .int .i64 v2.N] tySize_47 ?_
     refine JL.as (.int .i64 t38.2) ?_
     refine JL.nil ?_
     refine JQ.then_normal ?_
     refine JQ.sub [(5, .pointer (some ⟨b9, 0, none⟩)), (6, .int .i64 t38.2)] ?_
     refine JQ.mask [At.box b4 28 [.slice (some ⟨g40, o41, none⟩) v3.length c6], At.rd (some ⟨g40, o41, none⟩) c6 fl_Cx.kd v3 true, At.box b9 47 [.int .i64 v2.I, .int .i64 v2.J, .int .i64 t38.1.Re, .int .i64 t38.1.Im, .int .i64 t38.1.Den, .int .i64 v2.N]] [true, true, false, true] ?_
     refine J.ret ?_
     obtain rfl := Option.some.inj H0
     exact JQ.done' (rs := [.cell 5 47, .tmp 6]) (vs := [.agg #[.int .i64 v2.I, .int .i64 v2.J, .int .i64 t38.1.Re, .int .i64 t38.1.Im, .int .i64 t38.1.Den, .int .i64 v2.N], .int .i64 t38.2]) [At.box b4 28 [.slice (some ⟨g40, o41, none⟩) v3.length c6]] (.inr rfl) ⟨⟨b9, 2, _, _, by kernel_rfl, by kernel_rfl, holds_box b9 47 [.int .i64 v2.I, .int .i64 v2.J, .int .i64 t38.1.Re, .int .i64 t38.1.Im, .int .i64 t38.1.Den, .int .i64 v2.N], .inl ⟨tyAgg_47, tySize_47, rfl⟩⟩, by kernel_rfl, trivial⟩ (fun _ h => Heap.to (Heap.pick [0] (by decide) h)) ⟨rfl, rfl⟩

theorem gain_made__api_Vis_api_Vis__gain_Act_2.ok (l1 : (List Vis)) (Aa2 : Option Addr) (c3 : Nat) (v5 : (List Cx)) (b6 : Nat) (Aa7 : Option Addr) (c8 : Nat) (r : ((List Vis) × Int)) (H0 : gain_made__api_Vis_api_Vis__gain_Act_2.f l1 v5 = some r) :
    Does Try.prog 70 [.slice Aa2 l1.length c3, .func (.func 71) #[] #[.pointer (some ⟨b6, 0, none⟩)]].toArray [At.rd Aa2 c3 fl_Vis.kd l1 true, At.rd Aa7 c8 fl_Cx.kd v5 true] [At.box b6 28 [.slice Aa7 v5.length c8]] false (fun v Δ => ∃ A1001 : Option Addr, ∃ c1001 : Nat, v = .tuple #[.slice A1001 r.1.length c1001, .int .i64 r.2] ∧ Δ = [At.box b6 28 [.slice Aa7 v5.length c8], At.row A1001 c1001 47 fl_Vis.kd r.1 false]) := by
 refine Does.body (vs := [.slice Aa2 l1.length c3, .func (.func 71) #[] #[.pointer (some ⟨b6, 0, none⟩)]]) Try.func70 rfl ⟨.inl rfl, .inl rfl, trivial⟩ ⟨.inr (fun _ _ _ h => h), trivial⟩ fun w S => ?_
 unfold gain_made__api_Vis_api_Vis__gain_Act_2.f at H0
 refine J.seq ?_
 refine J.region ?_
 refine JL.as (.slice none 0 0) ?_
 refine JL.as (.int .i64 0) ?_
 refine JL.nil ?_
 refine JQ.then_normal ?_
 refine JQ.sub [(0, .slice Aa2 l1.length c3), (1, .func (.func 71) #[] #[.pointer (some ⟨b6, 0, none⟩)])] ?_
 refine J.seq ?_
 refine J.region ?_
 refine JL.as (.slice none 0 0) ?_
 refine JL.nil ?_
 refine JQ.then_normal ?_
 refine J.seq ?_
 refine J.seq ?_
 refine J.region ?_
 refine JL.mv (.slice Aa2 l1.length c3) ?_
 refine JL.pur (.int .i64 (l1.length : Int)) (some 12) ?_
 refine JL.mv (.int .i64 0) ?_
 refine JL.nil ?_
 refine JQ.then_normal ?_
 refine JQ.sub [(1, .func (.func 71) #[] #[.pointer (some ⟨b6, 0, none⟩)]), (6, .slice none 0 0), (11, .slice Aa2 l1.length c3), (12, .int .i64 (l1.length : Int)), (13, .int .i64 0)] ?_
 obtain ⟨o1, hit, H0⟩ := bind_some H0
 refine J.loop (σ := ((List Vis) × Int)) (τ := List Vis) (G := ((Option Addr) × Nat)) (G' := ((Option Addr) × Nat)) _ o1 (fun s g => [(1, .func (.func 71) #[] #[.pointer (some ⟨b6, 0, none⟩)]), (6, .slice g.1 s.1.length g.2), (11, .slice Aa2 l1.length c3), (12, .int .i64 (l1.length : Int)), (13, .int .i64 s.2)]) (fun s g => [At.box b6 28 [.slice Aa7 v5.length c8], At.rd Aa7 c8 fl_Cx.kd v5 true, At.row g.1 g.2 47 fl_Vis.kd s.1 false, At.rd Aa2 c3 fl_Vis.kd l1 true]) (fun t => gain_made__api_Vis_api_Vis__gain_Act_2.k2 t = some r) (fun t g => [(6, .slice g.1 t.length g.2)]) (fun t g => [At.row g.1 g.2 47 fl_Vis.kd t false, At.box b6 28 [.slice Aa7 v5.length c8], At.rd Aa7 c8 fl_Cx.kd v5 true]) ([], 0) (none, 0) hit (fun _ h => Heap.to (Heap.pick [2, 1, 3, 0] (by decide) (Heap.addRow0 (α := Vis) 47 fl_Vis.kd false h))) ?_ ?_
 · clear hit
   rintro ⟨out49, x53⟩ ⟨Aa50, c51⟩ st1 H1 hb1 hr1
   replace H1 : gain_made__api_Vis_api_Vis__gain_Act_2.s1 l1 v5 out49 x53 = some st1 := H1
   unfold gain_made__api_Vis_api_Vis__gain_Act_2.s1 at H1
   refine JQ.sub [(1, .func (.func 71) #[] #[.pointer (some ⟨b6, 0, none⟩)]), (6, .slice Aa50 out49.length c51), (11, .slice Aa2 l1.length c3), (12, .int .i64 (l1.length : Int)), (13, .int .i64 x53)] ?_
   refine JQ.turn (Δ' := [At.box b6 28 [.slice Aa7 v5.length c8], At.rd Aa7 c8 fl_Cx.kd v5 true, At.row Aa50 c51 47 fl_Vis.kd out49 false, At.rd Aa2 c3 fl_Vis.kd l1 true]) (fun _ h => h.to) ?_
   refine J.seq ?_
   refine J.region ?_
   refine JL.pur (.bool (decide (x53 < (l1.length : Int)))) (some 14) ?_
   refine JL.nil ?_
   refine JQ.then_normal ?_
   refine J.seq ?_
   rcases ite_cases H1 with ⟨h72, H1⟩ | ⟨h72, H1⟩
   · refine J.cond_true h72 ?_
     refine J.skip ?_
     refine JQ.then_normal ?_
     refine JQ.sub [(1, .func (.func 71) #[] #[.pointer (some ⟨b6, 0, none⟩)]), (6, .slice Aa50 out49.length c51), (11, .slice Aa2 l1.length c3), (12, .int .i64 (l1.length : Int)), (13, .int .i64 x53)] ?_
     refine J.seq ?_
     refine J.block ?_
     refine J.seq ?_
     refine J.region ?_
     refine JL.mv (.int .i64 x53) ?_
     obtain ⟨⟨h73, h74⟩, H1⟩ := ite_must H1
     refine JL.ixAddr 3 6 c3 .i64 (elems_rd Aa2 c3 fl_Vis.kd l1 true) Try.underlying48 tySize_47 h73 h74 fun g75 o76 hA => ?_
     subst hA
     refine JL.val (mv_47 (ix l1 x53)) (some 17) (gives_loadEl (f := fl_Vis) 3 0 x53 (elems_rd (some ⟨g75, o76, none⟩) c3 fl_Vis.kd l1 true) h73 h74 tySize_47 (.inl ⟨tyAgg_47, rfl⟩)) ?_
     refine JL.alloc (cl_47 zv_47) fun b77 => ?_
     refine JL.as (.int .i64 x53) ?_
     refine JL.store 4 b77 0 47 (cl_47 zv_47) (cl_47 (ix l1 x53)) tySize_47 ?_
     refine JL.nil ?_
     refine JQ.then_normal ?_
     refine JQ.sub [(1, .func (.func 71) #[] #[.pointer (some ⟨b6, 0, none⟩)]), (6, .slice Aa50 out49.length c51), (7, .int .i64 x53), (8, .pointer (some ⟨b77, 0, none⟩)), (11, .slice (some ⟨g75, o76, none⟩) l1.length c3), (12, .int .i64 (l1.length : Int)), (13, .int .i64 x53)] ?_
     refine J.seq ?_
     refine J.region ?_
     refine JL.mv (.func (.func 71) #[] #[.pointer (some ⟨b6, 0, none⟩)]) ?_
     refine JL.mv (.int .i64 x53) ?_
     refine JL.val (mv_47 (ix l1 x53)) (some 21) (yields_load_boxes 4 0 (cl_47 (ix l1 x53)) (holds_box b77 47 (cl_47 (ix l1 x53))) tyAgg_47 tySize_47) ?_
     obtain ⟨t78, hc79, H1⟩ := bind_some H1
     refine JL.call [] [.pointer (some ⟨b6, 0, none⟩)] [true] (gain_Act_2.ok x53 (ix l1 x53) v5 b6 Aa7 c8 _ hc79) ⟨pre_any 0 (view_rd Aa7 c8 fl_Cx.kd v5 true true), trivial⟩ ?_
     rintro _ _ ⟨rfl, rfl⟩
     refine JL.mv (.tuple #[mv_47 t78.1, .int .i64 t78.2]) ?_
     refine JL.pur (mv_47 t78.1) (some 23) ?_
     refine JL.pur (.int .i64 t78.2) (some 24) ?_
     refine JL.alloc (cl_47 zv_47) fun b80 => ?_
     refine JL.store 5 b80 0 47 (cl_47 zv_47) (cl_47 t78.1) tySize_47 ?_
     refine JL.as (.int .i64 t78.2) ?_
     refine JL.nil ?_
     refine JQ.then_normal ?_
     refine JQ.sub [(1, .func (.func 71) #[] #[.pointer (some ⟨b6, 0, none⟩)]), (6, .slice Aa50 out49.length c51), (9, .pointer (some ⟨b80, 0, none⟩)), (10, .int .i64 t78.2), (11, .slice (some ⟨g75, o76, none⟩) l1.length c3), (12, .int .i64 (l1.length : Int)), (13, .int .i64 x53)] ?_
     refine JQ.mask [At.rd Aa7 c8 fl_Cx.kd v5 true, At.row Aa50 c51 47 fl_Vis.kd out49 false, At.rd (some ⟨g75, o76, none⟩) c3 fl_Vis.kd l1 true, At.box b6 28 [.slice Aa7 v5.length c8], At.box b80 47 (cl_47 t78.1)] [true, true, true, false, true, true] ?_
     refine J.seq ?_
     refine J.seq ?_
     refine J.region ?_
     refine JL.mv (.int .i64 t78.2) ?_
     refine JL.pur (.bool (!decide (t78.2 = 0))) (some 26) ?_
     refine JL.nil ?_
     refine JQ.then_normal ?_
     refine JQ.sub [(1, .func (.func 71) #[] #[.pointer (some ⟨b6, 0, none⟩)]), (6, .slice Aa50 out49.length c51), (9, .pointer (some ⟨b80, 0, none⟩)), (11, .slice (some ⟨g75, o76, none⟩) l1.length c3), (12, .int .i64 (l1.length : Int)), (13, .int .i64 x53), (26, .bool (!decide (t78.2 = 0)))] ?_
     rcases ite_cases H1 with ⟨h81, H1⟩ | ⟨h81, H1⟩
     · refine J.cond_true h81 ?_
       refine J.seq ?_
       refine J.region ?_
       refine JL.as (.slice none 0 0) ?_
       refine JL.as (.int .i64 16) ?_
       refine JL.nil ?_
       refine JQ.then_normal ?_
       refine JQ.sub [(4, .slice none 0 0), (5, .int .i64 16)] ?_
       refine JQ.mask [At.rd Aa7 c8 fl_Cx.kd v5 true, At.box b6 28 [.slice Aa7 v5.length c8]] [true, false, false, true, false] ?_
       refine J.ret ?_
       refine JQ.then_ret ?_
       refine JQ.blk_ret ?_
       refine JQ.then_ret ?_
       refine JQ.then_ret ?_
       refine JQ.blk_ret ?_
       refine JQ.met_ret ?_
       refine JQ.then_ret ?_
       rw [hr1 _ (Option.some.inj H1).symm, fin_ret] at H0
       obtain rfl := Option.some.inj H0
       exact JQ.done' (rs := [.tmp 4, .tmp 5]) (vs := [.slice none 0 0, .int .i64 16]) [At.box b6 28 [.slice Aa7 v5.length c8], At.row none 0 47 fl_Vis.kd ([] : List Vis) false] (.inr rfl) ⟨by kernel_rfl, by kernel_rfl, trivial⟩ (fun _ h => Heap.to (Heap.pick [1, 2] (by decide) (Heap.addRow0 (α := Vis) 47 fl_Vis.kd false h))) ⟨none, 0, rfl, rfl⟩
     · refine J.cond_false h81 ?_
       refine J.skip ?_
       refine JQ.then_normal ?_
       refine JQ.sub [(1, .func (.func 71) #[] #[.pointer (some ⟨b6, 0, none⟩)]), (6, .slice Aa50 out49.length c51), (9, .pointer (some ⟨b80, 0, none⟩)), (11, .slice (some ⟨g75, o76, none⟩) l1.length c3), (12, .int .i64 (l1.length : Int)), (13, .int .i64 x53)] ?_
       refine J.region ?_
       refine JL.mv (.slice Aa50 out49.length c51) ?_
       refine JL.val (mv_47 t78.1) (some 28) (yields_load_boxes 4 0 (cl_47 t78.1) (holds_box b80 47 (cl_47 t78.1)) tyAgg_47 tySize_47) ?_
       refine JL.buildSl 47 fl_Vis.kd (([t78.1] : List Vis) : List Vis) [.int .i64 t78.1.I, .int .i64 t78.1.J, .int .i64 t78.1.V.Re, .int .i64 t78.1.V.Im, .int .i64 t78.1.V.Den, .int .i64 t78.1.N] false (closes_fl rfl) fun b82 => ?_
       obtain ⟨h85, H1⟩ := ite_must H1
       refine JL.append false false 1 5 Aa50 c51 1 out49 (elems_row (some ⟨b82, 0, none⟩) 1 47 fl_Vis.kd ([t78.1] : List Vis) false) Try.underlying48 info_47 (by omega) (by omega) (fun h => h) (.inr ⟨_, rfl⟩) fun Aa83 c84 => ?_
       refine JL.as (.slice Aa83 (out49 ++ ([t78.1] : List Vis)).length c84) ?_
       refine JL.nil ?_
       refine JQ.blk_normal ?_
       refine JQ.then_normal ?_
       refine JQ.sub [(1, .func (.func 71) #[] #[.pointer (some ⟨b6, 0, none⟩)]), (6, .slice Aa83 (out49 ++ ([t78.1] : List Vis)).length c84), (11, .slice (some ⟨g75, o76, none⟩) l1.length c3), (12, .int .i64 (l1.length : Int)), (13, .int .i64 x53)] ?_
       refine JQ.mask [At.rd Aa7 c8 fl_Cx.kd v5 true, At.row Aa83 c84 47 fl_Vis.kd (out49 ++ ([t78.1] : List Vis)) false, At.rd (some ⟨g75, o76, none⟩) c3 fl_Vis.kd l1 true, At.box b6 28 [.slice Aa7 v5.length c8]] [true, true, true, true, false, false] ?_
       refine J.region ?_
       refine JL.pur (.int .i64 (w64 (x53 + 1))) (some 31) ?_
       refine JL.mv (.int .i64 (w64 (x53 + 1))) ?_
       refine JL.nil ?_
       refine JQ.then_normal ?_
       exact JQ.again ((out49 ++ ([t78.1] : List Vis)), w64 (x53 + 1)) (Aa83, c84) (Option.some.inj H1).symm (fun _ h => Heap.to (Heap.pick [3, 0, 1, 2] (by decide) h))
   · refine J.cond_false h72 ?_
     refine J.exit ?_
     refine JQ.then_exit ?_
     refine JQ.then_exit ?_
     refine JQ.blk_exit ?_
     rw [hb1 _ (Option.some.inj H1).symm, fin_brk] at H0
     exact JQ.met out49 (Aa50, c51) H0 (fun _ h => Heap.to (Heap.pick [2, 0, 1] (by decide) h))
 · clear hit H0
   rintro out68 ⟨Aa69, c70⟩ H0
   replace H0 : gain_made__api_Vis_api_Vis__gain_Act_2.k2 out68 = some r := H0
   unfold gain_made__api_Vis_api_Vis__gain_Act_2.k2 at H0
   refine JQ.sub [(6, .slice Aa69 out68.length c70)] ?_
   refine JQ.turn (Δ' := [At.row Aa69 c70 47 fl_Vis.kd out68 false, At.box b6 28 [.slice Aa7 v5.length c8], At.rd Aa7 c8 fl_Cx.kd v5 true]) (fun _ h => h.to) ?_
   refine JQ.then_normal ?_
   refine J.seq ?_
   refine J.region ?_
   refine JL.mv (.slice Aa69 out68.length c70) ?_
   refine JL.as (.slice Aa69 out68.length c70) ?_
   refine JL.as (.int .i64 0) ?_
   refine JL.nil ?_
   refine JQ.then_normal ?_
   refine JQ.sub [(4, .slice Aa69 out68.length c70), (5, .int .i64 0)] ?_
   refine J.ret ?_
   obtain rfl := Option.some.inj H0
   exact JQ.done' (rs := [.tmp 4, .tmp 5]) (vs := [.slice Aa69 out68.length c70, .int .i64 0]) [At.box b6 28 [.slice Aa7 v5.length c8], At.row Aa69 c70 47 fl_Vis.kd out68 false] (.inr rfl) ⟨by kernel_rfl, by kernel_rfl, trivial⟩ (fun _ h => Heap.to (Heap.pick [1, 0] (by decide) h)) ⟨Aa69, c70, rfl, rfl⟩

theorem gain_Act.ok (g1 : (List Cx)) (Aa2 : Option Addr) (c3 : Nat) (l5 : (List Vis)) (Aa6 : Option Addr) (c7 : Nat) (r : ((List Vis) × Int)) (H0 : gain_Act.f g1 l5 = some r) :
    Does Try.prog 47 [.slice Aa2 g1.length c3, .slice Aa6 l5.length c7].toArray [At.rd Aa2 c3 fl_Cx.kd g1 true, At.rd Aa6 c7 fl_Vis.kd l5 true] [] false (fun v Δ => ∃ A1001 : Option Addr, ∃ c1001 : Nat, v = .tuple #[.slice A1001 r.1.length c1001, .int .i64 r.2] ∧ Δ = [At.row A1001 c1001 47 fl_Vis.kd r.1 false]) := by
 refine Does.body (vs := [.slice Aa2 g1.length c3, .slice Aa6 l5.length c7]) Try.func47 rfl ⟨.inl rfl, .inl rfl, trivial⟩ trivial fun w S => ?_
 unfold gain_Act.f at H0
 refine J.seq ?_
 refine J.region ?_
 refine JL.box [.slice Aa2 g1.length c3] fun b9 => ?_
 refine JL.as (.slice none 0 0) ?_
 refine JL.as (.int .i64 0) ?_
 refine JL.nil ?_
 refine JQ.then_normal ?_
 refine JQ.sub [(1, .slice Aa6 l5.length c7), (2, .pointer (some ⟨b9, 0, none⟩))] ?_
 refine J.seq ?_
 refine J.seq ?_
 refine J.region ?_
 refine JL.val (.slice Aa2 g1.length c3) (some 8) (yields_load_box 2 0 (holds_box b9 28 [.slice Aa2 g1.length c3]) tyAgg_28) ?_
 obtain ⟨t10, hc11, H0⟩ := bind_some H0
 refine JL.call [] [] [] (gain_Check.ok g1 Aa2 c3 _ hc11) ⟨pre_any 0 (view_rd Aa2 c3 fl_Cx.kd g1 true true), trivial⟩ ?_
 rintro _ _ ⟨rfl, rfl⟩
 refine JL.as (.int .i64 t10) ?_
 refine JL.nil ?_
 refine JQ.then_normal ?_
 refine JQ.sub [(1, .slice Aa6 l5.length c7), (2, .pointer (some ⟨b9, 0, none⟩)), (6, .int .i64 t10)] ?_
 refine J.seq ?_
 refine J.region ?_
 refine JL.mv (.int .i64 t10) ?_
 refine JL.pur (.bool (!decide (t10 = 0))) (some 11) ?_
 refine JL.nil ?_
 refine JQ.then_normal ?_
 refine JQ.sub [(1, .slice Aa6 l5.length c7), (2, .pointer (some ⟨b9, 0, none⟩)), (6, .int .i64 t10), (11, .bool (!decide (t10 = 0)))] ?_
 rcases ite_cases H0 with ⟨h12, H0⟩ | ⟨h12, H0⟩
 · refine J.cond_true h12 ?_
   refine J.seq ?_
   refine J.region ?_
   refine JL.mv (.int .i64 t10) ?_
   refine JL.as (.slice none 0 0) ?_
   refine JL.as (.int .i64 t10) ?_
   refine JL.nil ?_
   refine JQ.then_normal ?_
   refine JQ.sub [(4, .slice none 0 0), (5, .int .i64 t10)] ?_
   refine JQ.mask [] [false, false, false] ?_
   refine J.ret ?_
   refine JQ.then_ret ?_
   obtain rfl := Option.some.inj H0
   exact JQ.done' (rs := [.tmp 4, .tmp 5]) (vs := [.slice none 0 0, .int .i64 t10]) [At.row none 0 47 fl_Vis.kd ([] : List Vis) false] (.inr rfl) ⟨by kernel_rfl, by kernel_rfl, trivial⟩ (fun _ h => Heap.to (Heap.addRow0 (α := Vis) 47 fl_Vis.kd false h)) ⟨none, 0, rfl, rfl⟩
 · refine J.cond_false h12 ?_
   refine J.skip ?_
   refine JQ.then_normal ?_
   refine JQ.sub [(1, .slice Aa6 l5.length c7), (2, .pointer (some ⟨b9, 0, none⟩))] ?_
   refine J.seq ?_
   refine J.seq ?_
   refine J.region ?_
   refine JL.mv (.slice Aa6 l5.length c7) ?_
   refine JL.pur (.int .i64 (l5.length : Int)) (some 14) ?_
   refine JL.pur (.bool (decide (64 < (l5.length : Int)))) (some 15) ?_
   refine JL.nil ?_
   refine JQ.then_normal ?_
   refine JQ.sub [(1, .slice Aa6 l5.length c7), (2, .pointer (some ⟨b9, 0, none⟩)), (15, .bool (decide (64 < (l5.length : Int))))] ?_
   rcases ite_cases H0 with ⟨h13, H0⟩ | ⟨h13, H0⟩
   · refine J.cond_true h13 ?_
     refine J.seq ?_
     refine J.region ?_
     refine JL.as (.slice none 0 0) ?_
     refine JL.as (.int .i64 4) ?_
     refine JL.nil ?_
     refine JQ.then_normal ?_
     refine JQ.sub [(4, .slice none 0 0), (5, .int .i64 4)] ?_
     refine JQ.mask [] [false, false, false] ?_
     refine J.ret ?_
     refine JQ.then_ret ?_
     obtain rfl := Option.some.inj H0
     exact JQ.done' (rs := [.tmp 4, .tmp 5]) (vs := [.slice none 0 0, .int .i64 4]) [At.row none 0 47 fl_Vis.kd ([] : List Vis) false] (.inr rfl) ⟨by kernel_rfl, by kernel_rfl, trivial⟩ (fun _ h => Heap.to (Heap.addRow0 (α := Vis) 47 fl_Vis.kd false h)) ⟨none, 0, rfl, rfl⟩
   · refine J.cond_false h13 ?_
     refine J.skip ?_
     refine JQ.then_normal ?_
     refine JQ.sub [(1, .slice Aa6 l5.length c7), (2, .pointer (some ⟨b9, 0, none⟩))] ?_
     refine J.seq ?_
     refine J.region ?_
     refine JL.pur (.func (.func 68) #[] #[.pointer (some ⟨b9, 0, none⟩)]) (some 16) ?_
     refine JL.as (.func (.func 68) #[] #[.pointer (some ⟨b9, 0, none⟩)]) ?_
     refine JL.nil ?_
     refine JQ.then_normal ?_
     refine JQ.sub [(1, .slice Aa6 l5.length c7), (2, .pointer (some ⟨b9, 0, none⟩)), (7, .func (.func 68) #[] #[.pointer (some ⟨b9, 0, none⟩)])] ?_
     refine J.seq ?_
     refine J.seq ?_
     refine J.region ?_
     refine JL.mv (.slice Aa6 l5.length c7) ?_
     refine JL.mv (.func (.func 68) #[] #[.pointer (some ⟨b9, 0, none⟩)]) ?_
     obtain ⟨t14, hc15, H0⟩ := bind_some H0
     refine JL.call [] [] [false, false, true] (slices_ContainsFunc__api_Vis_api_Vis__gain_Act_1.ok l5 Aa6 c7 g1 b9 Aa2 c3 _ hc15) ⟨pre_any 1 (view_rd Aa6 c7 fl_Vis.kd l5 true true), ⟨pre_any 0 (view_rd Aa2 c3 fl_Cx.kd g1 true true), trivial⟩⟩ ?_
     rintro _ _ ⟨rfl, rfl⟩
     refine JL.nil ?_
     refine JQ.then_normal ?_
     refine JQ.sub [(1, .slice Aa6 l5.length c7), (2, .pointer (some ⟨b9, 0, none⟩)), (19, .bool t14)] ?_
     rcases ite_cases H0 with ⟨h16, H0⟩ | ⟨h16, H0⟩
     · refine J.cond_true h16 ?_
       refine J.seq ?_
       refine J.region ?_
       refine JL.as (.slice none 0 0) ?_
       refine JL.as (.int .i64 8) ?_
       refine JL.nil ?_
       refine JQ.then_normal ?_
       refine JQ.sub [(4, .slice none 0 0), (5, .int .i64 8)] ?_
       refine JQ.mask [] [false, false, false] ?_
       refine J.ret ?_
       refine JQ.then_ret ?_
       obtain rfl := Option.some.inj H0
       exact JQ.done' (rs := [.tmp 4, .tmp 5]) (vs := [.slice none 0 0, .int .i64 8]) [At.row none 0 47 fl_Vis.kd ([] : List Vis) false] (.inr rfl) ⟨by kernel_rfl, by kernel_rfl, trivial⟩ (fun _ h => Heap.to (Heap.addRow0 (α := Vis) 47 fl_Vis.kd false h)) ⟨none, 0, rfl, rfl⟩
     · refine J.cond_false h16 ?_
       refine J.skip ?_
       refine JQ.then_normal ?_
       refine JQ.sub [(1, .slice Aa6 l5.length c7), (2, .pointer (some ⟨b9, 0, none⟩))] ?_
       refine J.seq ?_
       refine J.region ?_
       refine JL.mv (.slice Aa6 l5.length c7) ?_
       refine JL.pur (.func (.func 71) #[] #[.pointer (some ⟨b9, 0, none⟩)]) (some 21) ?_
       obtain ⟨t17, hc18, H0⟩ := bind_some H0
       refine JL.call [] [] [false, false, true] (gain_made__api_Vis_api_Vis__gain_Act_2.ok l5 Aa6 c7 g1 b9 Aa2 c3 _ hc18) ⟨pre_any 1 (view_rd Aa6 c7 fl_Vis.kd l5 true true), ⟨pre_any 0 (view_rd Aa2 c3 fl_Cx.kd g1 true true), trivial⟩⟩ ?_
       rintro _ _ ⟨Aa19, c20, rfl, rfl⟩
       refine JL.pur (.slice Aa19 t17.1.length c20) (some 23) ?_
       refine JL.pur (.int .i64 t17.2) (some 24) ?_
       refine JL.as (.slice Aa19 t17.1.length c20) ?_
       refine JL.as (.int .i64 t17.2) ?_
       refine JL.nil ?_
       refine JQ.then_normal ?_
       refine JQ.sub [(4, .slice Aa19 t17.1.length c20), (5, .int .i64 t17.2)] ?_
       refine JQ.mask [At.row Aa19 c20 47 fl_Vis.kd t17.1 false] [false, false, false, true] ?_
       refine J.ret ?_
       obtain rfl := Option.some.inj H0
       exact JQ.done' (rs := [.tmp 4, .tmp 5]) (vs := [.slice Aa19 t17.1.length c20, .int .i64 t17.2]) [At.row Aa19 c20 47 fl_Vis.kd t17.1 false] (.inr rfl) ⟨by kernel_rfl, by kernel_rfl, trivial⟩ (fun _ h => Heap.to h) ⟨Aa19, c20, rfl, rfl⟩

theorem corrupt_acted__corrupt_Spoil_1.ok (s1 : (List (List Vis))) (Aa2 : Option Addr) (c3 : Nat) (l5 : (List Spoil)) (Aa6 : Option Addr) (c7 : Nat) (r : ((List (List Vis)) × Int)) (H0 : corrupt_acted__corrupt_Spoil_1.f s1 l5 = some r) :
    Does Try.prog 29 [.slice Aa2 s1.length c3, .slice Aa6 l5.length c7, .func (.func 30) #[] #[]].toArray [At.rd Aa2 c3 fl_Vis.kd.sl s1 true, At.rd Aa6 c7 fl_Spoil.kd l5 true] [] false (fun v Δ => ∃ A1001 : Option Addr, ∃ c1001 : Nat, v = .tuple #[.slice A1001 r.1.length c1001, .int .i64 r.2] ∧ Δ = [At.row A1001 c1001 48 fl_Vis.kd.sl r.1 false]) := by
 refine Does.body (vs := [.slice Aa2 s1.length c3, .slice Aa6 l5.length c7, .func (.func 30) #[] #[]]) Try.func29 rfl ⟨.inl rfl, .inl rfl, trivial⟩ trivial fun w S => ?_
 unfold corrupt_acted__corrupt_Spoil_1.f at H0
 refine J.seq ?_
 refine J.region ?_
 refine JL.as (.slice none 0 0) ?_
 refine JL.as (.int .i64 0) ?_
 refine JL.nil ?_
 refine JQ.then_normal ?_
 refine JQ.sub [(0, .slice Aa2 s1.length c3), (1, .slice Aa6 l5.length c7), (2, .func (.func 30) #[] #[])] ?_
 refine J.seq ?_
 refine J.seq ?_
 refine J.region ?_
 refine JL.mv (.slice Aa2 s1.length c3) ?_
 obtain ⟨t9, hc10, H0⟩ := bind_some H0
 refine JL.call [] [] [] (corrupt_Check.ok s1 Aa2 c3 _ hc10) ⟨pre_any 0 (view_rd Aa2 c3 fl_Vis.kd.sl s1 true true), trivial⟩ ?_
 rintro _ _ ⟨rfl, rfl⟩
 refine JL.as (.int .i64 t9) ?_
 refine JL.nil ?_
 refine JQ.then_normal ?_
 refine JQ.sub [(0, .slice Aa2 s1.length c3), (1, .slice Aa6 l5.length c7), (2, .func (.func 30) #[] #[]), (8, .int .i64 t9)] ?_
 refine J.seq ?_
 refine J.region ?_
 refine JL.mv (.int .i64 t9) ?_
 refine JL.pur (.bool (!decide (t9 = 0))) (some 22) ?_
 refine JL.nil ?_
 refine JQ.then_normal ?_
 refine JQ.sub [(0, .slice Aa2 s1.length c3), (1, .slice Aa6 l5.length c7), (2, .func (.func 30) #[] #[]), (8, .int .i64 t9), (22, .bool (!decide (t9 = 0)))] ?_
 rcases ite_cases H0 with ⟨h11, H0⟩ | ⟨h11, H0⟩
 · refine J.cond_true h11 ?_
   refine J.seq ?_
   refine J.region ?_
   refine JL.mv (.int .i64 t9) ?_
   refine JL.as (.slice none 0 0) ?_
   refine JL.as (.int .i64 t9) ?_
   refine JL.nil ?_
   refine JQ.then_normal ?_
   refine JQ.sub [(6, .slice none 0 0), (7, .int .i64 t9)] ?_
   refine JQ.mask [] [false, false] ?_
   refine J.ret ?_
   refine JQ.then_ret ?_
   obtain rfl := Option.some.inj H0
   exact JQ.done' (rs := [.tmp 6, .tmp 7]) (vs := [.slice none 0 0, .int .i64 t9]) [At.row none 0 48 fl_Vis.kd.sl ([] : List (List Vis)) false] (.inr rfl) ⟨by kernel_rfl, by kernel_rfl, trivial⟩ (fun _ h => Heap.to (Heap.addRow0 (α := (List Vis)) 48 fl_Vis.kd.sl false h)) ⟨none, 0, rfl, rfl⟩
 · refine J.cond_false h11 ?_
   refine J.skip ?_
   refine JQ.then_normal ?_
   refine JQ.sub [(0, .slice Aa2 s1.length c3), (1, .slice Aa6 l5.length c7), (2, .func (.func 30) #[] #[])] ?_
   refine J.seq ?_
   refine J.region ?_
   refine JL.as (.slice none 0 0) ?_
   refine JL.nil ?_
   refine JQ.then_normal ?_
   refine J.seq ?_
   refine J.seq ?_
   refine J.region ?_
   refine JL.mv (.slice Aa2 s1.length c3) ?_
   refine JL.pur (.int .i64 (s1.length : Int)) (some 25) ?_
   refine JL.pur (.int .i64 (gmax 1 (s1.length : Int))) (some 26) ?_
   refine JL.mv (.int .i64 0) ?_
   refine JL.nil ?_
   refine JQ.then_normal ?_
   refine JQ.sub [(0, .slice Aa2 s1.length c3), (1, .slice Aa6 l5.length c7), (2, .func (.func 30) #[] #[]), (9, .slice none 0 0), (26, .int .i64 (gmax 1 (s1.length : Int))), (27, .int .i64 0)] ?_
   obtain ⟨o1, hit, H0⟩ := bind_some H0
   refine J.loop (σ := ((List (List Cx)) × Int)) (τ := List (List Cx)) (G := ((Option Addr) × Nat)) (G' := ((Option Addr) × Nat)) _ o1 (fun s g => [(0, .slice Aa2 s1.length c3), (1, .slice Aa6 l5.length c7), (2, .func (.func 30) #[] #[]), (9, .slice g.1 s.1.length g.2), (26, .int .i64 (gmax 1 (s1.length : Int))), (27, .int .i64 s.2)]) (fun s g => [At.rd Aa2 c3 fl_Vis.kd.sl s1 true, At.rd Aa6 c7 fl_Spoil.kd l5 true, At.row g.1 g.2 28 fl_Cx.kd.sl s.1 false]) (fun t => corrupt_acted__corrupt_Spoil_1.k2 s1 t = some r) (fun t g => [(0, .slice Aa2 s1.length c3), (2, .func (.func 30) #[] #[]), (9, .slice g.1 t.length g.2)]) (fun t g => [At.rd Aa2 c3 fl_Vis.kd.sl s1 true, At.row g.1 g.2 28 fl_Cx.kd.sl t false]) ([], 0) (none, 0) hit (fun _ h => Heap.to (Heap.addRow0 (α := (List Cx)) 28 fl_Cx.kd.sl false h)) ?_ ?_
   · clear hit
     rintro ⟨tables45, x49⟩ ⟨Aa46, c47⟩ st1 H1 hb1 hr1
     replace H1 : corrupt_acted__corrupt_Spoil_1.s1 s1 l5 tables45 x49 = some st1 := H1
     unfold corrupt_acted__corrupt_Spoil_1.s1 at H1
     refine JQ.sub [(0, .slice Aa2 s1.length c3), (1, .slice Aa6 l5.length c7), (2, .func (.func 30) #[] #[]), (9, .slice Aa46 tables45.length c47), (26, .int .i64 (gmax 1 (s1.length : Int))), (27, .int .i64 x49)] ?_
     refine JQ.turn (Δ' := [At.rd Aa2 c3 fl_Vis.kd.sl s1 true, At.rd Aa6 c7 fl_Spoil.kd l5 true, At.row Aa46 c47 28 fl_Cx.kd.sl tables45 false]) (fun _ h => h.to) ?_
     refine J.seq ?_
     refine J.region ?_
     refine JL.pur (.bool (decide (x49 < gmax 1 (s1.length : Int)))) (some 28) ?_
     refine JL.nil ?_
     refine JQ.then_normal ?_
     refine J.seq ?_
     rcases ite_cases H1 with ⟨h209, H1⟩ | ⟨h209, H1⟩
     · refine J.cond_true h209 ?_
       refine J.skip ?_
       refine JQ.then_normal ?_
       refine JQ.sub [(0, .slice Aa2 s1.length c3), (1, .slice Aa6 l5.length c7), (2, .func (.func 30) #[] #[]), (9, .slice Aa46 tables45.length c47), (26, .int .i64 (gmax 1 (s1.length : Int))), (27, .int .i64 x49)] ?_
       refine J.seq ?_
       refine J.block ?_
       refine J.seq ?_
       refine J.region ?_
       refine JL.mv (.int .i64 x49) ?_
       refine JL.as (.int .i64 x49) ?_
       refine JL.nil ?_
       refine JQ.then_normal ?_
       refine JQ.sub [(0, .slice Aa2 s1.length c3), (1, .slice Aa6 l5.length c7), (2, .func (.func 30) #[] #[]), (9, .slice Aa46 tables45.length c47), (10, .int .i64 x49), (26, .int .i64 (gmax 1 (s1.length : Int))), (27, .int .i64 x49)] ?_
       refine J.seq ?_
       refine J.region ?_
       refine JL.mv (.slice Aa6 l5.length c7) ?_
       refine JL.mv (.int .i64 x49) ?_
       obtain ⟨t210, hc211, H1⟩ := bind_some H1
       refine JL.call [] [] [] (corrupt_Table.ok l5 Aa6 c7 x49 _ hc211) ⟨pre_any 1 (view_rd Aa6 c7 fl_Spoil.kd l5 true true), trivial⟩ ?_
       rintro _ _ ⟨Aa212, c213, rfl, rfl⟩
       refine JL.mv (.tuple #[.slice Aa212 t210.1.length c213, .int .i64 t210.2]) ?_
       refine JL.pur (.slice Aa212 t210.1.length c213) (some 34) ?_
       refine JL.pur (.int .i64 t210.2) (some 35) ?_
       refine JL.as (.slice Aa212 t210.1.length c213) ?_
       refine JL.as (.int .i64 t210.2) ?_
       refine JL.nil ?_
       refine JQ.then_normal ?_
       refine JQ.sub [(0, .slice Aa2 s1.length c3), (1, .slice Aa6 l5.length c7), (2, .func (.func 30) #[] #[]), (9, .slice Aa46 tables45.length c47), (11, .slice Aa212 t210.1.length c213), (12, .int .i64 t210.2), (26, .int .i64 (gmax 1 (s1.length : Int))), (27, .int .i64 x49)] ?_
       refine J.seq ?_
       refine J.seq ?_
       refine J.region ?_
       refine JL.mv (.int .i64 t210.2) ?_
       refine JL.pur (.bool (!decide (t210.2 = 0))) (some 37) ?_
       refine JL.nil ?_
       refine JQ.then_normal ?_
       refine JQ.sub [(0, .slice Aa2 s1.length c3), (1, .slice Aa6 l5.length c7), (2, .func (.func 30) #[] #[]), (9, .slice Aa46 tables45.length c47), (11, .slice Aa212 t210.1.length c213), (12, .int .i64 t210.2), (26, .int .i64 (gmax 1 (s1.length : Int))), (27, .int .i64 x49), (37, .bool (!decide (t210.2 = 0)))] ?_
       rcases ite_cases H1 with ⟨h215, H1⟩ | ⟨h215, H1⟩
       · refine J.cond_true h215 ?_
         refine J.seq ?_
         refine J.region ?_
         refine JL.mv (.int .i64 t210.2) ?_
         refine JL.as (.slice none 0 0) ?_
         refine JL.as (.int .i64 t210.2) ?_
         refine JL.nil ?_
         refine JQ.then_normal ?_
         refine JQ.sub [(6, .slice none 0 0), (7, .int .i64 t210.2)] ?_
         refine JQ.mask [] [false, false, false, false] ?_
         refine J.ret ?_
         refine JQ.then_ret ?_
         refine JQ.blk_ret ?_
         refine JQ.then_ret ?_
         refine JQ.then_ret ?_
         refine JQ.blk_ret ?_
         refine JQ.met_ret ?_
         refine JQ.then_ret ?_
         rw [hr1 _ (Option.some.inj H1).symm, fin_ret] at H0
         obtain rfl := Option.some.inj H0
         exact JQ.done' (rs := [.tmp 6, .tmp 7]) (vs := [.slice none 0 0, .int .i64 t210.2]) [At.row none 0 48 fl_Vis.kd.sl ([] : List (List Vis)) false] (.inr rfl) ⟨by kernel_rfl, by kernel_rfl, trivial⟩ (fun _ h => Heap.to (Heap.addRow0 (α := (List Vis)) 48 fl_Vis.kd.sl false h)) ⟨none, 0, rfl, rfl⟩
       · refine J.cond_false h215 ?_
         refine J.skip ?_
         refine JQ.then_normal ?_
         refine JQ.sub [(0, .slice Aa2 s1.length c3), (1, .slice Aa6 l5.length c7), (2, .func (.func 30) #[] #[]), (9, .slice Aa46 tables45.length c47), (11, .slice Aa212 t210.1.length c213), (26, .int .i64 (gmax 1 (s1.length : Int))), (27, .int .i64 x49)] ?_
         refine J.region ?_
         refine JL.mv (.slice Aa46 tables45.length c47) ?_
         refine JL.mv (.slice Aa212 t210.1.length c213) ?_
         refine JQ.turn (fun _ h => freeze_row 3 Aa212 c213 23 fl_Cx.kd t210.1 false h) ?_
         refine JL.buildSl 28 fl_Cx.kd.sl (([t210.1] : List (List Cx)) : List (List Cx)) [.slice Aa212 t210.1.length c213] false (closes_sl 3 false (fun h => h) (closes_nil)) fun b216 => ?_
         obtain ⟨h219, H1⟩ := ite_must H1
         refine JL.append false false 2 4 Aa46 c47 1 tables45 (elems_row (some ⟨b216, 0, none⟩) 1 28 fl_Cx.kd.sl ([t210.1] : List (List Cx)) false) Try.underlying73 info_28 (by omega) (by omega) (fun h => h) (.inl (fun h => by cases h)) fun Aa217 c218 => ?_
         refine JL.as (.slice Aa217 (tables45 ++ ([t210.1] : List (List Cx))).length c218) ?_
         refine JL.nil ?_
         refine JQ.blk_normal ?_
         refine JQ.then_normal ?_
         refine JQ.sub [(0, .slice Aa2 s1.length c3), (1, .slice Aa6 l5.length c7), (2, .func (.func 30) #[] #[]), (9, .slice Aa217 (tables45 ++ ([t210.1] : List (List Cx))).length c218), (26, .int .i64 (gmax 1 (s1.length : Int))), (27, .int .i64 x49)] ?_
         refine JQ.mask [At.rd Aa2 c3 fl_Vis.kd.sl s1 true, At.rd Aa6 c7 fl_Spoil.kd l5 true, At.row Aa217 c218 28 fl_Cx.kd.sl (tables45 ++ ([t210.1] : List (List Cx))) false] [true, true, true, false, false] ?_
         refine J.region ?_
         refine JL.pur (.int .i64 (w64 (x49 + 1))) (some 43) ?_
         refine JL.mv (.int .i64 (w64 (x49 + 1))) ?_
         refine JL.nil ?_
         refine JQ.then_normal ?_
         exact JQ.again ((tables45 ++ ([t210.1] : List (List Cx))), w64 (x49 + 1)) (Aa217, c218) (Option.some.inj H1).symm (fun _ h => Heap.to h)
     · refine J.cond_false h209 ?_
       refine J.exit ?_
       refine JQ.then_exit ?_
       refine JQ.then_exit ?_
       refine JQ.blk_exit ?_
       rw [hb1 _ (Option.some.inj H1).symm, fin_brk] at H0
       exact JQ.met tables45 (Aa46, c47) H0 (fun _ h => Heap.to (Heap.pick [0, 2] (by decide) h))
   · clear hit H0
     rintro tables61 ⟨Aa62, c63⟩ H0
     replace H0 : corrupt_acted__corrupt_Spoil_1.k2 s1 tables61 = some r := H0
     unfold corrupt_acted__corrupt_Spoil_1.k2 at H0
     refine JQ.sub [(0, .slice Aa2 s1.length c3), (2, .func (.func 30) #[] #[]), (9, .slice Aa62 tables61.length c63)] ?_
     refine JQ.turn (Δ' := [At.rd Aa2 c3 fl_Vis.kd.sl s1 true, At.row Aa62 c63 28 fl_Cx.kd.sl tables61 false]) (fun _ h => h.to) ?_
     refine JQ.then_normal ?_
     refine J.seq ?_
     refine J.region ?_
     refine JL.as (.slice none 0 0) ?_
     refine JL.nil ?_
     refine JQ.then_normal ?_
     refine J.seq ?_
     refine J.seq ?_
     refine J.region ?_
     refine JL.mv (.slice Aa2 s1.length c3) ?_
     refine JL.pur (.int .i64 (s1.length : Int)) (some 45) ?_
     refine JL.mv (.int .i64 0) ?_
     refine JL.nil ?_
     refine JQ.then_normal ?_
     refine JQ.sub [(2, .func (.func 30) #[] #[]), (9, .slice Aa62 tables61.length c63), (13, .slice none 0 0), (44, .slice Aa2 s1.length c3), (45, .int .i64 (s1.length : Int)), (46, .int .i64 0)] ?_
     obtain ⟨o1, hit, H0⟩ := bind_some H0
     refine J.loop (σ := ((List (List Vis)) × Int)) (τ := List (List Vis)) (G := ((Option Addr) × Nat)) (G' := ((Option Addr) × Nat)) _ o1 (fun s g => [(2, .func (.func 30) #[] #[]), (9, .slice Aa62 tables61.length c63), (13, .slice g.1 s.1.length g.2), (44, .slice Aa2 s1.length c3), (45, .int .i64 (s1.length : Int)), (46, .int .i64 s.2)]) (fun s g => [At.row Aa62 c63 28 fl_Cx.kd.sl tables61 false, At.row g.1 g.2 48 fl_Vis.kd.sl s.1 false, At.rd Aa2 c3 fl_Vis.kd.sl s1 true]) (fun t => corrupt_acted__corrupt_Spoil_1.k4 t = some r) (fun t g => [(13, .slice g.1 t.length g.2)]) (fun t g => [At.row g.1 g.2 48 fl_Vis.kd.sl t false]) ([], 0) (none, 0) hit (fun _ h => Heap.to (Heap.pick [1, 2, 0] (by decide) (Heap.addRow0 (α := (List Vis)) 48 fl_Vis.kd.sl false h))) ?_ ?_
     · clear hit
       rintro ⟨out138, x142⟩ ⟨Aa139, c140⟩ st1 H1 hb1 hr1
       replace H1 : corrupt_acted__corrupt_Spoil_1.s3 s1 tables61 out138 x142 = some st1 := H1
       unfold corrupt_acted__corrupt_Spoil_1.s3 at H1
       refine JQ.sub [(2, .func (.func 30) #[] #[]), (9, .slice Aa62 tables61.length c63), (13, .slice Aa139 out138.length c140), (44, .slice Aa2 s1.length c3), (45, .int .i64 (s1.length : Int)), (46, .int .i64 x142)] ?_
       refine JQ.turn (Δ' := [At.row Aa62 c63 28 fl_Cx.kd.sl tables61 false, At.row Aa139 c140 48 fl_Vis.kd.sl out138 false, At.rd Aa2 c3 fl_Vis.kd.sl s1 true]) (fun _ h => h.to) ?_
       refine J.seq ?_
       refine J.region ?_
       refine JL.pur (.bool (decide (x142 < (s1.length : Int)))) (some 47) ?_
       refine JL.nil ?_
       refine JQ.then_normal ?_
       refine J.seq ?_
       rcases ite_cases H1 with ⟨h178, H1⟩ | ⟨h178, H1⟩
       · refine J.cond_true h178 ?_
         refine J.skip ?_
         refine JQ.then_normal ?_
         refine JQ.sub [(2, .func (.func 30) #[] #[]), (9, .slice Aa62 tables61.length c63), (13, .slice Aa139 out138.length c140), (44, .slice Aa2 s1.length c3), (45, .int .i64 (s1.length : Int)), (46, .int .i64 x142)] ?_
         refine J.seq ?_
         refine J.block ?_
         refine J.seq ?_
         refine J.region ?_
         refine JL.mv (.int .i64 x142) ?_
         obtain ⟨⟨h179, h180⟩, H1⟩ := ite_must H1
         refine JL.ixAddr 2 1 c3 .i64 (elems_rd Aa2 c3 fl_Vis.kd.sl s1 true) Try.underlying37 tySize_48 h179 h180 fun g181 o182 hA => ?_
         subst hA
         refine JL.loadEl (fun q : Option Addr × Nat => [.slice q.1 (ix s1 x142).length q.2]) (fun q : Option Addr × Nat => [At.rd q.1 q.2 fl_Vis.kd (ix s1 x142) true]) (fun q : Option Addr × Nat => .slice q.1 (ix s1 x142).length q.2) (off := 0) 2 (elems_rd (some ⟨g181, o182, none⟩) c3 fl_Vis.kd.sl s1 true) (opens_sl fl_Vis.kd _ _) h179 h180 tySize_48 (.inr ⟨tyAgg_48, rfl, fun _ => rfl⟩) ?_
         rintro ⟨Aa183, c184⟩
         refine JL.as (.int .i64 x142) ?_
         refine JL.as (.slice Aa183 (ix s1 x142).length c184) ?_
         refine JL.nil ?_
         refine JQ.then_normal ?_
         refine JQ.sub [(2, .func (.func 30) #[] #[]), (9, .slice Aa62 tables61.length c63), (13, .slice Aa139 out138.length c140), (14, .int .i64 x142), (15, .slice Aa183 (ix s1 x142).length c184), (44, .slice (some ⟨g181, o182, none⟩) s1.length c3), (45, .int .i64 (s1.length : Int)), (46, .int .i64 x142)] ?_
         refine J.seq ?_
         refine J.region ?_
         refine JL.mv (.func (.func 30) #[] #[]) ?_
         refine JL.mv (.slice Aa62 tables61.length c63) ?_
         refine JL.mv (.int .i64 x142) ?_
         obtain ⟨⟨h186, h187⟩, H1⟩ := ite_must H1
         refine JL.ixAddr 0 1 c63 .i64 (elems_row Aa62 c63 28 fl_Cx.kd.sl tables61 false) Try.underlying73 tySize_28 h186 h187 fun g188 o189 hA => ?_
         subst hA
         refine JL.loadEl (fun q : Option Addr × Nat => [.slice q.1 (ix tables61 x142).length q.2]) (fun q : Option Addr × Nat => [At.rd q.1 q.2 fl_Cx.kd (ix tables61 x142) false]) (fun q : Option Addr × Nat => .slice q.1 (ix tables61 x142).length q.2) (off := 0) 0 (elems_row (some ⟨g188, o189, none⟩) c63 28 fl_Cx.kd.sl tables61 false) (opens_sl fl_Cx.kd _ _) h186 h187 tySize_28 (.inr ⟨tyAgg_28, rfl, fun _ => rfl⟩) ?_
         rintro ⟨Aa190, c191⟩
         obtain ⟨t193, hc194, H1⟩ := bind_some H1
         refine JL.call [] [] [] (corrupt_Spoil_1.ok (ix tables61 x142) Aa190 c191 _ hc194) ⟨pre_any 4 (view_rd Aa190 c191 fl_Cx.kd (ix tables61 x142) false true), trivial⟩ ?_
         rintro _ _ ⟨Aa195, c196, rfl, rfl⟩
         refine JL.mv (.tuple #[.slice Aa195 t193.1.length c196, .int .i64 t193.2]) ?_
         refine JL.pur (.slice Aa195 t193.1.length c196) (some 58) ?_
         refine JL.pur (.int .i64 t193.2) (some 59) ?_
         refine JL.as (.slice Aa195 t193.1.length c196) ?_
         refine JL.as (.int .i64 t193.2) ?_
         refine JL.nil ?_
         refine JQ.then_normal ?_
         refine JQ.sub [(2, .func (.func 30) #[] #[]), (9, .slice (some ⟨g188, o189, none⟩) tables61.length c63), (13, .slice Aa139 out138.length c140), (15, .slice Aa183 (ix s1 x142).length c184), (16, .slice Aa195 t193.1.length c196), (17, .int .i64 t193.2), (44, .slice (some ⟨g181, o182, none⟩) s1.length c3), (45, .int .i64 (s1.length : Int)), (46, .int .i64 x142)] ?_
         refine JQ.mask [At.row (some ⟨g188, o189, none⟩) c63 28 fl_Cx.kd.sl tables61 false, At.row Aa139 c140 48 fl_Vis.kd.sl out138 false, At.rd (some ⟨g181, o182, none⟩) c3 fl_Vis.kd.sl s1 true, At.rd Aa183 c184 fl_Vis.kd (ix s1 x142) true, At.rd Aa195 c196 fl_Cx.kd t193.1 true] [true, true, true, true, false, true] ?_
         refine J.seq ?_
         refine J.seq ?_
         refine J.region ?_
         refine JL.mv (.int .i64 t193.2) ?_
         refine JL.pur (.bool (!decide (t193.2 = 0))) (some 61) ?_
         refine JL.nil ?_
         refine JQ.then_normal ?_
         refine JQ.sub [(2, .func (.func 30) #[] #[]), (9, .slice (some ⟨g188, o189, none⟩) tables61.length c63), (13, .slice Aa139 out138.length c140), (15, .slice Aa183 (ix s1 x142).length c184), (16, .slice Aa195 t193.1.length c196), (17, .int .i64 t193.2), (44, .slice (some ⟨g181, o182, none⟩) s1.length c3), (45, .int .i64 (s1.length : Int)), (46, .int .i64 x142), (61, .bool (!decide (t193.2 = 0)))] ?_
         rcases ite_cases H1 with ⟨h198, H1⟩ | ⟨h198, H1⟩
         · refine J.cond_true h198 ?_
           refine J.seq ?_
           refine J.region ?_
           refine JL.mv (.int .i64 t193.2) ?_
           refine JL.as (.slice none 0 0) ?_
           refine JL.as (.int .i64 t193.2) ?_
           refine JL.nil ?_
           refine JQ.then_normal ?_
           refine JQ.sub [(6, .slice none 0 0), (7, .int .i64 t193.2)] ?_
           refine JQ.mask [] [false, false, false, false, false] ?_
           refine J.ret ?_
           refine JQ.then_ret ?_
           refine JQ.blk_ret ?_
           refine JQ.then_ret ?_
           refine JQ.then_ret ?_
           refine JQ.blk_ret ?_
           refine JQ.met_ret ?_
           refine JQ.then_ret ?_
           rw [hr1 _ (Option.some.inj H1).symm, fin_ret] at H0
           obtain rfl := Option.some.inj H0
           exact JQ.done' (rs := [.tmp 6, .tmp 7]) (vs := [.slice none 0 0, .int .i64 t193.2]) [At.row none 0 48 fl_Vis.kd.sl ([] : List (List Vis)) false] (.inr rfl) ⟨by kernel_rfl, by kernel_rfl, trivial⟩ (fun _ h => Heap.to (Heap.addRow0 (α := (List Vis)) 48 fl_Vis.kd.sl false h)) ⟨none, 0, rfl, rfl⟩
         · refine J.cond_false h198 ?_
           refine J.skip ?_
           refine JQ.then_normal ?_
           refine JQ.sub [(2, .func (.func 30) #[] #[]), (9, .slice (some ⟨g188, o189, none⟩) tables61.length c63), (13, .slice Aa139 out138.length c140), (15, .slice Aa183 (ix s1 x142).length c184), (16, .slice Aa195 t193.1.length c196), (44, .slice (some ⟨g181, o182, none⟩) s1.length c3), (45, .int .i64 (s1.length : Int)), (46, .int .i64 x142)] ?_
           refine J.seq ?_
           refine J.region ?_
           refine JL.mv (.slice Aa195 t193.1.length c196) ?_
           refine JL.mv (.slice Aa183 (ix s1 x142).length c184) ?_
           obtain ⟨t199, hc200, H1⟩ := bind_some H1
           refine JL.call [] [] [] (gain_Act.ok t193.1 Aa195 c196 (ix s1 x142) Aa183 c184 _ hc200) ⟨pre_any 4 (view_rd Aa195 c196 fl_Cx.kd t193.1 true true), ⟨pre_any 3 (view_rd Aa183 c184 fl_Vis.kd (ix s1 x142) true true), trivial⟩⟩ ?_
           rintro _ _ ⟨Aa201, c202, rfl, rfl⟩
           refine JL.mv (.tuple #[.slice Aa201 t199.1.length c202, .int .i64 t199.2]) ?_
           refine JL.pur (.slice Aa201 t199.1.length c202) (some 67) ?_
           refine JL.pur (.int .i64 t199.2) (some 68) ?_
           refine JL.as (.slice Aa201 t199.1.length c202) ?_
           refine JL.as (.int .i64 t199.2) ?_
           refine JL.nil ?_
           refine JQ.then_normal ?_
           refine JQ.sub [(2, .func (.func 30) #[] #[]), (9, .slice (some ⟨g188, o189, none⟩) tables61.length c63), (13, .slice Aa139 out138.length c140), (17, .int .i64 t199.2), (18, .slice Aa201 t199.1.length c202), (44, .slice (some ⟨g181, o182, none⟩) s1.length c3), (45, .int .i64 (s1.length : Int)), (46, .int .i64 x142)] ?_
           refine JQ.mask [At.row (some ⟨g188, o189, none⟩) c63 28 fl_Cx.kd.sl tables61 false, At.row Aa139 c140 48 fl_Vis.kd.sl out138 false, At.rd (some ⟨g181, o182, none⟩) c3 fl_Vis.kd.sl s1 true, At.row Aa201 c202 47 fl_Vis.kd t199.1 false] [true, true, true, false, false, true] ?_
           refine J.seq ?_
           refine J.seq ?_
           refine J.region ?_
           refine JL.mv (.int .i64 t199.2) ?_
           refine JL.pur (.bool (!decide (t199.2 = 0))) (some 70) ?_
           refine JL.nil ?_
           refine JQ.then_normal ?_
           refine JQ.sub [(2, .func (.func 30) #[] #[]), (9, .slice (some ⟨g188, o189, none⟩) tables61.length c63), (13, .slice Aa139 out138.length c140), (17, .int .i64 t199.2), (18, .slice Aa201 t199.1.length c202), (44, .slice (some ⟨g181, o182, none⟩) s1.length c3), (45, .int .i64 (s1.length : Int)), (46, .int .i64 x142), (70, .bool (!decide (t199.2 = 0)))] ?_
           rcases ite_cases H1 with ⟨h204, H1⟩ | ⟨h204, H1⟩
           · refine J.cond_true h204 ?_
             refine J.seq ?_
             refine J.region ?_
             refine JL.mv (.int .i64 t199.2) ?_
             refine JL.as (.slice none 0 0) ?_
             refine JL.as (.int .i64 t199.2) ?_
             refine JL.nil ?_
             refine JQ.then_normal ?_
             refine JQ.sub [(6, .slice none 0 0), (7, .int .i64 t199.2)] ?_
             refine JQ.mask [] [false, false, false, false] ?_
             refine J.ret ?_
             refine JQ.then_ret ?_
             refine JQ.blk_ret ?_
             refine JQ.then_ret ?_
             refine JQ.then_ret ?_
             refine JQ.blk_ret ?_
             refine JQ.met_ret ?_
             refine JQ.then_ret ?_
             rw [hr1 _ (Option.some.inj H1).symm, fin_ret] at H0
             obtain rfl := Option.some.inj H0
             exact JQ.done' (rs := [.tmp 6, .tmp 7]) (vs := [.slice none 0 0, .int .i64 t199.2]) [At.row none 0 48 fl_Vis.kd.sl ([] : List (List Vis)) false] (.inr rfl) ⟨by kernel_rfl, by kernel_rfl, trivial⟩ (fun _ h => Heap.to (Heap.addRow0 (α := (List Vis)) 48 fl_Vis.kd.sl false h)) ⟨none, 0, rfl, rfl⟩
           · refine J.cond_false h204 ?_
             refine J.skip ?_
             refine JQ.then_normal ?_
             refine JQ.sub [(2, .func (.func 30) #[] #[]), (9, .slice (some ⟨g188, o189, none⟩) tables61.length c63), (13, .slice Aa139 out138.length c140), (18, .slice Aa201 t199.1.length c202), (44, .slice (some ⟨g181, o182, none⟩) s1.length c3), (45, .int .i64 (s1.length : Int)), (46, .int .i64 x142)] ?_
             refine J.region ?_
             refine JL.mv (.slice Aa139 out138.length c140) ?_
             refine JL.mv (.slice Aa201 t199.1.length c202) ?_
             refine JQ.turn (fun _ h => freeze_row 3 Aa201 c202 47 fl_Vis.kd t199.1 false h) ?_
             refine JL.buildSl 48 fl_Vis.kd.sl (([t199.1] : List (List Vis)) : List (List Vis)) [.slice Aa201 t199.1.length c202] false (closes_sl 3 false (fun h => h) (closes_nil)) fun b205 => ?_
             obtain ⟨h208, H1⟩ := ite_must H1
             refine JL.append false false 1 4 Aa139 c140 1 out138 (elems_row (some ⟨b205, 0, none⟩) 1 48 fl_Vis.kd.sl ([t199.1] : List (List Vis)) false) Try.underlying37 info_48 (by omega) (by omega) (fun h => h) (.inl (fun h => by cases h)) fun Aa206 c207 => ?_
             refine JL.as (.slice Aa206 (out138 ++ ([t199.1] : List (List Vis))).length c207) ?_
             refine JL.nil ?_
             refine JQ.blk_normal ?_
             refine JQ.then_normal ?_
             refine JQ.sub [(2, .func (.func 30) #[] #[]), (9, .slice (some ⟨g188, o189, none⟩) tables61.length c63), (13, .slice Aa206 (out138 ++ ([t199.1] : List (List Vis))).length c207), (44, .slice (some ⟨g181, o182, none⟩) s1.length c3), (45, .int .i64 (s1.length : Int)), (46, .int .i64 x142)] ?_
             refine JQ.mask [At.row (some ⟨g188, o189, none⟩) c63 28 fl_Cx.kd.sl tables61 false, At.row Aa206 c207 48 fl_Vis.kd.sl (out138 ++ ([t199.1] : List (List Vis))) false, At.rd (some ⟨g181, o182, none⟩) c3 fl_Vis.kd.sl s1 true] [true, true, true, false, false] ?_
             refine J.region ?_
             refine JL.pur (.int .i64 (w64 (x142 + 1))) (some 76) ?_
             refine JL.mv (.int .i64 (w64 (x142 + 1))) ?_
             refine JL.nil ?_
             refine JQ.then_normal ?_
             exact JQ.again ((out138 ++ ([t199.1] : List (List Vis))), w64 (x142 + 1)) (Aa206, c207) (Option.some.inj H1).symm (fun _ h => Heap.to h)
       · refine J.cond_false h178 ?_
         refine J.exit ?_
         refine JQ.then_exit ?_
         refine JQ.then_exit ?_
         refine JQ.blk_exit ?_
         rw [hb1 _ (Option.some.inj H1).symm, fin_brk] at H0
         exact JQ.met out138 (Aa139, c140) H0 (fun _ h => Heap.to (Heap.pick [1] (by decide) h))
     · clear hit H0
       rintro out174 ⟨Aa175, c176⟩ H0
       replace H0 : corrupt_acted__corrupt_Spoil_1.k4 out174 = some r := H0
       unfold corrupt_acted__corrupt_Spoil_1.k4 at H0
       refine JQ.sub [(13, .slice Aa175 out174.length c176)] ?_
       refine JQ.turn (Δ' := [At.row Aa175 c176 48 fl_Vis.kd.sl out174 false]) (fun _ h => h.to) ?_
       refine JQ.then_normal ?_
       refine J.seq ?_
       refine J.region ?_
       refine JL.mv (.slice Aa175 out174.length c176) ?_
       refine JL.as (.slice Aa175 out174.length c176) ?_
       refine JL.as (.int .i64 0) ?_
       refine JL.nil ?_
       refine JQ.then_normal ?_
       refine JQ.sub [(6, .slice Aa175 out174.length c176), (7, .int .i64 0)] ?_
       refine J.ret ?_
       obtain rfl := Option.some.inj H0
       exact JQ.done' (rs := [.tmp 6, .tmp 7]) (vs := [.slice Aa175 out174.length c176, .int .i64 0]) [At.row Aa175 c176 48 fl_Vis.kd.sl out174 false] (.inr rfl) ⟨by kernel_rfl, by kernel_rfl, trivial⟩ (fun _ h => Heap.to h) ⟨Aa175, c176, rfl, rfl⟩

theorem corrupt_Spoil.ok (s1 : (List (List Vis))) (Aa2 : Option Addr) (c3 : Nat) (l5 : (List Spoil)) (Aa6 : Option Addr) (c7 : Nat) (r : ((List (List Vis)) × Int)) (H0 : corrupt_Spoil.f s1 l5 = some r) :
    Does Try.prog 13 [.slice Aa2 s1.length c3, .slice Aa6 l5.length c7].toArray [At.rd Aa2 c3 fl_Vis.kd.sl s1 true, At.rd Aa6 c7 fl_Spoil.kd l5 true] [] false (fun v Δ => ∃ A1001 : Option Addr, ∃ c1001 : Nat, v = .tuple #[.slice A1001 r.1.length c1001, .int .i64 r.2] ∧ Δ = [At.row A1001 c1001 48 fl_Vis.kd.sl r.1 false]) := by
 refine Does.body (vs := [.slice Aa2 s1.length c3, .slice Aa6 l5.length c7]) Try.func13 rfl ⟨.inl rfl, .inl rfl, trivial⟩ trivial fun w S => ?_
 unfold corrupt_Spoil.f at H0
 refine J.seq ?_
 refine J.region ?_
 refine JL.as (.slice none 0 0) ?_
 refine JL.as (.int .i64 0) ?_
 refine JL.nil ?_
 refine JQ.then_normal ?_
 refine JQ.sub [(0, .slice Aa2 s1.length c3), (1, .slice Aa6 l5.length c7)] ?_
 refine J.seq ?_
 refine J.region ?_
 refine JL.mv (.slice Aa2 s1.length c3) ?_
 refine JL.mv (.slice Aa6 l5.length c7) ?_
 obtain ⟨t9, hc10, H0⟩ := bind_some H0
 refine JL.call [] [] [] (corrupt_acted__corrupt_Spoil_1.ok s1 Aa2 c3 l5 Aa6 c7 _ hc10) ⟨pre_any 0 (view_rd Aa2 c3 fl_Vis.kd.sl s1 true true), ⟨pre_any 1 (view_rd Aa6 c7 fl_Spoil.kd l5 true true), trivial⟩⟩ ?_
 rintro _ _ ⟨Aa11, c12, rfl, rfl⟩
 refine JL.pur (.slice Aa11 t9.1.length c12) (some 9) ?_
 refine JL.pur (.int .i64 t9.2) (some 10) ?_
 refine JL.as (.slice Aa11 t9.1.length c12) ?_
 refine JL.as (.int .i64 t9.2) ?_
 refine JL.nil ?_
 refine JQ.then_normal ?_
 refine JQ.sub [(4, .slice Aa11 t9.1.length c12), (5, .int .i64 t9.2)] ?_
 refine JQ.mask [At.row Aa11 c12 48 fl_Vis.kd.sl t9.1 false] [false, false, true] ?_
 refine J.ret ?_
 obtain rfl := Option.some.inj H0
 exact JQ.done' (rs := [.tmp 4, .tmp 5]) (vs := [.slice Aa11 t9.1.length c12, .int .i64 t9.2]) [At.row Aa11 c12 48 fl_Vis.kd.sl t9.1 false] (.inr rfl) ⟨by kernel_rfl, by kernel_rfl, trivial⟩ (fun _ h => Heap.to h) ⟨Aa11, c12, rfl, rfl⟩

theorem ref26_Same.ok (a1 : (List Vis)) (Aa2 : Option Addr) (c3 : Nat) (b5 : (List Vis)) (Aa6 : Option Addr) (c7 : Nat) (r : Bool) (H0 : ref26_Same.f a1 b5 = some r) :
    Does Try.prog 31 [.slice Aa2 a1.length c3, .slice Aa6 b5.length c7].toArray [At.rd Aa2 c3 fl_Vis.kd a1 true, At.rd Aa6 c7 fl_Vis.kd b5 true] [] false (fun v Δ => v = .bool r ∧ Δ = []) := by
 refine Does.body (vs := [.slice Aa2 a1.length c3, .slice Aa6 b5.length c7]) Try.func31 rfl ⟨.inl rfl, .inl rfl, trivial⟩ trivial fun w S => ?_
 unfold ref26_Same.f at H0
 refine J.seq ?_
 refine J.region ?_
 refine JL.as (.bool false) ?_
 refine JL.nil ?_
 refine JQ.then_normal ?_
 refine JQ.sub [(0, .slice Aa2 a1.length c3), (1, .slice Aa6 b5.length c7)] ?_
 refine J.seq ?_
 refine J.seq ?_
 refine J.region ?_
 refine JL.mv (.slice Aa2 a1.length c3) ?_
 refine JL.pur (.int .i64 (a1.length : Int)) (some 7) ?_
 refine JL.mv (.slice Aa6 b5.length c7) ?_
 refine JL.pur (.int .i64 (b5.length : Int)) (some 9) ?_
 refine JL.pur (.bool (!decide ((a1.length : Int) = (b5.length : Int)))) (some 10) ?_
 refine JL.nil ?_
 refine JQ.then_normal ?_
 refine JQ.sub [(0, .slice Aa2 a1.length c3), (1, .slice Aa6 b5.length c7), (10, .bool (!decide ((a1.length : Int) = (b5.length : Int))))] ?_
 rcases ite_cases H0 with ⟨h9, H0⟩ | ⟨h9, H0⟩
 · refine J.cond_true h9 ?_
   refine J.seq ?_
   refine J.region ?_
   refine JL.as (.bool false) ?_
   refine JL.nil ?_
   refine JQ.then_normal ?_
   refine JQ.sub [(4, .bool false)] ?_
   refine JQ.mask [] [false, false] ?_
   refine J.ret ?_
   refine JQ.then_ret ?_
   obtain rfl := Option.some.inj H0
   exact JQ.done' (rs := [.tmp 4]) (vs := [.bool false]) [] (.inr rfl) ⟨by kernel_rfl, trivial⟩ (fun _ h => Heap.to h) ⟨rfl, rfl⟩
 · refine J.cond_false h9 ?_
   refine J.skip ?_
   refine JQ.then_normal ?_
   refine JQ.sub [(0, .slice Aa2 a1.length c3), (1, .slice Aa6 b5.length c7)] ?_
   refine J.seq ?_
   refine J.seq ?_
   refine J.region ?_
   refine JL.as (.int .i64 0) ?_
   refine JL.nil ?_
   refine JQ.then_normal ?_
   obtain ⟨o1, hit, H0⟩ := bind_some H0
   refine J.loop (σ := Int) (τ := Unit) (G := Unit) (G' := Unit) _ o1 (fun s g => [(0, .slice Aa2 a1.length c3), (1, .slice Aa6 b5.length c7), (5, .int .i64 s)]) (fun s g => [At.rd Aa2 c3 fl_Vis.kd a1 true, At.rd Aa6 c7 fl_Vis.kd b5 true]) (fun t => ref26_Same.k2 = some r) (fun t g => []) (fun t g => []) 0 () hit (fun _ h => Heap.to h) ?_ ?_
   · clear hit
     rintro i32 ⟨⟩ st1 H1 hb1 hr1
     replace H1 : ref26_Same.s1 a1 b5 i32 = some st1 := H1
     unfold ref26_Same.s1 at H1
     refine JQ.sub [(0, .slice Aa2 a1.length c3), (1, .slice Aa6 b5.length c7), (5, .int .i64 i32)] ?_
     refine JQ.turn (Δ' := [At.rd Aa2 c3 fl_Vis.kd a1 true, At.rd Aa6 c7 fl_Vis.kd b5 true]) (fun _ h => h.to) ?_
     refine J.seq ?_
     refine J.seq ?_
     refine J.region ?_
     refine JL.mv (.int .i64 i32) ?_
     refine JL.mv (.slice Aa2 a1.length c3) ?_
     refine JL.pur (.int .i64 (a1.length : Int)) (some 13) ?_
     refine JL.pur (.bool (decide (i32 < (a1.length : Int)))) (some 14) ?_
     refine JL.nil ?_
     refine JQ.then_normal ?_
     refine JQ.sub [(0, .slice Aa2 a1.length c3), (1, .slice Aa6 b5.length c7), (5, .int .i64 i32), (14, .bool (decide (i32 < (a1.length : Int))))] ?_
     rcases ite_cases H1 with ⟨h43, H1⟩ | ⟨h43, H1⟩
     · refine J.cond_true h43 ?_
       refine J.skip ?_
       refine JQ.then_normal ?_
       refine JQ.sub [(0, .slice Aa2 a1.length c3), (1, .slice Aa6 b5.length c7), (5, .int .i64 i32)] ?_
       refine J.seq ?_
       refine J.block ?_
       refine J.seq ?_
       refine J.draw ?_
       refine QL.mv (.slice Aa2 a1.length c3) ?_
       refine QL.mv (.int .i64 i32) ?_
       obtain ⟨⟨h44, h45⟩, H1⟩ := ite_must H1
       refine QL.ixAddr 0 6 c3 .i64 (elems_rd Aa2 c3 fl_Vis.kd a1 true) Try.underlying48 tySize_47 h44 h45 fun g46 o47 hA => ?_
       subst hA
       refine QL.val (mv_47 (ix a1 i32)) (some 20) (gives_loadEl (f := fl_Vis) 0 0 i32 (elems_rd (some ⟨g46, o47, none⟩) c3 fl_Vis.kd a1 true) h44 h45 tySize_47 (.inl ⟨tyAgg_47, rfl⟩)) ?_
       refine QL.mv (.slice Aa6 b5.length c7) ?_
       refine QL.mv (.int .i64 i32) ?_
       obtain ⟨⟨h48, h49⟩, H1⟩ := ite_must H1
       refine QL.ixAddr 1 6 c7 .i64 (elems_rd Aa6 c7 fl_Vis.kd b5 true) Try.underlying48 tySize_47 h48 h49 fun g50 o51 hA => ?_
       subst hA
       refine QL.val (mv_47 (ix b5 i32)) (some 24) (gives_loadEl (f := fl_Vis) 1 0 i32 (elems_rd (some ⟨g50, o51, none⟩) c7 fl_Vis.kd b5 true) h48 h49 tySize_47 (.inl ⟨tyAgg_47, rfl⟩)) ?_
       refine QL.val (.bool (!decide ((ix a1 i32) = (ix b5 i32)))) (some 25) (gives_neq eqg_47 (fun w => eqt_47 (ix a1 i32) (ix b5 i32) w)) ?_
       refine QL.nil ?_
       refine JA.nil ?_
       refine JQ.then_normal ?_
       refine JQ.sub [(0, .slice (some ⟨g46, o47, none⟩) a1.length c3), (1, .slice (some ⟨g50, o51, none⟩) b5.length c7), (5, .int .i64 i32), (25, .bool (!decide ((ix a1 i32) = (ix b5 i32))))] ?_
       rcases ite_cases H1 with ⟨h52, H1⟩ | ⟨h52, H1⟩
       · refine J.cond_true h52 ?_
         refine J.seq ?_
         refine J.region ?_
         refine JL.as (.bool false) ?_
         refine JL.nil ?_
         refine JQ.then_normal ?_
         refine JQ.sub [(4, .bool false)] ?_
         refine JQ.mask [] [false, false] ?_
         refine J.ret ?_
         refine JQ.blk_ret ?_
         refine JQ.then_ret ?_
         refine JQ.then_ret ?_
         refine JQ.blk_ret ?_
         refine JQ.met_ret ?_
         refine JQ.then_ret ?_
         rw [hr1 _ (Option.some.inj H1).symm, fin_ret] at H0
         obtain rfl := Option.some.inj H0
         exact JQ.done' (rs := [.tmp 4]) (vs := [.bool false]) [] (.inr rfl) ⟨by kernel_rfl, trivial⟩ (fun _ h => Heap.to h) ⟨rfl, rfl⟩
       · refine J.cond_false h52 ?_
         refine J.skip ?_
         refine JQ.blk_normal ?_
         refine JQ.then_normal ?_
         refine JQ.sub [(0, .slice (some ⟨g46, o47, none⟩) a1.length c3), (1, .slice (some ⟨g50, o51, none⟩) b5.length c7), (5, .int .i64 i32)] ?_
         refine J.region ?_
         refine JL.mv (.int .i64 i32) ?_
         refine JL.pur (.int .i64 (w64 (i32 + 1))) (some 16) ?_
         refine JL.as (.int .i64 (w64 (i32 + 1))) ?_
         refine JL.nil ?_
         refine JQ.then_normal ?_
         exact JQ.again (w64 (i32 + 1)) () (Option.some.inj H1).symm (fun _ h => Heap.to h)
     · refine J.cond_false h43 ?_
       refine J.exit ?_
       refine JQ.then_exit ?_
       refine JQ.then_exit ?_
       refine JQ.blk_exit ?_
       rw [hb1 _ (Option.some.inj H1).symm, fin_brk] at H0
       exact JQ.met () () H0 (fun _ h => Heap.to (Heap.pick [] (by decide) h))
   · clear hit H0
     rintro ⟨⟩ ⟨⟩ H0
     replace H0 : ref26_Same.k2 = some r := H0
     unfold ref26_Same.k2 at H0
     refine JQ.sub [] ?_
     refine JQ.turn (Δ' := []) (fun _ h => h.to) ?_
     refine JQ.then_normal ?_
     refine J.seq ?_
     refine J.region ?_
     refine JL.as (.bool true) ?_
     refine JL.nil ?_
     refine JQ.then_normal ?_
     refine J.ret ?_
     obtain rfl := Option.some.inj H0
     exact JQ.done' (rs := [.tmp 4]) (vs := [.bool true]) [] (.inr rfl) ⟨by kernel_rfl, trivial⟩ (fun _ h => Heap.to h) ⟨rfl, rfl⟩

theorem ref35_Same.ok (a1 : (List (List Vis))) (Aa2 : Option Addr) (c3 : Nat) (b5 : (List (List Vis))) (Aa6 : Option Addr) (c7 : Nat) (r : Bool) (H0 : ref35_Same.f a1 b5 = some r) :
    Does Try.prog 14 [.slice Aa2 a1.length c3, .slice Aa6 b5.length c7].toArray [At.rd Aa2 c3 fl_Vis.kd.sl a1 true, At.rd Aa6 c7 fl_Vis.kd.sl b5 true] [] false (fun v Δ => v = .bool r ∧ Δ = []) := by
 refine Does.body (vs := [.slice Aa2 a1.length c3, .slice Aa6 b5.length c7]) Try.func14 rfl ⟨.inl rfl, .inl rfl, trivial⟩ trivial fun w S => ?_
 unfold ref35_Same.f at H0
 refine J.seq ?_
 refine J.region ?_
 refine JL.as (.bool false) ?_
 refine JL.nil ?_
 refine JQ.then_normal ?_
 refine JQ.sub [(0, .slice Aa2 a1.length c3), (1, .slice Aa6 b5.length c7)] ?_
 refine J.seq ?_
 refine J.seq ?_
 refine J.region ?_
 refine JL.mv (.slice Aa2 a1.length c3) ?_
 refine JL.pur (.int .i64 (a1.length : Int)) (some 7) ?_
 refine JL.mv (.slice Aa6 b5.length c7) ?_
 refine JL.pur (.int .i64 (b5.length : Int)) (some 9) ?_
 refine JL.pur (.bool (!decide ((a1.length : Int) = (b5.length : Int)))) (some 10) ?_
 refine JL.nil ?_
 refine JQ.then_normal ?_
 refine JQ.sub [(0, .slice Aa2 a1.length c3), (1, .slice Aa6 b5.length c7), (10, .bool (!decide ((a1.length : Int) = (b5.length : Int))))] ?_
 rcases ite_cases H0 with ⟨h9, H0⟩ | ⟨h9, H0⟩
 · refine J.cond_true h9 ?_
   refine J.seq ?_
   refine J.region ?_
   refine JL.as (.bool false) ?_
   refine JL.nil ?_
   refine JQ.then_normal ?_
   refine JQ.sub [(4, .bool false)] ?_
   refine JQ.mask [] [false, false] ?_
   refine J.ret ?_
   refine JQ.then_ret ?_
   obtain rfl := Option.some.inj H0
   exact JQ.done' (rs := [.tmp 4]) (vs := [.bool false]) [] (.inr rfl) ⟨by kernel_rfl, trivial⟩ (fun _ h => Heap.to h) ⟨rfl, rfl⟩
 · refine J.cond_false h9 ?_
   refine J.skip ?_
   refine JQ.then_normal ?_
   refine JQ.sub [(0, .slice Aa2 a1.length c3), (1, .slice Aa6 b5.length c7)] ?_
   refine J.seq ?_
   refine J.seq ?_
   refine J.region ?_
   refine JL.as (.int .i64 0) ?_
   refine JL.nil ?_
   refine JQ.then_normal ?_
   obtain ⟨o1, hit, H0⟩ := bind_some H0
   refine J.loop (σ := Int) (τ := Unit) (G := Unit) (G' := Unit) _ o1 (fun s g => [(0, .slice Aa2 a1.length c3), (1, .slice Aa6 b5.length c7), (5, .int .i64 s)]) (fun s g => [At.rd Aa2 c3 fl_Vis.kd.sl a1 true, At.rd Aa6 c7 fl_Vis.kd.sl b5 true]) (fun t => ref35_Same.k5 = some r) (fun t g => []) (fun t g => []) 0 () hit (fun _ h => Heap.to h) ?_ ?_
   · clear hit
     rintro t194 ⟨⟩ st1 H1 hb1 hr1
     replace H1 : ref35_Same.s4 a1 b5 t194 = some st1 := H1
     unfold ref35_Same.s4 at H1
     refine JQ.sub [(0, .slice Aa2 a1.length c3), (1, .slice Aa6 b5.length c7), (5, .int .i64 t194)] ?_
     refine JQ.turn (Δ' := [At.rd Aa2 c3 fl_Vis.kd.sl a1 true, At.rd Aa6 c7 fl_Vis.kd.sl b5 true]) (fun _ h => h.to) ?_
     refine J.seq ?_
     refine J.seq ?_
     refine J.region ?_
     refine JL.mv (.int .i64 t194) ?_
     refine JL.mv (.slice Aa2 a1.length c3) ?_
     refine JL.pur (.int .i64 (a1.length : Int)) (some 13) ?_
     refine JL.pur (.bool (decide (t194 < (a1.length : Int)))) (some 14) ?_
     refine JL.nil ?_
     refine JQ.then_normal ?_
     refine JQ.sub [(0, .slice Aa2 a1.length c3), (1, .slice Aa6 b5.length c7), (5, .int .i64 t194), (14, .bool (decide (t194 < (a1.length : Int))))] ?_
     rcases ite_cases H1 with ⟨h286, H1⟩ | ⟨h286, H1⟩
     · refine J.cond_true h286 ?_
       refine J.skip ?_
       refine JQ.then_normal ?_
       refine JQ.sub [(0, .slice Aa2 a1.length c3), (1, .slice Aa6 b5.length c7), (5, .int .i64 t194)] ?_
       refine J.seq ?_
       refine J.block ?_
       refine J.join (T := Bool) (G := Unit) (fun t => ref35_Same.k6 t194 t = some st1) (fun t g => [(0, .slice Aa2 a1.length c3), (1, .slice Aa6 b5.length c7), (5, .int .i64 t194), (26, .bool t)]) (fun t g => [At.rd Aa2 c3 fl_Vis.kd.sl a1 true, At.rd Aa6 c7 fl_Vis.kd.sl b5 true]) ?_ ?_
       · obtain ⟨⟨h333, h334⟩, H1⟩ := ite_must H1
         obtain ⟨⟨h340, h341⟩, H1⟩ := ite_must H1
         obtain ⟨t347, hc348, H1⟩ := bind_some H1
         refine JQ.openA 0 (elems_rd Aa2 c3 fl_Vis.kd.sl a1 true) h333 h334 fun g349 o350 hA => ?_
         subst hA
         refine JQ.openA 1 (elems_rd Aa6 c7 fl_Vis.kd.sl b5 true) h340 h341 fun g351 o352 hA => ?_
         subst hA
         refine JY.start [] (ba 10 0) ?_
         refine JY.pur (hi := rfl) 0 (ba 10 1) (.slice (some ⟨g349, o350, none⟩) a1.length c3) (some 17) want ?_
         refine JY.pur (hi := rfl) 1 (ba 10 3) (.int .i64 t194) (some 18) want ?_
         obtain ⟨h353, h354⟩ : 0 ≤ t194 ∧ t194 < (a1.length : Int) := ⟨h333, h334⟩
         refine JY.puw (hi := rfl) 2 (ba 10 7) (.pointer (some ⟨g349, o350 + t194.toNat * 1, none⟩)) (some 19) want (givesW_ixSl (g := g349) (o := o350) (n := a1.length) (i := t194) 1 c3 .i64 Try.underlying37 tySize_48 h353 h354) ?_
         refine JY.pur (hi := rfl) 4 (ba 10 23) (.slice (some ⟨g351, o352, none⟩) b5.length c7) (some 21) want ?_
         refine JY.pur (hi := rfl) 5 (ba 10 55) (.int .i64 t194) (some 22) want ?_
         obtain ⟨h357, h358⟩ : 0 ≤ t194 ∧ t194 < (b5.length : Int) := ⟨h340, h341⟩
         refine JY.puw (hi := rfl) 6 (ba 10 119) (.pointer (some ⟨g351, o352 + t194.toNat * 1, none⟩)) (some 23) want (givesW_ixSl (g := g351) (o := o352) (n := b5.length) (i := t194) 1 c7 .i64 Try.underlying37 tySize_48 h357 h358) ?_
         refine JY.all [3, 7] ⟨⟨_, rfl, ?_⟩, ⟨_, rfl, ?_⟩, trivial⟩
         · refine JL.loadEl (fun q : Option Addr × Nat => [.slice q.1 (ix a1 t194).length q.2]) (fun q : Option Addr × Nat => [At.rd q.1 q.2 fl_Vis.kd (ix a1 t194) true]) (fun q : Option Addr × Nat => .slice q.1 (ix a1 t194).length q.2) (off := 0) 0 (elems_rd (some ⟨g349, o350, none⟩) c3 fl_Vis.kd.sl a1 true) (opens_sl fl_Vis.kd _ _) h353 h354 tySize_48 (.inr ⟨tyAgg_48, rfl, fun _ => rfl⟩) ?_
           rintro ⟨Aa361, c362⟩
           refine JL.nil ?_
           refine JY.ran (ba 10 127) [true, true, false] ?_
           refine JY.all [7] ⟨⟨_, rfl, ?_⟩, trivial⟩
           refine JL.loadEl (fun q : Option Addr × Nat => [.slice q.1 (ix b5 t194).length q.2]) (fun q : Option Addr × Nat => [At.rd q.1 q.2 fl_Vis.kd (ix b5 t194) true]) (fun q : Option Addr × Nat => .slice q.1 (ix b5 t194).length q.2) (off := 0) 1 (elems_rd (some ⟨g351, o352, none⟩) c7 fl_Vis.kd.sl b5 true) (opens_sl fl_Vis.kd _ _) h357 h358 tySize_48 (.inr ⟨tyAgg_48, rfl, fun _ => rfl⟩) ?_
           rintro ⟨Aa364, c365⟩
           refine JL.nil ?_
           refine JY.ran (ba 10 255) [true, true, false, false] ?_
           refine JY.all [8] ⟨⟨_, rfl, ?_⟩, trivial⟩
           refine JL.call [] [] [] (ref26_Same.ok (ix a1 t194) Aa361 c362 (ix b5 t194) Aa364 c365 _ hc348) ⟨pre_any 2 (view_rd Aa361 c362 fl_Vis.kd (ix a1 t194) true true), ⟨pre_any 3 (view_rd Aa364 c365 fl_Vis.kd (ix b5 t194) true true), trivial⟩⟩ ?_
           rintro _ _ ⟨rfl, rfl⟩
           refine JL.nil ?_
           refine JY.ran (ba 10 511) [true, true, false, false] ?_
           refine JY.pur (hi := rfl) 9 (ba 10 1023) (.bool (!t347)) (some 26) want ?_
           refine JY.done ?_
           refine JQ.then_normal ?_
           exact JQ.meet (!t347) () H1 (fun _ h => Heap.to (Heap.pick [0, 1] (by decide) h))
         · refine JL.loadEl (fun q : Option Addr × Nat => [.slice q.1 (ix b5 t194).length q.2]) (fun q : Option Addr × Nat => [At.rd q.1 q.2 fl_Vis.kd (ix b5 t194) true]) (fun q : Option Addr × Nat => .slice q.1 (ix b5 t194).length q.2) (off := 0) 1 (elems_rd (some ⟨g351, o352, none⟩) c7 fl_Vis.kd.sl b5 true) (opens_sl fl_Vis.kd _ _) h357 h358 tySize_48 (.inr ⟨tyAgg_48, rfl, fun _ => rfl⟩) ?_
           rintro ⟨Aa369, c370⟩
           refine JL.nil ?_
           refine JY.ran (ba 10 247) [true, true, false] ?_
           refine JY.all [3] ⟨⟨_, rfl, ?_⟩, trivial⟩
           refine JL.loadEl (fun q : Option Addr × Nat => [.slice q.1 (ix a1 t194).length q.2]) (fun q : Option Addr × Nat => [At.rd q.1 q.2 fl_Vis.kd (ix a1 t194) true]) (fun q : Option Addr × Nat => .slice q.1 (ix a1 t194).length q.2) (off := 0) 0 (elems_rd (some ⟨g349, o350, none⟩) c3 fl_Vis.kd.sl a1 true) (opens_sl fl_Vis.kd _ _) h353 h354 tySize_48 (.inr ⟨tyAgg_48, rfl, fun _ => rfl⟩) ?_
           rintro ⟨Aa372, c373⟩
           refine JL.nil ?_
           refine JY.ran (ba 10 255) [true, true, false, false] ?_
           refine JY.all [8] ⟨⟨_, rfl, ?_⟩, trivial⟩
           refine JL.call [] [] [] (ref26_Same.ok (ix a1 t194) Aa372 c373 (ix b5 t194) Aa369 c370 _ hc348) ⟨pre_any 3 (view_rd Aa372 c373 fl_Vis.kd (ix a1 t194) true true), ⟨pre_any 2 (view_rd Aa369 c370 fl_Vis.kd (ix b5 t194) true true), trivial⟩⟩ ?_
           rintro _ _ ⟨rfl, rfl⟩
           refine JL.nil ?_
           refine JY.ran (ba 10 511) [true, true, false, false] ?_
           refine JY.pur (hi := rfl) 9 (ba 10 1023) (.bool (!t347)) (some 26) want ?_
           refine JY.done ?_
           refine JQ.then_normal ?_
           exact JQ.meet (!t347) () H1 (fun _ h => Heap.to (Heap.pick [0, 1] (by decide) h))
       · clear H1
         rintro x331 ⟨⟩ H1
         replace H1 : ref35_Same.k6 t194 x331 = some st1 := H1
         unfold ref35_Same.k6 at H1
         refine JQ.sub [(0, .slice Aa2 a1.length c3), (1, .slice Aa6 b5.length c7), (5, .int .i64 t194), (26, .bool x331)] ?_
         refine JQ.turn (Δ' := [At.rd Aa2 c3 fl_Vis.kd.sl a1 true, At.rd Aa6 c7 fl_Vis.kd.sl b5 true]) (fun _ h => h.to) ?_
         rcases ite_cases H1 with ⟨h332, H1⟩ | ⟨h332, H1⟩
         · refine J.cond_true h332 ?_
           refine J.seq ?_
           refine J.region ?_
           refine JL.as (.bool false) ?_
           refine JL.nil ?_
           refine JQ.then_normal ?_
           refine JQ.sub [(4, .bool false)] ?_
           refine JQ.mask [] [false, false] ?_
           refine J.ret ?_
           refine JQ.blk_ret ?_
           refine JQ.then_ret ?_
           refine JQ.then_ret ?_
           refine JQ.blk_ret ?_
           refine JQ.met_ret ?_
           refine JQ.then_ret ?_
           rw [hr1 _ (Option.some.inj H1).symm, fin_ret] at H0
           obtain rfl := Option.some.inj H0
           exact JQ.done' (rs := [.tmp 4]) (vs := [.bool false]) [] (.inr rfl) ⟨by kernel_rfl, trivial⟩ (fun _ h => Heap.to h) ⟨rfl, rfl⟩
         · refine J.cond_false h332 ?_
           refine J.skip ?_
           refine JQ.blk_normal ?_
           refine JQ.then_normal ?_
           refine JQ.sub [(0, .slice Aa2 a1.length c3), (1, .slice Aa6 b5.length c7), (5, .int .i64 t194)] ?_
           refine J.region ?_
           refine JL.mv (.int .i64 t194) ?_
           refine JL.pur (.int .i64 (w64 (t194 + 1))) (some 16) ?_
           refine JL.as (.int .i64 (w64 (t194 + 1))) ?_
           refine JL.nil ?_
           refine JQ.then_normal ?_
           exact JQ.again (w64 (t194 + 1)) () (Option.some.inj H1).symm (fun _ h => Heap.to h)
     · refine J.cond_false h286 ?_
       refine J.exit ?_
       refine JQ.then_exit ?_
       refine JQ.then_exit ?_
       refine JQ.blk_exit ?_
       rw [hb1 _ (Option.some.inj H1).symm, fin_brk] at H0
       exact JQ.met () () H0 (fun _ h => Heap.to (Heap.pick [] (by decide) h))
   · clear hit H0
     rintro ⟨⟩ ⟨⟩ H0
     replace H0 : ref35_Same.k5 = some r := H0
     unfold ref35_Same.k5 at H0
     refine JQ.sub [] ?_
     refine JQ.turn (Δ' := []) (fun _ h => h.to) ?_
     refine JQ.then_normal ?_
     refine J.seq ?_
     refine J.region ?_
     refine JL.as (.bool true) ?_
     refine JL.nil ?_
     refine JQ.then_normal ?_
     refine J.ret ?_
     obtain rfl := Option.some.inj H0
     exact JQ.done' (rs := [.tmp 4]) (vs := [.bool true]) [] (.inr rfl) ⟨by kernel_rfl, trivial⟩ (fun _ h => Heap.to h) ⟨rfl, rfl⟩

theorem law35_CorruptOrder.ok (s1 : (List (List Vis))) (Aa2 : Option Addr) (c3 : Nat) (l5 : (List Spoil)) (Aa6 : Option Addr) (c7 : Nat) (at9 : Int) (r : Bool) (H0 : law35_CorruptOrder.f s1 l5 at9 = some r) :
    Does Try.prog 4 [.slice Aa2 s1.length c3, .slice Aa6 l5.length c7, .int .i64 at9].toArray [At.rd Aa2 c3 fl_Vis.kd.sl s1 true, At.rd Aa6 c7 fl_Spoil.kd l5 true] [] false (fun v Δ => v = .bool r ∧ Δ = []) := by
 refine Does.body (vs := [.slice Aa2 s1.length c3, .slice Aa6 l5.length c7, .int .i64 at9]) Try.func4 rfl ⟨.inl rfl, .inl rfl, trivial⟩ trivial fun w S => ?_
 unfold law35_CorruptOrder.f at H0
 refine J.seq ?_
 refine J.region ?_
 refine JL.as (.bool false) ?_
 refine JL.nil ?_
 refine JQ.then_normal ?_
 refine JQ.sub [(0, .slice Aa2 s1.length c3), (1, .slice Aa6 l5.length c7), (2, .int .i64 at9)] ?_
 refine J.seq ?_
 refine J.region ?_
 obtain ⟨t10, hc11, H0⟩ := bind_some H0
 refine JL.call [] [] [] (law35_alive.ok _ hc11) trivial ?_
 rintro _ _ ⟨rfl, rfl⟩
 refine JL.as (.bool t10) ?_
 refine JL.nil ?_
 refine JQ.then_normal ?_
 refine JQ.sub [(0, .slice Aa2 s1.length c3), (1, .slice Aa6 l5.length c7), (2, .int .i64 at9), (7, .bool t10)] ?_
 refine J.seq ?_
 refine J.join (T := Bool) (G := Unit) (fun t => law35_CorruptOrder.k1 s1 l5 at9 t10 t = some r) (fun t g => [(0, .slice Aa2 s1.length c3), (1, .slice Aa6 l5.length c7), (2, .int .i64 at9), (7, .bool t10), (44, .bool t)]) (fun t g => [At.rd Aa2 c3 fl_Vis.kd.sl s1 true, At.rd Aa6 c7 fl_Spoil.kd l5 true]) ?_ ?_
 · refine J.region ?_
   refine JL.mv (.slice Aa2 s1.length c3) ?_
   obtain ⟨t128, hc129, H0⟩ := bind_some H0
   refine JL.call [] [] [] (ref35_Great.ok s1 Aa2 c3 _ hc129) ⟨pre_any 0 (view_rd Aa2 c3 fl_Vis.kd.sl s1 true true), trivial⟩ ?_
   rintro _ _ ⟨rfl, rfl⟩
   refine JL.mv (.bool t128) ?_
   rcases ite_cases H0 with ⟨h130, H0⟩ | ⟨h130, H0⟩
   · refine JL.off 2 21 false (some 22) h130 ?_
     refine JL.off 2 21 false (some 23) h130 ?_
     refine JL.off 2 21 false (some 24) h130 ?_
     refine JL.val (.bool true) (some 25) (gives_pickT h130) ?_
     refine JL.mv (.bool true) ?_
     refine JL.off 7 26 false (some 27) rfl ?_
     refine JL.off 7 26 false (some 28) rfl ?_
     refine JL.off 7 26 false (some 29) rfl ?_
     refine JL.val (.bool true) (some 30) (gives_pickT rfl) ?_
     refine JL.mv (.bool true) ?_
     refine JL.off 12 31 false (some 32) rfl ?_
     refine JL.off 12 31 false (some 33) rfl ?_
     refine JL.val (.bool true) (some 34) (gives_pickT rfl) ?_
     refine JL.mv (.bool true) ?_
     refine JL.off 16 35 false (some 36) rfl ?_
     refine JL.off 16 35 false (some 37) rfl ?_
     refine JL.off 16 35 false (some 38) rfl ?_
     refine JL.off 16 35 false (some 39) rfl ?_
     refine JL.val (.bool true) (some 40) (gives_pickT rfl) ?_
     refine JL.mv (.bool true) ?_
     refine JL.off 22 41 false (some 42) rfl ?_
     refine JL.off 22 41 false (some 43) rfl ?_
     refine JL.val (.bool true) (some 44) (gives_pickT rfl) ?_
     refine JL.nil ?_
     refine JQ.then_normal ?_
     exact JQ.meet true () H0 (fun _ h => Heap.to h)
   · refine JL.on 2 21 h130 ?_
     refine JL.mv (.slice Aa2 s1.length c3) ?_
     refine JL.on 2 21 h130 ?_
     obtain ⟨t131, hc132, H0⟩ := bind_some H0
     refine JL.call [] [] [] (ref35_Check.ok s1 Aa2 c3 _ hc132) ⟨pre_any 0 (view_rd Aa2 c3 fl_Vis.kd.sl s1 true true), trivial⟩ ?_
     rintro _ _ ⟨rfl, rfl⟩
     refine JL.on 2 21 h130 ?_
     refine JL.pur (.bool (!decide (t131 = 0))) (some 24) ?_
     refine JL.val (.bool (!decide (t131 = 0))) (some 25) (gives_pickF h130) ?_
     refine JL.mv (.bool (!decide (t131 = 0))) ?_
     rcases ite_cases H0 with ⟨h133, H0⟩ | ⟨h133, H0⟩
     · refine JL.off 7 26 false (some 27) h133 ?_
       refine JL.off 7 26 false (some 28) h133 ?_
       refine JL.off 7 26 false (some 29) h133 ?_
       refine JL.val (.bool true) (some 30) (gives_pickT h133) ?_
       refine JL.mv (.bool true) ?_
       refine JL.off 12 31 false (some 32) rfl ?_
       refine JL.off 12 31 false (some 33) rfl ?_
       refine JL.val (.bool true) (some 34) (gives_pickT rfl) ?_
       refine JL.mv (.bool true) ?_
       refine JL.off 16 35 false (some 36) rfl ?_
       refine JL.off 16 35 false (some 37) rfl ?_
       refine JL.off 16 35 false (some 38) rfl ?_
       refine JL.off 16 35 false (some 39) rfl ?_
       refine JL.val (.bool true) (some 40) (gives_pickT rfl) ?_
       refine JL.mv (.bool true) ?_
       refine JL.off 22 41 false (some 42) rfl ?_
       refine JL.off 22 41 false (some 43) rfl ?_
       refine JL.val (.bool true) (some 44) (gives_pickT rfl) ?_
       refine JL.nil ?_
       refine JQ.then_normal ?_
       exact JQ.meet true () H0 (fun _ h => Heap.to h)
     · refine JL.on 7 26 h133 ?_
       refine JL.mv (.slice Aa6 l5.length c7) ?_
       refine JL.on 7 26 h133 ?_
       refine JL.pur (.int .i64 (l5.length : Int)) (some 28) ?_
       refine JL.on 7 26 h133 ?_
       refine JL.pur (.bool (decide (8 < (l5.length : Int)))) (some 29) ?_
       refine JL.val (.bool (decide (8 < (l5.length : Int)))) (some 30) (gives_pickF h133) ?_
       refine JL.mv (.bool (decide (8 < (l5.length : Int)))) ?_
       rcases ite_cases H0 with ⟨h134, H0⟩ | ⟨h134, H0⟩
       · refine JL.off 12 31 false (some 32) h134 ?_
         refine JL.off 12 31 false (some 33) h134 ?_
         refine JL.val (.bool true) (some 34) (gives_pickT h134) ?_
         refine JL.mv (.bool true) ?_
         refine JL.off 16 35 false (some 36) rfl ?_
         refine JL.off 16 35 false (some 37) rfl ?_
         refine JL.off 16 35 false (some 38) rfl ?_
         refine JL.off 16 35 false (some 39) rfl ?_
         refine JL.val (.bool true) (some 40) (gives_pickT rfl) ?_
         refine JL.mv (.bool true) ?_
         refine JL.off 22 41 false (some 42) rfl ?_
         refine JL.off 22 41 false (some 43) rfl ?_
         refine JL.val (.bool true) (some 44) (gives_pickT rfl) ?_
         refine JL.nil ?_
         refine JQ.then_normal ?_
         exact JQ.meet true () H0 (fun _ h => Heap.to h)
       · refine JL.on 12 31 h134 ?_
         refine JL.mv (.int .i64 at9) ?_
         refine JL.on 12 31 h134 ?_
         refine JL.pur (.bool (decide (at9 < 0))) (some 33) ?_
         refine JL.val (.bool (decide (at9 < 0))) (some 34) (gives_pickF h134) ?_
         refine JL.mv (.bool (decide (at9 < 0))) ?_
         rcases ite_cases H0 with ⟨h135, H0⟩ | ⟨h135, H0⟩
         · refine JL.off 16 35 false (some 36) h135 ?_
           refine JL.off 16 35 false (some 37) h135 ?_
           refine JL.off 16 35 false (some 38) h135 ?_
           refine JL.off 16 35 false (some 39) h135 ?_
           refine JL.val (.bool true) (some 40) (gives_pickT h135) ?_
           refine JL.mv (.bool true) ?_
           refine JL.off 22 41 false (some 42) rfl ?_
           refine JL.off 22 41 false (some 43) rfl ?_
           refine JL.val (.bool true) (some 44) (gives_pickT rfl) ?_
           refine JL.nil ?_
           refine JQ.then_normal ?_
           exact JQ.meet true () H0 (fun _ h => Heap.to h)
         · refine JL.on 16 35 h135 ?_
           refine JL.mv (.int .i64 at9) ?_
           refine JL.on 16 35 h135 ?_
           refine JL.mv (.slice Aa6 l5.length c7) ?_
           refine JL.on 16 35 h135 ?_
           refine JL.pur (.int .i64 (l5.length : Int)) (some 38) ?_
           refine JL.on 16 35 h135 ?_
           refine JL.pur (.bool (decide ((l5.length : Int) < at9))) (some 39) ?_
           refine JL.val (.bool (decide ((l5.length : Int) < at9))) (some 40) (gives_pickF h135) ?_
           refine JL.mv (.bool (decide ((l5.length : Int) < at9))) ?_
           rcases ite_cases H0 with ⟨h136, H0⟩ | ⟨h136, H0⟩
           · refine JL.off 22 41 false (some 42) h136 ?_
             refine JL.off 22 41 false (some 43) h136 ?_
             refine JL.val (.bool true) (some 44) (gives_pickT h136) ?_
             refine JL.nil ?_
             refine JQ.then_normal ?_
             exact JQ.meet true () H0 (fun _ h => Heap.to h)
           · refine JL.on 22 41 h136 ?_
             refine JL.mv (.bool t10) ?_
             refine JL.on 22 41 h136 ?_
             refine JL.pur (.bool (!t10)) (some 43) ?_
             refine JL.val (.bool (!t10)) (some 44) (gives_pickF h136) ?_
             refine JL.nil ?_
             refine JQ.then_normal ?_
             exact JQ.meet (!t10) () H0 (fun _ h => Heap.to h)
 · clear H0
   rintro x21 ⟨⟩ H0
   replace H0 : law35_CorruptOrder.k1 s1 l5 at9 t10 x21 = some r := H0
   unfold law35_CorruptOrder.k1 at H0
   refine JQ.sub [(0, .slice Aa2 s1.length c3), (1, .slice Aa6 l5.length c7), (2, .int .i64 at9), (7, .bool t10), (44, .bool x21)] ?_
   refine JQ.turn (Δ' := [At.rd Aa2 c3 fl_Vis.kd.sl s1 true, At.rd Aa6 c7 fl_Spoil.kd l5 true]) (fun _ h => h.to) ?_
   rcases ite_cases H0 with ⟨h22, H0⟩ | ⟨h22, H0⟩
   · refine J.cond_true h22 ?_
     refine J.seq ?_
     refine J.region ?_
     refine JL.mv (.bool t10) ?_
     refine JL.as (.bool t10) ?_
     refine JL.nil ?_
     refine JQ.then_normal ?_
     refine JQ.sub [(6, .bool t10)] ?_
     refine JQ.mask [] [false, false] ?_
     refine J.ret ?_
     refine JQ.then_ret ?_
     obtain rfl := Option.some.inj H0
     exact JQ.done' (rs := [.tmp 6]) (vs := [.bool t10]) [] (.inr rfl) ⟨by kernel_rfl, trivial⟩ (fun _ h => Heap.to h) ⟨rfl, rfl⟩
   · refine J.cond_false h22 ?_
     refine J.skip ?_
     refine JQ.then_normal ?_
     refine JQ.sub [(0, .slice Aa2 s1.length c3), (1, .slice Aa6 l5.length c7), (2, .int .i64 at9), (7, .bool t10)] ?_
     refine J.seq ?_
     refine J.region ?_
     refine JL.as (.slice none 0 0) ?_
     refine JL.nil ?_
     refine JQ.then_normal ?_
     refine J.seq ?_
     refine J.seq ?_
     refine J.region ?_
     refine JL.mv (.slice Aa6 l5.length c7) ?_
     refine JL.pur (.int .i64 (l5.length : Int)) (some 47) ?_
     refine JL.pur (.int .i64 (w64 ((l5.length : Int) - 1))) (some 48) ?_
     obtain ⟨i23, ei23, H0⟩ := lt_some H0
     refine JL.as' (k := .i64) i23 ei23 ?_
     refine JL.nil ?_
     refine JQ.then_normal ?_
     refine JQ.sub [(0, .slice Aa2 s1.length c3), (1, .slice Aa6 l5.length c7), (2, .int .i64 at9), (7, .bool t10), (8, .slice none 0 0), (9, .int .i64 i23)] ?_
     obtain ⟨o1, hit, H0⟩ := bind_some H0
     refine J.loop (σ := ((List Spoil) × Int)) (τ := List Spoil) (G := ((Option Addr) × Nat)) (G' := ((Option Addr) × Nat)) _ o1 (fun s g => [(0, .slice Aa2 s1.length c3), (1, .slice Aa6 l5.length c7), (2, .int .i64 at9), (7, .bool t10), (8, .slice g.1 s.1.length g.2), (9, .int .i64 s.2)]) (fun s g => [At.rd Aa2 c3 fl_Vis.kd.sl s1 true, At.rd Aa6 c7 fl_Spoil.kd l5 true, At.row g.1 g.2 25 fl_Spoil.kd s.1 false]) (fun t => law35_CorruptOrder.k3 s1 l5 at9 t10 t = some r) (fun t g => [(0, .slice Aa2 s1.length c3), (1, .slice Aa6 l5.length c7), (2, .int .i64 at9), (7, .bool t10), (8, .slice g.1 t.length g.2)]) (fun t g => [At.rd Aa2 c3 fl_Vis.kd.sl s1 true, At.rd Aa6 c7 fl_Spoil.kd l5 true, At.row g.1 g.2 25 fl_Spoil.kd t false]) ([], i23) (none, 0) hit (fun _ h => Heap.to (Heap.addRow0 (α := Spoil) 25 fl_Spoil.kd false h)) ?_ ?_
     · clear hit
       rintro ⟨back53, i57⟩ ⟨Aa54, c55⟩ st1 H1 hb1 hr1
       replace H1 : law35_CorruptOrder.s2 l5 back53 i57 = some st1 := H1
       unfold law35_CorruptOrder.s2 at H1
       refine JQ.sub [(0, .slice Aa2 s1.length c3), (1, .slice Aa6 l5.length c7), (2, .int .i64 at9), (7, .bool t10), (8, .slice Aa54 back53.length c55), (9, .int .i64 i57)] ?_
       refine JQ.turn (Δ' := [At.rd Aa2 c3 fl_Vis.kd.sl s1 true, At.rd Aa6 c7 fl_Spoil.kd l5 true, At.row Aa54 c55 25 fl_Spoil.kd back53 false]) (fun _ h => h.to) ?_
       refine J.seq ?_
       refine J.seq ?_
       refine J.region ?_
       refine JL.mv (.int .i64 i57) ?_
       refine JL.pur (.bool (decide (0 ≤ i57))) (some 50) ?_
       refine JL.nil ?_
       refine JQ.then_normal ?_
       refine JQ.sub [(0, .slice Aa2 s1.length c3), (1, .slice Aa6 l5.length c7), (2, .int .i64 at9), (7, .bool t10), (8, .slice Aa54 back53.length c55), (9, .int .i64 i57), (50, .bool (decide (0 ≤ i57)))] ?_
       rcases ite_cases H1 with ⟨h119, H1⟩ | ⟨h119, H1⟩
       · refine J.cond_true h119 ?_
         refine J.skip ?_
         refine JQ.then_normal ?_
         refine JQ.sub [(0, .slice Aa2 s1.length c3), (1, .slice Aa6 l5.length c7), (2, .int .i64 at9), (7, .bool t10), (8, .slice Aa54 back53.length c55), (9, .int .i64 i57)] ?_
         refine J.seq ?_
         refine J.block ?_
         refine J.region ?_
         refine JL.mv (.slice Aa54 back53.length c55) ?_
         refine JL.mv (.slice Aa6 l5.length c7) ?_
         refine JL.mv (.int .i64 i57) ?_
         obtain ⟨⟨h120, h121⟩, H1⟩ := ite_must H1
         refine JL.ixAddr 1 8 c7 .i64 (elems_rd Aa6 c7 fl_Spoil.kd l5 true) Try.underlying32 tySize_25 h120 h121 fun g122 o123 hA => ?_
         subst hA
         refine JL.val (mv_25 (ix l5 i57)) (some 57) (gives_loadEl (f := fl_Spoil) 1 0 i57 (elems_rd (some ⟨g122, o123, none⟩) c7 fl_Spoil.kd l5 true) h120 h121 tySize_25 (.inl ⟨tyAgg_25, rfl⟩)) ?_
         refine JL.buildSl 25 fl_Spoil.kd (([(ix l5 i57)] : List Spoil) : List Spoil) [.int .u8 ((ix l5 i57).Kind), .int .i64 ((ix l5 i57).Station), .int .i64 ((ix l5 i57).From), .int .i64 ((ix l5 i57).To), .int .i64 ((ix l5 i57).V.Re), .int .i64 ((ix l5 i57).V.Im), .int .i64 ((ix l5 i57).V.Den), .int .i64 ((ix l5 i57).Q)] false (closes_fl rfl) fun b124 => ?_
         obtain ⟨h127, H1⟩ := ite_must H1
         refine JL.append false false 2 3 Aa54 c55 1 back53 (elems_row (some ⟨b124, 0, none⟩) 1 25 fl_Spoil.kd ([(ix l5 i57)] : List Spoil) false) Try.underlying32 info_25 (by omega) (by omega) (fun h => h) (.inr ⟨_, rfl⟩) fun Aa125 c126 => ?_
         refine JL.as (.slice Aa125 (back53 ++ ([(ix l5 i57)] : List Spoil)).length c126) ?_
         refine JL.nil ?_
         refine JQ.blk_normal ?_
         refine JQ.then_normal ?_
         refine JQ.sub [(0, .slice Aa2 s1.length c3), (1, .slice (some ⟨g122, o123, none⟩) l5.length c7), (2, .int .i64 at9), (7, .bool t10), (8, .slice Aa125 (back53 ++ ([(ix l5 i57)] : List Spoil)).length c126), (9, .int .i64 i57)] ?_
         refine JQ.mask [At.rd Aa2 c3 fl_Vis.kd.sl s1 true, At.rd (some ⟨g122, o123, none⟩) c7 fl_Spoil.kd l5 true, At.row Aa125 c126 25 fl_Spoil.kd (back53 ++ ([(ix l5 i57)] : List Spoil)) false] [true, true, true, false] ?_
         refine J.region ?_
         refine JL.mv (.int .i64 i57) ?_
         refine JL.pur (.int .i64 (w64 (i57 - 1))) (some 52) ?_
         refine JL.as (.int .i64 (w64 (i57 - 1))) ?_
         refine JL.nil ?_
         refine JQ.then_normal ?_
         exact JQ.again ((back53 ++ ([(ix l5 i57)] : List Spoil)), w64 (i57 - 1)) (Aa125, c126) (Option.some.inj H1).symm (fun _ h => Heap.to h)
       · refine J.cond_false h119 ?_
         refine J.exit ?_
         refine JQ.then_exit ?_
         refine JQ.then_exit ?_
         refine JQ.blk_exit ?_
         rw [hb1 _ (Option.some.inj H1).symm, fin_brk] at H0
         exact JQ.met back53 (Aa54, c55) H0 (fun _ h => Heap.to h)
     · clear hit H0
       rintro back67 ⟨Aa68, c69⟩ H0
       replace H0 : law35_CorruptOrder.k3 s1 l5 at9 t10 back67 = some r := H0
       unfold law35_CorruptOrder.k3 at H0
       refine JQ.sub [(0, .slice Aa2 s1.length c3), (1, .slice Aa6 l5.length c7), (2, .int .i64 at9), (7, .bool t10), (8, .slice Aa68 back67.length c69)] ?_
       refine JQ.turn (Δ' := [At.rd Aa2 c3 fl_Vis.kd.sl s1 true, At.rd Aa6 c7 fl_Spoil.kd l5 true, At.row Aa68 c69 25 fl_Spoil.kd back67 false]) (fun _ h => h.to) ?_
       refine JQ.then_normal ?_
       refine J.seq ?_
       refine J.region ?_
       refine JL.mv (.slice Aa2 s1.length c3) ?_
       refine JL.mv (.slice Aa6 l5.length c7) ?_
       obtain ⟨t71, hc72, H0⟩ := bind_some H0
       refine JL.call [] [] [] (corrupt_Spoil.ok s1 Aa2 c3 l5 Aa6 c7 _ hc72) ⟨pre_any 0 (view_rd Aa2 c3 fl_Vis.kd.sl s1 true true), ⟨pre_any 1 (view_rd Aa6 c7 fl_Spoil.kd l5 true true), trivial⟩⟩ ?_
       rintro _ _ ⟨Aa73, c74, rfl, rfl⟩
       refine JL.mv (.tuple #[.slice Aa73 t71.1.length c74, .int .i64 t71.2]) ?_
       refine JL.pur (.slice Aa73 t71.1.length c74) (some 64) ?_
       refine JL.pur (.int .i64 t71.2) (some 65) ?_
       refine JL.as (.slice Aa73 t71.1.length c74) ?_
       refine JL.as (.int .i64 t71.2) ?_
       refine JL.nil ?_
       refine JQ.then_normal ?_
       refine JQ.sub [(0, .slice Aa2 s1.length c3), (1, .slice Aa6 l5.length c7), (2, .int .i64 at9), (7, .bool t10), (8, .slice Aa68 back67.length c69), (10, .slice Aa73 t71.1.length c74), (11, .int .i64 t71.2)] ?_
       refine J.seq ?_
       refine J.region ?_
       refine JL.mv (.slice Aa2 s1.length c3) ?_
       refine JL.mv (.slice Aa68 back67.length c69) ?_
       obtain ⟨t76, hc77, H0⟩ := bind_some H0
       refine JL.call [] [] [] (corrupt_Spoil.ok s1 Aa2 c3 back67 Aa68 c69 _ hc77) ⟨pre_any 0 (view_rd Aa2 c3 fl_Vis.kd.sl s1 true true), ⟨pre_view 2 (view_row Aa68 c69 25 fl_Spoil.kd back67 false true), trivial⟩⟩ ?_
       rintro _ _ ⟨Aa78, c79, rfl, rfl⟩
       refine JL.mv (.tuple #[.slice Aa78 t76.1.length c79, .int .i64 t76.2]) ?_
       refine JL.pur (.slice Aa78 t76.1.length c79) (some 70) ?_
       refine JL.pur (.int .i64 t76.2) (some 71) ?_
       refine JL.as (.slice Aa78 t76.1.length c79) ?_
       refine JL.as (.int .i64 t76.2) ?_
       refine JL.nil ?_
       refine JQ.then_normal ?_
       refine JQ.sub [(0, .slice Aa2 s1.length c3), (1, .slice Aa6 l5.length c7), (2, .int .i64 at9), (7, .bool t10), (10, .slice Aa73 t71.1.length c74), (11, .int .i64 t71.2), (12, .slice Aa78 t76.1.length c79), (13, .int .i64 t76.2)] ?_
       refine JQ.mask [At.rd Aa2 c3 fl_Vis.kd.sl s1 true, At.rd Aa6 c7 fl_Spoil.kd l5 true, At.row Aa73 c74 48 fl_Vis.kd.sl t71.1 false, At.row Aa78 c79 48 fl_Vis.kd.sl t76.1 false] [true, true, false, true, true] ?_
       refine J.seq ?_
       refine J.join (T := Bool) (G := Unit) (fun t => law35_CorruptOrder.k4 s1 l5 at9 t10 t71 t = some r) (fun t g => [(0, .slice Aa2 s1.length c3), (1, .slice Aa6 l5.length c7), (2, .int .i64 at9), (7, .bool t10), (10, .slice Aa73 t71.1.length c74), (11, .int .i64 t71.2), (83, .bool t)]) (fun t g => [At.rd Aa2 c3 fl_Vis.kd.sl s1 true, At.rd Aa6 c7 fl_Spoil.kd l5 true, At.row Aa73 c74 48 fl_Vis.kd.sl t71.1 false]) ?_ ?_
       · refine J.region ?_
         refine JL.mv (.int .i64 t71.2) ?_
         refine JL.pur (.bool (decide (t71.2 = 0))) (some 73) ?_
         refine JL.mv (.bool (decide (t71.2 = 0))) ?_
         rcases ite_cases H0 with ⟨h115, H0⟩ | ⟨h115, H0⟩
         · refine JL.on 2 74 h115 ?_
           refine JL.mv (.int .i64 t76.2) ?_
           refine JL.on 2 74 h115 ?_
           refine JL.pur (.bool (decide (t76.2 = 0))) (some 76) ?_
           refine JL.val (.bool (decide (t76.2 = 0))) (some 77) (gives_pickT h115) ?_
           refine JL.mv (.bool (decide (t76.2 = 0))) ?_
           rcases ite_cases H0 with ⟨h116, H0⟩ | ⟨h116, H0⟩
           · refine JL.on 6 78 h116 ?_
             refine JL.mv (.slice Aa73 t71.1.length c74) ?_
             refine JL.on 6 78 h116 ?_
             refine JL.mv (.slice Aa78 t76.1.length c79) ?_
             refine JL.on 6 78 h116 ?_
             obtain ⟨t117, hc118, H0⟩ := bind_some H0
             refine JL.call [] [] [] (ref35_Same.ok t71.1 Aa73 c74 t76.1 Aa78 c79 _ hc118) ⟨pre_view 2 (view_row Aa73 c74 48 fl_Vis.kd.sl t71.1 false true), ⟨pre_view 3 (view_row Aa78 c79 48 fl_Vis.kd.sl t76.1 false true), trivial⟩⟩ ?_
             rintro _ _ ⟨rfl, rfl⟩
             refine JL.on 6 78 h116 ?_
             refine JL.pur (.bool (!t117)) (some 82) ?_
             refine JL.val (.bool (!t117)) (some 83) (gives_pickT h116) ?_
             refine JL.nil ?_
             refine JQ.then_normal ?_
             exact JQ.meet (!t117) () H0 (fun _ h => Heap.to (Heap.pick [0, 1, 2] (by decide) h))
           · refine JL.off 6 78 true (some 79) h116 ?_
             refine JL.off 6 78 true (some 80) h116 ?_
             refine JL.off 6 78 true (some 81) h116 ?_
             refine JL.off 6 78 true (some 82) h116 ?_
             refine JL.val (.bool false) (some 83) (gives_pickF h116) ?_
             refine JL.nil ?_
             refine JQ.then_normal ?_
             exact JQ.meet false () H0 (fun _ h => Heap.to (Heap.pick [0, 1, 2] (by decide) h))
         · refine JL.off 2 74 true (some 75) h115 ?_
           refine JL.off 2 74 true (some 76) h115 ?_
           refine JL.val (.bool false) (some 77) (gives_pickF h115) ?_
           refine JL.mv (.bool false) ?_
           refine JL.off 6 78 true (some 79) rfl ?_
           refine JL.off 6 78 true (some 80) rfl ?_
           refine JL.off 6 78 true (some 81) rfl ?_
           refine JL.off 6 78 true (some 82) rfl ?_
           refine JL.val (.bool false) (some 83) (gives_pickF rfl) ?_
           refine JL.nil ?_
           refine JQ.then_normal ?_
           exact JQ.meet false () H0 (fun _ h => Heap.to (Heap.pick [0, 1, 2] (by decide) h))
       · clear H0
         rintro x85 ⟨⟩ H0
         replace H0 : law35_CorruptOrder.k4 s1 l5 at9 t10 t71 x85 = some r := H0
         unfold law35_CorruptOrder.k4 at H0
         refine JQ.sub [(0, .slice Aa2 s1.length c3), (1, .slice Aa6 l5.length c7), (2, .int .i64 at9), (7, .bool t10), (10, .slice Aa73 t71.1.length c74), (11, .int .i64 t71.2), (83, .bool x85)] ?_
         refine JQ.turn (Δ' := [At.rd Aa2 c3 fl_Vis.kd.sl s1 true, At.rd Aa6 c7 fl_Spoil.kd l5 true, At.row Aa73 c74 48 fl_Vis.kd.sl t71.1 false]) (fun _ h => h.to) ?_
         rcases ite_cases H0 with ⟨h86, H0⟩ | ⟨h86, H0⟩
         · refine J.cond_true h86 ?_
           refine J.seq ?_
           refine J.region ?_
           refine JL.as (.bool false) ?_
           refine JL.nil ?_
           refine JQ.then_normal ?_
           refine JQ.sub [(6, .bool false)] ?_
           refine JQ.mask [] [false, false, false] ?_
           refine J.ret ?_
           refine JQ.then_ret ?_
           obtain rfl := Option.some.inj H0
           exact JQ.done' (rs := [.tmp 6]) (vs := [.bool false]) [] (.inr rfl) ⟨by kernel_rfl, trivial⟩ (fun _ h => Heap.to h) ⟨rfl, rfl⟩
         · refine J.cond_false h86 ?_
           refine J.skip ?_
           refine JQ.then_normal ?_
           refine JQ.sub [(0, .slice Aa2 s1.length c3), (1, .slice Aa6 l5.length c7), (2, .int .i64 at9), (7, .bool t10), (10, .slice Aa73 t71.1.length c74), (11, .int .i64 t71.2)] ?_
           refine J.seq ?_
           refine J.region ?_
           refine JL.mv (.slice Aa2 s1.length c3) ?_
           refine JL.mv (.slice Aa6 l5.length c7) ?_
           refine JL.mv (.int .i64 at9) ?_
           obtain ⟨⟨h91, h92⟩, H0⟩ := ite_must H0
           refine JQ.capLe 1 Aa6 c7 fl_Spoil.kd l5 true fun h90 => ?_
           refine JL.cut 0 at9.toNat c7 1 Aa6 c7 fl_Spoil.kd l5 true Try.underlying32 tySize_25 (.inl ⟨rfl, rfl⟩) (.inr ⟨.i64, at9, by kernel_rfl, h91, rfl⟩) (.inl ⟨rfl, rfl⟩) (.inl rfl) (by omega) (by omega) (by omega) (.inl (by omega)) fun Aa87 c88 => ?_
           obtain ⟨t93, hc94, H0⟩ := bind_some H0
           refine JL.call [] [] [] (corrupt_Spoil.ok s1 Aa2 c3 ((l5.take at9.toNat).drop 0) Aa87 c88 _ hc94) ⟨pre_any 0 (view_rd Aa2 c3 fl_Vis.kd.sl s1 true true), ⟨pre_any 3 (view_rd Aa87 c88 fl_Spoil.kd ((l5.take at9.toNat).drop 0) true true), trivial⟩⟩ ?_
           rintro _ _ ⟨Aa95, c96, rfl, rfl⟩
           refine JL.mv (.tuple #[.slice Aa95 t93.1.length c96, .int .i64 t93.2]) ?_
           refine JL.pur (.slice Aa95 t93.1.length c96) (some 90) ?_
           refine JL.pur (.int .i64 t93.2) (some 91) ?_
           refine JL.as (.slice Aa95 t93.1.length c96) ?_
           refine JL.as (.int .i64 t93.2) ?_
           refine JL.nil ?_
           refine JQ.then_normal ?_
           refine JQ.sub [(1, .slice Aa6 l5.length c7), (2, .int .i64 at9), (7, .bool t10), (10, .slice Aa73 t71.1.length c74), (11, .int .i64 t71.2), (14, .slice Aa95 t93.1.length c96), (15, .int .i64 t93.2)] ?_
           refine JQ.mask [At.rd Aa6 c7 fl_Spoil.kd l5 true, At.row Aa73 c74 48 fl_Vis.kd.sl t71.1 false, At.row Aa95 c96 48 fl_Vis.kd.sl t93.1 false] [false, true, true, false, true] ?_
           refine J.seq ?_
           refine J.seq ?_
           refine J.region ?_
           refine JL.mv (.int .i64 t93.2) ?_
           refine JL.pur (.bool (!decide (t93.2 = 0))) (some 93) ?_
           refine JL.nil ?_
           refine JQ.then_normal ?_
           refine JQ.sub [(1, .slice Aa6 l5.length c7), (2, .int .i64 at9), (7, .bool t10), (10, .slice Aa73 t71.1.length c74), (11, .int .i64 t71.2), (14, .slice Aa95 t93.1.length c96), (93, .bool (!decide (t93.2 = 0)))] ?_
           rcases ite_cases H0 with ⟨h98, H0⟩ | ⟨h98, H0⟩
           · refine J.cond_true h98 ?_
             refine J.seq ?_
             refine J.region ?_
             refine JL.mv (.bool t10) ?_
             refine JL.as (.bool t10) ?_
             refine JL.nil ?_
             refine JQ.then_normal ?_
             refine JQ.sub [(6, .bool t10)] ?_
             refine JQ.mask [] [false, false, false] ?_
             refine J.ret ?_
             refine JQ.then_ret ?_
             obtain rfl := Option.some.inj H0
             exact JQ.done' (rs := [.tmp 6]) (vs := [.bool t10]) [] (.inr rfl) ⟨by kernel_rfl, trivial⟩ (fun _ h => Heap.to h) ⟨rfl, rfl⟩
           · refine J.cond_false h98 ?_
             refine J.skip ?_
             refine JQ.then_normal ?_
             refine JQ.sub [(1, .slice Aa6 l5.length c7), (2, .int .i64 at9), (7, .bool t10), (10, .slice Aa73 t71.1.length c74), (11, .int .i64 t71.2), (14, .slice Aa95 t93.1.length c96)] ?_
             refine J.seq ?_
             refine J.region ?_
             refine JL.mv (.slice Aa95 t93.1.length c96) ?_
             refine JL.mv (.slice Aa6 l5.length c7) ?_
             refine JL.mv (.int .i64 at9) ?_
             obtain ⟨⟨h103, h104⟩, H0⟩ := ite_must H0
             refine JQ.capLe 0 Aa6 c7 fl_Spoil.kd l5 true fun h102 => ?_
             refine JL.cut at9.toNat l5.length c7 0 Aa6 c7 fl_Spoil.kd l5 true Try.underlying32 tySize_25 (.inl ⟨rfl, rfl⟩) (.inl ⟨rfl, rfl⟩) (.inr ⟨.i64, at9, by kernel_rfl, h103, rfl⟩) (.inl rfl) (by omega) (by omega) (by omega) (.inl (by omega)) fun Aa99 c100 => ?_
             obtain ⟨t105, hc106, H0⟩ := bind_some H0
             refine JL.call [] [] [] (corrupt_Spoil.ok t93.1 Aa95 c96 ((l5.take l5.length).drop at9.toNat) Aa99 c100 _ hc106) ⟨pre_view 2 (view_row Aa95 c96 48 fl_Vis.kd.sl t93.1 false true), ⟨pre_any 3 (view_rd Aa99 c100 fl_Spoil.kd ((l5.take l5.length).drop at9.toNat) true true), trivial⟩⟩ ?_
             rintro _ _ ⟨Aa107, c108, rfl, rfl⟩
             refine JL.mv (.tuple #[.slice Aa107 t105.1.length c108, .int .i64 t105.2]) ?_
             refine JL.pur (.slice Aa107 t105.1.length c108) (some 101) ?_
             refine JL.pur (.int .i64 t105.2) (some 102) ?_
             refine JL.as (.slice Aa107 t105.1.length c108) ?_
             refine JL.as (.int .i64 t105.2) ?_
             refine JL.nil ?_
             refine JQ.then_normal ?_
             refine JQ.sub [(7, .bool t10), (10, .slice Aa73 t71.1.length c74), (11, .int .i64 t71.2), (16, .slice Aa107 t105.1.length c108), (17, .int .i64 t105.2)] ?_
             refine JQ.mask [At.row Aa73 c74 48 fl_Vis.kd.sl t71.1 false, At.row Aa107 c108 48 fl_Vis.kd.sl t105.1 false] [false, true, false, false, true] ?_
             refine J.seq ?_
             refine J.region ?_
             refine JL.mv (.bool t10) ?_
             refine JL.mv (.bool t10) ?_
             rcases ite_cases H0 with ⟨h110, H0⟩ | ⟨h110, H0⟩
             · refine JL.on 1 104 h110 ?_
               refine JL.mv (.int .i64 t105.2) ?_
               refine JL.on 1 104 h110 ?_
               refine JL.pur (.bool (!decide (t105.2 = 0))) (some 106) ?_
               refine JL.on 1 104 h110 ?_
               refine JL.mv (.bool (!decide (t105.2 = 0))) ?_
               rcases ite_cases H0 with ⟨h111, H0⟩ | ⟨h111, H0⟩
               · refine JL.off 4 107 false (some 108) h111 ?_
                 refine JL.off 4 107 false (some 109) h111 ?_
                 refine JL.on 1 104 h110 ?_
                 refine JL.val (.bool true) (some 110) (gives_pickT h111) ?_
                 refine JL.on 1 104 h110 ?_
                 refine JL.mv (.bool true) ?_
                 refine JL.off 8 111 false (some 112) rfl ?_
                 refine JL.off 8 111 false (some 113) rfl ?_
                 refine JL.off 8 111 false (some 114) rfl ?_
                 refine JL.on 1 104 h110 ?_
                 refine JL.val (.bool true) (some 115) (gives_pickT rfl) ?_
                 refine JL.val (.bool true) (some 116) (gives_pickT h110) ?_
                 refine JL.as (.bool true) ?_
                 refine JL.nil ?_
                 refine JQ.then_normal ?_
                 refine JQ.sub [(6, .bool true)] ?_
                 refine JQ.mask [] [false, false] ?_
                 refine J.ret ?_
                 obtain rfl := Option.some.inj H0
                 exact JQ.done' (rs := [.tmp 6]) (vs := [.bool true]) [] (.inr rfl) ⟨by kernel_rfl, trivial⟩ (fun _ h => Heap.to h) ⟨rfl, rfl⟩
               · refine JL.on 4 107 h111 ?_
                 refine JL.mv (.int .i64 t71.2) ?_
                 refine JL.on 4 107 h111 ?_
                 refine JL.pur (.bool (!decide (t71.2 = 0))) (some 109) ?_
                 refine JL.on 1 104 h110 ?_
                 refine JL.val (.bool (!decide (t71.2 = 0))) (some 110) (gives_pickF h111) ?_
                 refine JL.on 1 104 h110 ?_
                 refine JL.mv (.bool (!decide (t71.2 = 0))) ?_
                 rcases ite_cases H0 with ⟨h112, H0⟩ | ⟨h112, H0⟩
                 · refine JL.off 8 111 false (some 112) h112 ?_
                   refine JL.off 8 111 false (some 113) h112 ?_
                   refine JL.off 8 111 false (some 114) h112 ?_
                   refine JL.on 1 104 h110 ?_
                   refine JL.val (.bool true) (some 115) (gives_pickT h112) ?_
                   refine JL.val (.bool true) (some 116) (gives_pickT h110) ?_
                   refine JL.as (.bool true) ?_
                   refine JL.nil ?_
                   refine JQ.then_normal ?_
                   refine JQ.sub [(6, .bool true)] ?_
                   refine JQ.mask [] [false, false] ?_
                   refine J.ret ?_
                   obtain rfl := Option.some.inj H0
                   exact JQ.done' (rs := [.tmp 6]) (vs := [.bool true]) [] (.inr rfl) ⟨by kernel_rfl, trivial⟩ (fun _ h => Heap.to h) ⟨rfl, rfl⟩
                 · refine JL.on 8 111 h112 ?_
                   refine JL.mv (.slice Aa73 t71.1.length c74) ?_
                   refine JL.on 8 111 h112 ?_
                   refine JL.mv (.slice Aa107 t105.1.length c108) ?_
                   refine JL.on 8 111 h112 ?_
                   obtain ⟨t113, hc114, H0⟩ := bind_some H0
                   refine JL.call [] [] [] (ref35_Same.ok t71.1 Aa73 c74 t105.1 Aa107 c108 _ hc114) ⟨pre_view 0 (view_row Aa73 c74 48 fl_Vis.kd.sl t71.1 false true), ⟨pre_view 1 (view_row Aa107 c108 48 fl_Vis.kd.sl t105.1 false true), trivial⟩⟩ ?_
                   rintro _ _ ⟨rfl, rfl⟩
                   refine JL.on 1 104 h110 ?_
                   refine JL.val (.bool t113) (some 115) (gives_pickF h112) ?_
                   refine JL.val (.bool t113) (some 116) (gives_pickT h110) ?_
                   refine JL.as (.bool t113) ?_
                   refine JL.nil ?_
                   refine JQ.then_normal ?_
                   refine JQ.sub [(6, .bool t113)] ?_
                   refine JQ.mask [] [false, false] ?_
                   refine J.ret ?_
                   obtain rfl := Option.some.inj H0
                   exact JQ.done' (rs := [.tmp 6]) (vs := [.bool t113]) [] (.inr rfl) ⟨by kernel_rfl, trivial⟩ (fun _ h => Heap.to h) ⟨rfl, rfl⟩
             · refine JL.off 1 104 true (some 105) h110 ?_
               refine JL.off 1 104 true (some 106) h110 ?_
               refine JL.off 1 104 true (some 107) h110 ?_
               refine JL.off' 4 107 false (some 108) ?_
               refine JL.off' 4 107 false (some 109) ?_
               refine JL.off 1 104 true (some 110) h110 ?_
               refine JL.off 1 104 true (some 111) h110 ?_
               refine JL.off' 8 111 false (some 112) ?_
               refine JL.off' 8 111 false (some 113) ?_
               refine JL.off' 8 111 false (some 114) ?_
               refine JL.off 1 104 true (some 115) h110 ?_
               refine JL.val (.bool false) (some 116) (gives_pickF h110) ?_
               refine JL.as (.bool false) ?_
               refine JL.nil ?_
               refine JQ.then_normal ?_
               refine JQ.sub [(6, .bool false)] ?_
               refine JQ.mask [] [false, false] ?_
               refine J.ret ?_
               obtain rfl := Option.some.inj H0
               exact JQ.done' (rs := [.tmp 6]) (vs := [.bool false]) [] (.inr rfl) ⟨by kernel_rfl, trivial⟩ (fun _ h => Heap.to h) ⟨rfl, rfl⟩


end Go.Proofs.Ytifpegepdgmmbaa.M
