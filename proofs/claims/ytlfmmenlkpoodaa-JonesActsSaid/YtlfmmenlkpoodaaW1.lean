import Derived.Test.YtlfmmenlkpoodaaW0
set_option linter.unusedVariables false
set_option linter.unusedSimpArgs false
set_option maxRecDepth 100000
set_option maxHeartbeats 8000000
namespace Go.Proofs.Ytlfmmenlkpoodaa.M
open Go.GW Go.Proofs

theorem ref33_Table.ok (t1 : (List (A4 Cx))) (Aa2 : Option Addr) (c3 : Nat) (r : Int) (H0 : ref33_Table.f t1 = some r) :
    Does Try.prog 20 [.slice Aa2 t1.length c3].toArray [At.rd Aa2 c3 ((flArr4 fl_Cx).kd) t1 true] [] false (fun v Δ => v = .int .i64 r ∧ Δ = []) := by
 refine Does.body (vs := [.slice Aa2 t1.length c3]) Try.func20 rfl ⟨.inl rfl, trivial⟩ trivial fun w S => ?_
 unfold ref33_Table.f at H0
 refine J.seq ?_
 refine J.region ?_
 refine JL.as (.int .i64 0) ?_
 refine JL.nil ?_
 refine JQ.then_normal ?_
 refine JQ.sub [(0, .slice Aa2 t1.length c3)] ?_
 refine J.seq ?_
 refine J.seq ?_
 refine J.region ?_
 refine JL.mv (.slice Aa2 t1.length c3) ?_
 refine JL.pur (.int .i64 (t1.length : Int)) (some 8) ?_
 refine JL.pur (.bool (decide (8 < (t1.length : Int)))) (some 9) ?_
 refine JL.nil ?_
 refine JQ.then_normal ?_
 refine JQ.sub [(0, .slice Aa2 t1.length c3), (9, .bool (decide (8 < (t1.length : Int))))] ?_
 rcases ite_cases H0 with ⟨h5, H0⟩ | ⟨h5, H0⟩
 · refine J.cond_true h5 ?_
   refine J.seq ?_
   refine J.region ?_
   refine JL.as (.int .i64 4) ?_
   refine JL.nil ?_
   refine JQ.then_normal ?_
   refine JQ.sub [(2, .int .i64 4)] ?_
   refine JQ.mask [] [false] ?_
   refine J.ret ?_
   refine JQ.then_ret ?_
   obtain rfl := Option.some.inj H0
   exact JQ.done' (rs := [.tmp 2]) (vs := [.int .i64 4]) [] (.inr rfl) ⟨by kernel_rfl, trivial⟩ (fun _ h => Heap.to h) ⟨rfl, rfl⟩
 · refine J.cond_false h5 ?_
   refine J.skip ?_
   refine JQ.then_normal ?_
   refine JQ.sub [(0, .slice Aa2 t1.length c3)] ?_
   refine J.seq ?_
   refine J.seq ?_
   refine J.region ?_
   refine JL.as (.int .i64 0) ?_
   refine JL.nil ?_
   refine JQ.then_normal ?_
   obtain ⟨o1, hit, H0⟩ := bind_some H0
   refine J.loop (σ := Int) (τ := Unit) (G := Unit) (G' := Unit) _ o1 (fun s g => [(0, .slice Aa2 t1.length c3), (3, .int .i64 s)]) (fun s g => [At.rd Aa2 c3 ((flArr4 fl_Cx).kd) t1 true]) (fun t => ref33_Table.k2 t1 = some r) (fun t g => [(0, .slice Aa2 t1.length c3)]) (fun t g => [At.rd Aa2 c3 ((flArr4 fl_Cx).kd) t1 true]) 0 () hit (fun _ h => Heap.to h) ?_ ?_
   · clear hit
     rintro i24 ⟨⟩ st1 H1 hb1 hr1
     replace H1 : ref33_Table.s1 t1 i24 = some st1 := H1
     unfold ref33_Table.s1 at H1
     refine JQ.sub [(0, .slice Aa2 t1.length c3), (3, .int .i64 i24)] ?_
     refine JQ.turn (Δ' := [At.rd Aa2 c3 ((flArr4 fl_Cx).kd) t1 true]) (fun _ h => h.to) ?_
     refine J.seq ?_
     refine J.seq ?_
     refine J.region ?_
     refine JL.mv (.int .i64 i24) ?_
     refine JL.mv (.slice Aa2 t1.length c3) ?_
     refine JL.pur (.int .i64 (t1.length : Int)) (some 12) ?_
     refine JL.pur (.bool (decide (i24 < (t1.length : Int)))) (some 13) ?_
     refine JL.nil ?_
     refine JQ.then_normal ?_
     refine JQ.sub [(0, .slice Aa2 t1.length c3), (3, .int .i64 i24), (13, .bool (decide (i24 < (t1.length : Int))))] ?_
     rcases ite_cases H1 with ⟨h85, H1⟩ | ⟨h85, H1⟩
     · refine J.cond_true h85 ?_
       refine J.skip ?_
       refine JQ.then_normal ?_
       refine JQ.sub [(0, .slice Aa2 t1.length c3), (3, .int .i64 i24)] ?_
       refine J.seq ?_
       refine J.block ?_
       refine J.seq ?_
       refine J.region ?_
       refine JL.mv (.slice Aa2 t1.length c3) ?_
       refine JL.mv (.int .i64 i24) ?_
       obtain ⟨⟨h86, h87⟩, H1⟩ := ite_must H1
       refine JL.ixAddr 0 12 c3 .i64 (elems_rd Aa2 c3 ((flArr4 fl_Cx).kd) t1 true) Try.underlying38 tySize_25 h86 h87 fun g88 o89 hA => ?_
       subst hA
       refine JL.val (mv_25 (ix t1 i24)) (some 19) (gives_loadEl (f := (flArr4 fl_Cx)) 0 0 i24 (elems_rd (some ⟨g88, o89, none⟩) c3 ((flArr4 fl_Cx).kd) t1 true) h86 h87 tySize_25 (.inl ⟨tyAgg_25, rfl⟩)) ?_
       obtain ⟨t90, hc91, H1⟩ := bind_some H1
       refine JL.call [] [] [] (ref33_Valid.ok (ix t1 i24) _ hc91) trivial ?_
       rintro _ _ ⟨rfl, rfl⟩
       refine JL.pur (.bool (!t90)) (some 21) ?_
       refine JL.nil ?_
       refine JQ.then_normal ?_
       refine JQ.sub [(0, .slice (some ⟨g88, o89, none⟩) t1.length c3), (3, .int .i64 i24), (21, .bool (!t90))] ?_
       rcases ite_cases H1 with ⟨h92, H1⟩ | ⟨h92, H1⟩
       · refine J.cond_true h92 ?_
         refine J.seq ?_
         refine J.region ?_
         refine JL.as (.int .i64 8) ?_
         refine JL.nil ?_
         refine JQ.then_normal ?_
         refine JQ.sub [(2, .int .i64 8)] ?_
         refine JQ.mask [] [false] ?_
         refine J.ret ?_
         refine JQ.blk_ret ?_
         refine JQ.then_ret ?_
         refine JQ.then_ret ?_
         refine JQ.blk_ret ?_
         refine JQ.met_ret ?_
         refine JQ.then_ret ?_
         rw [hr1 _ (Option.some.inj H1).symm, fin_ret] at H0
         obtain rfl := Option.some.inj H0
         exact JQ.done' (rs := [.tmp 2]) (vs := [.int .i64 8]) [] (.inr rfl) ⟨by kernel_rfl, trivial⟩ (fun _ h => Heap.to h) ⟨rfl, rfl⟩
       · refine J.cond_false h92 ?_
         refine J.skip ?_
         refine JQ.blk_normal ?_
         refine JQ.then_normal ?_
         refine JQ.sub [(0, .slice (some ⟨g88, o89, none⟩) t1.length c3), (3, .int .i64 i24)] ?_
         refine J.region ?_
         refine JL.mv (.int .i64 i24) ?_
         refine JL.pur (.int .i64 (w64 (i24 + 1))) (some 15) ?_
         refine JL.as (.int .i64 (w64 (i24 + 1))) ?_
         refine JL.nil ?_
         refine JQ.then_normal ?_
         exact JQ.again (w64 (i24 + 1)) () (Option.some.inj H1).symm (fun _ h => Heap.to h)
     · refine J.cond_false h85 ?_
       refine J.exit ?_
       refine JQ.then_exit ?_
       refine JQ.then_exit ?_
       refine JQ.blk_exit ?_
       rw [hb1 _ (Option.some.inj H1).symm, fin_brk] at H0
       exact JQ.met () () H0 (fun _ h => Heap.to h)
   · clear hit H0
     rintro ⟨⟩ ⟨⟩ H0
     replace H0 : ref33_Table.k2 t1 = some r := H0
     unfold ref33_Table.k2 at H0
     refine JQ.sub [(0, .slice Aa2 t1.length c3)] ?_
     refine JQ.turn (Δ' := [At.rd Aa2 c3 ((flArr4 fl_Cx).kd) t1 true]) (fun _ h => h.to) ?_
     refine JQ.then_normal ?_
     refine J.seq ?_
     refine J.seq ?_
     refine J.region ?_
     refine JL.mv (.slice Aa2 t1.length c3) ?_
     refine JL.pur (.int .i64 (t1.length : Int)) (some 23) ?_
     refine JL.pur (.bool (decide ((t1.length : Int) = 0))) (some 24) ?_
     refine JL.nil ?_
     refine JQ.then_normal ?_
     refine JQ.sub [(0, .slice Aa2 t1.length c3), (24, .bool (decide ((t1.length : Int) = 0)))] ?_
     rcases ite_cases H0 with ⟨h33, H0⟩ | ⟨h33, H0⟩
     · refine J.cond_true h33 ?_
       refine J.seq ?_
       refine J.region ?_
       refine JL.as (.int .i64 8) ?_
       refine JL.nil ?_
       refine JQ.then_normal ?_
       refine JQ.sub [(2, .int .i64 8)] ?_
       refine JQ.mask [] [false] ?_
       refine J.ret ?_
       refine JQ.then_ret ?_
       obtain rfl := Option.some.inj H0
       exact JQ.done' (rs := [.tmp 2]) (vs := [.int .i64 8]) [] (.inr rfl) ⟨by kernel_rfl, trivial⟩ (fun _ h => Heap.to h) ⟨rfl, rfl⟩
     · refine J.cond_false h33 ?_
       refine J.skip ?_
       refine JQ.then_normal ?_
       refine JQ.sub [(0, .slice Aa2 t1.length c3)] ?_
       refine J.seq ?_
       refine J.seq ?_
       refine J.region ?_
       refine JL.as (.int .i64 0) ?_
       refine JL.nil ?_
       refine JQ.then_normal ?_
       obtain ⟨o1, hit, H0⟩ := bind_some H0
       refine J.loop (σ := Int) (τ := Unit) (G := Unit) (G' := Unit) _ o1 (fun s g => [(0, .slice Aa2 t1.length c3), (4, .int .i64 s)]) (fun s g => [At.rd Aa2 c3 ((flArr4 fl_Cx).kd) t1 true]) (fun t => ref33_Table.k4 = some r) (fun t g => []) (fun t g => []) 0 () hit (fun _ h => Heap.to h) ?_ ?_
       · clear hit
         rintro i60 ⟨⟩ st1 H1 hb1 hr1
         replace H1 : ref33_Table.s3 t1 i60 = some st1 := H1
         unfold ref33_Table.s3 at H1
         refine JQ.sub [(0, .slice Aa2 t1.length c3), (4, .int .i64 i60)] ?_
         refine JQ.turn (Δ' := [At.rd Aa2 c3 ((flArr4 fl_Cx).kd) t1 true]) (fun _ h => h.to) ?_
         refine J.seq ?_
         refine J.seq ?_
         refine J.region ?_
         refine JL.mv (.int .i64 i60) ?_
         refine JL.mv (.slice Aa2 t1.length c3) ?_
         refine JL.pur (.int .i64 (t1.length : Int)) (some 27) ?_
         refine JL.pur (.bool (decide (i60 < (t1.length : Int)))) (some 28) ?_
         refine JL.nil ?_
         refine JQ.then_normal ?_
         refine JQ.sub [(0, .slice Aa2 t1.length c3), (4, .int .i64 i60), (28, .bool (decide (i60 < (t1.length : Int))))] ?_
         rcases ite_cases H1 with ⟨h73, H1⟩ | ⟨h73, H1⟩
         · refine J.cond_true h73 ?_
           refine J.skip ?_
           refine JQ.then_normal ?_
           refine JQ.sub [(0, .slice Aa2 t1.length c3), (4, .int .i64 i60)] ?_
           refine J.seq ?_
           refine J.block ?_
           refine J.seq ?_
           refine J.region ?_
           refine JL.mv (.slice Aa2 t1.length c3) ?_
           refine JL.mv (.int .i64 i60) ?_
           obtain ⟨⟨h74, h75⟩, H1⟩ := ite_must H1
           refine JL.ixAddr 0 12 c3 .i64 (elems_rd Aa2 c3 ((flArr4 fl_Cx).kd) t1 true) Try.underlying38 tySize_25 h74 h75 fun g76 o77 hA => ?_
           subst hA
           refine JL.val (mv_25 (ix t1 i60)) (some 35) (gives_loadEl (f := (flArr4 fl_Cx)) 0 0 i60 (elems_rd (some ⟨g76, o77, none⟩) c3 ((flArr4 fl_Cx).kd) t1 true) h74 h75 tySize_25 (.inl ⟨tyAgg_25, rfl⟩)) ?_
           obtain ⟨t78, hc79, H1⟩ := bind_some H1
           refine JL.call [] [] [] (ref33_Det.ok (ix t1 i60) _ hc79) trivial ?_
           rintro _ _ ⟨rfl, rfl⟩
           refine JL.mv (.tuple #[mv_23 t78.1, .int .i64 t78.2]) ?_
           refine JL.pur (mv_23 t78.1) (some 37) ?_
           refine JL.pur (.int .i64 t78.2) (some 38) ?_
           refine JL.alloc (cl_23 zv_23) fun b80 => ?_
           refine JL.store 1 b80 0 23 (cl_23 zv_23) (cl_23 t78.1) tySize_23 ?_
           refine JL.as (.int .i64 t78.2) ?_
           refine JL.nil ?_
           refine JQ.then_normal ?_
           refine JQ.sub [(0, .slice (some ⟨g76, o77, none⟩) t1.length c3), (4, .int .i64 i60), (5, .pointer (some ⟨b80, 0, none⟩)), (6, .int .i64 t78.2)] ?_
           refine J.seq ?_
           refine J.seq ?_
           refine J.region ?_
           refine JL.mv (.int .i64 t78.2) ?_
           refine JL.pur (.bool (!decide (t78.2 = 0))) (some 40) ?_
           refine JL.nil ?_
           refine JQ.then_normal ?_
           refine JQ.sub [(0, .slice (some ⟨g76, o77, none⟩) t1.length c3), (4, .int .i64 i60), (5, .pointer (some ⟨b80, 0, none⟩)), (6, .int .i64 t78.2), (40, .bool (!decide (t78.2 = 0)))] ?_
           rcases ite_cases H1 with ⟨h81, H1⟩ | ⟨h81, H1⟩
           · refine J.cond_true h81 ?_
             refine J.seq ?_
             refine J.region ?_
             refine JL.mv (.int .i64 t78.2) ?_
             refine JL.as (.int .i64 t78.2) ?_
             refine JL.nil ?_
             refine JQ.then_normal ?_
             refine JQ.sub [(2, .int .i64 t78.2)] ?_
             refine JQ.mask [] [false, false] ?_
             refine J.ret ?_
             refine JQ.then_ret ?_
             refine JQ.blk_ret ?_
             refine JQ.then_ret ?_
             refine JQ.then_ret ?_
             refine JQ.blk_ret ?_
             refine JQ.met_ret ?_
             refine JQ.then_ret ?_
             rw [hr1 _ (Option.some.inj H1).symm, fin_ret] at H0
             obtain rfl := Option.some.inj H0
             exact JQ.done' (rs := [.tmp 2]) (vs := [.int .i64 t78.2]) [] (.inr rfl) ⟨by kernel_rfl, trivial⟩ (fun _ h => Heap.to h) ⟨rfl, rfl⟩
           · refine J.cond_false h81 ?_
             refine J.skip ?_
             refine JQ.then_normal ?_
             refine JQ.sub [(0, .slice (some ⟨g76, o77, none⟩) t1.length c3), (4, .int .i64 i60), (5, .pointer (some ⟨b80, 0, none⟩))] ?_
             refine J.seq ?_
             refine J.region ?_
             refine JL.val (mv_23 t78.1) (some 42) (yields_load_boxes 1 0 (cl_23 t78.1) (holds_box b80 23 (cl_23 t78.1)) tyAgg_23 tySize_23) ?_
             obtain ⟨t82, hc83, H1⟩ := bind_some H1
             refine JL.call [] [] [] (ref25_Zero.ok t78.1 _ hc83) trivial ?_
             rintro _ _ ⟨rfl, rfl⟩
             refine JL.nil ?_
             refine JQ.then_normal ?_
             refine JQ.sub [(0, .slice (some ⟨g76, o77, none⟩) t1.length c3), (4, .int .i64 i60), (43, .bool t82)] ?_
             refine JQ.mask [At.rd (some ⟨g76, o77, none⟩) c3 ((flArr4 fl_Cx).kd) t1 true] [true, false] ?_
             rcases ite_cases H1 with ⟨h84, H1⟩ | ⟨h84, H1⟩
             · refine J.cond_true h84 ?_
               refine J.seq ?_
               refine J.region ?_
               refine JL.as (.int .i64 18) ?_
               refine JL.nil ?_
               refine JQ.then_normal ?_
               refine JQ.sub [(2, .int .i64 18)] ?_
               refine JQ.mask [] [false] ?_
               refine J.ret ?_
               refine JQ.blk_ret ?_
               refine JQ.then_ret ?_
               refine JQ.then_ret ?_
               refine JQ.blk_ret ?_
               refine JQ.met_ret ?_
               refine JQ.then_ret ?_
               rw [hr1 _ (Option.some.inj H1).symm, fin_ret] at H0
               obtain rfl := Option.some.inj H0
               exact JQ.done' (rs := [.tmp 2]) (vs := [.int .i64 18]) [] (.inr rfl) ⟨by kernel_rfl, trivial⟩ (fun _ h => Heap.to h) ⟨rfl, rfl⟩
             · refine J.cond_false h84 ?_
               refine J.skip ?_
               refine JQ.blk_normal ?_
               refine JQ.then_normal ?_
               refine JQ.sub [(0, .slice (some ⟨g76, o77, none⟩) t1.length c3), (4, .int .i64 i60)] ?_
               refine J.region ?_
               refine JL.mv (.int .i64 i60) ?_
               refine JL.pur (.int .i64 (w64 (i60 + 1))) (some 30) ?_
               refine JL.as (.int .i64 (w64 (i60 + 1))) ?_
               refine JL.nil ?_
               refine JQ.then_normal ?_
               exact JQ.again (w64 (i60 + 1)) () (Option.some.inj H1).symm (fun _ h => Heap.to h)
         · refine J.cond_false h73 ?_
           refine J.exit ?_
           refine JQ.then_exit ?_
           refine JQ.then_exit ?_
           refine JQ.blk_exit ?_
           rw [hb1 _ (Option.some.inj H1).symm, fin_brk] at H0
           exact JQ.met () () H0 (fun _ h => Heap.to (Heap.pick [] (by decide) h))
       · clear hit H0
         rintro ⟨⟩ ⟨⟩ H0
         replace H0 : ref33_Table.k4 = some r := H0
         unfold ref33_Table.k4 at H0
         refine JQ.sub [] ?_
         refine JQ.turn (Δ' := []) (fun _ h => h.to) ?_
         refine JQ.then_normal ?_
         refine J.seq ?_
         refine J.region ?_
         refine JL.as (.int .i64 0) ?_
         refine JL.nil ?_
         refine JQ.then_normal ?_
         refine J.ret ?_
         obtain rfl := Option.some.inj H0
         exact JQ.done' (rs := [.tmp 2]) (vs := [.int .i64 0]) [] (.inr rfl) ⟨by kernel_rfl, trivial⟩ (fun _ h => Heap.to h) ⟨rfl, rfl⟩

theorem ref33_Seen.ok (p1 : Pol) (n2 : Int) (r : Bool) (H0 : ref33_Seen.f p1 n2 = some r) :
    Does Try.prog 49 [mv_57 p1, .int .i64 n2].toArray [] [] false (fun v Δ => v = .bool r ∧ Δ = []) := by
 refine Does.body (vs := [mv_57 p1, .int .i64 n2]) Try.func49 rfl trivial trivial fun w S => ?_
 unfold ref33_Seen.f at H0
 refine J.seq ?_
 refine J.region ?_
 refine JL.box (cl_57 p1) fun b3 => ?_
 refine JL.as (.bool false) ?_
 refine JL.nil ?_
 refine JQ.then_normal ?_
 refine JQ.sub [(1, .int .i64 n2), (2, .pointer (some ⟨b3, 0, none⟩))] ?_
 refine J.seq ?_
 refine J.region ?_
 refine JL.pur (.pointer (some ⟨b3, 0, none⟩)) (some 5) ?_
 refine JL.val (.int .i64 p1.I) (some 6) (yields_load_box 0 0 (holds_box b3 57 (cl_57 p1)) tyAgg_3) ?_
 refine JL.pur (.bool (decide (0 ≤ p1.I))) (some 7) ?_
 refine JL.mv (.bool (decide (0 ≤ p1.I))) ?_
 rcases ite_cases H0 with ⟨h4, H0⟩ | ⟨h4, H0⟩
 · refine JL.on 3 8 h4 ?_
   refine JL.pur (.pointer (some ⟨b3, 0, none⟩)) (some 9) ?_
   refine JL.on 3 8 h4 ?_
   refine JL.val (.int .i64 p1.I) (some 10) (yields_load_box 0 0 (holds_box b3 57 (cl_57 p1)) tyAgg_3) ?_
   refine JL.on 3 8 h4 ?_
   refine JL.pur (.pointer (some ⟨b3, 1, none⟩)) (some 11) ?_
   refine JL.on 3 8 h4 ?_
   refine JL.val (.int .i64 p1.J) (some 12) (yields_load_box 0 1 (holds_box b3 57 (cl_57 p1)) tyAgg_3) ?_
   refine JL.on 3 8 h4 ?_
   refine JL.pur (.bool (decide (p1.I < p1.J))) (some 13) ?_
   refine JL.val (.bool (decide (p1.I < p1.J))) (some 14) (gives_pickT h4) ?_
   refine JL.mv (.bool (decide (p1.I < p1.J))) ?_
   rcases ite_cases H0 with ⟨h5, H0⟩ | ⟨h5, H0⟩
   · refine JL.on 10 15 h5 ?_
     refine JL.pur (.pointer (some ⟨b3, 1, none⟩)) (some 16) ?_
     refine JL.on 10 15 h5 ?_
     refine JL.val (.int .i64 p1.J) (some 17) (yields_load_box 0 1 (holds_box b3 57 (cl_57 p1)) tyAgg_3) ?_
     refine JL.on 10 15 h5 ?_
     refine JL.mv (.int .i64 n2) ?_
     refine JL.on 10 15 h5 ?_
     refine JL.pur (.bool (decide (p1.J < n2))) (some 19) ?_
     refine JL.val (.bool (decide (p1.J < n2))) (some 20) (gives_pickT h5) ?_
     refine JL.mv (.bool (decide (p1.J < n2))) ?_
     rcases ite_cases H0 with ⟨h6, H0⟩ | ⟨h6, H0⟩
     · refine JL.on 16 21 h6 ?_
       refine JL.pur (.pointer (some ⟨b3, 14, none⟩)) (some 22) ?_
       refine JL.on 16 21 h6 ?_
       refine JL.val (.int .i64 p1.N) (some 23) (yields_load_box 0 14 (holds_box b3 57 (cl_57 p1)) tyAgg_3) ?_
       refine JL.on 16 21 h6 ?_
       refine JL.pur (.bool (decide (0 ≤ p1.N))) (some 24) ?_
       refine JL.val (.bool (decide (0 ≤ p1.N))) (some 25) (gives_pickT h6) ?_
       refine JL.mv (.bool (decide (0 ≤ p1.N))) ?_
       rcases ite_cases H0 with ⟨h7, H0⟩ | ⟨h7, H0⟩
       · refine JL.on 21 26 h7 ?_
         refine JL.pur (.pointer (some ⟨b3, 2, none⟩)) (some 27) ?_
         refine JL.on 21 26 h7 ?_
         refine JL.val (mv_25 p1.V) (some 28) (yields_load_boxes 0 2 (cl_25 p1.V) (holds_box b3 57 (cl_57 p1)) tyAgg_25 tySize_25) ?_
         refine JL.on 21 26 h7 ?_
         obtain ⟨t8, hc9, H0⟩ := bind_some H0
         refine JL.call [] [] [] (ref33_Valid.ok p1.V _ hc9) trivial ?_
         rintro _ _ ⟨rfl, rfl⟩
         refine JL.val (.bool t8) (some 30) (gives_pickT h7) ?_
         refine JL.as (.bool t8) ?_
         refine JL.nil ?_
         refine JQ.then_normal ?_
         refine JQ.sub [(4, .bool t8)] ?_
         refine JQ.mask [] [false] ?_
         refine J.ret ?_
         obtain rfl := Option.some.inj H0
         exact JQ.done' (rs := [.tmp 4]) (vs := [.bool t8]) [] (.inr rfl) ⟨by kernel_rfl, trivial⟩ (fun _ h => Heap.to h) ⟨rfl, rfl⟩
       · refine JL.off 21 26 true (some 27) h7 ?_
         refine JL.off 21 26 true (some 28) h7 ?_
         refine JL.off 21 26 true (some 29) h7 ?_
         refine JL.val (.bool false) (some 30) (gives_pickF h7) ?_
         refine JL.as (.bool false) ?_
         refine JL.nil ?_
         refine JQ.then_normal ?_
         refine JQ.sub [(4, .bool false)] ?_
         refine JQ.mask [] [false] ?_
         refine J.ret ?_
         obtain rfl := Option.some.inj H0
         exact JQ.done' (rs := [.tmp 4]) (vs := [.bool false]) [] (.inr rfl) ⟨by kernel_rfl, trivial⟩ (fun _ h => Heap.to h) ⟨rfl, rfl⟩
     · refine JL.off 16 21 true (some 22) h6 ?_
       refine JL.off 16 21 true (some 23) h6 ?_
       refine JL.off 16 21 true (some 24) h6 ?_
       refine JL.val (.bool false) (some 25) (gives_pickF h6) ?_
       refine JL.mv (.bool false) ?_
       refine JL.off 21 26 true (some 27) rfl ?_
       refine JL.off 21 26 true (some 28) rfl ?_
       refine JL.off 21 26 true (some 29) rfl ?_
       refine JL.val (.bool false) (some 30) (gives_pickF rfl) ?_
       refine JL.as (.bool false) ?_
       refine JL.nil ?_
       refine JQ.then_normal ?_
       refine JQ.sub [(4, .bool false)] ?_
       refine JQ.mask [] [false] ?_
       refine J.ret ?_
       obtain rfl := Option.some.inj H0
       exact JQ.done' (rs := [.tmp 4]) (vs := [.bool false]) [] (.inr rfl) ⟨by kernel_rfl, trivial⟩ (fun _ h => Heap.to h) ⟨rfl, rfl⟩
   · refine JL.off 10 15 true (some 16) h5 ?_
     refine JL.off 10 15 true (some 17) h5 ?_
     refine JL.off 10 15 true (some 18) h5 ?_
     refine JL.off 10 15 true (some 19) h5 ?_
     refine JL.val (.bool false) (some 20) (gives_pickF h5) ?_
     refine JL.mv (.bool false) ?_
     refine JL.off 16 21 true (some 22) rfl ?_
     refine JL.off 16 21 true (some 23) rfl ?_
     refine JL.off 16 21 true (some 24) rfl ?_
     refine JL.val (.bool false) (some 25) (gives_pickF rfl) ?_
     refine JL.mv (.bool false) ?_
     refine JL.off 21 26 true (some 27) rfl ?_
     refine JL.off 21 26 true (some 28) rfl ?_
     refine JL.off 21 26 true (some 29) rfl ?_
     refine JL.val (.bool false) (some 30) (gives_pickF rfl) ?_
     refine JL.as (.bool false) ?_
     refine JL.nil ?_
     refine JQ.then_normal ?_
     refine JQ.sub [(4, .bool false)] ?_
     refine JQ.mask [] [false] ?_
     refine J.ret ?_
     obtain rfl := Option.some.inj H0
     exact JQ.done' (rs := [.tmp 4]) (vs := [.bool false]) [] (.inr rfl) ⟨by kernel_rfl, trivial⟩ (fun _ h => Heap.to h) ⟨rfl, rfl⟩
 · refine JL.off 3 8 true (some 9) h4 ?_
   refine JL.off 3 8 true (some 10) h4 ?_
   refine JL.off 3 8 true (some 11) h4 ?_
   refine JL.off 3 8 true (some 12) h4 ?_
   refine JL.off 3 8 true (some 13) h4 ?_
   refine JL.val (.bool false) (some 14) (gives_pickF h4) ?_
   refine JL.mv (.bool false) ?_
   refine JL.off 10 15 true (some 16) rfl ?_
   refine JL.off 10 15 true (some 17) rfl ?_
   refine JL.off 10 15 true (some 18) rfl ?_
   refine JL.off 10 15 true (some 19) rfl ?_
   refine JL.val (.bool false) (some 20) (gives_pickF rfl) ?_
   refine JL.mv (.bool false) ?_
   refine JL.off 16 21 true (some 22) rfl ?_
   refine JL.off 16 21 true (some 23) rfl ?_
   refine JL.off 16 21 true (some 24) rfl ?_
   refine JL.val (.bool false) (some 25) (gives_pickF rfl) ?_
   refine JL.mv (.bool false) ?_
   refine JL.off 21 26 true (some 27) rfl ?_
   refine JL.off 21 26 true (some 28) rfl ?_
   refine JL.off 21 26 true (some 29) rfl ?_
   refine JL.val (.bool false) (some 30) (gives_pickF rfl) ?_
   refine JL.as (.bool false) ?_
   refine JL.nil ?_
   refine JQ.then_normal ?_
   refine JQ.sub [(4, .bool false)] ?_
   refine JQ.mask [] [false] ?_
   refine J.ret ?_
   obtain rfl := Option.some.inj H0
   exact JQ.done' (rs := [.tmp 4]) (vs := [.bool false]) [] (.inr rfl) ⟨by kernel_rfl, trivial⟩ (fun _ h => Heap.to h) ⟨rfl, rfl⟩

theorem ref33_All.ok (l1 : (List Pol)) (Aa2 : Option Addr) (c3 : Nat) (n5 : Int) (r : Int) (H0 : ref33_All.f l1 n5 = some r) :
    Does Try.prog 21 [.slice Aa2 l1.length c3, .int .i64 n5].toArray [At.rd Aa2 c3 fl_Pol.kd l1 true] [] false (fun v Δ => v = .int .i64 r ∧ Δ = []) := by
 refine Does.body (vs := [.slice Aa2 l1.length c3, .int .i64 n5]) Try.func21 rfl ⟨.inl rfl, trivial⟩ trivial fun w S => ?_
 unfold ref33_All.f at H0
 refine J.seq ?_
 refine J.region ?_
 refine JL.as (.int .i64 0) ?_
 refine JL.nil ?_
 refine JQ.then_normal ?_
 refine JQ.sub [(0, .slice Aa2 l1.length c3), (1, .int .i64 n5)] ?_
 refine J.seq ?_
 refine J.seq ?_
 refine J.region ?_
 refine JL.mv (.slice Aa2 l1.length c3) ?_
 refine JL.pur (.int .i64 (l1.length : Int)) (some 7) ?_
 refine JL.pur (.bool (decide (64 < (l1.length : Int)))) (some 8) ?_
 refine JL.nil ?_
 refine JQ.then_normal ?_
 refine JQ.sub [(0, .slice Aa2 l1.length c3), (1, .int .i64 n5), (8, .bool (decide (64 < (l1.length : Int))))] ?_
 rcases ite_cases H0 with ⟨h6, H0⟩ | ⟨h6, H0⟩
 · refine J.cond_true h6 ?_
   refine J.seq ?_
   refine J.region ?_
   refine JL.as (.int .i64 4) ?_
   refine JL.nil ?_
   refine JQ.then_normal ?_
   refine JQ.sub [(4, .int .i64 4)] ?_
   refine JQ.mask [] [false] ?_
   refine J.ret ?_
   refine JQ.then_ret ?_
   obtain rfl := Option.some.inj H0
   exact JQ.done' (rs := [.tmp 4]) (vs := [.int .i64 4]) [] (.inr rfl) ⟨by kernel_rfl, trivial⟩ (fun _ h => Heap.to h) ⟨rfl, rfl⟩
 · refine J.cond_false h6 ?_
   refine J.skip ?_
   refine JQ.then_normal ?_
   refine JQ.sub [(0, .slice Aa2 l1.length c3), (1, .int .i64 n5)] ?_
   refine J.seq ?_
   refine J.seq ?_
   refine J.region ?_
   refine JL.as (.int .i64 0) ?_
   refine JL.nil ?_
   refine JQ.then_normal ?_
   obtain ⟨o1, hit, H0⟩ := bind_some H0
   refine J.loop (σ := Int) (τ := Unit) (G := Unit) (G' := Unit) _ o1 (fun s g => [(0, .slice Aa2 l1.length c3), (1, .int .i64 n5), (5, .int .i64 s)]) (fun s g => [At.rd Aa2 c3 fl_Pol.kd l1 true]) (fun t => ref33_All.k2 = some r) (fun t g => []) (fun t g => []) 0 () hit (fun _ h => Heap.to h) ?_ ?_
   · clear hit
     rintro i25 ⟨⟩ st1 H1 hb1 hr1
     replace H1 : ref33_All.s1 l1 n5 i25 = some st1 := H1
     unfold ref33_All.s1 at H1
     refine JQ.sub [(0, .slice Aa2 l1.length c3), (1, .int .i64 n5), (5, .int .i64 i25)] ?_
     refine JQ.turn (Δ' := [At.rd Aa2 c3 fl_Pol.kd l1 true]) (fun _ h => h.to) ?_
     refine J.seq ?_
     refine J.seq ?_
     refine J.region ?_
     refine JL.mv (.int .i64 i25) ?_
     refine JL.mv (.slice Aa2 l1.length c3) ?_
     refine JL.pur (.int .i64 (l1.length : Int)) (some 11) ?_
     refine JL.pur (.bool (decide (i25 < (l1.length : Int)))) (some 12) ?_
     refine JL.nil ?_
     refine JQ.then_normal ?_
     refine JQ.sub [(0, .slice Aa2 l1.length c3), (1, .int .i64 n5), (5, .int .i64 i25), (12, .bool (decide (i25 < (l1.length : Int))))] ?_
     rcases ite_cases H1 with ⟨h34, H1⟩ | ⟨h34, H1⟩
     · refine J.cond_true h34 ?_
       refine J.skip ?_
       refine JQ.then_normal ?_
       refine JQ.sub [(0, .slice Aa2 l1.length c3), (1, .int .i64 n5), (5, .int .i64 i25)] ?_
       refine J.seq ?_
       refine J.block ?_
       refine J.seq ?_
       refine J.region ?_
       refine JL.mv (.slice Aa2 l1.length c3) ?_
       refine JL.mv (.int .i64 i25) ?_
       obtain ⟨⟨h35, h36⟩, H1⟩ := ite_must H1
       refine JL.ixAddr 0 15 c3 .i64 (elems_rd Aa2 c3 fl_Pol.kd l1 true) Try.underlying39 tySize_57 h35 h36 fun g37 o38 hA => ?_
       subst hA
       refine JL.val (mv_57 (ix l1 i25)) (some 18) (gives_loadEl (f := fl_Pol) 0 0 i25 (elems_rd (some ⟨g37, o38, none⟩) c3 fl_Pol.kd l1 true) h35 h36 tySize_57 (.inl ⟨tyAgg_57, rfl⟩)) ?_
       refine JL.mv (.int .i64 n5) ?_
       obtain ⟨t39, hc40, H1⟩ := bind_some H1
       refine JL.call [] [] [] (ref33_Seen.ok (ix l1 i25) n5 _ hc40) trivial ?_
       rintro _ _ ⟨rfl, rfl⟩
       refine JL.pur (.bool (!t39)) (some 21) ?_
       refine JL.nil ?_
       refine JQ.then_normal ?_
       refine JQ.sub [(0, .slice (some ⟨g37, o38, none⟩) l1.length c3), (1, .int .i64 n5), (5, .int .i64 i25), (21, .bool (!t39))] ?_
       rcases ite_cases H1 with ⟨h41, H1⟩ | ⟨h41, H1⟩
       · refine J.cond_true h41 ?_
         refine J.seq ?_
         refine J.region ?_
         refine JL.as (.int .i64 8) ?_
         refine JL.nil ?_
         refine JQ.then_normal ?_
         refine JQ.sub [(4, .int .i64 8)] ?_
         refine JQ.mask [] [false] ?_
         refine J.ret ?_
         refine JQ.blk_ret ?_
         refine JQ.then_ret ?_
         refine JQ.then_ret ?_
         refine JQ.blk_ret ?_
         refine JQ.met_ret ?_
         refine JQ.then_ret ?_
         rw [hr1 _ (Option.some.inj H1).symm, fin_ret] at H0
         obtain rfl := Option.some.inj H0
         exact JQ.done' (rs := [.tmp 4]) (vs := [.int .i64 8]) [] (.inr rfl) ⟨by kernel_rfl, trivial⟩ (fun _ h => Heap.to h) ⟨rfl, rfl⟩
       · refine J.cond_false h41 ?_
         refine J.skip ?_
         refine JQ.blk_normal ?_
         refine JQ.then_normal ?_
         refine JQ.sub [(0, .slice (some ⟨g37, o38, none⟩) l1.length c3), (1, .int .i64 n5), (5, .int .i64 i25)] ?_
         refine J.region ?_
         refine JL.mv (.int .i64 i25) ?_
         refine JL.pur (.int .i64 (w64 (i25 + 1))) (some 14) ?_
         refine JL.as (.int .i64 (w64 (i25 + 1))) ?_
         refine JL.nil ?_
         refine JQ.then_normal ?_
         exact JQ.again (w64 (i25 + 1)) () (Option.some.inj H1).symm (fun _ h => Heap.to h)
     · refine J.cond_false h34 ?_
       refine J.exit ?_
       refine JQ.then_exit ?_
       refine JQ.then_exit ?_
       refine JQ.blk_exit ?_
       rw [hb1 _ (Option.some.inj H1).symm, fin_brk] at H0
       exact JQ.met () () H0 (fun _ h => Heap.to (Heap.pick [] (by decide) h))
   · clear hit H0
     rintro ⟨⟩ ⟨⟩ H0
     replace H0 : ref33_All.k2 = some r := H0
     unfold ref33_All.k2 at H0
     refine JQ.sub [] ?_
     refine JQ.turn (Δ' := []) (fun _ h => h.to) ?_
     refine JQ.then_normal ?_
     refine J.seq ?_
     refine J.region ?_
     refine JL.as (.int .i64 0) ?_
     refine JL.nil ?_
     refine JQ.then_normal ?_
     refine J.ret ?_
     obtain rfl := Option.some.inj H0
     exact JQ.done' (rs := [.tmp 4]) (vs := [.int .i64 0]) [] (.inr rfl) ⟨by kernel_rfl, trivial⟩ (fun _ h => Heap.to h) ⟨rfl, rfl⟩

theorem ref33_both.ok (p1 : Cx) (q2 : Cx) (r3 : Cx) (s4 : Cx) (r : (Cx × Bool)) (H0 : ref33_both.f p1 q2 r3 s4 = some r) :
    Does Try.prog 36 [mv_23 p1, mv_23 q2, mv_23 r3, mv_23 s4].toArray [] [] false (fun v Δ => v = .tuple #[mv_23 r.1, .bool r.2] ∧ Δ = []) := by
 refine Does.body (vs := [mv_23 p1, mv_23 q2, mv_23 r3, mv_23 s4]) Try.func36 rfl trivial trivial fun w S => ?_
 unfold ref33_both.f at H0
 refine J.seq ?_
 refine J.region ?_
 refine JL.box (cl_23 p1) fun b5 => ?_
 refine JL.box (cl_23 q2) fun b6 => ?_
 refine JL.box (cl_23 r3) fun b7 => ?_
 refine JL.box (cl_23 s4) fun b8 => ?_
 refine JL.alloc (cl_23 zv_23) fun b9 => ?_
 refine JL.as (.bool false) ?_
 refine JL.nil ?_
 refine JQ.then_normal ?_
 refine JQ.sub [(4, .pointer (some ⟨b5, 0, none⟩)), (5, .pointer (some ⟨b6, 0, none⟩)), (6, .pointer (some ⟨b7, 0, none⟩)), (7, .pointer (some ⟨b8, 0, none⟩)), (8, .pointer (some ⟨b9, 0, none⟩))] ?_
 refine J.seq ?_
 refine J.region ?_
 refine JL.val (mv_23 p1) (some 17) (yields_load_boxes 0 0 (cl_23 p1) (holds_box b5 23 (cl_23 p1)) tyAgg_23 tySize_23) ?_
 refine JL.val (mv_23 q2) (some 18) (yields_load_boxes 1 0 (cl_23 q2) (holds_box b6 23 (cl_23 q2)) tyAgg_23 tySize_23) ?_
 obtain ⟨t10, hc11, H0⟩ := bind_some H0
 refine JL.call [] [] [] (ref25_Mul.ok p1 q2 _ hc11) trivial ?_
 rintro _ _ ⟨rfl, rfl⟩
 refine JL.mv (.tuple #[mv_23 t10.1, .int .i64 t10.2]) ?_
 refine JL.pur (mv_23 t10.1) (some 20) ?_
 refine JL.pur (.int .i64 t10.2) (some 21) ?_
 refine JL.alloc (cl_23 zv_23) fun b12 => ?_
 refine JL.store 5 b12 0 23 (cl_23 zv_23) (cl_23 t10.1) tySize_23 ?_
 refine JL.as (.int .i64 t10.2) ?_
 refine JL.nil ?_
 refine JQ.then_normal ?_
 refine JQ.sub [(6, .pointer (some ⟨b7, 0, none⟩)), (7, .pointer (some ⟨b8, 0, none⟩)), (8, .pointer (some ⟨b9, 0, none⟩)), (10, .pointer (some ⟨b12, 0, none⟩)), (11, .int .i64 t10.2)] ?_
 refine JQ.mask [At.box b7 23 (cl_23 r3), At.box b8 23 (cl_23 s4), At.box b9 23 (cl_23 zv_23), At.box b12 23 (cl_23 t10.1)] [false, false, true, true, true, true] ?_
 refine J.seq ?_
 refine J.region ?_
 refine JL.val (mv_23 r3) (some 23) (yields_load_boxes 0 0 (cl_23 r3) (holds_box b7 23 (cl_23 r3)) tyAgg_23 tySize_23) ?_
 refine JL.val (mv_23 s4) (some 24) (yields_load_boxes 1 0 (cl_23 s4) (holds_box b8 23 (cl_23 s4)) tyAgg_23 tySize_23) ?_
 obtain ⟨t13, hc14, H0⟩ := bind_some H0
 refine JL.call [] [] [] (ref25_Mul.ok r3 s4 _ hc14) trivial ?_
 rintro _ _ ⟨rfl, rfl⟩
 refine JL.mv (.tuple #[mv_23 t13.1, .int .i64 t13.2]) ?_
 refine JL.pur (mv_23 t13.1) (some 26) ?_
 refine JL.pur (.int .i64 t13.2) (some 27) ?_
 refine JL.alloc (cl_23 zv_23) fun b15 => ?_
 refine JL.store 4 b15 0 23 (cl_23 zv_23) (cl_23 t13.1) tySize_23 ?_
 refine JL.as (.int .i64 t13.2) ?_
 refine JL.nil ?_
 refine JQ.then_normal ?_
 refine JQ.sub [(8, .pointer (some ⟨b9, 0, none⟩)), (10, .pointer (some ⟨b12, 0, none⟩)), (11, .int .i64 t10.2), (12, .pointer (some ⟨b15, 0, none⟩)), (13, .int .i64 t13.2)] ?_
 refine JQ.mask [At.box b9 23 (cl_23 zv_23), At.box b12 23 (cl_23 t10.1), At.box b15 23 (cl_23 t13.1)] [false, false, true, true, true] ?_
 refine J.seq ?_
 refine J.join (T := Bool) (G := Unit) (fun t => ref33_both.k1 t10 t13 t = some r) (fun t g => [(8, .pointer (some ⟨b9, 0, none⟩)), (10, .pointer (some ⟨b12, 0, none⟩)), (12, .pointer (some ⟨b15, 0, none⟩)), (33, .bool t)]) (fun t g => [At.box b9 23 (cl_23 zv_23), At.box b12 23 (cl_23 t10.1), At.box b15 23 (cl_23 t13.1)]) ?_ ?_
 · refine J.region ?_
   refine JL.mv (.int .i64 t10.2) ?_
   refine JL.pur (.bool (!decide (t10.2 = 0))) (some 29) ?_
   refine JL.mv (.bool (!decide (t10.2 = 0))) ?_
   rcases ite_cases H0 with ⟨h22, H0⟩ | ⟨h22, H0⟩
   · refine JL.off 2 30 false (some 31) h22 ?_
     refine JL.off 2 30 false (some 32) h22 ?_
     refine JL.val (.bool true) (some 33) (gives_pickT h22) ?_
     refine JL.nil ?_
     refine JQ.then_normal ?_
     exact JQ.meet true () H0 (fun _ h => Heap.to h)
   · refine JL.on 2 30 h22 ?_
     refine JL.mv (.int .i64 t13.2) ?_
     refine JL.on 2 30 h22 ?_
     refine JL.pur (.bool (!decide (t13.2 = 0))) (some 32) ?_
     refine JL.val (.bool (!decide (t13.2 = 0))) (some 33) (gives_pickF h22) ?_
     refine JL.nil ?_
     refine JQ.then_normal ?_
     exact JQ.meet (!decide (t13.2 = 0)) () H0 (fun _ h => Heap.to h)
 · clear H0
   rintro x17 ⟨⟩ H0
   replace H0 : ref33_both.k1 t10 t13 x17 = some r := H0
   unfold ref33_both.k1 at H0
   refine JQ.sub [(8, .pointer (some ⟨b9, 0, none⟩)), (10, .pointer (some ⟨b12, 0, none⟩)), (12, .pointer (some ⟨b15, 0, none⟩)), (33, .bool x17)] ?_
   refine JQ.turn (Δ' := [At.box b9 23 (cl_23 zv_23), At.box b12 23 (cl_23 t10.1), At.box b15 23 (cl_23 t13.1)]) (fun _ h => h.to) ?_
   rcases ite_cases H0 with ⟨h18, H0⟩ | ⟨h18, H0⟩
   · refine J.cond_true h18 ?_
     refine J.seq ?_
     refine J.region ?_
     refine JL.pur (mv_23 zv_23) (some 34) ?_
     refine JL.store 0 b9 0 23 (cl_23 zv_23) (cl_23 zv_23) tySize_23 ?_
     refine JL.as (.bool false) ?_
     refine JL.nil ?_
     refine JQ.then_normal ?_
     refine JQ.sub [(8, .pointer (some ⟨b9, 0, none⟩)), (9, .bool false)] ?_
     refine JQ.mask [At.box b9 23 (cl_23 zv_23)] [true, false, false] ?_
     refine J.ret ?_
     refine JQ.then_ret ?_
     obtain rfl := Option.some.inj H0
     exact JQ.done' (rs := [.cell 8 23, .tmp 9]) (vs := [.agg #[.int .i64 0, .int .i64 0, .int .i64 0], .bool false]) [] (.inr rfl) ⟨⟨b9, 0, _, _, by kernel_rfl, by kernel_rfl, holds_box b9 23 (cl_23 zv_23), .inl ⟨tyAgg_23, tySize_23, rfl⟩⟩, by kernel_rfl, trivial⟩ (fun _ h => Heap.to (Heap.pick [] (by decide) h)) ⟨rfl, rfl⟩
   · refine J.cond_false h18 ?_
     refine J.skip ?_
     refine JQ.then_normal ?_
     refine JQ.sub [(8, .pointer (some ⟨b9, 0, none⟩)), (10, .pointer (some ⟨b12, 0, none⟩)), (12, .pointer (some ⟨b15, 0, none⟩))] ?_
     refine J.seq ?_
     refine J.region ?_
     refine JL.val (mv_23 t10.1) (some 36) (yields_load_boxes 1 0 (cl_23 t10.1) (holds_box b12 23 (cl_23 t10.1)) tyAgg_23 tySize_23) ?_
     refine JL.val (mv_23 t13.1) (some 37) (yields_load_boxes 2 0 (cl_23 t13.1) (holds_box b15 23 (cl_23 t13.1)) tyAgg_23 tySize_23) ?_
     obtain ⟨t19, hc20, H0⟩ := bind_some H0
     refine JL.call [] [] [] (ref25_Add.ok t10.1 t13.1 _ hc20) trivial ?_
     rintro _ _ ⟨rfl, rfl⟩
     refine JL.mv (.tuple #[mv_23 t19.1, .int .i64 t19.2]) ?_
     refine JL.pur (mv_23 t19.1) (some 39) ?_
     refine JL.pur (.int .i64 t19.2) (some 40) ?_
     refine JL.alloc (cl_23 zv_23) fun b21 => ?_
     refine JL.store 3 b21 0 23 (cl_23 zv_23) (cl_23 t19.1) tySize_23 ?_
     refine JL.as (.int .i64 t19.2) ?_
     refine JL.nil ?_
     refine JQ.then_normal ?_
     refine JQ.sub [(8, .pointer (some ⟨b9, 0, none⟩)), (14, .pointer (some ⟨b21, 0, none⟩)), (15, .int .i64 t19.2)] ?_
     refine JQ.mask [At.box b9 23 (cl_23 zv_23), At.box b21 23 (cl_23 t19.1)] [true, false, false, true] ?_
     refine J.seq ?_
     refine J.region ?_
     refine JL.val (mv_23 t19.1) (some 41) (yields_load_boxes 1 0 (cl_23 t19.1) (holds_box b21 23 (cl_23 t19.1)) tyAgg_23 tySize_23) ?_
     refine JL.mv (.int .i64 t19.2) ?_
     refine JL.pur (.bool (decide (t19.2 = 0))) (some 43) ?_
     refine JL.store 0 b9 0 23 (cl_23 zv_23) (cl_23 t19.1) tySize_23 ?_
     refine JL.as (.bool (decide (t19.2 = 0))) ?_
     refine JL.nil ?_
     refine JQ.then_normal ?_
     refine JQ.sub [(8, .pointer (some ⟨b9, 0, none⟩)), (9, .bool (decide (t19.2 = 0)))] ?_
     refine JQ.mask [At.box b9 23 (cl_23 t19.1)] [true, false] ?_
     refine J.ret ?_
     obtain rfl := Option.some.inj H0
     exact JQ.done' (rs := [.cell 8 23, .tmp 9]) (vs := [.agg #[.int .i64 t19.1.Re, .int .i64 t19.1.Im, .int .i64 t19.1.Den], .bool (decide (t19.2 = 0))]) [] (.inr rfl) ⟨⟨b9, 0, _, _, by kernel_rfl, by kernel_rfl, holds_box b9 23 (cl_23 t19.1), .inl ⟨tyAgg_23, tySize_23, rfl⟩⟩, by kernel_rfl, trivial⟩ (fun _ h => Heap.to (Heap.pick [] (by decide) h)) ⟨rfl, rfl⟩

theorem ref33_Mul.ok (a1 : (A4 Cx)) (b2 : (A4 Cx)) (r : ((A4 Cx) × Int)) (H0 : ref33_Mul.f a1 b2 = some r) :
    Does Try.prog 10 [mv_25 a1, mv_25 b2].toArray [] [] false (fun v Δ => v = .tuple #[mv_25 r.1, .int .i64 r.2] ∧ Δ = []) := by
 refine Does.body (vs := [mv_25 a1, mv_25 b2]) Try.func10 rfl trivial trivial fun w S => ?_
 unfold ref33_Mul.f at H0
 refine J.seq ?_
 refine J.region ?_
 refine JL.box (cl_25 a1) fun b3 => ?_
 refine JL.box (cl_25 b2) fun b4 => ?_
 refine JL.alloc (cl_25 zv_25) fun b5 => ?_
 refine JL.as (.int .i64 0) ?_
 refine JL.nil ?_
 refine JQ.then_normal ?_
 refine JQ.sub [(2, .pointer (some ⟨b3, 0, none⟩)), (3, .pointer (some ⟨b4, 0, none⟩)), (4, .pointer (some ⟨b5, 0, none⟩))] ?_
 refine J.seq ?_
 refine J.join (T := Bool) (G := Unit) (fun t => ref33_Mul.k1 a1 b2 t = some r) (fun t g => [(2, .pointer (some ⟨b3, 0, none⟩)), (3, .pointer (some ⟨b4, 0, none⟩)), (4, .pointer (some ⟨b5, 0, none⟩)), (18, .bool t)]) (fun t g => [At.box b3 25 (cl_25 a1), At.box b4 25 (cl_25 b2), At.box b5 25 (cl_25 zv_25)]) ?_ ?_
 · refine J.region ?_
   refine JL.val (mv_25 a1) (some 11) (yields_load_boxes 0 0 (cl_25 a1) (holds_box b3 25 (cl_25 a1)) tyAgg_25 tySize_25) ?_
   obtain ⟨t861, hc862, H0⟩ := bind_some H0
   refine JL.call [] [] [] (ref33_Valid.ok a1 _ hc862) trivial ?_
   rintro _ _ ⟨rfl, rfl⟩
   refine JL.pur (.bool (!t861)) (some 13) ?_
   refine JL.mv (.bool (!t861)) ?_
   rcases ite_cases H0 with ⟨h863, H0⟩ | ⟨h863, H0⟩
   · refine JL.off 3 14 false (some 15) h863 ?_
     refine JL.off 3 14 false (some 16) h863 ?_
     refine JL.off 3 14 false (some 17) h863 ?_
     refine JL.val (.bool true) (some 18) (gives_pickT h863) ?_
     refine JL.nil ?_
     refine JQ.then_normal ?_
     exact JQ.meet true () H0 (fun _ h => Heap.to h)
   · refine JL.on 3 14 h863 ?_
     refine JL.val (mv_25 b2) (some 15) (yields_load_boxes 1 0 (cl_25 b2) (holds_box b4 25 (cl_25 b2)) tyAgg_25 tySize_25) ?_
     refine JL.on 3 14 h863 ?_
     obtain ⟨t864, hc865, H0⟩ := bind_some H0
     refine JL.call [] [] [] (ref33_Valid.ok b2 _ hc865) trivial ?_
     rintro _ _ ⟨rfl, rfl⟩
     refine JL.on 3 14 h863 ?_
     refine JL.pur (.bool (!t864)) (some 17) ?_
     refine JL.val (.bool (!t864)) (some 18) (gives_pickF h863) ?_
     refine JL.nil ?_
     refine JQ.then_normal ?_
     exact JQ.meet (!t864) () H0 (fun _ h => Heap.to h)
 · clear H0
   rintro x11 ⟨⟩ H0
   replace H0 : ref33_Mul.k1 a1 b2 x11 = some r := H0
   unfold ref33_Mul.k1 at H0
   refine JQ.sub [(2, .pointer (some ⟨b3, 0, none⟩)), (3, .pointer (some ⟨b4, 0, none⟩)), (4, .pointer (some ⟨b5, 0, none⟩)), (18, .bool x11)] ?_
   refine JQ.turn (Δ' := [At.box b3 25 (cl_25 a1), At.box b4 25 (cl_25 b2), At.box b5 25 (cl_25 zv_25)]) (fun _ h => h.to) ?_
   rcases ite_cases H0 with ⟨h12, H0⟩ | ⟨h12, H0⟩
   · refine J.cond_true h12 ?_
     refine J.seq ?_
     refine J.region ?_
     refine JL.pur (mv_25 zv_25) (some 19) ?_
     refine JL.store 2 b5 0 25 (cl_25 zv_25) (cl_25 zv_25) tySize_25 ?_
     refine JL.as (.int .i64 8) ?_
     refine JL.nil ?_
     refine JQ.then_normal ?_
     refine JQ.sub [(4, .pointer (some ⟨b5, 0, none⟩)), (5, .int .i64 8)] ?_
     refine JQ.mask [At.box b5 25 (cl_25 zv_25)] [false, false, true] ?_
     refine J.ret ?_
     refine JQ.then_ret ?_
     obtain rfl := Option.some.inj H0
     exact JQ.done' (rs := [.cell 4 25, .tmp 5]) (vs := [.agg #[.int .i64 0, .int .i64 0, .int .i64 0, .int .i64 0, .int .i64 0, .int .i64 0, .int .i64 0, .int .i64 0, .int .i64 0, .int .i64 0, .int .i64 0, .int .i64 0], .int .i64 8]) [] (.inr rfl) ⟨⟨b5, 0, _, _, by kernel_rfl, by kernel_rfl, holds_box b5 25 (cl_25 zv_25), .inl ⟨tyAgg_25, tySize_25, rfl⟩⟩, by kernel_rfl, trivial⟩ (fun _ h => Heap.to (Heap.pick [] (by decide) h)) ⟨rfl, rfl⟩
   · refine J.cond_false h12 ?_
     refine J.skip ?_
     refine JQ.then_normal ?_
     refine JQ.sub [(2, .pointer (some ⟨b3, 0, none⟩)), (3, .pointer (some ⟨b4, 0, none⟩)), (4, .pointer (some ⟨b5, 0, none⟩))] ?_
     refine J.seq ?_
     refine J.region ?_
     refine JL.alloc (cl_25 zv_25) fun b13 => ?_
     refine JL.nil ?_
     refine JQ.then_normal ?_
     refine J.seq ?_
     refine J.seq ?_
     refine J.region ?_
     refine JL.as (.int .i64 0) ?_
     refine JL.nil ?_
     refine JQ.then_normal ?_
     obtain ⟨o1, hit, H0⟩ := bind_some H0
     refine J.loop (σ := ((A4 Cx) × Int)) (τ := (A4 Cx)) (G := Unit) (G' := Unit) _ o1 (fun s g => [(2, .pointer (some ⟨b3, 0, none⟩)), (3, .pointer (some ⟨b4, 0, none⟩)), (4, .pointer (some ⟨b5, 0, none⟩)), (6, .pointer (some ⟨b13, 0, none⟩)), (7, .int .i64 s.2)]) (fun s g => [At.box b3 25 (cl_25 a1), At.box b4 25 (cl_25 b2), At.box b5 25 (cl_25 zv_25), At.box b13 25 (cl_25 s.1)]) (fun t => ref33_Mul.k21 t = some r) (fun t g => [(4, .pointer (some ⟨b5, 0, none⟩)), (6, .pointer (some ⟨b13, 0, none⟩))]) (fun t g => [At.box b5 25 (cl_25 zv_25), At.box b13 25 (cl_25 t)]) ((⟨(⟨0, 0, 0⟩ : Cx), (⟨0, 0, 0⟩ : Cx), (⟨0, 0, 0⟩ : Cx), (⟨0, 0, 0⟩ : Cx)⟩ : (A4 Cx)), 0) () hit (fun _ h => Heap.to h) ?_ ?_
     · clear hit
       rintro ⟨out404, r405⟩ ⟨⟩ st1 H1 hb1 hr1
       replace H1 : ref33_Mul.s20 a1 b2 out404 r405 = some st1 := H1
       unfold ref33_Mul.s20 at H1
       refine JQ.sub [(2, .pointer (some ⟨b3, 0, none⟩)), (3, .pointer (some ⟨b4, 0, none⟩)), (4, .pointer (some ⟨b5, 0, none⟩)), (6, .pointer (some ⟨b13, 0, none⟩)), (7, .int .i64 r405)] ?_
       refine JQ.turn (Δ' := [At.box b3 25 (cl_25 a1), At.box b4 25 (cl_25 b2), At.box b5 25 (cl_25 zv_25), At.box b13 25 (cl_25 out404)]) (fun _ h => h.to) ?_
       refine J.seq ?_
       refine J.seq ?_
       refine J.region ?_
       refine JL.mv (.int .i64 r405) ?_
       refine JL.pur (.bool (decide (r405 < 2))) (some 21) ?_
       refine JL.nil ?_
       refine JQ.then_normal ?_
       refine JQ.sub [(2, .pointer (some ⟨b3, 0, none⟩)), (3, .pointer (some ⟨b4, 0, none⟩)), (4, .pointer (some ⟨b5, 0, none⟩)), (6, .pointer (some ⟨b13, 0, none⟩)), (7, .int .i64 r405), (21, .bool (decide (r405 < 2)))] ?_
       rcases ite_cases H1 with ⟨h634, H1⟩ | ⟨h634, H1⟩
       · refine J.cond_true h634 ?_
         refine J.skip ?_
         refine JQ.then_normal ?_
         refine JQ.sub [(2, .pointer (some ⟨b3, 0, none⟩)), (3, .pointer (some ⟨b4, 0, none⟩)), (4, .pointer (some ⟨b5, 0, none⟩)), (6, .pointer (some ⟨b13, 0, none⟩)), (7, .int .i64 r405)] ?_
         refine J.seq ?_
         refine J.block ?_
         refine J.seq ?_
         refine J.region ?_
         refine JL.as (.int .i64 0) ?_
         refine JL.nil ?_
         refine JQ.then_normal ?_
         obtain ⟨o2, hit, H1⟩ := bind_some H1
         refine J.loop (σ := ((A4 Cx) × Int)) (τ := (A4 Cx)) (G := Unit) (G' := Unit) _ o2 (fun s g => [(2, .pointer (some ⟨b3, 0, none⟩)), (3, .pointer (some ⟨b4, 0, none⟩)), (4, .pointer (some ⟨b5, 0, none⟩)), (6, .pointer (some ⟨b13, 0, none⟩)), (7, .int .i64 r405), (8, .int .i64 s.2)]) (fun s g => [At.box b3 25 (cl_25 a1), At.box b4 25 (cl_25 b2), At.box b5 25 (cl_25 zv_25), At.box b13 25 (cl_25 s.1)]) (fun t => ref33_Mul.k26 r405 t = some st1) (fun t g => [(2, .pointer (some ⟨b3, 0, none⟩)), (3, .pointer (some ⟨b4, 0, none⟩)), (4, .pointer (some ⟨b5, 0, none⟩)), (6, .pointer (some ⟨b13, 0, none⟩)), (7, .int .i64 r405)]) (fun t g => [At.box b3 25 (cl_25 a1), At.box b4 25 (cl_25 b2), At.box b5 25 (cl_25 zv_25), At.box b13 25 (cl_25 t)]) (out404, 0) () hit (fun _ h => Heap.to h) ?_ ?_
         · clear hit
           rintro ⟨out740, c741⟩ ⟨⟩ st2 H2 hb2 hr2
           replace H2 : ref33_Mul.s25 a1 b2 r405 out740 c741 = some st2 := H2
           unfold ref33_Mul.s25 at H2
           refine JQ.sub [(2, .pointer (some ⟨b3, 0, none⟩)), (3, .pointer (some ⟨b4, 0, none⟩)), (4, .pointer (some ⟨b5, 0, none⟩)), (6, .pointer (some ⟨b13, 0, none⟩)), (7, .int .i64 r405), (8, .int .i64 c741)] ?_
           refine JQ.turn (Δ' := [At.box b3 25 (cl_25 a1), At.box b4 25 (cl_25 b2), At.box b5 25 (cl_25 zv_25), At.box b13 25 (cl_25 out740)]) (fun _ h => h.to) ?_
           refine J.seq ?_
           refine J.seq ?_
           refine J.region ?_
           refine JL.mv (.int .i64 c741) ?_
           refine JL.pur (.bool (decide (c741 < 2))) (some 25) ?_
           refine JL.nil ?_
           refine JQ.then_normal ?_
           refine JQ.sub [(2, .pointer (some ⟨b3, 0, none⟩)), (3, .pointer (some ⟨b4, 0, none⟩)), (4, .pointer (some ⟨b5, 0, none⟩)), (6, .pointer (some ⟨b13, 0, none⟩)), (7, .int .i64 r405), (8, .int .i64 c741), (25, .bool (decide (c741 < 2)))] ?_
           rcases ite_cases H2 with ⟨h802, H2⟩ | ⟨h802, H2⟩
           · refine J.cond_true h802 ?_
             refine J.skip ?_
             refine JQ.then_normal ?_
             refine JQ.sub [(2, .pointer (some ⟨b3, 0, none⟩)), (3, .pointer (some ⟨b4, 0, none⟩)), (4, .pointer (some ⟨b5, 0, none⟩)), (6, .pointer (some ⟨b13, 0, none⟩)), (7, .int .i64 r405), (8, .int .i64 c741)] ?_
             refine J.seq ?_
             refine J.block ?_
             refine J.join (T := (Cx × Bool)) (G := Nat) (fun t => ref33_Mul.k27 r405 out740 c741 t.1 t.2 = some st2) (fun t g => [(2, .pointer (some ⟨b3, 0, none⟩)), (3, .pointer (some ⟨b4, 0, none⟩)), (4, .pointer (some ⟨b5, 0, none⟩)), (6, .pointer (some ⟨b13, 0, none⟩)), (7, .int .i64 r405), (8, .int .i64 c741), (9, .pointer (some ⟨g, 0, none⟩)), (10, .bool t.2)]) (fun t g => [At.box b3 25 (cl_25 a1), At.box b4 25 (cl_25 b2), At.box b5 25 (cl_25 zv_25), At.box b13 25 (cl_25 out740), At.box g 23 (cl_23 t.1)]) ?_ ?_
             · obtain ⟨⟨h836, h837⟩, H2⟩ := ite_must H2
               obtain ⟨⟨h838, h839⟩, H2⟩ := ite_must H2
               obtain ⟨⟨h840, h841⟩, H2⟩ := ite_must H2
               obtain ⟨⟨h842, h843⟩, H2⟩ := ite_must H2
               obtain ⟨t844, hc845, H2⟩ := bind_some H2
               refine JY.start [21] (ba 23 0) ?_
               refine JY.pur (hi := rfl) 0 (ba 23 1) (.int .i64 r405) (some 29) want ?_
               refine JY.pur (hi := rfl) 1 (ba 23 3) (.int .i64 (w64 (2 * r405))) (some 30) want ?_
               obtain ⟨h847, h848⟩ : 0 ≤ w64 (2 * r405) ∧ w64 (2 * r405) < 4 := ⟨h836, h837⟩
               refine JY.puw (hi := rfl) 2 (ba 23 7) (.pointer (some ⟨b3, 0 + (w64 (2 * r405)).toNat * 3, none⟩)) (some 31) want (givesW_ixArrD (b := b3) (o := 0) (i := w64 (2 * r405)) 4 3 .i64 h847 h848 Try.underlying25 tySize_23) ?_
               refine JY.take (hi := rfl) 3 (ba 23 15) (mv_23 (ix ([a1.e0, a1.e1, a1.e2, a1.e3] : List Cx) (w64 (2 * r405)))) (some 32) [true, true, true, true] want (gives_loadEl (f := fl_Cx) 0 0 (w64 (2 * r405)) (elems_arr b3 25 (cl_25 a1) fl_Cx ([a1.e0, a1.e1, a1.e2, a1.e3] : List Cx) 0) h847 h848 tySize_23 (.inl ⟨tyAgg_23, rfl⟩)) ?_
               refine JY.pur (hi := rfl) 4 (ba 23 31) (.int .i64 c741) (some 33) want ?_
               obtain ⟨h849, h850⟩ : 0 ≤ c741 ∧ c741 < 4 := ⟨h838, h839⟩
               refine JY.puw (hi := rfl) 5 (ba 23 63) (.pointer (some ⟨b4, 0 + c741.toNat * 3, none⟩)) (some 34) want (givesW_ixArrD (b := b4) (o := 0) (i := c741) 4 3 .i64 h849 h850 Try.underlying25 tySize_23) ?_
               refine JY.take (hi := rfl) 6 (ba 23 127) (mv_23 (ix ([b2.e0, b2.e1, b2.e2, b2.e3] : List Cx) c741)) (some 35) [true, true, true, true] want (gives_loadEl (f := fl_Cx) 1 0 c741 (elems_arr b4 25 (cl_25 b2) fl_Cx ([b2.e0, b2.e1, b2.e2, b2.e3] : List Cx) 0) h849 h850 tySize_23 (.inl ⟨tyAgg_23, rfl⟩)) ?_
               refine JY.pur (hi := rfl) 7 (ba 23 255) (.int .i64 r405) (some 36) want ?_
               refine JY.pur (hi := rfl) 8 (ba 23 511) (.int .i64 (w64 (2 * r405))) (some 37) want ?_
               refine JY.pur (hi := rfl) 9 (ba 23 1023) (.int .i64 (w64 ((w64 (2 * r405)) + 1))) (some 38) want ?_
               obtain ⟨h851, h852⟩ : 0 ≤ w64 ((w64 (2 * r405)) + 1) ∧ w64 ((w64 (2 * r405)) + 1) < 4 := ⟨h840, h841⟩
               refine JY.puw (hi := rfl) 10 (ba 23 2047) (.pointer (some ⟨b3, 0 + (w64 ((w64 (2 * r405)) + 1)).toNat * 3, none⟩)) (some 39) want (givesW_ixArrD (b := b3) (o := 0) (i := w64 ((w64 (2 * r405)) + 1)) 4 3 .i64 h851 h852 Try.underlying25 tySize_23) ?_
               refine JY.take (hi := rfl) 11 (ba 23 4095) (mv_23 (ix ([a1.e0, a1.e1, a1.e2, a1.e3] : List Cx) (w64 ((w64 (2 * r405)) + 1)))) (some 40) [true, true, true, true] want (gives_loadEl (f := fl_Cx) 0 0 (w64 ((w64 (2 * r405)) + 1)) (elems_arr b3 25 (cl_25 a1) fl_Cx ([a1.e0, a1.e1, a1.e2, a1.e3] : List Cx) 0) h851 h852 tySize_23 (.inl ⟨tyAgg_23, rfl⟩)) ?_
               refine JY.pur (hi := rfl) 12 (ba 23 8191) (.int .i64 c741) (some 41) want ?_
               refine JY.pur (hi := rfl) 13 (ba 23 16383) (.int .i64 (w64 (2 + c741))) (some 42) want ?_
               obtain ⟨h853, h854⟩ : 0 ≤ w64 (2 + c741) ∧ w64 (2 + c741) < 4 := ⟨h842, h843⟩
               refine JY.puw (hi := rfl) 14 (ba 23 32767) (.pointer (some ⟨b4, 0 + (w64 (2 + c741)).toNat * 3, none⟩)) (some 43) want (givesW_ixArrD (b := b4) (o := 0) (i := w64 (2 + c741)) 4 3 .i64 h853 h854 Try.underlying25 tySize_23) ?_
               refine JY.take (hi := rfl) 15 (ba 23 65535) (mv_23 (ix ([b2.e0, b2.e1, b2.e2, b2.e3] : List Cx) (w64 (2 + c741)))) (some 44) [true, true, true, true] want (gives_loadEl (f := fl_Cx) 1 0 (w64 (2 + c741)) (elems_arr b4 25 (cl_25 b2) fl_Cx ([b2.e0, b2.e1, b2.e2, b2.e3] : List Cx) 0) h853 h854 tySize_23 (.inl ⟨tyAgg_23, rfl⟩)) ?_
               refine JY.all [16, 20] ⟨⟨_, rfl, ?_⟩, ⟨_, rfl, ?_⟩, trivial⟩
               · refine JL.call [] [] [] (ref33_both.ok (ix ([a1.e0, a1.e1, a1.e2, a1.e3] : List Cx) (w64 (2 * r405))) (ix ([b2.e0, b2.e1, b2.e2, b2.e3] : List Cx) c741) (ix ([a1.e0, a1.e1, a1.e2, a1.e3] : List Cx) (w64 ((w64 (2 * r405)) + 1))) (ix ([b2.e0, b2.e1, b2.e2, b2.e3] : List Cx) (w64 (2 + c741))) _ hc845) trivial ?_
                 rintro _ _ ⟨rfl, rfl⟩
                 refine JL.nil ?_
                 refine JY.ran (ba 23 131071) [true, true, true, true] ?_
                 refine JY.pur (hi := rfl) 17 (ba 23 262143) (.tuple #[mv_23 t844.1, .bool t844.2]) (some 28) want ?_
                 refine JY.pur (hi := rfl) 18 (ba 23 524287) (mv_23 t844.1) (some 46) want ?_
                 refine JY.pur (hi := rfl) 19 (ba 23 1048575) (.bool t844.2) (some 47) want ?_
                 refine JY.all [20] ⟨⟨_, rfl, ?_⟩, trivial⟩
                 refine JL.alloc (cl_23 zv_23) fun b857 => ?_
                 refine JL.nil ?_
                 refine JY.ran (ba 23 2097151) [true, true, true, true, false] ?_
                 refine JY.all [21] ⟨⟨_, rfl, ?_⟩, trivial⟩
                 refine JL.store 4 b857 0 23 (cl_23 zv_23) (cl_23 t844.1) tySize_23 ?_
                 refine JL.nil ?_
                 refine JY.ranD (ba 23 4194303) ?_
                 refine JY.pur (hi := rfl) 22 (ba 23 8388607) (.bool t844.2) (some 10) want ?_
                 refine JY.done ?_
                 refine JQ.then_normal ?_
                 exact JQ.meet (t844.1, t844.2) b857 H2 (fun _ h => Heap.to h)
               · refine JL.alloc (cl_23 zv_23) fun b858 => ?_
                 refine JL.nil ?_
                 refine JY.ran (ba 23 1114111) [true, true, true, true, false] ?_
                 refine JY.all [16] ⟨⟨_, rfl, ?_⟩, trivial⟩
                 refine JL.call [] [] [] (ref33_both.ok (ix ([a1.e0, a1.e1, a1.e2, a1.e3] : List Cx) (w64 (2 * r405))) (ix ([b2.e0, b2.e1, b2.e2, b2.e3] : List Cx) c741) (ix ([a1.e0, a1.e1, a1.e2, a1.e3] : List Cx) (w64 ((w64 (2 * r405)) + 1))) (ix ([b2.e0, b2.e1, b2.e2, b2.e3] : List Cx) (w64 (2 + c741))) _ hc845) trivial ?_
                 rintro _ _ ⟨rfl, rfl⟩
                 refine JL.nil ?_
                 refine JY.ran (ba 23 1179647) [true, true, true, true, false] ?_
                 refine JY.pur (hi := rfl) 17 (ba 23 1310719) (.tuple #[mv_23 t844.1, .bool t844.2]) (some 28) want ?_
                 refine JY.pur (hi := rfl) 18 (ba 23 1572863) (mv_23 t844.1) (some 46) want ?_
                 refine JY.pur (hi := rfl) 19 (ba 23 2097151) (.bool t844.2) (some 47) want ?_
                 refine JY.all [21] ⟨⟨_, rfl, ?_⟩, trivial⟩
                 refine JL.store 4 b858 0 23 (cl_23 zv_23) (cl_23 t844.1) tySize_23 ?_
                 refine JL.nil ?_
                 refine JY.ranD (ba 23 4194303) ?_
                 refine JY.pur (hi := rfl) 22 (ba 23 8388607) (.bool t844.2) (some 10) want ?_
                 refine JY.done ?_
                 refine JQ.then_normal ?_
                 exact JQ.meet (t844.1, t844.2) b858 H2 (fun _ h => Heap.to h)
             · clear H2
               rintro ⟨x830, ok831⟩ b828 H2
               replace H2 : ref33_Mul.k27 r405 out740 c741 x830 ok831 = some st2 := H2
               unfold ref33_Mul.k27 at H2
               refine JQ.sub [(2, .pointer (some ⟨b3, 0, none⟩)), (3, .pointer (some ⟨b4, 0, none⟩)), (4, .pointer (some ⟨b5, 0, none⟩)), (6, .pointer (some ⟨b13, 0, none⟩)), (7, .int .i64 r405), (8, .int .i64 c741), (9, .pointer (some ⟨b828, 0, none⟩)), (10, .bool ok831)] ?_
               refine JQ.turn (Δ' := [At.box b3 25 (cl_25 a1), At.box b4 25 (cl_25 b2), At.box b5 25 (cl_25 zv_25), At.box b13 25 (cl_25 out740), At.box b828 23 (cl_23 x830)]) (fun _ h => h.to) ?_
               refine J.seq ?_
               refine J.seq ?_
               refine J.region ?_
               refine JL.mv (.bool ok831) ?_
               refine JL.pur (.bool (!ok831)) (some 49) ?_
               refine JL.nil ?_
               refine JQ.then_normal ?_
               refine JQ.sub [(2, .pointer (some ⟨b3, 0, none⟩)), (3, .pointer (some ⟨b4, 0, none⟩)), (4, .pointer (some ⟨b5, 0, none⟩)), (6, .pointer (some ⟨b13, 0, none⟩)), (7, .int .i64 r405), (8, .int .i64 c741), (9, .pointer (some ⟨b828, 0, none⟩)), (49, .bool (!ok831))] ?_
               rcases ite_cases H2 with ⟨h832, H2⟩ | ⟨h832, H2⟩
               · refine J.cond_true h832 ?_
                 refine J.seq ?_
                 refine J.region ?_
                 refine JL.pur (mv_25 zv_25) (some 50) ?_
                 refine JL.store 2 b5 0 25 (cl_25 zv_25) (cl_25 zv_25) tySize_25 ?_
                 refine JL.as (.int .i64 16) ?_
                 refine JL.nil ?_
                 refine JQ.then_normal ?_
                 refine JQ.sub [(4, .pointer (some ⟨b5, 0, none⟩)), (5, .int .i64 16)] ?_
                 refine JQ.mask [At.box b5 25 (cl_25 zv_25)] [false, false, true, false, false] ?_
                 refine J.ret ?_
                 refine JQ.then_ret ?_
                 refine JQ.blk_ret ?_
                 refine JQ.then_ret ?_
                 refine JQ.then_ret ?_
                 refine JQ.blk_ret ?_
                 refine JQ.met_ret ?_
                 refine JQ.blk_ret ?_
                 refine JQ.then_ret ?_
                 refine JQ.then_ret ?_
                 refine JQ.blk_ret ?_
                 refine JQ.met_ret ?_
                 refine JQ.then_ret ?_
                 rw [hr2 _ (Option.some.inj H2).symm, fin_ret] at H1
                 rw [hr1 _ (Option.some.inj H1).symm, fin_ret] at H0
                 obtain rfl := Option.some.inj H0
                 exact JQ.done' (rs := [.cell 4 25, .tmp 5]) (vs := [.agg #[.int .i64 0, .int .i64 0, .int .i64 0, .int .i64 0, .int .i64 0, .int .i64 0, .int .i64 0, .int .i64 0, .int .i64 0, .int .i64 0, .int .i64 0, .int .i64 0], .int .i64 16]) [] (.inr rfl) ⟨⟨b5, 0, _, _, by kernel_rfl, by kernel_rfl, holds_box b5 25 (cl_25 zv_25), .inl ⟨tyAgg_25, tySize_25, rfl⟩⟩, by kernel_rfl, trivial⟩ (fun _ h => Heap.to (Heap.pick [] (by decide) h)) ⟨rfl, rfl⟩
               · refine J.cond_false h832 ?_
                 refine J.skip ?_
                 refine JQ.then_normal ?_
                 refine JQ.sub [(2, .pointer (some ⟨b3, 0, none⟩)), (3, .pointer (some ⟨b4, 0, none⟩)), (4, .pointer (some ⟨b5, 0, none⟩)), (6, .pointer (some ⟨b13, 0, none⟩)), (7, .int .i64 r405), (8, .int .i64 c741), (9, .pointer (some ⟨b828, 0, none⟩))] ?_
                 refine J.region ?_
                 refine JL.mv (.int .i64 r405) ?_
                 refine JL.pur (.int .i64 (w64 (2 * r405))) (some 52) ?_
                 refine JL.mv (.int .i64 c741) ?_
                 refine JL.pur (.int .i64 (w64 ((w64 (2 * r405)) + c741))) (some 54) ?_
                 refine JL.val (mv_23 x830) (some 55) (yields_load_boxes 4 0 (cl_23 x830) (holds_box b828 23 (cl_23 x830)) tyAgg_23 tySize_23) ?_
                 obtain ⟨⟨h833, h834⟩, H2⟩ := ite_must H2
                 refine JL.val (.pointer (some ⟨b13, 0 + (w64 ((w64 (2 * r405)) + c741)).toNat * 3, none⟩)) (some 56) (gives_ixArrD (b := b13) (o := 0) (i := w64 ((w64 (2 * r405)) + c741)) 4 3 .i64 h833 h834 Try.underlying25 tySize_23) ?_
                 obtain ⟨arr835, earr835, H2⟩ := lt_some H2
                 refine JL.storeArr b13 0 0 3 25 fl_Cx ([out740.e0, out740.e1, out740.e2, out740.e3] : List Cx) (w64 ((w64 (2 * r405)) + c741)) (cl_25 out740) [] [] x830 h833 h834 tySize_23 ?_
                 rw [ofL4 fl_Cx (l := ([out740.e0, out740.e1, out740.e2, out740.e3] : List Cx).set (w64 ((w64 (2 * r405)) + c741)).toNat x830) (by simp), earr835]
                 refine JQ.turn (Δ' := [At.box b3 25 (cl_25 a1), At.box b4 25 (cl_25 b2), At.box b5 25 (cl_25 zv_25), At.box b13 25 (cl_25 arr835), At.box b828 23 (cl_23 x830)]) (fun _ h => h.to) ?_
                 refine JL.nil ?_
                 refine JQ.blk_normal ?_
                 refine JQ.then_normal ?_
                 refine JQ.sub [(2, .pointer (some ⟨b3, 0, none⟩)), (3, .pointer (some ⟨b4, 0, none⟩)), (4, .pointer (some ⟨b5, 0, none⟩)), (6, .pointer (some ⟨b13, 0, none⟩)), (7, .int .i64 r405), (8, .int .i64 c741)] ?_
                 refine JQ.mask [At.box b3 25 (cl_25 a1), At.box b4 25 (cl_25 b2), At.box b5 25 (cl_25 zv_25), At.box b13 25 (cl_25 arr835)] [true, true, true, true, false] ?_
                 refine J.region ?_
                 refine JL.mv (.int .i64 c741) ?_
                 refine JL.pur (.int .i64 (w64 (c741 + 1))) (some 27) ?_
                 refine JL.as (.int .i64 (w64 (c741 + 1))) ?_
                 refine JL.nil ?_
                 refine JQ.then_normal ?_
                 exact JQ.again (arr835, w64 (c741 + 1)) () (Option.some.inj H2).symm (fun _ h => Heap.to h)
           · refine J.cond_false h802 ?_
             refine J.exit ?_
             refine JQ.then_exit ?_
             refine JQ.then_exit ?_
             refine JQ.blk_exit ?_
             rw [hb2 _ (Option.some.inj H2).symm, fin_brk] at H1
             exact JQ.met out740 () H1 (fun _ h => Heap.to h)
         · clear hit H1
           rintro out801 ⟨⟩ H1
           replace H1 : ref33_Mul.k26 r405 out801 = some st1 := H1
           unfold ref33_Mul.k26 at H1
           refine JQ.sub [(2, .pointer (some ⟨b3, 0, none⟩)), (3, .pointer (some ⟨b4, 0, none⟩)), (4, .pointer (some ⟨b5, 0, none⟩)), (6, .pointer (some ⟨b13, 0, none⟩)), (7, .int .i64 r405)] ?_
           refine JQ.turn (Δ' := [At.box b3 25 (cl_25 a1), At.box b4 25 (cl_25 b2), At.box b5 25 (cl_25 zv_25), At.box b13 25 (cl_25 out801)]) (fun _ h => h.to) ?_
           refine JQ.blk_normal ?_
           refine JQ.then_normal ?_
           refine J.region ?_
           refine JL.mv (.int .i64 r405) ?_
           refine JL.pur (.int .i64 (w64 (r405 + 1))) (some 23) ?_
           refine JL.as (.int .i64 (w64 (r405 + 1))) ?_
           refine JL.nil ?_
           refine JQ.then_normal ?_
           exact JQ.again (out801, w64 (r405 + 1)) () (Option.some.inj H1).symm (fun _ h => Heap.to h)
       · refine J.cond_false h634 ?_
         refine J.exit ?_
         refine JQ.then_exit ?_
         refine JQ.then_exit ?_
         refine JQ.blk_exit ?_
         rw [hb1 _ (Option.some.inj H1).symm, fin_brk] at H0
         exact JQ.met out404 () H0 (fun _ h => Heap.to (Heap.pick [2, 3] (by decide) h))
     · clear hit H0
       rintro out633 ⟨⟩ H0
       replace H0 : ref33_Mul.k21 out633 = some r := H0
       unfold ref33_Mul.k21 at H0
       refine JQ.sub [(4, .pointer (some ⟨b5, 0, none⟩)), (6, .pointer (some ⟨b13, 0, none⟩))] ?_
       refine JQ.turn (Δ' := [At.box b5 25 (cl_25 zv_25), At.box b13 25 (cl_25 out633)]) (fun _ h => h.to) ?_
       refine JQ.then_normal ?_
       refine J.seq ?_
       refine J.region ?_
       refine JL.val (mv_25 out633) (some 57) (yields_load_boxes 1 0 (cl_25 out633) (holds_box b13 25 (cl_25 out633)) tyAgg_25 tySize_25) ?_
       refine JL.store 0 b5 0 25 (cl_25 zv_25) (cl_25 out633) tySize_25 ?_
       refine JL.as (.int .i64 0) ?_
       refine JL.nil ?_
       refine JQ.then_normal ?_
       refine JQ.sub [(4, .pointer (some ⟨b5, 0, none⟩)), (5, .int .i64 0)] ?_
       refine JQ.mask [At.box b5 25 (cl_25 out633)] [true, false] ?_
       refine J.ret ?_
       obtain rfl := Option.some.inj H0
       exact JQ.done' (rs := [.cell 4 25, .tmp 5]) (vs := [.agg #[.int .i64 out633.e0.Re, .int .i64 out633.e0.Im, .int .i64 out633.e0.Den, .int .i64 out633.e1.Re, .int .i64 out633.e1.Im, .int .i64 out633.e1.Den, .int .i64 out633.e2.Re, .int .i64 out633.e2.Im, .int .i64 out633.e2.Den, .int .i64 out633.e3.Re, .int .i64 out633.e3.Im, .int .i64 out633.e3.Den], .int .i64 0]) [] (.inr rfl) ⟨⟨b5, 0, _, _, by kernel_rfl, by kernel_rfl, holds_box b5 25 (cl_25 out633), .inl ⟨tyAgg_25, tySize_25, rfl⟩⟩, by kernel_rfl, trivial⟩ (fun _ h => Heap.to (Heap.pick [] (by decide) h)) ⟨rfl, rfl⟩

theorem ref26_Apart.ok (a1 : Cx) (r : Cx) (H0 : ref26_Apart.f a1 = some r) :
    Does Try.prog 63 [mv_23 a1].toArray [] [] false (fun v Δ => v = mv_23 r ∧ Δ = []) := by
 refine Does.body (vs := [mv_23 a1]) Try.func63 rfl trivial trivial fun w S => ?_
 unfold ref26_Apart.f at H0
 refine J.seq ?_
 refine J.region ?_
 refine JL.box (cl_23 a1) fun b2 => ?_
 refine JL.alloc (cl_23 zv_23) fun b3 => ?_
 refine JL.nil ?_
 refine JQ.then_normal ?_
 refine JQ.sub [(1, .pointer (some ⟨b2, 0, none⟩)), (2, .pointer (some ⟨b3, 0, none⟩))] ?_
 refine J.seq ?_
 refine J.region ?_
 refine JL.pur (.pointer (some ⟨b2, 0, none⟩)) (some 3) ?_
 refine JL.val (.int .i64 a1.Re) (some 4) (yields_load_box 0 0 (holds_box b2 23 (cl_23 a1)) tyAgg_2) ?_
 refine JL.pur (.pointer (some ⟨b2, 1, none⟩)) (some 5) ?_
 refine JL.val (.int .i64 a1.Im) (some 6) (yields_load_box 0 1 (holds_box b2 23 (cl_23 a1)) tyAgg_2) ?_
 refine JL.pur (.int .i64 (w64 (0 - a1.Im))) (some 7) ?_
 refine JL.pur (.pointer (some ⟨b2, 2, none⟩)) (some 8) ?_
 refine JL.val (.int .i64 a1.Den) (some 9) (yields_load_box 0 2 (holds_box b2 23 (cl_23 a1)) tyAgg_2) ?_
 refine JL.pur (.agg #[.int .i64 a1.Re, .int .i64 (w64 (0 - a1.Im)), .int .i64 a1.Den]) (some 10) ?_
 refine JL.store 1 b3 0 23 (cl_23 zv_23) [.int .i64 a1.Re, .int .i64 (w64 (0 - a1.Im)), .int .i64 a1.Den] tySize_23 ?_
 refine JL.nil ?_
 refine JQ.then_normal ?_
 refine JQ.sub [(2, .pointer (some ⟨b3, 0, none⟩))] ?_
 refine JQ.mask [At.box b3 23 [.int .i64 a1.Re, .int .i64 (w64 (0 - a1.Im)), .int .i64 a1.Den]] [false, true] ?_
 refine J.ret ?_
 obtain rfl := Option.some.inj H0
 exact JQ.done' (rs := [.cell 2 23]) (vs := [.agg #[.int .i64 a1.Re, .int .i64 (w64 (0 - a1.Im)), .int .i64 a1.Den]]) [] (.inr rfl) ⟨⟨b3, 0, _, _, by kernel_rfl, by kernel_rfl, holds_box b3 23 [.int .i64 a1.Re, .int .i64 (w64 (0 - a1.Im)), .int .i64 a1.Den], .inl ⟨tyAgg_23, tySize_23, rfl⟩⟩, trivial⟩ (fun _ h => Heap.to (Heap.pick [] (by decide) h)) ⟨rfl, rfl⟩

theorem ref33_adjoint.ok (a1 : (A4 Cx)) (r : (A4 Cx)) (H0 : ref33_adjoint.f a1 = some r) :
    Does Try.prog 38 [mv_25 a1].toArray [] [] false (fun v Δ => v = mv_25 r ∧ Δ = []) := by
 refine Does.body (vs := [mv_25 a1]) Try.func38 rfl trivial trivial fun w S => ?_
 unfold ref33_adjoint.f at H0
 refine J.seq ?_
 refine J.region ?_
 refine JL.box (cl_25 a1) fun b2 => ?_
 refine JL.alloc (cl_25 zv_25) fun b3 => ?_
 refine JL.nil ?_
 refine JQ.then_normal ?_
 refine JQ.sub [(1, .pointer (some ⟨b2, 0, none⟩)), (2, .pointer (some ⟨b3, 0, none⟩))] ?_
 refine J.seq ?_
 refine J.drawT 13 ?_
 refine QL.pur (.pointer (some ⟨b2, 0, none⟩)) (some 3) ?_
 refine QL.val (mv_23 a1.e0) (some 4) (yields_load_boxes 0 0 (cl_23 a1.e0) (holds_box b2 25 (cl_25 a1)) tyAgg_23 tySize_23) ?_
 obtain ⟨t4, hc5, H0⟩ := bind_some H0
 refine QL.call [] [] (ref26_Apart.ok a1.e0 _ hc5) trivial ?_
 refine QL.pur (.pointer (some ⟨b2, 6, none⟩)) (some 6) ?_
 refine QL.val (mv_23 a1.e2) (some 7) (yields_load_boxes 0 6 (cl_23 a1.e2) (holds_box b2 25 (cl_25 a1)) tyAgg_23 tySize_23) ?_
 obtain ⟨t6, hc7, H0⟩ := bind_some H0
 refine QL.call [] [] (ref26_Apart.ok a1.e2 _ hc7) trivial ?_
 refine QL.pur (.pointer (some ⟨b2, 3, none⟩)) (some 9) ?_
 refine QL.val (mv_23 a1.e1) (some 10) (yields_load_boxes 0 3 (cl_23 a1.e1) (holds_box b2 25 (cl_25 a1)) tyAgg_23 tySize_23) ?_
 obtain ⟨t8, hc9, H0⟩ := bind_some H0
 refine QL.call [] [] (ref26_Apart.ok a1.e1 _ hc9) trivial ?_
 refine QL.pur (.pointer (some ⟨b2, 9, none⟩)) (some 12) ?_
 refine QL.val (mv_23 a1.e3) (some 13) (yields_load_boxes 0 9 (cl_23 a1.e3) (holds_box b2 25 (cl_25 a1)) tyAgg_23 tySize_23) ?_
 obtain ⟨t10, hc11, H0⟩ := bind_some H0
 refine QL.call [] [] (ref26_Apart.ok a1.e3 _ hc11) trivial ?_
 refine QL.pur (.agg #[.int .i64 t4.Re, .int .i64 t4.Im, .int .i64 t4.Den, .int .i64 t6.Re, .int .i64 t6.Im, .int .i64 t6.Den, .int .i64 t8.Re, .int .i64 t8.Im, .int .i64 t8.Den, .int .i64 t10.Re, .int .i64 t10.Im, .int .i64 t10.Den]) (some 15) ?_
 refine QL.nil ?_
 refine JA.nil ?_
 refine JL.store 1 b3 0 25 (cl_25 zv_25) [.int .i64 t4.Re, .int .i64 t4.Im, .int .i64 t4.Den, .int .i64 t6.Re, .int .i64 t6.Im, .int .i64 t6.Den, .int .i64 t8.Re, .int .i64 t8.Im, .int .i64 t8.Den, .int .i64 t10.Re, .int .i64 t10.Im, .int .i64 t10.Den] tySize_25 ?_
 refine JL.nil ?_
 refine JQ.then_normal ?_
 refine JQ.sub [(2, .pointer (some ⟨b3, 0, none⟩))] ?_
 refine JQ.mask [At.box b3 25 [.int .i64 t4.Re, .int .i64 t4.Im, .int .i64 t4.Den, .int .i64 t6.Re, .int .i64 t6.Im, .int .i64 t6.Den, .int .i64 t8.Re, .int .i64 t8.Im, .int .i64 t8.Den, .int .i64 t10.Re, .int .i64 t10.Im, .int .i64 t10.Den]] [false, true] ?_
 refine J.ret ?_
 obtain rfl := Option.some.inj H0
 exact JQ.done' (rs := [.cell 2 25]) (vs := [.agg #[.int .i64 t4.Re, .int .i64 t4.Im, .int .i64 t4.Den, .int .i64 t6.Re, .int .i64 t6.Im, .int .i64 t6.Den, .int .i64 t8.Re, .int .i64 t8.Im, .int .i64 t8.Den, .int .i64 t10.Re, .int .i64 t10.Im, .int .i64 t10.Den]]) [] (.inr rfl) ⟨⟨b3, 0, _, _, by kernel_rfl, by kernel_rfl, holds_box b3 25 [.int .i64 t4.Re, .int .i64 t4.Im, .int .i64 t4.Den, .int .i64 t6.Re, .int .i64 t6.Im, .int .i64 t6.Den, .int .i64 t8.Re, .int .i64 t8.Im, .int .i64 t8.Den, .int .i64 t10.Re, .int .i64 t10.Im, .int .i64 t10.Den], .inl ⟨tyAgg_25, tySize_25, rfl⟩⟩, trivial⟩ (fun _ h => Heap.to (Heap.pick [] (by decide) h)) ⟨rfl, rfl⟩

theorem ref33_Act.ok (t1 : (List (A4 Cx))) (Aa2 : Option Addr) (c3 : Nat) (l5 : (List Pol)) (Aa6 : Option Addr) (c7 : Nat) (r : ((List Pol) × Int)) (H0 : ref33_Act.f t1 l5 = some r) :
    Does Try.prog 28 [.slice Aa2 t1.length c3, .slice Aa6 l5.length c7].toArray [At.rd Aa2 c3 ((flArr4 fl_Cx).kd) t1 true, At.rd Aa6 c7 fl_Pol.kd l5 true] [] false (fun v Δ => ∃ A1001 : Option Addr, ∃ c1001 : Nat, v = .tuple #[.slice A1001 r.1.length c1001, .int .i64 r.2] ∧ Δ = [At.row A1001 c1001 57 fl_Pol.kd r.1 false]) := by
 refine Does.body (vs := [.slice Aa2 t1.length c3, .slice Aa6 l5.length c7]) Try.func28 rfl ⟨.inl rfl, .inl rfl, trivial⟩ trivial fun w S => ?_
 unfold ref33_Act.f at H0
 refine J.seq ?_
 refine J.region ?_
 refine JL.as (.slice none 0 0) ?_
 refine JL.as (.int .i64 0) ?_
 refine JL.nil ?_
 refine JQ.then_normal ?_
 refine JQ.sub [(0, .slice Aa2 t1.length c3), (1, .slice Aa6 l5.length c7)] ?_
 refine J.seq ?_
 refine J.seq ?_
 refine J.region ?_
 refine JL.mv (.slice Aa2 t1.length c3) ?_
 obtain ⟨t9, hc10, H0⟩ := bind_some H0
 refine JL.call [] [] [] (ref33_Table.ok t1 Aa2 c3 _ hc10) ⟨pre_any 0 (view_rd Aa2 c3 ((flArr4 fl_Cx).kd) t1 true true), trivial⟩ ?_
 rintro _ _ ⟨rfl, rfl⟩
 refine JL.pur (.bool (!decide (t9 = 0))) (some 12) ?_
 refine JL.nil ?_
 refine JQ.then_normal ?_
 refine JQ.sub [(0, .slice Aa2 t1.length c3), (1, .slice Aa6 l5.length c7), (12, .bool (!decide (t9 = 0)))] ?_
 rcases ite_cases H0 with ⟨h11, H0⟩ | ⟨h11, H0⟩
 · refine J.cond_true h11 ?_
   refine J.seq ?_
   refine J.region ?_
   refine JL.mv (.slice Aa2 t1.length c3) ?_
   obtain ⟨t12, hc13, H0⟩ := bind_some H0
   refine JL.call [] [] [] (ref33_Table.ok t1 Aa2 c3 _ hc13) ⟨pre_any 0 (view_rd Aa2 c3 ((flArr4 fl_Cx).kd) t1 true true), trivial⟩ ?_
   rintro _ _ ⟨rfl, rfl⟩
   refine JL.as (.slice none 0 0) ?_
   refine JL.as (.int .i64 t12) ?_
   refine JL.nil ?_
   refine JQ.then_normal ?_
   refine JQ.sub [(4, .slice none 0 0), (5, .int .i64 t12)] ?_
   refine JQ.mask [] [false, false] ?_
   refine J.ret ?_
   refine JQ.then_ret ?_
   obtain rfl := Option.some.inj H0
   exact JQ.done' (rs := [.tmp 4, .tmp 5]) (vs := [.slice none 0 0, .int .i64 t12]) [At.row none 0 57 fl_Pol.kd ([] : List Pol) false] (.inr rfl) ⟨by kernel_rfl, by kernel_rfl, trivial⟩ (fun _ h => Heap.to (Heap.addRow0 (α := Pol) 57 fl_Pol.kd false h)) ⟨none, 0, rfl, rfl⟩
 · refine J.cond_false h11 ?_
   refine J.skip ?_
   refine JQ.then_normal ?_
   refine JQ.sub [(0, .slice Aa2 t1.length c3), (1, .slice Aa6 l5.length c7)] ?_
   refine J.seq ?_
   refine J.seq ?_
   refine J.region ?_
   refine JL.mv (.slice Aa6 l5.length c7) ?_
   refine JL.mv (.slice Aa2 t1.length c3) ?_
   refine JL.pur (.int .i64 (t1.length : Int)) (some 17) ?_
   obtain ⟨t14, hc15, H0⟩ := bind_some H0
   refine JL.call [] [] [] (ref33_All.ok l5 Aa6 c7 (t1.length : Int) _ hc15) ⟨pre_any 1 (view_rd Aa6 c7 fl_Pol.kd l5 true true), trivial⟩ ?_
   rintro _ _ ⟨rfl, rfl⟩
   refine JL.pur (.bool (!decide (t14 = 0))) (some 19) ?_
   refine JL.nil ?_
   refine JQ.then_normal ?_
   refine JQ.sub [(0, .slice Aa2 t1.length c3), (1, .slice Aa6 l5.length c7), (19, .bool (!decide (t14 = 0)))] ?_
   rcases ite_cases H0 with ⟨h16, H0⟩ | ⟨h16, H0⟩
   · refine J.cond_true h16 ?_
     refine J.seq ?_
     refine J.region ?_
     refine JL.mv (.slice Aa6 l5.length c7) ?_
     refine JL.mv (.slice Aa2 t1.length c3) ?_
     refine JL.pur (.int .i64 (t1.length : Int)) (some 22) ?_
     obtain ⟨t17, hc18, H0⟩ := bind_some H0
     refine JL.call [] [] [] (ref33_All.ok l5 Aa6 c7 (t1.length : Int) _ hc18) ⟨pre_any 1 (view_rd Aa6 c7 fl_Pol.kd l5 true true), trivial⟩ ?_
     rintro _ _ ⟨rfl, rfl⟩
     refine JL.as (.slice none 0 0) ?_
     refine JL.as (.int .i64 t17) ?_
     refine JL.nil ?_
     refine JQ.then_normal ?_
     refine JQ.sub [(4, .slice none 0 0), (5, .int .i64 t17)] ?_
     refine JQ.mask [] [false, false] ?_
     refine J.ret ?_
     refine JQ.then_ret ?_
     obtain rfl := Option.some.inj H0
     exact JQ.done' (rs := [.tmp 4, .tmp 5]) (vs := [.slice none 0 0, .int .i64 t17]) [At.row none 0 57 fl_Pol.kd ([] : List Pol) false] (.inr rfl) ⟨by kernel_rfl, by kernel_rfl, trivial⟩ (fun _ h => Heap.to (Heap.addRow0 (α := Pol) 57 fl_Pol.kd false h)) ⟨none, 0, rfl, rfl⟩
   · refine J.cond_false h16 ?_
     refine J.skip ?_
     refine JQ.then_normal ?_
     refine JQ.sub [(0, .slice Aa2 t1.length c3), (1, .slice Aa6 l5.length c7)] ?_
     refine J.seq ?_
     refine J.region ?_
     refine JL.as (.slice none 0 0) ?_
     refine JL.nil ?_
     refine JQ.then_normal ?_
     refine J.seq ?_
     refine J.seq ?_
     refine J.region ?_
     refine JL.as (.int .i64 0) ?_
     refine JL.nil ?_
     refine JQ.then_normal ?_
     obtain ⟨o1, hit, H0⟩ := bind_some H0
     refine J.loop (σ := ((List Pol) × Int)) (τ := List Pol) (G := ((Option Addr) × Nat)) (G' := ((Option Addr) × Nat)) _ o1 (fun s g => [(0, .slice Aa2 t1.length c3), (1, .slice Aa6 l5.length c7), (6, .slice g.1 s.1.length g.2), (7, .int .i64 s.2)]) (fun s g => [At.rd Aa2 c3 ((flArr4 fl_Cx).kd) t1 true, At.rd Aa6 c7 fl_Pol.kd l5 true, At.row g.1 g.2 57 fl_Pol.kd s.1 false]) (fun t => ref33_Act.k5 t = some r) (fun t g => [(6, .slice g.1 t.length g.2)]) (fun t g => [At.row g.1 g.2 57 fl_Pol.kd t false]) ([], 0) (none, 0) hit (fun _ h => Heap.to (Heap.addRow0 (α := Pol) 57 fl_Pol.kd false h)) ?_ ?_
     · clear hit
       rintro ⟨out245, i249⟩ ⟨Aa246, c247⟩ st1 H1 hb1 hr1
       replace H1 : ref33_Act.s4 t1 l5 out245 i249 = some st1 := H1
       unfold ref33_Act.s4 at H1
       refine JQ.sub [(0, .slice Aa2 t1.length c3), (1, .slice Aa6 l5.length c7), (6, .slice Aa246 out245.length c247), (7, .int .i64 i249)] ?_
       refine JQ.turn (Δ' := [At.rd Aa2 c3 ((flArr4 fl_Cx).kd) t1 true, At.rd Aa6 c7 fl_Pol.kd l5 true, At.row Aa246 c247 57 fl_Pol.kd out245 false]) (fun _ h => h.to) ?_
       refine J.seq ?_
       refine J.seq ?_
       refine J.region ?_
       refine JL.mv (.int .i64 i249) ?_
       refine JL.mv (.slice Aa6 l5.length c7) ?_
       refine JL.pur (.int .i64 (l5.length : Int)) (some 26) ?_
       refine JL.pur (.bool (decide (i249 < (l5.length : Int)))) (some 27) ?_
       refine JL.nil ?_
       refine JQ.then_normal ?_
       refine JQ.sub [(0, .slice Aa2 t1.length c3), (1, .slice Aa6 l5.length c7), (6, .slice Aa246 out245.length c247), (7, .int .i64 i249), (27, .bool (decide (i249 < (l5.length : Int))))] ?_
       rcases ite_cases H1 with ⟨h362, H1⟩ | ⟨h362, H1⟩
       · refine J.cond_true h362 ?_
         refine J.skip ?_
         refine JQ.then_normal ?_
         refine JQ.sub [(0, .slice Aa2 t1.length c3), (1, .slice Aa6 l5.length c7), (6, .slice Aa246 out245.length c247), (7, .int .i64 i249)] ?_
         refine J.seq ?_
         refine J.block ?_
         refine J.join (T := ((A4 Cx) × Int)) (G := Nat) (fun t => ref33_Act.k6 t1 l5 out245 i249 t.1 t.2 = some st1) (fun t g => [(0, .slice Aa2 t1.length c3), (1, .slice Aa6 l5.length c7), (6, .slice Aa246 out245.length c247), (7, .int .i64 i249), (8, .pointer (some ⟨g, 0, none⟩)), (9, .int .i64 t.2)]) (fun t g => [At.rd Aa2 c3 ((flArr4 fl_Cx).kd) t1 true, At.rd Aa6 c7 fl_Pol.kd l5 true, At.row Aa246 c247 57 fl_Pol.kd out245 false, At.box g 25 (cl_25 t.1)]) ?_ ?_
         · obtain ⟨⟨h433, h434⟩, H1⟩ := ite_must H1
           obtain ⟨⟨h437, h438⟩, H1⟩ := ite_must H1
           obtain ⟨t445, hc446, H1⟩ := bind_some H1
           refine JQ.openA 1 (elems_rd Aa6 c7 fl_Pol.kd l5 true) h433 h434 fun g448 o449 hA => ?_
           subst hA
           refine JQ.openA 0 (elems_rd Aa2 c3 ((flArr4 fl_Cx).kd) t1 true) h437 h438 fun g450 o451 hA => ?_
           subst hA
           refine JY.start [18] (ba 20 0) ?_
           refine JY.pur (hi := rfl) 0 (ba 20 1) (.slice (some ⟨g450, o451, none⟩) t1.length c3) (some 31) want ?_
           refine JY.pur (hi := rfl) 1 (ba 20 3) (.slice (some ⟨g448, o449, none⟩) l5.length c7) (some 32) want ?_
           refine JY.pur (hi := rfl) 2 (ba 20 7) (.int .i64 i249) (some 33) want ?_
           obtain ⟨h452, h453⟩ : 0 ≤ i249 ∧ i249 < (l5.length : Int) := ⟨h433, h434⟩
           refine JY.puw (hi := rfl) 3 (ba 20 15) (.pointer (some ⟨g448, o449 + i249.toNat * 15, none⟩)) (some 34) want (givesW_ixSl (g := g448) (o := o449) (n := l5.length) (i := i249) 15 c7 .i64 Try.underlying39 tySize_57 h452 h453) ?_
           refine JY.pur (hi := rfl) 4 (ba 20 31) (.pointer (some ⟨g448, o449 + i249.toNat * 15, none⟩)) (some 35) want ?_
           refine JY.take (hi := rfl) 5 (ba 20 63) (.int .i64 ((ix l5 i249).I)) (some 36) [true, true, true] want (gives_loadEl (f := fl_Pol) 1 0 i249 (elems_rd (some ⟨g448, o449, none⟩) c7 fl_Pol.kd l5 true) h452 h453 tySize_3 (.inr ⟨tyAgg_3, rfl, rfl⟩)) ?_
           obtain ⟨h456, h457⟩ : 0 ≤ (ix l5 i249).I ∧ (ix l5 i249).I < (t1.length : Int) := ⟨h437, h438⟩
           refine JY.puw (hi := rfl) 6 (ba 20 127) (.pointer (some ⟨g450, o451 + ((ix l5 i249).I).toNat * 12, none⟩)) (some 37) want (givesW_ixSl (g := g450) (o := o451) (n := t1.length) (i := (ix l5 i249).I) 12 c3 .i64 Try.underlying38 tySize_25 h456 h457) ?_
           refine JY.take (hi := rfl) 7 (ba 20 255) (mv_25 (ix t1 ((ix l5 i249).I))) (some 38) [true, true, true] want (gives_loadEl (f := (flArr4 fl_Cx)) 0 0 ((ix l5 i249).I) (elems_rd (some ⟨g450, o451, none⟩) c3 ((flArr4 fl_Cx).kd) t1 true) h456 h457 tySize_25 (.inl ⟨tyAgg_25, rfl⟩)) ?_
           refine JY.pur (hi := rfl) 8 (ba 20 511) (.slice (some ⟨g448, o449, none⟩) l5.length c7) (some 39) want ?_
           refine JY.pur (hi := rfl) 9 (ba 20 1023) (.int .i64 i249) (some 40) want ?_
           refine JY.puw (hi := rfl) 10 (ba 20 2047) (.pointer (some ⟨g448, o449 + i249.toNat * 15, none⟩)) (some 41) want (givesW_ixSl (g := g448) (o := o449) (n := l5.length) (i := i249) 15 c7 .i64 Try.underlying39 tySize_57 h452 h453) ?_
           refine JY.pur (hi := rfl) 11 (ba 20 4095) (.pointer (some ⟨g448, o449 + i249.toNat * 15 + 2, none⟩)) (some 42) want ?_
           refine JY.take (hi := rfl) 12 (ba 20 8191) (mv_25 ((ix l5 i249).V)) (some 43) [true, true, true] want (gives_loadEl (f := fl_Pol) 1 2 i249 (elems_rd (some ⟨g448, o449, none⟩) c7 fl_Pol.kd l5 true) h452 h453 tySize_25 (.inl ⟨tyAgg_25, rfl⟩)) ?_
           refine JY.all [13, 17] ⟨⟨_, rfl, ?_⟩, ⟨_, rfl, ?_⟩, trivial⟩
           · refine JL.call [] [] [] (ref33_Mul.ok (ix t1 ((ix l5 i249).I)) ((ix l5 i249).V) _ hc446) trivial ?_
             rintro _ _ ⟨rfl, rfl⟩
             refine JL.nil ?_
             refine JY.ran (ba 20 16383) [true, true, true] ?_
             refine JY.pur (hi := rfl) 14 (ba 20 32767) (.tuple #[mv_25 t445.1, .int .i64 t445.2]) (some 30) want ?_
             refine JY.pur (hi := rfl) 15 (ba 20 65535) (mv_25 t445.1) (some 45) want ?_
             refine JY.pur (hi := rfl) 16 (ba 20 131071) (.int .i64 t445.2) (some 46) want ?_
             refine JY.all [17] ⟨⟨_, rfl, ?_⟩, trivial⟩
             refine JL.alloc (cl_25 zv_25) fun b466 => ?_
             refine JL.nil ?_
             refine JY.ran (ba 20 262143) [true, true, true, false] ?_
             refine JY.all [18] ⟨⟨_, rfl, ?_⟩, trivial⟩
             refine JL.store 3 b466 0 25 (cl_25 zv_25) (cl_25 t445.1) tySize_25 ?_
             refine JL.nil ?_
             refine JY.ranD (ba 20 524287) ?_
             refine JY.pur (hi := rfl) 19 (ba 20 1048575) (.int .i64 t445.2) (some 9) want ?_
             refine JY.done ?_
             refine JQ.then_normal ?_
             exact JQ.meet (t445.1, t445.2) b466 H1 (fun _ h => Heap.to h)
           · refine JL.alloc (cl_25 zv_25) fun b467 => ?_
             refine JL.nil ?_
             refine JY.ran (ba 20 139263) [true, true, true, false] ?_
             refine JY.all [13] ⟨⟨_, rfl, ?_⟩, trivial⟩
             refine JL.call [] [] [] (ref33_Mul.ok (ix t1 ((ix l5 i249).I)) ((ix l5 i249).V) _ hc446) trivial ?_
             rintro _ _ ⟨rfl, rfl⟩
             refine JL.nil ?_
             refine JY.ran (ba 20 147455) [true, true, true, false] ?_
             refine JY.pur (hi := rfl) 14 (ba 20 163839) (.tuple #[mv_25 t445.1, .int .i64 t445.2]) (some 30) want ?_
             refine JY.pur (hi := rfl) 15 (ba 20 196607) (mv_25 t445.1) (some 45) want ?_
             refine JY.pur (hi := rfl) 16 (ba 20 262143) (.int .i64 t445.2) (some 46) want ?_
             refine JY.all [18] ⟨⟨_, rfl, ?_⟩, trivial⟩
             refine JL.store 3 b467 0 25 (cl_25 zv_25) (cl_25 t445.1) tySize_25 ?_
             refine JL.nil ?_
             refine JY.ranD (ba 20 524287) ?_
             refine JY.pur (hi := rfl) 19 (ba 20 1048575) (.int .i64 t445.2) (some 9) want ?_
             refine JY.done ?_
             refine JQ.then_normal ?_
             exact JQ.meet (t445.1, t445.2) b467 H1 (fun _ h => Heap.to h)
         · clear H1
           rintro ⟨p402, e403⟩ b400 H1
           replace H1 : ref33_Act.k6 t1 l5 out245 i249 p402 e403 = some st1 := H1
           unfold ref33_Act.k6 at H1
           refine JQ.sub [(0, .slice Aa2 t1.length c3), (1, .slice Aa6 l5.length c7), (6, .slice Aa246 out245.length c247), (7, .int .i64 i249), (8, .pointer (some ⟨b400, 0, none⟩)), (9, .int .i64 e403)] ?_
           refine JQ.turn (Δ' := [At.rd Aa2 c3 ((flArr4 fl_Cx).kd) t1 true, At.rd Aa6 c7 fl_Pol.kd l5 true, At.row Aa246 c247 57 fl_Pol.kd out245 false, At.box b400 25 (cl_25 p402)]) (fun _ h => h.to) ?_
           refine J.seq ?_
           refine J.seq ?_
           refine J.region ?_
           refine JL.mv (.int .i64 e403) ?_
           refine JL.pur (.bool (!decide (e403 = 0))) (some 48) ?_
           refine JL.nil ?_
           refine JQ.then_normal ?_
           refine JQ.sub [(0, .slice Aa2 t1.length c3), (1, .slice Aa6 l5.length c7), (6, .slice Aa246 out245.length c247), (7, .int .i64 i249), (8, .pointer (some ⟨b400, 0, none⟩)), (48, .bool (!decide (e403 = 0)))] ?_
           rcases ite_cases H1 with ⟨h404, H1⟩ | ⟨h404, H1⟩
           · refine J.cond_true h404 ?_
             refine J.seq ?_
             refine J.region ?_
             refine JL.as (.slice none 0 0) ?_
             refine JL.as (.int .i64 16) ?_
             refine JL.nil ?_
             refine JQ.then_normal ?_
             refine JQ.sub [(4, .slice none 0 0), (5, .int .i64 16)] ?_
             refine JQ.mask [] [false, false, false, false] ?_
             refine J.ret ?_
             refine JQ.then_ret ?_
             refine JQ.blk_ret ?_
             refine JQ.then_ret ?_
             refine JQ.then_ret ?_
             refine JQ.blk_ret ?_
             refine JQ.met_ret ?_
             refine JQ.then_ret ?_
             rw [hr1 _ (Option.some.inj H1).symm, fin_ret] at H0
             obtain rfl := Option.some.inj H0
             exact JQ.done' (rs := [.tmp 4, .tmp 5]) (vs := [.slice none 0 0, .int .i64 16]) [At.row none 0 57 fl_Pol.kd ([] : List Pol) false] (.inr rfl) ⟨by kernel_rfl, by kernel_rfl, trivial⟩ (fun _ h => Heap.to (Heap.addRow0 (α := Pol) 57 fl_Pol.kd false h)) ⟨none, 0, rfl, rfl⟩
           · refine J.cond_false h404 ?_
             refine J.skip ?_
             refine JQ.then_normal ?_
             refine JQ.sub [(0, .slice Aa2 t1.length c3), (1, .slice Aa6 l5.length c7), (6, .slice Aa246 out245.length c247), (7, .int .i64 i249), (8, .pointer (some ⟨b400, 0, none⟩))] ?_
             refine J.seq ?_
             obtain ⟨⟨h405, h406⟩, H1⟩ := ite_must H1
             obtain ⟨⟨h409, h410⟩, H1⟩ := ite_must H1
             obtain ⟨t413, hc414, H1⟩ := bind_some H1
             obtain ⟨t415, hc416, H1⟩ := bind_some H1
             refine JQ.openA 1 (elems_rd Aa6 c7 fl_Pol.kd l5 true) h405 h406 fun g417 o418 hA => ?_
             subst hA
             refine JQ.openA 0 (elems_rd Aa2 c3 ((flArr4 fl_Cx).kd) t1 true) h409 h410 fun g419 o420 hA => ?_
             subst hA
             refine JY.start [14] (ba 16 0) ?_
             refine JY.take (hi := rfl) 0 (ba 16 1) (mv_25 p402) (some 50) [true, true, true, true] want (yields_load_boxes 3 0 (cl_25 p402) (holds_box b400 25 (cl_25 p402)) tyAgg_25 tySize_25) ?_
             refine JY.pur (hi := rfl) 1 (ba 16 3) (.slice (some ⟨g419, o420, none⟩) t1.length c3) (some 51) want ?_
             refine JY.pur (hi := rfl) 2 (ba 16 7) (.slice (some ⟨g417, o418, none⟩) l5.length c7) (some 52) want ?_
             refine JY.pur (hi := rfl) 3 (ba 16 15) (.int .i64 i249) (some 53) want ?_
             obtain ⟨h421, h422⟩ : 0 ≤ i249 ∧ i249 < (l5.length : Int) := ⟨h405, h406⟩
             refine JY.puw (hi := rfl) 4 (ba 16 31) (.pointer (some ⟨g417, o418 + i249.toNat * 15, none⟩)) (some 54) want (givesW_ixSl (g := g417) (o := o418) (n := l5.length) (i := i249) 15 c7 .i64 Try.underlying39 tySize_57 h421 h422) ?_
             refine JY.pur (hi := rfl) 5 (ba 16 63) (.pointer (some ⟨g417, o418 + i249.toNat * 15 + 1, none⟩)) (some 55) want ?_
             refine JY.take (hi := rfl) 6 (ba 16 127) (.int .i64 ((ix l5 i249).J)) (some 56) [true, true, true, true] want (gives_loadEl (f := fl_Pol) 1 1 i249 (elems_rd (some ⟨g417, o418, none⟩) c7 fl_Pol.kd l5 true) h421 h422 tySize_3 (.inr ⟨tyAgg_3, rfl, rfl⟩)) ?_
             obtain ⟨h425, h426⟩ : 0 ≤ (ix l5 i249).J ∧ (ix l5 i249).J < (t1.length : Int) := ⟨h409, h410⟩
             refine JY.puw (hi := rfl) 7 (ba 16 255) (.pointer (some ⟨g419, o420 + ((ix l5 i249).J).toNat * 12, none⟩)) (some 57) want (givesW_ixSl (g := g419) (o := o420) (n := t1.length) (i := (ix l5 i249).J) 12 c3 .i64 Try.underlying38 tySize_25 h425 h426) ?_
             refine JY.take (hi := rfl) 8 (ba 16 511) (mv_25 (ix t1 ((ix l5 i249).J))) (some 58) [true, true, true, true] want (gives_loadEl (f := (flArr4 fl_Cx)) 0 0 ((ix l5 i249).J) (elems_rd (some ⟨g419, o420, none⟩) c3 ((flArr4 fl_Cx).kd) t1 true) h425 h426 tySize_25 (.inl ⟨tyAgg_25, rfl⟩)) ?_
             refine JY.all [9] ⟨⟨_, rfl, ?_⟩, trivial⟩
             refine JL.call [] [] [] (ref33_adjoint.ok (ix t1 ((ix l5 i249).J)) _ hc414) trivial ?_
             rintro _ _ ⟨rfl, rfl⟩
             refine JL.nil ?_
             refine JY.ran (ba 16 1023) [true, true, true, true] ?_
             refine JY.all [10] ⟨⟨_, rfl, ?_⟩, trivial⟩
             refine JL.call [] [] [] (ref33_Mul.ok p402 t413 _ hc416) trivial ?_
             rintro _ _ ⟨rfl, rfl⟩
             refine JL.nil ?_
             refine JY.ran (ba 16 2047) [true, true, true, true] ?_
             refine JY.pur (hi := rfl) 11 (ba 16 4095) (.tuple #[mv_25 t415.1, .int .i64 t415.2]) (some 49) want ?_
             refine JY.pur (hi := rfl) 12 (ba 16 8191) (mv_25 t415.1) (some 61) want ?_
             refine JY.pur (hi := rfl) 13 (ba 16 16383) (.int .i64 t415.2) (some 62) want ?_
             refine JY.all [14] ⟨⟨_, rfl, ?_⟩, trivial⟩
             refine JL.store 3 b400 0 25 (cl_25 p402) (cl_25 t415.1) tySize_25 ?_
             refine JL.nil ?_
             refine JY.ranD (ba 16 32767) ?_
             refine JY.pur (hi := rfl) 15 (ba 16 65535) (.int .i64 t415.2) (some 9) want ?_
             refine JY.done ?_
             refine JQ.then_normal ?_
             refine JQ.sub [(0, .slice (some ⟨g419, o420, none⟩) t1.length c3), (1, .slice (some ⟨g417, o418, none⟩) l5.length c7), (6, .slice Aa246 out245.length c247), (7, .int .i64 i249), (8, .pointer (some ⟨b400, 0, none⟩)), (9, .int .i64 t415.2)] ?_
             refine J.seq ?_
             refine J.seq ?_
             refine J.region ?_
             refine JL.mv (.int .i64 t415.2) ?_
             refine JL.pur (.bool (!decide (t415.2 = 0))) (some 64) ?_
             refine JL.nil ?_
             refine JQ.then_normal ?_
             refine JQ.sub [(0, .slice (some ⟨g419, o420, none⟩) t1.length c3), (1, .slice (some ⟨g417, o418, none⟩) l5.length c7), (6, .slice Aa246 out245.length c247), (7, .int .i64 i249), (8, .pointer (some ⟨b400, 0, none⟩)), (64, .bool (!decide (t415.2 = 0)))] ?_
             rcases ite_cases H1 with ⟨h1417, H1⟩ | ⟨h1417, H1⟩
             · refine J.cond_true h1417 ?_
               refine J.seq ?_
               refine J.region ?_
               refine JL.as (.slice none 0 0) ?_
               refine JL.as (.int .i64 16) ?_
               refine JL.nil ?_
               refine JQ.then_normal ?_
               refine JQ.sub [(4, .slice none 0 0), (5, .int .i64 16)] ?_
               refine JQ.mask [] [false, false, false, false] ?_
               refine J.ret ?_
               refine JQ.then_ret ?_
               refine JQ.blk_ret ?_
               refine JQ.then_ret ?_
               refine JQ.then_ret ?_
               refine JQ.blk_ret ?_
               refine JQ.met_ret ?_
               refine JQ.then_ret ?_
               rw [hr1 _ (Option.some.inj H1).symm, fin_ret] at H0
               obtain rfl := Option.some.inj H0
               exact JQ.done' (rs := [.tmp 4, .tmp 5]) (vs := [.slice none 0 0, .int .i64 16]) [At.row none 0 57 fl_Pol.kd ([] : List Pol) false] (.inr rfl) ⟨by kernel_rfl, by kernel_rfl, trivial⟩ (fun _ h => Heap.to (Heap.addRow0 (α := Pol) 57 fl_Pol.kd false h)) ⟨none, 0, rfl, rfl⟩
             · refine J.cond_false h1417 ?_
               refine J.skip ?_
               refine JQ.then_normal ?_
               refine JQ.sub [(0, .slice (some ⟨g419, o420, none⟩) t1.length c3), (1, .slice (some ⟨g417, o418, none⟩) l5.length c7), (6, .slice Aa246 out245.length c247), (7, .int .i64 i249), (8, .pointer (some ⟨b400, 0, none⟩))] ?_
               obtain ⟨h1433, H1⟩ := ite_must H1
               refine JY.startM [true, true, false, true] [] (ba 21 0) ?_
               refine JY.pur (hi := rfl) 0 (ba 21 1) (.slice Aa246 out245.length c247) (some 65) want ?_
               refine JY.pur (hi := rfl) 1 (ba 21 3) (.slice (some ⟨g417, o418, none⟩) l5.length c7) (some 66) want ?_
               refine JY.pur (hi := rfl) 2 (ba 21 7) (.int .i64 i249) (some 67) want ?_
               refine JY.puw (hi := rfl) 3 (ba 21 15) (.pointer (some ⟨g417, o418 + i249.toNat * 15, none⟩)) (some 68) want (givesW_ixSl (g := g417) (o := o418) (n := l5.length) (i := i249) 15 c7 .i64 Try.underlying39 tySize_57 h421 h422) ?_
               refine JY.pur (hi := rfl) 4 (ba 21 31) (.pointer (some ⟨g417, o418 + i249.toNat * 15, none⟩)) (some 69) want ?_
               refine JY.take (hi := rfl) 5 (ba 21 63) (.int .i64 ((ix l5 i249).I)) (some 70) [true, true, false, true] want (gives_loadEl (f := fl_Pol) 1 0 i249 (elems_rd (some ⟨g417, o418, none⟩) c7 fl_Pol.kd l5 true) h421 h422 tySize_3 (.inr ⟨tyAgg_3, rfl, rfl⟩)) ?_
               refine JY.pur (hi := rfl) 6 (ba 21 127) (.slice (some ⟨g417, o418, none⟩) l5.length c7) (some 71) want ?_
               refine JY.pur (hi := rfl) 7 (ba 21 255) (.int .i64 i249) (some 72) want ?_
               refine JY.puw (hi := rfl) 8 (ba 21 511) (.pointer (some ⟨g417, o418 + i249.toNat * 15, none⟩)) (some 73) want (givesW_ixSl (g := g417) (o := o418) (n := l5.length) (i := i249) 15 c7 .i64 Try.underlying39 tySize_57 h421 h422) ?_
               refine JY.pur (hi := rfl) 9 (ba 21 1023) (.pointer (some ⟨g417, o418 + i249.toNat * 15 + 1, none⟩)) (some 74) want ?_
               refine JY.take (hi := rfl) 10 (ba 21 2047) (.int .i64 ((ix l5 i249).J)) (some 75) [true, true, false, true] want (gives_loadEl (f := fl_Pol) 1 1 i249 (elems_rd (some ⟨g417, o418, none⟩) c7 fl_Pol.kd l5 true) h421 h422 tySize_3 (.inr ⟨tyAgg_3, rfl, rfl⟩)) ?_
               refine JY.take (hi := rfl) 11 (ba 21 4095) (mv_25 t415.1) (some 76) [true, true, false, true] want (yields_load_boxes 2 0 (cl_25 t415.1) (holds_box b400 25 (cl_25 t415.1)) tyAgg_25 tySize_25) ?_
               refine JY.pur (hi := rfl) 12 (ba 21 8191) (.slice (some ⟨g417, o418, none⟩) l5.length c7) (some 77) want ?_
               refine JY.pur (hi := rfl) 13 (ba 21 16383) (.int .i64 i249) (some 78) want ?_
               refine JY.puw (hi := rfl) 14 (ba 21 32767) (.pointer (some ⟨g417, o418 + i249.toNat * 15, none⟩)) (some 79) want (givesW_ixSl (g := g417) (o := o418) (n := l5.length) (i := i249) 15 c7 .i64 Try.underlying39 tySize_57 h421 h422) ?_
               refine JY.pur (hi := rfl) 15 (ba 21 65535) (.pointer (some ⟨g417, o418 + i249.toNat * 15 + 14, none⟩)) (some 80) want ?_
               refine JY.take (hi := rfl) 16 (ba 21 131071) (.int .i64 ((ix l5 i249).N)) (some 81) [true, true, false, true] want (gives_loadEl (f := fl_Pol) 1 14 i249 (elems_rd (some ⟨g417, o418, none⟩) c7 fl_Pol.kd l5 true) h421 h422 tySize_3 (.inr ⟨tyAgg_3, rfl, rfl⟩)) ?_
               refine JY.pur (hi := rfl) 17 (ba 21 262143) (.agg #[.int .i64 ((ix l5 i249).I), .int .i64 ((ix l5 i249).J), .int .i64 t415.1.e0.Re, .int .i64 t415.1.e0.Im, .int .i64 t415.1.e0.Den, .int .i64 t415.1.e1.Re, .int .i64 t415.1.e1.Im, .int .i64 t415.1.e1.Den, .int .i64 t415.1.e2.Re, .int .i64 t415.1.e2.Im, .int .i64 t415.1.e2.Den, .int .i64 t415.1.e3.Re, .int .i64 t415.1.e3.Im, .int .i64 t415.1.e3.Den, .int .i64 ((ix l5 i249).N)]) (some 82) want ?_
               refine JY.all [18] ⟨⟨_, rfl, ?_⟩, trivial⟩
               refine JL.buildSl 57 fl_Pol.kd (([(⟨((ix l5 i249).I), ((ix l5 i249).J), t415.1, ((ix l5 i249).N)⟩ : Pol)] : List Pol) : List Pol) [.int .i64 ((ix l5 i249).I), .int .i64 ((ix l5 i249).J), .int .i64 t415.1.e0.Re, .int .i64 t415.1.e0.Im, .int .i64 t415.1.e0.Den, .int .i64 t415.1.e1.Re, .int .i64 t415.1.e1.Im, .int .i64 t415.1.e1.Den, .int .i64 t415.1.e2.Re, .int .i64 t415.1.e2.Im, .int .i64 t415.1.e2.Den, .int .i64 t415.1.e3.Re, .int .i64 t415.1.e3.Im, .int .i64 t415.1.e3.Den, .int .i64 ((ix l5 i249).N)] false (closes_fl rfl) fun b1446 => ?_
               refine JL.nil ?_
               refine JY.ran (ba 21 524287) [true, true, false, true, false] ?_
               refine JY.all [19] ⟨⟨_, rfl, ?_⟩, trivial⟩
               obtain h1449 : out245.length + ([(⟨((ix l5 i249).I), ((ix l5 i249).J), t415.1, ((ix l5 i249).N)⟩ : Pol)] : List Pol).length ≤ 1172812402961 := h1433
               refine JL.append false false 2 4 Aa246 c247 1 out245 (elems_row (some ⟨b1446, 0, none⟩) 1 57 fl_Pol.kd ([(⟨((ix l5 i249).I), ((ix l5 i249).J), t415.1, ((ix l5 i249).N)⟩ : Pol)] : List Pol) false) Try.underlying39 info_57 (by omega) (by omega) (fun h => h) (.inr ⟨_, rfl⟩) fun Aa1447 c1448 => ?_
               refine JL.nil ?_
               refine JY.ran (ba 21 1048575) [true, true, false, true, false] ?_
               refine JY.pur (hi := rfl) 20 (ba 21 2097151) (.slice Aa1447 (out245 ++ ([(⟨((ix l5 i249).I), ((ix l5 i249).J), t415.1, ((ix l5 i249).N)⟩ : Pol)] : List Pol)).length c1448) (some 6) want ?_
               refine JY.done ?_
               refine JQ.blk_normal ?_
               refine JQ.then_normal ?_
               refine JQ.sub [(0, .slice (some ⟨g419, o420, none⟩) t1.length c3), (1, .slice (some ⟨g417, o418, none⟩) l5.length c7), (6, .slice Aa1447 (out245 ++ ([(⟨((ix l5 i249).I), ((ix l5 i249).J), t415.1, ((ix l5 i249).N)⟩ : Pol)] : List Pol)).length c1448), (7, .int .i64 i249)] ?_
               refine JQ.mask [At.rd (some ⟨g419, o420, none⟩) c3 ((flArr4 fl_Cx).kd) t1 true, At.rd (some ⟨g417, o418, none⟩) c7 fl_Pol.kd l5 true, At.row Aa1447 c1448 57 fl_Pol.kd (out245 ++ ([(⟨((ix l5 i249).I), ((ix l5 i249).J), t415.1, ((ix l5 i249).N)⟩ : Pol)] : List Pol)) false] [true, true, true, false, false] ?_
               refine J.region ?_
               refine JL.mv (.int .i64 i249) ?_
               refine JL.pur (.int .i64 (w64 (i249 + 1))) (some 29) ?_
               refine JL.as (.int .i64 (w64 (i249 + 1))) ?_
               refine JL.nil ?_
               refine JQ.then_normal ?_
               exact JQ.again ((out245 ++ ([(⟨((ix l5 i249).I), ((ix l5 i249).J), t415.1, ((ix l5 i249).N)⟩ : Pol)] : List Pol)), w64 (i249 + 1)) (Aa1447, c1448) (Option.some.inj H1).symm (fun _ h => Heap.to h)
       · refine J.cond_false h362 ?_
         refine J.exit ?_
         refine JQ.then_exit ?_
         refine JQ.then_exit ?_
         refine JQ.blk_exit ?_
         rw [hb1 _ (Option.some.inj H1).symm, fin_brk] at H0
         exact JQ.met out245 (Aa246, c247) H0 (fun _ h => Heap.to (Heap.pick [2] (by decide) h))
     · clear hit H0
       rintro out358 ⟨Aa359, c360⟩ H0
       replace H0 : ref33_Act.k5 out358 = some r := H0
       unfold ref33_Act.k5 at H0
       refine JQ.sub [(6, .slice Aa359 out358.length c360)] ?_
       refine JQ.turn (Δ' := [At.row Aa359 c360 57 fl_Pol.kd out358 false]) (fun _ h => h.to) ?_
       refine JQ.then_normal ?_
       refine J.seq ?_
       refine J.region ?_
       refine JL.mv (.slice Aa359 out358.length c360) ?_
       refine JL.as (.slice Aa359 out358.length c360) ?_
       refine JL.as (.int .i64 0) ?_
       refine JL.nil ?_
       refine JQ.then_normal ?_
       refine JQ.sub [(4, .slice Aa359 out358.length c360), (5, .int .i64 0)] ?_
       refine J.ret ?_
       obtain rfl := Option.some.inj H0
       exact JQ.done' (rs := [.tmp 4, .tmp 5]) (vs := [.slice Aa359 out358.length c360, .int .i64 0]) [At.row Aa359 c360 57 fl_Pol.kd out358 false] (.inr rfl) ⟨by kernel_rfl, by kernel_rfl, trivial⟩ (fun _ h => Heap.to h) ⟨Aa359, c360, rfl, rfl⟩

theorem cx_zero.ok (a1 : Cx) (r : Bool) (H0 : cx_zero.f a1 = some r) :
    Does Try.prog 66 [mv_23 a1].toArray [] [] false (fun v Δ => v = .bool r ∧ Δ = []) := by
 refine Does.body (vs := [mv_23 a1]) Try.func66 rfl trivial trivial fun w S => ?_
 unfold cx_zero.f at H0
 refine J.seq ?_
 refine J.region ?_
 refine JL.box (cl_23 a1) fun b2 => ?_
 refine JL.as (.bool false) ?_
 refine JL.nil ?_
 refine JQ.then_normal ?_
 refine JQ.sub [(1, .pointer (some ⟨b2, 0, none⟩))] ?_
 refine J.seq ?_
 refine J.region ?_
 refine JL.pur (.pointer (some ⟨b2, 0, none⟩)) (some 3) ?_
 refine JL.val (.int .i64 a1.Re) (some 4) (yields_load_box 0 0 (holds_box b2 23 (cl_23 a1)) tyAgg_2) ?_
 refine JL.pur (.bool (decide (a1.Re = 0))) (some 5) ?_
 refine JL.mv (.bool (decide (a1.Re = 0))) ?_
 rcases ite_cases H0 with ⟨h3, H0⟩ | ⟨h3, H0⟩
 · refine JL.on 3 6 h3 ?_
   refine JL.pur (.pointer (some ⟨b2, 1, none⟩)) (some 7) ?_
   refine JL.on 3 6 h3 ?_
   refine JL.val (.int .i64 a1.Im) (some 8) (yields_load_box 0 1 (holds_box b2 23 (cl_23 a1)) tyAgg_2) ?_
   refine JL.on 3 6 h3 ?_
   refine JL.pur (.bool (decide (a1.Im = 0))) (some 9) ?_
   refine JL.val (.bool (decide (a1.Im = 0))) (some 10) (gives_pickT h3) ?_
   refine JL.as (.bool (decide (a1.Im = 0))) ?_
   refine JL.nil ?_
   refine JQ.then_normal ?_
   refine JQ.sub [(2, .bool (decide (a1.Im = 0)))] ?_
   refine JQ.mask [] [false] ?_
   refine J.ret ?_
   obtain rfl := Option.some.inj H0
   exact JQ.done' (rs := [.tmp 2]) (vs := [.bool (decide (a1.Im = 0))]) [] (.inr rfl) ⟨by kernel_rfl, trivial⟩ (fun _ h => Heap.to h) ⟨rfl, rfl⟩
 · refine JL.off 3 6 true (some 7) h3 ?_
   refine JL.off 3 6 true (some 8) h3 ?_
   refine JL.off 3 6 true (some 9) h3 ?_
   refine JL.val (.bool false) (some 10) (gives_pickF h3) ?_
   refine JL.as (.bool false) ?_
   refine JL.nil ?_
   refine JQ.then_normal ?_
   refine JQ.sub [(2, .bool false)] ?_
   refine JQ.mask [] [false] ?_
   refine J.ret ?_
   obtain rfl := Option.some.inj H0
   exact JQ.done' (rs := [.tmp 2]) (vs := [.bool false]) [] (.inr rfl) ⟨by kernel_rfl, trivial⟩ (fun _ h => Heap.to h) ⟨rfl, rfl⟩

theorem cx_Div_1.ok (n1 : Int) (times2 : Int) (r : Bool) (H0 : cx_Div_1.f n1 times2 = some r) :
    Does Try.prog 68 [.int .i64 n1, .int .i64 times2].toArray [] [] false (fun v Δ => v = .bool r ∧ Δ = []) := by
 refine Does.body (vs := [.int .i64 n1, .int .i64 times2]) Try.func68 rfl trivial trivial fun w S => ?_
 unfold cx_Div_1.f at H0
 refine J.seq ?_
 refine J.region ?_
 refine JL.as (.bool false) ?_
 refine JL.nil ?_
 refine JQ.then_normal ?_
 refine JQ.sub [(0, .int .i64 n1), (1, .int .i64 times2)] ?_
 refine J.seq ?_
 refine J.region ?_
 refine JL.mv (.int .i64 n1) ?_
 refine JL.mv (.int .i64 times2) ?_
 obtain ⟨h3, H0⟩ := ite_must H0
 refine JL.val (.int .i64 (w64 (Int.tdiv 1000000000 times2))) (some 7) (gives_quo .i64 1000000000 times2 h3) ?_
 refine JL.pur (.bool (decide (n1 ≤ w64 (Int.tdiv 1000000000 times2)))) (some 8) ?_
 refine JL.mv (.bool (decide (n1 ≤ w64 (Int.tdiv 1000000000 times2)))) ?_
 rcases ite_cases H0 with ⟨h4, H0⟩ | ⟨h4, H0⟩
 · refine JL.on 4 9 h4 ?_
   refine JL.mv (.int .i64 n1) ?_
   refine JL.on 4 9 h4 ?_
   refine JL.mv (.int .i64 times2) ?_
   refine JL.on 4 9 h4 ?_
   obtain ⟨h5, H0⟩ := ite_must H0
   refine JL.val (.int .i64 (w64 (Int.tdiv 1000000000 times2))) (some 12) (gives_quo .i64 1000000000 times2 h5) ?_
   refine JL.on 4 9 h4 ?_
   refine JL.pur (.int .i64 (w64 (0 - w64 (Int.tdiv 1000000000 times2)))) (some 13) ?_
   refine JL.on 4 9 h4 ?_
   refine JL.pur (.bool (decide (w64 (0 - w64 (Int.tdiv 1000000000 times2)) ≤ n1))) (some 14) ?_
   refine JL.val (.bool (decide (w64 (0 - w64 (Int.tdiv 1000000000 times2)) ≤ n1))) (some 15) (gives_pickT h4) ?_
   refine JL.as (.bool (decide (w64 (0 - w64 (Int.tdiv 1000000000 times2)) ≤ n1))) ?_
   refine JL.nil ?_
   refine JQ.then_normal ?_
   refine JQ.sub [(4, .bool (decide (w64 (0 - w64 (Int.tdiv 1000000000 times2)) ≤ n1)))] ?_
   refine J.ret ?_
   obtain rfl := Option.some.inj H0
   exact JQ.done' (rs := [.tmp 4]) (vs := [.bool (decide (w64 (0 - w64 (Int.tdiv 1000000000 times2)) ≤ n1))]) [] (.inr rfl) ⟨by kernel_rfl, trivial⟩ (fun _ h => Heap.to h) ⟨rfl, rfl⟩
 · refine JL.off 4 9 true (some 10) h4 ?_
   refine JL.off 4 9 true (some 11) h4 ?_
   refine JL.off 4 9 true (some 12) h4 ?_
   refine JL.off 4 9 true (some 13) h4 ?_
   refine JL.off 4 9 true (some 14) h4 ?_
   refine JL.val (.bool false) (some 15) (gives_pickF h4) ?_
   refine JL.as (.bool false) ?_
   refine JL.nil ?_
   refine JQ.then_normal ?_
   refine JQ.sub [(4, .bool false)] ?_
   refine J.ret ?_
   obtain rfl := Option.some.inj H0
   exact JQ.done' (rs := [.tmp 4]) (vs := [.bool false]) [] (.inr rfl) ⟨by kernel_rfl, trivial⟩ (fun _ h => Heap.to h) ⟨rfl, rfl⟩

theorem cx_Div.ok (a1 : Cx) (b2 : Cx) (r : (Cx × Int)) (H0 : cx_Div.f a1 b2 = some r) :
    Does Try.prog 44 [mv_23 a1, mv_23 b2].toArray [] [] false (fun v Δ => v = .tuple #[mv_23 r.1, .int .i64 r.2] ∧ Δ = []) := by
 refine Does.body (vs := [mv_23 a1, mv_23 b2]) Try.func44 rfl trivial trivial fun w S => ?_
 unfold cx_Div.f at H0
 refine J.seq ?_
 refine J.region ?_
 refine JL.box (cl_23 a1) fun b3 => ?_
 refine JL.box (cl_23 b2) fun b4 => ?_
 refine JL.alloc (cl_23 zv_23) fun b5 => ?_
 refine JL.as (.int .i64 0) ?_
 refine JL.nil ?_
 refine JQ.then_normal ?_
 refine JQ.sub [(2, .pointer (some ⟨b3, 0, none⟩)), (3, .pointer (some ⟨b4, 0, none⟩)), (4, .pointer (some ⟨b5, 0, none⟩))] ?_
 refine J.seq ?_
 refine J.seq ?_
 refine J.region ?_
 refine JL.val (mv_23 a1) (some 14) (yields_load_boxes 0 0 (cl_23 a1) (holds_box b3 23 (cl_23 a1)) tyAgg_23 tySize_23) ?_
 refine JL.val (mv_23 b2) (some 15) (yields_load_boxes 1 0 (cl_23 b2) (holds_box b4 23 (cl_23 b2)) tyAgg_23 tySize_23) ?_
 obtain ⟨t6, hc7, H0⟩ := bind_some H0
 refine JL.call [] [] [] (cx_check.ok a1 b2 _ hc7) trivial ?_
 rintro _ _ ⟨rfl, rfl⟩
 refine JL.as (.int .i64 t6) ?_
 refine JL.nil ?_
 refine JQ.then_normal ?_
 refine JQ.sub [(2, .pointer (some ⟨b3, 0, none⟩)), (3, .pointer (some ⟨b4, 0, none⟩)), (4, .pointer (some ⟨b5, 0, none⟩)), (6, .int .i64 t6)] ?_
 refine J.seq ?_
 refine J.region ?_
 refine JL.mv (.int .i64 t6) ?_
 refine JL.pur (.bool (!decide (t6 = 0))) (some 18) ?_
 refine JL.nil ?_
 refine JQ.then_normal ?_
 refine JQ.sub [(2, .pointer (some ⟨b3, 0, none⟩)), (3, .pointer (some ⟨b4, 0, none⟩)), (4, .pointer (some ⟨b5, 0, none⟩)), (6, .int .i64 t6), (18, .bool (!decide (t6 = 0)))] ?_
 rcases ite_cases H0 with ⟨h8, H0⟩ | ⟨h8, H0⟩
 · refine J.cond_true h8 ?_
   refine J.seq ?_
   refine J.region ?_
   refine JL.pur (mv_23 zv_23) (some 19) ?_
   refine JL.mv (.int .i64 t6) ?_
   refine JL.store 2 b5 0 23 (cl_23 zv_23) (cl_23 zv_23) tySize_23 ?_
   refine JL.as (.int .i64 t6) ?_
   refine JL.nil ?_
   refine JQ.then_normal ?_
   refine JQ.sub [(4, .pointer (some ⟨b5, 0, none⟩)), (5, .int .i64 t6)] ?_
   refine JQ.mask [At.box b5 23 (cl_23 zv_23)] [false, false, true] ?_
   refine J.ret ?_
   refine JQ.then_ret ?_
   obtain rfl := Option.some.inj H0
   exact JQ.done' (rs := [.cell 4 23, .tmp 5]) (vs := [.agg #[.int .i64 0, .int .i64 0, .int .i64 0], .int .i64 t6]) [] (.inr rfl) ⟨⟨b5, 0, _, _, by kernel_rfl, by kernel_rfl, holds_box b5 23 (cl_23 zv_23), .inl ⟨tyAgg_23, tySize_23, rfl⟩⟩, by kernel_rfl, trivial⟩ (fun _ h => Heap.to (Heap.pick [] (by decide) h)) ⟨rfl, rfl⟩
 · refine J.cond_false h8 ?_
   refine J.skip ?_
   refine JQ.then_normal ?_
   refine JQ.sub [(2, .pointer (some ⟨b3, 0, none⟩)), (3, .pointer (some ⟨b4, 0, none⟩)), (4, .pointer (some ⟨b5, 0, none⟩))] ?_
   refine J.seq ?_
   refine J.seq ?_
   refine J.region ?_
   refine JL.val (mv_23 b2) (some 21) (yields_load_boxes 1 0 (cl_23 b2) (holds_box b4 23 (cl_23 b2)) tyAgg_23 tySize_23) ?_
   obtain ⟨t9, hc10, H0⟩ := bind_some H0
   refine JL.call [] [] [] (cx_zero.ok b2 _ hc10) trivial ?_
   rintro _ _ ⟨rfl, rfl⟩
   refine JL.nil ?_
   refine JQ.then_normal ?_
   refine JQ.sub [(2, .pointer (some ⟨b3, 0, none⟩)), (3, .pointer (some ⟨b4, 0, none⟩)), (4, .pointer (some ⟨b5, 0, none⟩)), (22, .bool t9)] ?_
   rcases ite_cases H0 with ⟨h11, H0⟩ | ⟨h11, H0⟩
   · refine J.cond_true h11 ?_
     refine J.seq ?_
     refine J.region ?_
     refine JL.pur (mv_23 zv_23) (some 23) ?_
     refine JL.store 2 b5 0 23 (cl_23 zv_23) (cl_23 zv_23) tySize_23 ?_
     refine JL.as (.int .i64 18) ?_
     refine JL.nil ?_
     refine JQ.then_normal ?_
     refine JQ.sub [(4, .pointer (some ⟨b5, 0, none⟩)), (5, .int .i64 18)] ?_
     refine JQ.mask [At.box b5 23 (cl_23 zv_23)] [false, false, true] ?_
     refine J.ret ?_
     refine JQ.then_ret ?_
     obtain rfl := Option.some.inj H0
     exact JQ.done' (rs := [.cell 4 23, .tmp 5]) (vs := [.agg #[.int .i64 0, .int .i64 0, .int .i64 0], .int .i64 18]) [] (.inr rfl) ⟨⟨b5, 0, _, _, by kernel_rfl, by kernel_rfl, holds_box b5 23 (cl_23 zv_23), .inl ⟨tyAgg_23, tySize_23, rfl⟩⟩, by kernel_rfl, trivial⟩ (fun _ h => Heap.to (Heap.pick [] (by decide) h)) ⟨rfl, rfl⟩
   · refine J.cond_false h11 ?_
     refine J.skip ?_
     refine JQ.then_normal ?_
     refine JQ.sub [(2, .pointer (some ⟨b3, 0, none⟩)), (3, .pointer (some ⟨b4, 0, none⟩)), (4, .pointer (some ⟨b5, 0, none⟩))] ?_
     refine J.seq ?_
     refine J.seq ?_
     refine J.region ?_
     refine JL.val (mv_23 a1) (some 24) (yields_load_boxes 0 0 (cl_23 a1) (holds_box b3 23 (cl_23 a1)) tyAgg_23 tySize_23) ?_
     obtain ⟨t12, hc13, H0⟩ := bind_some H0
     refine JL.call [] [] [] (cx_zero.ok a1 _ hc13) trivial ?_
     rintro _ _ ⟨rfl, rfl⟩
     refine JL.nil ?_
     refine JQ.then_normal ?_
     refine JQ.sub [(2, .pointer (some ⟨b3, 0, none⟩)), (3, .pointer (some ⟨b4, 0, none⟩)), (4, .pointer (some ⟨b5, 0, none⟩)), (25, .bool t12)] ?_
     rcases ite_cases H0 with ⟨h14, H0⟩ | ⟨h14, H0⟩
     · refine J.cond_true h14 ?_
       refine J.seq ?_
       refine J.region ?_
       refine JL.val (mv_23 a1) (some 26) (yields_load_boxes 0 0 (cl_23 a1) (holds_box b3 23 (cl_23 a1)) tyAgg_23 tySize_23) ?_
       refine JL.store 2 b5 0 23 (cl_23 zv_23) (cl_23 a1) tySize_23 ?_
       refine JL.as (.int .i64 0) ?_
       refine JL.nil ?_
       refine JQ.then_normal ?_
       refine JQ.sub [(4, .pointer (some ⟨b5, 0, none⟩)), (5, .int .i64 0)] ?_
       refine JQ.mask [At.box b5 23 (cl_23 a1)] [false, false, true] ?_
       refine J.ret ?_
       refine JQ.then_ret ?_
       obtain rfl := Option.some.inj H0
       exact JQ.done' (rs := [.cell 4 23, .tmp 5]) (vs := [.agg #[.int .i64 a1.Re, .int .i64 a1.Im, .int .i64 a1.Den], .int .i64 0]) [] (.inr rfl) ⟨⟨b5, 0, _, _, by kernel_rfl, by kernel_rfl, holds_box b5 23 (cl_23 a1), .inl ⟨tyAgg_23, tySize_23, rfl⟩⟩, by kernel_rfl, trivial⟩ (fun _ h => Heap.to (Heap.pick [] (by decide) h)) ⟨rfl, rfl⟩
     · refine J.cond_false h14 ?_
       refine J.skip ?_
       refine JQ.then_normal ?_
       refine JQ.sub [(2, .pointer (some ⟨b3, 0, none⟩)), (3, .pointer (some ⟨b4, 0, none⟩)), (4, .pointer (some ⟨b5, 0, none⟩))] ?_
       refine J.seq ?_
       refine J.draw ?_
       refine QL.pur (.pointer (some ⟨b3, 0, none⟩)) (some 27) ?_
       refine QL.val (.int .i64 a1.Re) (some 28) (yields_load_box 0 0 (holds_box b3 23 (cl_23 a1)) tyAgg_2) ?_
       refine QL.pur (.pointer (some ⟨b4, 0, none⟩)) (some 29) ?_
       refine QL.val (.int .i64 b2.Re) (some 30) (yields_load_box 1 0 (holds_box b4 23 (cl_23 b2)) tyAgg_2) ?_
       refine QL.pur (.int .i64 (w64 (a1.Re * b2.Re))) (some 31) ?_
       refine QL.pur (.pointer (some ⟨b3, 1, none⟩)) (some 32) ?_
       refine QL.val (.int .i64 a1.Im) (some 33) (yields_load_box 0 1 (holds_box b3 23 (cl_23 a1)) tyAgg_2) ?_
       refine QL.pur (.pointer (some ⟨b4, 1, none⟩)) (some 34) ?_
       refine QL.val (.int .i64 b2.Im) (some 35) (yields_load_box 1 1 (holds_box b4 23 (cl_23 b2)) tyAgg_2) ?_
       refine QL.pur (.int .i64 (w64 (a1.Im * b2.Im))) (some 36) ?_
       refine QL.pur (.int .i64 (w64 ((w64 (a1.Re * b2.Re)) + (w64 (a1.Im * b2.Im))))) (some 37) ?_
       refine QL.pur (.pointer (some ⟨b3, 1, none⟩)) (some 38) ?_
       refine QL.val (.int .i64 a1.Im) (some 39) (yields_load_box 0 1 (holds_box b3 23 (cl_23 a1)) tyAgg_2) ?_
       refine QL.pur (.pointer (some ⟨b4, 0, none⟩)) (some 40) ?_
       refine QL.val (.int .i64 b2.Re) (some 41) (yields_load_box 1 0 (holds_box b4 23 (cl_23 b2)) tyAgg_2) ?_
       refine QL.pur (.int .i64 (w64 (a1.Im * b2.Re))) (some 42) ?_
       refine QL.pur (.pointer (some ⟨b3, 0, none⟩)) (some 43) ?_
       refine QL.val (.int .i64 a1.Re) (some 44) (yields_load_box 0 0 (holds_box b3 23 (cl_23 a1)) tyAgg_2) ?_
       refine QL.pur (.pointer (some ⟨b4, 1, none⟩)) (some 45) ?_
       refine QL.val (.int .i64 b2.Im) (some 46) (yields_load_box 1 1 (holds_box b4 23 (cl_23 b2)) tyAgg_2) ?_
       refine QL.pur (.int .i64 (w64 (a1.Re * b2.Im))) (some 47) ?_
       refine QL.pur (.int .i64 (w64 ((w64 (a1.Im * b2.Re)) - (w64 (a1.Re * b2.Im))))) (some 48) ?_
       refine QL.pur (.pointer (some ⟨b4, 0, none⟩)) (some 49) ?_
       refine QL.val (.int .i64 b2.Re) (some 50) (yields_load_box 1 0 (holds_box b4 23 (cl_23 b2)) tyAgg_2) ?_
       refine QL.pur (.pointer (some ⟨b4, 0, none⟩)) (some 51) ?_
       refine QL.val (.int .i64 b2.Re) (some 52) (yields_load_box 1 0 (holds_box b4 23 (cl_23 b2)) tyAgg_2) ?_
       refine QL.pur (.int .i64 (w64 (b2.Re * b2.Re))) (some 53) ?_
       refine QL.pur (.pointer (some ⟨b4, 1, none⟩)) (some 54) ?_
       refine QL.val (.int .i64 b2.Im) (some 55) (yields_load_box 1 1 (holds_box b4 23 (cl_23 b2)) tyAgg_2) ?_
       refine QL.pur (.pointer (some ⟨b4, 1, none⟩)) (some 56) ?_
       refine QL.val (.int .i64 b2.Im) (some 57) (yields_load_box 1 1 (holds_box b4 23 (cl_23 b2)) tyAgg_2) ?_
       refine QL.pur (.int .i64 (w64 (b2.Im * b2.Im))) (some 58) ?_
       refine QL.pur (.int .i64 (w64 ((w64 (b2.Re * b2.Re)) + (w64 (b2.Im * b2.Im))))) (some 59) ?_
       obtain ⟨re15, ere15, H0⟩ := lt_some H0
       refine QL.as' (k := .i64) re15 ere15 ?_
       obtain ⟨im16, eim16, H0⟩ := lt_some H0
       refine QL.as' (k := .i64) im16 eim16 ?_
       obtain ⟨low17, elow17, H0⟩ := lt_some H0
       refine QL.as' (k := .i64) low17 elow17 ?_
       refine QL.nil ?_
       refine JA.nil ?_
       refine JQ.then_normal ?_
       refine JQ.sub [(2, .pointer (some ⟨b3, 0, none⟩)), (3, .pointer (some ⟨b4, 0, none⟩)), (4, .pointer (some ⟨b5, 0, none⟩)), (7, .int .i64 re15), (8, .int .i64 im16), (9, .int .i64 low17)] ?_
       refine J.seq ?_
       refine J.region ?_
       refine JL.mv (.int .i64 re15) ?_
       refine JL.mv (.int .i64 im16) ?_
       refine JL.mv (.int .i64 low17) ?_
       refine JL.buildSl 2 ((flInt .i64).kd) (([re15, im16, low17] : List Int) : List Int) [.int .i64 re15, .int .i64 im16, .int .i64 low17] false (closes_fl rfl) fun b18 => ?_
       obtain ⟨t19, hc20, H0⟩ := bind_some H0
       refine JL.call [] [] [] (cx_gcd.ok ([re15, im16, low17] : List Int) (some ⟨b18, 0, none⟩) 3 _ hc20) ⟨pre_view 3 (view_row (some ⟨b18, 0, none⟩) 3 2 ((flInt .i64).kd) ([re15, im16, low17] : List Int) false true), trivial⟩ ?_
       rintro _ _ ⟨rfl, rfl⟩
       refine JL.as (.int .i64 t19) ?_
       refine JL.nil ?_
       refine JQ.then_normal ?_
       refine JQ.sub [(2, .pointer (some ⟨b3, 0, none⟩)), (3, .pointer (some ⟨b4, 0, none⟩)), (4, .pointer (some ⟨b5, 0, none⟩)), (7, .int .i64 re15), (8, .int .i64 im16), (9, .int .i64 low17), (10, .int .i64 t19)] ?_
       refine JQ.mask [At.box b3 23 (cl_23 a1), At.box b4 23 (cl_23 b2), At.box b5 23 (cl_23 zv_23)] [true, true, true, false] ?_
       refine J.seq ?_
       refine J.draw ?_
       refine QL.mv (.int .i64 re15) ?_
       refine QL.mv (.int .i64 t19) ?_
       obtain ⟨h21, H0⟩ := ite_must H0
       refine QL.val (.int .i64 (w64 (Int.tdiv re15 t19))) (some 67) (gives_quo .i64 re15 t19 h21) ?_
       refine QL.mv (.int .i64 im16) ?_
       refine QL.mv (.int .i64 t19) ?_
       obtain ⟨h22, H0⟩ := ite_must H0
       refine QL.val (.int .i64 (w64 (Int.tdiv im16 t19))) (some 70) (gives_quo .i64 im16 t19 h22) ?_
       refine QL.mv (.int .i64 low17) ?_
       refine QL.mv (.int .i64 t19) ?_
       obtain ⟨h23, H0⟩ := ite_must H0
       refine QL.val (.int .i64 (w64 (Int.tdiv low17 t19))) (some 73) (gives_quo .i64 low17 t19 h23) ?_
       obtain ⟨re24, ere24, H0⟩ := lt_some H0
       refine QL.as' (k := .i64) re24 ere24 ?_
       obtain ⟨im25, eim25, H0⟩ := lt_some H0
       refine QL.as' (k := .i64) im25 eim25 ?_
       obtain ⟨low26, elow26, H0⟩ := lt_some H0
       refine QL.as' (k := .i64) low26 elow26 ?_
       refine QL.nil ?_
       refine JA.nil ?_
       refine JQ.then_normal ?_
       refine JQ.sub [(2, .pointer (some ⟨b3, 0, none⟩)), (3, .pointer (some ⟨b4, 0, none⟩)), (4, .pointer (some ⟨b5, 0, none⟩)), (7, .int .i64 re24), (8, .int .i64 im25), (9, .int .i64 low26)] ?_
       refine J.seq ?_
       refine J.draw ?_
       refine QL.pur (.pointer (some ⟨b4, 2, none⟩)) (some 74) ?_
       refine QL.val (.int .i64 b2.Den) (some 75) (yields_load_box 1 2 (holds_box b4 23 (cl_23 b2)) tyAgg_2) ?_
       refine QL.pur (.pointer (some ⟨b3, 2, none⟩)) (some 76) ?_
       refine QL.val (.int .i64 a1.Den) (some 77) (yields_load_box 0 2 (holds_box b3 23 (cl_23 a1)) tyAgg_2) ?_
       refine QL.as (.int .i64 b2.Den) ?_
       refine QL.as (.int .i64 a1.Den) ?_
       refine QL.nil ?_
       refine JA.nil ?_
       refine JQ.then_normal ?_
       refine JQ.sub [(4, .pointer (some ⟨b5, 0, none⟩)), (7, .int .i64 re24), (8, .int .i64 im25), (9, .int .i64 low26), (11, .int .i64 b2.Den), (12, .int .i64 a1.Den)] ?_
       refine JQ.mask [At.box b5 23 (cl_23 zv_23)] [false, false, true] ?_
       refine J.seq ?_
       refine J.region ?_
       refine JL.mv (.int .i64 b2.Den) ?_
       refine JL.mv (.int .i64 a1.Den) ?_
       refine JL.buildSl 2 ((flInt .i64).kd) (([b2.Den, a1.Den] : List Int) : List Int) [.int .i64 b2.Den, .int .i64 a1.Den] false (closes_fl rfl) fun b27 => ?_
       obtain ⟨t28, hc29, H0⟩ := bind_some H0
       refine JL.call [] [] [] (cx_gcd.ok ([b2.Den, a1.Den] : List Int) (some ⟨b27, 0, none⟩) 2 _ hc29) ⟨pre_view 1 (view_row (some ⟨b27, 0, none⟩) 2 2 ((flInt .i64).kd) ([b2.Den, a1.Den] : List Int) false true), trivial⟩ ?_
       rintro _ _ ⟨rfl, rfl⟩
       refine JL.as (.int .i64 t28) ?_
       refine JL.nil ?_
       refine JQ.then_normal ?_
       refine JQ.sub [(4, .pointer (some ⟨b5, 0, none⟩)), (7, .int .i64 re24), (8, .int .i64 im25), (9, .int .i64 low26), (10, .int .i64 t28), (11, .int .i64 b2.Den), (12, .int .i64 a1.Den)] ?_
       refine JQ.mask [At.box b5 23 (cl_23 zv_23)] [true, false] ?_
       refine J.seq ?_
       refine J.draw ?_
       refine QL.mv (.int .i64 b2.Den) ?_
       refine QL.mv (.int .i64 t28) ?_
       obtain ⟨h30, H0⟩ := ite_must H0
       refine QL.val (.int .i64 (w64 (Int.tdiv b2.Den t28))) (some 84) (gives_quo .i64 b2.Den t28 h30) ?_
       refine QL.mv (.int .i64 a1.Den) ?_
       refine QL.mv (.int .i64 t28) ?_
       obtain ⟨h31, H0⟩ := ite_must H0
       refine QL.val (.int .i64 (w64 (Int.tdiv a1.Den t28))) (some 87) (gives_quo .i64 a1.Den t28 h31) ?_
       obtain ⟨up32, eup32, H0⟩ := lt_some H0
       refine QL.as' (k := .i64) up32 eup32 ?_
       obtain ⟨down33, edown33, H0⟩ := lt_some H0
       refine QL.as' (k := .i64) down33 edown33 ?_
       refine QL.nil ?_
       refine JA.nil ?_
       refine JQ.then_normal ?_
       refine JQ.sub [(4, .pointer (some ⟨b5, 0, none⟩)), (7, .int .i64 re24), (8, .int .i64 im25), (9, .int .i64 low26), (11, .int .i64 up32), (12, .int .i64 down33)] ?_
       refine J.seq ?_
       refine J.region ?_
       refine JL.mv (.int .i64 up32) ?_
       refine JL.mv (.int .i64 low26) ?_
       refine JL.buildSl 2 ((flInt .i64).kd) (([up32, low26] : List Int) : List Int) [.int .i64 up32, .int .i64 low26] false (closes_fl rfl) fun b34 => ?_
       obtain ⟨t35, hc36, H0⟩ := bind_some H0
       refine JL.call [] [] [] (cx_gcd.ok ([up32, low26] : List Int) (some ⟨b34, 0, none⟩) 2 _ hc36) ⟨pre_view 1 (view_row (some ⟨b34, 0, none⟩) 2 2 ((flInt .i64).kd) ([up32, low26] : List Int) false true), trivial⟩ ?_
       rintro _ _ ⟨rfl, rfl⟩
       refine JL.as (.int .i64 t35) ?_
       refine JL.nil ?_
       refine JQ.then_normal ?_
       refine JQ.sub [(4, .pointer (some ⟨b5, 0, none⟩)), (7, .int .i64 re24), (8, .int .i64 im25), (9, .int .i64 low26), (10, .int .i64 t35), (11, .int .i64 up32), (12, .int .i64 down33)] ?_
       refine JQ.mask [At.box b5 23 (cl_23 zv_23)] [true, false] ?_
       refine J.seq ?_
       refine J.draw ?_
       refine QL.mv (.int .i64 up32) ?_
       refine QL.mv (.int .i64 t35) ?_
       obtain ⟨h37, H0⟩ := ite_must H0
       refine QL.val (.int .i64 (w64 (Int.tdiv up32 t35))) (some 94) (gives_quo .i64 up32 t35 h37) ?_
       refine QL.mv (.int .i64 low26) ?_
       refine QL.mv (.int .i64 t35) ?_
       obtain ⟨h38, H0⟩ := ite_must H0
       refine QL.val (.int .i64 (w64 (Int.tdiv low26 t35))) (some 97) (gives_quo .i64 low26 t35 h38) ?_
       obtain ⟨up39, eup39, H0⟩ := lt_some H0
       refine QL.as' (k := .i64) up39 eup39 ?_
       obtain ⟨low40, elow40, H0⟩ := lt_some H0
       refine QL.as' (k := .i64) low40 elow40 ?_
       refine QL.nil ?_
       refine JA.nil ?_
       refine JQ.then_normal ?_
       refine JQ.sub [(4, .pointer (some ⟨b5, 0, none⟩)), (7, .int .i64 re24), (8, .int .i64 im25), (9, .int .i64 low40), (11, .int .i64 up39), (12, .int .i64 down33)] ?_
       refine J.seq ?_
       refine J.region ?_
       refine JL.mv (.int .i64 re24) ?_
       refine JL.mv (.int .i64 im25) ?_
       refine JL.mv (.int .i64 down33) ?_
       refine JL.buildSl 2 ((flInt .i64).kd) (([re24, im25, down33] : List Int) : List Int) [.int .i64 re24, .int .i64 im25, .int .i64 down33] false (closes_fl rfl) fun b41 => ?_
       obtain ⟨t42, hc43, H0⟩ := bind_some H0
       refine JL.call [] [] [] (cx_gcd.ok ([re24, im25, down33] : List Int) (some ⟨b41, 0, none⟩) 3 _ hc43) ⟨pre_view 1 (view_row (some ⟨b41, 0, none⟩) 3 2 ((flInt .i64).kd) ([re24, im25, down33] : List Int) false true), trivial⟩ ?_
       rintro _ _ ⟨rfl, rfl⟩
       refine JL.as (.int .i64 t42) ?_
       refine JL.nil ?_
       refine JQ.then_normal ?_
       refine JQ.sub [(4, .pointer (some ⟨b5, 0, none⟩)), (7, .int .i64 re24), (8, .int .i64 im25), (9, .int .i64 low40), (10, .int .i64 t42), (11, .int .i64 up39), (12, .int .i64 down33)] ?_
       refine JQ.mask [At.box b5 23 (cl_23 zv_23)] [true, false] ?_
       refine J.seq ?_
       refine J.draw ?_
       refine QL.mv (.int .i64 re24) ?_
       refine QL.mv (.int .i64 t42) ?_
       obtain ⟨h44, H0⟩ := ite_must H0
       refine QL.val (.int .i64 (w64 (Int.tdiv re24 t42))) (some 105) (gives_quo .i64 re24 t42 h44) ?_
       refine QL.mv (.int .i64 im25) ?_
       refine QL.mv (.int .i64 t42) ?_
       obtain ⟨h45, H0⟩ := ite_must H0
       refine QL.val (.int .i64 (w64 (Int.tdiv im25 t42))) (some 108) (gives_quo .i64 im25 t42 h45) ?_
       refine QL.mv (.int .i64 down33) ?_
       refine QL.mv (.int .i64 t42) ?_
       obtain ⟨h46, H0⟩ := ite_must H0
       refine QL.val (.int .i64 (w64 (Int.tdiv down33 t42))) (some 111) (gives_quo .i64 down33 t42 h46) ?_
       obtain ⟨re47, ere47, H0⟩ := lt_some H0
       refine QL.as' (k := .i64) re47 ere47 ?_
       obtain ⟨im48, eim48, H0⟩ := lt_some H0
       refine QL.as' (k := .i64) im48 eim48 ?_
       obtain ⟨down49, edown49, H0⟩ := lt_some H0
       refine QL.as' (k := .i64) down49 edown49 ?_
       refine QL.nil ?_
       refine JA.nil ?_
       refine JQ.then_normal ?_
       refine JQ.sub [(4, .pointer (some ⟨b5, 0, none⟩)), (7, .int .i64 re47), (8, .int .i64 im48), (9, .int .i64 low40), (11, .int .i64 up39), (12, .int .i64 down49)] ?_
       refine J.seq ?_
       refine J.region ?_
       refine JL.as (.func (.func 68) #[] #[]) ?_
       refine JL.nil ?_
       refine JQ.then_normal ?_
       refine J.seq ?_
       refine J.join (T := Bool) (G := Unit) (fun t => cx_Div.k1 up39 low40 re47 im48 down49 t = some r) (fun t g => [(4, .pointer (some ⟨b5, 0, none⟩)), (7, .int .i64 re47), (8, .int .i64 im48), (9, .int .i64 low40), (11, .int .i64 up39), (12, .int .i64 down49), (130, .bool t)]) (fun t g => [At.box b5 23 (cl_23 zv_23)]) ?_ ?_
       · refine J.region ?_
         refine JL.mv (.func (.func 68) #[] #[]) ?_
         refine JL.mv (.int .i64 re47) ?_
         refine JL.mv (.int .i64 up39) ?_
         obtain ⟨t60, hc61, H0⟩ := bind_some H0
         refine JL.call [] [] [] (cx_Div_1.ok re47 up39 _ hc61) trivial ?_
         rintro _ _ ⟨rfl, rfl⟩
         refine JL.pur (.bool (!t60)) (some 116) ?_
         refine JL.mv (.bool (!t60)) ?_
         rcases ite_cases H0 with ⟨h62, H0⟩ | ⟨h62, H0⟩
         · refine JL.off 5 117 false (some 118) h62 ?_
           refine JL.off 5 117 false (some 119) h62 ?_
           refine JL.off 5 117 false (some 120) h62 ?_
           refine JL.off 5 117 false (some 121) h62 ?_
           refine JL.off 5 117 false (some 122) h62 ?_
           refine JL.val (.bool true) (some 123) (gives_pickT h62) ?_
           refine JL.mv (.bool true) ?_
           refine JL.off 12 124 false (some 125) rfl ?_
           refine JL.off 12 124 false (some 126) rfl ?_
           refine JL.off 12 124 false (some 127) rfl ?_
           refine JL.off 12 124 false (some 128) rfl ?_
           refine JL.off 12 124 false (some 129) rfl ?_
           refine JL.val (.bool true) (some 130) (gives_pickT rfl) ?_
           refine JL.nil ?_
           refine JQ.then_normal ?_
           exact JQ.meet true () H0 (fun _ h => Heap.to h)
         · refine JL.on 5 117 h62 ?_
           refine JL.mv (.func (.func 68) #[] #[]) ?_
           refine JL.on 5 117 h62 ?_
           refine JL.mv (.int .i64 im48) ?_
           refine JL.on 5 117 h62 ?_
           refine JL.mv (.int .i64 up39) ?_
           refine JL.on 5 117 h62 ?_
           obtain ⟨t63, hc64, H0⟩ := bind_some H0
           refine JL.call [] [] [] (cx_Div_1.ok im48 up39 _ hc64) trivial ?_
           rintro _ _ ⟨rfl, rfl⟩
           refine JL.on 5 117 h62 ?_
           refine JL.pur (.bool (!t63)) (some 122) ?_
           refine JL.val (.bool (!t63)) (some 123) (gives_pickF h62) ?_
           refine JL.mv (.bool (!t63)) ?_
           rcases ite_cases H0 with ⟨h65, H0⟩ | ⟨h65, H0⟩
           · refine JL.off 12 124 false (some 125) h65 ?_
             refine JL.off 12 124 false (some 126) h65 ?_
             refine JL.off 12 124 false (some 127) h65 ?_
             refine JL.off 12 124 false (some 128) h65 ?_
             refine JL.off 12 124 false (some 129) h65 ?_
             refine JL.val (.bool true) (some 130) (gives_pickT h65) ?_
             refine JL.nil ?_
             refine JQ.then_normal ?_
             exact JQ.meet true () H0 (fun _ h => Heap.to h)
           · refine JL.on 12 124 h65 ?_
             refine JL.mv (.func (.func 68) #[] #[]) ?_
             refine JL.on 12 124 h65 ?_
             refine JL.mv (.int .i64 low40) ?_
             refine JL.on 12 124 h65 ?_
             refine JL.mv (.int .i64 down49) ?_
             refine JL.on 12 124 h65 ?_
             obtain ⟨t66, hc67, H0⟩ := bind_some H0
             refine JL.call [] [] [] (cx_Div_1.ok low40 down49 _ hc67) trivial ?_
             rintro _ _ ⟨rfl, rfl⟩
             refine JL.on 12 124 h65 ?_
             refine JL.pur (.bool (!t66)) (some 129) ?_
             refine JL.val (.bool (!t66)) (some 130) (gives_pickF h65) ?_
             refine JL.nil ?_
             refine JQ.then_normal ?_
             exact JQ.meet (!t66) () H0 (fun _ h => Heap.to h)
       · clear H0
         rintro x58 ⟨⟩ H0
         replace H0 : cx_Div.k1 up39 low40 re47 im48 down49 x58 = some r := H0
         unfold cx_Div.k1 at H0
         refine JQ.sub [(4, .pointer (some ⟨b5, 0, none⟩)), (7, .int .i64 re47), (8, .int .i64 im48), (9, .int .i64 low40), (11, .int .i64 up39), (12, .int .i64 down49), (130, .bool x58)] ?_
         refine JQ.turn (Δ' := [At.box b5 23 (cl_23 zv_23)]) (fun _ h => h.to) ?_
         rcases ite_cases H0 with ⟨h59, H0⟩ | ⟨h59, H0⟩
         · refine J.cond_true h59 ?_
           refine J.seq ?_
           refine J.region ?_
           refine JL.pur (mv_23 zv_23) (some 131) ?_
           refine JL.store 0 b5 0 23 (cl_23 zv_23) (cl_23 zv_23) tySize_23 ?_
           refine JL.as (.int .i64 16) ?_
           refine JL.nil ?_
           refine JQ.then_normal ?_
           refine JQ.sub [(4, .pointer (some ⟨b5, 0, none⟩)), (5, .int .i64 16)] ?_
           refine J.ret ?_
           refine JQ.then_ret ?_
           obtain rfl := Option.some.inj H0
           exact JQ.done' (rs := [.cell 4 23, .tmp 5]) (vs := [.agg #[.int .i64 0, .int .i64 0, .int .i64 0], .int .i64 16]) [] (.inr rfl) ⟨⟨b5, 0, _, _, by kernel_rfl, by kernel_rfl, holds_box b5 23 (cl_23 zv_23), .inl ⟨tyAgg_23, tySize_23, rfl⟩⟩, by kernel_rfl, trivial⟩ (fun _ h => Heap.to (Heap.pick [] (by decide) h)) ⟨rfl, rfl⟩
         · refine J.cond_false h59 ?_
           refine J.skip ?_
           refine JQ.then_normal ?_
           refine JQ.sub [(4, .pointer (some ⟨b5, 0, none⟩)), (7, .int .i64 re47), (8, .int .i64 im48), (9, .int .i64 low40), (11, .int .i64 up39), (12, .int .i64 down49)] ?_
           refine J.seq ?_
           refine J.region ?_
           refine JL.mv (.int .i64 re47) ?_
           refine JL.mv (.int .i64 up39) ?_
           refine JL.pur (.int .i64 (w64 (re47 * up39))) (some 134) ?_
           refine JL.mv (.int .i64 im48) ?_
           refine JL.mv (.int .i64 up39) ?_
           refine JL.pur (.int .i64 (w64 (im48 * up39))) (some 137) ?_
           refine JL.mv (.int .i64 low40) ?_
           refine JL.mv (.int .i64 down49) ?_
           refine JL.pur (.int .i64 (w64 (low40 * down49))) (some 140) ?_
           refine JL.pur (.agg #[.int .i64 (w64 (re47 * up39)), .int .i64 (w64 (im48 * up39)), .int .i64 (w64 (low40 * down49))]) (some 141) ?_
           refine JL.store 0 b5 0 23 (cl_23 zv_23) [.int .i64 (w64 (re47 * up39)), .int .i64 (w64 (im48 * up39)), .int .i64 (w64 (low40 * down49))] tySize_23 ?_
           refine JL.as (.int .i64 0) ?_
           refine JL.nil ?_
           refine JQ.then_normal ?_
           refine JQ.sub [(4, .pointer (some ⟨b5, 0, none⟩)), (5, .int .i64 0)] ?_
           refine J.ret ?_
           obtain rfl := Option.some.inj H0
           exact JQ.done' (rs := [.cell 4 23, .tmp 5]) (vs := [.agg #[.int .i64 (w64 (re47 * up39)), .int .i64 (w64 (im48 * up39)), .int .i64 (w64 (low40 * down49))], .int .i64 0]) [] (.inr rfl) ⟨⟨b5, 0, _, _, by kernel_rfl, by kernel_rfl, holds_box b5 23 [.int .i64 (w64 (re47 * up39)), .int .i64 (w64 (im48 * up39)), .int .i64 (w64 (low40 * down49))], .inl ⟨tyAgg_23, tySize_23, rfl⟩⟩, by kernel_rfl, trivial⟩ (fun _ h => Heap.to (Heap.pick [] (by decide) h)) ⟨rfl, rfl⟩

theorem jones_Inv.ok (a1 : (A4 Cx)) (r : ((A4 Cx) × Int)) (H0 : jones_Inv.f a1 = some r) :
    Does Try.prog 17 [mv_25 a1].toArray [] [] false (fun v Δ => v = .tuple #[mv_25 r.1, .int .i64 r.2] ∧ Δ = []) := by
 refine Does.body (vs := [mv_25 a1]) Try.func17 rfl trivial trivial fun w S => ?_
 unfold jones_Inv.f at H0
 refine J.seq ?_
 refine J.region ?_
 refine JL.box (cl_25 a1) fun b2 => ?_
 refine JL.alloc (cl_25 zv_25) fun b3 => ?_
 refine JL.as (.int .i64 0) ?_
 refine JL.nil ?_
 refine JQ.then_normal ?_
 refine JQ.sub [(1, .pointer (some ⟨b2, 0, none⟩)), (2, .pointer (some ⟨b3, 0, none⟩))] ?_
 refine J.seq ?_
 refine J.region ?_
 refine JL.val (mv_25 a1) (some 9) (yields_load_boxes 0 0 (cl_25 a1) (holds_box b2 25 (cl_25 a1)) tyAgg_25 tySize_25) ?_
 obtain ⟨t4, hc5, H0⟩ := bind_some H0
 refine JL.call [] [] [] (jones_Det.ok a1 _ hc5) trivial ?_
 rintro _ _ ⟨rfl, rfl⟩
 refine JL.mv (.tuple #[mv_23 t4.1, .int .i64 t4.2]) ?_
 refine JL.pur (mv_23 t4.1) (some 11) ?_
 refine JL.pur (.int .i64 t4.2) (some 12) ?_
 refine JL.alloc (cl_23 zv_23) fun b6 => ?_
 refine JL.store 2 b6 0 23 (cl_23 zv_23) (cl_23 t4.1) tySize_23 ?_
 refine JL.as (.int .i64 t4.2) ?_
 refine JL.nil ?_
 refine JQ.then_normal ?_
 refine JQ.sub [(1, .pointer (some ⟨b2, 0, none⟩)), (2, .pointer (some ⟨b3, 0, none⟩)), (4, .pointer (some ⟨b6, 0, none⟩)), (5, .int .i64 t4.2)] ?_
 refine J.seq ?_
 refine J.seq ?_
 refine J.region ?_
 refine JL.mv (.int .i64 t4.2) ?_
 refine JL.pur (.bool (!decide (t4.2 = 0))) (some 14) ?_
 refine JL.nil ?_
 refine JQ.then_normal ?_
 refine JQ.sub [(1, .pointer (some ⟨b2, 0, none⟩)), (2, .pointer (some ⟨b3, 0, none⟩)), (4, .pointer (some ⟨b6, 0, none⟩)), (5, .int .i64 t4.2), (14, .bool (!decide (t4.2 = 0)))] ?_
 rcases ite_cases H0 with ⟨h7, H0⟩ | ⟨h7, H0⟩
 · refine J.cond_true h7 ?_
   refine J.seq ?_
   refine J.region ?_
   refine JL.pur (mv_25 zv_25) (some 15) ?_
   refine JL.mv (.int .i64 t4.2) ?_
   refine JL.store 1 b3 0 25 (cl_25 zv_25) (cl_25 zv_25) tySize_25 ?_
   refine JL.as (.int .i64 t4.2) ?_
   refine JL.nil ?_
   refine JQ.then_normal ?_
   refine JQ.sub [(2, .pointer (some ⟨b3, 0, none⟩)), (3, .int .i64 t4.2)] ?_
   refine JQ.mask [At.box b3 25 (cl_25 zv_25)] [false, true, false] ?_
   refine J.ret ?_
   refine JQ.then_ret ?_
   obtain rfl := Option.some.inj H0
   exact JQ.done' (rs := [.cell 2 25, .tmp 3]) (vs := [.agg #[.int .i64 0, .int .i64 0, .int .i64 0, .int .i64 0, .int .i64 0, .int .i64 0, .int .i64 0, .int .i64 0, .int .i64 0, .int .i64 0, .int .i64 0, .int .i64 0], .int .i64 t4.2]) [] (.inr rfl) ⟨⟨b3, 0, _, _, by kernel_rfl, by kernel_rfl, holds_box b3 25 (cl_25 zv_25), .inl ⟨tyAgg_25, tySize_25, rfl⟩⟩, by kernel_rfl, trivial⟩ (fun _ h => Heap.to (Heap.pick [] (by decide) h)) ⟨rfl, rfl⟩
 · refine J.cond_false h7 ?_
   refine J.skip ?_
   refine JQ.then_normal ?_
   refine JQ.sub [(1, .pointer (some ⟨b2, 0, none⟩)), (2, .pointer (some ⟨b3, 0, none⟩)), (4, .pointer (some ⟨b6, 0, none⟩))] ?_
   refine J.seq ?_
   refine J.seq ?_
   refine J.region ?_
   refine JL.val (mv_23 t4.1) (some 17) (yields_load_boxes 2 0 (cl_23 t4.1) (holds_box b6 23 (cl_23 t4.1)) tyAgg_23 tySize_23) ?_
   obtain ⟨t8, hc9, H0⟩ := bind_some H0
   refine JL.call [] [] [] (jones_zero.ok t4.1 _ hc9) trivial ?_
   rintro _ _ ⟨rfl, rfl⟩
   refine JL.nil ?_
   refine JQ.then_normal ?_
   refine JQ.sub [(1, .pointer (some ⟨b2, 0, none⟩)), (2, .pointer (some ⟨b3, 0, none⟩)), (4, .pointer (some ⟨b6, 0, none⟩)), (18, .bool t8)] ?_
   rcases ite_cases H0 with ⟨h10, H0⟩ | ⟨h10, H0⟩
   · refine J.cond_true h10 ?_
     refine J.seq ?_
     refine J.region ?_
     refine JL.pur (mv_25 zv_25) (some 19) ?_
     refine JL.store 1 b3 0 25 (cl_25 zv_25) (cl_25 zv_25) tySize_25 ?_
     refine JL.as (.int .i64 18) ?_
     refine JL.nil ?_
     refine JQ.then_normal ?_
     refine JQ.sub [(2, .pointer (some ⟨b3, 0, none⟩)), (3, .int .i64 18)] ?_
     refine JQ.mask [At.box b3 25 (cl_25 zv_25)] [false, true, false] ?_
     refine J.ret ?_
     refine JQ.then_ret ?_
     obtain rfl := Option.some.inj H0
     exact JQ.done' (rs := [.cell 2 25, .tmp 3]) (vs := [.agg #[.int .i64 0, .int .i64 0, .int .i64 0, .int .i64 0, .int .i64 0, .int .i64 0, .int .i64 0, .int .i64 0, .int .i64 0, .int .i64 0, .int .i64 0, .int .i64 0], .int .i64 18]) [] (.inr rfl) ⟨⟨b3, 0, _, _, by kernel_rfl, by kernel_rfl, holds_box b3 25 (cl_25 zv_25), .inl ⟨tyAgg_25, tySize_25, rfl⟩⟩, by kernel_rfl, trivial⟩ (fun _ h => Heap.to (Heap.pick [] (by decide) h)) ⟨rfl, rfl⟩
   · refine J.cond_false h10 ?_
     refine J.skip ?_
     refine JQ.then_normal ?_
     refine JQ.sub [(1, .pointer (some ⟨b2, 0, none⟩)), (2, .pointer (some ⟨b3, 0, none⟩)), (4, .pointer (some ⟨b6, 0, none⟩))] ?_
     refine J.seq ?_
     refine J.region ?_
     refine JL.pur (.pointer (some ⟨b2, 9, none⟩)) (some 20) ?_
     refine JL.val (mv_23 a1.e3) (some 21) (yields_load_boxes 0 9 (cl_23 a1.e3) (holds_box b2 25 (cl_25 a1)) tyAgg_23 tySize_23) ?_
     refine JL.pur (.pointer (some ⟨b2, 3, none⟩)) (some 22) ?_
     refine JL.val (mv_23 a1.e1) (some 23) (yields_load_boxes 0 3 (cl_23 a1.e1) (holds_box b2 25 (cl_25 a1)) tyAgg_23 tySize_23) ?_
     refine JL.pur (.pointer (some ⟨b2, 6, none⟩)) (some 24) ?_
     refine JL.val (mv_23 a1.e2) (some 25) (yields_load_boxes 0 6 (cl_23 a1.e2) (holds_box b2 25 (cl_25 a1)) tyAgg_23 tySize_23) ?_
     refine JL.pur (.pointer (some ⟨b2, 0, none⟩)) (some 26) ?_
     refine JL.val (mv_23 a1.e0) (some 27) (yields_load_boxes 0 0 (cl_23 a1.e0) (holds_box b2 25 (cl_25 a1)) tyAgg_23 tySize_23) ?_
     refine JL.pur (.agg #[.int .i64 a1.e3.Re, .int .i64 a1.e3.Im, .int .i64 a1.e3.Den, .int .i64 a1.e1.Re, .int .i64 a1.e1.Im, .int .i64 a1.e1.Den, .int .i64 a1.e2.Re, .int .i64 a1.e2.Im, .int .i64 a1.e2.Den, .int .i64 a1.e0.Re, .int .i64 a1.e0.Im, .int .i64 a1.e0.Den]) (some 28) ?_
     refine JL.alloc (cl_25 zv_25) fun b11 => ?_
     refine JL.store 3 b11 0 25 (cl_25 zv_25) [.int .i64 a1.e3.Re, .int .i64 a1.e3.Im, .int .i64 a1.e3.Den, .int .i64 a1.e1.Re, .int .i64 a1.e1.Im, .int .i64 a1.e1.Den, .int .i64 a1.e2.Re, .int .i64 a1.e2.Im, .int .i64 a1.e2.Den, .int .i64 a1.e0.Re, .int .i64 a1.e0.Im, .int .i64 a1.e0.Den] tySize_25 ?_
     refine JL.nil ?_
     refine JQ.then_normal ?_
     refine JQ.sub [(2, .pointer (some ⟨b3, 0, none⟩)), (4, .pointer (some ⟨b6, 0, none⟩)), (6, .pointer (some ⟨b11, 0, none⟩))] ?_
     refine JQ.mask [At.box b3 25 (cl_25 zv_25), At.box b6 23 (cl_23 t4.1), At.box b11 25 [.int .i64 a1.e3.Re, .int .i64 a1.e3.Im, .int .i64 a1.e3.Den, .int .i64 a1.e1.Re, .int .i64 a1.e1.Im, .int .i64 a1.e1.Den, .int .i64 a1.e2.Re, .int .i64 a1.e2.Im, .int .i64 a1.e2.Den, .int .i64 a1.e0.Re, .int .i64 a1.e0.Im, .int .i64 a1.e0.Den]] [false, true, true, true] ?_
     refine J.seq ?_
     refine J.seq ?_
     refine J.region ?_
     refine JL.mv (.int .i64 0) ?_
     refine JL.nil ?_
     refine JQ.then_normal ?_
     obtain ⟨o1, hit, H0⟩ := bind_some H0
     refine J.loop (σ := ((A4 Cx) × Int)) (τ := (A4 Cx)) (G := Unit) (G' := Unit) _ o1 (fun s g => [(2, .pointer (some ⟨b3, 0, none⟩)), (4, .pointer (some ⟨b6, 0, none⟩)), (6, .pointer (some ⟨b11, 0, none⟩)), (29, .int .i64 s.2)]) (fun s g => [At.box b3 25 (cl_25 zv_25), At.box b6 23 (cl_23 t4.1), At.box b11 25 (cl_25 s.1)]) (fun t => jones_Inv.k8 t = some r) (fun t g => [(2, .pointer (some ⟨b3, 0, none⟩)), (6, .pointer (some ⟨b11, 0, none⟩))]) (fun t g => [At.box b3 25 (cl_25 zv_25), At.box b11 25 (cl_25 t)]) ((⟨a1.e3, a1.e1, a1.e2, a1.e0⟩ : (A4 Cx)), 0) () hit (fun _ h => Heap.to h) ?_ ?_
     · clear hit
       rintro ⟨out84, x85⟩ ⟨⟩ st1 H1 hb1 hr1
       replace H1 : jones_Inv.s7 t4 out84 x85 = some st1 := H1
       unfold jones_Inv.s7 at H1
       refine JQ.sub [(2, .pointer (some ⟨b3, 0, none⟩)), (4, .pointer (some ⟨b6, 0, none⟩)), (6, .pointer (some ⟨b11, 0, none⟩)), (29, .int .i64 x85)] ?_
       refine JQ.turn (Δ' := [At.box b3 25 (cl_25 zv_25), At.box b6 23 (cl_23 t4.1), At.box b11 25 (cl_25 out84)]) (fun _ h => h.to) ?_
       refine J.seq ?_
       refine J.region ?_
       refine JL.pur (.bool (decide (x85 < 4))) (some 30) ?_
       refine JL.nil ?_
       refine JQ.then_normal ?_
       refine J.seq ?_
       rcases ite_cases H1 with ⟨h151, H1⟩ | ⟨h151, H1⟩
       · refine J.cond_true h151 ?_
         refine J.skip ?_
         refine JQ.then_normal ?_
         refine JQ.sub [(2, .pointer (some ⟨b3, 0, none⟩)), (4, .pointer (some ⟨b6, 0, none⟩)), (6, .pointer (some ⟨b11, 0, none⟩)), (29, .int .i64 x85)] ?_
         refine J.seq ?_
         refine J.block ?_
         refine J.seq ?_
         refine J.region ?_
         refine JL.mv (.int .i64 x85) ?_
         refine JL.as (.int .i64 x85) ?_
         refine JL.nil ?_
         refine JQ.then_normal ?_
         refine JQ.sub [(2, .pointer (some ⟨b3, 0, none⟩)), (4, .pointer (some ⟨b6, 0, none⟩)), (6, .pointer (some ⟨b11, 0, none⟩)), (7, .int .i64 x85), (29, .int .i64 x85)] ?_
         refine J.join (T := (A4 Cx)) (G := Unit) (fun t => jones_Inv.k10 t4 x85 t = some st1) (fun t g => [(2, .pointer (some ⟨b3, 0, none⟩)), (4, .pointer (some ⟨b6, 0, none⟩)), (6, .pointer (some ⟨b11, 0, none⟩)), (7, .int .i64 x85), (29, .int .i64 x85)]) (fun t g => [At.box b3 25 (cl_25 zv_25), At.box b6 23 (cl_23 t4.1), At.box b11 25 (cl_25 t)]) ?_ ?_
         · refine J.join (T := Bool) (G := Unit) (fun t => jones_Inv.k11 t4 out84 x85 t = some st1) (fun t g => [(2, .pointer (some ⟨b3, 0, none⟩)), (4, .pointer (some ⟨b6, 0, none⟩)), (6, .pointer (some ⟨b11, 0, none⟩)), (7, .int .i64 x85), (29, .int .i64 x85), (37, .bool t)]) (fun t g => [At.box b3 25 (cl_25 zv_25), At.box b6 23 (cl_23 t4.1), At.box b11 25 (cl_25 out84)]) ?_ ?_
           · refine J.region ?_
             refine JL.mv (.int .i64 x85) ?_
             refine JL.pur (.bool (decide (x85 = 1))) (some 33) ?_
             refine JL.mv (.bool (decide (x85 = 1))) ?_
             rcases ite_cases H1 with ⟨h214, H1⟩ | ⟨h214, H1⟩
             · refine JL.off 2 34 false (some 35) h214 ?_
               refine JL.off 2 34 false (some 36) h214 ?_
               refine JL.val (.bool true) (some 37) (gives_pickT h214) ?_
               refine JL.nil ?_
               refine JQ.then_normal ?_
               exact JQ.meet true () H1 (fun _ h => Heap.to h)
             · refine JL.on 2 34 h214 ?_
               refine JL.mv (.int .i64 x85) ?_
               refine JL.on 2 34 h214 ?_
               refine JL.pur (.bool (decide (x85 = 2))) (some 36) ?_
               refine JL.val (.bool (decide (x85 = 2))) (some 37) (gives_pickF h214) ?_
               refine JL.nil ?_
               refine JQ.then_normal ?_
               exact JQ.meet (decide (x85 = 2)) () H1 (fun _ h => Heap.to h)
           · clear H1
             rintro x192 ⟨⟩ H1
             replace H1 : jones_Inv.k11 t4 out84 x85 x192 = some st1 := H1
             unfold jones_Inv.k11 at H1
             refine JQ.sub [(2, .pointer (some ⟨b3, 0, none⟩)), (4, .pointer (some ⟨b6, 0, none⟩)), (6, .pointer (some ⟨b11, 0, none⟩)), (7, .int .i64 x85), (29, .int .i64 x85), (37, .bool x192)] ?_
             refine JQ.turn (Δ' := [At.box b3 25 (cl_25 zv_25), At.box b6 23 (cl_23 t4.1), At.box b11 25 (cl_25 out84)]) (fun _ h => h.to) ?_
             rcases ite_cases H1 with ⟨h193, H1⟩ | ⟨h193, H1⟩
             · refine J.cond_true h193 ?_
               obtain ⟨⟨h194, h195⟩, H1⟩ := ite_must H1
               obtain ⟨⟨h196, h197⟩, H1⟩ := ite_must H1
               obtain ⟨⟨h198, h199⟩, H1⟩ := ite_must H1
               obtain ⟨arr200, earr200, H1⟩ := lt_some H1
               obtain ⟨⟨h201, h202⟩, H1⟩ := ite_must H1
               obtain ⟨arr203, earr203, H1⟩ := lt_some H1
               refine JY.start [14, 17] (ba 18 0) ?_
               refine JY.pur (hi := rfl) 0 (ba 18 1) (.int .i64 x85) (some 38) want ?_
               refine JY.pur (hi := rfl) 1 (ba 18 3) (.int .i64 x85) (some 39) want ?_
               refine JY.pur (hi := rfl) 2 (ba 18 7) (.int .i64 x85) (some 40) want ?_
               obtain ⟨h204, h205⟩ : 0 ≤ x85 ∧ x85 < 4 := ⟨h201, h202⟩
               refine JY.puw (hi := rfl) 3 (ba 18 15) (.pointer (some ⟨b11, 0 + x85.toNat * 3, none⟩)) (some 41) want (givesW_ixArrD (b := b11) (o := 0) (i := x85) 4 3 .i64 h204 h205 Try.underlying25 tySize_23) ?_
               refine JY.pur (hi := rfl) 4 (ba 18 31) (.pointer (some ⟨b11, 0 + x85.toNat * 3, none⟩)) (some 42) want ?_
               refine JY.take (hi := rfl) 5 (ba 18 63) (.int .i64 ((ix ([out84.e0, out84.e1, out84.e2, out84.e3] : List Cx) x85).Re)) (some 43) [true, true, true] want (gives_loadEl (f := fl_Cx) 2 0 x85 (elems_arr b11 25 (cl_25 out84) fl_Cx ([out84.e0, out84.e1, out84.e2, out84.e3] : List Cx) 0) h204 h205 tySize_2 (.inr ⟨tyAgg_2, rfl, rfl⟩)) ?_
               refine JY.pur (hi := rfl) 6 (ba 18 127) (.int .i64 (w64 (0 - (ix ([out84.e0, out84.e1, out84.e2, out84.e3] : List Cx) x85).Re))) (some 44) want ?_
               refine JY.pur (hi := rfl) 7 (ba 18 255) (.int .i64 x85) (some 45) want ?_
               obtain ⟨h206, h207⟩ : 0 ≤ x85 ∧ x85 < 4 := ⟨h201, h202⟩
               refine JY.puw (hi := rfl) 8 (ba 18 511) (.pointer (some ⟨b11, 0 + x85.toNat * 3, none⟩)) (some 46) want (givesW_ixArrD (b := b11) (o := 0) (i := x85) 4 3 .i64 h206 h207 Try.underlying25 tySize_23) ?_
               refine JY.pur (hi := rfl) 9 (ba 18 1023) (.pointer (some ⟨b11, 0 + x85.toNat * 3 + 1, none⟩)) (some 47) want ?_
               refine JY.take (hi := rfl) 10 (ba 18 2047) (.int .i64 ((ix ([out84.e0, out84.e1, out84.e2, out84.e3] : List Cx) x85).Im)) (some 48) [true, true, true] want (gives_loadEl (f := fl_Cx) 2 1 x85 (elems_arr b11 25 (cl_25 out84) fl_Cx ([out84.e0, out84.e1, out84.e2, out84.e3] : List Cx) 0) h206 h207 tySize_2 (.inr ⟨tyAgg_2, rfl, rfl⟩)) ?_
               refine JY.pur (hi := rfl) 11 (ba 18 4095) (.int .i64 (w64 (0 - (ix ([out84.e0, out84.e1, out84.e2, out84.e3] : List Cx) x85).Im))) (some 49) want ?_
               obtain ⟨h208, h209⟩ : 0 ≤ x85 ∧ x85 < 4 := ⟨h201, h202⟩
               refine JY.puw (hi := rfl) 12 (ba 18 8191) (.pointer (some ⟨b11, 0 + x85.toNat * 3, none⟩)) (some 50) want (givesW_ixArrD (b := b11) (o := 0) (i := x85) 4 3 .i64 h208 h209 Try.underlying25 tySize_23) ?_
               refine JY.pur (hi := rfl) 13 (ba 18 16383) (.pointer (some ⟨b11, 0 + x85.toNat * 3, none⟩)) (some 51) want ?_
               refine JY.all [14] ⟨⟨_, rfl, ?_⟩, trivial⟩
               refine JL.storeArr b11 0 0 2 25 fl_Cx ([out84.e0, out84.e1, out84.e2, out84.e3] : List Cx) x85 (cl_25 out84) [] [] (⟨(w64 (0 - (ix ([out84.e0, out84.e1, out84.e2, out84.e3] : List Cx) x85).Re)), ((ix ([out84.e0, out84.e1, out84.e2, out84.e3] : List Cx) x85).Im), ((ix ([out84.e0, out84.e1, out84.e2, out84.e3] : List Cx) x85).Den)⟩ : Cx) h208 h209 tySize_2 ?_
               rw [ofL4 fl_Cx (l := ([out84.e0, out84.e1, out84.e2, out84.e3] : List Cx).set x85.toNat (⟨(w64 (0 - (ix ([out84.e0, out84.e1, out84.e2, out84.e3] : List Cx) x85).Re)), ((ix ([out84.e0, out84.e1, out84.e2, out84.e3] : List Cx) x85).Im), ((ix ([out84.e0, out84.e1, out84.e2, out84.e3] : List Cx) x85).Den)⟩ : Cx)) (by simp), earr200]
               refine JQ.turn (Δ' := [At.box b3 25 (cl_25 zv_25), At.box b6 23 (cl_23 t4.1), At.box b11 25 (cl_25 arr200)]) (fun _ h => h.to) ?_
               refine JL.nil ?_
               refine JY.ranD (ba 18 32767) ?_
               obtain ⟨h211, h212⟩ : 0 ≤ x85 ∧ x85 < 4 := ⟨h201, h202⟩
               refine JY.puw (hi := rfl) 15 (ba 18 65535) (.pointer (some ⟨b11, 0 + x85.toNat * 3, none⟩)) (some 52) want (givesW_ixArrD (b := b11) (o := 0) (i := x85) 4 3 .i64 h211 h212 Try.underlying25 tySize_23) ?_
               refine JY.pur (hi := rfl) 16 (ba 18 131071) (.pointer (some ⟨b11, 0 + x85.toNat * 3 + 1, none⟩)) (some 53) want ?_
               refine JY.all [17] ⟨⟨_, rfl, ?_⟩, trivial⟩
               refine JL.storeArr b11 0 1 2 25 fl_Cx ([arr200.e0, arr200.e1, arr200.e2, arr200.e3] : List Cx) x85 (cl_25 arr200) [] [] (⟨((ix ([arr200.e0, arr200.e1, arr200.e2, arr200.e3] : List Cx) x85).Re), (w64 (0 - (ix ([out84.e0, out84.e1, out84.e2, out84.e3] : List Cx) x85).Im)), ((ix ([arr200.e0, arr200.e1, arr200.e2, arr200.e3] : List Cx) x85).Den)⟩ : Cx) h211 h212 tySize_2 ?_
               rw [ofL4 fl_Cx (l := ([arr200.e0, arr200.e1, arr200.e2, arr200.e3] : List Cx).set x85.toNat (⟨((ix ([arr200.e0, arr200.e1, arr200.e2, arr200.e3] : List Cx) x85).Re), (w64 (0 - (ix ([out84.e0, out84.e1, out84.e2, out84.e3] : List Cx) x85).Im)), ((ix ([arr200.e0, arr200.e1, arr200.e2, arr200.e3] : List Cx) x85).Den)⟩ : Cx)) (by simp), earr203]
               refine JQ.turn (Δ' := [At.box b3 25 (cl_25 zv_25), At.box b6 23 (cl_23 t4.1), At.box b11 25 (cl_25 arr203)]) (fun _ h => h.to) ?_
               refine JL.nil ?_
               refine JY.ranD (ba 18 262143) ?_
               refine JY.done ?_
               refine JQ.then_normal ?_
               exact JQ.meet arr203 () H1 (fun _ h => Heap.to h)
             · refine J.cond_false h193 ?_
               refine J.skip ?_
               refine JQ.then_normal ?_
               exact JQ.meet out84 () H1 (fun _ h => Heap.to h)
         · clear H1
           rintro out176 ⟨⟩ H1
           replace H1 : jones_Inv.k10 t4 x85 out176 = some st1 := H1
           unfold jones_Inv.k10 at H1
           refine JQ.sub [(2, .pointer (some ⟨b3, 0, none⟩)), (4, .pointer (some ⟨b6, 0, none⟩)), (6, .pointer (some ⟨b11, 0, none⟩)), (7, .int .i64 x85), (29, .int .i64 x85)] ?_
           refine JQ.turn (Δ' := [At.box b3 25 (cl_25 zv_25), At.box b6 23 (cl_23 t4.1), At.box b11 25 (cl_25 out176)]) (fun _ h => h.to) ?_
           refine J.seq ?_
           obtain ⟨⟨h177, h178⟩, H1⟩ := ite_must H1
           obtain ⟨t179, hc180, H1⟩ := bind_some H1
           obtain ⟨⟨h181, h182⟩, H1⟩ := ite_must H1
           obtain ⟨arr183, earr183, H1⟩ := lt_some H1
           refine JY.start [10] (ba 12 0) ?_
           refine JY.pur (hi := rfl) 0 (ba 12 1) (.int .i64 x85) (some 55) want ?_
           refine JY.pur (hi := rfl) 1 (ba 12 3) (.int .i64 x85) (some 56) want ?_
           obtain ⟨h184, h185⟩ : 0 ≤ x85 ∧ x85 < 4 := ⟨h181, h182⟩
           refine JY.puw (hi := rfl) 2 (ba 12 7) (.pointer (some ⟨b11, 0 + x85.toNat * 3, none⟩)) (some 57) want (givesW_ixArrD (b := b11) (o := 0) (i := x85) 4 3 .i64 h184 h185 Try.underlying25 tySize_23) ?_
           refine JY.take (hi := rfl) 3 (ba 12 15) (mv_23 (ix ([out176.e0, out176.e1, out176.e2, out176.e3] : List Cx) x85)) (some 58) [true, true, true] want (gives_loadEl (f := fl_Cx) 2 0 x85 (elems_arr b11 25 (cl_25 out176) fl_Cx ([out176.e0, out176.e1, out176.e2, out176.e3] : List Cx) 0) h184 h185 tySize_23 (.inl ⟨tyAgg_23, rfl⟩)) ?_
           refine JY.take (hi := rfl) 4 (ba 12 31) (mv_23 t4.1) (some 59) [true, true, true] want (yields_load_boxes 1 0 (cl_23 t4.1) (holds_box b6 23 (cl_23 t4.1)) tyAgg_23 tySize_23) ?_
           refine JY.all [5] ⟨⟨_, rfl, ?_⟩, trivial⟩
           refine JL.call [] [] [] (cx_Div.ok (ix ([out176.e0, out176.e1, out176.e2, out176.e3] : List Cx) x85) t4.1 _ hc180) trivial ?_
           rintro _ _ ⟨rfl, rfl⟩
           refine JL.nil ?_
           refine JY.ran (ba 12 63) [true, true, true] ?_
           refine JY.pur (hi := rfl) 6 (ba 12 127) (.tuple #[mv_23 t179.1, .int .i64 t179.2]) (some 54) want ?_
           refine JY.pur (hi := rfl) 7 (ba 12 255) (mv_23 t179.1) (some 61) want ?_
           refine JY.pur (hi := rfl) 8 (ba 12 511) (.int .i64 t179.2) (some 62) want ?_
           obtain ⟨h188, h189⟩ : 0 ≤ x85 ∧ x85 < 4 := ⟨h181, h182⟩
           refine JY.puw (hi := rfl) 9 (ba 12 1023) (.pointer (some ⟨b11, 0 + x85.toNat * 3, none⟩)) (some 63) want (givesW_ixArrD (b := b11) (o := 0) (i := x85) 4 3 .i64 h188 h189 Try.underlying25 tySize_23) ?_
           refine JY.all [10] ⟨⟨_, rfl, ?_⟩, trivial⟩
           refine JL.storeArr b11 0 0 2 25 fl_Cx ([out176.e0, out176.e1, out176.e2, out176.e3] : List Cx) x85 (cl_25 out176) [] [] t179.1 h188 h189 tySize_23 ?_
           rw [ofL4 fl_Cx (l := ([out176.e0, out176.e1, out176.e2, out176.e3] : List Cx).set x85.toNat t179.1) (by simp), earr183]
           refine JQ.turn (Δ' := [At.box b3 25 (cl_25 zv_25), At.box b6 23 (cl_23 t4.1), At.box b11 25 (cl_25 arr183)]) (fun _ h => h.to) ?_
           refine JL.nil ?_
           refine JY.ranD (ba 12 2047) ?_
           refine JY.pur (hi := rfl) 11 (ba 12 4095) (.int .i64 t179.2) (some 5) want ?_
           refine JY.done ?_
           refine JQ.then_normal ?_
           refine JQ.sub [(2, .pointer (some ⟨b3, 0, none⟩)), (4, .pointer (some ⟨b6, 0, none⟩)), (5, .int .i64 t179.2), (6, .pointer (some ⟨b11, 0, none⟩)), (29, .int .i64 x85)] ?_
           refine J.seq ?_
           refine J.region ?_
           refine JL.mv (.int .i64 t179.2) ?_
           refine JL.pur (.bool (!decide (t179.2 = 0))) (some 65) ?_
           refine JL.nil ?_
           refine JQ.then_normal ?_
           refine JQ.sub [(2, .pointer (some ⟨b3, 0, none⟩)), (4, .pointer (some ⟨b6, 0, none⟩)), (5, .int .i64 t179.2), (6, .pointer (some ⟨b11, 0, none⟩)), (29, .int .i64 x85), (65, .bool (!decide (t179.2 = 0)))] ?_
           rcases ite_cases H1 with ⟨h1184, H1⟩ | ⟨h1184, H1⟩
           · refine J.cond_true h1184 ?_
             refine J.seq ?_
             refine J.region ?_
             refine JL.pur (mv_25 zv_25) (some 66) ?_
             refine JL.mv (.int .i64 t179.2) ?_
             refine JL.store 0 b3 0 25 (cl_25 zv_25) (cl_25 zv_25) tySize_25 ?_
             refine JL.as (.int .i64 t179.2) ?_
             refine JL.nil ?_
             refine JQ.then_normal ?_
             refine JQ.sub [(2, .pointer (some ⟨b3, 0, none⟩)), (3, .int .i64 t179.2)] ?_
             refine JQ.mask [At.box b3 25 (cl_25 zv_25)] [true, false, false] ?_
             refine J.ret ?_
             refine JQ.blk_ret ?_
             refine JQ.then_ret ?_
             refine JQ.then_ret ?_
             refine JQ.blk_ret ?_
             refine JQ.met_ret ?_
             refine JQ.then_ret ?_
             rw [hr1 _ (Option.some.inj H1).symm, fin_ret] at H0
             obtain rfl := Option.some.inj H0
             exact JQ.done' (rs := [.cell 2 25, .tmp 3]) (vs := [.agg #[.int .i64 0, .int .i64 0, .int .i64 0, .int .i64 0, .int .i64 0, .int .i64 0, .int .i64 0, .int .i64 0, .int .i64 0, .int .i64 0, .int .i64 0, .int .i64 0], .int .i64 t179.2]) [] (.inr rfl) ⟨⟨b3, 0, _, _, by kernel_rfl, by kernel_rfl, holds_box b3 25 (cl_25 zv_25), .inl ⟨tyAgg_25, tySize_25, rfl⟩⟩, by kernel_rfl, trivial⟩ (fun _ h => Heap.to (Heap.pick [] (by decide) h)) ⟨rfl, rfl⟩
           · refine J.cond_false h1184 ?_
             refine J.skip ?_
             refine JQ.blk_normal ?_
             refine JQ.then_normal ?_
             refine JQ.sub [(2, .pointer (some ⟨b3, 0, none⟩)), (4, .pointer (some ⟨b6, 0, none⟩)), (6, .pointer (some ⟨b11, 0, none⟩)), (29, .int .i64 x85)] ?_
             refine J.region ?_
             refine JL.pur (.int .i64 (w64 (x85 + 1))) (some 68) ?_
             refine JL.mv (.int .i64 (w64 (x85 + 1))) ?_
             refine JL.nil ?_
             refine JQ.then_normal ?_
             exact JQ.again (arr183, w64 (x85 + 1)) () (Option.some.inj H1).symm (fun _ h => Heap.to h)
       · refine J.cond_false h151 ?_
         refine J.exit ?_
         refine JQ.then_exit ?_
         refine JQ.then_exit ?_
         refine JQ.blk_exit ?_
         rw [hb1 _ (Option.some.inj H1).symm, fin_brk] at H0
         exact JQ.met out84 () H0 (fun _ h => Heap.to (Heap.pick [0, 2] (by decide) h))
     · clear hit H0
       rintro out150 ⟨⟩ H0
       replace H0 : jones_Inv.k8 out150 = some r := H0
       unfold jones_Inv.k8 at H0
       refine JQ.sub [(2, .pointer (some ⟨b3, 0, none⟩)), (6, .pointer (some ⟨b11, 0, none⟩))] ?_
       refine JQ.turn (Δ' := [At.box b3 25 (cl_25 zv_25), At.box b11 25 (cl_25 out150)]) (fun _ h => h.to) ?_
       refine JQ.then_normal ?_
       refine J.seq ?_
       refine J.region ?_
       refine JL.val (mv_25 out150) (some 69) (yields_load_boxes 1 0 (cl_25 out150) (holds_box b11 25 (cl_25 out150)) tyAgg_25 tySize_25) ?_
       refine JL.store 0 b3 0 25 (cl_25 zv_25) (cl_25 out150) tySize_25 ?_
       refine JL.as (.int .i64 0) ?_
       refine JL.nil ?_
       refine JQ.then_normal ?_
       refine JQ.sub [(2, .pointer (some ⟨b3, 0, none⟩)), (3, .int .i64 0)] ?_
       refine JQ.mask [At.box b3 25 (cl_25 out150)] [true, false] ?_
       refine J.ret ?_
       obtain rfl := Option.some.inj H0
       exact JQ.done' (rs := [.cell 2 25, .tmp 3]) (vs := [.agg #[.int .i64 out150.e0.Re, .int .i64 out150.e0.Im, .int .i64 out150.e0.Den, .int .i64 out150.e1.Re, .int .i64 out150.e1.Im, .int .i64 out150.e1.Den, .int .i64 out150.e2.Re, .int .i64 out150.e2.Im, .int .i64 out150.e2.Den, .int .i64 out150.e3.Re, .int .i64 out150.e3.Im, .int .i64 out150.e3.Den], .int .i64 0]) [] (.inr rfl) ⟨⟨b3, 0, _, _, by kernel_rfl, by kernel_rfl, holds_box b3 25 (cl_25 out150), .inl ⟨tyAgg_25, tySize_25, rfl⟩⟩, by kernel_rfl, trivial⟩ (fun _ h => Heap.to (Heap.pick [] (by decide) h)) ⟨rfl, rfl⟩

theorem jones_Loop.ok (l1 : (List Pol)) (Aa2 : Option Addr) (c3 : Nat) (a5 : Int) (b6 : Int) (c7 : Int) (d8 : Int) (r : ((A4 Cx) × Int)) (H0 : jones_Loop.f l1 a5 b6 c7 d8 = some r) :
    Does Try.prog 29 [.slice Aa2 l1.length c3, .int .i64 a5, .int .i64 b6, .int .i64 c7, .int .i64 d8].toArray [At.rd Aa2 c3 fl_Pol.kd l1 true] [] false (fun v Δ => v = .tuple #[mv_25 r.1, .int .i64 r.2] ∧ Δ = []) := by
 refine Does.body (vs := [.slice Aa2 l1.length c3, .int .i64 a5, .int .i64 b6, .int .i64 c7, .int .i64 d8]) Try.func29 rfl ⟨.inl rfl, trivial⟩ trivial fun w S => ?_
 unfold jones_Loop.f at H0
 refine J.seq ?_
 refine J.region ?_
 refine JL.alloc (cl_25 zv_25) fun b9 => ?_
 refine JL.as (.int .i64 0) ?_
 refine JL.nil ?_
 refine JQ.then_normal ?_
 refine JQ.sub [(0, .slice Aa2 l1.length c3), (1, .int .i64 a5), (2, .int .i64 b6), (3, .int .i64 c7), (4, .int .i64 d8), (10, .pointer (some ⟨b9, 0, none⟩))] ?_
 refine J.seq ?_
 refine J.seq ?_
 refine J.region ?_
 refine JL.mv (.slice Aa2 l1.length c3) ?_
 obtain ⟨t10, hc11, H0⟩ := bind_some H0
 refine JL.call [] [] [] (jones_seen.ok l1 Aa2 c3 8 _ hc11) ⟨pre_any 0 (view_rd Aa2 c3 fl_Pol.kd l1 true true), trivial⟩ ?_
 rintro _ _ ⟨rfl, rfl⟩
 refine JL.as (.int .i64 t10) ?_
 refine JL.nil ?_
 refine JQ.then_normal ?_
 refine JQ.sub [(0, .slice Aa2 l1.length c3), (1, .int .i64 a5), (2, .int .i64 b6), (3, .int .i64 c7), (4, .int .i64 d8), (10, .pointer (some ⟨b9, 0, none⟩)), (12, .int .i64 t10)] ?_
 refine J.seq ?_
 refine J.region ?_
 refine JL.mv (.int .i64 t10) ?_
 refine JL.pur (.bool (!decide (t10 = 0))) (some 31) ?_
 refine JL.nil ?_
 refine JQ.then_normal ?_
 refine JQ.sub [(0, .slice Aa2 l1.length c3), (1, .int .i64 a5), (2, .int .i64 b6), (3, .int .i64 c7), (4, .int .i64 d8), (10, .pointer (some ⟨b9, 0, none⟩)), (12, .int .i64 t10), (31, .bool (!decide (t10 = 0)))] ?_
 rcases ite_cases H0 with ⟨h12, H0⟩ | ⟨h12, H0⟩
 · refine J.cond_true h12 ?_
   refine J.seq ?_
   refine J.region ?_
   refine JL.pur (mv_25 zv_25) (some 32) ?_
   refine JL.mv (.int .i64 t10) ?_
   refine JL.store 1 b9 0 25 (cl_25 zv_25) (cl_25 zv_25) tySize_25 ?_
   refine JL.as (.int .i64 t10) ?_
   refine JL.nil ?_
   refine JQ.then_normal ?_
   refine JQ.sub [(10, .pointer (some ⟨b9, 0, none⟩)), (11, .int .i64 t10)] ?_
   refine JQ.mask [At.box b9 25 (cl_25 zv_25)] [false, true] ?_
   refine J.ret ?_
   refine JQ.then_ret ?_
   obtain rfl := Option.some.inj H0
   exact JQ.done' (rs := [.cell 10 25, .tmp 11]) (vs := [.agg #[.int .i64 0, .int .i64 0, .int .i64 0, .int .i64 0, .int .i64 0, .int .i64 0, .int .i64 0, .int .i64 0, .int .i64 0, .int .i64 0, .int .i64 0, .int .i64 0], .int .i64 t10]) [] (.inr rfl) ⟨⟨b9, 0, _, _, by kernel_rfl, by kernel_rfl, holds_box b9 25 (cl_25 zv_25), .inl ⟨tyAgg_25, tySize_25, rfl⟩⟩, by kernel_rfl, trivial⟩ (fun _ h => Heap.to (Heap.pick [] (by decide) h)) ⟨rfl, rfl⟩
 · refine J.cond_false h12 ?_
   refine J.skip ?_
   refine JQ.then_normal ?_
   refine JQ.sub [(0, .slice Aa2 l1.length c3), (1, .int .i64 a5), (2, .int .i64 b6), (3, .int .i64 c7), (4, .int .i64 d8), (10, .pointer (some ⟨b9, 0, none⟩))] ?_
   refine J.seq ?_
   refine J.region ?_
   refine JL.mkMap mv_77 mv_25 fun b13 => ?_
   refine JL.as (.map (some b13)) ?_
   refine JL.nil ?_
   refine JQ.then_normal ?_
   refine JQ.sub [(0, .slice Aa2 l1.length c3), (1, .int .i64 a5), (2, .int .i64 b6), (3, .int .i64 c7), (4, .int .i64 d8), (10, .pointer (some ⟨b9, 0, none⟩)), (13, .map (some b13))] ?_
   refine J.seq ?_
   refine J.seq ?_
   refine J.region ?_
   refine JL.mv (.slice Aa2 l1.length c3) ?_
   refine JL.pur (.int .i64 (l1.length : Int)) (some 36) ?_
   refine JL.mv (.int .i64 0) ?_
   refine JL.nil ?_
   refine JQ.then_normal ?_
   obtain ⟨o1, hit, H0⟩ := bind_some H0
   refine J.loop (σ := ((List ((A2 Int) × (A4 Cx))) × Int)) (τ := List ((A2 Int) × (A4 Cx))) (G := Unit) (G' := Unit) _ o1 (fun s g => [(0, .slice Aa2 l1.length c3), (1, .int .i64 a5), (2, .int .i64 b6), (3, .int .i64 c7), (4, .int .i64 d8), (10, .pointer (some ⟨b9, 0, none⟩)), (13, .map (some b13)), (35, .slice Aa2 l1.length c3), (36, .int .i64 (l1.length : Int)), (37, .int .i64 s.2)]) (fun s g => [At.rd Aa2 c3 fl_Pol.kd l1 true, At.box b9 25 (cl_25 zv_25), At.mp b13 mv_77 mv_25 s.1]) (fun t => jones_Loop.k2 l1 a5 b6 c7 d8 t = some r) (fun t g => [(0, .slice Aa2 l1.length c3), (1, .int .i64 a5), (2, .int .i64 b6), (3, .int .i64 c7), (4, .int .i64 d8), (10, .pointer (some ⟨b9, 0, none⟩)), (13, .map (some b13))]) (fun t g => [At.rd Aa2 c3 fl_Pol.kd l1 true, At.box b9 25 (cl_25 zv_25), At.mp b13 mv_77 mv_25 t]) (([] : List ((A2 Int) × (A4 Cx))), 0) () hit (fun _ h => Heap.to h) ?_ ?_
   · clear hit
     rintro ⟨m46, x47⟩ ⟨⟩ st1 H1 hb1 hr1
     replace H1 : jones_Loop.s1 l1 m46 x47 = some st1 := H1
     unfold jones_Loop.s1 at H1
     refine JQ.sub [(0, .slice Aa2 l1.length c3), (1, .int .i64 a5), (2, .int .i64 b6), (3, .int .i64 c7), (4, .int .i64 d8), (10, .pointer (some ⟨b9, 0, none⟩)), (13, .map (some b13)), (35, .slice Aa2 l1.length c3), (36, .int .i64 (l1.length : Int)), (37, .int .i64 x47)] ?_
     refine JQ.turn (Δ' := [At.rd Aa2 c3 fl_Pol.kd l1 true, At.box b9 25 (cl_25 zv_25), At.mp b13 mv_77 mv_25 m46]) (fun _ h => h.to) ?_
     refine J.seq ?_
     refine J.region ?_
     refine JL.pur (.bool (decide (x47 < (l1.length : Int)))) (some 38) ?_
     refine JL.nil ?_
     refine JQ.then_normal ?_
     refine J.seq ?_
     rcases ite_cases H1 with ⟨h118, H1⟩ | ⟨h118, H1⟩
     · refine J.cond_true h118 ?_
       refine J.skip ?_
       refine JQ.then_normal ?_
       refine JQ.sub [(0, .slice Aa2 l1.length c3), (1, .int .i64 a5), (2, .int .i64 b6), (3, .int .i64 c7), (4, .int .i64 d8), (10, .pointer (some ⟨b9, 0, none⟩)), (13, .map (some b13)), (35, .slice Aa2 l1.length c3), (36, .int .i64 (l1.length : Int)), (37, .int .i64 x47)] ?_
       refine J.seq ?_
       refine J.block ?_
       refine J.seq ?_
       refine J.region ?_
       obtain ⟨⟨h119, h120⟩, H1⟩ := ite_must H1
       refine JL.ixAddr 0 15 c3 .i64 (elems_rd Aa2 c3 fl_Pol.kd l1 true) Try.underlying39 tySize_57 h119 h120 fun g121 o122 hA => ?_
       subst hA
       refine JL.val (mv_57 (ix l1 x47)) (some 40) (gives_loadEl (f := fl_Pol) 0 0 x47 (elems_rd (some ⟨g121, o122, none⟩) c3 fl_Pol.kd l1 true) h119 h120 tySize_57 (.inl ⟨tyAgg_57, rfl⟩)) ?_
       refine JL.alloc (cl_57 zv_57) fun b123 => ?_
       refine JL.store 3 b123 0 57 (cl_57 zv_57) (cl_57 (ix l1 x47)) tySize_57 ?_
       refine JL.nil ?_
       refine JQ.then_normal ?_
       refine JQ.sub [(0, .slice (some ⟨g121, o122, none⟩) l1.length c3), (1, .int .i64 a5), (2, .int .i64 b6), (3, .int .i64 c7), (4, .int .i64 d8), (10, .pointer (some ⟨b9, 0, none⟩)), (13, .map (some b13)), (15, .pointer (some ⟨b123, 0, none⟩)), (35, .slice (some ⟨g121, o122, none⟩) l1.length c3), (36, .int .i64 (l1.length : Int)), (37, .int .i64 x47)] ?_
       obtain ⟨t124, hc125, H1⟩ := bind_some H1
       obtain ⟨m126, em126, H1⟩ := lt_some H1
       obtain ⟨m127, em127, H1⟩ := lt_some H1
       refine JY.startM [true, true, false, true] [] (ba 19 0) ?_
       refine JY.pur (hi := rfl) 0 (ba 19 1) (.map (some b13)) (some 41) want ?_
       refine JY.pur (hi := rfl) 1 (ba 19 3) (.pointer (some ⟨b123, 0, none⟩)) (some 42) want ?_
       refine JY.take (hi := rfl) 2 (ba 19 7) (.int .i64 ((ix l1 x47).I)) (some 43) [true, true, false, true] want (yields_load_box 2 0 (holds_box b123 57 (cl_57 (ix l1 x47))) tyAgg_3) ?_
       refine JY.pur (hi := rfl) 3 (ba 19 15) (.pointer (some ⟨b123, 1, none⟩)) (some 44) want ?_
       refine JY.take (hi := rfl) 4 (ba 19 31) (.int .i64 ((ix l1 x47).J)) (some 45) [true, true, false, true] want (yields_load_box 2 1 (holds_box b123 57 (cl_57 (ix l1 x47))) tyAgg_3) ?_
       refine JY.pur (hi := rfl) 5 (ba 19 63) (.agg #[.int .i64 ((ix l1 x47).I), .int .i64 ((ix l1 x47).J)]) (some 46) want ?_
       refine JY.pur (hi := rfl) 6 (ba 19 127) (.map (some b13)) (some 47) want ?_
       refine JY.pur (hi := rfl) 7 (ba 19 255) (.pointer (some ⟨b123, 1, none⟩)) (some 48) want ?_
       refine JY.take (hi := rfl) 8 (ba 19 511) (.int .i64 ((ix l1 x47).J)) (some 49) [true, true, false, true] want (yields_load_box 2 1 (holds_box b123 57 (cl_57 (ix l1 x47))) tyAgg_3) ?_
       refine JY.pur (hi := rfl) 9 (ba 19 1023) (.pointer (some ⟨b123, 0, none⟩)) (some 50) want ?_
       refine JY.take (hi := rfl) 10 (ba 19 2047) (.int .i64 ((ix l1 x47).I)) (some 51) [true, true, false, true] want (yields_load_box 2 0 (holds_box b123 57 (cl_57 (ix l1 x47))) tyAgg_3) ?_
       refine JY.pur (hi := rfl) 11 (ba 19 4095) (.agg #[.int .i64 ((ix l1 x47).J), .int .i64 ((ix l1 x47).I)]) (some 52) want ?_
       refine JY.pur (hi := rfl) 12 (ba 19 8191) (.pointer (some ⟨b123, 2, none⟩)) (some 53) want ?_
       refine JY.take (hi := rfl) 13 (ba 19 16383) (mv_25 ((ix l1 x47).V)) (some 54) [true, true, false, true] want (yields_load_boxes 2 2 (cl_25 ((ix l1 x47).V)) (holds_box b123 57 (cl_57 (ix l1 x47))) tyAgg_25 tySize_25) ?_
       refine JY.pur (hi := rfl) 14 (ba 19 32767) (.pointer (some ⟨b123, 2, none⟩)) (some 55) want ?_
       refine JY.take (hi := rfl) 15 (ba 19 65535) (mv_25 ((ix l1 x47).V)) (some 56) [true, true, false, true] want (yields_load_boxes 2 2 (cl_25 ((ix l1 x47).V)) (holds_box b123 57 (cl_57 (ix l1 x47))) tyAgg_25 tySize_25) ?_
       refine JY.all [16] ⟨⟨_, rfl, ?_⟩, trivial⟩
       refine JL.call [] [] [] (jones_adjoint.ok ((ix l1 x47).V) _ hc125) trivial ?_
       rintro _ _ ⟨rfl, rfl⟩
       refine JL.nil ?_
       refine JY.ran (ba 19 131071) [true, true, false, true] ?_
       refine JY.all [17] ⟨⟨_, rfl, ?_⟩, trivial⟩
       refine JL.mapPut (b := b13) (l := m46) (ek := mv_77) (ev := mv_25) 2 (⟨((ix l1 x47).I), ((ix l1 x47).J)⟩ : (A2 Int)) ((ix l1 x47).V) mk_77 Try.underlying76 ?_
       rw [em126]
       refine JL.nil ?_
       refine JY.ran (ba 19 262143) [true, true, false, true] ?_
       refine JY.all [18] ⟨⟨_, rfl, ?_⟩, trivial⟩
       refine JL.mapPut (b := b13) (l := m126) (ek := mv_77) (ev := mv_25) 2 (⟨((ix l1 x47).J), ((ix l1 x47).I)⟩ : (A2 Int)) t124 mk_77 Try.underlying76 ?_
       rw [em127]
       refine JL.nil ?_
       refine JY.ran (ba 19 524287) [true, true, false, true] ?_
       refine JY.done ?_
       refine JQ.blk_normal ?_
       refine JQ.then_normal ?_
       refine JQ.sub [(0, .slice (some ⟨g121, o122, none⟩) l1.length c3), (1, .int .i64 a5), (2, .int .i64 b6), (3, .int .i64 c7), (4, .int .i64 d8), (10, .pointer (some ⟨b9, 0, none⟩)), (13, .map (some b13)), (35, .slice (some ⟨g121, o122, none⟩) l1.length c3), (36, .int .i64 (l1.length : Int)), (37, .int .i64 x47)] ?_
       refine JQ.mask [At.rd (some ⟨g121, o122, none⟩) c3 fl_Pol.kd l1 true, At.box b9 25 (cl_25 zv_25), At.mp b13 mv_77 mv_25 m127] [true, true, true, false] ?_
       refine J.region ?_
       refine JL.pur (.int .i64 (w64 (x47 + 1))) (some 58) ?_
       refine JL.mv (.int .i64 (w64 (x47 + 1))) ?_
       refine JL.nil ?_
       refine JQ.then_normal ?_
       exact JQ.again (m127, w64 (x47 + 1)) () (Option.some.inj H1).symm (fun _ h => Heap.to h)
     · refine J.cond_false h118 ?_
       refine J.exit ?_
       refine JQ.then_exit ?_
       refine JQ.then_exit ?_
       refine JQ.blk_exit ?_
       rw [hb1 _ (Option.some.inj H1).symm, fin_brk] at H0
       exact JQ.met m46 () H0 (fun _ h => Heap.to h)
   · clear hit H0
     rintro m62 ⟨⟩ H0
     replace H0 : jones_Loop.k2 l1 a5 b6 c7 d8 m62 = some r := H0
     unfold jones_Loop.k2 at H0
     refine JQ.sub [(0, .slice Aa2 l1.length c3), (1, .int .i64 a5), (2, .int .i64 b6), (3, .int .i64 c7), (4, .int .i64 d8), (10, .pointer (some ⟨b9, 0, none⟩)), (13, .map (some b13))] ?_
     refine JQ.turn (Δ' := [At.rd Aa2 c3 fl_Pol.kd l1 true, At.box b9 25 (cl_25 zv_25), At.mp b13 mv_77 mv_25 m62]) (fun _ h => h.to) ?_
     refine JQ.then_normal ?_
     refine J.seq ?_
     refine J.seq ?_
     refine J.region ?_
     refine JL.mv (.map (some b13)) ?_
     refine JL.val (.int .i64 (m62.length : Int)) (some 60) (gives_mapLen (b := b13) (l := m62) (ek := mv_77) (ev := mv_25) 2 Try.underlying76) ?_
     refine JL.mv (.slice Aa2 l1.length c3) ?_
     refine JL.pur (.int .i64 (l1.length : Int)) (some 62) ?_
     refine JL.pur (.int .i64 (w64 (2 * (l1.length : Int)))) (some 63) ?_
     refine JL.pur (.bool (decide ((m62.length : Int) < w64 (2 * (l1.length : Int))))) (some 64) ?_
     refine JL.nil ?_
     refine JQ.then_normal ?_
     refine JQ.sub [(1, .int .i64 a5), (2, .int .i64 b6), (3, .int .i64 c7), (4, .int .i64 d8), (10, .pointer (some ⟨b9, 0, none⟩)), (13, .map (some b13)), (64, .bool (decide ((m62.length : Int) < w64 (2 * (l1.length : Int)))))] ?_
     refine JQ.mask [At.box b9 25 (cl_25 zv_25), At.mp b13 mv_77 mv_25 m62] [false, true, true] ?_
     rcases ite_cases H0 with ⟨h63, H0⟩ | ⟨h63, H0⟩
     · refine J.cond_true h63 ?_
       refine J.seq ?_
       refine J.region ?_
       refine JL.pur (mv_25 zv_25) (some 65) ?_
       refine JL.store 0 b9 0 25 (cl_25 zv_25) (cl_25 zv_25) tySize_25 ?_
       refine JL.as (.int .i64 14) ?_
       refine JL.nil ?_
       refine JQ.then_normal ?_
       refine JQ.sub [(10, .pointer (some ⟨b9, 0, none⟩)), (11, .int .i64 14)] ?_
       refine JQ.mask [At.box b9 25 (cl_25 zv_25)] [true, false] ?_
       refine J.ret ?_
       refine JQ.then_ret ?_
       obtain rfl := Option.some.inj H0
       exact JQ.done' (rs := [.cell 10 25, .tmp 11]) (vs := [.agg #[.int .i64 0, .int .i64 0, .int .i64 0, .int .i64 0, .int .i64 0, .int .i64 0, .int .i64 0, .int .i64 0, .int .i64 0, .int .i64 0, .int .i64 0, .int .i64 0], .int .i64 14]) [] (.inr rfl) ⟨⟨b9, 0, _, _, by kernel_rfl, by kernel_rfl, holds_box b9 25 (cl_25 zv_25), .inl ⟨tyAgg_25, tySize_25, rfl⟩⟩, by kernel_rfl, trivial⟩ (fun _ h => Heap.to (Heap.pick [] (by decide) h)) ⟨rfl, rfl⟩
     · refine J.cond_false h63 ?_
       refine J.skip ?_
       refine JQ.then_normal ?_
       refine JQ.sub [(1, .int .i64 a5), (2, .int .i64 b6), (3, .int .i64 c7), (4, .int .i64 d8), (10, .pointer (some ⟨b9, 0, none⟩)), (13, .map (some b13))] ?_
       refine J.seq ?_
       refine J.region ?_
       refine JL.mv (.int .i64 a5) ?_
       refine JL.mv (.int .i64 b6) ?_
       refine JL.mv (.int .i64 c7) ?_
       refine JL.mv (.int .i64 d8) ?_
       refine JL.buildSl 3 ((flInt .i64).kd) (([a5, b6, c7, d8] : List Int) : List Int) [.int .i64 a5, .int .i64 b6, .int .i64 c7, .int .i64 d8] false (closes_fl rfl) fun b64 => ?_
       refine JL.as (.slice (some ⟨b64, 0, none⟩) ([a5, b6, c7, d8] : List Int).length 4) ?_
       refine JL.nil ?_
       refine JQ.then_normal ?_
       refine JQ.sub [(1, .int .i64 a5), (2, .int .i64 b6), (3, .int .i64 c7), (4, .int .i64 d8), (10, .pointer (some ⟨b9, 0, none⟩)), (13, .map (some b13)), (16, .slice (some ⟨b64, 0, none⟩) ([a5, b6, c7, d8] : List Int).length 4)] ?_
       refine J.seq ?_
       refine J.region ?_
       refine JL.mv (.slice (some ⟨b64, 0, none⟩) ([a5, b6, c7, d8] : List Int).length 4) ?_
       obtain ⟨h66, H0⟩ := ite_must H0
       refine JL.call [] [] [false, false, true] (does_ext_56 ([a5, b6, c7, d8] : List Int) (some ⟨b64, 0, none⟩) 4 3 h66) trivial ?_
       rintro _ _ ⟨rfl, rfl⟩
       obtain ⟨l65, el65, H0⟩ := lt_some H0
       rw [el65]
       have nl65 : ([a5, b6, c7, d8] : List Int).length = l65.length := by rw [← el65]; exact (length_sortI _).symm
       refine JQ.len (fun n : Nat => [(1, .int .i64 a5), (2, .int .i64 b6), (3, .int .i64 c7), (4, .int .i64 d8), (10, .pointer (some ⟨b9, 0, none⟩)), (13, .map (some b13)), (16, .slice (some ⟨b64, 0, none⟩) n 4), (71, .slice (some ⟨b64, 0, none⟩) n 4), (72, .tuple #[])]) nl65 ?_
       refine JQ.sub [(1, .int .i64 a5), (2, .int .i64 b6), (3, .int .i64 c7), (4, .int .i64 d8), (10, .pointer (some ⟨b9, 0, none⟩)), (13, .map (some b13)), (16, .slice (some ⟨b64, 0, none⟩) l65.length 4), (71, .slice (some ⟨b64, 0, none⟩) l65.length 4), (72, .tuple #[])] ?_
       refine JL.nil ?_
       refine JQ.then_normal ?_
       refine JQ.sub [(1, .int .i64 a5), (2, .int .i64 b6), (3, .int .i64 c7), (4, .int .i64 d8), (10, .pointer (some ⟨b9, 0, none⟩)), (13, .map (some b13)), (16, .slice (some ⟨b64, 0, none⟩) l65.length 4)] ?_
       refine J.seq ?_
       refine J.join (T := Bool) (G := Unit) (fun t => jones_Loop.k3 a5 b6 c7 d8 m62 t = some r) (fun t g => [(1, .int .i64 a5), (2, .int .i64 b6), (3, .int .i64 c7), (4, .int .i64 d8), (10, .pointer (some ⟨b9, 0, none⟩)), (13, .map (some b13)), (88, .bool t)]) (fun t g => [At.box b9 25 (cl_25 zv_25), At.mp b13 mv_77 mv_25 m62]) ?_ ?_
       · refine J.region ?_
         refine JL.mv (.slice (some ⟨b64, 0, none⟩) l65.length 4) ?_
         obtain ⟨⟨h105, h106⟩, H0⟩ := ite_must H0
         refine JL.ixAddr' 2 1 4 .i64 (elems_row (some ⟨b64, 0, none⟩) 4 3 ((flInt .i64).kd) l65 false) Try.underlying60 tySize_3 h105 h106 ?_
         refine JL.val (.int .i64 (ix l65 0)) (some 75) (gives_loadEl (f := (flInt .i64)) 2 0 0 (elems_row (some ⟨b64, 0, none⟩) 4 3 ((flInt .i64).kd) l65 false) h105 h106 tySize_3 (.inr ⟨tyAgg_3, rfl, rfl⟩)) ?_
         refine JL.pur (.bool (decide ((ix l65 0) < 0))) (some 76) ?_
         refine JL.mv (.bool (decide ((ix l65 0) < 0))) ?_
         rcases ite_cases H0 with ⟨h109, H0⟩ | ⟨h109, H0⟩
         · refine JL.off 4 77 false (some 78) h109 ?_
           refine JL.off 4 77 false (some 79) h109 ?_
           refine JL.off 4 77 false (some 80) h109 ?_
           refine JL.off 4 77 false (some 81) h109 ?_
           refine JL.val (.bool true) (some 82) (gives_pickT h109) ?_
           refine JL.mv (.bool true) ?_
           refine JL.off 10 83 false (some 84) rfl ?_
           refine JL.off 10 83 false (some 85) rfl ?_
           refine JL.off 10 83 false (some 86) rfl ?_
           refine JL.off 10 83 false (some 87) rfl ?_
           refine JL.val (.bool true) (some 88) (gives_pickT rfl) ?_
           refine JL.nil ?_
           refine JQ.then_normal ?_
           exact JQ.meet true () H0 (fun _ h => Heap.to (Heap.pick [0, 1] (by decide) h))
         · refine JL.on 4 77 h109 ?_
           refine JL.mv (.slice (some ⟨b64, 0, none⟩) l65.length 4) ?_
           refine JL.on 4 77 h109 ?_
           obtain ⟨⟨h110, h111⟩, H0⟩ := ite_must H0
           refine JL.ixAddr' 2 1 4 .i64 (elems_row (some ⟨b64, 0, none⟩) 4 3 ((flInt .i64).kd) l65 false) Try.underlying60 tySize_3 h110 h111 ?_
           refine JL.on 4 77 h109 ?_
           refine JL.val (.int .i64 (ix l65 3)) (some 80) (gives_loadEl (f := (flInt .i64)) 2 0 3 (elems_row (some ⟨b64, 0, none⟩) 4 3 ((flInt .i64).kd) l65 false) h110 h111 tySize_3 (.inr ⟨tyAgg_3, rfl, rfl⟩)) ?_
           refine JL.on 4 77 h109 ?_
           refine JL.pur (.bool (decide (8 ≤ (ix l65 3)))) (some 81) ?_
           refine JL.val (.bool (decide (8 ≤ (ix l65 3)))) (some 82) (gives_pickF h109) ?_
           refine JL.mv (.bool (decide (8 ≤ (ix l65 3)))) ?_
           rcases ite_cases H0 with ⟨h114, H0⟩ | ⟨h114, H0⟩
           · refine JL.off 10 83 false (some 84) h114 ?_
             refine JL.off 10 83 false (some 85) h114 ?_
             refine JL.off 10 83 false (some 86) h114 ?_
             refine JL.off 10 83 false (some 87) h114 ?_
             refine JL.val (.bool true) (some 88) (gives_pickT h114) ?_
             refine JL.nil ?_
             refine JQ.then_normal ?_
             exact JQ.meet true () H0 (fun _ h => Heap.to (Heap.pick [0, 1] (by decide) h))
           · refine JL.on 10 83 h114 ?_
             refine JL.mv (.slice (some ⟨b64, 0, none⟩) l65.length 4) ?_
             refine JL.on 10 83 h114 ?_
             obtain ⟨h116, H0⟩ := ite_must H0
             refine JL.call [] [] [false, false, true] (does_ext_57 l65 (some ⟨b64, 0, none⟩) 4 3 h116) trivial ?_
             rintro _ _ ⟨rfl, rfl⟩
             obtain ⟨l115, el115, H0⟩ := lt_some H0
             rw [el115]
             refine JQ.sub [(1, .int .i64 a5), (2, .int .i64 b6), (3, .int .i64 c7), (4, .int .i64 d8), (10, .pointer (some ⟨b9, 0, none⟩)), (13, .map (some b13)), (75, .int .i64 (ix l65 0)), (76, .bool (decide ((ix l65 0) < 0))), (77, .bool (decide ((ix l65 0) < 0))), (80, .int .i64 (ix l65 3)), (81, .bool (decide (8 ≤ (ix l65 3)))), (82, .bool (decide (8 ≤ (ix l65 3)))), (83, .bool (decide (8 ≤ (ix l65 3)))), (85, .slice (some ⟨b64, 0, none⟩) l115.length 4)] ?_
             refine JL.on 10 83 h114 ?_
             refine JL.pur (.int .i64 (l115.length : Int)) (some 86) ?_
             refine JL.on 10 83 h114 ?_
             refine JL.pur (.bool (decide ((l115.length : Int) < 4))) (some 87) ?_
             refine JL.val (.bool (decide ((l115.length : Int) < 4))) (some 88) (gives_pickF h114) ?_
             refine JL.nil ?_
             refine JQ.then_normal ?_
             exact JQ.meet (decide ((l115.length : Int) < 4)) () H0 (fun _ h => Heap.to (Heap.pick [0, 1] (by decide) h))
       · clear H0
         rintro x80 ⟨⟩ H0
         replace H0 : jones_Loop.k3 a5 b6 c7 d8 m62 x80 = some r := H0
         unfold jones_Loop.k3 at H0
         refine JQ.sub [(1, .int .i64 a5), (2, .int .i64 b6), (3, .int .i64 c7), (4, .int .i64 d8), (10, .pointer (some ⟨b9, 0, none⟩)), (13, .map (some b13)), (88, .bool x80)] ?_
         refine JQ.turn (Δ' := [At.box b9 25 (cl_25 zv_25), At.mp b13 mv_77 mv_25 m62]) (fun _ h => h.to) ?_
         rcases ite_cases H0 with ⟨h81, H0⟩ | ⟨h81, H0⟩
         · refine J.cond_true h81 ?_
           refine J.seq ?_
           refine J.region ?_
           refine JL.pur (mv_25 zv_25) (some 89) ?_
           refine JL.store 0 b9 0 25 (cl_25 zv_25) (cl_25 zv_25) tySize_25 ?_
           refine JL.as (.int .i64 2) ?_
           refine JL.nil ?_
           refine JQ.then_normal ?_
           refine JQ.sub [(10, .pointer (some ⟨b9, 0, none⟩)), (11, .int .i64 2)] ?_
           refine JQ.mask [At.box b9 25 (cl_25 zv_25)] [true, false] ?_
           refine J.ret ?_
           refine JQ.then_ret ?_
           obtain rfl := Option.some.inj H0
           exact JQ.done' (rs := [.cell 10 25, .tmp 11]) (vs := [.agg #[.int .i64 0, .int .i64 0, .int .i64 0, .int .i64 0, .int .i64 0, .int .i64 0, .int .i64 0, .int .i64 0, .int .i64 0, .int .i64 0, .int .i64 0, .int .i64 0], .int .i64 2]) [] (.inr rfl) ⟨⟨b9, 0, _, _, by kernel_rfl, by kernel_rfl, holds_box b9 25 (cl_25 zv_25), .inl ⟨tyAgg_25, tySize_25, rfl⟩⟩, by kernel_rfl, trivial⟩ (fun _ h => Heap.to (Heap.pick [] (by decide) h)) ⟨rfl, rfl⟩
         · refine J.cond_false h81 ?_
           refine J.skip ?_
           refine JQ.then_normal ?_
           refine JQ.sub [(1, .int .i64 a5), (2, .int .i64 b6), (3, .int .i64 c7), (4, .int .i64 d8), (10, .pointer (some ⟨b9, 0, none⟩)), (13, .map (some b13))] ?_
           refine J.seq ?_
           refine J.region ?_
           refine JL.mv (.map (some b13)) ?_
           refine JL.mv (.int .i64 a5) ?_
           refine JL.mv (.int .i64 b6) ?_
           refine JL.pur (.agg #[.int .i64 a5, .int .i64 b6]) (some 94) ?_
           refine JL.val (.tuple #[mv_25 (mgetD m62 (⟨a5, b6⟩ : (A2 Int)) (⟨(⟨0, 0, 0⟩ : Cx), (⟨0, 0, 0⟩ : Cx), (⟨0, 0, 0⟩ : Cx), (⟨0, 0, 0⟩ : Cx)⟩ : (A4 Cx))), .bool (mhas m62 (⟨a5, b6⟩ : (A2 Int)))]) (some 95) (gives_mapGet (b := b13) (l := m62) (ek := mv_77) (ev := mv_25) 1 true (⟨(⟨0, 0, 0⟩ : Cx), (⟨0, 0, 0⟩ : Cx), (⟨0, 0, 0⟩ : Cx), (⟨0, 0, 0⟩ : Cx)⟩ : (A4 Cx)) (⟨a5, b6⟩ : (A2 Int)) (.tuple #[mv_25 (mgetD m62 (⟨a5, b6⟩ : (A2 Int)) (⟨(⟨0, 0, 0⟩ : Cx), (⟨0, 0, 0⟩ : Cx), (⟨0, 0, 0⟩ : Cx), (⟨0, 0, 0⟩ : Cx)⟩ : (A4 Cx))), .bool (mhas m62 (⟨a5, b6⟩ : (A2 Int)))]) mk_77 Try.underlying76 mz_25 rfl) ?_
           refine JL.mv (.tuple #[mv_25 (mgetD m62 (⟨a5, b6⟩ : (A2 Int)) (⟨(⟨0, 0, 0⟩ : Cx), (⟨0, 0, 0⟩ : Cx), (⟨0, 0, 0⟩ : Cx), (⟨0, 0, 0⟩ : Cx)⟩ : (A4 Cx))), .bool (mhas m62 (⟨a5, b6⟩ : (A2 Int)))]) ?_
           refine JL.pur (mv_25 (mgetD m62 (⟨a5, b6⟩ : (A2 Int)) (⟨(⟨0, 0, 0⟩ : Cx), (⟨0, 0, 0⟩ : Cx), (⟨0, 0, 0⟩ : Cx), (⟨0, 0, 0⟩ : Cx)⟩ : (A4 Cx)))) (some 96) ?_
           refine JL.pur (.bool (mhas m62 (⟨a5, b6⟩ : (A2 Int)))) (some 97) ?_
           refine JL.alloc (cl_25 zv_25) fun b82 => ?_
           refine JL.store 2 b82 0 25 (cl_25 zv_25) (cl_25 (mgetD m62 (⟨a5, b6⟩ : (A2 Int)) (⟨(⟨0, 0, 0⟩ : Cx), (⟨0, 0, 0⟩ : Cx), (⟨0, 0, 0⟩ : Cx), (⟨0, 0, 0⟩ : Cx)⟩ : (A4 Cx)))) tySize_25 ?_
           refine JL.as (.bool (mhas m62 (⟨a5, b6⟩ : (A2 Int)))) ?_
           refine JL.nil ?_
           refine JQ.then_normal ?_
           refine JQ.sub [(1, .int .i64 a5), (2, .int .i64 b6), (3, .int .i64 c7), (4, .int .i64 d8), (10, .pointer (some ⟨b9, 0, none⟩)), (13, .map (some b13)), (17, .pointer (some ⟨b82, 0, none⟩)), (18, .bool (mhas m62 (⟨a5, b6⟩ : (A2 Int))))] ?_
           refine J.seq ?_
           refine J.region ?_
           refine JL.mv (.map (some b13)) ?_
           refine JL.mv (.int .i64 c7) ?_
           refine JL.mv (.int .i64 b6) ?_
           refine JL.pur (.agg #[.int .i64 c7, .int .i64 b6]) (some 102) ?_
           refine JL.val (.tuple #[mv_25 (mgetD m62 (⟨c7, b6⟩ : (A2 Int)) (⟨(⟨0, 0, 0⟩ : Cx), (⟨0, 0, 0⟩ : Cx), (⟨0, 0, 0⟩ : Cx), (⟨0, 0, 0⟩ : Cx)⟩ : (A4 Cx))), .bool (mhas m62 (⟨c7, b6⟩ : (A2 Int)))]) (some 103) (gives_mapGet (b := b13) (l := m62) (ek := mv_77) (ev := mv_25) 1 true (⟨(⟨0, 0, 0⟩ : Cx), (⟨0, 0, 0⟩ : Cx), (⟨0, 0, 0⟩ : Cx), (⟨0, 0, 0⟩ : Cx)⟩ : (A4 Cx)) (⟨c7, b6⟩ : (A2 Int)) (.tuple #[mv_25 (mgetD m62 (⟨c7, b6⟩ : (A2 Int)) (⟨(⟨0, 0, 0⟩ : Cx), (⟨0, 0, 0⟩ : Cx), (⟨0, 0, 0⟩ : Cx), (⟨0, 0, 0⟩ : Cx)⟩ : (A4 Cx))), .bool (mhas m62 (⟨c7, b6⟩ : (A2 Int)))]) mk_77 Try.underlying76 mz_25 rfl) ?_
           refine JL.mv (.tuple #[mv_25 (mgetD m62 (⟨c7, b6⟩ : (A2 Int)) (⟨(⟨0, 0, 0⟩ : Cx), (⟨0, 0, 0⟩ : Cx), (⟨0, 0, 0⟩ : Cx), (⟨0, 0, 0⟩ : Cx)⟩ : (A4 Cx))), .bool (mhas m62 (⟨c7, b6⟩ : (A2 Int)))]) ?_
           refine JL.pur (mv_25 (mgetD m62 (⟨c7, b6⟩ : (A2 Int)) (⟨(⟨0, 0, 0⟩ : Cx), (⟨0, 0, 0⟩ : Cx), (⟨0, 0, 0⟩ : Cx), (⟨0, 0, 0⟩ : Cx)⟩ : (A4 Cx)))) (some 104) ?_
           refine JL.pur (.bool (mhas m62 (⟨c7, b6⟩ : (A2 Int)))) (some 105) ?_
           refine JL.alloc (cl_25 zv_25) fun b83 => ?_
           refine JL.store 3 b83 0 25 (cl_25 zv_25) (cl_25 (mgetD m62 (⟨c7, b6⟩ : (A2 Int)) (⟨(⟨0, 0, 0⟩ : Cx), (⟨0, 0, 0⟩ : Cx), (⟨0, 0, 0⟩ : Cx), (⟨0, 0, 0⟩ : Cx)⟩ : (A4 Cx)))) tySize_25 ?_
           refine JL.as (.bool (mhas m62 (⟨c7, b6⟩ : (A2 Int)))) ?_
           refine JL.nil ?_
           refine JQ.then_normal ?_
           refine JQ.sub [(1, .int .i64 a5), (3, .int .i64 c7), (4, .int .i64 d8), (10, .pointer (some ⟨b9, 0, none⟩)), (13, .map (some b13)), (17, .pointer (some ⟨b82, 0, none⟩)), (18, .bool (mhas m62 (⟨a5, b6⟩ : (A2 Int)))), (19, .pointer (some ⟨b83, 0, none⟩)), (20, .bool (mhas m62 (⟨c7, b6⟩ : (A2 Int))))] ?_
           refine J.seq ?_
           refine J.region ?_
           refine JL.mv (.map (some b13)) ?_
           refine JL.mv (.int .i64 c7) ?_
           refine JL.mv (.int .i64 d8) ?_
           refine JL.pur (.agg #[.int .i64 c7, .int .i64 d8]) (some 110) ?_
           refine JL.val (.tuple #[mv_25 (mgetD m62 (⟨c7, d8⟩ : (A2 Int)) (⟨(⟨0, 0, 0⟩ : Cx), (⟨0, 0, 0⟩ : Cx), (⟨0, 0, 0⟩ : Cx), (⟨0, 0, 0⟩ : Cx)⟩ : (A4 Cx))), .bool (mhas m62 (⟨c7, d8⟩ : (A2 Int)))]) (some 111) (gives_mapGet (b := b13) (l := m62) (ek := mv_77) (ev := mv_25) 1 true (⟨(⟨0, 0, 0⟩ : Cx), (⟨0, 0, 0⟩ : Cx), (⟨0, 0, 0⟩ : Cx), (⟨0, 0, 0⟩ : Cx)⟩ : (A4 Cx)) (⟨c7, d8⟩ : (A2 Int)) (.tuple #[mv_25 (mgetD m62 (⟨c7, d8⟩ : (A2 Int)) (⟨(⟨0, 0, 0⟩ : Cx), (⟨0, 0, 0⟩ : Cx), (⟨0, 0, 0⟩ : Cx), (⟨0, 0, 0⟩ : Cx)⟩ : (A4 Cx))), .bool (mhas m62 (⟨c7, d8⟩ : (A2 Int)))]) mk_77 Try.underlying76 mz_25 rfl) ?_
           refine JL.mv (.tuple #[mv_25 (mgetD m62 (⟨c7, d8⟩ : (A2 Int)) (⟨(⟨0, 0, 0⟩ : Cx), (⟨0, 0, 0⟩ : Cx), (⟨0, 0, 0⟩ : Cx), (⟨0, 0, 0⟩ : Cx)⟩ : (A4 Cx))), .bool (mhas m62 (⟨c7, d8⟩ : (A2 Int)))]) ?_
           refine JL.pur (mv_25 (mgetD m62 (⟨c7, d8⟩ : (A2 Int)) (⟨(⟨0, 0, 0⟩ : Cx), (⟨0, 0, 0⟩ : Cx), (⟨0, 0, 0⟩ : Cx), (⟨0, 0, 0⟩ : Cx)⟩ : (A4 Cx)))) (some 112) ?_
           refine JL.pur (.bool (mhas m62 (⟨c7, d8⟩ : (A2 Int)))) (some 113) ?_
           refine JL.alloc (cl_25 zv_25) fun b84 => ?_
           refine JL.store 4 b84 0 25 (cl_25 zv_25) (cl_25 (mgetD m62 (⟨c7, d8⟩ : (A2 Int)) (⟨(⟨0, 0, 0⟩ : Cx), (⟨0, 0, 0⟩ : Cx), (⟨0, 0, 0⟩ : Cx), (⟨0, 0, 0⟩ : Cx)⟩ : (A4 Cx)))) tySize_25 ?_
           refine JL.as (.bool (mhas m62 (⟨c7, d8⟩ : (A2 Int)))) ?_
           refine JL.nil ?_
           refine JQ.then_normal ?_
           refine JQ.sub [(1, .int .i64 a5), (4, .int .i64 d8), (10, .pointer (some ⟨b9, 0, none⟩)), (13, .map (some b13)), (17, .pointer (some ⟨b82, 0, none⟩)), (18, .bool (mhas m62 (⟨a5, b6⟩ : (A2 Int)))), (19, .pointer (some ⟨b83, 0, none⟩)), (20, .bool (mhas m62 (⟨c7, b6⟩ : (A2 Int)))), (21, .pointer (some ⟨b84, 0, none⟩)), (22, .bool (mhas m62 (⟨c7, d8⟩ : (A2 Int))))] ?_
           refine J.seq ?_
           refine J.region ?_
           refine JL.mv (.map (some b13)) ?_
           refine JL.mv (.int .i64 a5) ?_
           refine JL.mv (.int .i64 d8) ?_
           refine JL.pur (.agg #[.int .i64 a5, .int .i64 d8]) (some 118) ?_
           refine JL.val (.tuple #[mv_25 (mgetD m62 (⟨a5, d8⟩ : (A2 Int)) (⟨(⟨0, 0, 0⟩ : Cx), (⟨0, 0, 0⟩ : Cx), (⟨0, 0, 0⟩ : Cx), (⟨0, 0, 0⟩ : Cx)⟩ : (A4 Cx))), .bool (mhas m62 (⟨a5, d8⟩ : (A2 Int)))]) (some 119) (gives_mapGet (b := b13) (l := m62) (ek := mv_77) (ev := mv_25) 1 true (⟨(⟨0, 0, 0⟩ : Cx), (⟨0, 0, 0⟩ : Cx), (⟨0, 0, 0⟩ : Cx), (⟨0, 0, 0⟩ : Cx)⟩ : (A4 Cx)) (⟨a5, d8⟩ : (A2 Int)) (.tuple #[mv_25 (mgetD m62 (⟨a5, d8⟩ : (A2 Int)) (⟨(⟨0, 0, 0⟩ : Cx), (⟨0, 0, 0⟩ : Cx), (⟨0, 0, 0⟩ : Cx), (⟨0, 0, 0⟩ : Cx)⟩ : (A4 Cx))), .bool (mhas m62 (⟨a5, d8⟩ : (A2 Int)))]) mk_77 Try.underlying76 mz_25 rfl) ?_
           refine JL.mv (.tuple #[mv_25 (mgetD m62 (⟨a5, d8⟩ : (A2 Int)) (⟨(⟨0, 0, 0⟩ : Cx), (⟨0, 0, 0⟩ : Cx), (⟨0, 0, 0⟩ : Cx), (⟨0, 0, 0⟩ : Cx)⟩ : (A4 Cx))), .bool (mhas m62 (⟨a5, d8⟩ : (A2 Int)))]) ?_
           refine JL.pur (mv_25 (mgetD m62 (⟨a5, d8⟩ : (A2 Int)) (⟨(⟨0, 0, 0⟩ : Cx), (⟨0, 0, 0⟩ : Cx), (⟨0, 0, 0⟩ : Cx), (⟨0, 0, 0⟩ : Cx)⟩ : (A4 Cx)))) (some 120) ?_
           refine JL.pur (.bool (mhas m62 (⟨a5, d8⟩ : (A2 Int)))) (some 121) ?_
           refine JL.alloc (cl_25 zv_25) fun b85 => ?_
           refine JL.store 5 b85 0 25 (cl_25 zv_25) (cl_25 (mgetD m62 (⟨a5, d8⟩ : (A2 Int)) (⟨(⟨0, 0, 0⟩ : Cx), (⟨0, 0, 0⟩ : Cx), (⟨0, 0, 0⟩ : Cx), (⟨0, 0, 0⟩ : Cx)⟩ : (A4 Cx)))) tySize_25 ?_
           refine JL.as (.bool (mhas m62 (⟨a5, d8⟩ : (A2 Int)))) ?_
           refine JL.nil ?_
           refine JQ.then_normal ?_
           refine JQ.sub [(10, .pointer (some ⟨b9, 0, none⟩)), (17, .pointer (some ⟨b82, 0, none⟩)), (18, .bool (mhas m62 (⟨a5, b6⟩ : (A2 Int)))), (19, .pointer (some ⟨b83, 0, none⟩)), (20, .bool (mhas m62 (⟨c7, b6⟩ : (A2 Int)))), (21, .pointer (some ⟨b84, 0, none⟩)), (22, .bool (mhas m62 (⟨c7, d8⟩ : (A2 Int)))), (23, .pointer (some ⟨b85, 0, none⟩)), (24, .bool (mhas m62 (⟨a5, d8⟩ : (A2 Int))))] ?_
           refine JQ.mask [At.box b9 25 (cl_25 zv_25), At.box b82 25 (cl_25 (mgetD m62 (⟨a5, b6⟩ : (A2 Int)) (⟨(⟨0, 0, 0⟩ : Cx), (⟨0, 0, 0⟩ : Cx), (⟨0, 0, 0⟩ : Cx), (⟨0, 0, 0⟩ : Cx)⟩ : (A4 Cx)))), At.box b83 25 (cl_25 (mgetD m62 (⟨c7, b6⟩ : (A2 Int)) (⟨(⟨0, 0, 0⟩ : Cx), (⟨0, 0, 0⟩ : Cx), (⟨0, 0, 0⟩ : Cx), (⟨0, 0, 0⟩ : Cx)⟩ : (A4 Cx)))), At.box b84 25 (cl_25 (mgetD m62 (⟨c7, d8⟩ : (A2 Int)) (⟨(⟨0, 0, 0⟩ : Cx), (⟨0, 0, 0⟩ : Cx), (⟨0, 0, 0⟩ : Cx), (⟨0, 0, 0⟩ : Cx)⟩ : (A4 Cx)))), At.box b85 25 (cl_25 (mgetD m62 (⟨a5, d8⟩ : (A2 Int)) (⟨(⟨0, 0, 0⟩ : Cx), (⟨0, 0, 0⟩ : Cx), (⟨0, 0, 0⟩ : Cx), (⟨0, 0, 0⟩ : Cx)⟩ : (A4 Cx))))] [true, false, true, true, true, true] ?_
           refine J.seq ?_
           refine J.join (T := Bool) (G := Unit) (fun t => jones_Loop.k4 a5 b6 c7 d8 m62 t = some r) (fun t g => [(10, .pointer (some ⟨b9, 0, none⟩)), (17, .pointer (some ⟨b82, 0, none⟩)), (19, .pointer (some ⟨b83, 0, none⟩)), (21, .pointer (some ⟨b84, 0, none⟩)), (23, .pointer (some ⟨b85, 0, none⟩)), (135, .bool t)]) (fun t g => [At.box b9 25 (cl_25 zv_25), At.box b82 25 (cl_25 (mgetD m62 (⟨a5, b6⟩ : (A2 Int)) (⟨(⟨0, 0, 0⟩ : Cx), (⟨0, 0, 0⟩ : Cx), (⟨0, 0, 0⟩ : Cx), (⟨0, 0, 0⟩ : Cx)⟩ : (A4 Cx)))), At.box b83 25 (cl_25 (mgetD m62 (⟨c7, b6⟩ : (A2 Int)) (⟨(⟨0, 0, 0⟩ : Cx), (⟨0, 0, 0⟩ : Cx), (⟨0, 0, 0⟩ : Cx), (⟨0, 0, 0⟩ : Cx)⟩ : (A4 Cx)))), At.box b84 25 (cl_25 (mgetD m62 (⟨c7, d8⟩ : (A2 Int)) (⟨(⟨0, 0, 0⟩ : Cx), (⟨0, 0, 0⟩ : Cx), (⟨0, 0, 0⟩ : Cx), (⟨0, 0, 0⟩ : Cx)⟩ : (A4 Cx)))), At.box b85 25 (cl_25 (mgetD m62 (⟨a5, d8⟩ : (A2 Int)) (⟨(⟨0, 0, 0⟩ : Cx), (⟨0, 0, 0⟩ : Cx), (⟨0, 0, 0⟩ : Cx), (⟨0, 0, 0⟩ : Cx)⟩ : (A4 Cx))))]) ?_ ?_
           · refine J.region ?_
             refine JL.mv (.bool (mhas m62 (⟨a5, b6⟩ : (A2 Int)))) ?_
             refine JL.pur (.bool (!(mhas m62 (⟨a5, b6⟩ : (A2 Int))))) (some 123) ?_
             refine JL.mv (.bool (!(mhas m62 (⟨a5, b6⟩ : (A2 Int))))) ?_
             rcases ite_cases H0 with ⟨h102, H0⟩ | ⟨h102, H0⟩
             · refine JL.off 2 124 false (some 125) h102 ?_
               refine JL.off 2 124 false (some 126) h102 ?_
               refine JL.val (.bool true) (some 127) (gives_pickT h102) ?_
               refine JL.mv (.bool true) ?_
               refine JL.off 6 128 false (some 129) rfl ?_
               refine JL.off 6 128 false (some 130) rfl ?_
               refine JL.val (.bool true) (some 131) (gives_pickT rfl) ?_
               refine JL.mv (.bool true) ?_
               refine JL.off 10 132 false (some 133) rfl ?_
               refine JL.off 10 132 false (some 134) rfl ?_
               refine JL.val (.bool true) (some 135) (gives_pickT rfl) ?_
               refine JL.nil ?_
               refine JQ.then_normal ?_
               exact JQ.meet true () H0 (fun _ h => Heap.to h)
             · refine JL.on 2 124 h102 ?_
               refine JL.mv (.bool (mhas m62 (⟨c7, b6⟩ : (A2 Int)))) ?_
               refine JL.on 2 124 h102 ?_
               refine JL.pur (.bool (!(mhas m62 (⟨c7, b6⟩ : (A2 Int))))) (some 126) ?_
               refine JL.val (.bool (!(mhas m62 (⟨c7, b6⟩ : (A2 Int))))) (some 127) (gives_pickF h102) ?_
               refine JL.mv (.bool (!(mhas m62 (⟨c7, b6⟩ : (A2 Int))))) ?_
               rcases ite_cases H0 with ⟨h103, H0⟩ | ⟨h103, H0⟩
               · refine JL.off 6 128 false (some 129) h103 ?_
                 refine JL.off 6 128 false (some 130) h103 ?_
                 refine JL.val (.bool true) (some 131) (gives_pickT h103) ?_
                 refine JL.mv (.bool true) ?_
                 refine JL.off 10 132 false (some 133) rfl ?_
                 refine JL.off 10 132 false (some 134) rfl ?_
                 refine JL.val (.bool true) (some 135) (gives_pickT rfl) ?_
                 refine JL.nil ?_
                 refine JQ.then_normal ?_
                 exact JQ.meet true () H0 (fun _ h => Heap.to h)
               · refine JL.on 6 128 h103 ?_
                 refine JL.mv (.bool (mhas m62 (⟨c7, d8⟩ : (A2 Int)))) ?_
                 refine JL.on 6 128 h103 ?_
                 refine JL.pur (.bool (!(mhas m62 (⟨c7, d8⟩ : (A2 Int))))) (some 130) ?_
                 refine JL.val (.bool (!(mhas m62 (⟨c7, d8⟩ : (A2 Int))))) (some 131) (gives_pickF h103) ?_
                 refine JL.mv (.bool (!(mhas m62 (⟨c7, d8⟩ : (A2 Int))))) ?_
                 rcases ite_cases H0 with ⟨h104, H0⟩ | ⟨h104, H0⟩
                 · refine JL.off 10 132 false (some 133) h104 ?_
                   refine JL.off 10 132 false (some 134) h104 ?_
                   refine JL.val (.bool true) (some 135) (gives_pickT h104) ?_
                   refine JL.nil ?_
                   refine JQ.then_normal ?_
                   exact JQ.meet true () H0 (fun _ h => Heap.to h)
                 · refine JL.on 10 132 h104 ?_
                   refine JL.mv (.bool (mhas m62 (⟨a5, d8⟩ : (A2 Int)))) ?_
                   refine JL.on 10 132 h104 ?_
                   refine JL.pur (.bool (!(mhas m62 (⟨a5, d8⟩ : (A2 Int))))) (some 134) ?_
                   refine JL.val (.bool (!(mhas m62 (⟨a5, d8⟩ : (A2 Int))))) (some 135) (gives_pickF h104) ?_
                   refine JL.nil ?_
                   refine JQ.then_normal ?_
                   exact JQ.meet (!(mhas m62 (⟨a5, d8⟩ : (A2 Int)))) () H0 (fun _ h => Heap.to h)
           · clear H0
             rintro x89 ⟨⟩ H0
             replace H0 : jones_Loop.k4 a5 b6 c7 d8 m62 x89 = some r := H0
             unfold jones_Loop.k4 at H0
             refine JQ.sub [(10, .pointer (some ⟨b9, 0, none⟩)), (17, .pointer (some ⟨b82, 0, none⟩)), (19, .pointer (some ⟨b83, 0, none⟩)), (21, .pointer (some ⟨b84, 0, none⟩)), (23, .pointer (some ⟨b85, 0, none⟩)), (135, .bool x89)] ?_
             refine JQ.turn (Δ' := [At.box b9 25 (cl_25 zv_25), At.box b82 25 (cl_25 (mgetD m62 (⟨a5, b6⟩ : (A2 Int)) (⟨(⟨0, 0, 0⟩ : Cx), (⟨0, 0, 0⟩ : Cx), (⟨0, 0, 0⟩ : Cx), (⟨0, 0, 0⟩ : Cx)⟩ : (A4 Cx)))), At.box b83 25 (cl_25 (mgetD m62 (⟨c7, b6⟩ : (A2 Int)) (⟨(⟨0, 0, 0⟩ : Cx), (⟨0, 0, 0⟩ : Cx), (⟨0, 0, 0⟩ : Cx), (⟨0, 0, 0⟩ : Cx)⟩ : (A4 Cx)))), At.box b84 25 (cl_25 (mgetD m62 (⟨c7, d8⟩ : (A2 Int)) (⟨(⟨0, 0, 0⟩ : Cx), (⟨0, 0, 0⟩ : Cx), (⟨0, 0, 0⟩ : Cx), (⟨0, 0, 0⟩ : Cx)⟩ : (A4 Cx)))), At.box b85 25 (cl_25 (mgetD m62 (⟨a5, d8⟩ : (A2 Int)) (⟨(⟨0, 0, 0⟩ : Cx), (⟨0, 0, 0⟩ : Cx), (⟨0, 0, 0⟩ : Cx), (⟨0, 0, 0⟩ : Cx)⟩ : (A4 Cx))))]) (fun _ h => h.to) ?_
             rcases ite_cases H0 with ⟨h90, H0⟩ | ⟨h90, H0⟩
             · refine J.cond_true h90 ?_
               refine J.seq ?_
               refine J.region ?_
               refine JL.pur (mv_25 zv_25) (some 136) ?_
               refine JL.store 0 b9 0 25 (cl_25 zv_25) (cl_25 zv_25) tySize_25 ?_
               refine JL.as (.int .i64 6) ?_
               refine JL.nil ?_
               refine JQ.then_normal ?_
               refine JQ.sub [(10, .pointer (some ⟨b9, 0, none⟩)), (11, .int .i64 6)] ?_
               refine JQ.mask [At.box b9 25 (cl_25 zv_25)] [true, false, false, false, false] ?_
               refine J.ret ?_
               refine JQ.then_ret ?_
               obtain rfl := Option.some.inj H0
               exact JQ.done' (rs := [.cell 10 25, .tmp 11]) (vs := [.agg #[.int .i64 0, .int .i64 0, .int .i64 0, .int .i64 0, .int .i64 0, .int .i64 0, .int .i64 0, .int .i64 0, .int .i64 0, .int .i64 0, .int .i64 0, .int .i64 0], .int .i64 6]) [] (.inr rfl) ⟨⟨b9, 0, _, _, by kernel_rfl, by kernel_rfl, holds_box b9 25 (cl_25 zv_25), .inl ⟨tyAgg_25, tySize_25, rfl⟩⟩, by kernel_rfl, trivial⟩ (fun _ h => Heap.to (Heap.pick [] (by decide) h)) ⟨rfl, rfl⟩
             · refine J.cond_false h90 ?_
               refine J.skip ?_
               refine JQ.then_normal ?_
               refine JQ.sub [(10, .pointer (some ⟨b9, 0, none⟩)), (17, .pointer (some ⟨b82, 0, none⟩)), (19, .pointer (some ⟨b83, 0, none⟩)), (21, .pointer (some ⟨b84, 0, none⟩)), (23, .pointer (some ⟨b85, 0, none⟩))] ?_
               refine J.seq ?_
               refine J.region ?_
               refine JL.val (mv_25 (mgetD m62 (⟨c7, b6⟩ : (A2 Int)) (⟨(⟨0, 0, 0⟩ : Cx), (⟨0, 0, 0⟩ : Cx), (⟨0, 0, 0⟩ : Cx), (⟨0, 0, 0⟩ : Cx)⟩ : (A4 Cx)))) (some 138) (yields_load_boxes 2 0 (cl_25 (mgetD m62 (⟨c7, b6⟩ : (A2 Int)) (⟨(⟨0, 0, 0⟩ : Cx), (⟨0, 0, 0⟩ : Cx), (⟨0, 0, 0⟩ : Cx), (⟨0, 0, 0⟩ : Cx)⟩ : (A4 Cx)))) (holds_box b83 25 (cl_25 (mgetD m62 (⟨c7, b6⟩ : (A2 Int)) (⟨(⟨0, 0, 0⟩ : Cx), (⟨0, 0, 0⟩ : Cx), (⟨0, 0, 0⟩ : Cx), (⟨0, 0, 0⟩ : Cx)⟩ : (A4 Cx))))) tyAgg_25 tySize_25) ?_
               obtain ⟨t91, hc92, H0⟩ := bind_some H0
               refine JL.call [] [] [] (jones_Inv.ok (mgetD m62 (⟨c7, b6⟩ : (A2 Int)) (⟨(⟨0, 0, 0⟩ : Cx), (⟨0, 0, 0⟩ : Cx), (⟨0, 0, 0⟩ : Cx), (⟨0, 0, 0⟩ : Cx)⟩ : (A4 Cx))) _ hc92) trivial ?_
               rintro _ _ ⟨rfl, rfl⟩
               refine JL.mv (.tuple #[mv_25 t91.1, .int .i64 t91.2]) ?_
               refine JL.pur (mv_25 t91.1) (some 140) ?_
               refine JL.pur (.int .i64 t91.2) (some 141) ?_
               refine JL.alloc (cl_25 zv_25) fun b93 => ?_
               refine JL.store 5 b93 0 25 (cl_25 zv_25) (cl_25 t91.1) tySize_25 ?_
               refine JL.as (.int .i64 t91.2) ?_
               refine JL.nil ?_
               refine JQ.then_normal ?_
               refine JQ.sub [(10, .pointer (some ⟨b9, 0, none⟩)), (17, .pointer (some ⟨b82, 0, none⟩)), (21, .pointer (some ⟨b84, 0, none⟩)), (23, .pointer (some ⟨b85, 0, none⟩)), (25, .pointer (some ⟨b93, 0, none⟩)), (26, .int .i64 t91.2)] ?_
               refine JQ.mask [At.box b9 25 (cl_25 zv_25), At.box b82 25 (cl_25 (mgetD m62 (⟨a5, b6⟩ : (A2 Int)) (⟨(⟨0, 0, 0⟩ : Cx), (⟨0, 0, 0⟩ : Cx), (⟨0, 0, 0⟩ : Cx), (⟨0, 0, 0⟩ : Cx)⟩ : (A4 Cx)))), At.box b84 25 (cl_25 (mgetD m62 (⟨c7, d8⟩ : (A2 Int)) (⟨(⟨0, 0, 0⟩ : Cx), (⟨0, 0, 0⟩ : Cx), (⟨0, 0, 0⟩ : Cx), (⟨0, 0, 0⟩ : Cx)⟩ : (A4 Cx)))), At.box b85 25 (cl_25 (mgetD m62 (⟨a5, d8⟩ : (A2 Int)) (⟨(⟨0, 0, 0⟩ : Cx), (⟨0, 0, 0⟩ : Cx), (⟨0, 0, 0⟩ : Cx), (⟨0, 0, 0⟩ : Cx)⟩ : (A4 Cx)))), At.box b93 25 (cl_25 t91.1)] [true, true, false, true, true, true] ?_
               refine J.seq ?_
               refine J.seq ?_
               refine J.region ?_
               refine JL.mv (.int .i64 t91.2) ?_
               refine JL.pur (.bool (!decide (t91.2 = 0))) (some 143) ?_
               refine JL.nil ?_
               refine JQ.then_normal ?_
               refine JQ.sub [(10, .pointer (some ⟨b9, 0, none⟩)), (17, .pointer (some ⟨b82, 0, none⟩)), (21, .pointer (some ⟨b84, 0, none⟩)), (23, .pointer (some ⟨b85, 0, none⟩)), (25, .pointer (some ⟨b93, 0, none⟩)), (26, .int .i64 t91.2), (143, .bool (!decide (t91.2 = 0)))] ?_
               rcases ite_cases H0 with ⟨h94, H0⟩ | ⟨h94, H0⟩
               · refine J.cond_true h94 ?_
                 refine J.seq ?_
                 refine J.region ?_
                 refine JL.pur (mv_25 zv_25) (some 144) ?_
                 refine JL.mv (.int .i64 t91.2) ?_
                 refine JL.store 0 b9 0 25 (cl_25 zv_25) (cl_25 zv_25) tySize_25 ?_
                 refine JL.as (.int .i64 t91.2) ?_
                 refine JL.nil ?_
                 refine JQ.then_normal ?_
                 refine JQ.sub [(10, .pointer (some ⟨b9, 0, none⟩)), (11, .int .i64 t91.2)] ?_
                 refine JQ.mask [At.box b9 25 (cl_25 zv_25)] [true, false, false, false, false] ?_
                 refine J.ret ?_
                 refine JQ.then_ret ?_
                 obtain rfl := Option.some.inj H0
                 exact JQ.done' (rs := [.cell 10 25, .tmp 11]) (vs := [.agg #[.int .i64 0, .int .i64 0, .int .i64 0, .int .i64 0, .int .i64 0, .int .i64 0, .int .i64 0, .int .i64 0, .int .i64 0, .int .i64 0, .int .i64 0, .int .i64 0], .int .i64 t91.2]) [] (.inr rfl) ⟨⟨b9, 0, _, _, by kernel_rfl, by kernel_rfl, holds_box b9 25 (cl_25 zv_25), .inl ⟨tyAgg_25, tySize_25, rfl⟩⟩, by kernel_rfl, trivial⟩ (fun _ h => Heap.to (Heap.pick [] (by decide) h)) ⟨rfl, rfl⟩
               · refine J.cond_false h94 ?_
                 refine J.skip ?_
                 refine JQ.then_normal ?_
                 refine JQ.sub [(10, .pointer (some ⟨b9, 0, none⟩)), (17, .pointer (some ⟨b82, 0, none⟩)), (21, .pointer (some ⟨b84, 0, none⟩)), (23, .pointer (some ⟨b85, 0, none⟩)), (25, .pointer (some ⟨b93, 0, none⟩))] ?_
                 refine J.seq ?_
                 refine J.region ?_
                 refine JL.val (mv_25 (mgetD m62 (⟨a5, d8⟩ : (A2 Int)) (⟨(⟨0, 0, 0⟩ : Cx), (⟨0, 0, 0⟩ : Cx), (⟨0, 0, 0⟩ : Cx), (⟨0, 0, 0⟩ : Cx)⟩ : (A4 Cx)))) (some 147) (yields_load_boxes 3 0 (cl_25 (mgetD m62 (⟨a5, d8⟩ : (A2 Int)) (⟨(⟨0, 0, 0⟩ : Cx), (⟨0, 0, 0⟩ : Cx), (⟨0, 0, 0⟩ : Cx), (⟨0, 0, 0⟩ : Cx)⟩ : (A4 Cx)))) (holds_box b85 25 (cl_25 (mgetD m62 (⟨a5, d8⟩ : (A2 Int)) (⟨(⟨0, 0, 0⟩ : Cx), (⟨0, 0, 0⟩ : Cx), (⟨0, 0, 0⟩ : Cx), (⟨0, 0, 0⟩ : Cx)⟩ : (A4 Cx))))) tyAgg_25 tySize_25) ?_
                 obtain ⟨t95, hc96, H0⟩ := bind_some H0
                 refine JL.call [] [] [] (jones_Inv.ok (mgetD m62 (⟨a5, d8⟩ : (A2 Int)) (⟨(⟨0, 0, 0⟩ : Cx), (⟨0, 0, 0⟩ : Cx), (⟨0, 0, 0⟩ : Cx), (⟨0, 0, 0⟩ : Cx)⟩ : (A4 Cx))) _ hc96) trivial ?_
                 rintro _ _ ⟨rfl, rfl⟩
                 refine JL.mv (.tuple #[mv_25 t95.1, .int .i64 t95.2]) ?_
                 refine JL.pur (mv_25 t95.1) (some 149) ?_
                 refine JL.pur (.int .i64 t95.2) (some 150) ?_
                 refine JL.alloc (cl_25 zv_25) fun b97 => ?_
                 refine JL.store 5 b97 0 25 (cl_25 zv_25) (cl_25 t95.1) tySize_25 ?_
                 refine JL.as (.int .i64 t95.2) ?_
                 refine JL.nil ?_
                 refine JQ.then_normal ?_
                 refine JQ.sub [(10, .pointer (some ⟨b9, 0, none⟩)), (17, .pointer (some ⟨b82, 0, none⟩)), (21, .pointer (some ⟨b84, 0, none⟩)), (25, .pointer (some ⟨b93, 0, none⟩)), (26, .int .i64 t95.2), (27, .pointer (some ⟨b97, 0, none⟩))] ?_
                 refine JQ.mask [At.box b9 25 (cl_25 zv_25), At.box b82 25 (cl_25 (mgetD m62 (⟨a5, b6⟩ : (A2 Int)) (⟨(⟨0, 0, 0⟩ : Cx), (⟨0, 0, 0⟩ : Cx), (⟨0, 0, 0⟩ : Cx), (⟨0, 0, 0⟩ : Cx)⟩ : (A4 Cx)))), At.box b84 25 (cl_25 (mgetD m62 (⟨c7, d8⟩ : (A2 Int)) (⟨(⟨0, 0, 0⟩ : Cx), (⟨0, 0, 0⟩ : Cx), (⟨0, 0, 0⟩ : Cx), (⟨0, 0, 0⟩ : Cx)⟩ : (A4 Cx)))), At.box b93 25 (cl_25 t91.1), At.box b97 25 (cl_25 t95.1)] [true, true, true, false, true, true] ?_
                 refine J.seq ?_
                 refine J.seq ?_
                 refine J.region ?_
                 refine JL.mv (.int .i64 t95.2) ?_
                 refine JL.pur (.bool (!decide (t95.2 = 0))) (some 152) ?_
                 refine JL.nil ?_
                 refine JQ.then_normal ?_
                 refine JQ.sub [(10, .pointer (some ⟨b9, 0, none⟩)), (17, .pointer (some ⟨b82, 0, none⟩)), (21, .pointer (some ⟨b84, 0, none⟩)), (25, .pointer (some ⟨b93, 0, none⟩)), (26, .int .i64 t95.2), (27, .pointer (some ⟨b97, 0, none⟩)), (152, .bool (!decide (t95.2 = 0)))] ?_
                 rcases ite_cases H0 with ⟨h98, H0⟩ | ⟨h98, H0⟩
                 · refine J.cond_true h98 ?_
                   refine J.seq ?_
                   refine J.region ?_
                   refine JL.pur (mv_25 zv_25) (some 153) ?_
                   refine JL.mv (.int .i64 t95.2) ?_
                   refine JL.store 0 b9 0 25 (cl_25 zv_25) (cl_25 zv_25) tySize_25 ?_
                   refine JL.as (.int .i64 t95.2) ?_
                   refine JL.nil ?_
                   refine JQ.then_normal ?_
                   refine JQ.sub [(10, .pointer (some ⟨b9, 0, none⟩)), (11, .int .i64 t95.2)] ?_
                   refine JQ.mask [At.box b9 25 (cl_25 zv_25)] [true, false, false, false, false] ?_
                   refine J.ret ?_
                   refine JQ.then_ret ?_
                   obtain rfl := Option.some.inj H0
                   exact JQ.done' (rs := [.cell 10 25, .tmp 11]) (vs := [.agg #[.int .i64 0, .int .i64 0, .int .i64 0, .int .i64 0, .int .i64 0, .int .i64 0, .int .i64 0, .int .i64 0, .int .i64 0, .int .i64 0, .int .i64 0, .int .i64 0], .int .i64 t95.2]) [] (.inr rfl) ⟨⟨b9, 0, _, _, by kernel_rfl, by kernel_rfl, holds_box b9 25 (cl_25 zv_25), .inl ⟨tyAgg_25, tySize_25, rfl⟩⟩, by kernel_rfl, trivial⟩ (fun _ h => Heap.to (Heap.pick [] (by decide) h)) ⟨rfl, rfl⟩
                 · refine J.cond_false h98 ?_
                   refine J.skip ?_
                   refine JQ.then_normal ?_
                   refine JQ.sub [(10, .pointer (some ⟨b9, 0, none⟩)), (17, .pointer (some ⟨b82, 0, none⟩)), (21, .pointer (some ⟨b84, 0, none⟩)), (25, .pointer (some ⟨b93, 0, none⟩)), (27, .pointer (some ⟨b97, 0, none⟩))] ?_
                   refine J.seq ?_
                   refine J.region ?_
                   refine JL.val (mv_25 (mgetD m62 (⟨a5, b6⟩ : (A2 Int)) (⟨(⟨0, 0, 0⟩ : Cx), (⟨0, 0, 0⟩ : Cx), (⟨0, 0, 0⟩ : Cx), (⟨0, 0, 0⟩ : Cx)⟩ : (A4 Cx)))) (some 155) (yields_load_boxes 1 0 (cl_25 (mgetD m62 (⟨a5, b6⟩ : (A2 Int)) (⟨(⟨0, 0, 0⟩ : Cx), (⟨0, 0, 0⟩ : Cx), (⟨0, 0, 0⟩ : Cx), (⟨0, 0, 0⟩ : Cx)⟩ : (A4 Cx)))) (holds_box b82 25 (cl_25 (mgetD m62 (⟨a5, b6⟩ : (A2 Int)) (⟨(⟨0, 0, 0⟩ : Cx), (⟨0, 0, 0⟩ : Cx), (⟨0, 0, 0⟩ : Cx), (⟨0, 0, 0⟩ : Cx)⟩ : (A4 Cx))))) tyAgg_25 tySize_25) ?_
                   refine JL.val (mv_25 t91.1) (some 156) (yields_load_boxes 3 0 (cl_25 t91.1) (holds_box b93 25 (cl_25 t91.1)) tyAgg_25 tySize_25) ?_
                   refine JL.val (mv_25 (mgetD m62 (⟨c7, d8⟩ : (A2 Int)) (⟨(⟨0, 0, 0⟩ : Cx), (⟨0, 0, 0⟩ : Cx), (⟨0, 0, 0⟩ : Cx), (⟨0, 0, 0⟩ : Cx)⟩ : (A4 Cx)))) (some 157) (yields_load_boxes 2 0 (cl_25 (mgetD m62 (⟨c7, d8⟩ : (A2 Int)) (⟨(⟨0, 0, 0⟩ : Cx), (⟨0, 0, 0⟩ : Cx), (⟨0, 0, 0⟩ : Cx), (⟨0, 0, 0⟩ : Cx)⟩ : (A4 Cx)))) (holds_box b84 25 (cl_25 (mgetD m62 (⟨c7, d8⟩ : (A2 Int)) (⟨(⟨0, 0, 0⟩ : Cx), (⟨0, 0, 0⟩ : Cx), (⟨0, 0, 0⟩ : Cx), (⟨0, 0, 0⟩ : Cx)⟩ : (A4 Cx))))) tyAgg_25 tySize_25) ?_
                   refine JL.val (mv_25 t95.1) (some 158) (yields_load_boxes 4 0 (cl_25 t95.1) (holds_box b97 25 (cl_25 t95.1)) tyAgg_25 tySize_25) ?_
                   refine JL.buildSl 25 ((flArr4 fl_Cx).kd) (([(mgetD m62 (⟨a5, b6⟩ : (A2 Int)) (⟨(⟨0, 0, 0⟩ : Cx), (⟨0, 0, 0⟩ : Cx), (⟨0, 0, 0⟩ : Cx), (⟨0, 0, 0⟩ : Cx)⟩ : (A4 Cx))), t91.1, (mgetD m62 (⟨c7, d8⟩ : (A2 Int)) (⟨(⟨0, 0, 0⟩ : Cx), (⟨0, 0, 0⟩ : Cx), (⟨0, 0, 0⟩ : Cx), (⟨0, 0, 0⟩ : Cx)⟩ : (A4 Cx))), t95.1] : List (A4 Cx)) : List (A4 Cx)) [.int .i64 ((mgetD m62 (⟨a5, b6⟩ : (A2 Int)) (⟨(⟨0, 0, 0⟩ : Cx), (⟨0, 0, 0⟩ : Cx), (⟨0, 0, 0⟩ : Cx), (⟨0, 0, 0⟩ : Cx)⟩ : (A4 Cx))).e0.Re), .int .i64 ((mgetD m62 (⟨a5, b6⟩ : (A2 Int)) (⟨(⟨0, 0, 0⟩ : Cx), (⟨0, 0, 0⟩ : Cx), (⟨0, 0, 0⟩ : Cx), (⟨0, 0, 0⟩ : Cx)⟩ : (A4 Cx))).e0.Im), .int .i64 ((mgetD m62 (⟨a5, b6⟩ : (A2 Int)) (⟨(⟨0, 0, 0⟩ : Cx), (⟨0, 0, 0⟩ : Cx), (⟨0, 0, 0⟩ : Cx), (⟨0, 0, 0⟩ : Cx)⟩ : (A4 Cx))).e0.Den), .int .i64 ((mgetD m62 (⟨a5, b6⟩ : (A2 Int)) (⟨(⟨0, 0, 0⟩ : Cx), (⟨0, 0, 0⟩ : Cx), (⟨0, 0, 0⟩ : Cx), (⟨0, 0, 0⟩ : Cx)⟩ : (A4 Cx))).e1.Re), .int .i64 ((mgetD m62 (⟨a5, b6⟩ : (A2 Int)) (⟨(⟨0, 0, 0⟩ : Cx), (⟨0, 0, 0⟩ : Cx), (⟨0, 0, 0⟩ : Cx), (⟨0, 0, 0⟩ : Cx)⟩ : (A4 Cx))).e1.Im), .int .i64 ((mgetD m62 (⟨a5, b6⟩ : (A2 Int)) (⟨(⟨0, 0, 0⟩ : Cx), (⟨0, 0, 0⟩ : Cx), (⟨0, 0, 0⟩ : Cx), (⟨0, 0, 0⟩ : Cx)⟩ : (A4 Cx))).e1.Den), .int .i64 ((mgetD m62 (⟨a5, b6⟩ : (A2 Int)) (⟨(⟨0, 0, 0⟩ : Cx), (⟨0, 0, 0⟩ : Cx), (⟨0, 0, 0⟩ : Cx), (⟨0, 0, 0⟩ : Cx)⟩ : (A4 Cx))).e2.Re), .int .i64 ((mgetD m62 (⟨a5, b6⟩ : (A2 Int)) (⟨(⟨0, 0, 0⟩ : Cx), (⟨0, 0, 0⟩ : Cx), (⟨0, 0, 0⟩ : Cx), (⟨0, 0, 0⟩ : Cx)⟩ : (A4 Cx))).e2.Im), .int .i64 ((mgetD m62 (⟨a5, b6⟩ : (A2 Int)) (⟨(⟨0, 0, 0⟩ : Cx), (⟨0, 0, 0⟩ : Cx), (⟨0, 0, 0⟩ : Cx), (⟨0, 0, 0⟩ : Cx)⟩ : (A4 Cx))).e2.Den), .int .i64 ((mgetD m62 (⟨a5, b6⟩ : (A2 Int)) (⟨(⟨0, 0, 0⟩ : Cx), (⟨0, 0, 0⟩ : Cx), (⟨0, 0, 0⟩ : Cx), (⟨0, 0, 0⟩ : Cx)⟩ : (A4 Cx))).e3.Re), .int .i64 ((mgetD m62 (⟨a5, b6⟩ : (A2 Int)) (⟨(⟨0, 0, 0⟩ : Cx), (⟨0, 0, 0⟩ : Cx), (⟨0, 0, 0⟩ : Cx), (⟨0, 0, 0⟩ : Cx)⟩ : (A4 Cx))).e3.Im), .int .i64 ((mgetD m62 (⟨a5, b6⟩ : (A2 Int)) (⟨(⟨0, 0, 0⟩ : Cx), (⟨0, 0, 0⟩ : Cx), (⟨0, 0, 0⟩ : Cx), (⟨0, 0, 0⟩ : Cx)⟩ : (A4 Cx))).e3.Den), .int .i64 t91.1.e0.Re, .int .i64 t91.1.e0.Im, .int .i64 t91.1.e0.Den, .int .i64 t91.1.e1.Re, .int .i64 t91.1.e1.Im, .int .i64 t91.1.e1.Den, .int .i64 t91.1.e2.Re, .int .i64 t91.1.e2.Im, .int .i64 t91.1.e2.Den, .int .i64 t91.1.e3.Re, .int .i64 t91.1.e3.Im, .int .i64 t91.1.e3.Den, .int .i64 ((mgetD m62 (⟨c7, d8⟩ : (A2 Int)) (⟨(⟨0, 0, 0⟩ : Cx), (⟨0, 0, 0⟩ : Cx), (⟨0, 0, 0⟩ : Cx), (⟨0, 0, 0⟩ : Cx)⟩ : (A4 Cx))).e0.Re), .int .i64 ((mgetD m62 (⟨c7, d8⟩ : (A2 Int)) (⟨(⟨0, 0, 0⟩ : Cx), (⟨0, 0, 0⟩ : Cx), (⟨0, 0, 0⟩ : Cx), (⟨0, 0, 0⟩ : Cx)⟩ : (A4 Cx))).e0.Im), .int .i64 ((mgetD m62 (⟨c7, d8⟩ : (A2 Int)) (⟨(⟨0, 0, 0⟩ : Cx), (⟨0, 0, 0⟩ : Cx), (⟨0, 0, 0⟩ : Cx), (⟨0, 0, 0⟩ : Cx)⟩ : (A4 Cx))).e0.Den), .int .i64 ((mgetD m62 (⟨c7, d8⟩ : (A2 Int)) (⟨(⟨0, 0, 0⟩ : Cx), (⟨0, 0, 0⟩ : Cx), (⟨0, 0, 0⟩ : Cx), (⟨0, 0, 0⟩ : Cx)⟩ : (A4 Cx))).e1.Re), .int .i64 ((mgetD m62 (⟨c7, d8⟩ : (A2 Int)) (⟨(⟨0, 0, 0⟩ : Cx), (⟨0, 0, 0⟩ : Cx), (⟨0, 0, 0⟩ : Cx), (⟨0, 0, 0⟩ : Cx)⟩ : (A4 Cx))).e1.Im), .int .i64 ((mgetD m62 (⟨c7, d8⟩ : (A2 Int)) (⟨(⟨0, 0, 0⟩ : Cx), (⟨0, 0, 0⟩ : Cx), (⟨0, 0, 0⟩ : Cx), (⟨0, 0, 0⟩ : Cx)⟩ : (A4 Cx))).e1.Den), .int .i64 ((mgetD m62 (⟨c7, d8⟩ : (A2 Int)) (⟨(⟨0, 0, 0⟩ : Cx), (⟨0, 0, 0⟩ : Cx), (⟨0, 0, 0⟩ : Cx), (⟨0, 0, 0⟩ : Cx)⟩ : (A4 Cx))).e2.Re), .int .i64 ((mgetD m62 (⟨c7, d8⟩ : (A2 Int)) (⟨(⟨0, 0, 0⟩ : Cx), (⟨0, 0, 0⟩ : Cx), (⟨0, 0, 0⟩ : Cx), (⟨0, 0, 0⟩ : Cx)⟩ : (A4 Cx))).e2.Im), .int .i64 ((mgetD m62 (⟨c7, d8⟩ : (A2 Int)) (⟨(⟨0, 0, 0⟩ : Cx), (⟨0, 0, 0⟩ : Cx), (⟨0, 0, 0⟩ : Cx), (⟨0, 0, 0⟩ : Cx)⟩ : (A4 Cx))).e2.Den), .int .i64 ((mgetD m62 (⟨c7, d8⟩ : (A2 Int)) (⟨(⟨0, 0, 0⟩ : Cx), (⟨0, 0, 0⟩ : Cx), (⟨0, 0, 0⟩ : Cx), (⟨0, 0, 0⟩ : Cx)⟩ : (A4 Cx))).e3.Re), .int .i64 ((mgetD m62 (⟨c7, d8⟩ : (A2 Int)) (⟨(⟨0, 0, 0⟩ : Cx), (⟨0, 0, 0⟩ : Cx), (⟨0, 0, 0⟩ : Cx), (⟨0, 0, 0⟩ : Cx)⟩ : (A4 Cx))).e3.Im), .int .i64 ((mgetD m62 (⟨c7, d8⟩ : (A2 Int)) (⟨(⟨0, 0, 0⟩ : Cx), (⟨0, 0, 0⟩ : Cx), (⟨0, 0, 0⟩ : Cx), (⟨0, 0, 0⟩ : Cx)⟩ : (A4 Cx))).e3.Den), .int .i64 t95.1.e0.Re, .int .i64 t95.1.e0.Im, .int .i64 t95.1.e0.Den, .int .i64 t95.1.e1.Re, .int .i64 t95.1.e1.Im, .int .i64 t95.1.e1.Den, .int .i64 t95.1.e2.Re, .int .i64 t95.1.e2.Im, .int .i64 t95.1.e2.Den, .int .i64 t95.1.e3.Re, .int .i64 t95.1.e3.Im, .int .i64 t95.1.e3.Den] false (closes_fl rfl) fun b99 => ?_
                   obtain ⟨t100, hc101, H0⟩ := bind_some H0
                   refine JL.call [] [] [] (jones_product.ok ([(mgetD m62 (⟨a5, b6⟩ : (A2 Int)) (⟨(⟨0, 0, 0⟩ : Cx), (⟨0, 0, 0⟩ : Cx), (⟨0, 0, 0⟩ : Cx), (⟨0, 0, 0⟩ : Cx)⟩ : (A4 Cx))), t91.1, (mgetD m62 (⟨c7, d8⟩ : (A2 Int)) (⟨(⟨0, 0, 0⟩ : Cx), (⟨0, 0, 0⟩ : Cx), (⟨0, 0, 0⟩ : Cx), (⟨0, 0, 0⟩ : Cx)⟩ : (A4 Cx))), t95.1] : List (A4 Cx)) (some ⟨b99, 0, none⟩) 4 _ hc101) ⟨pre_view 5 (view_row (some ⟨b99, 0, none⟩) 4 25 ((flArr4 fl_Cx).kd) ([(mgetD m62 (⟨a5, b6⟩ : (A2 Int)) (⟨(⟨0, 0, 0⟩ : Cx), (⟨0, 0, 0⟩ : Cx), (⟨0, 0, 0⟩ : Cx), (⟨0, 0, 0⟩ : Cx)⟩ : (A4 Cx))), t91.1, (mgetD m62 (⟨c7, d8⟩ : (A2 Int)) (⟨(⟨0, 0, 0⟩ : Cx), (⟨0, 0, 0⟩ : Cx), (⟨0, 0, 0⟩ : Cx), (⟨0, 0, 0⟩ : Cx)⟩ : (A4 Cx))), t95.1] : List (A4 Cx)) false true), trivial⟩ ?_
                   rintro _ _ ⟨rfl, rfl⟩
                   refine JL.pur (mv_25 t100.1) (some 161) ?_
                   refine JL.pur (.int .i64 t100.2) (some 162) ?_
                   refine JL.store 0 b9 0 25 (cl_25 zv_25) (cl_25 t100.1) tySize_25 ?_
                   refine JL.as (.int .i64 t100.2) ?_
                   refine JL.nil ?_
                   refine JQ.then_normal ?_
                   refine JQ.sub [(10, .pointer (some ⟨b9, 0, none⟩)), (11, .int .i64 t100.2)] ?_
                   refine JQ.mask [At.box b9 25 (cl_25 t100.1)] [true, false, false, false, false, false] ?_
                   refine J.ret ?_
                   obtain rfl := Option.some.inj H0
                   exact JQ.done' (rs := [.cell 10 25, .tmp 11]) (vs := [.agg #[.int .i64 t100.1.e0.Re, .int .i64 t100.1.e0.Im, .int .i64 t100.1.e0.Den, .int .i64 t100.1.e1.Re, .int .i64 t100.1.e1.Im, .int .i64 t100.1.e1.Den, .int .i64 t100.1.e2.Re, .int .i64 t100.1.e2.Im, .int .i64 t100.1.e2.Den, .int .i64 t100.1.e3.Re, .int .i64 t100.1.e3.Im, .int .i64 t100.1.e3.Den], .int .i64 t100.2]) [] (.inr rfl) ⟨⟨b9, 0, _, _, by kernel_rfl, by kernel_rfl, holds_box b9 25 (cl_25 t100.1), .inl ⟨tyAgg_25, tySize_25, rfl⟩⟩, by kernel_rfl, trivial⟩ (fun _ h => Heap.to (Heap.pick [] (by decide) h)) ⟨rfl, rfl⟩

theorem ref33_Check.ok (l1 : (List Pol)) (Aa2 : Option Addr) (c3 : Nat) (r : Int) (H0 : ref33_Check.f l1 = some r) :
    Does Try.prog 31 [.slice Aa2 l1.length c3].toArray [At.rd Aa2 c3 fl_Pol.kd l1 true] [] false (fun v Δ => v = .int .i64 r ∧ Δ = []) := by
 refine Does.body (vs := [.slice Aa2 l1.length c3]) Try.func31 rfl ⟨.inl rfl, trivial⟩ trivial fun w S => ?_
 unfold ref33_Check.f at H0
 refine J.seq ?_
 refine J.region ?_
 refine JL.as (.int .i64 0) ?_
 refine JL.nil ?_
 refine JQ.then_normal ?_
 refine JQ.sub [(0, .slice Aa2 l1.length c3)] ?_
 refine J.seq ?_
 refine J.seq ?_
 refine J.region ?_
 refine JL.mv (.slice Aa2 l1.length c3) ?_
 obtain ⟨t5, hc6, H0⟩ := bind_some H0
 refine JL.call [] [] [] (ref33_All.ok l1 Aa2 c3 8 _ hc6) ⟨pre_any 0 (view_rd Aa2 c3 fl_Pol.kd l1 true true), trivial⟩ ?_
 rintro _ _ ⟨rfl, rfl⟩
 refine JL.as (.int .i64 t5) ?_
 refine JL.nil ?_
 refine JQ.then_normal ?_
 refine JQ.sub [(0, .slice Aa2 l1.length c3), (3, .int .i64 t5)] ?_
 refine J.seq ?_
 refine J.region ?_
 refine JL.mv (.int .i64 t5) ?_
 refine JL.pur (.bool (!decide (t5 = 0))) (some 9) ?_
 refine JL.nil ?_
 refine JQ.then_normal ?_
 refine JQ.sub [(0, .slice Aa2 l1.length c3), (3, .int .i64 t5), (9, .bool (!decide (t5 = 0)))] ?_
 rcases ite_cases H0 with ⟨h7, H0⟩ | ⟨h7, H0⟩
 · refine J.cond_true h7 ?_
   refine J.seq ?_
   refine J.region ?_
   refine JL.mv (.int .i64 t5) ?_
   refine JL.as (.int .i64 t5) ?_
   refine JL.nil ?_
   refine JQ.then_normal ?_
   refine JQ.sub [(2, .int .i64 t5)] ?_
   refine JQ.mask [] [false] ?_
   refine J.ret ?_
   refine JQ.then_ret ?_
   obtain rfl := Option.some.inj H0
   exact JQ.done' (rs := [.tmp 2]) (vs := [.int .i64 t5]) [] (.inr rfl) ⟨by kernel_rfl, trivial⟩ (fun _ h => Heap.to h) ⟨rfl, rfl⟩
 · refine J.cond_false h7 ?_
   refine J.skip ?_
   refine JQ.then_normal ?_
   refine JQ.sub [(0, .slice Aa2 l1.length c3)] ?_
   refine J.seq ?_
   refine J.seq ?_
   refine J.region ?_
   refine JL.as (.int .i64 0) ?_
   refine JL.nil ?_
   refine JQ.then_normal ?_
   obtain ⟨o1, hit, H0⟩ := bind_some H0
   refine J.loop (σ := Int) (τ := Unit) (G := Unit) (G' := Unit) _ o1 (fun s g => [(0, .slice Aa2 l1.length c3), (4, .int .i64 s)]) (fun s g => [At.rd Aa2 c3 fl_Pol.kd l1 true]) (fun t => ref33_Check.k16 = some r) (fun t g => []) (fun t g => []) 0 () hit (fun _ h => Heap.to h) ?_ ?_
   · clear hit
     rintro i163 ⟨⟩ st1 H1 hb1 hr1
     replace H1 : ref33_Check.s15 l1 i163 = some st1 := H1
     unfold ref33_Check.s15 at H1
     refine JQ.sub [(0, .slice Aa2 l1.length c3), (4, .int .i64 i163)] ?_
     refine JQ.turn (Δ' := [At.rd Aa2 c3 fl_Pol.kd l1 true]) (fun _ h => h.to) ?_
     refine J.seq ?_
     refine J.seq ?_
     refine J.region ?_
     refine JL.mv (.int .i64 i163) ?_
     refine JL.mv (.slice Aa2 l1.length c3) ?_
     refine JL.pur (.int .i64 (l1.length : Int)) (some 13) ?_
     refine JL.pur (.bool (decide (i163 < (l1.length : Int)))) (some 14) ?_
     refine JL.nil ?_
     refine JQ.then_normal ?_
     refine JQ.sub [(0, .slice Aa2 l1.length c3), (4, .int .i64 i163), (14, .bool (decide (i163 < (l1.length : Int))))] ?_
     rcases ite_cases H1 with ⟨h316, H1⟩ | ⟨h316, H1⟩
     · refine J.cond_true h316 ?_
       refine J.skip ?_
       refine JQ.then_normal ?_
       refine JQ.sub [(0, .slice Aa2 l1.length c3), (4, .int .i64 i163)] ?_
       refine J.seq ?_
       refine J.block ?_
       refine J.seq ?_
       refine J.region ?_
       refine JL.as (.int .i64 0) ?_
       refine JL.nil ?_
       refine JQ.then_normal ?_
       obtain ⟨o2, hit, H1⟩ := bind_some H1
       refine J.loop (σ := Int) (τ := Unit) (G := Unit) (G' := Unit) _ o2 (fun s g => [(0, .slice Aa2 l1.length c3), (4, .int .i64 i163), (5, .int .i64 s)]) (fun s g => [At.rd Aa2 c3 fl_Pol.kd l1 true]) (fun t => ref33_Check.k21 i163 = some st1) (fun t g => [(0, .slice Aa2 l1.length c3), (4, .int .i64 i163)]) (fun t g => [At.rd Aa2 c3 fl_Pol.kd l1 true]) 0 () hit (fun _ h => Heap.to h) ?_ ?_
       · clear hit
         rintro k393 ⟨⟩ st2 H2 hb2 hr2
         replace H2 : ref33_Check.s20 l1 i163 k393 = some st2 := H2
         unfold ref33_Check.s20 at H2
         refine JQ.sub [(0, .slice Aa2 l1.length c3), (4, .int .i64 i163), (5, .int .i64 k393)] ?_
         refine JQ.turn (Δ' := [At.rd Aa2 c3 fl_Pol.kd l1 true]) (fun _ h => h.to) ?_
         refine J.seq ?_
         refine J.seq ?_
         refine J.region ?_
         refine JL.mv (.int .i64 k393) ?_
         refine JL.mv (.int .i64 i163) ?_
         refine JL.pur (.bool (decide (k393 < i163))) (some 19) ?_
         refine JL.nil ?_
         refine JQ.then_normal ?_
         refine JQ.sub [(0, .slice Aa2 l1.length c3), (4, .int .i64 i163), (5, .int .i64 k393), (19, .bool (decide (k393 < i163)))] ?_
         rcases ite_cases H2 with ⟨h431, H2⟩ | ⟨h431, H2⟩
         · refine J.cond_true h431 ?_
           refine J.skip ?_
           refine JQ.then_normal ?_
           refine JQ.sub [(0, .slice Aa2 l1.length c3), (4, .int .i64 i163), (5, .int .i64 k393)] ?_
           refine J.seq ?_
           refine J.block ?_
           refine J.join (T := Bool) (G := Unit) (fun t => ref33_Check.k22 k393 t = some st2) (fun t g => [(0, .slice Aa2 l1.length c3), (4, .int .i64 i163), (5, .int .i64 k393), (45, .bool t)]) (fun t g => [At.rd Aa2 c3 fl_Pol.kd l1 true]) ?_ ?_
           · refine J.draw ?_
             refine QL.mv (.slice Aa2 l1.length c3) ?_
             refine QL.mv (.int .i64 i163) ?_
             obtain ⟨⟨h451, h452⟩, H2⟩ := ite_must H2
             refine QL.ixAddr 0 15 c3 .i64 (elems_rd Aa2 c3 fl_Pol.kd l1 true) Try.underlying39 tySize_57 h451 h452 fun g453 o454 hA => ?_
             subst hA
             refine QL.pur (.pointer (some ⟨g453, o454 + i163.toNat * 15, none⟩)) (some 25) ?_
             refine QL.val (.int .i64 ((ix l1 i163).I)) (some 26) (gives_loadEl (f := fl_Pol) 0 0 i163 (elems_rd (some ⟨g453, o454, none⟩) c3 fl_Pol.kd l1 true) h451 h452 tySize_3 (.inr ⟨tyAgg_3, rfl, rfl⟩)) ?_
             refine QL.mv (.slice (some ⟨g453, o454, none⟩) l1.length c3) ?_
             refine QL.mv (.int .i64 k393) ?_
             obtain ⟨⟨h455, h456⟩, H2⟩ := ite_must H2
             refine QL.ixAddr' 0 15 c3 .i64 (elems_rd (some ⟨g453, o454, none⟩) c3 fl_Pol.kd l1 true) Try.underlying39 tySize_57 h455 h456 ?_
             refine QL.pur (.pointer (some ⟨g453, o454 + k393.toNat * 15, none⟩)) (some 30) ?_
             refine QL.val (.int .i64 ((ix l1 k393).I)) (some 31) (gives_loadEl (f := fl_Pol) 0 0 k393 (elems_rd (some ⟨g453, o454, none⟩) c3 fl_Pol.kd l1 true) h455 h456 tySize_3 (.inr ⟨tyAgg_3, rfl, rfl⟩)) ?_
             refine QL.pur (.bool (decide ((ix l1 i163).I = (ix l1 k393).I))) (some 32) ?_
             refine QL.mv (.bool (decide ((ix l1 i163).I = (ix l1 k393).I))) ?_
             rcases ite_cases H2 with ⟨h459, H2⟩ | ⟨h459, H2⟩
             · refine QL.on 11 33 h459 ?_
               refine QL.mv (.slice (some ⟨g453, o454, none⟩) l1.length c3) ?_
               refine QL.on 11 33 h459 ?_
               refine QL.mv (.int .i64 i163) ?_
               refine QL.on 11 33 h459 ?_
               refine QL.ixAddr' 0 15 c3 .i64 (elems_rd (some ⟨g453, o454, none⟩) c3 fl_Pol.kd l1 true) Try.underlying39 tySize_57 h451 h452 ?_
               refine QL.on 11 33 h459 ?_
               refine QL.pur (.pointer (some ⟨g453, o454 + i163.toNat * 15 + 1, none⟩)) (some 37) ?_
               refine QL.on 11 33 h459 ?_
               refine QL.val (.int .i64 ((ix l1 i163).J)) (some 38) (gives_loadEl (f := fl_Pol) 0 1 i163 (elems_rd (some ⟨g453, o454, none⟩) c3 fl_Pol.kd l1 true) h451 h452 tySize_3 (.inr ⟨tyAgg_3, rfl, rfl⟩)) ?_
               refine QL.on 11 33 h459 ?_
               refine QL.mv (.slice (some ⟨g453, o454, none⟩) l1.length c3) ?_
               refine QL.on 11 33 h459 ?_
               refine QL.mv (.int .i64 k393) ?_
               refine QL.on 11 33 h459 ?_
               refine QL.ixAddr' 0 15 c3 .i64 (elems_rd (some ⟨g453, o454, none⟩) c3 fl_Pol.kd l1 true) Try.underlying39 tySize_57 h455 h456 ?_
               refine QL.on 11 33 h459 ?_
               refine QL.pur (.pointer (some ⟨g453, o454 + k393.toNat * 15 + 1, none⟩)) (some 42) ?_
               refine QL.on 11 33 h459 ?_
               refine QL.val (.int .i64 ((ix l1 k393).J)) (some 43) (gives_loadEl (f := fl_Pol) 0 1 k393 (elems_rd (some ⟨g453, o454, none⟩) c3 fl_Pol.kd l1 true) h455 h456 tySize_3 (.inr ⟨tyAgg_3, rfl, rfl⟩)) ?_
               refine QL.on 11 33 h459 ?_
               refine QL.pur (.bool (decide ((ix l1 i163).J = (ix l1 k393).J))) (some 44) ?_
               refine QL.val (.bool (decide ((ix l1 i163).J = (ix l1 k393).J))) (some 45) (gives_pickT h459) ?_
               refine QL.nil ?_
               refine JA.nil ?_
               refine JQ.then_normal ?_
               exact JQ.meet (decide ((ix l1 i163).J = (ix l1 k393).J)) () H2 (fun _ h => Heap.to h)
             · refine QL.off 11 33 true (some 34) h459 ?_
               refine QL.off 11 33 true (some 35) h459 ?_
               refine QL.off 11 33 true (some 36) h459 ?_
               refine QL.off 11 33 true (some 37) h459 ?_
               refine QL.off 11 33 true (some 38) h459 ?_
               refine QL.off 11 33 true (some 39) h459 ?_
               refine QL.off 11 33 true (some 40) h459 ?_
               refine QL.off 11 33 true (some 41) h459 ?_
               refine QL.off 11 33 true (some 42) h459 ?_
               refine QL.off 11 33 true (some 43) h459 ?_
               refine QL.off 11 33 true (some 44) h459 ?_
               refine QL.val (.bool false) (some 45) (gives_pickF h459) ?_
               refine QL.nil ?_
               refine JA.nil ?_
               refine JQ.then_normal ?_
               exact JQ.meet false () H2 (fun _ h => Heap.to h)
           · clear H2
             rintro x449 ⟨⟩ H2
             replace H2 : ref33_Check.k22 k393 x449 = some st2 := H2
             unfold ref33_Check.k22 at H2
             refine JQ.sub [(0, .slice Aa2 l1.length c3), (4, .int .i64 i163), (5, .int .i64 k393), (45, .bool x449)] ?_
             refine JQ.turn (Δ' := [At.rd Aa2 c3 fl_Pol.kd l1 true]) (fun _ h => h.to) ?_
             rcases ite_cases H2 with ⟨h450, H2⟩ | ⟨h450, H2⟩
             · refine J.cond_true h450 ?_
               refine J.seq ?_
               refine J.region ?_
               refine JL.as (.int .i64 14) ?_
               refine JL.nil ?_
               refine JQ.then_normal ?_
               refine JQ.sub [(2, .int .i64 14)] ?_
               refine JQ.mask [] [false] ?_
               refine J.ret ?_
               refine JQ.blk_ret ?_
               refine JQ.then_ret ?_
               refine JQ.then_ret ?_
               refine JQ.blk_ret ?_
               refine JQ.met_ret ?_
               refine JQ.blk_ret ?_
               refine JQ.then_ret ?_
               refine JQ.then_ret ?_
               refine JQ.blk_ret ?_
               refine JQ.met_ret ?_
               refine JQ.then_ret ?_
               rw [hr2 _ (Option.some.inj H2).symm, fin_ret] at H1
               rw [hr1 _ (Option.some.inj H1).symm, fin_ret] at H0
               obtain rfl := Option.some.inj H0
               exact JQ.done' (rs := [.tmp 2]) (vs := [.int .i64 14]) [] (.inr rfl) ⟨by kernel_rfl, trivial⟩ (fun _ h => Heap.to h) ⟨rfl, rfl⟩
             · refine J.cond_false h450 ?_
               refine J.skip ?_
               refine JQ.blk_normal ?_
               refine JQ.then_normal ?_
               refine JQ.sub [(0, .slice Aa2 l1.length c3), (4, .int .i64 i163), (5, .int .i64 k393)] ?_
               refine J.region ?_
               refine JL.mv (.int .i64 k393) ?_
               refine JL.pur (.int .i64 (w64 (k393 + 1))) (some 21) ?_
               refine JL.as (.int .i64 (w64 (k393 + 1))) ?_
               refine JL.nil ?_
               refine JQ.then_normal ?_
               exact JQ.again (w64 (k393 + 1)) () (Option.some.inj H2).symm (fun _ h => Heap.to h)
         · refine J.cond_false h431 ?_
           refine J.exit ?_
           refine JQ.then_exit ?_
           refine JQ.then_exit ?_
           refine JQ.blk_exit ?_
           rw [hb2 _ (Option.some.inj H2).symm, fin_brk] at H1
           exact JQ.met () () H1 (fun _ h => Heap.to h)
       · clear hit H1
         rintro ⟨⟩ ⟨⟩ H1
         replace H1 : ref33_Check.k21 i163 = some st1 := H1
         unfold ref33_Check.k21 at H1
         refine JQ.sub [(0, .slice Aa2 l1.length c3), (4, .int .i64 i163)] ?_
         refine JQ.turn (Δ' := [At.rd Aa2 c3 fl_Pol.kd l1 true]) (fun _ h => h.to) ?_
         refine JQ.blk_normal ?_
         refine JQ.then_normal ?_
         refine J.region ?_
         refine JL.mv (.int .i64 i163) ?_
         refine JL.pur (.int .i64 (w64 (i163 + 1))) (some 16) ?_
         refine JL.as (.int .i64 (w64 (i163 + 1))) ?_
         refine JL.nil ?_
         refine JQ.then_normal ?_
         exact JQ.again (w64 (i163 + 1)) () (Option.some.inj H1).symm (fun _ h => Heap.to h)
     · refine J.cond_false h316 ?_
       refine J.exit ?_
       refine JQ.then_exit ?_
       refine JQ.then_exit ?_
       refine JQ.blk_exit ?_
       rw [hb1 _ (Option.some.inj H1).symm, fin_brk] at H0
       exact JQ.met () () H0 (fun _ h => Heap.to (Heap.pick [] (by decide) h))
   · clear hit H0
     rintro ⟨⟩ ⟨⟩ H0
     replace H0 : ref33_Check.k16 = some r := H0
     unfold ref33_Check.k16 at H0
     refine JQ.sub [] ?_
     refine JQ.turn (Δ' := []) (fun _ h => h.to) ?_
     refine JQ.then_normal ?_
     refine J.seq ?_
     refine J.region ?_
     refine JL.as (.int .i64 0) ?_
     refine JL.nil ?_
     refine JQ.then_normal ?_
     refine J.ret ?_
     obtain rfl := Option.some.inj H0
     exact JQ.done' (rs := [.tmp 2]) (vs := [.int .i64 0]) [] (.inr rfl) ⟨by kernel_rfl, trivial⟩ (fun _ h => Heap.to h) ⟨rfl, rfl⟩

theorem ref27_Station.ok (i1 : Int) (r : Bool) (H0 : ref27_Station.f i1 = some r) :
    Does Try.prog 59 [.int .i64 i1].toArray [] [] false (fun v Δ => v = .bool r ∧ Δ = []) := by
 refine Does.body (vs := [.int .i64 i1]) Try.func59 rfl trivial trivial fun w S => ?_
 unfold ref27_Station.f at H0
 refine J.seq ?_
 refine J.region ?_
 refine JL.as (.bool false) ?_
 refine JL.nil ?_
 refine JQ.then_normal ?_
 refine JQ.sub [(0, .int .i64 i1)] ?_
 refine J.seq ?_
 refine J.region ?_
 refine JL.mv (.int .i64 i1) ?_
 refine JL.pur (.bool (decide (0 ≤ i1))) (some 4) ?_
 refine JL.mv (.bool (decide (0 ≤ i1))) ?_
 rcases ite_cases H0 with ⟨h2, H0⟩ | ⟨h2, H0⟩
 · refine JL.on 2 5 h2 ?_
   refine JL.mv (.int .i64 i1) ?_
   refine JL.on 2 5 h2 ?_
   refine JL.pur (.bool (decide (i1 < 8))) (some 7) ?_
   refine JL.val (.bool (decide (i1 < 8))) (some 8) (gives_pickT h2) ?_
   refine JL.as (.bool (decide (i1 < 8))) ?_
   refine JL.nil ?_
   refine JQ.then_normal ?_
   refine JQ.sub [(2, .bool (decide (i1 < 8)))] ?_
   refine J.ret ?_
   obtain rfl := Option.some.inj H0
   exact JQ.done' (rs := [.tmp 2]) (vs := [.bool (decide (i1 < 8))]) [] (.inr rfl) ⟨by kernel_rfl, trivial⟩ (fun _ h => Heap.to h) ⟨rfl, rfl⟩
 · refine JL.off 2 5 true (some 6) h2 ?_
   refine JL.off 2 5 true (some 7) h2 ?_
   refine JL.val (.bool false) (some 8) (gives_pickF h2) ?_
   refine JL.as (.bool false) ?_
   refine JL.nil ?_
   refine JQ.then_normal ?_
   refine JQ.sub [(2, .bool false)] ?_
   refine J.ret ?_
   obtain rfl := Option.some.inj H0
   exact JQ.done' (rs := [.tmp 2]) (vs := [.bool false]) [] (.inr rfl) ⟨by kernel_rfl, trivial⟩ (fun _ h => Heap.to h) ⟨rfl, rfl⟩

theorem ref27_Apart.ok (l1 : (List Int)) (Aa2 : Option Addr) (c3 : Nat) (r : Bool) (H0 : ref27_Apart.f l1 = some r) :
    Does Try.prog 32 [.slice Aa2 l1.length c3].toArray [At.rd Aa2 c3 ((flInt .i64).kd) l1 true] [] false (fun v Δ => v = .bool r ∧ Δ = []) := by
 refine Does.body (vs := [.slice Aa2 l1.length c3]) Try.func32 rfl ⟨.inl rfl, trivial⟩ trivial fun w S => ?_
 unfold ref27_Apart.f at H0
 refine J.seq ?_
 refine J.region ?_
 refine JL.as (.bool false) ?_
 refine JL.nil ?_
 refine JQ.then_normal ?_
 refine JQ.sub [(0, .slice Aa2 l1.length c3)] ?_
 refine J.seq ?_
 refine J.seq ?_
 refine J.region ?_
 refine JL.as (.int .i64 0) ?_
 refine JL.nil ?_
 refine JQ.then_normal ?_
 obtain ⟨o1, hit, H0⟩ := bind_some H0
 refine J.loop (σ := Int) (τ := Unit) (G := ((Option Addr) × Nat)) (G' := Unit) _ o1 (fun s g => [(0, .slice g.1 l1.length g.2), (3, .int .i64 s)]) (fun s g => [At.rd g.1 g.2 ((flInt .i64).kd) l1 true]) (fun t => ref27_Apart.k8 = some r) (fun t g => []) (fun t g => []) 0 (Aa2, c3) hit (fun _ h => Heap.to h) ?_ ?_
 · clear hit
   rintro i75 ⟨Aa72, c73⟩ st1 H1 hb1 hr1
   replace H1 : ref27_Apart.s7 l1 i75 = some st1 := H1
   unfold ref27_Apart.s7 at H1
   refine JQ.sub [(0, .slice Aa72 l1.length c73), (3, .int .i64 i75)] ?_
   refine JQ.turn (Δ' := [At.rd Aa72 c73 ((flInt .i64).kd) l1 true]) (fun _ h => h.to) ?_
   refine J.seq ?_
   refine J.seq ?_
   refine J.region ?_
   refine JL.mv (.int .i64 i75) ?_
   refine JL.mv (.slice Aa72 l1.length c73) ?_
   refine JL.pur (.int .i64 (l1.length : Int)) (some 7) ?_
   refine JL.pur (.bool (decide (i75 < (l1.length : Int)))) (some 8) ?_
   refine JL.nil ?_
   refine JQ.then_normal ?_
   refine JQ.sub [(0, .slice Aa72 l1.length c73), (3, .int .i64 i75), (8, .bool (decide (i75 < (l1.length : Int))))] ?_
   rcases ite_cases H1 with ⟨h127, H1⟩ | ⟨h127, H1⟩
   · refine J.cond_true h127 ?_
     refine J.skip ?_
     refine JQ.then_normal ?_
     refine JQ.sub [(0, .slice Aa72 l1.length c73), (3, .int .i64 i75)] ?_
     refine J.seq ?_
     refine J.block ?_
     refine J.seq ?_
     refine J.seq ?_
     refine J.region ?_
     refine JL.mv (.slice Aa72 l1.length c73) ?_
     refine JL.mv (.int .i64 i75) ?_
     obtain ⟨⟨h128, h129⟩, H1⟩ := ite_must H1
     refine JL.ixAddr 0 1 c73 .i64 (elems_rd Aa72 c73 ((flInt .i64).kd) l1 true) Try.underlying60 tySize_3 h128 h129 fun g130 o131 hA => ?_
     subst hA
     refine JL.val (.int .i64 (ix l1 i75)) (some 14) (gives_loadEl (f := (flInt .i64)) 0 0 i75 (elems_rd (some ⟨g130, o131, none⟩) c73 ((flInt .i64).kd) l1 true) h128 h129 tySize_3 (.inr ⟨tyAgg_3, rfl, rfl⟩)) ?_
     obtain ⟨t132, hc133, H1⟩ := bind_some H1
     refine JL.call [] [] [] (ref27_Station.ok (ix l1 i75) _ hc133) trivial ?_
     rintro _ _ ⟨rfl, rfl⟩
     refine JL.pur (.bool (!t132)) (some 16) ?_
     refine JL.nil ?_
     refine JQ.then_normal ?_
     refine JQ.sub [(0, .slice (some ⟨g130, o131, none⟩) l1.length c73), (3, .int .i64 i75), (16, .bool (!t132))] ?_
     rcases ite_cases H1 with ⟨h134, H1⟩ | ⟨h134, H1⟩
     · refine J.cond_true h134 ?_
       refine J.seq ?_
       refine J.region ?_
       refine JL.as (.bool false) ?_
       refine JL.nil ?_
       refine JQ.then_normal ?_
       refine JQ.sub [(2, .bool false)] ?_
       refine JQ.mask [] [false] ?_
       refine J.ret ?_
       refine JQ.then_ret ?_
       refine JQ.blk_ret ?_
       refine JQ.then_ret ?_
       refine JQ.then_ret ?_
       refine JQ.blk_ret ?_
       refine JQ.met_ret ?_
       refine JQ.then_ret ?_
       rw [hr1 _ (Option.some.inj H1).symm, fin_ret] at H0
       obtain rfl := Option.some.inj H0
       exact JQ.done' (rs := [.tmp 2]) (vs := [.bool false]) [] (.inr rfl) ⟨by kernel_rfl, trivial⟩ (fun _ h => Heap.to h) ⟨rfl, rfl⟩
     · refine J.cond_false h134 ?_
       refine J.skip ?_
       refine JQ.then_normal ?_
       refine JQ.sub [(0, .slice (some ⟨g130, o131, none⟩) l1.length c73), (3, .int .i64 i75)] ?_
       refine J.seq ?_
       refine J.region ?_
       refine JL.as (.int .i64 0) ?_
       refine JL.nil ?_
       refine JQ.then_normal ?_
       obtain ⟨o2, hit, H1⟩ := bind_some H1
       refine J.loop (σ := Int) (τ := Unit) (G := Unit) (G' := Unit) _ o2 (fun s g => [(0, .slice (some ⟨g130, o131, none⟩) l1.length c73), (3, .int .i64 i75), (4, .int .i64 s)]) (fun s g => [At.rd (some ⟨g130, o131, none⟩) c73 ((flInt .i64).kd) l1 true]) (fun t => ref27_Apart.k10 i75 = some st1) (fun t g => [(0, .slice (some ⟨g130, o131, none⟩) l1.length c73), (3, .int .i64 i75)]) (fun t g => [At.rd (some ⟨g130, o131, none⟩) c73 ((flInt .i64).kd) l1 true]) 0 () hit (fun _ h => Heap.to h) ?_ ?_
       · clear hit
         rintro k157 ⟨⟩ st2 H2 hb2 hr2
         replace H2 : ref27_Apart.s9 l1 i75 k157 = some st2 := H2
         unfold ref27_Apart.s9 at H2
         refine JQ.sub [(0, .slice (some ⟨g130, o131, none⟩) l1.length c73), (3, .int .i64 i75), (4, .int .i64 k157)] ?_
         refine JQ.turn (Δ' := [At.rd (some ⟨g130, o131, none⟩) c73 ((flInt .i64).kd) l1 true]) (fun _ h => h.to) ?_
         refine J.seq ?_
         refine J.seq ?_
         refine J.region ?_
         refine JL.mv (.int .i64 k157) ?_
         refine JL.mv (.int .i64 i75) ?_
         refine JL.pur (.bool (decide (k157 < i75))) (some 19) ?_
         refine JL.nil ?_
         refine JQ.then_normal ?_
         refine JQ.sub [(0, .slice (some ⟨g130, o131, none⟩) l1.length c73), (3, .int .i64 i75), (4, .int .i64 k157), (19, .bool (decide (k157 < i75)))] ?_
         rcases ite_cases H2 with ⟨h168, H2⟩ | ⟨h168, H2⟩
         · refine J.cond_true h168 ?_
           refine J.skip ?_
           refine JQ.then_normal ?_
           refine JQ.sub [(0, .slice (some ⟨g130, o131, none⟩) l1.length c73), (3, .int .i64 i75), (4, .int .i64 k157)] ?_
           refine J.seq ?_
           refine J.block ?_
           refine J.seq ?_
           refine J.draw ?_
           refine QL.mv (.slice (some ⟨g130, o131, none⟩) l1.length c73) ?_
           refine QL.mv (.int .i64 k157) ?_
           obtain ⟨⟨h169, h170⟩, H2⟩ := ite_must H2
           refine QL.ixAddr' 0 1 c73 .i64 (elems_rd (some ⟨g130, o131, none⟩) c73 ((flInt .i64).kd) l1 true) Try.underlying60 tySize_3 h169 h170 ?_
           refine QL.val (.int .i64 (ix l1 k157)) (some 25) (gives_loadEl (f := (flInt .i64)) 0 0 k157 (elems_rd (some ⟨g130, o131, none⟩) c73 ((flInt .i64).kd) l1 true) h169 h170 tySize_3 (.inr ⟨tyAgg_3, rfl, rfl⟩)) ?_
           refine QL.mv (.slice (some ⟨g130, o131, none⟩) l1.length c73) ?_
           refine QL.mv (.int .i64 i75) ?_
           obtain ⟨⟨h173, h174⟩, H2⟩ := ite_must H2
           refine QL.ixAddr' 0 1 c73 .i64 (elems_rd (some ⟨g130, o131, none⟩) c73 ((flInt .i64).kd) l1 true) Try.underlying60 tySize_3 h173 h174 ?_
           refine QL.val (.int .i64 (ix l1 i75)) (some 29) (gives_loadEl (f := (flInt .i64)) 0 0 i75 (elems_rd (some ⟨g130, o131, none⟩) c73 ((flInt .i64).kd) l1 true) h173 h174 tySize_3 (.inr ⟨tyAgg_3, rfl, rfl⟩)) ?_
           refine QL.pur (.bool (decide ((ix l1 k157) = (ix l1 i75)))) (some 30) ?_
           refine QL.nil ?_
           refine JA.nil ?_
           refine JQ.then_normal ?_
           refine JQ.sub [(0, .slice (some ⟨g130, o131, none⟩) l1.length c73), (3, .int .i64 i75), (4, .int .i64 k157), (30, .bool (decide ((ix l1 k157) = (ix l1 i75))))] ?_
           rcases ite_cases H2 with ⟨h177, H2⟩ | ⟨h177, H2⟩
           · refine J.cond_true h177 ?_
             refine J.seq ?_
             refine J.region ?_
             refine JL.as (.bool false) ?_
             refine JL.nil ?_
             refine JQ.then_normal ?_
             refine JQ.sub [(2, .bool false)] ?_
             refine JQ.mask [] [false] ?_
             refine J.ret ?_
             refine JQ.blk_ret ?_
             refine JQ.then_ret ?_
             refine JQ.then_ret ?_
             refine JQ.blk_ret ?_
             refine JQ.met_ret ?_
             refine JQ.blk_ret ?_
             refine JQ.then_ret ?_
             refine JQ.then_ret ?_
             refine JQ.blk_ret ?_
             refine JQ.met_ret ?_
             refine JQ.then_ret ?_
             rw [hr2 _ (Option.some.inj H2).symm, fin_ret] at H1
             rw [hr1 _ (Option.some.inj H1).symm, fin_ret] at H0
             obtain rfl := Option.some.inj H0
             exact JQ.done' (rs := [.tmp 2]) (vs := [.bool false]) [] (.inr rfl) ⟨by kernel_rfl, trivial⟩ (fun _ h => Heap.to h) ⟨rfl, rfl⟩
           · refine J.cond_false h177 ?_
             refine J.skip ?_
             refine JQ.blk_normal ?_
             refine JQ.then_normal ?_
             refine JQ.sub [(0, .slice (some ⟨g130, o131, none⟩) l1.length c73), (3, .int .i64 i75), (4, .int .i64 k157)] ?_
             refine J.region ?_
             refine JL.mv (.int .i64 k157) ?_
             refine JL.pur (.int .i64 (w64 (k157 + 1))) (some 21) ?_
             refine JL.as (.int .i64 (w64 (k157 + 1))) ?_
             refine JL.nil ?_
             refine JQ.then_normal ?_
             exact JQ.again (w64 (k157 + 1)) () (Option.some.inj H2).symm (fun _ h => Heap.to h)
         · refine J.cond_false h168 ?_
           refine J.exit ?_
           refine JQ.then_exit ?_
           refine JQ.then_exit ?_
           refine JQ.blk_exit ?_
           rw [hb2 _ (Option.some.inj H2).symm, fin_brk] at H1
           exact JQ.met () () H1 (fun _ h => Heap.to h)
       · clear hit H1
         rintro ⟨⟩ ⟨⟩ H1
         replace H1 : ref27_Apart.k10 i75 = some st1 := H1
         unfold ref27_Apart.k10 at H1
         refine JQ.sub [(0, .slice (some ⟨g130, o131, none⟩) l1.length c73), (3, .int .i64 i75)] ?_
         refine JQ.turn (Δ' := [At.rd (some ⟨g130, o131, none⟩) c73 ((flInt .i64).kd) l1 true]) (fun _ h => h.to) ?_
         refine JQ.blk_normal ?_
         refine JQ.then_normal ?_
         refine J.region ?_
         refine JL.mv (.int .i64 i75) ?_
         refine JL.pur (.int .i64 (w64 (i75 + 1))) (some 10) ?_
         refine JL.as (.int .i64 (w64 (i75 + 1))) ?_
         refine JL.nil ?_
         refine JQ.then_normal ?_
         exact JQ.again (w64 (i75 + 1)) ((some ⟨g130, o131, none⟩), c73) (Option.some.inj H1).symm (fun _ h => Heap.to h)
   · refine J.cond_false h127 ?_
     refine J.exit ?_
     refine JQ.then_exit ?_
     refine JQ.then_exit ?_
     refine JQ.blk_exit ?_
     rw [hb1 _ (Option.some.inj H1).symm, fin_brk] at H0
     exact JQ.met () () H0 (fun _ h => Heap.to (Heap.pick [] (by decide) h))
 · clear hit H0
   rintro ⟨⟩ ⟨⟩ H0
   replace H0 : ref27_Apart.k8 = some r := H0
   unfold ref27_Apart.k8 at H0
   refine JQ.sub [] ?_
   refine JQ.turn (Δ' := []) (fun _ h => h.to) ?_
   refine JQ.then_normal ?_
   refine J.seq ?_
   refine J.region ?_
   refine JL.as (.bool true) ?_
   refine JL.nil ?_
   refine JQ.then_normal ?_
   refine J.ret ?_
   obtain rfl := Option.some.inj H0
   exact JQ.done' (rs := [.tmp 2]) (vs := [.bool true]) [] (.inr rfl) ⟨by kernel_rfl, trivial⟩ (fun _ h => Heap.to h) ⟨rfl, rfl⟩

theorem ref33_got.ok (l1 : (List Pol)) (Aa2 : Option Addr) (c3 : Nat) (i5 : Int) (j6 : Int) (r : ((A4 Cx) × Bool)) (H0 : ref33_got.f l1 i5 j6 = some r) :
    Does Try.prog 58 [.slice Aa2 l1.length c3, .int .i64 i5, .int .i64 j6].toArray [At.rd Aa2 c3 fl_Pol.kd l1 true] [] false (fun v Δ => v = .tuple #[mv_25 r.1, .bool r.2] ∧ Δ = []) := by
 refine Does.body (vs := [.slice Aa2 l1.length c3, .int .i64 i5, .int .i64 j6]) Try.func58 rfl ⟨.inl rfl, trivial⟩ trivial fun w S => ?_
 unfold ref33_got.f at H0
 refine J.seq ?_
 refine J.region ?_
 refine JL.alloc (cl_25 zv_25) fun b7 => ?_
 refine JL.as (.bool false) ?_
 refine JL.nil ?_
 refine JQ.then_normal ?_
 refine JQ.sub [(0, .slice Aa2 l1.length c3), (1, .int .i64 i5), (2, .int .i64 j6), (6, .pointer (some ⟨b7, 0, none⟩))] ?_
 refine J.seq ?_
 refine J.seq ?_
 refine J.region ?_
 refine JL.as (.int .i64 0) ?_
 refine JL.nil ?_
 refine JQ.then_normal ?_
 obtain ⟨o1, hit, H0⟩ := bind_some H0
 refine J.loop (σ := Int) (τ := Unit) (G := Unit) (G' := Unit) _ o1 (fun s g => [(0, .slice Aa2 l1.length c3), (1, .int .i64 i5), (2, .int .i64 j6), (6, .pointer (some ⟨b7, 0, none⟩)), (8, .int .i64 s)]) (fun s g => [At.rd Aa2 c3 fl_Pol.kd l1 true, At.box b7 25 (cl_25 zv_25)]) (fun t => ref33_got.k8 = some r) (fun t g => [(6, .pointer (some ⟨b7, 0, none⟩))]) (fun t g => [At.box b7 25 (cl_25 zv_25)]) 0 () hit (fun _ h => Heap.to h) ?_ ?_
 · clear hit
   rintro k112 ⟨⟩ st1 H1 hb1 hr1
   replace H1 : ref33_got.s7 l1 i5 j6 k112 = some st1 := H1
   unfold ref33_got.s7 at H1
   refine JQ.sub [(0, .slice Aa2 l1.length c3), (1, .int .i64 i5), (2, .int .i64 j6), (6, .pointer (some ⟨b7, 0, none⟩)), (8, .int .i64 k112)] ?_
   refine JQ.turn (Δ' := [At.rd Aa2 c3 fl_Pol.kd l1 true, At.box b7 25 (cl_25 zv_25)]) (fun _ h => h.to) ?_
   refine J.seq ?_
   refine J.seq ?_
   refine J.region ?_
   refine JL.mv (.int .i64 k112) ?_
   refine JL.mv (.slice Aa2 l1.length c3) ?_
   refine JL.pur (.int .i64 (l1.length : Int)) (some 11) ?_
   refine JL.pur (.bool (decide (k112 < (l1.length : Int)))) (some 12) ?_
   refine JL.nil ?_
   refine JQ.then_normal ?_
   refine JQ.sub [(0, .slice Aa2 l1.length c3), (1, .int .i64 i5), (2, .int .i64 j6), (6, .pointer (some ⟨b7, 0, none⟩)), (8, .int .i64 k112), (12, .bool (decide (k112 < (l1.length : Int))))] ?_
   rcases ite_cases H1 with ⟨h164, H1⟩ | ⟨h164, H1⟩
   · refine J.cond_true h164 ?_
     refine J.skip ?_
     refine JQ.then_normal ?_
     refine JQ.sub [(0, .slice Aa2 l1.length c3), (1, .int .i64 i5), (2, .int .i64 j6), (6, .pointer (some ⟨b7, 0, none⟩)), (8, .int .i64 k112)] ?_
     refine J.seq ?_
     refine J.block ?_
     refine J.seq ?_
     refine J.join (T := Bool) (G := Unit) (fun t => ref33_got.k9 l1 i5 j6 k112 t = some st1) (fun t g => [(0, .slice Aa2 l1.length c3), (1, .int .i64 i5), (2, .int .i64 j6), (6, .pointer (some ⟨b7, 0, none⟩)), (8, .int .i64 k112), (30, .bool t)]) (fun t g => [At.rd Aa2 c3 fl_Pol.kd l1 true, At.box b7 25 (cl_25 zv_25)]) ?_ ?_
     · refine J.region ?_
       refine JL.mv (.slice Aa2 l1.length c3) ?_
       refine JL.mv (.int .i64 k112) ?_
       obtain ⟨⟨h206, h207⟩, H1⟩ := ite_must H1
       refine JL.ixAddr 0 15 c3 .i64 (elems_rd Aa2 c3 fl_Pol.kd l1 true) Try.underlying39 tySize_57 h206 h207 fun g208 o209 hA => ?_
       subst hA
       refine JL.pur (.pointer (some ⟨g208, o209 + k112.toNat * 15, none⟩)) (some 18) ?_
       refine JL.val (.int .i64 ((ix l1 k112).I)) (some 19) (gives_loadEl (f := fl_Pol) 0 0 k112 (elems_rd (some ⟨g208, o209, none⟩) c3 fl_Pol.kd l1 true) h206 h207 tySize_3 (.inr ⟨tyAgg_3, rfl, rfl⟩)) ?_
       refine JL.mv (.int .i64 i5) ?_
       refine JL.pur (.bool (decide ((ix l1 k112).I = i5))) (some 21) ?_
       refine JL.mv (.bool (decide ((ix l1 k112).I = i5))) ?_
       rcases ite_cases H1 with ⟨h210, H1⟩ | ⟨h210, H1⟩
       · refine JL.on 7 22 h210 ?_
         refine JL.mv (.slice (some ⟨g208, o209, none⟩) l1.length c3) ?_
         refine JL.on 7 22 h210 ?_
         refine JL.mv (.int .i64 k112) ?_
         refine JL.on 7 22 h210 ?_
         refine JL.ixAddr' 0 15 c3 .i64 (elems_rd (some ⟨g208, o209, none⟩) c3 fl_Pol.kd l1 true) Try.underlying39 tySize_57 h206 h207 ?_
         refine JL.on 7 22 h210 ?_
         refine JL.pur (.pointer (some ⟨g208, o209 + k112.toNat * 15 + 1, none⟩)) (some 26) ?_
         refine JL.on 7 22 h210 ?_
         refine JL.val (.int .i64 ((ix l1 k112).J)) (some 27) (gives_loadEl (f := fl_Pol) 0 1 k112 (elems_rd (some ⟨g208, o209, none⟩) c3 fl_Pol.kd l1 true) h206 h207 tySize_3 (.inr ⟨tyAgg_3, rfl, rfl⟩)) ?_
         refine JL.on 7 22 h210 ?_
         refine JL.mv (.int .i64 j6) ?_
         refine JL.on 7 22 h210 ?_
         refine JL.pur (.bool (decide ((ix l1 k112).J = j6))) (some 29) ?_
         refine JL.val (.bool (decide ((ix l1 k112).J = j6))) (some 30) (gives_pickT h210) ?_
         refine JL.nil ?_
         refine JQ.then_normal ?_
         exact JQ.meet (decide ((ix l1 k112).J = j6)) () H1 (fun _ h => Heap.to h)
       · refine JL.off 7 22 true (some 23) h210 ?_
         refine JL.off 7 22 true (some 24) h210 ?_
         refine JL.off 7 22 true (some 25) h210 ?_
         refine JL.off 7 22 true (some 26) h210 ?_
         refine JL.off 7 22 true (some 27) h210 ?_
         refine JL.off 7 22 true (some 28) h210 ?_
         refine JL.off 7 22 true (some 29) h210 ?_
         refine JL.val (.bool false) (some 30) (gives_pickF h210) ?_
         refine JL.nil ?_
         refine JQ.then_normal ?_
         exact JQ.meet false () H1 (fun _ h => Heap.to h)
     · clear H1
       rintro x174 ⟨⟩ H1
       replace H1 : ref33_got.k9 l1 i5 j6 k112 x174 = some st1 := H1
       unfold ref33_got.k9 at H1
       refine JQ.sub [(0, .slice Aa2 l1.length c3), (1, .int .i64 i5), (2, .int .i64 j6), (6, .pointer (some ⟨b7, 0, none⟩)), (8, .int .i64 k112), (30, .bool x174)] ?_
       refine JQ.turn (Δ' := [At.rd Aa2 c3 fl_Pol.kd l1 true, At.box b7 25 (cl_25 zv_25)]) (fun _ h => h.to) ?_
       rcases ite_cases H1 with ⟨h175, H1⟩ | ⟨h175, H1⟩
       · refine J.cond_true h175 ?_
         refine J.seq ?_
         refine J.region ?_
         refine JL.mv (.slice Aa2 l1.length c3) ?_
         refine JL.mv (.int .i64 k112) ?_
         obtain ⟨⟨h176, h177⟩, H1⟩ := ite_must H1
         refine JL.ixAddr 0 15 c3 .i64 (elems_rd Aa2 c3 fl_Pol.kd l1 true) Try.underlying39 tySize_57 h176 h177 fun g178 o179 hA => ?_
         subst hA
         refine JL.pur (.pointer (some ⟨g178, o179 + k112.toNat * 15 + 2, none⟩)) (some 34) ?_
         refine JL.val (mv_25 ((ix l1 k112).V)) (some 35) (gives_loadEl (f := fl_Pol) 0 2 k112 (elems_rd (some ⟨g178, o179, none⟩) c3 fl_Pol.kd l1 true) h176 h177 tySize_25 (.inl ⟨tyAgg_25, rfl⟩)) ?_
         refine JL.store 1 b7 0 25 (cl_25 zv_25) (cl_25 ((ix l1 k112).V)) tySize_25 ?_
         refine JL.as (.bool true) ?_
         refine JL.nil ?_
         refine JQ.then_normal ?_
         refine JQ.sub [(6, .pointer (some ⟨b7, 0, none⟩)), (7, .bool true)] ?_
         refine JQ.mask [At.box b7 25 (cl_25 ((ix l1 k112).V))] [false, true] ?_
         refine J.ret ?_
         refine JQ.then_ret ?_
         refine JQ.blk_ret ?_
         refine JQ.then_ret ?_
         refine JQ.then_ret ?_
         refine JQ.blk_ret ?_
         refine JQ.met_ret ?_
         refine JQ.then_ret ?_
         rw [hr1 _ (Option.some.inj H1).symm, fin_ret] at H0
         obtain rfl := Option.some.inj H0
         exact JQ.done' (rs := [.cell 6 25, .tmp 7]) (vs := [.agg #[.int .i64 ((ix l1 k112).V.e0.Re), .int .i64 ((ix l1 k112).V.e0.Im), .int .i64 ((ix l1 k112).V.e0.Den), .int .i64 ((ix l1 k112).V.e1.Re), .int .i64 ((ix l1 k112).V.e1.Im), .int .i64 ((ix l1 k112).V.e1.Den), .int .i64 ((ix l1 k112).V.e2.Re), .int .i64 ((ix l1 k112).V.e2.Im), .int .i64 ((ix l1 k112).V.e2.Den), .int .i64 ((ix l1 k112).V.e3.Re), .int .i64 ((ix l1 k112).V.e3.Im), .int .i64 ((ix l1 k112).V.e3.Den)], .bool true]) [] (.inr rfl) ⟨⟨b7, 0, _, _, by kernel_rfl, by kernel_rfl, holds_box b7 25 (cl_25 ((ix l1 k112).V)), .inl ⟨tyAgg_25, tySize_25, rfl⟩⟩, by kernel_rfl, trivial⟩ (fun _ h => Heap.to (Heap.pick [] (by decide) h)) ⟨rfl, rfl⟩
       · refine J.cond_false h175 ?_
         refine J.skip ?_
         refine JQ.then_normal ?_
         refine JQ.sub [(0, .slice Aa2 l1.length c3), (1, .int .i64 i5), (2, .int .i64 j6), (6, .pointer (some ⟨b7, 0, none⟩)), (8, .int .i64 k112)] ?_
         refine J.join (T := Bool) (G := Unit) (fun t => ref33_got.k10 l1 k112 t = some st1) (fun t g => [(0, .slice Aa2 l1.length c3), (1, .int .i64 i5), (2, .int .i64 j6), (6, .pointer (some ⟨b7, 0, none⟩)), (8, .int .i64 k112), (51, .bool t)]) (fun t g => [At.rd Aa2 c3 fl_Pol.kd l1 true, At.box b7 25 (cl_25 zv_25)]) ?_ ?_
         · refine J.region ?_
           refine JL.mv (.slice Aa2 l1.length c3) ?_
           refine JL.mv (.int .i64 k112) ?_
           obtain ⟨⟨h197, h198⟩, H1⟩ := ite_must H1
           refine JL.ixAddr 0 15 c3 .i64 (elems_rd Aa2 c3 fl_Pol.kd l1 true) Try.underlying39 tySize_57 h197 h198 fun g199 o200 hA => ?_
           subst hA
           refine JL.pur (.pointer (some ⟨g199, o200 + k112.toNat * 15, none⟩)) (some 39) ?_
           refine JL.val (.int .i64 ((ix l1 k112).I)) (some 40) (gives_loadEl (f := fl_Pol) 0 0 k112 (elems_rd (some ⟨g199, o200, none⟩) c3 fl_Pol.kd l1 true) h197 h198 tySize_3 (.inr ⟨tyAgg_3, rfl, rfl⟩)) ?_
           refine JL.mv (.int .i64 j6) ?_
           refine JL.pur (.bool (decide ((ix l1 k112).I = j6))) (some 42) ?_
           refine JL.mv (.bool (decide ((ix l1 k112).I = j6))) ?_
           rcases ite_cases H1 with ⟨h201, H1⟩ | ⟨h201, H1⟩
           · refine JL.on 7 43 h201 ?_
             refine JL.mv (.slice (some ⟨g199, o200, none⟩) l1.length c3) ?_
             refine JL.on 7 43 h201 ?_
             refine JL.mv (.int .i64 k112) ?_
             refine JL.on 7 43 h201 ?_
             refine JL.ixAddr' 0 15 c3 .i64 (elems_rd (some ⟨g199, o200, none⟩) c3 fl_Pol.kd l1 true) Try.underlying39 tySize_57 h197 h198 ?_
             refine JL.on 7 43 h201 ?_
             refine JL.pur (.pointer (some ⟨g199, o200 + k112.toNat * 15 + 1, none⟩)) (some 47) ?_
             refine JL.on 7 43 h201 ?_
             refine JL.val (.int .i64 ((ix l1 k112).J)) (some 48) (gives_loadEl (f := fl_Pol) 0 1 k112 (elems_rd (some ⟨g199, o200, none⟩) c3 fl_Pol.kd l1 true) h197 h198 tySize_3 (.inr ⟨tyAgg_3, rfl, rfl⟩)) ?_
             refine JL.on 7 43 h201 ?_
             refine JL.mv (.int .i64 i5) ?_
             refine JL.on 7 43 h201 ?_
             refine JL.pur (.bool (decide ((ix l1 k112).J = i5))) (some 50) ?_
             refine JL.val (.bool (decide ((ix l1 k112).J = i5))) (some 51) (gives_pickT h201) ?_
             refine JL.nil ?_
             refine JQ.then_normal ?_
             exact JQ.meet (decide ((ix l1 k112).J = i5)) () H1 (fun _ h => Heap.to h)
           · refine JL.off 7 43 true (some 44) h201 ?_
             refine JL.off 7 43 true (some 45) h201 ?_
             refine JL.off 7 43 true (some 46) h201 ?_
             refine JL.off 7 43 true (some 47) h201 ?_
             refine JL.off 7 43 true (some 48) h201 ?_
             refine JL.off 7 43 true (some 49) h201 ?_
             refine JL.off 7 43 true (some 50) h201 ?_
             refine JL.val (.bool false) (some 51) (gives_pickF h201) ?_
             refine JL.nil ?_
             refine JQ.then_normal ?_
             exact JQ.meet false () H1 (fun _ h => Heap.to h)
         · clear H1
           rintro x189 ⟨⟩ H1
           replace H1 : ref33_got.k10 l1 k112 x189 = some st1 := H1
           unfold ref33_got.k10 at H1
           refine JQ.sub [(0, .slice Aa2 l1.length c3), (1, .int .i64 i5), (2, .int .i64 j6), (6, .pointer (some ⟨b7, 0, none⟩)), (8, .int .i64 k112), (51, .bool x189)] ?_
           refine JQ.turn (Δ' := [At.rd Aa2 c3 fl_Pol.kd l1 true, At.box b7 25 (cl_25 zv_25)]) (fun _ h => h.to) ?_
           rcases ite_cases H1 with ⟨h190, H1⟩ | ⟨h190, H1⟩
           · refine J.cond_true h190 ?_
             refine J.seq ?_
             refine J.region ?_
             refine JL.mv (.slice Aa2 l1.length c3) ?_
             refine JL.mv (.int .i64 k112) ?_
             obtain ⟨⟨h191, h192⟩, H1⟩ := ite_must H1
             refine JL.ixAddr 0 15 c3 .i64 (elems_rd Aa2 c3 fl_Pol.kd l1 true) Try.underlying39 tySize_57 h191 h192 fun g193 o194 hA => ?_
             subst hA
             refine JL.pur (.pointer (some ⟨g193, o194 + k112.toNat * 15 + 2, none⟩)) (some 55) ?_
             refine JL.val (mv_25 ((ix l1 k112).V)) (some 56) (gives_loadEl (f := fl_Pol) 0 2 k112 (elems_rd (some ⟨g193, o194, none⟩) c3 fl_Pol.kd l1 true) h191 h192 tySize_25 (.inl ⟨tyAgg_25, rfl⟩)) ?_
             obtain ⟨t195, hc196, H1⟩ := bind_some H1
             refine JL.call [] [] [] (ref33_adjoint.ok ((ix l1 k112).V) _ hc196) trivial ?_
             rintro _ _ ⟨rfl, rfl⟩
             refine JL.store 1 b7 0 25 (cl_25 zv_25) (cl_25 t195) tySize_25 ?_
             refine JL.as (.bool true) ?_
             refine JL.nil ?_
             refine JQ.then_normal ?_
             refine JQ.sub [(6, .pointer (some ⟨b7, 0, none⟩)), (7, .bool true)] ?_
             refine JQ.mask [At.box b7 25 (cl_25 t195)] [false, true] ?_
             refine J.ret ?_
             refine JQ.blk_ret ?_
             refine JQ.then_ret ?_
             refine JQ.then_ret ?_
             refine JQ.blk_ret ?_
             refine JQ.met_ret ?_
             refine JQ.then_ret ?_
             rw [hr1 _ (Option.some.inj H1).symm, fin_ret] at H0
             obtain rfl := Option.some.inj H0
             exact JQ.done' (rs := [.cell 6 25, .tmp 7]) (vs := [.agg #[.int .i64 t195.e0.Re, .int .i64 t195.e0.Im, .int .i64 t195.e0.Den, .int .i64 t195.e1.Re, .int .i64 t195.e1.Im, .int .i64 t195.e1.Den, .int .i64 t195.e2.Re, .int .i64 t195.e2.Im, .int .i64 t195.e2.Den, .int .i64 t195.e3.Re, .int .i64 t195.e3.Im, .int .i64 t195.e3.Den], .bool true]) [] (.inr rfl) ⟨⟨b7, 0, _, _, by kernel_rfl, by kernel_rfl, holds_box b7 25 (cl_25 t195), .inl ⟨tyAgg_25, tySize_25, rfl⟩⟩, by kernel_rfl, trivial⟩ (fun _ h => Heap.to (Heap.pick [] (by decide) h)) ⟨rfl, rfl⟩
           · refine J.cond_false h190 ?_
             refine J.skip ?_
             refine JQ.blk_normal ?_
             refine JQ.then_normal ?_
             refine JQ.sub [(0, .slice Aa2 l1.length c3), (1, .int .i64 i5), (2, .int .i64 j6), (6, .pointer (some ⟨b7, 0, none⟩)), (8, .int .i64 k112)] ?_
             refine J.region ?_
             refine JL.mv (.int .i64 k112) ?_
             refine JL.pur (.int .i64 (w64 (k112 + 1))) (some 14) ?_
             refine JL.as (.int .i64 (w64 (k112 + 1))) ?_
             refine JL.nil ?_
             refine JQ.then_normal ?_
             exact JQ.again (w64 (k112 + 1)) () (Option.some.inj H1).symm (fun _ h => Heap.to h)
   · refine J.cond_false h164 ?_
     refine J.exit ?_
     refine JQ.then_exit ?_
     refine JQ.then_exit ?_
     refine JQ.blk_exit ?_
     rw [hb1 _ (Option.some.inj H1).symm, fin_brk] at H0
     exact JQ.met () () H0 (fun _ h => Heap.to (Heap.pick [1] (by decide) h))
 · clear hit H0
   rintro ⟨⟩ ⟨⟩ H0
   replace H0 : ref33_got.k8 = some r := H0
   unfold ref33_got.k8 at H0
   refine JQ.sub [(6, .pointer (some ⟨b7, 0, none⟩))] ?_
   refine JQ.turn (Δ' := [At.box b7 25 (cl_25 zv_25)]) (fun _ h => h.to) ?_
   refine JQ.then_normal ?_
   refine J.seq ?_
   refine J.region ?_
   refine JL.pur (mv_25 zv_25) (some 58) ?_
   refine JL.store 0 b7 0 25 (cl_25 zv_25) (cl_25 zv_25) tySize_25 ?_
   refine JL.as (.bool false) ?_
   refine JL.nil ?_
   refine JQ.then_normal ?_
   refine JQ.sub [(6, .pointer (some ⟨b7, 0, none⟩)), (7, .bool false)] ?_
   refine J.ret ?_
   obtain rfl := Option.some.inj H0
   exact JQ.done' (rs := [.cell 6 25, .tmp 7]) (vs := [.agg #[.int .i64 0, .int .i64 0, .int .i64 0, .int .i64 0, .int .i64 0, .int .i64 0, .int .i64 0, .int .i64 0, .int .i64 0, .int .i64 0, .int .i64 0, .int .i64 0], .bool false]) [] (.inr rfl) ⟨⟨b7, 0, _, _, by kernel_rfl, by kernel_rfl, holds_box b7 25 (cl_25 zv_25), .inl ⟨tyAgg_25, tySize_25, rfl⟩⟩, by kernel_rfl, trivial⟩ (fun _ h => Heap.to (Heap.pick [] (by decide) h)) ⟨rfl, rfl⟩


end Go.Proofs.Ytlfmmenlkpoodaa.M
