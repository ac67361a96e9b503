import Derived.Test.YtlfmmenlkpoodaaW0
set_option linter.unusedVariables false
set_option linter.unusedSimpArgs false
set_option maxRecDepth 100000
set_option maxHeartbeats 8000000
namespace Go.Proofs.Ytlfmmenlkpoodaa.M
open Go.GW Go.Proofs

theorem ref33_Adjoint.ok (a1 : (A4 Cx)) (r : ((A4 Cx) × Int)) (H0 : ref33_Adjoint.f a1 = some r) :
    Does Try.prog 12 [.agg #[.int .i64 a1.e0.Re, .int .i64 a1.e0.Im, .int .i64 a1.e0.Den, .int .i64 a1.e1.Re, .int .i64 a1.e1.Im, .int .i64 a1.e1.Den, .int .i64 a1.e2.Re, .int .i64 a1.e2.Im, .int .i64 a1.e2.Den, .int .i64 a1.e3.Re, .int .i64 a1.e3.Im, .int .i64 a1.e3.Den]].toArray [] [] false (fun v Δ => v = .tuple #[.agg #[.int .i64 r.1.e0.Re, .int .i64 r.1.e0.Im, .int .i64 r.1.e0.Den, .int .i64 r.1.e1.Re, .int .i64 r.1.e1.Im, .int .i64 r.1.e1.Den, .int .i64 r.1.e2.Re, .int .i64 r.1.e2.Im, .int .i64 r.1.e2.Den, .int .i64 r.1.e3.Re, .int .i64 r.1.e3.Im, .int .i64 r.1.e3.Den], .int .i64 r.2] ∧ Δ = []) := by
  refine Does.body (vs := [.agg #[.int .i64 a1.e0.Re, .int .i64 a1.e0.Im, .int .i64 a1.e0.Den, .int .i64 a1.e1.Re, .int .i64 a1.e1.Im, .int .i64 a1.e1.Den, .int .i64 a1.e2.Re, .int .i64 a1.e2.Im, .int .i64 a1.e2.Den, .int .i64 a1.e3.Re, .int .i64 a1.e3.Im, .int .i64 a1.e3.Den]]) Try.func12 rfl trivial trivial fun w S => ?_
  unfold ref33_Adjoint.f at H0
  refine J.seq ?_
  refine J.region ?_
  refine JL.box [.int .i64 a1.e0.Re, .int .i64 a1.e0.Im, .int .i64 a1.e0.Den, .int .i64 a1.e1.Re, .int .i64 a1.e1.Im, .int .i64 a1.e1.Den, .int .i64 a1.e2.Re, .int .i64 a1.e2.Im, .int .i64 a1.e2.Den, .int .i64 a1.e3.Re, .int .i64 a1.e3.Im, .int .i64 a1.e3.Den] fun b2 => ?_
  refine JL.alloc [.int .i64 0, .int .i64 0, .int .i64 0, .int .i64 0, .int .i64 0, .int .i64 0, .int .i64 0, .int .i64 0, .int .i64 0, .int .i64 0, .int .i64 0, .int .i64 0] fun b3 => ?_
  refine JL.as (.int .i64 0) ?_
  refine JL.nil ?_
  refine JQ.then_normal ?_
  refine JQ.sub [(1, .pointer (some ⟨b2, 0, none⟩)), (2, .pointer (some ⟨b3, 0, none⟩))] ?_
  refine J.seq ?_
  refine J.seq ?_
  refine J.region ?_
  refine JL.val (.agg #[.int .i64 a1.e0.Re, .int .i64 a1.e0.Im, .int .i64 a1.e0.Den, .int .i64 a1.e1.Re, .int .i64 a1.e1.Im, .int .i64 a1.e1.Den, .int .i64 a1.e2.Re, .int .i64 a1.e2.Im, .int .i64 a1.e2.Den, .int .i64 a1.e3.Re, .int .i64 a1.e3.Im, .int .i64 a1.e3.Den]) (some 4) (yields_load_boxes 0 0 [.int .i64 a1.e0.Re, .int .i64 a1.e0.Im, .int .i64 a1.e0.Den, .int .i64 a1.e1.Re, .int .i64 a1.e1.Im, .int .i64 a1.e1.Den, .int .i64 a1.e2.Re, .int .i64 a1.e2.Im, .int .i64 a1.e2.Den, .int .i64 a1.e3.Re, .int .i64 a1.e3.Im, .int .i64 a1.e3.Den] (holds_box b2 25 [.int .i64 a1.e0.Re, .int .i64 a1.e0.Im, .int .i64 a1.e0.Den, .int .i64 a1.e1.Re, .int .i64 a1.e1.Im, .int .i64 a1.e1.Den, .int .i64 a1.e2.Re, .int .i64 a1.e2.Im, .int .i64 a1.e2.Den, .int .i64 a1.e3.Re, .int .i64 a1.e3.Im, .int .i64 a1.e3.Den]) tyAgg_25 tySize_25) ?_
  obtain ⟨t4, hc5, H0⟩ := bind_some H0
  refine JL.call [] [] [] (ref33_Valid.ok a1 _ hc5) trivial ?_
  rintro _ _ ⟨rfl, rfl⟩
  refine JL.pur (.bool (!t4)) (some 6) ?_
  refine JL.nil ?_
  refine JQ.then_normal ?_
  refine JQ.sub [(1, .pointer (some ⟨b2, 0, none⟩)), (2, .pointer (some ⟨b3, 0, none⟩)), (6, .bool (!t4))] ?_
  rcases ite_cases H0 with ⟨h6, H0⟩ | ⟨h6, H0⟩
  · refine J.cond_true h6 ?_
    refine J.seq ?_
    refine J.region ?_
    refine JL.pur (.agg #[.int .i64 0, .int .i64 0, .int .i64 0, .int .i64 0, .int .i64 0, .int .i64 0, .int .i64 0, .int .i64 0, .int .i64 0, .int .i64 0, .int .i64 0, .int .i64 0]) (some 7) ?_
    refine JL.store 1 b3 0 25 [.int .i64 0, .int .i64 0, .int .i64 0, .int .i64 0, .int .i64 0, .int .i64 0, .int .i64 0, .int .i64 0, .int .i64 0, .int .i64 0, .int .i64 0, .int .i64 0] [.int .i64 0, .int .i64 0, .int .i64 0, .int .i64 0, .int .i64 0, .int .i64 0, .int .i64 0, .int .i64 0, .int .i64 0, .int .i64 0, .int .i64 0, .int .i64 0] tySize_25 ?_
    refine JL.as (.int .i64 8) ?_
    refine JL.nil ?_
    refine JQ.then_normal ?_
    refine JQ.sub [(2, .pointer (some ⟨b3, 0, none⟩)), (3, .int .i64 8)] ?_
    refine JQ.mask [At.box b3 25 [.int .i64 0, .int .i64 0, .int .i64 0, .int .i64 0, .int .i64 0, .int .i64 0, .int .i64 0, .int .i64 0, .int .i64 0, .int .i64 0, .int .i64 0, .int .i64 0]] [false, true] ?_
    refine J.ret ?_
    refine JQ.then_ret ?_
    obtain rfl := Option.some.inj H0
    exact JQ.done' (rs := [.cell 2 25, .tmp 3]) (vs := [.agg #[.int .i64 0, .int .i64 0, .int .i64 0, .int .i64 0, .int .i64 0, .int .i64 0, .int .i64 0, .int .i64 0, .int .i64 0, .int .i64 0, .int .i64 0, .int .i64 0], .int .i64 8]) [] (.inr rfl) ⟨⟨b3, 0, _, _, by kernel_rfl, by kernel_rfl, holds_box b3 25 [.int .i64 0, .int .i64 0, .int .i64 0, .int .i64 0, .int .i64 0, .int .i64 0, .int .i64 0, .int .i64 0, .int .i64 0, .int .i64 0, .int .i64 0, .int .i64 0], .inl ⟨tyAgg_25, tySize_25, rfl⟩⟩, by kernel_rfl, trivial⟩ (fun _ h => Heap.to (Heap.pick [] (by decide) h)) ⟨rfl, rfl⟩
  · refine J.cond_false h6 ?_
    refine J.skip ?_
    refine JQ.then_normal ?_
    refine JQ.sub [(1, .pointer (some ⟨b2, 0, none⟩)), (2, .pointer (some ⟨b3, 0, none⟩))] ?_
    refine J.seq ?_
    refine J.region ?_
    refine JL.val (.agg #[.int .i64 a1.e0.Re, .int .i64 a1.e0.Im, .int .i64 a1.e0.Den, .int .i64 a1.e1.Re, .int .i64 a1.e1.Im, .int .i64 a1.e1.Den, .int .i64 a1.e2.Re, .int .i64 a1.e2.Im, .int .i64 a1.e2.Den, .int .i64 a1.e3.Re, .int .i64 a1.e3.Im, .int .i64 a1.e3.Den]) (some 8) (yields_load_boxes 0 0 [.int .i64 a1.e0.Re, .int .i64 a1.e0.Im, .int .i64 a1.e0.Den, .int .i64 a1.e1.Re, .int .i64 a1.e1.Im, .int .i64 a1.e1.Den, .int .i64 a1.e2.Re, .int .i64 a1.e2.Im, .int .i64 a1.e2.Den, .int .i64 a1.e3.Re, .int .i64 a1.e3.Im, .int .i64 a1.e3.Den] (holds_box b2 25 [.int .i64 a1.e0.Re, .int .i64 a1.e0.Im, .int .i64 a1.e0.Den, .int .i64 a1.e1.Re, .int .i64 a1.e1.Im, .int .i64 a1.e1.Den, .int .i64 a1.e2.Re, .int .i64 a1.e2.Im, .int .i64 a1.e2.Den, .int .i64 a1.e3.Re, .int .i64 a1.e3.Im, .int .i64 a1.e3.Den]) tyAgg_25 tySize_25) ?_
    obtain ⟨t7, hc8, H0⟩ := bind_some H0
    refine JL.call [] [] [] (ref33_adjoint.ok a1 _ hc8) trivial ?_
    rintro _ _ ⟨rfl, rfl⟩
    refine JL.store 1 b3 0 25 [.int .i64 0, .int .i64 0, .int .i64 0, .int .i64 0, .int .i64 0, .int .i64 0, .int .i64 0, .int .i64 0, .int .i64 0, .int .i64 0, .int .i64 0, .int .i64 0] [.int .i64 t7.e0.Re, .int .i64 t7.e0.Im, .int .i64 t7.e0.Den, .int .i64 t7.e1.Re, .int .i64 t7.e1.Im, .int .i64 t7.e1.Den, .int .i64 t7.e2.Re, .int .i64 t7.e2.Im, .int .i64 t7.e2.Den, .int .i64 t7.e3.Re, .int .i64 t7.e3.Im, .int .i64 t7.e3.Den] tySize_25 ?_
    refine JL.as (.int .i64 0) ?_
    refine JL.nil ?_
    refine JQ.then_normal ?_
    refine JQ.sub [(2, .pointer (some ⟨b3, 0, none⟩)), (3, .int .i64 0)] ?_
    refine JQ.mask [At.box b3 25 [.int .i64 t7.e0.Re, .int .i64 t7.e0.Im, .int .i64 t7.e0.Den, .int .i64 t7.e1.Re, .int .i64 t7.e1.Im, .int .i64 t7.e1.Den, .int .i64 t7.e2.Re, .int .i64 t7.e2.Im, .int .i64 t7.e2.Den, .int .i64 t7.e3.Re, .int .i64 t7.e3.Im, .int .i64 t7.e3.Den]] [false, true] ?_
    refine J.ret ?_
    obtain rfl := Option.some.inj H0
    exact JQ.done' (rs := [.cell 2 25, .tmp 3]) (vs := [.agg #[.int .i64 t7.e0.Re, .int .i64 t7.e0.Im, .int .i64 t7.e0.Den, .int .i64 t7.e1.Re, .int .i64 t7.e1.Im, .int .i64 t7.e1.Den, .int .i64 t7.e2.Re, .int .i64 t7.e2.Im, .int .i64 t7.e2.Den, .int .i64 t7.e3.Re, .int .i64 t7.e3.Im, .int .i64 t7.e3.Den], .int .i64 0]) [] (.inr rfl) ⟨⟨b3, 0, _, _, by kernel_rfl, by kernel_rfl, holds_box b3 25 [.int .i64 t7.e0.Re, .int .i64 t7.e0.Im, .int .i64 t7.e0.Den, .int .i64 t7.e1.Re, .int .i64 t7.e1.Im, .int .i64 t7.e1.Den, .int .i64 t7.e2.Re, .int .i64 t7.e2.Im, .int .i64 t7.e2.Den, .int .i64 t7.e3.Re, .int .i64 t7.e3.Im, .int .i64 t7.e3.Den], .inl ⟨tyAgg_25, tySize_25, rfl⟩⟩, by kernel_rfl, trivial⟩ (fun _ h => Heap.to (Heap.pick [] (by decide) h)) ⟨rfl, rfl⟩

theorem cx_Sub.ok (a1 : Cx) (b2 : Cx) (r : (Cx × Int)) (H0 : cx_Sub.f a1 b2 = some r) :
    Does Try.prog 39 [.agg #[.int .i64 a1.Re, .int .i64 a1.Im, .int .i64 a1.Den], .agg #[.int .i64 b2.Re, .int .i64 b2.Im, .int .i64 b2.Den]].toArray [] [] false (fun v Δ => v = .tuple #[.agg #[.int .i64 r.1.Re, .int .i64 r.1.Im, .int .i64 r.1.Den], .int .i64 r.2] ∧ Δ = []) := by
  refine Does.body (vs := [.agg #[.int .i64 a1.Re, .int .i64 a1.Im, .int .i64 a1.Den], .agg #[.int .i64 b2.Re, .int .i64 b2.Im, .int .i64 b2.Den]]) Try.func39 rfl trivial trivial fun w S => ?_
  unfold cx_Sub.f at H0
  refine J.seq ?_
  refine J.region ?_
  refine JL.box [.int .i64 a1.Re, .int .i64 a1.Im, .int .i64 a1.Den] fun b3 => ?_
  refine JL.box [.int .i64 b2.Re, .int .i64 b2.Im, .int .i64 b2.Den] fun b4 => ?_
  refine JL.alloc [.int .i64 0, .int .i64 0, .int .i64 0] fun b5 => ?_
  refine JL.as (.int .i64 0) ?_
  refine JL.nil ?_
  refine JQ.then_normal ?_
  refine JQ.sub [(2, .pointer (some ⟨b3, 0, none⟩)), (3, .pointer (some ⟨b4, 0, none⟩)), (4, .pointer (some ⟨b5, 0, none⟩))] ?_
  refine J.seq ?_
  refine J.seq ?_
  refine J.region ?_
  refine JL.val (.agg #[.int .i64 a1.Re, .int .i64 a1.Im, .int .i64 a1.Den]) (some 7) (yields_load_boxes 0 0 [.int .i64 a1.Re, .int .i64 a1.Im, .int .i64 a1.Den] (holds_box b3 23 [.int .i64 a1.Re, .int .i64 a1.Im, .int .i64 a1.Den]) tyAgg_23 tySize_23) ?_
  refine JL.val (.agg #[.int .i64 b2.Re, .int .i64 b2.Im, .int .i64 b2.Den]) (some 8) (yields_load_boxes 1 0 [.int .i64 b2.Re, .int .i64 b2.Im, .int .i64 b2.Den] (holds_box b4 23 [.int .i64 b2.Re, .int .i64 b2.Im, .int .i64 b2.Den]) tyAgg_23 tySize_23) ?_
  obtain ⟨t6, hc7, H0⟩ := bind_some H0
  refine JL.call [] [] [] (cx_check.ok a1 b2 _ hc7) trivial ?_
  rintro _ _ ⟨rfl, rfl⟩
  refine JL.as (.int .i64 t6) ?_
  refine JL.nil ?_
  refine JQ.then_normal ?_
  refine JQ.sub [(2, .pointer (some ⟨b3, 0, none⟩)), (3, .pointer (some ⟨b4, 0, none⟩)), (4, .pointer (some ⟨b5, 0, none⟩)), (6, .int .i64 t6)] ?_
  refine J.seq ?_
  refine J.region ?_
  refine JL.mv (.int .i64 t6) ?_
  refine JL.pur (.bool (!decide (t6 = 0))) (some 11) ?_
  refine JL.nil ?_
  refine JQ.then_normal ?_
  refine JQ.sub [(2, .pointer (some ⟨b3, 0, none⟩)), (3, .pointer (some ⟨b4, 0, none⟩)), (4, .pointer (some ⟨b5, 0, none⟩)), (6, .int .i64 t6), (11, .bool (!decide (t6 = 0)))] ?_
  rcases ite_cases H0 with ⟨h8, H0⟩ | ⟨h8, H0⟩
  · refine J.cond_true h8 ?_
    refine J.seq ?_
    refine J.region ?_
    refine JL.pur (.agg #[.int .i64 0, .int .i64 0, .int .i64 0]) (some 12) ?_
    refine JL.mv (.int .i64 t6) ?_
    refine JL.store 2 b5 0 23 [.int .i64 0, .int .i64 0, .int .i64 0] [.int .i64 0, .int .i64 0, .int .i64 0] tySize_23 ?_
    refine JL.as (.int .i64 t6) ?_
    refine JL.nil ?_
    refine JQ.then_normal ?_
    refine JQ.sub [(4, .pointer (some ⟨b5, 0, none⟩)), (5, .int .i64 t6)] ?_
    refine JQ.mask [At.box b5 23 [.int .i64 0, .int .i64 0, .int .i64 0]] [false, false, true] ?_
    refine J.ret ?_
    refine JQ.then_ret ?_
    obtain rfl := Option.some.inj H0
    exact JQ.done' (rs := [.cell 4 23, .tmp 5]) (vs := [.agg #[.int .i64 0, .int .i64 0, .int .i64 0], .int .i64 t6]) [] (.inr rfl) ⟨⟨b5, 0, _, _, by kernel_rfl, by kernel_rfl, holds_box b5 23 [.int .i64 0, .int .i64 0, .int .i64 0], .inl ⟨tyAgg_23, tySize_23, rfl⟩⟩, by kernel_rfl, trivial⟩ (fun _ h => Heap.to (Heap.pick [] (by decide) h)) ⟨rfl, rfl⟩
  · refine J.cond_false h8 ?_
    refine J.skip ?_
    refine JQ.then_normal ?_
    refine JQ.sub [(2, .pointer (some ⟨b3, 0, none⟩)), (3, .pointer (some ⟨b4, 0, none⟩)), (4, .pointer (some ⟨b5, 0, none⟩))] ?_
    refine J.seq ?_
    refine J.region ?_
    refine JL.pur (.pointer (some ⟨b3, 0, none⟩)) (some 14) ?_
    refine JL.val (.int .i64 a1.Re) (some 15) (yields_load_box 0 0 (holds_box b3 23 [.int .i64 a1.Re, .int .i64 a1.Im, .int .i64 a1.Den]) tyAgg_2) ?_
    refine JL.pur (.pointer (some ⟨b4, 2, none⟩)) (some 16) ?_
    refine JL.val (.int .i64 b2.Den) (some 17) (yields_load_box 1 2 (holds_box b4 23 [.int .i64 b2.Re, .int .i64 b2.Im, .int .i64 b2.Den]) tyAgg_2) ?_
    refine JL.pur (.int .i64 (w64 (a1.Re * b2.Den))) (some 18) ?_
    refine JL.pur (.pointer (some ⟨b4, 0, none⟩)) (some 19) ?_
    refine JL.val (.int .i64 b2.Re) (some 20) (yields_load_box 1 0 (holds_box b4 23 [.int .i64 b2.Re, .int .i64 b2.Im, .int .i64 b2.Den]) tyAgg_2) ?_
    refine JL.pur (.pointer (some ⟨b3, 2, none⟩)) (some 21) ?_
    refine JL.val (.int .i64 a1.Den) (some 22) (yields_load_box 0 2 (holds_box b3 23 [.int .i64 a1.Re, .int .i64 a1.Im, .int .i64 a1.Den]) tyAgg_2) ?_
    refine JL.pur (.int .i64 (w64 (b2.Re * a1.Den))) (some 23) ?_
    refine JL.pur (.int .i64 (w64 ((w64 (a1.Re * b2.Den)) - (w64 (b2.Re * a1.Den))))) (some 24) ?_
    refine JL.pur (.pointer (some ⟨b3, 1, none⟩)) (some 25) ?_
    refine JL.val (.int .i64 a1.Im) (some 26) (yields_load_box 0 1 (holds_box b3 23 [.int .i64 a1.Re, .int .i64 a1.Im, .int .i64 a1.Den]) tyAgg_2) ?_
    refine JL.pur (.pointer (some ⟨b4, 2, none⟩)) (some 27) ?_
    refine JL.val (.int .i64 b2.Den) (some 28) (yields_load_box 1 2 (holds_box b4 23 [.int .i64 b2.Re, .int .i64 b2.Im, .int .i64 b2.Den]) tyAgg_2) ?_
    refine JL.pur (.int .i64 (w64 (a1.Im * b2.Den))) (some 29) ?_
    refine JL.pur (.pointer (some ⟨b4, 1, none⟩)) (some 30) ?_
    refine JL.val (.int .i64 b2.Im) (some 31) (yields_load_box 1 1 (holds_box b4 23 [.int .i64 b2.Re, .int .i64 b2.Im, .int .i64 b2.Den]) tyAgg_2) ?_
    refine JL.pur (.pointer (some ⟨b3, 2, none⟩)) (some 32) ?_
    refine JL.val (.int .i64 a1.Den) (some 33) (yields_load_box 0 2 (holds_box b3 23 [.int .i64 a1.Re, .int .i64 a1.Im, .int .i64 a1.Den]) tyAgg_2) ?_
    refine JL.pur (.int .i64 (w64 (b2.Im * a1.Den))) (some 34) ?_
    refine JL.pur (.int .i64 (w64 ((w64 (a1.Im * b2.Den)) - (w64 (b2.Im * a1.Den))))) (some 35) ?_
    refine JL.pur (.pointer (some ⟨b3, 2, none⟩)) (some 36) ?_
    refine JL.val (.int .i64 a1.Den) (some 37) (yields_load_box 0 2 (holds_box b3 23 [.int .i64 a1.Re, .int .i64 a1.Im, .int .i64 a1.Den]) tyAgg_2) ?_
    refine JL.pur (.pointer (some ⟨b4, 2, none⟩)) (some 38) ?_
    refine JL.val (.int .i64 b2.Den) (some 39) (yields_load_box 1 2 (holds_box b4 23 [.int .i64 b2.Re, .int .i64 b2.Im, .int .i64 b2.Den]) tyAgg_2) ?_
    refine JL.pur (.int .i64 (w64 (a1.Den * b2.Den))) (some 40) ?_
    obtain ⟨t9, hc10, H0⟩ := bind_some H0
    refine JL.call [] [] [] (cx_reduced.ok (w64 ((w64 (a1.Re * b2.Den)) - (w64 (b2.Re * a1.Den)))) (w64 ((w64 (a1.Im * b2.Den)) - (w64 (b2.Im * a1.Den)))) (w64 (a1.Den * b2.Den)) _ hc10) trivial ?_
    rintro _ _ ⟨rfl, rfl⟩
    refine JL.pur (.agg #[.int .i64 t9.1.Re, .int .i64 t9.1.Im, .int .i64 t9.1.Den]) (some 42) ?_
    refine JL.pur (.int .i64 t9.2) (some 43) ?_
    refine JL.store 2 b5 0 23 [.int .i64 0, .int .i64 0, .int .i64 0] [.int .i64 t9.1.Re, .int .i64 t9.1.Im, .int .i64 t9.1.Den] tySize_23 ?_
    refine JL.as (.int .i64 t9.2) ?_
    refine JL.nil ?_
    refine JQ.then_normal ?_
    refine JQ.sub [(4, .pointer (some ⟨b5, 0, none⟩)), (5, .int .i64 t9.2)] ?_
    refine JQ.mask [At.box b5 23 [.int .i64 t9.1.Re, .int .i64 t9.1.Im, .int .i64 t9.1.Den]] [false, false, true] ?_
    refine J.ret ?_
    obtain rfl := Option.some.inj H0
    exact JQ.done' (rs := [.cell 4 23, .tmp 5]) (vs := [.agg #[.int .i64 t9.1.Re, .int .i64 t9.1.Im, .int .i64 t9.1.Den], .int .i64 t9.2]) [] (.inr rfl) ⟨⟨b5, 0, _, _, by kernel_rfl, by kernel_rfl, holds_box b5 23 [.int .i64 t9.1.Re, .int .i64 t9.1.Im, .int .i64 t9.1.Den], .inl ⟨tyAgg_23, tySize_23, rfl⟩⟩, by kernel_rfl, trivial⟩ (fun _ h => Heap.to (Heap.pick [] (by decide) h)) ⟨rfl, rfl⟩

theorem jones_Det.ok (a1 : (A4 Cx)) (r : (Cx × Int)) (H0 : jones_Det.f a1 = some r) :
    Does Try.prog 13 [.agg #[.int .i64 a1.e0.Re, .int .i64 a1.e0.Im, .int .i64 a1.e0.Den, .int .i64 a1.e1.Re, .int .i64 a1.e1.Im, .int .i64 a1.e1.Den, .int .i64 a1.e2.Re, .int .i64 a1.e2.Im, .int .i64 a1.e2.Den, .int .i64 a1.e3.Re, .int .i64 a1.e3.Im, .int .i64 a1.e3.Den]].toArray [] [] false (fun v Δ => v = .tuple #[.agg #[.int .i64 r.1.Re, .int .i64 r.1.Im, .int .i64 r.1.Den], .int .i64 r.2] ∧ Δ = []) := by
  refine Does.body (vs := [.agg #[.int .i64 a1.e0.Re, .int .i64 a1.e0.Im, .int .i64 a1.e0.Den, .int .i64 a1.e1.Re, .int .i64 a1.e1.Im, .int .i64 a1.e1.Den, .int .i64 a1.e2.Re, .int .i64 a1.e2.Im, .int .i64 a1.e2.Den, .int .i64 a1.e3.Re, .int .i64 a1.e3.Im, .int .i64 a1.e3.Den]]) Try.func13 rfl trivial trivial fun w S => ?_
  unfold jones_Det.f at H0
  refine J.seq ?_
  refine J.region ?_
  refine JL.box [.int .i64 a1.e0.Re, .int .i64 a1.e0.Im, .int .i64 a1.e0.Den, .int .i64 a1.e1.Re, .int .i64 a1.e1.Im, .int .i64 a1.e1.Den, .int .i64 a1.e2.Re, .int .i64 a1.e2.Im, .int .i64 a1.e2.Den, .int .i64 a1.e3.Re, .int .i64 a1.e3.Im, .int .i64 a1.e3.Den] fun b2 => ?_
  refine JL.alloc [.int .i64 0, .int .i64 0, .int .i64 0] fun b3 => ?_
  refine JL.as (.int .i64 0) ?_
  refine JL.nil ?_
  refine JQ.then_normal ?_
  refine JQ.sub [(1, .pointer (some ⟨b2, 0, none⟩)), (2, .pointer (some ⟨b3, 0, none⟩))] ?_
  refine J.seq ?_
  refine J.seq ?_
  refine J.region ?_
  refine JL.val (.agg #[.int .i64 a1.e0.Re, .int .i64 a1.e0.Im, .int .i64 a1.e0.Den, .int .i64 a1.e1.Re, .int .i64 a1.e1.Im, .int .i64 a1.e1.Den, .int .i64 a1.e2.Re, .int .i64 a1.e2.Im, .int .i64 a1.e2.Den, .int .i64 a1.e3.Re, .int .i64 a1.e3.Im, .int .i64 a1.e3.Den]) (some 9) (yields_load_boxes 0 0 [.int .i64 a1.e0.Re, .int .i64 a1.e0.Im, .int .i64 a1.e0.Den, .int .i64 a1.e1.Re, .int .i64 a1.e1.Im, .int .i64 a1.e1.Den, .int .i64 a1.e2.Re, .int .i64 a1.e2.Im, .int .i64 a1.e2.Den, .int .i64 a1.e3.Re, .int .i64 a1.e3.Im, .int .i64 a1.e3.Den] (holds_box b2 25 [.int .i64 a1.e0.Re, .int .i64 a1.e0.Im, .int .i64 a1.e0.Den, .int .i64 a1.e1.Re, .int .i64 a1.e1.Im, .int .i64 a1.e1.Den, .int .i64 a1.e2.Re, .int .i64 a1.e2.Im, .int .i64 a1.e2.Den, .int .i64 a1.e3.Re, .int .i64 a1.e3.Im, .int .i64 a1.e3.Den]) tyAgg_25 tySize_25) ?_
  obtain ⟨t4, hc5, H0⟩ := bind_some H0
  refine JL.call [] [] [] (jones_valid.ok a1 _ hc5) trivial ?_
  rintro _ _ ⟨rfl, rfl⟩
  refine JL.pur (.bool (!t4)) (some 11) ?_
  refine JL.nil ?_
  refine JQ.then_normal ?_
  refine JQ.sub [(1, .pointer (some ⟨b2, 0, none⟩)), (2, .pointer (some ⟨b3, 0, none⟩)), (11, .bool (!t4))] ?_
  rcases ite_cases H0 with ⟨h6, H0⟩ | ⟨h6, H0⟩
  · refine J.cond_true h6 ?_
    refine J.seq ?_
    refine J.region ?_
    refine JL.pur (.agg #[.int .i64 0, .int .i64 0, .int .i64 0]) (some 12) ?_
    refine JL.store 1 b3 0 23 [.int .i64 0, .int .i64 0, .int .i64 0] [.int .i64 0, .int .i64 0, .int .i64 0] tySize_23 ?_
    refine JL.as (.int .i64 8) ?_
    refine JL.nil ?_
    refine JQ.then_normal ?_
    refine JQ.sub [(2, .pointer (some ⟨b3, 0, none⟩)), (3, .int .i64 8)] ?_
    refine JQ.mask [At.box b3 23 [.int .i64 0, .int .i64 0, .int .i64 0]] [false, true] ?_
    refine J.ret ?_
    refine JQ.then_ret ?_
    obtain rfl := Option.some.inj H0
    exact JQ.done' (rs := [.cell 2 23, .tmp 3]) (vs := [.agg #[.int .i64 0, .int .i64 0, .int .i64 0], .int .i64 8]) [] (.inr rfl) ⟨⟨b3, 0, _, _, by kernel_rfl, by kernel_rfl, holds_box b3 23 [.int .i64 0, .int .i64 0, .int .i64 0], .inl ⟨tyAgg_23, tySize_23, rfl⟩⟩, by kernel_rfl, trivial⟩ (fun _ h => Heap.to (Heap.pick [] (by decide) h)) ⟨rfl, rfl⟩
  · refine J.cond_false h6 ?_
    refine J.skip ?_
    refine JQ.then_normal ?_
    refine JQ.sub [(1, .pointer (some ⟨b2, 0, none⟩)), (2, .pointer (some ⟨b3, 0, none⟩))] ?_
    refine J.seq ?_
    refine J.region ?_
    refine JL.pur (.pointer (some ⟨b2, 0, none⟩)) (some 14) ?_
    refine JL.val (.agg #[.int .i64 a1.e0.Re, .int .i64 a1.e0.Im, .int .i64 a1.e0.Den]) (some 15) (yields_load_boxes 0 0 [.int .i64 a1.e0.Re, .int .i64 a1.e0.Im, .int .i64 a1.e0.Den] (holds_box b2 25 [.int .i64 a1.e0.Re, .int .i64 a1.e0.Im, .int .i64 a1.e0.Den, .int .i64 a1.e1.Re, .int .i64 a1.e1.Im, .int .i64 a1.e1.Den, .int .i64 a1.e2.Re, .int .i64 a1.e2.Im, .int .i64 a1.e2.Den, .int .i64 a1.e3.Re, .int .i64 a1.e3.Im, .int .i64 a1.e3.Den]) tyAgg_23 tySize_23) ?_
    refine JL.pur (.pointer (some ⟨b2, 9, none⟩)) (some 16) ?_
    refine JL.val (.agg #[.int .i64 a1.e3.Re, .int .i64 a1.e3.Im, .int .i64 a1.e3.Den]) (some 17) (yields_load_boxes 0 9 [.int .i64 a1.e3.Re, .int .i64 a1.e3.Im, .int .i64 a1.e3.Den] (holds_box b2 25 [.int .i64 a1.e0.Re, .int .i64 a1.e0.Im, .int .i64 a1.e0.Den, .int .i64 a1.e1.Re, .int .i64 a1.e1.Im, .int .i64 a1.e1.Den, .int .i64 a1.e2.Re, .int .i64 a1.e2.Im, .int .i64 a1.e2.Den, .int .i64 a1.e3.Re, .int .i64 a1.e3.Im, .int .i64 a1.e3.Den]) tyAgg_23 tySize_23) ?_
    obtain ⟨t7, hc8, H0⟩ := bind_some H0
    refine JL.call [] [] [] (cx_Mul.ok a1.e0 a1.e3 _ hc8) trivial ?_
    rintro _ _ ⟨rfl, rfl⟩
    refine JL.mv (.tuple #[.agg #[.int .i64 t7.1.Re, .int .i64 t7.1.Im, .int .i64 t7.1.Den], .int .i64 t7.2]) ?_
    refine JL.pur (.agg #[.int .i64 t7.1.Re, .int .i64 t7.1.Im, .int .i64 t7.1.Den]) (some 19) ?_
    refine JL.pur (.int .i64 t7.2) (some 20) ?_
    refine JL.alloc [.int .i64 0, .int .i64 0, .int .i64 0] fun b9 => ?_
    refine JL.store 2 b9 0 23 [.int .i64 0, .int .i64 0, .int .i64 0] [.int .i64 t7.1.Re, .int .i64 t7.1.Im, .int .i64 t7.1.Den] tySize_23 ?_
    refine JL.as (.int .i64 t7.2) ?_
    refine JL.nil ?_
    refine JQ.then_normal ?_
    refine JQ.sub [(1, .pointer (some ⟨b2, 0, none⟩)), (2, .pointer (some ⟨b3, 0, none⟩)), (4, .pointer (some ⟨b9, 0, none⟩)), (5, .int .i64 t7.2)] ?_
    refine J.seq ?_
    refine J.region ?_
    refine JL.pur (.pointer (some ⟨b2, 3, none⟩)) (some 22) ?_
    refine JL.val (.agg #[.int .i64 a1.e1.Re, .int .i64 a1.e1.Im, .int .i64 a1.e1.Den]) (some 23) (yields_load_boxes 0 3 [.int .i64 a1.e1.Re, .int .i64 a1.e1.Im, .int .i64 a1.e1.Den] (holds_box b2 25 [.int .i64 a1.e0.Re, .int .i64 a1.e0.Im, .int .i64 a1.e0.Den, .int .i64 a1.e1.Re, .int .i64 a1.e1.Im, .int .i64 a1.e1.Den, .int .i64 a1.e2.Re, .int .i64 a1.e2.Im, .int .i64 a1.e2.Den, .int .i64 a1.e3.Re, .int .i64 a1.e3.Im, .int .i64 a1.e3.Den]) tyAgg_23 tySize_23) ?_
    refine JL.pur (.pointer (some ⟨b2, 6, none⟩)) (some 24) ?_
    refine JL.val (.agg #[.int .i64 a1.e2.Re, .int .i64 a1.e2.Im, .int .i64 a1.e2.Den]) (some 25) (yields_load_boxes 0 6 [.int .i64 a1.e2.Re, .int .i64 a1.e2.Im, .int .i64 a1.e2.Den] (holds_box b2 25 [.int .i64 a1.e0.Re, .int .i64 a1.e0.Im, .int .i64 a1.e0.Den, .int .i64 a1.e1.Re, .int .i64 a1.e1.Im, .int .i64 a1.e1.Den, .int .i64 a1.e2.Re, .int .i64 a1.e2.Im, .int .i64 a1.e2.Den, .int .i64 a1.e3.Re, .int .i64 a1.e3.Im, .int .i64 a1.e3.Den]) tyAgg_23 tySize_23) ?_
    obtain ⟨t10, hc11, H0⟩ := bind_some H0
    refine JL.call [] [] [] (cx_Mul.ok a1.e1 a1.e2 _ hc11) trivial ?_
    rintro _ _ ⟨rfl, rfl⟩
    refine JL.mv (.tuple #[.agg #[.int .i64 t10.1.Re, .int .i64 t10.1.Im, .int .i64 t10.1.Den], .int .i64 t10.2]) ?_
    refine JL.pur (.agg #[.int .i64 t10.1.Re, .int .i64 t10.1.Im, .int .i64 t10.1.Den]) (some 27) ?_
    refine JL.pur (.int .i64 t10.2) (some 28) ?_
    refine JL.alloc [.int .i64 0, .int .i64 0, .int .i64 0] fun b12 => ?_
    refine JL.store 3 b12 0 23 [.int .i64 0, .int .i64 0, .int .i64 0] [.int .i64 t10.1.Re, .int .i64 t10.1.Im, .int .i64 t10.1.Den] tySize_23 ?_
    refine JL.as (.int .i64 t10.2) ?_
    refine JL.nil ?_
    refine JQ.then_normal ?_
    refine JQ.sub [(2, .pointer (some ⟨b3, 0, none⟩)), (4, .pointer (some ⟨b9, 0, none⟩)), (5, .int .i64 t7.2), (6, .pointer (some ⟨b12, 0, none⟩)), (7, .int .i64 t10.2)] ?_
    refine JQ.mask [At.box b3 23 [.int .i64 0, .int .i64 0, .int .i64 0], At.box b9 23 [.int .i64 t7.1.Re, .int .i64 t7.1.Im, .int .i64 t7.1.Den], At.box b12 23 [.int .i64 t10.1.Re, .int .i64 t10.1.Im, .int .i64 t10.1.Den]] [false, true, true, true] ?_
    refine J.seq ?_
    refine J.seq ?_
    refine J.region ?_
    refine JL.mv (.int .i64 t7.2) ?_
    refine JL.mv (.int .i64 t10.2) ?_
    refine JL.buildSl 26 ((flInt .i64).kd) (([t7.2, t10.2] : List Int) : List Int) [.int .i64 t7.2, .int .i64 t10.2] false (closes_fl rfl) fun b13 => ?_
    obtain ⟨t14, hc15, H0⟩ := bind_some H0
    refine JL.call [] [] [] (cmp_Or__api_Errno.ok ([t7.2, t10.2] : List Int) (some ⟨b13, 0, none⟩) 2 _ hc15) ⟨pre_view 3 (view_row (some ⟨b13, 0, none⟩) 2 26 ((flInt .i64).kd) ([t7.2, t10.2] : List Int) false true), trivial⟩ ?_
    rintro _ _ ⟨rfl, rfl⟩
    refine JL.as (.int .i64 t14) ?_
    refine JL.nil ?_
    refine JQ.then_normal ?_
    refine JQ.sub [(2, .pointer (some ⟨b3, 0, none⟩)), (4, .pointer (some ⟨b9, 0, none⟩)), (6, .pointer (some ⟨b12, 0, none⟩)), (8, .int .i64 t14)] ?_
    refine JQ.mask [At.box b3 23 [.int .i64 0, .int .i64 0, .int .i64 0], At.box b9 23 [.int .i64 t7.1.Re, .int .i64 t7.1.Im, .int .i64 t7.1.Den], At.box b12 23 [.int .i64 t10.1.Re, .int .i64 t10.1.Im, .int .i64 t10.1.Den]] [true, true, true, false] ?_
    refine J.seq ?_
    refine J.region ?_
    refine JL.mv (.int .i64 t14) ?_
    refine JL.pur (.bool (!decide (t14 = 0))) (some 34) ?_
    refine JL.nil ?_
    refine JQ.then_normal ?_
    refine JQ.sub [(2, .pointer (some ⟨b3, 0, none⟩)), (4, .pointer (some ⟨b9, 0, none⟩)), (6, .pointer (some ⟨b12, 0, none⟩)), (8, .int .i64 t14), (34, .bool (!decide (t14 = 0)))] ?_
    rcases ite_cases H0 with ⟨h16, H0⟩ | ⟨h16, H0⟩
    · refine J.cond_true h16 ?_
      refine J.seq ?_
      refine J.region ?_
      refine JL.pur (.agg #[.int .i64 0, .int .i64 0, .int .i64 0]) (some 35) ?_
      refine JL.mv (.int .i64 t14) ?_
      refine JL.store 0 b3 0 23 [.int .i64 0, .int .i64 0, .int .i64 0] [.int .i64 0, .int .i64 0, .int .i64 0] tySize_23 ?_
      refine JL.as (.int .i64 t14) ?_
      refine JL.nil ?_
      refine JQ.then_normal ?_
      refine JQ.sub [(2, .pointer (some ⟨b3, 0, none⟩)), (3, .int .i64 t14)] ?_
      refine JQ.mask [At.box b3 23 [.int .i64 0, .int .i64 0, .int .i64 0]] [true, false, false] ?_
      refine J.ret ?_
      refine JQ.then_ret ?_
      obtain rfl := Option.some.inj H0
      exact JQ.done' (rs := [.cell 2 23, .tmp 3]) (vs := [.agg #[.int .i64 0, .int .i64 0, .int .i64 0], .int .i64 t14]) [] (.inr rfl) ⟨⟨b3, 0, _, _, by kernel_rfl, by kernel_rfl, holds_box b3 23 [.int .i64 0, .int .i64 0, .int .i64 0], .inl ⟨tyAgg_23, tySize_23, rfl⟩⟩, by kernel_rfl, trivial⟩ (fun _ h => Heap.to (Heap.pick [] (by decide) h)) ⟨rfl, rfl⟩
    · refine J.cond_false h16 ?_
      refine J.skip ?_
      refine JQ.then_normal ?_
      refine JQ.sub [(2, .pointer (some ⟨b3, 0, none⟩)), (4, .pointer (some ⟨b9, 0, none⟩)), (6, .pointer (some ⟨b12, 0, none⟩))] ?_
      refine J.seq ?_
      refine J.region ?_
      refine JL.val (.agg #[.int .i64 t7.1.Re, .int .i64 t7.1.Im, .int .i64 t7.1.Den]) (some 37) (yields_load_boxes 1 0 [.int .i64 t7.1.Re, .int .i64 t7.1.Im, .int .i64 t7.1.Den] (holds_box b9 23 [.int .i64 t7.1.Re, .int .i64 t7.1.Im, .int .i64 t7.1.Den]) tyAgg_23 tySize_23) ?_
      refine JL.val (.agg #[.int .i64 t10.1.Re, .int .i64 t10.1.Im, .int .i64 t10.1.Den]) (some 38) (yields_load_boxes 2 0 [.int .i64 t10.1.Re, .int .i64 t10.1.Im, .int .i64 t10.1.Den] (holds_box b12 23 [.int .i64 t10.1.Re, .int .i64 t10.1.Im, .int .i64 t10.1.Den]) tyAgg_23 tySize_23) ?_
      obtain ⟨t17, hc18, H0⟩ := bind_some H0
      refine JL.call [] [] [] (cx_Sub.ok t7.1 t10.1 _ hc18) trivial ?_
      rintro _ _ ⟨rfl, rfl⟩
      refine JL.pur (.agg #[.int .i64 t17.1.Re, .int .i64 t17.1.Im, .int .i64 t17.1.Den]) (some 40) ?_
      refine JL.pur (.int .i64 t17.2) (some 41) ?_
      refine JL.store 0 b3 0 23 [.int .i64 0, .int .i64 0, .int .i64 0] [.int .i64 t17.1.Re, .int .i64 t17.1.Im, .int .i64 t17.1.Den] tySize_23 ?_
      refine JL.as (.int .i64 t17.2) ?_
      refine JL.nil ?_
      refine JQ.then_normal ?_
      refine JQ.sub [(2, .pointer (some ⟨b3, 0, none⟩)), (3, .int .i64 t17.2)] ?_
      refine JQ.mask [At.box b3 23 [.int .i64 t17.1.Re, .int .i64 t17.1.Im, .int .i64 t17.1.Den]] [true, false, false] ?_
      refine J.ret ?_
      obtain rfl := Option.some.inj H0
      exact JQ.done' (rs := [.cell 2 23, .tmp 3]) (vs := [.agg #[.int .i64 t17.1.Re, .int .i64 t17.1.Im, .int .i64 t17.1.Den], .int .i64 t17.2]) [] (.inr rfl) ⟨⟨b3, 0, _, _, by kernel_rfl, by kernel_rfl, holds_box b3 23 [.int .i64 t17.1.Re, .int .i64 t17.1.Im, .int .i64 t17.1.Den], .inl ⟨tyAgg_23, tySize_23, rfl⟩⟩, by kernel_rfl, trivial⟩ (fun _ h => Heap.to (Heap.pick [] (by decide) h)) ⟨rfl, rfl⟩

theorem ref25_Neg.ok (a1 : Cx) (r : Cx) (H0 : ref25_Neg.f a1 = some r) :
    Does Try.prog 45 [.agg #[.int .i64 a1.Re, .int .i64 a1.Im, .int .i64 a1.Den]].toArray [] [] false (fun v Δ => v = .agg #[.int .i64 r.Re, .int .i64 r.Im, .int .i64 r.Den] ∧ Δ = []) := by
  refine Does.body (vs := [.agg #[.int .i64 a1.Re, .int .i64 a1.Im, .int .i64 a1.Den]]) Try.func45 rfl trivial trivial fun w S => ?_
  unfold ref25_Neg.f at H0
  refine J.seq ?_
  refine J.region ?_
  refine JL.box [.int .i64 a1.Re, .int .i64 a1.Im, .int .i64 a1.Den] fun b2 => ?_
  refine JL.alloc [.int .i64 0, .int .i64 0, .int .i64 0] fun b3 => ?_
  refine JL.nil ?_
  refine JQ.then_normal ?_
  refine JQ.sub [(1, .pointer (some ⟨b2, 0, none⟩)), (2, .pointer (some ⟨b3, 0, none⟩))] ?_
  refine J.seq ?_
  refine J.region ?_
  refine JL.pur (.pointer (some ⟨b2, 0, none⟩)) (some 3) ?_
  refine JL.val (.int .i64 a1.Re) (some 4) (yields_load_box 0 0 (holds_box b2 23 [.int .i64 a1.Re, .int .i64 a1.Im, .int .i64 a1.Den]) tyAgg_2) ?_
  refine JL.pur (.int .i64 (w64 (0 - a1.Re))) (some 5) ?_
  refine JL.pur (.pointer (some ⟨b2, 1, none⟩)) (some 6) ?_
  refine JL.val (.int .i64 a1.Im) (some 7) (yields_load_box 0 1 (holds_box b2 23 [.int .i64 a1.Re, .int .i64 a1.Im, .int .i64 a1.Den]) tyAgg_2) ?_
  refine JL.pur (.int .i64 (w64 (0 - a1.Im))) (some 8) ?_
  refine JL.pur (.pointer (some ⟨b2, 2, none⟩)) (some 9) ?_
  refine JL.val (.int .i64 a1.Den) (some 10) (yields_load_box 0 2 (holds_box b2 23 [.int .i64 a1.Re, .int .i64 a1.Im, .int .i64 a1.Den]) tyAgg_2) ?_
  refine JL.pur (.agg #[.int .i64 (w64 (0 - a1.Re)), .int .i64 (w64 (0 - a1.Im)), .int .i64 a1.Den]) (some 11) ?_
  refine JL.store 1 b3 0 23 [.int .i64 0, .int .i64 0, .int .i64 0] [.int .i64 (w64 (0 - a1.Re)), .int .i64 (w64 (0 - a1.Im)), .int .i64 a1.Den] tySize_23 ?_
  refine JL.nil ?_
  refine JQ.then_normal ?_
  refine JQ.sub [(2, .pointer (some ⟨b3, 0, none⟩))] ?_
  refine JQ.mask [At.box b3 23 [.int .i64 (w64 (0 - a1.Re)), .int .i64 (w64 (0 - a1.Im)), .int .i64 a1.Den]] [false, true] ?_
  refine J.ret ?_
  obtain rfl := Option.some.inj H0
  exact JQ.done' (rs := [.cell 2 23]) (vs := [.agg #[.int .i64 (w64 (0 - a1.Re)), .int .i64 (w64 (0 - a1.Im)), .int .i64 a1.Den]]) [] (.inr rfl) ⟨⟨b3, 0, _, _, by kernel_rfl, by kernel_rfl, holds_box b3 23 [.int .i64 (w64 (0 - a1.Re)), .int .i64 (w64 (0 - a1.Im)), .int .i64 a1.Den], .inl ⟨tyAgg_23, tySize_23, rfl⟩⟩, trivial⟩ (fun _ h => Heap.to (Heap.pick [] (by decide) h)) ⟨rfl, rfl⟩

theorem ref25_Sub.ok (a1 : Cx) (b2 : Cx) (r : (Cx × Int)) (H0 : ref25_Sub.f a1 b2 = some r) :
    Does Try.prog 41 [.agg #[.int .i64 a1.Re, .int .i64 a1.Im, .int .i64 a1.Den], .agg #[.int .i64 b2.Re, .int .i64 b2.Im, .int .i64 b2.Den]].toArray [] [] false (fun v Δ => v = .tuple #[.agg #[.int .i64 r.1.Re, .int .i64 r.1.Im, .int .i64 r.1.Den], .int .i64 r.2] ∧ Δ = []) := by
  refine Does.body (vs := [.agg #[.int .i64 a1.Re, .int .i64 a1.Im, .int .i64 a1.Den], .agg #[.int .i64 b2.Re, .int .i64 b2.Im, .int .i64 b2.Den]]) Try.func41 rfl trivial trivial fun w S => ?_
  unfold ref25_Sub.f at H0
  refine J.seq ?_
  refine J.region ?_
  refine JL.box [.int .i64 a1.Re, .int .i64 a1.Im, .int .i64 a1.Den] fun b3 => ?_
  refine JL.box [.int .i64 b2.Re, .int .i64 b2.Im, .int .i64 b2.Den] fun b4 => ?_
  refine JL.alloc [.int .i64 0, .int .i64 0, .int .i64 0] fun b5 => ?_
  refine JL.as (.int .i64 0) ?_
  refine JL.nil ?_
  refine JQ.then_normal ?_
  refine JQ.sub [(2, .pointer (some ⟨b3, 0, none⟩)), (3, .pointer (some ⟨b4, 0, none⟩)), (4, .pointer (some ⟨b5, 0, none⟩))] ?_
  refine J.seq ?_
  refine J.seq ?_
  refine J.region ?_
  refine JL.val (.agg #[.int .i64 a1.Re, .int .i64 a1.Im, .int .i64 a1.Den]) (some 6) (yields_load_boxes 0 0 [.int .i64 a1.Re, .int .i64 a1.Im, .int .i64 a1.Den] (holds_box b3 23 [.int .i64 a1.Re, .int .i64 a1.Im, .int .i64 a1.Den]) tyAgg_23 tySize_23) ?_
  refine JL.val (.agg #[.int .i64 b2.Re, .int .i64 b2.Im, .int .i64 b2.Den]) (some 7) (yields_load_boxes 1 0 [.int .i64 b2.Re, .int .i64 b2.Im, .int .i64 b2.Den] (holds_box b4 23 [.int .i64 b2.Re, .int .i64 b2.Im, .int .i64 b2.Den]) tyAgg_23 tySize_23) ?_
  obtain ⟨t6, hc7, H0⟩ := bind_some H0
  refine JL.call [] [] [] (ref25_Both.ok a1 b2 _ hc7) trivial ?_
  rintro _ _ ⟨rfl, rfl⟩
  refine JL.pur (.bool (!decide (t6 = 0))) (some 9) ?_
  refine JL.nil ?_
  refine JQ.then_normal ?_
  refine JQ.sub [(2, .pointer (some ⟨b3, 0, none⟩)), (3, .pointer (some ⟨b4, 0, none⟩)), (4, .pointer (some ⟨b5, 0, none⟩)), (9, .bool (!decide (t6 = 0)))] ?_
  rcases ite_cases H0 with ⟨h8, H0⟩ | ⟨h8, H0⟩
  · refine J.cond_true h8 ?_
    refine J.seq ?_
    refine J.region ?_
    refine JL.pur (.agg #[.int .i64 0, .int .i64 0, .int .i64 0]) (some 10) ?_
    refine JL.store 2 b5 0 23 [.int .i64 0, .int .i64 0, .int .i64 0] [.int .i64 0, .int .i64 0, .int .i64 0] tySize_23 ?_
    refine JL.as (.int .i64 8) ?_
    refine JL.nil ?_
    refine JQ.then_normal ?_
    refine JQ.sub [(4, .pointer (some ⟨b5, 0, none⟩)), (5, .int .i64 8)] ?_
    refine JQ.mask [At.box b5 23 [.int .i64 0, .int .i64 0, .int .i64 0]] [false, false, true] ?_
    refine J.ret ?_
    refine JQ.then_ret ?_
    obtain rfl := Option.some.inj H0
    exact JQ.done' (rs := [.cell 4 23, .tmp 5]) (vs := [.agg #[.int .i64 0, .int .i64 0, .int .i64 0], .int .i64 8]) [] (.inr rfl) ⟨⟨b5, 0, _, _, by kernel_rfl, by kernel_rfl, holds_box b5 23 [.int .i64 0, .int .i64 0, .int .i64 0], .inl ⟨tyAgg_23, tySize_23, rfl⟩⟩, by kernel_rfl, trivial⟩ (fun _ h => Heap.to (Heap.pick [] (by decide) h)) ⟨rfl, rfl⟩
  · refine J.cond_false h8 ?_
    refine J.skip ?_
    refine JQ.then_normal ?_
    refine JQ.sub [(2, .pointer (some ⟨b3, 0, none⟩)), (3, .pointer (some ⟨b4, 0, none⟩)), (4, .pointer (some ⟨b5, 0, none⟩))] ?_
    refine J.seq ?_
    refine J.drawT 6 ?_
    refine QL.val (.agg #[.int .i64 a1.Re, .int .i64 a1.Im, .int .i64 a1.Den]) (some 11) (yields_load_boxes 0 0 [.int .i64 a1.Re, .int .i64 a1.Im, .int .i64 a1.Den] (holds_box b3 23 [.int .i64 a1.Re, .int .i64 a1.Im, .int .i64 a1.Den]) tyAgg_23 tySize_23) ?_
    refine QL.val (.agg #[.int .i64 b2.Re, .int .i64 b2.Im, .int .i64 b2.Den]) (some 12) (yields_load_boxes 1 0 [.int .i64 b2.Re, .int .i64 b2.Im, .int .i64 b2.Den] (holds_box b4 23 [.int .i64 b2.Re, .int .i64 b2.Im, .int .i64 b2.Den]) tyAgg_23 tySize_23) ?_
    obtain ⟨t9, hc10, H0⟩ := bind_some H0
    refine QL.call [] [] (ref25_Neg.ok b2 _ hc10) trivial ?_
    obtain ⟨t11, hc12, H0⟩ := bind_some H0
    refine QL.call [] [] (ref25_Add.ok a1 t9 _ hc12) trivial ?_
    refine QL.pur (.agg #[.int .i64 t11.1.Re, .int .i64 t11.1.Im, .int .i64 t11.1.Den]) (some 15) ?_
    refine QL.pur (.int .i64 t11.2) (some 16) ?_
    refine QL.nil ?_
    refine JA.nil ?_
    refine JL.store 2 b5 0 23 [.int .i64 0, .int .i64 0, .int .i64 0] [.int .i64 t11.1.Re, .int .i64 t11.1.Im, .int .i64 t11.1.Den] tySize_23 ?_
    refine JL.as (.int .i64 t11.2) ?_
    refine JL.nil ?_
    refine JQ.then_normal ?_
    refine JQ.sub [(4, .pointer (some ⟨b5, 0, none⟩)), (5, .int .i64 t11.2)] ?_
    refine JQ.mask [At.box b5 23 [.int .i64 t11.1.Re, .int .i64 t11.1.Im, .int .i64 t11.1.Den]] [false, false, true] ?_
    refine J.ret ?_
    obtain rfl := Option.some.inj H0
    exact JQ.done' (rs := [.cell 4 23, .tmp 5]) (vs := [.agg #[.int .i64 t11.1.Re, .int .i64 t11.1.Im, .int .i64 t11.1.Den], .int .i64 t11.2]) [] (.inr rfl) ⟨⟨b5, 0, _, _, by kernel_rfl, by kernel_rfl, holds_box b5 23 [.int .i64 t11.1.Re, .int .i64 t11.1.Im, .int .i64 t11.1.Den], .inl ⟨tyAgg_23, tySize_23, rfl⟩⟩, by kernel_rfl, trivial⟩ (fun _ h => Heap.to (Heap.pick [] (by decide) h)) ⟨rfl, rfl⟩

theorem ref33_Det.ok (a1 : (A4 Cx)) (r : (Cx × Int)) (H0 : ref33_Det.f a1 = some r) :
    Does Try.prog 14 [.agg #[.int .i64 a1.e0.Re, .int .i64 a1.e0.Im, .int .i64 a1.e0.Den, .int .i64 a1.e1.Re, .int .i64 a1.e1.Im, .int .i64 a1.e1.Den, .int .i64 a1.e2.Re, .int .i64 a1.e2.Im, .int .i64 a1.e2.Den, .int .i64 a1.e3.Re, .int .i64 a1.e3.Im, .int .i64 a1.e3.Den]].toArray [] [] false (fun v Δ => v = .tuple #[.agg #[.int .i64 r.1.Re, .int .i64 r.1.Im, .int .i64 r.1.Den], .int .i64 r.2] ∧ Δ = []) := by
  refine Does.body (vs := [.agg #[.int .i64 a1.e0.Re, .int .i64 a1.e0.Im, .int .i64 a1.e0.Den, .int .i64 a1.e1.Re, .int .i64 a1.e1.Im, .int .i64 a1.e1.Den, .int .i64 a1.e2.Re, .int .i64 a1.e2.Im, .int .i64 a1.e2.Den, .int .i64 a1.e3.Re, .int .i64 a1.e3.Im, .int .i64 a1.e3.Den]]) Try.func14 rfl trivial trivial fun w S => ?_
  unfold ref33_Det.f at H0
  refine J.seq ?_
  refine J.region ?_
  refine JL.box [.int .i64 a1.e0.Re, .int .i64 a1.e0.Im, .int .i64 a1.e0.Den, .int .i64 a1.e1.Re, .int .i64 a1.e1.Im, .int .i64 a1.e1.Den, .int .i64 a1.e2.Re, .int .i64 a1.e2.Im, .int .i64 a1.e2.Den, .int .i64 a1.e3.Re, .int .i64 a1.e3.Im, .int .i64 a1.e3.Den] fun b2 => ?_
  refine JL.alloc [.int .i64 0, .int .i64 0, .int .i64 0] fun b3 => ?_
  refine JL.as (.int .i64 0) ?_
  refine JL.nil ?_
  refine JQ.then_normal ?_
  refine JQ.sub [(1, .pointer (some ⟨b2, 0, none⟩)), (2, .pointer (some ⟨b3, 0, none⟩))] ?_
  refine J.seq ?_
  refine J.seq ?_
  refine J.region ?_
  refine JL.val (.agg #[.int .i64 a1.e0.Re, .int .i64 a1.e0.Im, .int .i64 a1.e0.Den, .int .i64 a1.e1.Re, .int .i64 a1.e1.Im, .int .i64 a1.e1.Den, .int .i64 a1.e2.Re, .int .i64 a1.e2.Im, .int .i64 a1.e2.Den, .int .i64 a1.e3.Re, .int .i64 a1.e3.Im, .int .i64 a1.e3.Den]) (some 9) (yields_load_boxes 0 0 [.int .i64 a1.e0.Re, .int .i64 a1.e0.Im, .int .i64 a1.e0.Den, .int .i64 a1.e1.Re, .int .i64 a1.e1.Im, .int .i64 a1.e1.Den, .int .i64 a1.e2.Re, .int .i64 a1.e2.Im, .int .i64 a1.e2.Den, .int .i64 a1.e3.Re, .int .i64 a1.e3.Im, .int .i64 a1.e3.Den] (holds_box b2 25 [.int .i64 a1.e0.Re, .int .i64 a1.e0.Im, .int .i64 a1.e0.Den, .int .i64 a1.e1.Re, .int .i64 a1.e1.Im, .int .i64 a1.e1.Den, .int .i64 a1.e2.Re, .int .i64 a1.e2.Im, .int .i64 a1.e2.Den, .int .i64 a1.e3.Re, .int .i64 a1.e3.Im, .int .i64 a1.e3.Den]) tyAgg_25 tySize_25) ?_
  obtain ⟨t4, hc5, H0⟩ := bind_some H0
  refine JL.call [] [] [] (ref33_Valid.ok a1 _ hc5) trivial ?_
  rintro _ _ ⟨rfl, rfl⟩
  refine JL.pur (.bool (!t4)) (some 11) ?_
  refine JL.nil ?_
  refine JQ.then_normal ?_
  refine JQ.sub [(1, .pointer (some ⟨b2, 0, none⟩)), (2, .pointer (some ⟨b3, 0, none⟩)), (11, .bool (!t4))] ?_
  rcases ite_cases H0 with ⟨h6, H0⟩ | ⟨h6, H0⟩
  · refine J.cond_true h6 ?_
    refine J.seq ?_
    refine J.region ?_
    refine JL.pur (.agg #[.int .i64 0, .int .i64 0, .int .i64 0]) (some 12) ?_
    refine JL.store 1 b3 0 23 [.int .i64 0, .int .i64 0, .int .i64 0] [.int .i64 0, .int .i64 0, .int .i64 0] tySize_23 ?_
    refine JL.as (.int .i64 8) ?_
    refine JL.nil ?_
    refine JQ.then_normal ?_
    refine JQ.sub [(2, .pointer (some ⟨b3, 0, none⟩)), (3, .int .i64 8)] ?_
    refine JQ.mask [At.box b3 23 [.int .i64 0, .int .i64 0, .int .i64 0]] [false, true] ?_
    refine J.ret ?_
    refine JQ.then_ret ?_
    obtain rfl := Option.some.inj H0
    exact JQ.done' (rs := [.cell 2 23, .tmp 3]) (vs := [.agg #[.int .i64 0, .int .i64 0, .int .i64 0], .int .i64 8]) [] (.inr rfl) ⟨⟨b3, 0, _, _, by kernel_rfl, by kernel_rfl, holds_box b3 23 [.int .i64 0, .int .i64 0, .int .i64 0], .inl ⟨tyAgg_23, tySize_23, rfl⟩⟩, by kernel_rfl, trivial⟩ (fun _ h => Heap.to (Heap.pick [] (by decide) h)) ⟨rfl, rfl⟩
  · refine J.cond_false h6 ?_
    refine J.skip ?_
    refine JQ.then_normal ?_
    refine JQ.sub [(1, .pointer (some ⟨b2, 0, none⟩)), (2, .pointer (some ⟨b3, 0, none⟩))] ?_
    refine J.seq ?_
    refine J.region ?_
    refine JL.pur (.pointer (some ⟨b2, 0, none⟩)) (some 14) ?_
    refine JL.val (.agg #[.int .i64 a1.e0.Re, .int .i64 a1.e0.Im, .int .i64 a1.e0.Den]) (some 15) (yields_load_boxes 0 0 [.int .i64 a1.e0.Re, .int .i64 a1.e0.Im, .int .i64 a1.e0.Den] (holds_box b2 25 [.int .i64 a1.e0.Re, .int .i64 a1.e0.Im, .int .i64 a1.e0.Den, .int .i64 a1.e1.Re, .int .i64 a1.e1.Im, .int .i64 a1.e1.Den, .int .i64 a1.e2.Re, .int .i64 a1.e2.Im, .int .i64 a1.e2.Den, .int .i64 a1.e3.Re, .int .i64 a1.e3.Im, .int .i64 a1.e3.Den]) tyAgg_23 tySize_23) ?_
    refine JL.pur (.pointer (some ⟨b2, 9, none⟩)) (some 16) ?_
    refine JL.val (.agg #[.int .i64 a1.e3.Re, .int .i64 a1.e3.Im, .int .i64 a1.e3.Den]) (some 17) (yields_load_boxes 0 9 [.int .i64 a1.e3.Re, .int .i64 a1.e3.Im, .int .i64 a1.e3.Den] (holds_box b2 25 [.int .i64 a1.e0.Re, .int .i64 a1.e0.Im, .int .i64 a1.e0.Den, .int .i64 a1.e1.Re, .int .i64 a1.e1.Im, .int .i64 a1.e1.Den, .int .i64 a1.e2.Re, .int .i64 a1.e2.Im, .int .i64 a1.e2.Den, .int .i64 a1.e3.Re, .int .i64 a1.e3.Im, .int .i64 a1.e3.Den]) tyAgg_23 tySize_23) ?_
    obtain ⟨t7, hc8, H0⟩ := bind_some H0
    refine JL.call [] [] [] (ref25_Mul.ok a1.e0 a1.e3 _ hc8) trivial ?_
    rintro _ _ ⟨rfl, rfl⟩
    refine JL.mv (.tuple #[.agg #[.int .i64 t7.1.Re, .int .i64 t7.1.Im, .int .i64 t7.1.Den], .int .i64 t7.2]) ?_
    refine JL.pur (.agg #[.int .i64 t7.1.Re, .int .i64 t7.1.Im, .int .i64 t7.1.Den]) (some 19) ?_
    refine JL.pur (.int .i64 t7.2) (some 20) ?_
    refine JL.alloc [.int .i64 0, .int .i64 0, .int .i64 0] fun b9 => ?_
    refine JL.store 2 b9 0 23 [.int .i64 0, .int .i64 0, .int .i64 0] [.int .i64 t7.1.Re, .int .i64 t7.1.Im, .int .i64 t7.1.Den] tySize_23 ?_
    refine JL.as (.int .i64 t7.2) ?_
    refine JL.nil ?_
    refine JQ.then_normal ?_
    refine JQ.sub [(1, .pointer (some ⟨b2, 0, none⟩)), (2, .pointer (some ⟨b3, 0, none⟩)), (4, .pointer (some ⟨b9, 0, none⟩)), (5, .int .i64 t7.2)] ?_
    refine J.seq ?_
    refine J.region ?_
    refine JL.pur (.pointer (some ⟨b2, 3, none⟩)) (some 22) ?_
    refine JL.val (.agg #[.int .i64 a1.e1.Re, .int .i64 a1.e1.Im, .int .i64 a1.e1.Den]) (some 23) (yields_load_boxes 0 3 [.int .i64 a1.e1.Re, .int .i64 a1.e1.Im, .int .i64 a1.e1.Den] (holds_box b2 25 [.int .i64 a1.e0.Re, .int .i64 a1.e0.Im, .int .i64 a1.e0.Den, .int .i64 a1.e1.Re, .int .i64 a1.e1.Im, .int .i64 a1.e1.Den, .int .i64 a1.e2.Re, .int .i64 a1.e2.Im, .int .i64 a1.e2.Den, .int .i64 a1.e3.Re, .int .i64 a1.e3.Im, .int .i64 a1.e3.Den]) tyAgg_23 tySize_23) ?_
    refine JL.pur (.pointer (some ⟨b2, 6, none⟩)) (some 24) ?_
    refine JL.val (.agg #[.int .i64 a1.e2.Re, .int .i64 a1.e2.Im, .int .i64 a1.e2.Den]) (some 25) (yields_load_boxes 0 6 [.int .i64 a1.e2.Re, .int .i64 a1.e2.Im, .int .i64 a1.e2.Den] (holds_box b2 25 [.int .i64 a1.e0.Re, .int .i64 a1.e0.Im, .int .i64 a1.e0.Den, .int .i64 a1.e1.Re, .int .i64 a1.e1.Im, .int .i64 a1.e1.Den, .int .i64 a1.e2.Re, .int .i64 a1.e2.Im, .int .i64 a1.e2.Den, .int .i64 a1.e3.Re, .int .i64 a1.e3.Im, .int .i64 a1.e3.Den]) tyAgg_23 tySize_23) ?_
    obtain ⟨t10, hc11, H0⟩ := bind_some H0
    refine JL.call [] [] [] (ref25_Mul.ok a1.e1 a1.e2 _ hc11) trivial ?_
    rintro _ _ ⟨rfl, rfl⟩
    refine JL.mv (.tuple #[.agg #[.int .i64 t10.1.Re, .int .i64 t10.1.Im, .int .i64 t10.1.Den], .int .i64 t10.2]) ?_
    refine JL.pur (.agg #[.int .i64 t10.1.Re, .int .i64 t10.1.Im, .int .i64 t10.1.Den]) (some 27) ?_
    refine JL.pur (.int .i64 t10.2) (some 28) ?_
    refine JL.alloc [.int .i64 0, .int .i64 0, .int .i64 0] fun b12 => ?_
    refine JL.store 3 b12 0 23 [.int .i64 0, .int .i64 0, .int .i64 0] [.int .i64 t10.1.Re, .int .i64 t10.1.Im, .int .i64 t10.1.Den] tySize_23 ?_
    refine JL.as (.int .i64 t10.2) ?_
    refine JL.nil ?_
    refine JQ.then_normal ?_
    refine JQ.sub [(2, .pointer (some ⟨b3, 0, none⟩)), (4, .pointer (some ⟨b9, 0, none⟩)), (5, .int .i64 t7.2), (6, .pointer (some ⟨b12, 0, none⟩)), (7, .int .i64 t10.2)] ?_
    refine JQ.mask [At.box b3 23 [.int .i64 0, .int .i64 0, .int .i64 0], At.box b9 23 [.int .i64 t7.1.Re, .int .i64 t7.1.Im, .int .i64 t7.1.Den], At.box b12 23 [.int .i64 t10.1.Re, .int .i64 t10.1.Im, .int .i64 t10.1.Den]] [false, true, true, true] ?_
    refine J.seq ?_
    refine J.join (T := Bool) (G := Unit) (fun t => ref33_Det.k1 t7 t10 t = some r) (fun t g => [(2, .pointer (some ⟨b3, 0, none⟩)), (4, .pointer (some ⟨b9, 0, none⟩)), (6, .pointer (some ⟨b12, 0, none⟩)), (34, .bool t)]) (fun t g => [At.box b3 23 [.int .i64 0, .int .i64 0, .int .i64 0], At.box b9 23 [.int .i64 t7.1.Re, .int .i64 t7.1.Im, .int .i64 t7.1.Den], At.box b12 23 [.int .i64 t10.1.Re, .int .i64 t10.1.Im, .int .i64 t10.1.Den]]) ?_ ?_
    · refine J.region ?_
      refine JL.mv (.int .i64 t7.2) ?_
      refine JL.pur (.bool (!decide (t7.2 = 0))) (some 30) ?_
      refine JL.mv (.bool (!decide (t7.2 = 0))) ?_
      rcases ite_cases H0 with ⟨h20, H0⟩ | ⟨h20, H0⟩
      · refine JL.off 2 31 false (some 32) h20 ?_
        refine JL.off 2 31 false (some 33) h20 ?_
        refine JL.val (.bool true) (some 34) (gives_pickT h20) ?_
        refine JL.nil ?_
        refine JQ.then_normal ?_
        exact JQ.meet true () H0 (fun _ h => Heap.to h)
      · refine JL.on 2 31 h20 ?_
        refine JL.mv (.int .i64 t10.2) ?_
        refine JL.on 2 31 h20 ?_
        refine JL.pur (.bool (!decide (t10.2 = 0))) (some 33) ?_
        refine JL.val (.bool (!decide (t10.2 = 0))) (some 34) (gives_pickF h20) ?_
        refine JL.nil ?_
        refine JQ.then_normal ?_
        exact JQ.meet (!decide (t10.2 = 0)) () H0 (fun _ h => Heap.to h)
    · clear H0
      rintro x14 ⟨⟩ H0
      replace H0 : ref33_Det.k1 t7 t10 x14 = some r := H0
      unfold ref33_Det.k1 at H0
      refine JQ.sub [(2, .pointer (some ⟨b3, 0, none⟩)), (4, .pointer (some ⟨b9, 0, none⟩)), (6, .pointer (some ⟨b12, 0, none⟩)), (34, .bool x14)] ?_
      refine JQ.turn (Δ' := [At.box b3 23 [.int .i64 0, .int .i64 0, .int .i64 0], At.box b9 23 [.int .i64 t7.1.Re, .int .i64 t7.1.Im, .int .i64 t7.1.Den], At.box b12 23 [.int .i64 t10.1.Re, .int .i64 t10.1.Im, .int .i64 t10.1.Den]]) (fun _ h => h.to) ?_
      rcases ite_cases H0 with ⟨h15, H0⟩ | ⟨h15, H0⟩
      · refine J.cond_true h15 ?_
        refine J.seq ?_
        refine J.region ?_
        refine JL.pur (.agg #[.int .i64 0, .int .i64 0, .int .i64 0]) (some 35) ?_
        refine JL.store 0 b3 0 23 [.int .i64 0, .int .i64 0, .int .i64 0] [.int .i64 0, .int .i64 0, .int .i64 0] tySize_23 ?_
        refine JL.as (.int .i64 16) ?_
        refine JL.nil ?_
        refine JQ.then_normal ?_
        refine JQ.sub [(2, .pointer (some ⟨b3, 0, none⟩)), (3, .int .i64 16)] ?_
        refine JQ.mask [At.box b3 23 [.int .i64 0, .int .i64 0, .int .i64 0]] [true, false, false] ?_
        refine J.ret ?_
        refine JQ.then_ret ?_
        obtain rfl := Option.some.inj H0
        exact JQ.done' (rs := [.cell 2 23, .tmp 3]) (vs := [.agg #[.int .i64 0, .int .i64 0, .int .i64 0], .int .i64 16]) [] (.inr rfl) ⟨⟨b3, 0, _, _, by kernel_rfl, by kernel_rfl, holds_box b3 23 [.int .i64 0, .int .i64 0, .int .i64 0], .inl ⟨tyAgg_23, tySize_23, rfl⟩⟩, by kernel_rfl, trivial⟩ (fun _ h => Heap.to (Heap.pick [] (by decide) h)) ⟨rfl, rfl⟩
      · refine J.cond_false h15 ?_
        refine J.skip ?_
        refine JQ.then_normal ?_
        refine JQ.sub [(2, .pointer (some ⟨b3, 0, none⟩)), (4, .pointer (some ⟨b9, 0, none⟩)), (6, .pointer (some ⟨b12, 0, none⟩))] ?_
        refine J.seq ?_
        refine J.region ?_
        refine JL.val (.agg #[.int .i64 t7.1.Re, .int .i64 t7.1.Im, .int .i64 t7.1.Den]) (some 37) (yields_load_boxes 1 0 [.int .i64 t7.1.Re, .int .i64 t7.1.Im, .int .i64 t7.1.Den] (holds_box b9 23 [.int .i64 t7.1.Re, .int .i64 t7.1.Im, .int .i64 t7.1.Den]) tyAgg_23 tySize_23) ?_
        refine JL.val (.agg #[.int .i64 t10.1.Re, .int .i64 t10.1.Im, .int .i64 t10.1.Den]) (some 38) (yields_load_boxes 2 0 [.int .i64 t10.1.Re, .int .i64 t10.1.Im, .int .i64 t10.1.Den] (holds_box b12 23 [.int .i64 t10.1.Re, .int .i64 t10.1.Im, .int .i64 t10.1.Den]) tyAgg_23 tySize_23) ?_
        obtain ⟨t16, hc17, H0⟩ := bind_some H0
        refine JL.call [] [] [] (ref25_Sub.ok t7.1 t10.1 _ hc17) trivial ?_
        rintro _ _ ⟨rfl, rfl⟩
        refine JL.mv (.tuple #[.agg #[.int .i64 t16.1.Re, .int .i64 t16.1.Im, .int .i64 t16.1.Den], .int .i64 t16.2]) ?_
        refine JL.pur (.agg #[.int .i64 t16.1.Re, .int .i64 t16.1.Im, .int .i64 t16.1.Den]) (some 40) ?_
        refine JL.pur (.int .i64 t16.2) (some 41) ?_
        refine JL.alloc [.int .i64 0, .int .i64 0, .int .i64 0] fun b18 => ?_
        refine JL.store 3 b18 0 23 [.int .i64 0, .int .i64 0, .int .i64 0] [.int .i64 t16.1.Re, .int .i64 t16.1.Im, .int .i64 t16.1.Den] tySize_23 ?_
        refine JL.as (.int .i64 t16.2) ?_
        refine JL.nil ?_
        refine JQ.then_normal ?_
        refine JQ.sub [(2, .pointer (some ⟨b3, 0, none⟩)), (5, .int .i64 t16.2), (8, .pointer (some ⟨b18, 0, none⟩))] ?_
        refine JQ.mask [At.box b3 23 [.int .i64 0, .int .i64 0, .int .i64 0], At.box b18 23 [.int .i64 t16.1.Re, .int .i64 t16.1.Im, .int .i64 t16.1.Den]] [true, false, false, true] ?_
        refine J.seq ?_
        refine J.seq ?_
        refine J.region ?_
        refine JL.mv (.int .i64 t16.2) ?_
        refine JL.pur (.bool (!decide (t16.2 = 0))) (some 43) ?_
        refine JL.nil ?_
        refine JQ.then_normal ?_
        refine JQ.sub [(2, .pointer (some ⟨b3, 0, none⟩)), (8, .pointer (some ⟨b18, 0, none⟩)), (43, .bool (!decide (t16.2 = 0)))] ?_
        rcases ite_cases H0 with ⟨h19, H0⟩ | ⟨h19, H0⟩
        · refine J.cond_true h19 ?_
          refine J.seq ?_
          refine J.region ?_
          refine JL.pur (.agg #[.int .i64 0, .int .i64 0, .int .i64 0]) (some 44) ?_
          refine JL.store 0 b3 0 23 [.int .i64 0, .int .i64 0, .int .i64 0] [.int .i64 0, .int .i64 0, .int .i64 0] tySize_23 ?_
          refine JL.as (.int .i64 16) ?_
          refine JL.nil ?_
          refine JQ.then_normal ?_
          refine JQ.sub [(2, .pointer (some ⟨b3, 0, none⟩)), (3, .int .i64 16)] ?_
          refine JQ.mask [At.box b3 23 [.int .i64 0, .int .i64 0, .int .i64 0]] [true, false] ?_
          refine J.ret ?_
          refine JQ.then_ret ?_
          obtain rfl := Option.some.inj H0
          exact JQ.done' (rs := [.cell 2 23, .tmp 3]) (vs := [.agg #[.int .i64 0, .int .i64 0, .int .i64 0], .int .i64 16]) [] (.inr rfl) ⟨⟨b3, 0, _, _, by kernel_rfl, by kernel_rfl, holds_box b3 23 [.int .i64 0, .int .i64 0, .int .i64 0], .inl ⟨tyAgg_23, tySize_23, rfl⟩⟩, by kernel_rfl, trivial⟩ (fun _ h => Heap.to (Heap.pick [] (by decide) h)) ⟨rfl, rfl⟩
        · refine J.cond_false h19 ?_
          refine J.skip ?_
          refine JQ.then_normal ?_
          refine JQ.sub [(2, .pointer (some ⟨b3, 0, none⟩)), (8, .pointer (some ⟨b18, 0, none⟩))] ?_
          refine J.seq ?_
          refine J.region ?_
          refine JL.val (.agg #[.int .i64 t16.1.Re, .int .i64 t16.1.Im, .int .i64 t16.1.Den]) (some 45) (yields_load_boxes 1 0 [.int .i64 t16.1.Re, .int .i64 t16.1.Im, .int .i64 t16.1.Den] (holds_box b18 23 [.int .i64 t16.1.Re, .int .i64 t16.1.Im, .int .i64 t16.1.Den]) tyAgg_23 tySize_23) ?_
          refine JL.store 0 b3 0 23 [.int .i64 0, .int .i64 0, .int .i64 0] [.int .i64 t16.1.Re, .int .i64 t16.1.Im, .int .i64 t16.1.Den] tySize_23 ?_
          refine JL.as (.int .i64 0) ?_
          refine JL.nil ?_
          refine JQ.then_normal ?_
          refine JQ.sub [(2, .pointer (some ⟨b3, 0, none⟩)), (3, .int .i64 0)] ?_
          refine JQ.mask [At.box b3 23 [.int .i64 t16.1.Re, .int .i64 t16.1.Im, .int .i64 t16.1.Den]] [true, false] ?_
          refine J.ret ?_
          obtain rfl := Option.some.inj H0
          exact JQ.done' (rs := [.cell 2 23, .tmp 3]) (vs := [.agg #[.int .i64 t16.1.Re, .int .i64 t16.1.Im, .int .i64 t16.1.Den], .int .i64 0]) [] (.inr rfl) ⟨⟨b3, 0, _, _, by kernel_rfl, by kernel_rfl, holds_box b3 23 [.int .i64 t16.1.Re, .int .i64 t16.1.Im, .int .i64 t16.1.Den], .inl ⟨tyAgg_23, tySize_23, rfl⟩⟩, by kernel_rfl, trivial⟩ (fun _ h => Heap.to (Heap.pick [] (by decide) h)) ⟨rfl, rfl⟩

theorem jones_Trace.ok (a1 : (A4 Cx)) (r : (Cx × Int)) (H0 : jones_Trace.f a1 = some r) :
    Does Try.prog 15 [.agg #[.int .i64 a1.e0.Re, .int .i64 a1.e0.Im, .int .i64 a1.e0.Den, .int .i64 a1.e1.Re, .int .i64 a1.e1.Im, .int .i64 a1.e1.Den, .int .i64 a1.e2.Re, .int .i64 a1.e2.Im, .int .i64 a1.e2.Den, .int .i64 a1.e3.Re, .int .i64 a1.e3.Im, .int .i64 a1.e3.Den]].toArray [] [] false (fun v Δ => v = .tuple #[.agg #[.int .i64 r.1.Re, .int .i64 r.1.Im, .int .i64 r.1.Den], .int .i64 r.2] ∧ Δ = []) := by
  refine Does.body (vs := [.agg #[.int .i64 a1.e0.Re, .int .i64 a1.e0.Im, .int .i64 a1.e0.Den, .int .i64 a1.e1.Re, .int .i64 a1.e1.Im, .int .i64 a1.e1.Den, .int .i64 a1.e2.Re, .int .i64 a1.e2.Im, .int .i64 a1.e2.Den, .int .i64 a1.e3.Re, .int .i64 a1.e3.Im, .int .i64 a1.e3.Den]]) Try.func15 rfl trivial trivial fun w S => ?_
  unfold jones_Trace.f at H0
  refine J.seq ?_
  refine J.region ?_
  refine JL.box [.int .i64 a1.e0.Re, .int .i64 a1.e0.Im, .int .i64 a1.e0.Den, .int .i64 a1.e1.Re, .int .i64 a1.e1.Im, .int .i64 a1.e1.Den, .int .i64 a1.e2.Re, .int .i64 a1.e2.Im, .int .i64 a1.e2.Den, .int .i64 a1.e3.Re, .int .i64 a1.e3.Im, .int .i64 a1.e3.Den] fun b2 => ?_
  refine JL.alloc [.int .i64 0, .int .i64 0, .int .i64 0] fun b3 => ?_
  refine JL.as (.int .i64 0) ?_
  refine JL.nil ?_
  refine JQ.then_normal ?_
  refine JQ.sub [(1, .pointer (some ⟨b2, 0, none⟩)), (2, .pointer (some ⟨b3, 0, none⟩))] ?_
  refine J.seq ?_
  refine J.seq ?_
  refine J.region ?_
  refine JL.val (.agg #[.int .i64 a1.e0.Re, .int .i64 a1.e0.Im, .int .i64 a1.e0.Den, .int .i64 a1.e1.Re, .int .i64 a1.e1.Im, .int .i64 a1.e1.Den, .int .i64 a1.e2.Re, .int .i64 a1.e2.Im, .int .i64 a1.e2.Den, .int .i64 a1.e3.Re, .int .i64 a1.e3.Im, .int .i64 a1.e3.Den]) (some 4) (yields_load_boxes 0 0 [.int .i64 a1.e0.Re, .int .i64 a1.e0.Im, .int .i64 a1.e0.Den, .int .i64 a1.e1.Re, .int .i64 a1.e1.Im, .int .i64 a1.e1.Den, .int .i64 a1.e2.Re, .int .i64 a1.e2.Im, .int .i64 a1.e2.Den, .int .i64 a1.e3.Re, .int .i64 a1.e3.Im, .int .i64 a1.e3.Den] (holds_box b2 25 [.int .i64 a1.e0.Re, .int .i64 a1.e0.Im, .int .i64 a1.e0.Den, .int .i64 a1.e1.Re, .int .i64 a1.e1.Im, .int .i64 a1.e1.Den, .int .i64 a1.e2.Re, .int .i64 a1.e2.Im, .int .i64 a1.e2.Den, .int .i64 a1.e3.Re, .int .i64 a1.e3.Im, .int .i64 a1.e3.Den]) tyAgg_25 tySize_25) ?_
  obtain ⟨t4, hc5, H0⟩ := bind_some H0
  refine JL.call [] [] [] (jones_valid.ok a1 _ hc5) trivial ?_
  rintro _ _ ⟨rfl, rfl⟩
  refine JL.pur (.bool (!t4)) (some 6) ?_
  refine JL.nil ?_
  refine JQ.then_normal ?_
  refine JQ.sub [(1, .pointer (some ⟨b2, 0, none⟩)), (2, .pointer (some ⟨b3, 0, none⟩)), (6, .bool (!t4))] ?_
  rcases ite_cases H0 with ⟨h6, H0⟩ | ⟨h6, H0⟩
  · refine J.cond_true h6 ?_
    refine J.seq ?_
    refine J.region ?_
    refine JL.pur (.agg #[.int .i64 0, .int .i64 0, .int .i64 0]) (some 7) ?_
    refine JL.store 1 b3 0 23 [.int .i64 0, .int .i64 0, .int .i64 0] [.int .i64 0, .int .i64 0, .int .i64 0] tySize_23 ?_
    refine JL.as (.int .i64 8) ?_
    refine JL.nil ?_
    refine JQ.then_normal ?_
    refine JQ.sub [(2, .pointer (some ⟨b3, 0, none⟩)), (3, .int .i64 8)] ?_
    refine JQ.mask [At.box b3 23 [.int .i64 0, .int .i64 0, .int .i64 0]] [false, true] ?_
    refine J.ret ?_
    refine JQ.then_ret ?_
    obtain rfl := Option.some.inj H0
    exact JQ.done' (rs := [.cell 2 23, .tmp 3]) (vs := [.agg #[.int .i64 0, .int .i64 0, .int .i64 0], .int .i64 8]) [] (.inr rfl) ⟨⟨b3, 0, _, _, by kernel_rfl, by kernel_rfl, holds_box b3 23 [.int .i64 0, .int .i64 0, .int .i64 0], .inl ⟨tyAgg_23, tySize_23, rfl⟩⟩, by kernel_rfl, trivial⟩ (fun _ h => Heap.to (Heap.pick [] (by decide) h)) ⟨rfl, rfl⟩
  · refine J.cond_false h6 ?_
    refine J.skip ?_
    refine JQ.then_normal ?_
    refine JQ.sub [(1, .pointer (some ⟨b2, 0, none⟩)), (2, .pointer (some ⟨b3, 0, none⟩))] ?_
    refine J.seq ?_
    refine J.region ?_
    refine JL.pur (.pointer (some ⟨b2, 0, none⟩)) (some 8) ?_
    refine JL.val (.agg #[.int .i64 a1.e0.Re, .int .i64 a1.e0.Im, .int .i64 a1.e0.Den]) (some 9) (yields_load_boxes 0 0 [.int .i64 a1.e0.Re, .int .i64 a1.e0.Im, .int .i64 a1.e0.Den] (holds_box b2 25 [.int .i64 a1.e0.Re, .int .i64 a1.e0.Im, .int .i64 a1.e0.Den, .int .i64 a1.e1.Re, .int .i64 a1.e1.Im, .int .i64 a1.e1.Den, .int .i64 a1.e2.Re, .int .i64 a1.e2.Im, .int .i64 a1.e2.Den, .int .i64 a1.e3.Re, .int .i64 a1.e3.Im, .int .i64 a1.e3.Den]) tyAgg_23 tySize_23) ?_
    refine JL.pur (.pointer (some ⟨b2, 9, none⟩)) (some 10) ?_
    refine JL.val (.agg #[.int .i64 a1.e3.Re, .int .i64 a1.e3.Im, .int .i64 a1.e3.Den]) (some 11) (yields_load_boxes 0 9 [.int .i64 a1.e3.Re, .int .i64 a1.e3.Im, .int .i64 a1.e3.Den] (holds_box b2 25 [.int .i64 a1.e0.Re, .int .i64 a1.e0.Im, .int .i64 a1.e0.Den, .int .i64 a1.e1.Re, .int .i64 a1.e1.Im, .int .i64 a1.e1.Den, .int .i64 a1.e2.Re, .int .i64 a1.e2.Im, .int .i64 a1.e2.Den, .int .i64 a1.e3.Re, .int .i64 a1.e3.Im, .int .i64 a1.e3.Den]) tyAgg_23 tySize_23) ?_
    obtain ⟨t7, hc8, H0⟩ := bind_some H0
    refine JL.call [] [] [] (cx_Add.ok a1.e0 a1.e3 _ hc8) trivial ?_
    rintro _ _ ⟨rfl, rfl⟩
    refine JL.pur (.agg #[.int .i64 t7.1.Re, .int .i64 t7.1.Im, .int .i64 t7.1.Den]) (some 13) ?_
    refine JL.pur (.int .i64 t7.2) (some 14) ?_
    refine JL.store 1 b3 0 23 [.int .i64 0, .int .i64 0, .int .i64 0] [.int .i64 t7.1.Re, .int .i64 t7.1.Im, .int .i64 t7.1.Den] tySize_23 ?_
    refine JL.as (.int .i64 t7.2) ?_
    refine JL.nil ?_
    refine JQ.then_normal ?_
    refine JQ.sub [(2, .pointer (some ⟨b3, 0, none⟩)), (3, .int .i64 t7.2)] ?_
    refine JQ.mask [At.box b3 23 [.int .i64 t7.1.Re, .int .i64 t7.1.Im, .int .i64 t7.1.Den]] [false, true] ?_
    refine J.ret ?_
    obtain rfl := Option.some.inj H0
    exact JQ.done' (rs := [.cell 2 23, .tmp 3]) (vs := [.agg #[.int .i64 t7.1.Re, .int .i64 t7.1.Im, .int .i64 t7.1.Den], .int .i64 t7.2]) [] (.inr rfl) ⟨⟨b3, 0, _, _, by kernel_rfl, by kernel_rfl, holds_box b3 23 [.int .i64 t7.1.Re, .int .i64 t7.1.Im, .int .i64 t7.1.Den], .inl ⟨tyAgg_23, tySize_23, rfl⟩⟩, by kernel_rfl, trivial⟩ (fun _ h => Heap.to (Heap.pick [] (by decide) h)) ⟨rfl, rfl⟩

theorem ref33_Trace.ok (a1 : (A4 Cx)) (r : (Cx × Int)) (H0 : ref33_Trace.f a1 = some r) :
    Does Try.prog 16 [.agg #[.int .i64 a1.e0.Re, .int .i64 a1.e0.Im, .int .i64 a1.e0.Den, .int .i64 a1.e1.Re, .int .i64 a1.e1.Im, .int .i64 a1.e1.Den, .int .i64 a1.e2.Re, .int .i64 a1.e2.Im, .int .i64 a1.e2.Den, .int .i64 a1.e3.Re, .int .i64 a1.e3.Im, .int .i64 a1.e3.Den]].toArray [] [] false (fun v Δ => v = .tuple #[.agg #[.int .i64 r.1.Re, .int .i64 r.1.Im, .int .i64 r.1.Den], .int .i64 r.2] ∧ Δ = []) := by
  refine Does.body (vs := [.agg #[.int .i64 a1.e0.Re, .int .i64 a1.e0.Im, .int .i64 a1.e0.Den, .int .i64 a1.e1.Re, .int .i64 a1.e1.Im, .int .i64 a1.e1.Den, .int .i64 a1.e2.Re, .int .i64 a1.e2.Im, .int .i64 a1.e2.Den, .int .i64 a1.e3.Re, .int .i64 a1.e3.Im, .int .i64 a1.e3.Den]]) Try.func16 rfl trivial trivial fun w S => ?_
  unfold ref33_Trace.f at H0
  refine J.seq ?_
  refine J.region ?_
  refine JL.box [.int .i64 a1.e0.Re, .int .i64 a1.e0.Im, .int .i64 a1.e0.Den, .int .i64 a1.e1.Re, .int .i64 a1.e1.Im, .int .i64 a1.e1.Den, .int .i64 a1.e2.Re, .int .i64 a1.e2.Im, .int .i64 a1.e2.Den, .int .i64 a1.e3.Re, .int .i64 a1.e3.Im, .int .i64 a1.e3.Den] fun b2 => ?_
  refine JL.alloc [.int .i64 0, .int .i64 0, .int .i64 0] fun b3 => ?_
  refine JL.as (.int .i64 0) ?_
  refine JL.nil ?_
  refine JQ.then_normal ?_
  refine JQ.sub [(1, .pointer (some ⟨b2, 0, none⟩)), (2, .pointer (some ⟨b3, 0, none⟩))] ?_
  refine J.seq ?_
  refine J.seq ?_
  refine J.region ?_
  refine JL.val (.agg #[.int .i64 a1.e0.Re, .int .i64 a1.e0.Im, .int .i64 a1.e0.Den, .int .i64 a1.e1.Re, .int .i64 a1.e1.Im, .int .i64 a1.e1.Den, .int .i64 a1.e2.Re, .int .i64 a1.e2.Im, .int .i64 a1.e2.Den, .int .i64 a1.e3.Re, .int .i64 a1.e3.Im, .int .i64 a1.e3.Den]) (some 6) (yields_load_boxes 0 0 [.int .i64 a1.e0.Re, .int .i64 a1.e0.Im, .int .i64 a1.e0.Den, .int .i64 a1.e1.Re, .int .i64 a1.e1.Im, .int .i64 a1.e1.Den, .int .i64 a1.e2.Re, .int .i64 a1.e2.Im, .int .i64 a1.e2.Den, .int .i64 a1.e3.Re, .int .i64 a1.e3.Im, .int .i64 a1.e3.Den] (holds_box b2 25 [.int .i64 a1.e0.Re, .int .i64 a1.e0.Im, .int .i64 a1.e0.Den, .int .i64 a1.e1.Re, .int .i64 a1.e1.Im, .int .i64 a1.e1.Den, .int .i64 a1.e2.Re, .int .i64 a1.e2.Im, .int .i64 a1.e2.Den, .int .i64 a1.e3.Re, .int .i64 a1.e3.Im, .int .i64 a1.e3.Den]) tyAgg_25 tySize_25) ?_
  obtain ⟨t4, hc5, H0⟩ := bind_some H0
  refine JL.call [] [] [] (ref33_Valid.ok a1 _ hc5) trivial ?_
  rintro _ _ ⟨rfl, rfl⟩
  refine JL.pur (.bool (!t4)) (some 8) ?_
  refine JL.nil ?_
  refine JQ.then_normal ?_
  refine JQ.sub [(1, .pointer (some ⟨b2, 0, none⟩)), (2, .pointer (some ⟨b3, 0, none⟩)), (8, .bool (!t4))] ?_
  rcases ite_cases H0 with ⟨h6, H0⟩ | ⟨h6, H0⟩
  · refine J.cond_true h6 ?_
    refine J.seq ?_
    refine J.region ?_
    refine JL.pur (.agg #[.int .i64 0, .int .i64 0, .int .i64 0]) (some 9) ?_
    refine JL.store 1 b3 0 23 [.int .i64 0, .int .i64 0, .int .i64 0] [.int .i64 0, .int .i64 0, .int .i64 0] tySize_23 ?_
    refine JL.as (.int .i64 8) ?_
    refine JL.nil ?_
    refine JQ.then_normal ?_
    refine JQ.sub [(2, .pointer (some ⟨b3, 0, none⟩)), (3, .int .i64 8)] ?_
    refine JQ.mask [At.box b3 23 [.int .i64 0, .int .i64 0, .int .i64 0]] [false, true] ?_
    refine J.ret ?_
    refine JQ.then_ret ?_
    obtain rfl := Option.some.inj H0
    exact JQ.done' (rs := [.cell 2 23, .tmp 3]) (vs := [.agg #[.int .i64 0, .int .i64 0, .int .i64 0], .int .i64 8]) [] (.inr rfl) ⟨⟨b3, 0, _, _, by kernel_rfl, by kernel_rfl, holds_box b3 23 [.int .i64 0, .int .i64 0, .int .i64 0], .inl ⟨tyAgg_23, tySize_23, rfl⟩⟩, by kernel_rfl, trivial⟩ (fun _ h => Heap.to (Heap.pick [] (by decide) h)) ⟨rfl, rfl⟩
  · refine J.cond_false h6 ?_
    refine J.skip ?_
    refine JQ.then_normal ?_
    refine JQ.sub [(1, .pointer (some ⟨b2, 0, none⟩)), (2, .pointer (some ⟨b3, 0, none⟩))] ?_
    refine J.seq ?_
    refine J.region ?_
    refine JL.pur (.pointer (some ⟨b2, 0, none⟩)) (some 11) ?_
    refine JL.val (.agg #[.int .i64 a1.e0.Re, .int .i64 a1.e0.Im, .int .i64 a1.e0.Den]) (some 12) (yields_load_boxes 0 0 [.int .i64 a1.e0.Re, .int .i64 a1.e0.Im, .int .i64 a1.e0.Den] (holds_box b2 25 [.int .i64 a1.e0.Re, .int .i64 a1.e0.Im, .int .i64 a1.e0.Den, .int .i64 a1.e1.Re, .int .i64 a1.e1.Im, .int .i64 a1.e1.Den, .int .i64 a1.e2.Re, .int .i64 a1.e2.Im, .int .i64 a1.e2.Den, .int .i64 a1.e3.Re, .int .i64 a1.e3.Im, .int .i64 a1.e3.Den]) tyAgg_23 tySize_23) ?_
    refine JL.pur (.pointer (some ⟨b2, 9, none⟩)) (some 13) ?_
    refine JL.val (.agg #[.int .i64 a1.e3.Re, .int .i64 a1.e3.Im, .int .i64 a1.e3.Den]) (some 14) (yields_load_boxes 0 9 [.int .i64 a1.e3.Re, .int .i64 a1.e3.Im, .int .i64 a1.e3.Den] (holds_box b2 25 [.int .i64 a1.e0.Re, .int .i64 a1.e0.Im, .int .i64 a1.e0.Den, .int .i64 a1.e1.Re, .int .i64 a1.e1.Im, .int .i64 a1.e1.Den, .int .i64 a1.e2.Re, .int .i64 a1.e2.Im, .int .i64 a1.e2.Den, .int .i64 a1.e3.Re, .int .i64 a1.e3.Im, .int .i64 a1.e3.Den]) tyAgg_23 tySize_23) ?_
    obtain ⟨t7, hc8, H0⟩ := bind_some H0
    refine JL.call [] [] [] (ref25_Add.ok a1.e0 a1.e3 _ hc8) trivial ?_
    rintro _ _ ⟨rfl, rfl⟩
    refine JL.mv (.tuple #[.agg #[.int .i64 t7.1.Re, .int .i64 t7.1.Im, .int .i64 t7.1.Den], .int .i64 t7.2]) ?_
    refine JL.pur (.agg #[.int .i64 t7.1.Re, .int .i64 t7.1.Im, .int .i64 t7.1.Den]) (some 16) ?_
    refine JL.pur (.int .i64 t7.2) (some 17) ?_
    refine JL.alloc [.int .i64 0, .int .i64 0, .int .i64 0] fun b9 => ?_
    refine JL.store 2 b9 0 23 [.int .i64 0, .int .i64 0, .int .i64 0] [.int .i64 t7.1.Re, .int .i64 t7.1.Im, .int .i64 t7.1.Den] tySize_23 ?_
    refine JL.as (.int .i64 t7.2) ?_
    refine JL.nil ?_
    refine JQ.then_normal ?_
    refine JQ.sub [(2, .pointer (some ⟨b3, 0, none⟩)), (4, .pointer (some ⟨b9, 0, none⟩)), (5, .int .i64 t7.2)] ?_
    refine JQ.mask [At.box b3 23 [.int .i64 0, .int .i64 0, .int .i64 0], At.box b9 23 [.int .i64 t7.1.Re, .int .i64 t7.1.Im, .int .i64 t7.1.Den]] [false, true, true] ?_
    refine J.seq ?_
    refine J.seq ?_
    refine J.region ?_
    refine JL.mv (.int .i64 t7.2) ?_
    refine JL.pur (.bool (!decide (t7.2 = 0))) (some 19) ?_
    refine JL.nil ?_
    refine JQ.then_normal ?_
    refine JQ.sub [(2, .pointer (some ⟨b3, 0, none⟩)), (4, .pointer (some ⟨b9, 0, none⟩)), (19, .bool (!decide (t7.2 = 0)))] ?_
    rcases ite_cases H0 with ⟨h10, H0⟩ | ⟨h10, H0⟩
    · refine J.cond_true h10 ?_
      refine J.seq ?_
      refine J.region ?_
      refine JL.pur (.agg #[.int .i64 0, .int .i64 0, .int .i64 0]) (some 20) ?_
      refine JL.store 0 b3 0 23 [.int .i64 0, .int .i64 0, .int .i64 0] [.int .i64 0, .int .i64 0, .int .i64 0] tySize_23 ?_
      refine JL.as (.int .i64 16) ?_
      refine JL.nil ?_
      refine JQ.then_normal ?_
      refine JQ.sub [(2, .pointer (some ⟨b3, 0, none⟩)), (3, .int .i64 16)] ?_
      refine JQ.mask [At.box b3 23 [.int .i64 0, .int .i64 0, .int .i64 0]] [true, false] ?_
      refine J.ret ?_
      refine JQ.then_ret ?_
      obtain rfl := Option.some.inj H0
      exact JQ.done' (rs := [.cell 2 23, .tmp 3]) (vs := [.agg #[.int .i64 0, .int .i64 0, .int .i64 0], .int .i64 16]) [] (.inr rfl) ⟨⟨b3, 0, _, _, by kernel_rfl, by kernel_rfl, holds_box b3 23 [.int .i64 0, .int .i64 0, .int .i64 0], .inl ⟨tyAgg_23, tySize_23, rfl⟩⟩, by kernel_rfl, trivial⟩ (fun _ h => Heap.to (Heap.pick [] (by decide) h)) ⟨rfl, rfl⟩
    · refine J.cond_false h10 ?_
      refine J.skip ?_
      refine JQ.then_normal ?_
      refine JQ.sub [(2, .pointer (some ⟨b3, 0, none⟩)), (4, .pointer (some ⟨b9, 0, none⟩))] ?_
      refine J.seq ?_
      refine J.region ?_
      refine JL.val (.agg #[.int .i64 t7.1.Re, .int .i64 t7.1.Im, .int .i64 t7.1.Den]) (some 21) (yields_load_boxes 1 0 [.int .i64 t7.1.Re, .int .i64 t7.1.Im, .int .i64 t7.1.Den] (holds_box b9 23 [.int .i64 t7.1.Re, .int .i64 t7.1.Im, .int .i64 t7.1.Den]) tyAgg_23 tySize_23) ?_
      refine JL.store 0 b3 0 23 [.int .i64 0, .int .i64 0, .int .i64 0] [.int .i64 t7.1.Re, .int .i64 t7.1.Im, .int .i64 t7.1.Den] tySize_23 ?_
      refine JL.as (.int .i64 0) ?_
      refine JL.nil ?_
      refine JQ.then_normal ?_
      refine JQ.sub [(2, .pointer (some ⟨b3, 0, none⟩)), (3, .int .i64 0)] ?_
      refine JQ.mask [At.box b3 23 [.int .i64 t7.1.Re, .int .i64 t7.1.Im, .int .i64 t7.1.Den]] [true, false] ?_
      refine J.ret ?_
      obtain rfl := Option.some.inj H0
      exact JQ.done' (rs := [.cell 2 23, .tmp 3]) (vs := [.agg #[.int .i64 t7.1.Re, .int .i64 t7.1.Im, .int .i64 t7.1.Den], .int .i64 0]) [] (.inr rfl) ⟨⟨b3, 0, _, _, by kernel_rfl, by kernel_rfl, holds_box b3 23 [.int .i64 t7.1.Re, .int .i64 t7.1.Im, .int .i64 t7.1.Den], .inl ⟨tyAgg_23, tySize_23, rfl⟩⟩, by kernel_rfl, trivial⟩ (fun _ h => Heap.to (Heap.pick [] (by decide) h)) ⟨rfl, rfl⟩

theorem jones_zero.ok (a1 : Cx) (r : Bool) (H0 : jones_zero.f a1 = some r) :
    Does Try.prog 43 [.agg #[.int .i64 a1.Re, .int .i64 a1.Im, .int .i64 a1.Den]].toArray [] [] false (fun v Δ => v = .bool r ∧ Δ = []) := by
  refine Does.body (vs := [.agg #[.int .i64 a1.Re, .int .i64 a1.Im, .int .i64 a1.Den]]) Try.func43 rfl trivial trivial fun w S => ?_
  unfold jones_zero.f at H0
  refine J.seq ?_
  refine J.region ?_
  refine JL.box [.int .i64 a1.Re, .int .i64 a1.Im, .int .i64 a1.Den] fun b2 => ?_
  refine JL.as (.bool false) ?_
  refine JL.nil ?_
  refine JQ.then_normal ?_
  refine JQ.sub [(1, .pointer (some ⟨b2, 0, none⟩))] ?_
  refine J.seq ?_
  refine J.region ?_
  refine JL.pur (.pointer (some ⟨b2, 0, none⟩)) (some 3) ?_
  refine JL.val (.int .i64 a1.Re) (some 4) (yields_load_box 0 0 (holds_box b2 23 [.int .i64 a1.Re, .int .i64 a1.Im, .int .i64 a1.Den]) tyAgg_2) ?_
  refine JL.pur (.bool (decide (a1.Re = 0))) (some 5) ?_
  refine JL.mv (.bool (decide (a1.Re = 0))) ?_
  rcases ite_cases H0 with ⟨h3, H0⟩ | ⟨h3, H0⟩
  · refine JL.on 3 6 h3 ?_
    refine JL.pur (.pointer (some ⟨b2, 1, none⟩)) (some 7) ?_
    refine JL.on 3 6 h3 ?_
    refine JL.val (.int .i64 a1.Im) (some 8) (yields_load_box 0 1 (holds_box b2 23 [.int .i64 a1.Re, .int .i64 a1.Im, .int .i64 a1.Den]) tyAgg_2) ?_
    refine JL.on 3 6 h3 ?_
    refine JL.pur (.bool (decide (a1.Im = 0))) (some 9) ?_
    refine JL.val (.bool (decide (a1.Im = 0))) (some 10) (gives_pickT h3) ?_
    refine JL.as (.bool (decide (a1.Im = 0))) ?_
    refine JL.nil ?_
    refine JQ.then_normal ?_
    refine JQ.sub [(2, .bool (decide (a1.Im = 0)))] ?_
    refine JQ.mask [] [false] ?_
    refine J.ret ?_
    obtain rfl := Option.some.inj H0
    exact JQ.done' (rs := [.tmp 2]) (vs := [.bool (decide (a1.Im = 0))]) [] (.inr rfl) ⟨by kernel_rfl, trivial⟩ (fun _ h => Heap.to h) ⟨rfl, rfl⟩
  · refine JL.off 3 6 true (some 7) h3 ?_
    refine JL.off 3 6 true (some 8) h3 ?_
    refine JL.off 3 6 true (some 9) h3 ?_
    refine JL.val (.bool false) (some 10) (gives_pickF h3) ?_
    refine JL.as (.bool false) ?_
    refine JL.nil ?_
    refine JQ.then_normal ?_
    refine JQ.sub [(2, .bool false)] ?_
    refine JQ.mask [] [false] ?_
    refine J.ret ?_
    obtain rfl := Option.some.inj H0
    exact JQ.done' (rs := [.tmp 2]) (vs := [.bool false]) [] (.inr rfl) ⟨by kernel_rfl, trivial⟩ (fun _ h => Heap.to h) ⟨rfl, rfl⟩

theorem cx_zero.ok (a1 : Cx) (r : Bool) (H0 : cx_zero.f a1 = some r) :
    Does Try.prog 66 [.agg #[.int .i64 a1.Re, .int .i64 a1.Im, .int .i64 a1.Den]].toArray [] [] false (fun v Δ => v = .bool r ∧ Δ = []) := by
  refine Does.body (vs := [.agg #[.int .i64 a1.Re, .int .i64 a1.Im, .int .i64 a1.Den]]) Try.func66 rfl trivial trivial fun w S => ?_
  unfold cx_zero.f at H0
  refine J.seq ?_
  refine J.region ?_
  refine JL.box [.int .i64 a1.Re, .int .i64 a1.Im, .int .i64 a1.Den] fun b2 => ?_
  refine JL.as (.bool false) ?_
  refine JL.nil ?_
  refine JQ.then_normal ?_
  refine JQ.sub [(1, .pointer (some ⟨b2, 0, none⟩))] ?_
  refine J.seq ?_
  refine J.region ?_
  refine JL.pur (.pointer (some ⟨b2, 0, none⟩)) (some 3) ?_
  refine JL.val (.int .i64 a1.Re) (some 4) (yields_load_box 0 0 (holds_box b2 23 [.int .i64 a1.Re, .int .i64 a1.Im, .int .i64 a1.Den]) tyAgg_2) ?_
  refine JL.pur (.bool (decide (a1.Re = 0))) (some 5) ?_
  refine JL.mv (.bool (decide (a1.Re = 0))) ?_
  rcases ite_cases H0 with ⟨h3, H0⟩ | ⟨h3, H0⟩
  · refine JL.on 3 6 h3 ?_
    refine JL.pur (.pointer (some ⟨b2, 1, none⟩)) (some 7) ?_
    refine JL.on 3 6 h3 ?_
    refine JL.val (.int .i64 a1.Im) (some 8) (yields_load_box 0 1 (holds_box b2 23 [.int .i64 a1.Re, .int .i64 a1.Im, .int .i64 a1.Den]) tyAgg_2) ?_
    refine JL.on 3 6 h3 ?_
    refine JL.pur (.bool (decide (a1.Im = 0))) (some 9) ?_
    refine JL.val (.bool (decide (a1.Im = 0))) (some 10) (gives_pickT h3) ?_
    refine JL.as (.bool (decide (a1.Im = 0))) ?_
    refine JL.nil ?_
    refine JQ.then_normal ?_
    refine JQ.sub [(2, .bool (decide (a1.Im = 0)))] ?_
    refine JQ.mask [] [false] ?_
    refine J.ret ?_
    obtain rfl := Option.some.inj H0
    exact JQ.done' (rs := [.tmp 2]) (vs := [.bool (decide (a1.Im = 0))]) [] (.inr rfl) ⟨by kernel_rfl, trivial⟩ (fun _ h => Heap.to h) ⟨rfl, rfl⟩
  · refine JL.off 3 6 true (some 7) h3 ?_
    refine JL.off 3 6 true (some 8) h3 ?_
    refine JL.off 3 6 true (some 9) h3 ?_
    refine JL.val (.bool false) (some 10) (gives_pickF h3) ?_
    refine JL.as (.bool false) ?_
    refine JL.nil ?_
    refine JQ.then_normal ?_
    refine JQ.sub [(2, .bool false)] ?_
    refine JQ.mask [] [false] ?_
    refine J.ret ?_
    obtain rfl := Option.some.inj H0
    exact JQ.done' (rs := [.tmp 2]) (vs := [.bool false]) [] (.inr rfl) ⟨by kernel_rfl, trivial⟩ (fun _ h => Heap.to h) ⟨rfl, rfl⟩

theorem cx_Div_1.ok (n1 : Int) (times2 : Int) (r : Bool) (H0 : cx_Div_1.f n1 times2 = some r) :
    Does Try.prog 68 [.int .i64 n1, .int .i64 times2].toArray [] [] false (fun v Δ => v = .bool r ∧ Δ = []) := by
  refine Does.body (vs := [.int .i64 n1, .int .i64 times2]) Try.func68 rfl trivial trivial fun w S => ?_
  unfold cx_Div_1.f at H0
  refine J.seq ?_
  refine J.region ?_
  refine JL.as (.bool false) ?_
  refine JL.nil ?_
  refine JQ.then_normal ?_
  refine JQ.sub [(0, .int .i64 n1), (1, .int .i64 times2)] ?_
  refine J.seq ?_
  refine J.region ?_
  refine JL.mv (.int .i64 n1) ?_
  refine JL.mv (.int .i64 times2) ?_
  obtain ⟨h3, H0⟩ := ite_must H0
  refine JL.val (.int .i64 (w64 (Int.tdiv 1000000000 times2))) (some 7) (gives_quo .i64 1000000000 times2 h3) ?_
  refine JL.pur (.bool (decide (n1 ≤ w64 (Int.tdiv 1000000000 times2)))) (some 8) ?_
  refine JL.mv (.bool (decide (n1 ≤ w64 (Int.tdiv 1000000000 times2)))) ?_
  rcases ite_cases H0 with ⟨h4, H0⟩ | ⟨h4, H0⟩
  · refine JL.on 4 9 h4 ?_
    refine JL.mv (.int .i64 n1) ?_
    refine JL.on 4 9 h4 ?_
    refine JL.mv (.int .i64 times2) ?_
    refine JL.on 4 9 h4 ?_
    obtain ⟨h5, H0⟩ := ite_must H0
    refine JL.val (.int .i64 (w64 (Int.tdiv 1000000000 times2))) (some 12) (gives_quo .i64 1000000000 times2 h5) ?_
    refine JL.on 4 9 h4 ?_
    refine JL.pur (.int .i64 (w64 (0 - w64 (Int.tdiv 1000000000 times2)))) (some 13) ?_
    refine JL.on 4 9 h4 ?_
    refine JL.pur (.bool (decide (w64 (0 - w64 (Int.tdiv 1000000000 times2)) ≤ n1))) (some 14) ?_
    refine JL.val (.bool (decide (w64 (0 - w64 (Int.tdiv 1000000000 times2)) ≤ n1))) (some 15) (gives_pickT h4) ?_
    refine JL.as (.bool (decide (w64 (0 - w64 (Int.tdiv 1000000000 times2)) ≤ n1))) ?_
    refine JL.nil ?_
    refine JQ.then_normal ?_
    refine JQ.sub [(4, .bool (decide (w64 (0 - w64 (Int.tdiv 1000000000 times2)) ≤ n1)))] ?_
    refine J.ret ?_
    obtain rfl := Option.some.inj H0
    exact JQ.done' (rs := [.tmp 4]) (vs := [.bool (decide (w64 (0 - w64 (Int.tdiv 1000000000 times2)) ≤ n1))]) [] (.inr rfl) ⟨by kernel_rfl, trivial⟩ (fun _ h => Heap.to h) ⟨rfl, rfl⟩
  · refine JL.off 4 9 true (some 10) h4 ?_
    refine JL.off 4 9 true (some 11) h4 ?_
    refine JL.off 4 9 true (some 12) h4 ?_
    refine JL.off 4 9 true (some 13) h4 ?_
    refine JL.off 4 9 true (some 14) h4 ?_
    refine JL.val (.bool false) (some 15) (gives_pickF h4) ?_
    refine JL.as (.bool false) ?_
    refine JL.nil ?_
    refine JQ.then_normal ?_
    refine JQ.sub [(4, .bool false)] ?_
    refine J.ret ?_
    obtain rfl := Option.some.inj H0
    exact JQ.done' (rs := [.tmp 4]) (vs := [.bool false]) [] (.inr rfl) ⟨by kernel_rfl, trivial⟩ (fun _ h => Heap.to h) ⟨rfl, rfl⟩

theorem cx_Div.ok (a1 : Cx) (b2 : Cx) (r : (Cx × Int)) (H0 : cx_Div.f a1 b2 = some r) :
    Does Try.prog 44 [.agg #[.int .i64 a1.Re, .int .i64 a1.Im, .int .i64 a1.Den], .agg #[.int .i64 b2.Re, .int .i64 b2.Im, .int .i64 b2.Den]].toArray [] [] false (fun v Δ => v = .tuple #[.agg #[.int .i64 r.1.Re, .int .i64 r.1.Im, .int .i64 r.1.Den], .int .i64 r.2] ∧ Δ = []) := by
  refine Does.body (vs := [.agg #[.int .i64 a1.Re, .int .i64 a1.Im, .int .i64 a1.Den], .agg #[.int .i64 b2.Re, .int .i64 b2.Im, .int .i64 b2.Den]]) Try.func44 rfl trivial trivial fun w S => ?_
  unfold cx_Div.f at H0
  refine J.seq ?_
  refine J.region ?_
  refine JL.box [.int .i64 a1.Re, .int .i64 a1.Im, .int .i64 a1.Den] fun b3 => ?_
  refine JL.box [.int .i64 b2.Re, .int .i64 b2.Im, .int .i64 b2.Den] fun b4 => ?_
  refine JL.alloc [.int .i64 0, .int .i64 0, .int .i64 0] fun b5 => ?_
  refine JL.as (.int .i64 0) ?_
  refine JL.nil ?_
  refine JQ.then_normal ?_
  refine JQ.sub [(2, .pointer (some ⟨b3, 0, none⟩)), (3, .pointer (some ⟨b4, 0, none⟩)), (4, .pointer (some ⟨b5, 0, none⟩))] ?_
  refine J.seq ?_
  refine J.seq ?_
  refine J.region ?_
  refine JL.val (.agg #[.int .i64 a1.Re, .int .i64 a1.Im, .int .i64 a1.Den]) (some 14) (yields_load_boxes 0 0 [.int .i64 a1.Re, .int .i64 a1.Im, .int .i64 a1.Den] (holds_box b3 23 [.int .i64 a1.Re, .int .i64 a1.Im, .int .i64 a1.Den]) tyAgg_23 tySize_23) ?_
  refine JL.val (.agg #[.int .i64 b2.Re, .int .i64 b2.Im, .int .i64 b2.Den]) (some 15) (yields_load_boxes 1 0 [.int .i64 b2.Re, .int .i64 b2.Im, .int .i64 b2.Den] (holds_box b4 23 [.int .i64 b2.Re, .int .i64 b2.Im, .int .i64 b2.Den]) tyAgg_23 tySize_23) ?_
  obtain ⟨t6, hc7, H0⟩ := bind_some H0
  refine JL.call [] [] [] (cx_check.ok a1 b2 _ hc7) trivial ?_
  rintro _ _ ⟨rfl, rfl⟩
  refine JL.as (.int .i64 t6) ?_
  refine JL.nil ?_
  refine JQ.then_normal ?_
  refine JQ.sub [(2, .pointer (some ⟨b3, 0, none⟩)), (3, .pointer (some ⟨b4, 0, none⟩)), (4, .pointer (some ⟨b5, 0, none⟩)), (6, .int .i64 t6)] ?_
  refine J.seq ?_
  refine J.region ?_
  refine JL.mv (.int .i64 t6) ?_
  refine JL.pur (.bool (!decide (t6 = 0))) (some 18) ?_
  refine JL.nil ?_
  refine JQ.then_normal ?_
  refine JQ.sub [(2, .pointer (some ⟨b3, 0, none⟩)), (3, .pointer (some ⟨b4, 0, none⟩)), (4, .pointer (some ⟨b5, 0, none⟩)), (6, .int .i64 t6), (18, .bool (!decide (t6 = 0)))] ?_
  rcases ite_cases H0 with ⟨h8, H0⟩ | ⟨h8, H0⟩
  · refine J.cond_true h8 ?_
    refine J.seq ?_
    refine J.region ?_
    refine JL.pur (.agg #[.int .i64 0, .int .i64 0, .int .i64 0]) (some 19) ?_
    refine JL.mv (.int .i64 t6) ?_
    refine JL.store 2 b5 0 23 [.int .i64 0, .int .i64 0, .int .i64 0] [.int .i64 0, .int .i64 0, .int .i64 0] tySize_23 ?_
    refine JL.as (.int .i64 t6) ?_
    refine JL.nil ?_
    refine JQ.then_normal ?_
    refine JQ.sub [(4, .pointer (some ⟨b5, 0, none⟩)), (5, .int .i64 t6)] ?_
    refine JQ.mask [At.box b5 23 [.int .i64 0, .int .i64 0, .int .i64 0]] [false, false, true] ?_
    refine J.ret ?_
    refine JQ.then_ret ?_
    obtain rfl := Option.some.inj H0
    exact JQ.done' (rs := [.cell 4 23, .tmp 5]) (vs := [.agg #[.int .i64 0, .int .i64 0, .int .i64 0], .int .i64 t6]) [] (.inr rfl) ⟨⟨b5, 0, _, _, by kernel_rfl, by kernel_rfl, holds_box b5 23 [.int .i64 0, .int .i64 0, .int .i64 0], .inl ⟨tyAgg_23, tySize_23, rfl⟩⟩, by kernel_rfl, trivial⟩ (fun _ h => Heap.to (Heap.pick [] (by decide) h)) ⟨rfl, rfl⟩
  · refine J.cond_false h8 ?_
    refine J.skip ?_
    refine JQ.then_normal ?_
    refine JQ.sub [(2, .pointer (some ⟨b3, 0, none⟩)), (3, .pointer (some ⟨b4, 0, none⟩)), (4, .pointer (some ⟨b5, 0, none⟩))] ?_
    refine J.seq ?_
    refine J.seq ?_
    refine J.region ?_
    refine JL.val (.agg #[.int .i64 b2.Re, .int .i64 b2.Im, .int .i64 b2.Den]) (some 21) (yields_load_boxes 1 0 [.int .i64 b2.Re, .int .i64 b2.Im, .int .i64 b2.Den] (holds_box b4 23 [.int .i64 b2.Re, .int .i64 b2.Im, .int .i64 b2.Den]) tyAgg_23 tySize_23) ?_
    obtain ⟨t9, hc10, H0⟩ := bind_some H0
    refine JL.call [] [] [] (cx_zero.ok b2 _ hc10) trivial ?_
    rintro _ _ ⟨rfl, rfl⟩
    refine JL.nil ?_
    refine JQ.then_normal ?_
    refine JQ.sub [(2, .pointer (some ⟨b3, 0, none⟩)), (3, .pointer (some ⟨b4, 0, none⟩)), (4, .pointer (some ⟨b5, 0, none⟩)), (22, .bool t9)] ?_
    rcases ite_cases H0 with ⟨h11, H0⟩ | ⟨h11, H0⟩
    · refine J.cond_true h11 ?_
      refine J.seq ?_
      refine J.region ?_
      refine JL.pur (.agg #[.int .i64 0, .int .i64 0, .int .i64 0]) (some 23) ?_
      refine JL.store 2 b5 0 23 [.int .i64 0, .int .i64 0, .int .i64 0] [.int .i64 0, .int .i64 0, .int .i64 0] tySize_23 ?_
      refine JL.as (.int .i64 18) ?_
      refine JL.nil ?_
      refine JQ.then_normal ?_
      refine JQ.sub [(4, .pointer (some ⟨b5, 0, none⟩)), (5, .int .i64 18)] ?_
      refine JQ.mask [At.box b5 23 [.int .i64 0, .int .i64 0, .int .i64 0]] [false, false, true] ?_
      refine J.ret ?_
      refine JQ.then_ret ?_
      obtain rfl := Option.some.inj H0
      exact JQ.done' (rs := [.cell 4 23, .tmp 5]) (vs := [.agg #[.int .i64 0, .int .i64 0, .int .i64 0], .int .i64 18]) [] (.inr rfl) ⟨⟨b5, 0, _, _, by kernel_rfl, by kernel_rfl, holds_box b5 23 [.int .i64 0, .int .i64 0, .int .i64 0], .inl ⟨tyAgg_23, tySize_23, rfl⟩⟩, by kernel_rfl, trivial⟩ (fun _ h => Heap.to (Heap.pick [] (by decide) h)) ⟨rfl, rfl⟩
    · refine J.cond_false h11 ?_
      refine J.skip ?_
      refine JQ.then_normal ?_
      refine JQ.sub [(2, .pointer (some ⟨b3, 0, none⟩)), (3, .pointer (some ⟨b4, 0, none⟩)), (4, .pointer (some ⟨b5, 0, none⟩))] ?_
      refine J.seq ?_
      refine J.seq ?_
      refine J.region ?_
      refine JL.val (.agg #[.int .i64 a1.Re, .int .i64 a1.Im, .int .i64 a1.Den]) (some 24) (yields_load_boxes 0 0 [.int .i64 a1.Re, .int .i64 a1.Im, .int .i64 a1.Den] (holds_box b3 23 [.int .i64 a1.Re, .int .i64 a1.Im, .int .i64 a1.Den]) tyAgg_23 tySize_23) ?_
      obtain ⟨t12, hc13, H0⟩ := bind_some H0
      refine JL.call [] [] [] (cx_zero.ok a1 _ hc13) trivial ?_
      rintro _ _ ⟨rfl, rfl⟩
      refine JL.nil ?_
      refine JQ.then_normal ?_
      refine JQ.sub [(2, .pointer (some ⟨b3, 0, none⟩)), (3, .pointer (some ⟨b4, 0, none⟩)), (4, .pointer (some ⟨b5, 0, none⟩)), (25, .bool t12)] ?_
      rcases ite_cases H0 with ⟨h14, H0⟩ | ⟨h14, H0⟩
      · refine J.cond_true h14 ?_
        refine J.seq ?_
        refine J.region ?_
        refine JL.val (.agg #[.int .i64 a1.Re, .int .i64 a1.Im, .int .i64 a1.Den]) (some 26) (yields_load_boxes 0 0 [.int .i64 a1.Re, .int .i64 a1.Im, .int .i64 a1.Den] (holds_box b3 23 [.int .i64 a1.Re, .int .i64 a1.Im, .int .i64 a1.Den]) tyAgg_23 tySize_23) ?_
        refine JL.store 2 b5 0 23 [.int .i64 0, .int .i64 0, .int .i64 0] [.int .i64 a1.Re, .int .i64 a1.Im, .int .i64 a1.Den] tySize_23 ?_
        refine JL.as (.int .i64 0) ?_
        refine JL.nil ?_
        refine JQ.then_normal ?_
        refine JQ.sub [(4, .pointer (some ⟨b5, 0, none⟩)), (5, .int .i64 0)] ?_
        refine JQ.mask [At.box b5 23 [.int .i64 a1.Re, .int .i64 a1.Im, .int .i64 a1.Den]] [false, false, true] ?_
        refine J.ret ?_
        refine JQ.then_ret ?_
        obtain rfl := Option.some.inj H0
        exact JQ.done' (rs := [.cell 4 23, .tmp 5]) (vs := [.agg #[.int .i64 a1.Re, .int .i64 a1.Im, .int .i64 a1.Den], .int .i64 0]) [] (.inr rfl) ⟨⟨b5, 0, _, _, by kernel_rfl, by kernel_rfl, holds_box b5 23 [.int .i64 a1.Re, .int .i64 a1.Im, .int .i64 a1.Den], .inl ⟨tyAgg_23, tySize_23, rfl⟩⟩, by kernel_rfl, trivial⟩ (fun _ h => Heap.to (Heap.pick [] (by decide) h)) ⟨rfl, rfl⟩
      · refine J.cond_false h14 ?_
        refine J.skip ?_
        refine JQ.then_normal ?_
        refine JQ.sub [(2, .pointer (some ⟨b3, 0, none⟩)), (3, .pointer (some ⟨b4, 0, none⟩)), (4, .pointer (some ⟨b5, 0, none⟩))] ?_
        refine J.seq ?_
        refine J.draw ?_
        refine QL.pur (.pointer (some ⟨b3, 0, none⟩)) (some 27) ?_
        refine QL.val (.int .i64 a1.Re) (some 28) (yields_load_box 0 0 (holds_box b3 23 [.int .i64 a1.Re, .int .i64 a1.Im, .int .i64 a1.Den]) tyAgg_2) ?_
        refine QL.pur (.pointer (some ⟨b4, 0, none⟩)) (some 29) ?_
        refine QL.val (.int .i64 b2.Re) (some 30) (yields_load_box 1 0 (holds_box b4 23 [.int .i64 b2.Re, .int .i64 b2.Im, .int .i64 b2.Den]) tyAgg_2) ?_
        refine QL.pur (.int .i64 (w64 (a1.Re * b2.Re))) (some 31) ?_
        refine QL.pur (.pointer (some ⟨b3, 1, none⟩)) (some 32) ?_
        refine QL.val (.int .i64 a1.Im) (some 33) (yields_load_box 0 1 (holds_box b3 23 [.int .i64 a1.Re, .int .i64 a1.Im, .int .i64 a1.Den]) tyAgg_2) ?_
        refine QL.pur (.pointer (some ⟨b4, 1, none⟩)) (some 34) ?_
        refine QL.val (.int .i64 b2.Im) (some 35) (yields_load_box 1 1 (holds_box b4 23 [.int .i64 b2.Re, .int .i64 b2.Im, .int .i64 b2.Den]) tyAgg_2) ?_
        refine QL.pur (.int .i64 (w64 (a1.Im * b2.Im))) (some 36) ?_
        refine QL.pur (.int .i64 (w64 ((w64 (a1.Re * b2.Re)) + (w64 (a1.Im * b2.Im))))) (some 37) ?_
        refine QL.pur (.pointer (some ⟨b3, 1, none⟩)) (some 38) ?_
        refine QL.val (.int .i64 a1.Im) (some 39) (yields_load_box 0 1 (holds_box b3 23 [.int .i64 a1.Re, .int .i64 a1.Im, .int .i64 a1.Den]) tyAgg_2) ?_
        refine QL.pur (.pointer (some ⟨b4, 0, none⟩)) (some 40) ?_
        refine QL.val (.int .i64 b2.Re) (some 41) (yields_load_box 1 0 (holds_box b4 23 [.int .i64 b2.Re, .int .i64 b2.Im, .int .i64 b2.Den]) tyAgg_2) ?_
        refine QL.pur (.int .i64 (w64 (a1.Im * b2.Re))) (some 42) ?_
        refine QL.pur (.pointer (some ⟨b3, 0, none⟩)) (some 43) ?_
        refine QL.val (.int .i64 a1.Re) (some 44) (yields_load_box 0 0 (holds_box b3 23 [.int .i64 a1.Re, .int .i64 a1.Im, .int .i64 a1.Den]) tyAgg_2) ?_
        refine QL.pur (.pointer (some ⟨b4, 1, none⟩)) (some 45) ?_
        refine QL.val (.int .i64 b2.Im) (some 46) (yields_load_box 1 1 (holds_box b4 23 [.int .i64 b2.Re, .int .i64 b2.Im, .int .i64 b2.Den]) tyAgg_2) ?_
        refine QL.pur (.int .i64 (w64 (a1.Re * b2.Im))) (some 47) ?_
        refine QL.pur (.int .i64 (w64 ((w64 (a1.Im * b2.Re)) - (w64 (a1.Re * b2.Im))))) (some 48) ?_
        refine QL.pur (.pointer (some ⟨b4, 0, none⟩)) (some 49) ?_
        refine QL.val (.int .i64 b2.Re) (some 50) (yields_load_box 1 0 (holds_box b4 23 [.int .i64 b2.Re, .int .i64 b2.Im, .int .i64 b2.Den]) tyAgg_2) ?_
        refine QL.pur (.pointer (some ⟨b4, 0, none⟩)) (some 51) ?_
        refine QL.val (.int .i64 b2.Re) (some 52) (yields_load_box 1 0 (holds_box b4 23 [.int .i64 b2.Re, .int .i64 b2.Im, .int .i64 b2.Den]) tyAgg_2) ?_
        refine QL.pur (.int .i64 (w64 (b2.Re * b2.Re))) (some 53) ?_
        refine QL.pur (.pointer (some ⟨b4, 1, none⟩)) (some 54) ?_
        refine QL.val (.int .i64 b2.Im) (some 55) (yields_load_box 1 1 (holds_box b4 23 [.int .i64 b2.Re, .int .i64 b2.Im, .int .i64 b2.Den]) tyAgg_2) ?_
        refine QL.pur (.pointer (some ⟨b4, 1, none⟩)) (some 56) ?_
        refine QL.val (.int .i64 b2.Im) (some 57) (yields_load_box 1 1 (holds_box b4 23 [.int .i64 b2.Re, .int .i64 b2.Im, .int .i64 b2.Den]) tyAgg_2) ?_
        refine QL.pur (.int .i64 (w64 (b2.Im * b2.Im))) (some 58) ?_
        refine QL.pur (.int .i64 (w64 ((w64 (b2.Re * b2.Re)) + (w64 (b2.Im * b2.Im))))) (some 59) ?_
        obtain ⟨re15, ere15, H0⟩ := lt_some H0
        refine QL.as' (k := .i64) re15 ere15 ?_
        obtain ⟨im16, eim16, H0⟩ := lt_some H0
        refine QL.as' (k := .i64) im16 eim16 ?_
        obtain ⟨low17, elow17, H0⟩ := lt_some H0
        refine QL.as' (k := .i64) low17 elow17 ?_
        refine QL.nil ?_
        refine JA.nil ?_
        refine JQ.then_normal ?_
        refine JQ.sub [(2, .pointer (some ⟨b3, 0, none⟩)), (3, .pointer (some ⟨b4, 0, none⟩)), (4, .pointer (some ⟨b5, 0, none⟩)), (7, .int .i64 re15), (8, .int .i64 im16), (9, .int .i64 low17)] ?_
        refine J.seq ?_
        refine J.region ?_
        refine JL.mv (.int .i64 re15) ?_
        refine JL.mv (.int .i64 im16) ?_
        refine JL.mv (.int .i64 low17) ?_
        refine JL.buildSl 2 ((flInt .i64).kd) (([re15, im16, low17] : List Int) : List Int) [.int .i64 re15, .int .i64 im16, .int .i64 low17] false (closes_fl rfl) fun b18 => ?_
        obtain ⟨t19, hc20, H0⟩ := bind_some H0
        refine JL.call [] [] [] (cx_gcd.ok ([re15, im16, low17] : List Int) (some ⟨b18, 0, none⟩) 3 _ hc20) ⟨pre_view 3 (view_row (some ⟨b18, 0, none⟩) 3 2 ((flInt .i64).kd) ([re15, im16, low17] : List Int) false true), trivial⟩ ?_
        rintro _ _ ⟨rfl, rfl⟩
        refine JL.as (.int .i64 t19) ?_
        refine JL.nil ?_
        refine JQ.then_normal ?_
        refine JQ.sub [(2, .pointer (some ⟨b3, 0, none⟩)), (3, .pointer (some ⟨b4, 0, none⟩)), (4, .pointer (some ⟨b5, 0, none⟩)), (7, .int .i64 re15), (8, .int .i64 im16), (9, .int .i64 low17), (10, .int .i64 t19)] ?_
        refine JQ.mask [At.box b3 23 [.int .i64 a1.Re, .int .i64 a1.Im, .int .i64 a1.Den], At.box b4 23 [.int .i64 b2.Re, .int .i64 b2.Im, .int .i64 b2.Den], At.box b5 23 [.int .i64 0, .int .i64 0, .int .i64 0]] [true, true, true, false] ?_
        refine J.seq ?_
        refine J.draw ?_
        refine QL.mv (.int .i64 re15) ?_
        refine QL.mv (.int .i64 t19) ?_
        obtain ⟨h21, H0⟩ := ite_must H0
        refine QL.val (.int .i64 (w64 (Int.tdiv re15 t19))) (some 67) (gives_quo .i64 re15 t19 h21) ?_
        refine QL.mv (.int .i64 im16) ?_
        refine QL.mv (.int .i64 t19) ?_
        obtain ⟨h22, H0⟩ := ite_must H0
        refine QL.val (.int .i64 (w64 (Int.tdiv im16 t19))) (some 70) (gives_quo .i64 im16 t19 h22) ?_
        refine QL.mv (.int .i64 low17) ?_
        refine QL.mv (.int .i64 t19) ?_
        obtain ⟨h23, H0⟩ := ite_must H0
        refine QL.val (.int .i64 (w64 (Int.tdiv low17 t19))) (some 73) (gives_quo .i64 low17 t19 h23) ?_
        obtain ⟨re24, ere24, H0⟩ := lt_some H0
        refine QL.as' (k := .i64) re24 ere24 ?_
        obtain ⟨im25, eim25, H0⟩ := lt_some H0
        refine QL.as' (k := .i64) im25 eim25 ?_
        obtain ⟨low26, elow26, H0⟩ := lt_some H0
        refine QL.as' (k := .i64) low26 elow26 ?_
        refine QL.nil ?_
        refine JA.nil ?_
        refine JQ.then_normal ?_
        refine JQ.sub [(2, .pointer (some ⟨b3, 0, none⟩)), (3, .pointer (some ⟨b4, 0, none⟩)), (4, .pointer (some ⟨b5, 0, none⟩)), (7, .int .i64 re24), (8, .int .i64 im25), (9, .int .i64 low26)] ?_
        refine J.seq ?_
        refine J.draw ?_
        refine QL.pur (.pointer (some ⟨b4, 2, none⟩)) (some 74) ?_
        refine QL.val (.int .i64 b2.Den) (some 75) (yields_load_box 1 2 (holds_box b4 23 [.int .i64 b2.Re, .int .i64 b2.Im, .int .i64 b2.Den]) tyAgg_2) ?_
        refine QL.pur (.pointer (some ⟨b3, 2, none⟩)) (some 76) ?_
        refine QL.val (.int .i64 a1.Den) (some 77) (yields_load_box 0 2 (holds_box b3 23 [.int .i64 a1.Re, .int .i64 a1.Im, .int .i64 a1.Den]) tyAgg_2) ?_
        refine QL.as (.int .i64 b2.Den) ?_
        refine QL.as (.int .i64 a1.Den) ?_
        refine QL.nil ?_
        refine JA.nil ?_
        refine JQ.then_normal ?_
        refine JQ.sub [(4, .pointer (some ⟨b5, 0, none⟩)), (7, .int .i64 re24), (8, .int .i64 im25), (9, .int .i64 low26), (11, .int .i64 b2.Den), (12, .int .i64 a1.Den)] ?_
        refine JQ.mask [At.box b5 23 [.int .i64 0, .int .i64 0, .int .i64 0]] [false, false, true] ?_
        refine J.seq ?_
        refine J.region ?_
        refine JL.mv (.int .i64 b2.Den) ?_
        refine JL.mv (.int .i64 a1.Den) ?_
        refine JL.buildSl 2 ((flInt .i64).kd) (([b2.Den, a1.Den] : List Int) : List Int) [.int .i64 b2.Den, .int .i64 a1.Den] false (closes_fl rfl) fun b27 => ?_
        obtain ⟨t28, hc29, H0⟩ := bind_some H0
        refine JL.call [] [] [] (cx_gcd.ok ([b2.Den, a1.Den] : List Int) (some ⟨b27, 0, none⟩) 2 _ hc29) ⟨pre_view 1 (view_row (some ⟨b27, 0, none⟩) 2 2 ((flInt .i64).kd) ([b2.Den, a1.Den] : List Int) false true), trivial⟩ ?_
        rintro _ _ ⟨rfl, rfl⟩
        refine JL.as (.int .i64 t28) ?_
        refine JL.nil ?_
        refine JQ.then_normal ?_
        refine JQ.sub [(4, .pointer (some ⟨b5, 0, none⟩)), (7, .int .i64 re24), (8, .int .i64 im25), (9, .int .i64 low26), (10, .int .i64 t28), (11, .int .i64 b2.Den), (12, .int .i64 a1.Den)] ?_
        refine JQ.mask [At.box b5 23 [.int .i64 0, .int .i64 0, .int .i64 0]] [true, false] ?_
        refine J.seq ?_
        refine J.draw ?_
        refine QL.mv (.int .i64 b2.Den) ?_
        refine QL.mv (.int .i64 t28) ?_
        obtain ⟨h30, H0⟩ := ite_must H0
        refine QL.val (.int .i64 (w64 (Int.tdiv b2.Den t28))) (some 84) (gives_quo .i64 b2.Den t28 h30) ?_
        refine QL.mv (.int .i64 a1.Den) ?_
        refine QL.mv (.int .i64 t28) ?_
        obtain ⟨h31, H0⟩ := ite_must H0
        refine QL.val (.int .i64 (w64 (Int.tdiv a1.Den t28))) (some 87) (gives_quo .i64 a1.Den t28 h31) ?_
        obtain ⟨up32, eup32, H0⟩ := lt_some H0
        refine QL.as' (k := .i64) up32 eup32 ?_
        obtain ⟨down33, edown33, H0⟩ := lt_some H0
        refine QL.as' (k := .i64) down33 edown33 ?_
        refine QL.nil ?_
        refine JA.nil ?_
        refine JQ.then_normal ?_
        refine JQ.sub [(4, .pointer (some ⟨b5, 0, none⟩)), (7, .int .i64 re24), (8, .int .i64 im25), (9, .int .i64 low26), (11, .int .i64 up32), (12, .int .i64 down33)] ?_
        refine J.seq ?_
        refine J.region ?_
        refine JL.mv (.int .i64 up32) ?_
        refine JL.mv (.int .i64 low26) ?_
        refine JL.buildSl 2 ((flInt .i64).kd) (([up32, low26] : List Int) : List Int) [.int .i64 up32, .int .i64 low26] false (closes_fl rfl) fun b34 => ?_
        obtain ⟨t35, hc36, H0⟩ := bind_some H0
        refine JL.call [] [] [] (cx_gcd.ok ([up32, low26] : List Int) (some ⟨b34, 0, none⟩) 2 _ hc36) ⟨pre_view 1 (view_row (some ⟨b34, 0, none⟩) 2 2 ((flInt .i64).kd) ([up32, low26] : List Int) false true), trivial⟩ ?_
        rintro _ _ ⟨rfl, rfl⟩
        refine JL.as (.int .i64 t35) ?_
        refine JL.nil ?_
        refine JQ.then_normal ?_
        refine JQ.sub [(4, .pointer (some ⟨b5, 0, none⟩)), (7, .int .i64 re24), (8, .int .i64 im25), (9, .int .i64 low26), (10, .int .i64 t35), (11, .int .i64 up32), (12, .int .i64 down33)] ?_
        refine JQ.mask [At.box b5 23 [.int .i64 0, .int .i64 0, .int .i64 0]] [true, false] ?_
        refine J.seq ?_
        refine J.draw ?_
        refine QL.mv (.int .i64 up32) ?_
        refine QL.mv (.int .i64 t35) ?_
        obtain ⟨h37, H0⟩ := ite_must H0
        refine QL.val (.int .i64 (w64 (Int.tdiv up32 t35))) (some 94) (gives_quo .i64 up32 t35 h37) ?_
        refine QL.mv (.int .i64 low26) ?_
        refine QL.mv (.int .i64 t35) ?_
        obtain ⟨h38, H0⟩ := ite_must H0
        refine QL.val (.int .i64 (w64 (Int.tdiv low26 t35))) (some 97) (gives_quo .i64 low26 t35 h38) ?_
        obtain ⟨up39, eup39, H0⟩ := lt_some H0
        refine QL.as' (k := .i64) up39 eup39 ?_
        obtain ⟨low40, elow40, H0⟩ := lt_some H0
        refine QL.as' (k := .i64) low40 elow40 ?_
        refine QL.nil ?_
        refine JA.nil ?_
        refine JQ.then_normal ?_
        refine JQ.sub [(4, .pointer (some ⟨b5, 0, none⟩)), (7, .int .i64 re24), (8, .int .i64 im25), (9, .int .i64 low40), (11, .int .i64 up39), (12, .int .i64 down33)] ?_
        refine J.seq ?_
        refine J.region ?_
        refine JL.mv (.int .i64 re24) ?_
        refine JL.mv (.int .i64 im25) ?_
        refine JL.mv (.int .i64 down33) ?_
        refine JL.buildSl 2 ((flInt .i64).kd) (([re24, im25, down33] : List Int) : List Int) [.int .i64 re24, .int .i64 im25, .int .i64 down33] false (closes_fl rfl) fun b41 => ?_
        obtain ⟨t42, hc43, H0⟩ := bind_some H0
        refine JL.call [] [] [] (cx_gcd.ok ([re24, im25, down33] : List Int) (some ⟨b41, 0, none⟩) 3 _ hc43) ⟨pre_view 1 (view_row (some ⟨b41, 0, none⟩) 3 2 ((flInt .i64).kd) ([re24, im25, down33] : List Int) false true), trivial⟩ ?_
        rintro _ _ ⟨rfl, rfl⟩
        refine JL.as (.int .i64 t42) ?_
        refine JL.nil ?_
        refine JQ.then_normal ?_
        refine JQ.sub [(4, .pointer (some ⟨b5, 0, none⟩)), (7, .int .i64 re24), (8, .int .i64 im25), (9, .int .i64 low40), (10, .int .i64 t42), (11, .int .i64 up39), (12, .int .i64 down33)] ?_
        refine JQ.mask [At.box b5 23 [.int .i64 0, .int .i64 0, .int .i64 0]] [true, false] ?_
        refine J.seq ?_
        refine J.draw ?_
        refine QL.mv (.int .i64 re24) ?_
        refine QL.mv (.int .i64 t42) ?_
        obtain ⟨h44, H0⟩ := ite_must H0
        refine QL.val (.int .i64 (w64 (Int.tdiv re24 t42))) (some 105) (gives_quo .i64 re24 t42 h44) ?_
        refine QL.mv (.int .i64 im25) ?_
        refine QL.mv (.int .i64 t42) ?_
        obtain ⟨h45, H0⟩ := ite_must H0
        refine QL.val (.int .i64 (w64 (Int.tdiv im25 t42))) (some 108) (gives_quo .i64 im25 t42 h45) ?_
        refine QL.mv (.int .i64 down33) ?_
        refine QL.mv (.int .i64 t42) ?_
        obtain ⟨h46, H0⟩ := ite_must H0
        refine QL.val (.int .i64 (w64 (Int.tdiv down33 t42))) (some 111) (gives_quo .i64 down33 t42 h46) ?_
        obtain ⟨re47, ere47, H0⟩ := lt_some H0
        refine QL.as' (k := .i64) re47 ere47 ?_
        obtain ⟨im48, eim48, H0⟩ := lt_some H0
        refine QL.as' (k := .i64) im48 eim48 ?_
        obtain ⟨down49, edown49, H0⟩ := lt_some H0
        refine QL.as' (k := .i64) down49 edown49 ?_
        refine QL.nil ?_
        refine JA.nil ?_
        refine JQ.then_normal ?_
        refine JQ.sub [(4, .pointer (some ⟨b5, 0, none⟩)), (7, .int .i64 re47), (8, .int .i64 im48), (9, .int .i64 low40), (11, .int .i64 up39), (12, .int .i64 down49)] ?_
        refine J.seq ?_
        refine J.region ?_
        refine JL.as (.func (.func 68) #[] #[]) ?_
        refine JL.nil ?_
        refine JQ.then_normal ?_
        refine J.seq ?_
        refine J.join (T := Bool) (G := Unit) (fun t => cx_Div.k1 up39 low40 re47 im48 down49 t = some r) (fun t g => [(4, .pointer (some ⟨b5, 0, none⟩)), (7, .int .i64 re47), (8, .int .i64 im48), (9, .int .i64 low40), (11, .int .i64 up39), (12, .int .i64 down49), (130, .bool t)]) (fun t g => [At.box b5 23 [.int .i64 0, .int .i64 0, .int .i64 0]]) ?_ ?_
        · refine J.region ?_
          refine JL.mv (.func (.func 68) #[] #[]) ?_
          refine JL.mv (.int .i64 re47) ?_
          refine JL.mv (.int .i64 up39) ?_
          obtain ⟨t60, hc61, H0⟩ := bind_some H0
          refine JL.call [] [] [] (cx_Div_1.ok re47 up39 _ hc61) trivial ?_
          rintro _ _ ⟨rfl, rfl⟩
          refine JL.pur (.bool (!t60)) (some 116) ?_
          refine JL.mv (.bool (!t60)) ?_
          rcases ite_cases H0 with ⟨h62, H0⟩ | ⟨h62, H0⟩
          · refine JL.off 5 117 false (some 118) h62 ?_
            refine JL.off 5 117 false (some 119) h62 ?_
            refine JL.off 5 117 false (some 120) h62 ?_
            refine JL.off 5 117 false (some 121) h62 ?_
            refine JL.off 5 117 false (some 122) h62 ?_
            refine JL.val (.bool true) (some 123) (gives_pickT h62) ?_
            refine JL.mv (.bool true) ?_
            refine JL.off 12 124 false (some 125) rfl ?_
            refine JL.off 12 124 false (some 126) rfl ?_
            refine JL.off 12 124 false (some 127) rfl ?_
            refine JL.off 12 124 false (some 128) rfl ?_
            refine JL.off 12 124 false (some 129) rfl ?_
            refine JL.val (.bool true) (some 130) (gives_pickT rfl) ?_
            refine JL.nil ?_
            refine JQ.then_normal ?_
            exact JQ.meet true () H0 (fun _ h => Heap.to h)
          · refine JL.on 5 117 h62 ?_
            refine JL.mv (.func (.func 68) #[] #[]) ?_
            refine JL.on 5 117 h62 ?_
            refine JL.mv (.int .i64 im48) ?_
            refine JL.on 5 117 h62 ?_
            refine JL.mv (.int .i64 up39) ?_
            refine JL.on 5 117 h62 ?_
            obtain ⟨t63, hc64, H0⟩ := bind_some H0
            refine JL.call [] [] [] (cx_Div_1.ok im48 up39 _ hc64) trivial ?_
            rintro _ _ ⟨rfl, rfl⟩
            refine JL.on 5 117 h62 ?_
            refine JL.pur (.bool (!t63)) (some 122) ?_
            refine JL.val (.bool (!t63)) (some 123) (gives_pickF h62) ?_
            refine JL.mv (.bool (!t63)) ?_
            rcases ite_cases H0 with ⟨h65, H0⟩ | ⟨h65, H0⟩
            · refine JL.off 12 124 false (some 125) h65 ?_
              refine JL.off 12 124 false (some 126) h65 ?_
              refine JL.off 12 124 false (some 127) h65 ?_
              refine JL.off 12 124 false (some 128) h65 ?_
              refine JL.off 12 124 false (some 129) h65 ?_
              refine JL.val (.bool true) (some 130) (gives_pickT h65) ?_
              refine JL.nil ?_
              refine JQ.then_normal ?_
              exact JQ.meet true () H0 (fun _ h => Heap.to h)
            · refine JL.on 12 124 h65 ?_
              refine JL.mv (.func (.func 68) #[] #[]) ?_
              refine JL.on 12 124 h65 ?_
              refine JL.mv (.int .i64 low40) ?_
              refine JL.on 12 124 h65 ?_
              refine JL.mv (.int .i64 down49) ?_
              refine JL.on 12 124 h65 ?_
              obtain ⟨t66, hc67, H0⟩ := bind_some H0
              refine JL.call [] [] [] (cx_Div_1.ok low40 down49 _ hc67) trivial ?_
              rintro _ _ ⟨rfl, rfl⟩
              refine JL.on 12 124 h65 ?_
              refine JL.pur (.bool (!t66)) (some 129) ?_
              refine JL.val (.bool (!t66)) (some 130) (gives_pickF h65) ?_
              refine JL.nil ?_
              refine JQ.then_normal ?_
              exact JQ.meet (!t66) () H0 (fun _ h => Heap.to h)
        · clear H0
          rintro x58 ⟨⟩ H0
          replace H0 : cx_Div.k1 up39 low40 re47 im48 down49 x58 = some r := H0
          unfold cx_Div.k1 at H0
          refine JQ.sub [(4, .pointer (some ⟨b5, 0, none⟩)), (7, .int .i64 re47), (8, .int .i64 im48), (9, .int .i64 low40), (11, .int .i64 up39), (12, .int .i64 down49), (130, .bool x58)] ?_
          refine JQ.turn (Δ' := [At.box b5 23 [.int .i64 0, .int .i64 0, .int .i64 0]]) (fun _ h => h.to) ?_
          rcases ite_cases H0 with ⟨h59, H0⟩ | ⟨h59, H0⟩
          · refine J.cond_true h59 ?_
            refine J.seq ?_
            refine J.region ?_
            refine JL.pur (.agg #[.int .i64 0, .int .i64 0, .int .i64 0]) (some 131) ?_
            refine JL.store 0 b5 0 23 [.int .i64 0, .int .i64 0, .int .i64 0] [.int .i64 0, .int .i64 0, .int .i64 0] tySize_23 ?_
            refine JL.as (.int .i64 16) ?_
            refine JL.nil ?_
            refine JQ.then_normal ?_
            refine JQ.sub [(4, .pointer (some ⟨b5, 0, none⟩)), (5, .int .i64 16)] ?_
            refine J.ret ?_
            refine JQ.then_ret ?_
            obtain rfl := Option.some.inj H0
            exact JQ.done' (rs := [.cell 4 23, .tmp 5]) (vs := [.agg #[.int .i64 0, .int .i64 0, .int .i64 0], .int .i64 16]) [] (.inr rfl) ⟨⟨b5, 0, _, _, by kernel_rfl, by kernel_rfl, holds_box b5 23 [.int .i64 0, .int .i64 0, .int .i64 0], .inl ⟨tyAgg_23, tySize_23, rfl⟩⟩, by kernel_rfl, trivial⟩ (fun _ h => Heap.to (Heap.pick [] (by decide) h)) ⟨rfl, rfl⟩
          · refine J.cond_false h59 ?_
            refine J.skip ?_
            refine JQ.then_normal ?_
            refine JQ.sub [(4, .pointer (some ⟨b5, 0, none⟩)), (7, .int .i64 re47), (8, .int .i64 im48), (9, .int .i64 low40), (11, .int .i64 up39), (12, .int .i64 down49)] ?_
            refine J.seq ?_
            refine J.region ?_
            refine JL.mv (.int .i64 re47) ?_
            refine JL.mv (.int .i64 up39) ?_
            refine JL.pur (.int .i64 (w64 (re47 * up39))) (some 134) ?_
            refine JL.mv (.int .i64 im48) ?_
            refine JL.mv (.int .i64 up39) ?_
            refine JL.pur (.int .i64 (w64 (im48 * up39))) (some 137) ?_
            refine JL.mv (.int .i64 low40) ?_
            refine JL.mv (.int .i64 down49) ?_
            refine JL.pur (.int .i64 (w64 (low40 * down49))) (some 140) ?_
            refine JL.pur (.agg #[.int .i64 (w64 (re47 * up39)), .int .i64 (w64 (im48 * up39)), .int .i64 (w64 (low40 * down49))]) (some 141) ?_
            refine JL.store 0 b5 0 23 [.int .i64 0, .int .i64 0, .int .i64 0] [.int .i64 (w64 (re47 * up39)), .int .i64 (w64 (im48 * up39)), .int .i64 (w64 (low40 * down49))] tySize_23 ?_
            refine JL.as (.int .i64 0) ?_
            refine JL.nil ?_
            refine JQ.then_normal ?_
            refine JQ.sub [(4, .pointer (some ⟨b5, 0, none⟩)), (5, .int .i64 0)] ?_
            refine J.ret ?_
            obtain rfl := Option.some.inj H0
            exact JQ.done' (rs := [.cell 4 23, .tmp 5]) (vs := [.agg #[.int .i64 (w64 (re47 * up39)), .int .i64 (w64 (im48 * up39)), .int .i64 (w64 (low40 * down49))], .int .i64 0]) [] (.inr rfl) ⟨⟨b5, 0, _, _, by kernel_rfl, by kernel_rfl, holds_box b5 23 [.int .i64 (w64 (re47 * up39)), .int .i64 (w64 (im48 * up39)), .int .i64 (w64 (low40 * down49))], .inl ⟨tyAgg_23, tySize_23, rfl⟩⟩, by kernel_rfl, trivial⟩ (fun _ h => Heap.to (Heap.pick [] (by decide) h)) ⟨rfl, rfl⟩

theorem jones_Inv.ok (a1 : (A4 Cx)) (r : ((A4 Cx) × Int)) (H0 : jones_Inv.f a1 = some r) :
    Does Try.prog 17 [.agg #[.int .i64 a1.e0.Re, .int .i64 a1.e0.Im, .int .i64 a1.e0.Den, .int .i64 a1.e1.Re, .int .i64 a1.e1.Im, .int .i64 a1.e1.Den, .int .i64 a1.e2.Re, .int .i64 a1.e2.Im, .int .i64 a1.e2.Den, .int .i64 a1.e3.Re, .int .i64 a1.e3.Im, .int .i64 a1.e3.Den]].toArray [] [] false (fun v Δ => v = .tuple #[.agg #[.int .i64 r.1.e0.Re, .int .i64 r.1.e0.Im, .int .i64 r.1.e0.Den, .int .i64 r.1.e1.Re, .int .i64 r.1.e1.Im, .int .i64 r.1.e1.Den, .int .i64 r.1.e2.Re, .int .i64 r.1.e2.Im, .int .i64 r.1.e2.Den, .int .i64 r.1.e3.Re, .int .i64 r.1.e3.Im, .int .i64 r.1.e3.Den], .int .i64 r.2] ∧ Δ = []) := by
  refine Does.body (vs := [.agg #[.int .i64 a1.e0.Re, .int .i64 a1.e0.Im, .int .i64 a1.e0.Den, .int .i64 a1.e1.Re, .int .i64 a1.e1.Im, .int .i64 a1.e1.Den, .int .i64 a1.e2.Re, .int .i64 a1.e2.Im, .int .i64 a1.e2.Den, .int .i64 a1.e3.Re, .int .i64 a1.e3.Im, .int .i64 a1.e3.Den]]) Try.func17 rfl trivial trivial fun w S => ?_
  unfold jones_Inv.f at H0
  refine J.seq ?_
  refine J.region ?_
  refine JL.box [.int .i64 a1.e0.Re, .int .i64 a1.e0.Im, .int .i64 a1.e0.Den, .int .i64 a1.e1.Re, .int .i64 a1.e1.Im, .int .i64 a1.e1.Den, .int .i64 a1.e2.Re, .int .i64 a1.e2.Im, .int .i64 a1.e2.Den, .int .i64 a1.e3.Re, .int .i64 a1.e3.Im, .int .i64 a1.e3.Den] fun b2 => ?_
  refine JL.alloc [.int .i64 0, .int .i64 0, .int .i64 0, .int .i64 0, .int .i64 0, .int .i64 0, .int .i64 0, .int .i64 0, .int .i64 0, .int .i64 0, .int .i64 0, .int .i64 0] fun b3 => ?_
  refine JL.as (.int .i64 0) ?_
  refine JL.nil ?_
  refine JQ.then_normal ?_
  refine JQ.sub [(1, .pointer (some ⟨b2, 0, none⟩)), (2, .pointer (some ⟨b3, 0, none⟩))] ?_
  refine J.seq ?_
  refine J.region ?_
  refine JL.val (.agg #[.int .i64 a1.e0.Re, .int .i64 a1.e0.Im, .int .i64 a1.e0.Den, .int .i64 a1.e1.Re, .int .i64 a1.e1.Im, .int .i64 a1.e1.Den, .int .i64 a1.e2.Re, .int .i64 a1.e2.Im, .int .i64 a1.e2.Den, .int .i64 a1.e3.Re, .int .i64 a1.e3.Im, .int .i64 a1.e3.Den]) (some 9) (yields_load_boxes 0 0 [.int .i64 a1.e0.Re, .int .i64 a1.e0.Im, .int .i64 a1.e0.Den, .int .i64 a1.e1.Re, .int .i64 a1.e1.Im, .int .i64 a1.e1.Den, .int .i64 a1.e2.Re, .int .i64 a1.e2.Im, .int .i64 a1.e2.Den, .int .i64 a1.e3.Re, .int .i64 a1.e3.Im, .int .i64 a1.e3.Den] (holds_box b2 25 [.int .i64 a1.e0.Re, .int .i64 a1.e0.Im, .int .i64 a1.e0.Den, .int .i64 a1.e1.Re, .int .i64 a1.e1.Im, .int .i64 a1.e1.Den, .int .i64 a1.e2.Re, .int .i64 a1.e2.Im, .int .i64 a1.e2.Den, .int .i64 a1.e3.Re, .int .i64 a1.e3.Im, .int .i64 a1.e3.Den]) tyAgg_25 tySize_25) ?_
  obtain ⟨t4, hc5, H0⟩ := bind_some H0
  refine JL.call [] [] [] (jones_Det.ok a1 _ hc5) trivial ?_
  rintro _ _ ⟨rfl, rfl⟩
  refine JL.mv (.tuple #[.agg #[.int .i64 t4.1.Re, .int .i64 t4.1.Im, .int .i64 t4.1.Den], .int .i64 t4.2]) ?_
  refine JL.pur (.agg #[.int .i64 t4.1.Re, .int .i64 t4.1.Im, .int .i64 t4.1.Den]) (some 11) ?_
  refine JL.pur (.int .i64 t4.2) (some 12) ?_
  refine JL.alloc [.int .i64 0, .int .i64 0, .int .i64 0] fun b6 => ?_
  refine JL.store 2 b6 0 23 [.int .i64 0, .int .i64 0, .int .i64 0] [.int .i64 t4.1.Re, .int .i64 t4.1.Im, .int .i64 t4.1.Den] tySize_23 ?_
  refine JL.as (.int .i64 t4.2) ?_
  refine JL.nil ?_
  refine JQ.then_normal ?_
  refine JQ.sub [(1, .pointer (some ⟨b2, 0, none⟩)), (2, .pointer (some ⟨b3, 0, none⟩)), (4, .pointer (some ⟨b6, 0, none⟩)), (5, .int .i64 t4.2)] ?_
  refine J.seq ?_
  refine J.seq ?_
  refine J.region ?_
  refine JL.mv (.int .i64 t4.2) ?_
  refine JL.pur (.bool (!decide (t4.2 = 0))) (some 14) ?_
  refine JL.nil ?_
  refine JQ.then_normal ?_
  refine JQ.sub [(1, .pointer (some ⟨b2, 0, none⟩)), (2, .pointer (some ⟨b3, 0, none⟩)), (4, .pointer (some ⟨b6, 0, none⟩)), (5, .int .i64 t4.2), (14, .bool (!decide (t4.2 = 0)))] ?_
  rcases ite_cases H0 with ⟨h7, H0⟩ | ⟨h7, H0⟩
  · refine J.cond_true h7 ?_
    refine J.seq ?_
    refine J.region ?_
    refine JL.pur (.agg #[.int .i64 0, .int .i64 0, .int .i64 0, .int .i64 0, .int .i64 0, .int .i64 0, .int .i64 0, .int .i64 0, .int .i64 0, .int .i64 0, .int .i64 0, .int .i64 0]) (some 15) ?_
    refine JL.mv (.int .i64 t4.2) ?_
    refine JL.store 1 b3 0 25 [.int .i64 0, .int .i64 0, .int .i64 0, .int .i64 0, .int .i64 0, .int .i64 0, .int .i64 0, .int .i64 0, .int .i64 0, .int .i64 0, .int .i64 0, .int .i64 0] [.int .i64 0, .int .i64 0, .int .i64 0, .int .i64 0, .int .i64 0, .int .i64 0, .int .i64 0, .int .i64 0, .int .i64 0, .int .i64 0, .int .i64 0, .int .i64 0] tySize_25 ?_
    refine JL.as (.int .i64 t4.2) ?_
    refine JL.nil ?_
    refine JQ.then_normal ?_
    refine JQ.sub [(2, .pointer (some ⟨b3, 0, none⟩)), (3, .int .i64 t4.2)] ?_
    refine JQ.mask [At.box b3 25 [.int .i64 0, .int .i64 0, .int .i64 0, .int .i64 0, .int .i64 0, .int .i64 0, .int .i64 0, .int .i64 0, .int .i64 0, .int .i64 0, .int .i64 0, .int .i64 0]] [false, true, false] ?_
    refine J.ret ?_
    refine JQ.then_ret ?_
    obtain rfl := Option.some.inj H0
    exact JQ.done' (rs := [.cell 2 25, .tmp 3]) (vs := [.agg #[.int .i64 0, .int .i64 0, .int .i64 0, .int .i64 0, .int .i64 0, .int .i64 0, .int .i64 0, .int .i64 0, .int .i64 0, .int .i64 0, .int .i64 0, .int .i64 0], .int .i64 t4.2]) [] (.inr rfl) ⟨⟨b3, 0, _, _, by kernel_rfl, by kernel_rfl, holds_box b3 25 [.int .i64 0, .int .i64 0, .int .i64 0, .int .i64 0, .int .i64 0, .int .i64 0, .int .i64 0, .int .i64 0, .int .i64 0, .int .i64 0, .int .i64 0, .int .i64 0], .inl ⟨tyAgg_25, tySize_25, rfl⟩⟩, by kernel_rfl, trivial⟩ (fun _ h => Heap.to (Heap.pick [] (by decide) h)) ⟨rfl, rfl⟩
  · refine J.cond_false h7 ?_
    refine J.skip ?_
    refine JQ.then_normal ?_
    refine JQ.sub [(1, .pointer (some ⟨b2, 0, none⟩)), (2, .pointer (some ⟨b3, 0, none⟩)), (4, .pointer (some ⟨b6, 0, none⟩))] ?_
    refine J.seq ?_
    refine J.seq ?_
    refine J.region ?_
    refine JL.val (.agg #[.int .i64 t4.1.Re, .int .i64 t4.1.Im, .int .i64 t4.1.Den]) (some 17) (yields_load_boxes 2 0 [.int .i64 t4.1.Re, .int .i64 t4.1.Im, .int .i64 t4.1.Den] (holds_box b6 23 [.int .i64 t4.1.Re, .int .i64 t4.1.Im, .int .i64 t4.1.Den]) tyAgg_23 tySize_23) ?_
    obtain ⟨t8, hc9, H0⟩ := bind_some H0
    refine JL.call [] [] [] (jones_zero.ok t4.1 _ hc9) trivial ?_
    rintro _ _ ⟨rfl, rfl⟩
    refine JL.nil ?_
    refine JQ.then_normal ?_
    refine JQ.sub [(1, .pointer (some ⟨b2, 0, none⟩)), (2, .pointer (some ⟨b3, 0, none⟩)), (4, .pointer (some ⟨b6, 0, none⟩)), (18, .bool t8)] ?_
    rcases ite_cases H0 with ⟨h10, H0⟩ | ⟨h10, H0⟩
    · refine J.cond_true h10 ?_
      refine J.seq ?_
      refine J.region ?_
      refine JL.pur (.agg #[.int .i64 0, .int .i64 0, .int .i64 0, .int .i64 0, .int .i64 0, .int .i64 0, .int .i64 0, .int .i64 0, .int .i64 0, .int .i64 0, .int .i64 0, .int .i64 0]) (some 19) ?_
      refine JL.store 1 b3 0 25 [.int .i64 0, .int .i64 0, .int .i64 0, .int .i64 0, .int .i64 0, .int .i64 0, .int .i64 0, .int .i64 0, .int .i64 0, .int .i64 0, .int .i64 0, .int .i64 0] [.int .i64 0, .int .i64 0, .int .i64 0, .int .i64 0, .int .i64 0, .int .i64 0, .int .i64 0, .int .i64 0, .int .i64 0, .int .i64 0, .int .i64 0, .int .i64 0] tySize_25 ?_
      refine JL.as (.int .i64 18) ?_
      refine JL.nil ?_
      refine JQ.then_normal ?_
      refine JQ.sub [(2, .pointer (some ⟨b3, 0, none⟩)), (3, .int .i64 18)] ?_
      refine JQ.mask [At.box b3 25 [.int .i64 0, .int .i64 0, .int .i64 0, .int .i64 0, .int .i64 0, .int .i64 0, .int .i64 0, .int .i64 0, .int .i64 0, .int .i64 0, .int .i64 0, .int .i64 0]] [false, true, false] ?_
      refine J.ret ?_
      refine JQ.then_ret ?_
      obtain rfl := Option.some.inj H0
      exact JQ.done' (rs := [.cell 2 25, .tmp 3]) (vs := [.agg #[.int .i64 0, .int .i64 0, .int .i64 0, .int .i64 0, .int .i64 0, .int .i64 0, .int .i64 0, .int .i64 0, .int .i64 0, .int .i64 0, .int .i64 0, .int .i64 0], .int .i64 18]) [] (.inr rfl) ⟨⟨b3, 0, _, _, by kernel_rfl, by kernel_rfl, holds_box b3 25 [.int .i64 0, .int .i64 0, .int .i64 0, .int .i64 0, .int .i64 0, .int .i64 0, .int .i64 0, .int .i64 0, .int .i64 0, .int .i64 0, .int .i64 0, .int .i64 0], .inl ⟨tyAgg_25, tySize_25, rfl⟩⟩, by kernel_rfl, trivial⟩ (fun _ h => Heap.to (Heap.pick [] (by decide) h)) ⟨rfl, rfl⟩
    · refine J.cond_false h10 ?_
      refine J.skip ?_
      refine JQ.then_normal ?_
      refine JQ.sub [(1, .pointer (some ⟨b2, 0, none⟩)), (2, .pointer (some ⟨b3, 0, none⟩)), (4, .pointer (some ⟨b6, 0, none⟩))] ?_
      refine J.seq ?_
      refine J.region ?_
      refine JL.pur (.pointer (some ⟨b2, 9, none⟩)) (some 20) ?_
      refine JL.val (.agg #[.int .i64 a1.e3.Re, .int .i64 a1.e3.Im, .int .i64 a1.e3.Den]) (some 21) (yields_load_boxes 0 9 [.int .i64 a1.e3.Re, .int .i64 a1.e3.Im, .int .i64 a1.e3.Den] (holds_box b2 25 [.int .i64 a1.e0.Re, .int .i64 a1.e0.Im, .int .i64 a1.e0.Den, .int .i64 a1.e1.Re, .int .i64 a1.e1.Im, .int .i64 a1.e1.Den, .int .i64 a1.e2.Re, .int .i64 a1.e2.Im, .int .i64 a1.e2.Den, .int .i64 a1.e3.Re, .int .i64 a1.e3.Im, .int .i64 a1.e3.Den]) tyAgg_23 tySize_23) ?_
      refine JL.pur (.pointer (some ⟨b2, 3, none⟩)) (some 22) ?_
      refine JL.val (.agg #[.int .i64 a1.e1.Re, .int .i64 a1.e1.Im, .int .i64 a1.e1.Den]) (some 23) (yields_load_boxes 0 3 [.int .i64 a1.e1.Re, .int .i64 a1.e1.Im, .int .i64 a1.e1.Den] (holds_box b2 25 [.int .i64 a1.e0.Re, .int .i64 a1.e0.Im, .int .i64 a1.e0.Den, .int .i64 a1.e1.Re, .int .i64 a1.e1.Im, .int .i64 a1.e1.Den, .int .i64 a1.e2.Re, .int .i64 a1.e2.Im, .int .i64 a1.e2.Den, .int .i64 a1.e3.Re, .int .i64 a1.e3.Im, .int .i64 a1.e3.Den]) tyAgg_23 tySize_23) ?_
      refine JL.pur (.pointer (some ⟨b2, 6, none⟩)) (some 24) ?_
      refine JL.val (.agg #[.int .i64 a1.e2.Re, .int .i64 a1.e2.Im, .int .i64 a1.e2.Den]) (some 25) (yields_load_boxes 0 6 [.int .i64 a1.e2.Re, .int .i64 a1.e2.Im, .int .i64 a1.e2.Den] (holds_box b2 25 [.int .i64 a1.e0.Re, .int .i64 a1.e0.Im, .int .i64 a1.e0.Den, .int .i64 a1.e1.Re, .int .i64 a1.e1.Im, .int .i64 a1.e1.Den, .int .i64 a1.e2.Re, .int .i64 a1.e2.Im, .int .i64 a1.e2.Den, .int .i64 a1.e3.Re, .int .i64 a1.e3.Im, .int .i64 a1.e3.Den]) tyAgg_23 tySize_23) ?_
      refine JL.pur (.pointer (some ⟨b2, 0, none⟩)) (some 26) ?_
      refine JL.val (.agg #[.int .i64 a1.e0.Re, .int .i64 a1.e0.Im, .int .i64 a1.e0.Den]) (some 27) (yields_load_boxes 0 0 [.int .i64 a1.e0.Re, .int .i64 a1.e0.Im, .int .i64 a1.e0.Den] (holds_box b2 25 [.int .i64 a1.e0.Re, .int .i64 a1.e0.Im, .int .i64 a1.e0.Den, .int .i64 a1.e1.Re, .int .i64 a1.e1.Im, .int .i64 a1.e1.Den, .int .i64 a1.e2.Re, .int .i64 a1.e2.Im, .int .i64 a1.e2.Den, .int .i64 a1.e3.Re, .int .i64 a1.e3.Im, .int .i64 a1.e3.Den]) tyAgg_23 tySize_23) ?_
      refine JL.pur (.agg #[.int .i64 a1.e3.Re, .int .i64 a1.e3.Im, .int .i64 a1.e3.Den, .int .i64 a1.e1.Re, .int .i64 a1.e1.Im, .int .i64 a1.e1.Den, .int .i64 a1.e2.Re, .int .i64 a1.e2.Im, .int .i64 a1.e2.Den, .int .i64 a1.e0.Re, .int .i64 a1.e0.Im, .int .i64 a1.e0.Den]) (some 28) ?_
      refine JL.alloc [.int .i64 0, .int .i64 0, .int .i64 0, .int .i64 0, .int .i64 0, .int .i64 0, .int .i64 0, .int .i64 0, .int .i64 0, .int .i64 0, .int .i64 0, .int .i64 0] fun b11 => ?_
      refine JL.store 3 b11 0 25 [.int .i64 0, .int .i64 0, .int .i64 0, .int .i64 0, .int .i64 0, .int .i64 0, .int .i64 0, .int .i64 0, .int .i64 0, .int .i64 0, .int .i64 0, .int .i64 0] [.int .i64 a1.e3.Re, .int .i64 a1.e3.Im, .int .i64 a1.e3.Den, .int .i64 a1.e1.Re, .int .i64 a1.e1.Im, .int .i64 a1.e1.Den, .int .i64 a1.e2.Re, .int .i64 a1.e2.Im, .int .i64 a1.e2.Den, .int .i64 a1.e0.Re, .int .i64 a1.e0.Im, .int .i64 a1.e0.Den] tySize_25 ?_
      refine JL.nil ?_
      refine JQ.then_normal ?_
      refine JQ.sub [(2, .pointer (some ⟨b3, 0, none⟩)), (4, .pointer (some ⟨b6, 0, none⟩)), (6, .pointer (some ⟨b11, 0, none⟩))] ?_
      refine JQ.mask [At.box b3 25 [.int .i64 0, .int .i64 0, .int .i64 0, .int .i64 0, .int .i64 0, .int .i64 0, .int .i64 0, .int .i64 0, .int .i64 0, .int .i64 0, .int .i64 0, .int .i64 0], At.box b6 23 [.int .i64 t4.1.Re, .int .i64 t4.1.Im, .int .i64 t4.1.Den], At.box b11 25 [.int .i64 a1.e3.Re, .int .i64 a1.e3.Im, .int .i64 a1.e3.Den, .int .i64 a1.e1.Re, .int .i64 a1.e1.Im, .int .i64 a1.e1.Den, .int .i64 a1.e2.Re, .int .i64 a1.e2.Im, .int .i64 a1.e2.Den, .int .i64 a1.e0.Re, .int .i64 a1.e0.Im, .int .i64 a1.e0.Den]] [false, true, true, true] ?_
      refine J.seq ?_
      refine J.seq ?_
      refine J.region ?_
      refine JL.mv (.int .i64 0) ?_
      refine JL.nil ?_
      refine JQ.then_normal ?_
      obtain ⟨o1, hit, H0⟩ := bind_some H0
      refine J.loop (σ := ((A4 Cx) × Int)) (τ := (A4 Cx)) (G := Unit) (G' := Unit) _ o1 (fun s g => [(2, .pointer (some ⟨b3, 0, none⟩)), (4, .pointer (some ⟨b6, 0, none⟩)), (6, .pointer (some ⟨b11, 0, none⟩)), (29, .int .i64 s.2)]) (fun s g => [At.box b3 25 [.int .i64 0, .int .i64 0, .int .i64 0, .int .i64 0, .int .i64 0, .int .i64 0, .int .i64 0, .int .i64 0, .int .i64 0, .int .i64 0, .int .i64 0, .int .i64 0], At.box b6 23 [.int .i64 t4.1.Re, .int .i64 t4.1.Im, .int .i64 t4.1.Den], At.box b11 25 [.int .i64 s.1.e0.Re, .int .i64 s.1.e0.Im, .int .i64 s.1.e0.Den, .int .i64 s.1.e1.Re, .int .i64 s.1.e1.Im, .int .i64 s.1.e1.Den, .int .i64 s.1.e2.Re, .int .i64 s.1.e2.Im, .int .i64 s.1.e2.Den, .int .i64 s.1.e3.Re, .int .i64 s.1.e3.Im, .int .i64 s.1.e3.Den]]) (fun t => jones_Inv.k8 t = some r) (fun t g => [(2, .pointer (some ⟨b3, 0, none⟩)), (6, .pointer (some ⟨b11, 0, none⟩))]) (fun t g => [At.box b3 25 [.int .i64 0, .int .i64 0, .int .i64 0, .int .i64 0, .int .i64 0, .int .i64 0, .int .i64 0, .int .i64 0, .int .i64 0, .int .i64 0, .int .i64 0, .int .i64 0], At.box b11 25 [.int .i64 t.e0.Re, .int .i64 t.e0.Im, .int .i64 t.e0.Den, .int .i64 t.e1.Re, .int .i64 t.e1.Im, .int .i64 t.e1.Den, .int .i64 t.e2.Re, .int .i64 t.e2.Im, .int .i64 t.e2.Den, .int .i64 t.e3.Re, .int .i64 t.e3.Im, .int .i64 t.e3.Den]]) ((⟨a1.e3, a1.e1, a1.e2, a1.e0⟩ : (A4 Cx)), 0) () hit (fun _ h => Heap.to h) ?_ ?_
      · clear hit
        rintro ⟨out84, x85⟩ ⟨⟩ st1 H1 hb1 hr1
        replace H1 : jones_Inv.s7 t4 out84 x85 = some st1 := H1
        unfold jones_Inv.s7 at H1
        refine JQ.sub [(2, .pointer (some ⟨b3, 0, none⟩)), (4, .pointer (some ⟨b6, 0, none⟩)), (6, .pointer (some ⟨b11, 0, none⟩)), (29, .int .i64 x85)] ?_
        refine JQ.turn (Δ' := [At.box b3 25 [.int .i64 0, .int .i64 0, .int .i64 0, .int .i64 0, .int .i64 0, .int .i64 0, .int .i64 0, .int .i64 0, .int .i64 0, .int .i64 0, .int .i64 0, .int .i64 0], At.box b6 23 [.int .i64 t4.1.Re, .int .i64 t4.1.Im, .int .i64 t4.1.Den], At.box b11 25 [.int .i64 out84.e0.Re, .int .i64 out84.e0.Im, .int .i64 out84.e0.Den, .int .i64 out84.e1.Re, .int .i64 out84.e1.Im, .int .i64 out84.e1.Den, .int .i64 out84.e2.Re, .int .i64 out84.e2.Im, .int .i64 out84.e2.Den, .int .i64 out84.e3.Re, .int .i64 out84.e3.Im, .int .i64 out84.e3.Den]]) (fun _ h => h.to) ?_
        refine J.seq ?_
        refine J.region ?_
        refine JL.pur (.bool (decide (x85 < 4))) (some 30) ?_
        refine JL.nil ?_
        refine JQ.then_normal ?_
        refine J.seq ?_
        rcases ite_cases H1 with ⟨h151, H1⟩ | ⟨h151, H1⟩
        · refine J.cond_true h151 ?_
          refine J.skip ?_
          refine JQ.then_normal ?_
          refine JQ.sub [(2, .pointer (some ⟨b3, 0, none⟩)), (4, .pointer (some ⟨b6, 0, none⟩)), (6, .pointer (some ⟨b11, 0, none⟩)), (29, .int .i64 x85)] ?_
          refine J.seq ?_
          refine J.block ?_
          refine J.seq ?_
          refine J.region ?_
          refine JL.mv (.int .i64 x85) ?_
          refine JL.as (.int .i64 x85) ?_
          refine JL.nil ?_
          refine JQ.then_normal ?_
          refine JQ.sub [(2, .pointer (some ⟨b3, 0, none⟩)), (4, .pointer (some ⟨b6, 0, none⟩)), (6, .pointer (some ⟨b11, 0, none⟩)), (7, .int .i64 x85), (29, .int .i64 x85)] ?_
          refine J.join (T := (A4 Cx)) (G := Unit) (fun t => jones_Inv.k10 t4 x85 t = some st1) (fun t g => [(2, .pointer (some ⟨b3, 0, none⟩)), (4, .pointer (some ⟨b6, 0, none⟩)), (6, .pointer (some ⟨b11, 0, none⟩)), (7, .int .i64 x85), (29, .int .i64 x85)]) (fun t g => [At.box b3 25 [.int .i64 0, .int .i64 0, .int .i64 0, .int .i64 0, .int .i64 0, .int .i64 0, .int .i64 0, .int .i64 0, .int .i64 0, .int .i64 0, .int .i64 0, .int .i64 0], At.box b6 23 [.int .i64 t4.1.Re, .int .i64 t4.1.Im, .int .i64 t4.1.Den], At.box b11 25 [.int .i64 t.e0.Re, .int .i64 t.e0.Im, .int .i64 t.e0.Den, .int .i64 t.e1.Re, .int .i64 t.e1.Im, .int .i64 t.e1.Den, .int .i64 t.e2.Re, .int .i64 t.e2.Im, .int .i64 t.e2.Den, .int .i64 t.e3.Re, .int .i64 t.e3.Im, .int .i64 t.e3.Den]]) ?_ ?_
          · refine J.join (T := Bool) (G := Unit) (fun t => jones_Inv.k11 t4 out84 x85 t = some st1) (fun t g => [(2, .pointer (some ⟨b3, 0, none⟩)), (4, .pointer (some ⟨b6, 0, none⟩)), (6, .pointer (some ⟨b11, 0, none⟩)), (7, .int .i64 x85), (29, .int .i64 x85), (37, .bool t)]) (fun t g => [At.box b3 25 [.int .i64 0, .int .i64 0, .int .i64 0, .int .i64 0, .int .i64 0, .int .i64 0, .int .i64 0, .int .i64 0, .int .i64 0, .int .i64 0, .int .i64 0, .int .i64 0], At.box b6 23 [.int .i64 t4.1.Re, .int .i64 t4.1.Im, .int .i64 t4.1.Den], At.box b11 25 [.int .i64 out84.e0.Re, .int .i64 out84.e0.Im, .int .i64 out84.e0.Den, .int .i64 out84.e1.Re, .int .i64 out84.e1.Im, .int .i64 out84.e1.Den, .int .i64 out84.e2.Re, .int .i64 out84.e2.Im, .int .i64 out84.e2.Den, .int .i64 out84.e3.Re, .int .i64 out84.e3.Im, .int .i64 out84.e3.Den]]) ?_ ?_
            · refine J.region ?_
              refine JL.mv (.int .i64 x85) ?_
              refine JL.pur (.bool (decide (x85 = 1))) (some 33) ?_
              refine JL.mv (.bool (decide (x85 = 1))) ?_
              rcases ite_cases H1 with ⟨h214, H1⟩ | ⟨h214, H1⟩
              · refine JL.off 2 34 false (some 35) h214 ?_
                refine JL.off 2 34 false (some 36) h214 ?_
                refine JL.val (.bool true) (some 37) (gives_pickT h214) ?_
                refine JL.nil ?_
                refine JQ.then_normal ?_
                exact JQ.meet true () H1 (fun _ h => Heap.to h)
              · refine JL.on 2 34 h214 ?_
                refine JL.mv (.int .i64 x85) ?_
                refine JL.on 2 34 h214 ?_
                refine JL.pur (.bool (decide (x85 = 2))) (some 36) ?_
                refine JL.val (.bool (decide (x85 = 2))) (some 37) (gives_pickF h214) ?_
                refine JL.nil ?_
                refine JQ.then_normal ?_
                exact JQ.meet (decide (x85 = 2)) () H1 (fun _ h => Heap.to h)
            · clear H1
              rintro x192 ⟨⟩ H1
              replace H1 : jones_Inv.k11 t4 out84 x85 x192 = some st1 := H1
              unfold jones_Inv.k11 at H1
              refine JQ.sub [(2, .pointer (some ⟨b3, 0, none⟩)), (4, .pointer (some ⟨b6, 0, none⟩)), (6, .pointer (some ⟨b11, 0, none⟩)), (7, .int .i64 x85), (29, .int .i64 x85), (37, .bool x192)] ?_
              refine JQ.turn (Δ' := [At.box b3 25 [.int .i64 0, .int .i64 0, .int .i64 0, .int .i64 0, .int .i64 0, .int .i64 0, .int .i64 0, .int .i64 0, .int .i64 0, .int .i64 0, .int .i64 0, .int .i64 0], At.box b6 23 [.int .i64 t4.1.Re, .int .i64 t4.1.Im, .int .i64 t4.1.Den], At.box b11 25 [.int .i64 out84.e0.Re, .int .i64 out84.e0.Im, .int .i64 out84.e0.Den, .int .i64 out84.e1.Re, .int .i64 out84.e1.Im, .int .i64 out84.e1.Den, .int .i64 out84.e2.Re, .int .i64 out84.e2.Im, .int .i64 out84.e2.Den, .int .i64 out84.e3.Re, .int .i64 out84.e3.Im, .int .i64 out84.e3.Den]]) (fun _ h => h.to) ?_
              rcases ite_cases H1 with ⟨h193, H1⟩ | ⟨h193, H1⟩
              · refine J.cond_true h193 ?_
                obtain ⟨⟨h194, h195⟩, H1⟩ := ite_must H1
                obtain ⟨⟨h196, h197⟩, H1⟩ := ite_must H1
                obtain ⟨⟨h198, h199⟩, H1⟩ := ite_must H1
                obtain ⟨arr200, earr200, H1⟩ := lt_some H1
                obtain ⟨⟨h201, h202⟩, H1⟩ := ite_must H1
                obtain ⟨arr203, earr203, H1⟩ := lt_some H1
                refine JY.start [14, 17] #[false, false, false, false, false, false, false, false, false, false, false, false, false, false, false, false, false, false] ?_
                refine JY.pur (hi := rfl) 0 #[true, false, false, false, false, false, false, false, false, false, false, false, false, false, false, false, false, false] (.int .i64 x85) (some 38) want ?_
                refine JY.pur (hi := rfl) 1 #[true, true, false, false, false, false, false, false, false, false, false, false, false, false, false, false, false, false] (.int .i64 x85) (some 39) want ?_
                refine JY.pur (hi := rfl) 2 #[true, true, true, false, false, false, false, false, false, false, false, false, false, false, false, false, false, false] (.int .i64 x85) (some 40) want ?_
                obtain ⟨h204, h205⟩ : 0 ≤ x85 ∧ x85 < 4 := ⟨h201, h202⟩
                refine JY.puw (hi := rfl) 3 #[true, true, true, true, false, false, false, false, false, false, false, false, false, false, false, false, false, false] (.pointer (some ⟨b11, 0 + x85.toNat * 3, none⟩)) (some 41) want (givesW_ixArrD (b := b11) (o := 0) (i := x85) 4 3 .i64 h204 h205 Try.underlying25 tySize_23) ?_
                refine JY.pur (hi := rfl) 4 #[true, true, true, true, true, false, false, false, false, false, false, false, false, false, false, false, false, false] (.pointer (some ⟨b11, 0 + x85.toNat * 3, none⟩)) (some 42) want ?_
                refine JY.take (hi := rfl) 5 #[true, true, true, true, true, true, false, false, false, false, false, false, false, false, false, false, false, false] (.int .i64 ((ix ([out84.e0, out84.e1, out84.e2, out84.e3] : List Cx) x85).Re)) (some 43) [true, true, true] want (gives_loadEl (f := fl_Cx) 2 0 x85 (elems_arr b11 25 [.int .i64 out84.e0.Re, .int .i64 out84.e0.Im, .int .i64 out84.e0.Den, .int .i64 out84.e1.Re, .int .i64 out84.e1.Im, .int .i64 out84.e1.Den, .int .i64 out84.e2.Re, .int .i64 out84.e2.Im, .int .i64 out84.e2.Den, .int .i64 out84.e3.Re, .int .i64 out84.e3.Im, .int .i64 out84.e3.Den] fl_Cx ([out84.e0, out84.e1, out84.e2, out84.e3] : List Cx) 0) h204 h205 tySize_2 (.inr ⟨tyAgg_2, rfl, rfl⟩)) ?_
                refine JY.pur (hi := rfl) 6 #[true, true, true, true, true, true, true, false, false, false, false, false, false, false, false, false, false, false] (.int .i64 (w64 (0 - (ix ([out84.e0, out84.e1, out84.e2, out84.e3] : List Cx) x85).Re))) (some 44) want ?_
                refine JY.pur (hi := rfl) 7 #[true, true, true, true, true, true, true, true, false, false, false, false, false, false, false, false, false, false] (.int .i64 x85) (some 45) want ?_
                obtain ⟨h206, h207⟩ : 0 ≤ x85 ∧ x85 < 4 := ⟨h201, h202⟩
                refine JY.puw (hi := rfl) 8 #[true, true, true, true, true, true, true, true, true, false, false, false, false, false, false, false, false, false] (.pointer (some ⟨b11, 0 + x85.toNat * 3, none⟩)) (some 46) want (givesW_ixArrD (b := b11) (o := 0) (i := x85) 4 3 .i64 h206 h207 Try.underlying25 tySize_23) ?_
                refine JY.pur (hi := rfl) 9 #[true, true, true, true, true, true, true, true, true, true, false, false, false, false, false, false, false, false] (.pointer (some ⟨b11, 0 + x85.toNat * 3 + 1, none⟩)) (some 47) want ?_
                refine JY.take (hi := rfl) 10 #[true, true, true, true, true, true, true, true, true, true, true, false, false, false, false, false, false, false] (.int .i64 ((ix ([out84.e0, out84.e1, out84.e2, out84.e3] : List Cx) x85).Im)) (some 48) [true, true, true] want (gives_loadEl (f := fl_Cx) 2 1 x85 (elems_arr b11 25 [.int .i64 out84.e0.Re, .int .i64 out84.e0.Im, .int .i64 out84.e0.Den, .int .i64 out84.e1.Re, .int .i64 out84.e1.Im, .int .i64 out84.e1.Den, .int .i64 out84.e2.Re, .int .i64 out84.e2.Im, .int .i64 out84.e2.Den, .int .i64 out84.e3.Re, .int .i64 out84.e3.Im, .int .i64 out84.e3.Den] fl_Cx ([out84.e0, out84.e1, out84.e2, out84.e3] : List Cx) 0) h206 h207 tySize_2 (.inr ⟨tyAgg_2, rfl, rfl⟩)) ?_
                refine JY.pur (hi := rfl) 11 #[true, true, true, true, true, true, true, true, true, true, true, true, false, false, false, false, false, false] (.int .i64 (w64 (0 - (ix ([out84.e0, out84.e1, out84.e2, out84.e3] : List Cx) x85).Im))) (some 49) want ?_
                obtain ⟨h208, h209⟩ : 0 ≤ x85 ∧ x85 < 4 := ⟨h201, h202⟩
                refine JY.puw (hi := rfl) 12 #[true, true, true, true, true, true, true, true, true, true, true, true, true, false, false, false, false, false] (.pointer (some ⟨b11, 0 + x85.toNat * 3, none⟩)) (some 50) want (givesW_ixArrD (b := b11) (o := 0) (i := x85) 4 3 .i64 h208 h209 Try.underlying25 tySize_23) ?_
                refine JY.pur (hi := rfl) 13 #[true, true, true, true, true, true, true, true, true, true, true, true, true, true, false, false, false, false] (.pointer (some ⟨b11, 0 + x85.toNat * 3, none⟩)) (some 51) want ?_
                refine JY.all [14] ⟨⟨_, rfl, ?_⟩, trivial⟩
                refine JL.storeArr b11 0 0 2 25 fl_Cx ([out84.e0, out84.e1, out84.e2, out84.e3] : List Cx) x85 [.int .i64 out84.e0.Re, .int .i64 out84.e0.Im, .int .i64 out84.e0.Den, .int .i64 out84.e1.Re, .int .i64 out84.e1.Im, .int .i64 out84.e1.Den, .int .i64 out84.e2.Re, .int .i64 out84.e2.Im, .int .i64 out84.e2.Den, .int .i64 out84.e3.Re, .int .i64 out84.e3.Im, .int .i64 out84.e3.Den] [] [] (⟨(w64 (0 - (ix ([out84.e0, out84.e1, out84.e2, out84.e3] : List Cx) x85).Re)), ((ix ([out84.e0, out84.e1, out84.e2, out84.e3] : List Cx) x85).Im), ((ix ([out84.e0, out84.e1, out84.e2, out84.e3] : List Cx) x85).Den)⟩ : Cx) h208 h209 tySize_2 ?_
                rw [ofL4 fl_Cx (l := ([out84.e0, out84.e1, out84.e2, out84.e3] : List Cx).set x85.toNat (⟨(w64 (0 - (ix ([out84.e0, out84.e1, out84.e2, out84.e3] : List Cx) x85).Re)), ((ix ([out84.e0, out84.e1, out84.e2, out84.e3] : List Cx) x85).Im), ((ix ([out84.e0, out84.e1, out84.e2, out84.e3] : List Cx) x85).Den)⟩ : Cx)) (by simp), earr200]
                refine JQ.turn (Δ' := [At.box b3 25 [.int .i64 0, .int .i64 0, .int .i64 0, .int .i64 0, .int .i64 0, .int .i64 0, .int .i64 0, .int .i64 0, .int .i64 0, .int .i64 0, .int .i64 0, .int .i64 0], At.box b6 23 [.int .i64 t4.1.Re, .int .i64 t4.1.Im, .int .i64 t4.1.Den], At.box b11 25 [.int .i64 arr200.e0.Re, .int .i64 arr200.e0.Im, .int .i64 arr200.e0.Den, .int .i64 arr200.e1.Re, .int .i64 arr200.e1.Im, .int .i64 arr200.e1.Den, .int .i64 arr200.e2.Re, .int .i64 arr200.e2.Im, .int .i64 arr200.e2.Den, .int .i64 arr200.e3.Re, .int .i64 arr200.e3.Im, .int .i64 arr200.e3.Den]]) (fun _ h => h.to) ?_
                refine JL.nil ?_
                refine JY.ranD #[true, true, true, true, true, true, true, true, true, true, true, true, true, true, true, false, false, false] ?_
                obtain ⟨h211, h212⟩ : 0 ≤ x85 ∧ x85 < 4 := ⟨h201, h202⟩
                refine JY.puw (hi := rfl) 15 #[true, true, true, true, true, true, true, true, true, true, true, true, true, true, true, true, false, false] (.pointer (some ⟨b11, 0 + x85.toNat * 3, none⟩)) (some 52) want (givesW_ixArrD (b := b11) (o := 0) (i := x85) 4 3 .i64 h211 h212 Try.underlying25 tySize_23) ?_
                refine JY.pur (hi := rfl) 16 #[true, true, true, true, true, true, true, true, true, true, true, true, true, true, true, true, true, false] (.pointer (some ⟨b11, 0 + x85.toNat * 3 + 1, none⟩)) (some 53) want ?_
                refine JY.all [17] ⟨⟨_, rfl, ?_⟩, trivial⟩
                refine JL.storeArr b11 0 1 2 25 fl_Cx ([arr200.e0, arr200.e1, arr200.e2, arr200.e3] : List Cx) x85 [.int .i64 arr200.e0.Re, .int .i64 arr200.e0.Im, .int .i64 arr200.e0.Den, .int .i64 arr200.e1.Re, .int .i64 arr200.e1.Im, .int .i64 arr200.e1.Den, .int .i64 arr200.e2.Re, .int .i64 arr200.e2.Im, .int .i64 arr200.e2.Den, .int .i64 arr200.e3.Re, .int .i64 arr200.e3.Im, .int .i64 arr200.e3.Den] [] [] (⟨((ix ([arr200.e0, arr200.e1, arr200.e2, arr200.e3] : List Cx) x85).Re), (w64 (0 - (ix ([out84.e0, out84.e1, out84.e2, out84.e3] : List Cx) x85).Im)), ((ix ([arr200.e0, arr200.e1, arr200.e2, arr200.e3] : List Cx) x85).Den)⟩ : Cx) h211 h212 tySize_2 ?_
                rw [ofL4 fl_Cx (l := ([arr200.e0, arr200.e1, arr200.e2, arr200.e3] : List Cx).set x85.toNat (⟨((ix ([arr200.e0, arr200.e1, arr200.e2, arr200.e3] : List Cx) x85).Re), (w64 (0 - (ix ([out84.e0, out84.e1, out84.e2, out84.e3] : List Cx) x85).Im)), ((ix ([arr200.e0, arr200.e1, arr200.e2, arr200.e3] : List Cx) x85).Den)⟩ : Cx)) (by simp), earr203]
                refine JQ.turn (Δ' := [At.box b3 25 [.int .i64 0, .int .i64 0, .int .i64 0, .int .i64 0, .int .i64 0, .int .i64 0, .int .i64 0, .int .i64 0, .int .i64 0, .int .i64 0, .int .i64 0, .int .i64 0], At.box b6 23 [.int .i64 t4.1.Re, .int .i64 t4.1.Im, .int .i64 t4.1.Den], At.box b11 25 [.int .i64 arr203.e0.Re, .int .i64 arr203.e0.Im, .int .i64 arr203.e0.Den, .int .i64 arr203.e1.Re, .int .i64 arr203.e1.Im, .int .i64 arr203.e1.Den, .int .i64 arr203.e2.Re, .int .i64 arr203.e2.Im, .int .i64 arr203.e2.Den, .int .i64 arr203.e3.Re, .int .i64 arr203.e3.Im, .int .i64 arr203.e3.Den]]) (fun _ h => h.to) ?_
                refine JL.nil ?_
                refine JY.ranD #[true, true, true, true, true, true, true, true, true, true, true, true, true, true, true, true, true, true] ?_
                refine JY.done ?_
                refine JQ.then_normal ?_
                exact JQ.meet arr203 () H1 (fun _ h => Heap.to h)
              · refine J.cond_false h193 ?_
                refine J.skip ?_
                refine JQ.then_normal ?_
                exact JQ.meet out84 () H1 (fun _ h => Heap.to h)
          · clear H1
            rintro out176 ⟨⟩ H1
            replace H1 : jones_Inv.k10 t4 x85 out176 = some st1 := H1
            unfold jones_Inv.k10 at H1
            refine JQ.sub [(2, .pointer (some ⟨b3, 0, none⟩)), (4, .pointer (some ⟨b6, 0, none⟩)), (6, .pointer (some ⟨b11, 0, none⟩)), (7, .int .i64 x85), (29, .int .i64 x85)] ?_
            refine JQ.turn (Δ' := [At.box b3 25 [.int .i64 0, .int .i64 0, .int .i64 0, .int .i64 0, .int .i64 0, .int .i64 0, .int .i64 0, .int .i64 0, .int .i64 0, .int .i64 0, .int .i64 0, .int .i64 0], At.box b6 23 [.int .i64 t4.1.Re, .int .i64 t4.1.Im, .int .i64 t4.1.Den], At.box b11 25 [.int .i64 out176.e0.Re, .int .i64 out176.e0.Im, .int .i64 out176.e0.Den, .int .i64 out176.e1.Re, .int .i64 out176.e1.Im, .int .i64 out176.e1.Den, .int .i64 out176.e2.Re, .int .i64 out176.e2.Im, .int .i64 out176.e2.Den, .int .i64 out176.e3.Re, .int .i64 out176.e3.Im, .int .i64 out176.e3.Den]]) (fun _ h => h.to) ?_
            refine J.seq ?_
            obtain ⟨⟨h177, h178⟩, H1⟩ := ite_must H1
            obtain ⟨t179, hc180, H1⟩ := bind_some H1
            obtain ⟨⟨h181, h182⟩, H1⟩ := ite_must H1
            obtain ⟨arr183, earr183, H1⟩ := lt_some H1
            refine JY.start [10] #[false, false, false, false, false, false, false, false, false, false, false, false] ?_
            refine JY.pur (hi := rfl) 0 #[true, false, false, false, false, false, false, false, false, false, false, false] (.int .i64 x85) (some 55) want ?_
            refine JY.pur (hi := rfl) 1 #[true, true, false, false, false, false, false, false, false, false, false, false] (.int .i64 x85) (some 56) want ?_
            obtain ⟨h184, h185⟩ : 0 ≤ x85 ∧ x85 < 4 := ⟨h181, h182⟩
            refine JY.puw (hi := rfl) 2 #[true, true, true, false, false, false, false, false, false, false, false, false] (.pointer (some ⟨b11, 0 + x85.toNat * 3, none⟩)) (some 57) want (givesW_ixArrD (b := b11) (o := 0) (i := x85) 4 3 .i64 h184 h185 Try.underlying25 tySize_23) ?_
            refine JY.take (hi := rfl) 3 #[true, true, true, true, false, false, false, false, false, false, false, false] (.agg #[.int .i64 ((ix ([out176.e0, out176.e1, out176.e2, out176.e3] : List Cx) x85).Re), .int .i64 ((ix ([out176.e0, out176.e1, out176.e2, out176.e3] : List Cx) x85).Im), .int .i64 ((ix ([out176.e0, out176.e1, out176.e2, out176.e3] : List Cx) x85).Den)]) (some 58) [true, true, true] want (gives_loadEl (f := fl_Cx) 2 0 x85 (elems_arr b11 25 [.int .i64 out176.e0.Re, .int .i64 out176.e0.Im, .int .i64 out176.e0.Den, .int .i64 out176.e1.Re, .int .i64 out176.e1.Im, .int .i64 out176.e1.Den, .int .i64 out176.e2.Re, .int .i64 out176.e2.Im, .int .i64 out176.e2.Den, .int .i64 out176.e3.Re, .int .i64 out176.e3.Im, .int .i64 out176.e3.Den] fl_Cx ([out176.e0, out176.e1, out176.e2, out176.e3] : List Cx) 0) h184 h185 tySize_23 (.inl ⟨tyAgg_23, rfl⟩)) ?_
            refine JY.take (hi := rfl) 4 #[true, true, true, true, true, false, false, false, false, false, false, false] (.agg #[.int .i64 t4.1.Re, .int .i64 t4.1.Im, .int .i64 t4.1.Den]) (some 59) [true, true, true] want (yields_load_boxes 1 0 [.int .i64 t4.1.Re, .int .i64 t4.1.Im, .int .i64 t4.1.Den] (holds_box b6 23 [.int .i64 t4.1.Re, .int .i64 t4.1.Im, .int .i64 t4.1.Den]) tyAgg_23 tySize_23) ?_
            refine JY.all [5] ⟨⟨_, rfl, ?_⟩, trivial⟩
            refine JL.call [] [] [] (cx_Div.ok (⟨((ix ([out176.e0, out176.e1, out176.e2, out176.e3] : List Cx) x85).Re), ((ix ([out176.e0, out176.e1, out176.e2, out176.e3] : List Cx) x85).Im), ((ix ([out176.e0, out176.e1, out176.e2, out176.e3] : List Cx) x85).Den)⟩ : Cx) t4.1 _ hc180) trivial ?_
            rintro _ _ ⟨rfl, rfl⟩
            refine JL.nil ?_
            refine JY.ran #[true, true, true, true, true, true, false, false, false, false, false, false] [true, true, true] ?_
            refine JY.pur (hi := rfl) 6 #[true, true, true, true, true, true, true, false, false, false, false, false] (.tuple #[.agg #[.int .i64 t179.1.Re, .int .i64 t179.1.Im, .int .i64 t179.1.Den], .int .i64 t179.2]) (some 54) want ?_
            refine JY.pur (hi := rfl) 7 #[true, true, true, true, true, true, true, true, false, false, false, false] (.agg #[.int .i64 t179.1.Re, .int .i64 t179.1.Im, .int .i64 t179.1.Den]) (some 61) want ?_
            refine JY.pur (hi := rfl) 8 #[true, true, true, true, true, true, true, true, true, false, false, false] (.int .i64 t179.2) (some 62) want ?_
            obtain ⟨h188, h189⟩ : 0 ≤ x85 ∧ x85 < 4 := ⟨h181, h182⟩
            refine JY.puw (hi := rfl) 9 #[true, true, true, true, true, true, true, true, true, true, false, false] (.pointer (some ⟨b11, 0 + x85.toNat * 3, none⟩)) (some 63) want (givesW_ixArrD (b := b11) (o := 0) (i := x85) 4 3 .i64 h188 h189 Try.underlying25 tySize_23) ?_
            refine JY.all [10] ⟨⟨_, rfl, ?_⟩, trivial⟩
            refine JL.storeArr b11 0 0 2 25 fl_Cx ([out176.e0, out176.e1, out176.e2, out176.e3] : List Cx) x85 [.int .i64 out176.e0.Re, .int .i64 out176.e0.Im, .int .i64 out176.e0.Den, .int .i64 out176.e1.Re, .int .i64 out176.e1.Im, .int .i64 out176.e1.Den, .int .i64 out176.e2.Re, .int .i64 out176.e2.Im, .int .i64 out176.e2.Den, .int .i64 out176.e3.Re, .int .i64 out176.e3.Im, .int .i64 out176.e3.Den] [] [] t179.1 h188 h189 tySize_23 ?_
            rw [ofL4 fl_Cx (l := ([out176.e0, out176.e1, out176.e2, out176.e3] : List Cx).set x85.toNat t179.1) (by simp), earr183]
            refine JQ.turn (Δ' := [At.box b3 25 [.int .i64 0, .int .i64 0, .int .i64 0, .int .i64 0, .int .i64 0, .int .i64 0, .int .i64 0, .int .i64 0, .int .i64 0, .int .i64 0, .int .i64 0, .int .i64 0], At.box b6 23 [.int .i64 t4.1.Re, .int .i64 t4.1.Im, .int .i64 t4.1.Den], At.box b11 25 [.int .i64 arr183.e0.Re, .int .i64 arr183.e0.Im, .int .i64 arr183.e0.Den, .int .i64 arr183.e1.Re, .int .i64 arr183.e1.Im, .int .i64 arr183.e1.Den, .int .i64 arr183.e2.Re, .int .i64 arr183.e2.Im, .int .i64 arr183.e2.Den, .int .i64 arr183.e3.Re, .int .i64 arr183.e3.Im, .int .i64 arr183.e3.Den]]) (fun _ h => h.to) ?_
            refine JL.nil ?_
            refine JY.ranD #[true, true, true, true, true, true, true, true, true, true, true, false] ?_
            refine JY.pur (hi := rfl) 11 #[true, true, true, true, true, true, true, true, true, true, true, true] (.int .i64 t179.2) (some 5) want ?_
            refine JY.done ?_
            refine JQ.then_normal ?_
            refine JQ.sub [(2, .pointer (some ⟨b3, 0, none⟩)), (4, .pointer (some ⟨b6, 0, none⟩)), (5, .int .i64 t179.2), (6, .pointer (some ⟨b11, 0, none⟩)), (29, .int .i64 x85)] ?_
            refine J.seq ?_
            refine J.region ?_
            refine JL.mv (.int .i64 t179.2) ?_
            refine JL.pur (.bool (!decide (t179.2 = 0))) (some 65) ?_
            refine JL.nil ?_
            refine JQ.then_normal ?_
            refine JQ.sub [(2, .pointer (some ⟨b3, 0, none⟩)), (4, .pointer (some ⟨b6, 0, none⟩)), (5, .int .i64 t179.2), (6, .pointer (some ⟨b11, 0, none⟩)), (29, .int .i64 x85), (65, .bool (!decide (t179.2 = 0)))] ?_
            rcases ite_cases H1 with ⟨h1184, H1⟩ | ⟨h1184, H1⟩
            · refine J.cond_true h1184 ?_
              refine J.seq ?_
              refine J.region ?_
              refine JL.pur (.agg #[.int .i64 0, .int .i64 0, .int .i64 0, .int .i64 0, .int .i64 0, .int .i64 0, .int .i64 0, .int .i64 0, .int .i64 0, .int .i64 0, .int .i64 0, .int .i64 0]) (some 66) ?_
              refine JL.mv (.int .i64 t179.2) ?_
              refine JL.store 0 b3 0 25 [.int .i64 0, .int .i64 0, .int .i64 0, .int .i64 0, .int .i64 0, .int .i64 0, .int .i64 0, .int .i64 0, .int .i64 0, .int .i64 0, .int .i64 0, .int .i64 0] [.int .i64 0, .int .i64 0, .int .i64 0, .int .i64 0, .int .i64 0, .int .i64 0, .int .i64 0, .int .i64 0, .int .i64 0, .int .i64 0, .int .i64 0, .int .i64 0] tySize_25 ?_
              refine JL.as (.int .i64 t179.2) ?_
              refine JL.nil ?_
              refine JQ.then_normal ?_
              refine JQ.sub [(2, .pointer (some ⟨b3, 0, none⟩)), (3, .int .i64 t179.2)] ?_
              refine JQ.mask [At.box b3 25 [.int .i64 0, .int .i64 0, .int .i64 0, .int .i64 0, .int .i64 0, .int .i64 0, .int .i64 0, .int .i64 0, .int .i64 0, .int .i64 0, .int .i64 0, .int .i64 0]] [true, false, false] ?_
              refine J.ret ?_
              refine JQ.blk_ret ?_
              refine JQ.then_ret ?_
              refine JQ.then_ret ?_
              refine JQ.blk_ret ?_
              refine JQ.met_ret ?_
              refine JQ.then_ret ?_
              rw [hr1 _ (Option.some.inj H1).symm, fin_ret] at H0
              obtain rfl := Option.some.inj H0
              exact JQ.done' (rs := [.cell 2 25, .tmp 3]) (vs := [.agg #[.int .i64 0, .int .i64 0, .int .i64 0, .int .i64 0, .int .i64 0, .int .i64 0, .int .i64 0, .int .i64 0, .int .i64 0, .int .i64 0, .int .i64 0, .int .i64 0], .int .i64 t179.2]) [] (.inr rfl) ⟨⟨b3, 0, _, _, by kernel_rfl, by kernel_rfl, holds_box b3 25 [.int .i64 0, .int .i64 0, .int .i64 0, .int .i64 0, .int .i64 0, .int .i64 0, .int .i64 0, .int .i64 0, .int .i64 0, .int .i64 0, .int .i64 0, .int .i64 0], .inl ⟨tyAgg_25, tySize_25, rfl⟩⟩, by kernel_rfl, trivial⟩ (fun _ h => Heap.to (Heap.pick [] (by decide) h)) ⟨rfl, rfl⟩
            · refine J.cond_false h1184 ?_
              refine J.skip ?_
              refine JQ.blk_normal ?_
              refine JQ.then_normal ?_
              refine JQ.sub [(2, .pointer (some ⟨b3, 0, none⟩)), (4, .pointer (some ⟨b6, 0, none⟩)), (6, .pointer (some ⟨b11, 0, none⟩)), (29, .int .i64 x85)] ?_
              refine J.region ?_
              refine JL.pur (.int .i64 (w64 (x85 + 1))) (some 68) ?_
              refine JL.mv (.int .i64 (w64 (x85 + 1))) ?_
              refine JL.nil ?_
              refine JQ.then_normal ?_
              exact JQ.again (arr183, w64 (x85 + 1)) () (Option.some.inj H1).symm (fun _ h => Heap.to h)
        · refine J.cond_false h151 ?_
          refine J.exit ?_
          refine JQ.then_exit ?_
          refine JQ.then_exit ?_
          refine JQ.blk_exit ?_
          rw [hb1 _ (Option.some.inj H1).symm, fin_brk] at H0
          exact JQ.met out84 () H0 (fun _ h => Heap.to (Heap.pick [0, 2] (by decide) h))
      · clear hit H0
        rintro out150 ⟨⟩ H0
        replace H0 : jones_Inv.k8 out150 = some r := H0
        unfold jones_Inv.k8 at H0
        refine JQ.sub [(2, .pointer (some ⟨b3, 0, none⟩)), (6, .pointer (some ⟨b11, 0, none⟩))] ?_
        refine JQ.turn (Δ' := [At.box b3 25 [.int .i64 0, .int .i64 0, .int .i64 0, .int .i64 0, .int .i64 0, .int .i64 0, .int .i64 0, .int .i64 0, .int .i64 0, .int .i64 0, .int .i64 0, .int .i64 0], At.box b11 25 [.int .i64 out150.e0.Re, .int .i64 out150.e0.Im, .int .i64 out150.e0.Den, .int .i64 out150.e1.Re, .int .i64 out150.e1.Im, .int .i64 out150.e1.Den, .int .i64 out150.e2.Re, .int .i64 out150.e2.Im, .int .i64 out150.e2.Den, .int .i64 out150.e3.Re, .int .i64 out150.e3.Im, .int .i64 out150.e3.Den]]) (fun _ h => h.to) ?_
        refine JQ.then_normal ?_
        refine J.seq ?_
        refine J.region ?_
        refine JL.val (.agg #[.int .i64 out150.e0.Re, .int .i64 out150.e0.Im, .int .i64 out150.e0.Den, .int .i64 out150.e1.Re, .int .i64 out150.e1.Im, .int .i64 out150.e1.Den, .int .i64 out150.e2.Re, .int .i64 out150.e2.Im, .int .i64 out150.e2.Den, .int .i64 out150.e3.Re, .int .i64 out150.e3.Im, .int .i64 out150.e3.Den]) (some 69) (yields_load_boxes 1 0 [.int .i64 out150.e0.Re, .int .i64 out150.e0.Im, .int .i64 out150.e0.Den, .int .i64 out150.e1.Re, .int .i64 out150.e1.Im, .int .i64 out150.e1.Den, .int .i64 out150.e2.Re, .int .i64 out150.e2.Im, .int .i64 out150.e2.Den, .int .i64 out150.e3.Re, .int .i64 out150.e3.Im, .int .i64 out150.e3.Den] (holds_box b11 25 [.int .i64 out150.e0.Re, .int .i64 out150.e0.Im, .int .i64 out150.e0.Den, .int .i64 out150.e1.Re, .int .i64 out150.e1.Im, .int .i64 out150.e1.Den, .int .i64 out150.e2.Re, .int .i64 out150.e2.Im, .int .i64 out150.e2.Den, .int .i64 out150.e3.Re, .int .i64 out150.e3.Im, .int .i64 out150.e3.Den]) tyAgg_25 tySize_25) ?_
        refine JL.store 0 b3 0 25 [.int .i64 0, .int .i64 0, .int .i64 0, .int .i64 0, .int .i64 0, .int .i64 0, .int .i64 0, .int .i64 0, .int .i64 0, .int .i64 0, .int .i64 0, .int .i64 0] [.int .i64 out150.e0.Re, .int .i64 out150.e0.Im, .int .i64 out150.e0.Den, .int .i64 out150.e1.Re, .int .i64 out150.e1.Im, .int .i64 out150.e1.Den, .int .i64 out150.e2.Re, .int .i64 out150.e2.Im, .int .i64 out150.e2.Den, .int .i64 out150.e3.Re, .int .i64 out150.e3.Im, .int .i64 out150.e3.Den] tySize_25 ?_
        refine JL.as (.int .i64 0) ?_
        refine JL.nil ?_
        refine JQ.then_normal ?_
        refine JQ.sub [(2, .pointer (some ⟨b3, 0, none⟩)), (3, .int .i64 0)] ?_
        refine JQ.mask [At.box b3 25 [.int .i64 out150.e0.Re, .int .i64 out150.e0.Im, .int .i64 out150.e0.Den, .int .i64 out150.e1.Re, .int .i64 out150.e1.Im, .int .i64 out150.e1.Den, .int .i64 out150.e2.Re, .int .i64 out150.e2.Im, .int .i64 out150.e2.Den, .int .i64 out150.e3.Re, .int .i64 out150.e3.Im, .int .i64 out150.e3.Den]] [true, false] ?_
        refine J.ret ?_
        obtain rfl := Option.some.inj H0
        exact JQ.done' (rs := [.cell 2 25, .tmp 3]) (vs := [.agg #[.int .i64 out150.e0.Re, .int .i64 out150.e0.Im, .int .i64 out150.e0.Den, .int .i64 out150.e1.Re, .int .i64 out150.e1.Im, .int .i64 out150.e1.Den, .int .i64 out150.e2.Re, .int .i64 out150.e2.Im, .int .i64 out150.e2.Den, .int .i64 out150.e3.Re, .int .i64 out150.e3.Im, .int .i64 out150.e3.Den], .int .i64 0]) [] (.inr rfl) ⟨⟨b3, 0, _, _, by kernel_rfl, by kernel_rfl, holds_box b3 25 [.int .i64 out150.e0.Re, .int .i64 out150.e0.Im, .int .i64 out150.e0.Den, .int .i64 out150.e1.Re, .int .i64 out150.e1.Im, .int .i64 out150.e1.Den, .int .i64 out150.e2.Re, .int .i64 out150.e2.Im, .int .i64 out150.e2.Den, .int .i64 out150.e3.Re, .int .i64 out150.e3.Im, .int .i64 out150.e3.Den], .inl ⟨tyAgg_25, tySize_25, rfl⟩⟩, by kernel_rfl, trivial⟩ (fun _ h => Heap.to (Heap.pick [] (by decide) h)) ⟨rfl, rfl⟩

theorem ref25_Zero.ok (a1 : Cx) (r : Bool) (H0 : ref25_Zero.f a1 = some r) :
    Does Try.prog 26 [.agg #[.int .i64 a1.Re, .int .i64 a1.Im, .int .i64 a1.Den]].toArray [] [] false (fun v Δ => v = .bool r ∧ Δ = []) := by
  refine Does.body (vs := [.agg #[.int .i64 a1.Re, .int .i64 a1.Im, .int .i64 a1.Den]]) Try.func26 rfl trivial trivial fun w S => ?_
  unfold ref25_Zero.f at H0
  refine J.seq ?_
  refine J.region ?_
  refine JL.box [.int .i64 a1.Re, .int .i64 a1.Im, .int .i64 a1.Den] fun b2 => ?_
  refine JL.as (.bool false) ?_
  refine JL.nil ?_
  refine JQ.then_normal ?_
  refine JQ.sub [(1, .pointer (some ⟨b2, 0, none⟩))] ?_
  refine J.seq ?_
  refine J.region ?_
  refine JL.pur (.pointer (some ⟨b2, 0, none⟩)) (some 3) ?_
  refine JL.val (.int .i64 a1.Re) (some 4) (yields_load_box 0 0 (holds_box b2 23 [.int .i64 a1.Re, .int .i64 a1.Im, .int .i64 a1.Den]) tyAgg_2) ?_
  refine JL.pur (.bool (decide (a1.Re = 0))) (some 5) ?_
  refine JL.mv (.bool (decide (a1.Re = 0))) ?_
  rcases ite_cases H0 with ⟨h3, H0⟩ | ⟨h3, H0⟩
  · refine JL.on 3 6 h3 ?_
    refine JL.pur (.pointer (some ⟨b2, 1, none⟩)) (some 7) ?_
    refine JL.on 3 6 h3 ?_
    refine JL.val (.int .i64 a1.Im) (some 8) (yields_load_box 0 1 (holds_box b2 23 [.int .i64 a1.Re, .int .i64 a1.Im, .int .i64 a1.Den]) tyAgg_2) ?_
    refine JL.on 3 6 h3 ?_
    refine JL.pur (.bool (decide (a1.Im = 0))) (some 9) ?_
    refine JL.val (.bool (decide (a1.Im = 0))) (some 10) (gives_pickT h3) ?_
    refine JL.as (.bool (decide (a1.Im = 0))) ?_
    refine JL.nil ?_
    refine JQ.then_normal ?_
    refine JQ.sub [(2, .bool (decide (a1.Im = 0)))] ?_
    refine JQ.mask [] [false] ?_
    refine J.ret ?_
    obtain rfl := Option.some.inj H0
    exact JQ.done' (rs := [.tmp 2]) (vs := [.bool (decide (a1.Im = 0))]) [] (.inr rfl) ⟨by kernel_rfl, trivial⟩ (fun _ h => Heap.to h) ⟨rfl, rfl⟩
  · refine JL.off 3 6 true (some 7) h3 ?_
    refine JL.off 3 6 true (some 8) h3 ?_
    refine JL.off 3 6 true (some 9) h3 ?_
    refine JL.val (.bool false) (some 10) (gives_pickF h3) ?_
    refine JL.as (.bool false) ?_
    refine JL.nil ?_
    refine JQ.then_normal ?_
    refine JQ.sub [(2, .bool false)] ?_
    refine JQ.mask [] [false] ?_
    refine J.ret ?_
    obtain rfl := Option.some.inj H0
    exact JQ.done' (rs := [.tmp 2]) (vs := [.bool false]) [] (.inr rfl) ⟨by kernel_rfl, trivial⟩ (fun _ h => Heap.to h) ⟨rfl, rfl⟩

theorem ref25_Div.ok (a1 : Cx) (b2 : Cx) (r : (Cx × Int)) (H0 : ref25_Div.f a1 b2 = some r) :
    Does Try.prog 46 [.agg #[.int .i64 a1.Re, .int .i64 a1.Im, .int .i64 a1.Den], .agg #[.int .i64 b2.Re, .int .i64 b2.Im, .int .i64 b2.Den]].toArray [] [] false (fun v Δ => v = .tuple #[.agg #[.int .i64 r.1.Re, .int .i64 r.1.Im, .int .i64 r.1.Den], .int .i64 r.2] ∧ Δ = []) := by
  refine Does.body (vs := [.agg #[.int .i64 a1.Re, .int .i64 a1.Im, .int .i64 a1.Den], .agg #[.int .i64 b2.Re, .int .i64 b2.Im, .int .i64 b2.Den]]) Try.func46 rfl trivial trivial fun w S => ?_
  unfold ref25_Div.f at H0
  refine J.seq ?_
  refine J.region ?_
  refine JL.box [.int .i64 a1.Re, .int .i64 a1.Im, .int .i64 a1.Den] fun b3 => ?_
  refine JL.box [.int .i64 b2.Re, .int .i64 b2.Im, .int .i64 b2.Den] fun b4 => ?_
  refine JL.alloc [.int .i64 0, .int .i64 0, .int .i64 0] fun b5 => ?_
  refine JL.as (.int .i64 0) ?_
  refine JL.nil ?_
  refine JQ.then_normal ?_
  refine JQ.sub [(2, .pointer (some ⟨b3, 0, none⟩)), (3, .pointer (some ⟨b4, 0, none⟩)), (4, .pointer (some ⟨b5, 0, none⟩))] ?_
  refine J.seq ?_
  refine J.seq ?_
  refine J.region ?_
  refine JL.val (.agg #[.int .i64 a1.Re, .int .i64 a1.Im, .int .i64 a1.Den]) (some 12) (yields_load_boxes 0 0 [.int .i64 a1.Re, .int .i64 a1.Im, .int .i64 a1.Den] (holds_box b3 23 [.int .i64 a1.Re, .int .i64 a1.Im, .int .i64 a1.Den]) tyAgg_23 tySize_23) ?_
  refine JL.val (.agg #[.int .i64 b2.Re, .int .i64 b2.Im, .int .i64 b2.Den]) (some 13) (yields_load_boxes 1 0 [.int .i64 b2.Re, .int .i64 b2.Im, .int .i64 b2.Den] (holds_box b4 23 [.int .i64 b2.Re, .int .i64 b2.Im, .int .i64 b2.Den]) tyAgg_23 tySize_23) ?_
  obtain ⟨t6, hc7, H0⟩ := bind_some H0
  refine JL.call [] [] [] (ref25_Both.ok a1 b2 _ hc7) trivial ?_
  rintro _ _ ⟨rfl, rfl⟩
  refine JL.pur (.bool (!decide (t6 = 0))) (some 15) ?_
  refine JL.nil ?_
  refine JQ.then_normal ?_
  refine JQ.sub [(2, .pointer (some ⟨b3, 0, none⟩)), (3, .pointer (some ⟨b4, 0, none⟩)), (4, .pointer (some ⟨b5, 0, none⟩)), (15, .bool (!decide (t6 = 0)))] ?_
  rcases ite_cases H0 with ⟨h8, H0⟩ | ⟨h8, H0⟩
  · refine J.cond_true h8 ?_
    refine J.seq ?_
    refine J.region ?_
    refine JL.pur (.agg #[.int .i64 0, .int .i64 0, .int .i64 0]) (some 16) ?_
    refine JL.store 2 b5 0 23 [.int .i64 0, .int .i64 0, .int .i64 0] [.int .i64 0, .int .i64 0, .int .i64 0] tySize_23 ?_
    refine JL.as (.int .i64 8) ?_
    refine JL.nil ?_
    refine JQ.then_normal ?_
    refine JQ.sub [(4, .pointer (some ⟨b5, 0, none⟩)), (5, .int .i64 8)] ?_
    refine JQ.mask [At.box b5 23 [.int .i64 0, .int .i64 0, .int .i64 0]] [false, false, true] ?_
    refine J.ret ?_
    refine JQ.then_ret ?_
    obtain rfl := Option.some.inj H0
    exact JQ.done' (rs := [.cell 4 23, .tmp 5]) (vs := [.agg #[.int .i64 0, .int .i64 0, .int .i64 0], .int .i64 8]) [] (.inr rfl) ⟨⟨b5, 0, _, _, by kernel_rfl, by kernel_rfl, holds_box b5 23 [.int .i64 0, .int .i64 0, .int .i64 0], .inl ⟨tyAgg_23, tySize_23, rfl⟩⟩, by kernel_rfl, trivial⟩ (fun _ h => Heap.to (Heap.pick [] (by decide) h)) ⟨rfl, rfl⟩
  · refine J.cond_false h8 ?_
    refine J.skip ?_
    refine JQ.then_normal ?_
    refine JQ.sub [(2, .pointer (some ⟨b3, 0, none⟩)), (3, .pointer (some ⟨b4, 0, none⟩)), (4, .pointer (some ⟨b5, 0, none⟩))] ?_
    refine J.seq ?_
    refine J.join (T := Bool) (G := Unit) (fun t => ref25_Div.k1 a1 b2 t = some r) (fun t g => [(2, .pointer (some ⟨b3, 0, none⟩)), (3, .pointer (some ⟨b4, 0, none⟩)), (4, .pointer (some ⟨b5, 0, none⟩)), (24, .bool t)]) (fun t g => [At.box b3 23 [.int .i64 a1.Re, .int .i64 a1.Im, .int .i64 a1.Den], At.box b4 23 [.int .i64 b2.Re, .int .i64 b2.Im, .int .i64 b2.Den], At.box b5 23 [.int .i64 0, .int .i64 0, .int .i64 0]]) ?_ ?_
    · refine J.region ?_
      refine JL.pur (.pointer (some ⟨b4, 0, none⟩)) (some 17) ?_
      refine JL.val (.int .i64 b2.Re) (some 18) (yields_load_box 1 0 (holds_box b4 23 [.int .i64 b2.Re, .int .i64 b2.Im, .int .i64 b2.Den]) tyAgg_2) ?_
      refine JL.pur (.bool (decide (b2.Re = 0))) (some 19) ?_
      refine JL.mv (.bool (decide (b2.Re = 0))) ?_
      rcases ite_cases H0 with ⟨h72, H0⟩ | ⟨h72, H0⟩
      · refine JL.on 3 20 h72 ?_
        refine JL.pur (.pointer (some ⟨b4, 1, none⟩)) (some 21) ?_
        refine JL.on 3 20 h72 ?_
        refine JL.val (.int .i64 b2.Im) (some 22) (yields_load_box 1 1 (holds_box b4 23 [.int .i64 b2.Re, .int .i64 b2.Im, .int .i64 b2.Den]) tyAgg_2) ?_
        refine JL.on 3 20 h72 ?_
        refine JL.pur (.bool (decide (b2.Im = 0))) (some 23) ?_
        refine JL.val (.bool (decide (b2.Im = 0))) (some 24) (gives_pickT h72) ?_
        refine JL.nil ?_
        refine JQ.then_normal ?_
        exact JQ.meet (decide (b2.Im = 0)) () H0 (fun _ h => Heap.to h)
      · refine JL.off 3 20 true (some 21) h72 ?_
        refine JL.off 3 20 true (some 22) h72 ?_
        refine JL.off 3 20 true (some 23) h72 ?_
        refine JL.val (.bool false) (some 24) (gives_pickF h72) ?_
        refine JL.nil ?_
        refine JQ.then_normal ?_
        exact JQ.meet false () H0 (fun _ h => Heap.to h)
    · clear H0
      rintro x10 ⟨⟩ H0
      replace H0 : ref25_Div.k1 a1 b2 x10 = some r := H0
      unfold ref25_Div.k1 at H0
      refine JQ.sub [(2, .pointer (some ⟨b3, 0, none⟩)), (3, .pointer (some ⟨b4, 0, none⟩)), (4, .pointer (some ⟨b5, 0, none⟩)), (24, .bool x10)] ?_
      refine JQ.turn (Δ' := [At.box b3 23 [.int .i64 a1.Re, .int .i64 a1.Im, .int .i64 a1.Den], At.box b4 23 [.int .i64 b2.Re, .int .i64 b2.Im, .int .i64 b2.Den], At.box b5 23 [.int .i64 0, .int .i64 0, .int .i64 0]]) (fun _ h => h.to) ?_
      rcases ite_cases H0 with ⟨h11, H0⟩ | ⟨h11, H0⟩
      · refine J.cond_true h11 ?_
        refine J.seq ?_
        refine J.region ?_
        refine JL.pur (.agg #[.int .i64 0, .int .i64 0, .int .i64 0]) (some 25) ?_
        refine JL.store 2 b5 0 23 [.int .i64 0, .int .i64 0, .int .i64 0] [.int .i64 0, .int .i64 0, .int .i64 0] tySize_23 ?_
        refine JL.as (.int .i64 18) ?_
        refine JL.nil ?_
        refine JQ.then_normal ?_
        refine JQ.sub [(4, .pointer (some ⟨b5, 0, none⟩)), (5, .int .i64 18)] ?_
        refine JQ.mask [At.box b5 23 [.int .i64 0, .int .i64 0, .int .i64 0]] [false, false, true] ?_
        refine J.ret ?_
        refine JQ.then_ret ?_
        obtain rfl := Option.some.inj H0
        exact JQ.done' (rs := [.cell 4 23, .tmp 5]) (vs := [.agg #[.int .i64 0, .int .i64 0, .int .i64 0], .int .i64 18]) [] (.inr rfl) ⟨⟨b5, 0, _, _, by kernel_rfl, by kernel_rfl, holds_box b5 23 [.int .i64 0, .int .i64 0, .int .i64 0], .inl ⟨tyAgg_23, tySize_23, rfl⟩⟩, by kernel_rfl, trivial⟩ (fun _ h => Heap.to (Heap.pick [] (by decide) h)) ⟨rfl, rfl⟩
      · refine J.cond_false h11 ?_
        refine J.skip ?_
        refine JQ.then_normal ?_
        refine JQ.sub [(2, .pointer (some ⟨b3, 0, none⟩)), (3, .pointer (some ⟨b4, 0, none⟩)), (4, .pointer (some ⟨b5, 0, none⟩))] ?_
        refine J.seq ?_
        refine J.draw ?_
        refine QL.pur (.pointer (some ⟨b3, 0, none⟩)) (some 26) ?_
        refine QL.val (.int .i64 a1.Re) (some 27) (yields_load_box 0 0 (holds_box b3 23 [.int .i64 a1.Re, .int .i64 a1.Im, .int .i64 a1.Den]) tyAgg_2) ?_
        refine QL.pur (.pointer (some ⟨b4, 0, none⟩)) (some 28) ?_
        refine QL.val (.int .i64 b2.Re) (some 29) (yields_load_box 1 0 (holds_box b4 23 [.int .i64 b2.Re, .int .i64 b2.Im, .int .i64 b2.Den]) tyAgg_2) ?_
        refine QL.pur (.int .i64 (w64 (a1.Re * b2.Re))) (some 30) ?_
        refine QL.pur (.pointer (some ⟨b3, 1, none⟩)) (some 31) ?_
        refine QL.val (.int .i64 a1.Im) (some 32) (yields_load_box 0 1 (holds_box b3 23 [.int .i64 a1.Re, .int .i64 a1.Im, .int .i64 a1.Den]) tyAgg_2) ?_
        refine QL.pur (.pointer (some ⟨b4, 1, none⟩)) (some 33) ?_
        refine QL.val (.int .i64 b2.Im) (some 34) (yields_load_box 1 1 (holds_box b4 23 [.int .i64 b2.Re, .int .i64 b2.Im, .int .i64 b2.Den]) tyAgg_2) ?_
        refine QL.pur (.int .i64 (w64 (a1.Im * b2.Im))) (some 35) ?_
        refine QL.pur (.int .i64 (w64 ((w64 (a1.Re * b2.Re)) + (w64 (a1.Im * b2.Im))))) (some 36) ?_
        refine QL.pur (.pointer (some ⟨b3, 1, none⟩)) (some 37) ?_
        refine QL.val (.int .i64 a1.Im) (some 38) (yields_load_box 0 1 (holds_box b3 23 [.int .i64 a1.Re, .int .i64 a1.Im, .int .i64 a1.Den]) tyAgg_2) ?_
        refine QL.pur (.pointer (some ⟨b4, 0, none⟩)) (some 39) ?_
        refine QL.val (.int .i64 b2.Re) (some 40) (yields_load_box 1 0 (holds_box b4 23 [.int .i64 b2.Re, .int .i64 b2.Im, .int .i64 b2.Den]) tyAgg_2) ?_
        refine QL.pur (.int .i64 (w64 (a1.Im * b2.Re))) (some 41) ?_
        refine QL.pur (.pointer (some ⟨b3, 0, none⟩)) (some 42) ?_
        refine QL.val (.int .i64 a1.Re) (some 43) (yields_load_box 0 0 (holds_box b3 23 [.int .i64 a1.Re, .int .i64 a1.Im, .int .i64 a1.Den]) tyAgg_2) ?_
        refine QL.pur (.pointer (some ⟨b4, 1, none⟩)) (some 44) ?_
        refine QL.val (.int .i64 b2.Im) (some 45) (yields_load_box 1 1 (holds_box b4 23 [.int .i64 b2.Re, .int .i64 b2.Im, .int .i64 b2.Den]) tyAgg_2) ?_
        refine QL.pur (.int .i64 (w64 (a1.Re * b2.Im))) (some 46) ?_
        refine QL.pur (.int .i64 (w64 ((w64 (a1.Im * b2.Re)) - (w64 (a1.Re * b2.Im))))) (some 47) ?_
        obtain ⟨p12, ep12, H0⟩ := lt_some H0
        refine QL.as' (k := .i64) p12 ep12 ?_
        obtain ⟨q13, eq13, H0⟩ := lt_some H0
        refine QL.as' (k := .i64) q13 eq13 ?_
        refine QL.nil ?_
        refine JA.nil ?_
        refine JQ.then_normal ?_
        refine JQ.sub [(2, .pointer (some ⟨b3, 0, none⟩)), (3, .pointer (some ⟨b4, 0, none⟩)), (4, .pointer (some ⟨b5, 0, none⟩)), (6, .int .i64 p12), (7, .int .i64 q13)] ?_
        refine J.seq ?_
        refine J.draw ?_
        refine QL.pur (.pointer (some ⟨b4, 0, none⟩)) (some 48) ?_
        refine QL.val (.int .i64 b2.Re) (some 49) (yields_load_box 1 0 (holds_box b4 23 [.int .i64 b2.Re, .int .i64 b2.Im, .int .i64 b2.Den]) tyAgg_2) ?_
        refine QL.pur (.pointer (some ⟨b4, 0, none⟩)) (some 50) ?_
        refine QL.val (.int .i64 b2.Re) (some 51) (yields_load_box 1 0 (holds_box b4 23 [.int .i64 b2.Re, .int .i64 b2.Im, .int .i64 b2.Den]) tyAgg_2) ?_
        refine QL.pur (.int .i64 (w64 (b2.Re * b2.Re))) (some 52) ?_
        refine QL.pur (.pointer (some ⟨b4, 1, none⟩)) (some 53) ?_
        refine QL.val (.int .i64 b2.Im) (some 54) (yields_load_box 1 1 (holds_box b4 23 [.int .i64 b2.Re, .int .i64 b2.Im, .int .i64 b2.Den]) tyAgg_2) ?_
        refine QL.pur (.pointer (some ⟨b4, 1, none⟩)) (some 55) ?_
        refine QL.val (.int .i64 b2.Im) (some 56) (yields_load_box 1 1 (holds_box b4 23 [.int .i64 b2.Re, .int .i64 b2.Im, .int .i64 b2.Den]) tyAgg_2) ?_
        refine QL.pur (.int .i64 (w64 (b2.Im * b2.Im))) (some 57) ?_
        refine QL.pur (.int .i64 (w64 ((w64 (b2.Re * b2.Re)) + (w64 (b2.Im * b2.Im))))) (some 58) ?_
        refine QL.pur (.pointer (some ⟨b4, 2, none⟩)) (some 59) ?_
        refine QL.val (.int .i64 b2.Den) (some 60) (yields_load_box 1 2 (holds_box b4 23 [.int .i64 b2.Re, .int .i64 b2.Im, .int .i64 b2.Den]) tyAgg_2) ?_
        refine QL.pur (.pointer (some ⟨b3, 2, none⟩)) (some 61) ?_
        refine QL.val (.int .i64 a1.Den) (some 62) (yields_load_box 0 2 (holds_box b3 23 [.int .i64 a1.Re, .int .i64 a1.Im, .int .i64 a1.Den]) tyAgg_2) ?_
        obtain ⟨n14, en14, H0⟩ := lt_some H0
        refine QL.as' (k := .i64) n14 en14 ?_
        refine QL.as (.int .i64 b2.Den) ?_
        refine QL.as (.int .i64 a1.Den) ?_
        refine QL.nil ?_
        refine JA.nil ?_
        refine JQ.then_normal ?_
        refine JQ.sub [(4, .pointer (some ⟨b5, 0, none⟩)), (6, .int .i64 p12), (7, .int .i64 q13), (8, .int .i64 n14), (9, .int .i64 b2.Den), (10, .int .i64 a1.Den)] ?_
        refine JQ.mask [At.box b5 23 [.int .i64 0, .int .i64 0, .int .i64 0]] [false, false, true] ?_
        refine J.seq ?_
        refine J.region ?_
        refine JL.mv (.int .i64 p12) ?_
        refine JL.mv (.int .i64 q13) ?_
        obtain ⟨t15, hc16, H0⟩ := bind_some H0
        refine JL.call [] [] [] (ref25_Gcd.ok p12 q13 _ hc16) trivial ?_
        rintro _ _ ⟨rfl, rfl⟩
        refine JL.mv (.int .i64 n14) ?_
        obtain ⟨t17, hc18, H0⟩ := bind_some H0
        refine JL.call [] [] [] (ref25_Gcd.ok t15 n14 _ hc18) trivial ?_
        rintro _ _ ⟨rfl, rfl⟩
        refine JL.as (.int .i64 t17) ?_
        refine JL.nil ?_
        refine JQ.then_normal ?_
        refine JQ.sub [(4, .pointer (some ⟨b5, 0, none⟩)), (6, .int .i64 p12), (7, .int .i64 q13), (8, .int .i64 n14), (9, .int .i64 b2.Den), (10, .int .i64 a1.Den), (11, .int .i64 t17)] ?_
        refine J.seq ?_
        refine J.draw ?_
        refine QL.mv (.int .i64 p12) ?_
        refine QL.mv (.int .i64 t17) ?_
        obtain ⟨h19, H0⟩ := ite_must H0
        refine QL.val (.int .i64 (w64 (Int.tdiv p12 t17))) (some 70) (gives_quo .i64 p12 t17 h19) ?_
        refine QL.mv (.int .i64 q13) ?_
        refine QL.mv (.int .i64 t17) ?_
        obtain ⟨h20, H0⟩ := ite_must H0
        refine QL.val (.int .i64 (w64 (Int.tdiv q13 t17))) (some 73) (gives_quo .i64 q13 t17 h20) ?_
        refine QL.mv (.int .i64 n14) ?_
        refine QL.mv (.int .i64 t17) ?_
        obtain ⟨h21, H0⟩ := ite_must H0
        refine QL.val (.int .i64 (w64 (Int.tdiv n14 t17))) (some 76) (gives_quo .i64 n14 t17 h21) ?_
        obtain ⟨p22, ep22, H0⟩ := lt_some H0
        refine QL.as' (k := .i64) p22 ep22 ?_
        obtain ⟨q23, eq23, H0⟩ := lt_some H0
        refine QL.as' (k := .i64) q23 eq23 ?_
        obtain ⟨n24, en24, H0⟩ := lt_some H0
        refine QL.as' (k := .i64) n24 en24 ?_
        refine QL.nil ?_
        refine JA.nil ?_
        refine JQ.then_normal ?_
        refine JQ.sub [(4, .pointer (some ⟨b5, 0, none⟩)), (6, .int .i64 p22), (7, .int .i64 q23), (8, .int .i64 n24), (9, .int .i64 b2.Den), (10, .int .i64 a1.Den)] ?_
        refine J.seq ?_
        refine J.region ?_
        refine JL.mv (.int .i64 b2.Den) ?_
        refine JL.mv (.int .i64 a1.Den) ?_
        obtain ⟨t25, hc26, H0⟩ := bind_some H0
        refine JL.call [] [] [] (ref25_Gcd.ok b2.Den a1.Den _ hc26) trivial ?_
        rintro _ _ ⟨rfl, rfl⟩
        refine JL.as (.int .i64 t25) ?_
        refine JL.nil ?_
        refine JQ.then_normal ?_
        refine JQ.sub [(4, .pointer (some ⟨b5, 0, none⟩)), (6, .int .i64 p22), (7, .int .i64 q23), (8, .int .i64 n24), (9, .int .i64 b2.Den), (10, .int .i64 a1.Den), (11, .int .i64 t25)] ?_
        refine J.seq ?_
        refine J.draw ?_
        refine QL.mv (.int .i64 b2.Den) ?_
        refine QL.mv (.int .i64 t25) ?_
        obtain ⟨h27, H0⟩ := ite_must H0
        refine QL.val (.int .i64 (w64 (Int.tdiv b2.Den t25))) (some 82) (gives_quo .i64 b2.Den t25 h27) ?_
        refine QL.mv (.int .i64 a1.Den) ?_
        refine QL.mv (.int .i64 t25) ?_
        obtain ⟨h28, H0⟩ := ite_must H0
        refine QL.val (.int .i64 (w64 (Int.tdiv a1.Den t25))) (some 85) (gives_quo .i64 a1.Den t25 h28) ?_
        obtain ⟨d29, ed29, H0⟩ := lt_some H0
        refine QL.as' (k := .i64) d29 ed29 ?_
        obtain ⟨e30, ee30, H0⟩ := lt_some H0
        refine QL.as' (k := .i64) e30 ee30 ?_
        refine QL.nil ?_
        refine JA.nil ?_
        refine JQ.then_normal ?_
        refine JQ.sub [(4, .pointer (some ⟨b5, 0, none⟩)), (6, .int .i64 p22), (7, .int .i64 q23), (8, .int .i64 n24), (9, .int .i64 d29), (10, .int .i64 e30)] ?_
        refine J.seq ?_
        refine J.region ?_
        refine JL.mv (.int .i64 d29) ?_
        refine JL.mv (.int .i64 n24) ?_
        obtain ⟨t31, hc32, H0⟩ := bind_some H0
        refine JL.call [] [] [] (ref25_Gcd.ok d29 n24 _ hc32) trivial ?_
        rintro _ _ ⟨rfl, rfl⟩
        refine JL.as (.int .i64 t31) ?_
        refine JL.nil ?_
        refine JQ.then_normal ?_
        refine JQ.sub [(4, .pointer (some ⟨b5, 0, none⟩)), (6, .int .i64 p22), (7, .int .i64 q23), (8, .int .i64 n24), (9, .int .i64 d29), (10, .int .i64 e30), (11, .int .i64 t31)] ?_
        refine J.seq ?_
        refine J.draw ?_
        refine QL.mv (.int .i64 d29) ?_
        refine QL.mv (.int .i64 t31) ?_
        obtain ⟨h33, H0⟩ := ite_must H0
        refine QL.val (.int .i64 (w64 (Int.tdiv d29 t31))) (some 91) (gives_quo .i64 d29 t31 h33) ?_
        refine QL.mv (.int .i64 n24) ?_
        refine QL.mv (.int .i64 t31) ?_
        obtain ⟨h34, H0⟩ := ite_must H0
        refine QL.val (.int .i64 (w64 (Int.tdiv n24 t31))) (some 94) (gives_quo .i64 n24 t31 h34) ?_
        obtain ⟨d35, ed35, H0⟩ := lt_some H0
        refine QL.as' (k := .i64) d35 ed35 ?_
        obtain ⟨n36, en36, H0⟩ := lt_some H0
        refine QL.as' (k := .i64) n36 en36 ?_
        refine QL.nil ?_
        refine JA.nil ?_
        refine JQ.then_normal ?_
        refine JQ.sub [(4, .pointer (some ⟨b5, 0, none⟩)), (6, .int .i64 p22), (7, .int .i64 q23), (8, .int .i64 n36), (9, .int .i64 d35), (10, .int .i64 e30)] ?_
        refine J.seq ?_
        refine J.region ?_
        refine JL.mv (.int .i64 p22) ?_
        refine JL.mv (.int .i64 q23) ?_
        obtain ⟨t37, hc38, H0⟩ := bind_some H0
        refine JL.call [] [] [] (ref25_Gcd.ok p22 q23 _ hc38) trivial ?_
        rintro _ _ ⟨rfl, rfl⟩
        refine JL.mv (.int .i64 e30) ?_
        obtain ⟨t39, hc40, H0⟩ := bind_some H0
        refine JL.call [] [] [] (ref25_Gcd.ok t37 e30 _ hc40) trivial ?_
        rintro _ _ ⟨rfl, rfl⟩
        refine JL.as (.int .i64 t39) ?_
        refine JL.nil ?_
        refine JQ.then_normal ?_
        refine JQ.sub [(4, .pointer (some ⟨b5, 0, none⟩)), (6, .int .i64 p22), (7, .int .i64 q23), (8, .int .i64 n36), (9, .int .i64 d35), (10, .int .i64 e30), (11, .int .i64 t39)] ?_
        refine J.join (T := (Int × Int × Int)) (G := Unit) (fun t => ref25_Div.k2 d35 n36 t.1 t.2.1 t.2.2 = some r) (fun t g => [(4, .pointer (some ⟨b5, 0, none⟩)), (6, .int .i64 t.1), (7, .int .i64 t.2.1), (8, .int .i64 n36), (9, .int .i64 d35), (10, .int .i64 t.2.2)]) (fun t g => [At.box b5 23 [.int .i64 0, .int .i64 0, .int .i64 0]]) ?_ ?_
        · refine J.seq ?_
          refine J.region ?_
          refine JL.mv (.int .i64 t39) ?_
          refine JL.pur (.bool (decide (0 < t39))) (some 101) ?_
          refine JL.nil ?_
          refine JQ.then_normal ?_
          refine JQ.sub [(4, .pointer (some ⟨b5, 0, none⟩)), (6, .int .i64 p22), (7, .int .i64 q23), (8, .int .i64 n36), (9, .int .i64 d35), (10, .int .i64 e30), (11, .int .i64 t39), (101, .bool (decide (0 < t39)))] ?_
          rcases ite_cases H0 with ⟨h65, H0⟩ | ⟨h65, H0⟩
          · refine J.cond_true h65 ?_
            refine J.draw ?_
            refine QL.mv (.int .i64 p22) ?_
            refine QL.mv (.int .i64 t39) ?_
            obtain ⟨h66, H0⟩ := ite_must H0
            refine QL.val (.int .i64 (w64 (Int.tdiv p22 t39))) (some 104) (gives_quo .i64 p22 t39 h66) ?_
            refine QL.mv (.int .i64 q23) ?_
            refine QL.mv (.int .i64 t39) ?_
            obtain ⟨h67, H0⟩ := ite_must H0
            refine QL.val (.int .i64 (w64 (Int.tdiv q23 t39))) (some 107) (gives_quo .i64 q23 t39 h67) ?_
            refine QL.mv (.int .i64 e30) ?_
            refine QL.mv (.int .i64 t39) ?_
            obtain ⟨h68, H0⟩ := ite_must H0
            refine QL.val (.int .i64 (w64 (Int.tdiv e30 t39))) (some 110) (gives_quo .i64 e30 t39 h68) ?_
            obtain ⟨p69, ep69, H0⟩ := lt_some H0
            refine QL.as' (k := .i64) p69 ep69 ?_
            obtain ⟨q70, eq70, H0⟩ := lt_some H0
            refine QL.as' (k := .i64) q70 eq70 ?_
            obtain ⟨e71, ee71, H0⟩ := lt_some H0
            refine QL.as' (k := .i64) e71 ee71 ?_
            refine QL.nil ?_
            refine JA.nil ?_
            refine JQ.then_normal ?_
            exact JQ.meet (p69, q70, e71) () H0 (fun _ h => Heap.to h)
          · refine J.cond_false h65 ?_
            refine J.skip ?_
            refine JQ.then_normal ?_
            exact JQ.meet (p22, q23, e30) () H0 (fun _ h => Heap.to h)
        · clear H0
          rintro ⟨p48, q49, e50⟩ ⟨⟩ H0
          replace H0 : ref25_Div.k2 d35 n36 p48 q49 e50 = some r := H0
          unfold ref25_Div.k2 at H0
          refine JQ.sub [(4, .pointer (some ⟨b5, 0, none⟩)), (6, .int .i64 p48), (7, .int .i64 q49), (8, .int .i64 n36), (9, .int .i64 d35), (10, .int .i64 e50)] ?_
          refine JQ.turn (Δ' := [At.box b5 23 [.int .i64 0, .int .i64 0, .int .i64 0]]) (fun _ h => h.to) ?_
          refine J.seq ?_
          refine J.join (T := Bool) (G := Unit) (fun t => ref25_Div.k3 d35 n36 p48 q49 e50 t = some r) (fun t g => [(4, .pointer (some ⟨b5, 0, none⟩)), (6, .int .i64 p48), (7, .int .i64 q49), (8, .int .i64 n36), (9, .int .i64 d35), (10, .int .i64 e50), (132, .bool t)]) (fun t g => [At.box b5 23 [.int .i64 0, .int .i64 0, .int .i64 0]]) ?_ ?_
          · refine J.region ?_
            refine JL.mv (.int .i64 p48) ?_
            refine JL.mv (.int .i64 p48) ?_
            refine JL.pur (.int .i64 (w64 (0 - p48))) (some 113) ?_
            refine JL.pur (.int .i64 (gmax p48 (w64 (0 - p48)))) (some 114) ?_
            refine JL.mv (.int .i64 d35) ?_
            obtain ⟨h60, H0⟩ := ite_must H0
            refine JL.val (.int .i64 (w64 (Int.tdiv 1000000000 d35))) (some 116) (gives_quo .i64 1000000000 d35 h60) ?_
            refine JL.pur (.bool (decide (w64 (Int.tdiv 1000000000 d35) < gmax p48 (w64 (0 - p48))))) (some 117) ?_
            refine JL.mv (.bool (decide (w64 (Int.tdiv 1000000000 d35) < gmax p48 (w64 (0 - p48))))) ?_
            rcases ite_cases H0 with ⟨h61, H0⟩ | ⟨h61, H0⟩
            · refine JL.off 7 118 false (some 119) h61 ?_
              refine JL.off 7 118 false (some 120) h61 ?_
              refine JL.off 7 118 false (some 121) h61 ?_
              refine JL.off 7 118 false (some 122) h61 ?_
              refine JL.off 7 118 false (some 123) h61 ?_
              refine JL.off 7 118 false (some 124) h61 ?_
              refine JL.off 7 118 false (some 125) h61 ?_
              refine JL.val (.bool true) (some 126) (gives_pickT h61) ?_
              refine JL.mv (.bool true) ?_
              refine JL.off 16 127 false (some 128) rfl ?_
              refine JL.off 16 127 false (some 129) rfl ?_
              refine JL.off 16 127 false (some 130) rfl ?_
              refine JL.off 16 127 false (some 131) rfl ?_
              refine JL.val (.bool true) (some 132) (gives_pickT rfl) ?_
              refine JL.nil ?_
              refine JQ.then_normal ?_
              exact JQ.meet true () H0 (fun _ h => Heap.to h)
            · refine JL.on 7 118 h61 ?_
              refine JL.mv (.int .i64 q49) ?_
              refine JL.on 7 118 h61 ?_
              refine JL.mv (.int .i64 q49) ?_
              refine JL.on 7 118 h61 ?_
              refine JL.pur (.int .i64 (w64 (0 - q49))) (some 121) ?_
              refine JL.on 7 118 h61 ?_
              refine JL.pur (.int .i64 (gmax q49 (w64 (0 - q49)))) (some 122) ?_
              refine JL.on 7 118 h61 ?_
              refine JL.mv (.int .i64 d35) ?_
              refine JL.on 7 118 h61 ?_
              obtain ⟨h62, H0⟩ := ite_must H0
              refine JL.val (.int .i64 (w64 (Int.tdiv 1000000000 d35))) (some 124) (gives_quo .i64 1000000000 d35 h62) ?_
              refine JL.on 7 118 h61 ?_
              refine JL.pur (.bool (decide (w64 (Int.tdiv 1000000000 d35) < gmax q49 (w64 (0 - q49))))) (some 125) ?_
              refine JL.val (.bool (decide (w64 (Int.tdiv 1000000000 d35) < gmax q49 (w64 (0 - q49))))) (some 126) (gives_pickF h61) ?_
              refine JL.mv (.bool (decide (w64 (Int.tdiv 1000000000 d35) < gmax q49 (w64 (0 - q49))))) ?_
              rcases ite_cases H0 with ⟨h63, H0⟩ | ⟨h63, H0⟩
              · refine JL.off 16 127 false (some 128) h63 ?_
                refine JL.off 16 127 false (some 129) h63 ?_
                refine JL.off 16 127 false (some 130) h63 ?_
                refine JL.off 16 127 false (some 131) h63 ?_
                refine JL.val (.bool true) (some 132) (gives_pickT h63) ?_
                refine JL.nil ?_
                refine JQ.then_normal ?_
                exact JQ.meet true () H0 (fun _ h => Heap.to h)
              · refine JL.on 16 127 h63 ?_
                refine JL.mv (.int .i64 n36) ?_
                refine JL.on 16 127 h63 ?_
                refine JL.mv (.int .i64 e50) ?_
                refine JL.on 16 127 h63 ?_
                obtain ⟨h64, H0⟩ := ite_must H0
                refine JL.val (.int .i64 (w64 (Int.tdiv 1000000000 e50))) (some 130) (gives_quo .i64 1000000000 e50 h64) ?_
                refine JL.on 16 127 h63 ?_
                refine JL.pur (.bool (decide (w64 (Int.tdiv 1000000000 e50) < n36))) (some 131) ?_
                refine JL.val (.bool (decide (w64 (Int.tdiv 1000000000 e50) < n36))) (some 132) (gives_pickF h63) ?_
                refine JL.nil ?_
                refine JQ.then_normal ?_
                exact JQ.meet (decide (w64 (Int.tdiv 1000000000 e50) < n36)) () H0 (fun _ h => Heap.to h)
          · clear H0
            rintro x56 ⟨⟩ H0
            replace H0 : ref25_Div.k3 d35 n36 p48 q49 e50 x56 = some r := H0
            unfold ref25_Div.k3 at H0
            refine JQ.sub [(4, .pointer (some ⟨b5, 0, none⟩)), (6, .int .i64 p48), (7, .int .i64 q49), (8, .int .i64 n36), (9, .int .i64 d35), (10, .int .i64 e50), (132, .bool x56)] ?_
            refine JQ.turn (Δ' := [At.box b5 23 [.int .i64 0, .int .i64 0, .int .i64 0]]) (fun _ h => h.to) ?_
            rcases ite_cases H0 with ⟨h57, H0⟩ | ⟨h57, H0⟩
            · refine J.cond_true h57 ?_
              refine J.seq ?_
              refine J.region ?_
              refine JL.pur (.agg #[.int .i64 0, .int .i64 0, .int .i64 0]) (some 133) ?_
              refine JL.store 0 b5 0 23 [.int .i64 0, .int .i64 0, .int .i64 0] [.int .i64 0, .int .i64 0, .int .i64 0] tySize_23 ?_
              refine JL.as (.int .i64 16) ?_
              refine JL.nil ?_
              refine JQ.then_normal ?_
              refine JQ.sub [(4, .pointer (some ⟨b5, 0, none⟩)), (5, .int .i64 16)] ?_
              refine J.ret ?_
              refine JQ.then_ret ?_
              obtain rfl := Option.some.inj H0
              exact JQ.done' (rs := [.cell 4 23, .tmp 5]) (vs := [.agg #[.int .i64 0, .int .i64 0, .int .i64 0], .int .i64 16]) [] (.inr rfl) ⟨⟨b5, 0, _, _, by kernel_rfl, by kernel_rfl, holds_box b5 23 [.int .i64 0, .int .i64 0, .int .i64 0], .inl ⟨tyAgg_23, tySize_23, rfl⟩⟩, by kernel_rfl, trivial⟩ (fun _ h => Heap.to (Heap.pick [] (by decide) h)) ⟨rfl, rfl⟩
            · refine J.cond_false h57 ?_
              refine J.skip ?_
              refine JQ.then_normal ?_
              refine JQ.sub [(4, .pointer (some ⟨b5, 0, none⟩)), (6, .int .i64 p48), (7, .int .i64 q49), (8, .int .i64 n36), (9, .int .i64 d35), (10, .int .i64 e50)] ?_
              refine J.seq ?_
              refine J.region ?_
              refine JL.mv (.int .i64 p48) ?_
              refine JL.mv (.int .i64 d35) ?_
              refine JL.pur (.int .i64 (w64 (p48 * d35))) (some 136) ?_
              refine JL.mv (.int .i64 q49) ?_
              refine JL.mv (.int .i64 d35) ?_
              refine JL.pur (.int .i64 (w64 (q49 * d35))) (some 139) ?_
              refine JL.mv (.int .i64 n36) ?_
              refine JL.mv (.int .i64 e50) ?_
              refine JL.pur (.int .i64 (w64 (n36 * e50))) (some 142) ?_
              obtain ⟨t58, hc59, H0⟩ := bind_some H0
              refine JL.call [] [] [] (ref25_made.ok (w64 (p48 * d35)) (w64 (q49 * d35)) (w64 (n36 * e50)) _ hc59) trivial ?_
              rintro _ _ ⟨rfl, rfl⟩
              refine JL.pur (.agg #[.int .i64 t58.1.Re, .int .i64 t58.1.Im, .int .i64 t58.1.Den]) (some 144) ?_
              refine JL.pur (.int .i64 t58.2) (some 145) ?_
              refine JL.store 0 b5 0 23 [.int .i64 0, .int .i64 0, .int .i64 0] [.int .i64 t58.1.Re, .int .i64 t58.1.Im, .int .i64 t58.1.Den] tySize_23 ?_
              refine JL.as (.int .i64 t58.2) ?_
              refine JL.nil ?_
              refine JQ.then_normal ?_
              refine JQ.sub [(4, .pointer (some ⟨b5, 0, none⟩)), (5, .int .i64 t58.2)] ?_
              refine J.ret ?_
              obtain rfl := Option.some.inj H0
              exact JQ.done' (rs := [.cell 4 23, .tmp 5]) (vs := [.agg #[.int .i64 t58.1.Re, .int .i64 t58.1.Im, .int .i64 t58.1.Den], .int .i64 t58.2]) [] (.inr rfl) ⟨⟨b5, 0, _, _, by kernel_rfl, by kernel_rfl, holds_box b5 23 [.int .i64 t58.1.Re, .int .i64 t58.1.Im, .int .i64 t58.1.Den], .inl ⟨tyAgg_23, tySize_23, rfl⟩⟩, by kernel_rfl, trivial⟩ (fun _ h => Heap.to (Heap.pick [] (by decide) h)) ⟨rfl, rfl⟩

theorem ref33_Inv.ok (a1 : (A4 Cx)) (r : ((A4 Cx) × Int)) (H0 : ref33_Inv.f a1 = some r) :
    Does Try.prog 18 [.agg #[.int .i64 a1.e0.Re, .int .i64 a1.e0.Im, .int .i64 a1.e0.Den, .int .i64 a1.e1.Re, .int .i64 a1.e1.Im, .int .i64 a1.e1.Den, .int .i64 a1.e2.Re, .int .i64 a1.e2.Im, .int .i64 a1.e2.Den, .int .i64 a1.e3.Re, .int .i64 a1.e3.Im, .int .i64 a1.e3.Den]].toArray [] [] false (fun v Δ => v = .tuple #[.agg #[.int .i64 r.1.e0.Re, .int .i64 r.1.e0.Im, .int .i64 r.1.e0.Den, .int .i64 r.1.e1.Re, .int .i64 r.1.e1.Im, .int .i64 r.1.e1.Den, .int .i64 r.1.e2.Re, .int .i64 r.1.e2.Im, .int .i64 r.1.e2.Den, .int .i64 r.1.e3.Re, .int .i64 r.1.e3.Im, .int .i64 r.1.e3.Den], .int .i64 r.2] ∧ Δ = []) := by
  refine Does.body (vs := [.agg #[.int .i64 a1.e0.Re, .int .i64 a1.e0.Im, .int .i64 a1.e0.Den, .int .i64 a1.e1.Re, .int .i64 a1.e1.Im, .int .i64 a1.e1.Den, .int .i64 a1.e2.Re, .int .i64 a1.e2.Im, .int .i64 a1.e2.Den, .int .i64 a1.e3.Re, .int .i64 a1.e3.Im, .int .i64 a1.e3.Den]]) Try.func18 rfl trivial trivial fun w S => ?_
  unfold ref33_Inv.f at H0
  refine J.seq ?_
  refine J.region ?_
  refine JL.box [.int .i64 a1.e0.Re, .int .i64 a1.e0.Im, .int .i64 a1.e0.Den, .int .i64 a1.e1.Re, .int .i64 a1.e1.Im, .int .i64 a1.e1.Den, .int .i64 a1.e2.Re, .int .i64 a1.e2.Im, .int .i64 a1.e2.Den, .int .i64 a1.e3.Re, .int .i64 a1.e3.Im, .int .i64 a1.e3.Den] fun b2 => ?_
  refine JL.alloc [.int .i64 0, .int .i64 0, .int .i64 0, .int .i64 0, .int .i64 0, .int .i64 0, .int .i64 0, .int .i64 0, .int .i64 0, .int .i64 0, .int .i64 0, .int .i64 0] fun b3 => ?_
  refine JL.as (.int .i64 0) ?_
  refine JL.nil ?_
  refine JQ.then_normal ?_
  refine JQ.sub [(1, .pointer (some ⟨b2, 0, none⟩)), (2, .pointer (some ⟨b3, 0, none⟩))] ?_
  refine J.seq ?_
  refine J.region ?_
  refine JL.val (.agg #[.int .i64 a1.e0.Re, .int .i64 a1.e0.Im, .int .i64 a1.e0.Den, .int .i64 a1.e1.Re, .int .i64 a1.e1.Im, .int .i64 a1.e1.Den, .int .i64 a1.e2.Re, .int .i64 a1.e2.Im, .int .i64 a1.e2.Den, .int .i64 a1.e3.Re, .int .i64 a1.e3.Im, .int .i64 a1.e3.Den]) (some 11) (yields_load_boxes 0 0 [.int .i64 a1.e0.Re, .int .i64 a1.e0.Im, .int .i64 a1.e0.Den, .int .i64 a1.e1.Re, .int .i64 a1.e1.Im, .int .i64 a1.e1.Den, .int .i64 a1.e2.Re, .int .i64 a1.e2.Im, .int .i64 a1.e2.Den, .int .i64 a1.e3.Re, .int .i64 a1.e3.Im, .int .i64 a1.e3.Den] (holds_box b2 25 [.int .i64 a1.e0.Re, .int .i64 a1.e0.Im, .int .i64 a1.e0.Den, .int .i64 a1.e1.Re, .int .i64 a1.e1.Im, .int .i64 a1.e1.Den, .int .i64 a1.e2.Re, .int .i64 a1.e2.Im, .int .i64 a1.e2.Den, .int .i64 a1.e3.Re, .int .i64 a1.e3.Im, .int .i64 a1.e3.Den]) tyAgg_25 tySize_25) ?_
  obtain ⟨t4, hc5, H0⟩ := bind_some H0
  refine JL.call [] [] [] (ref33_Det.ok a1 _ hc5) trivial ?_
  rintro _ _ ⟨rfl, rfl⟩
  refine JL.mv (.tuple #[.agg #[.int .i64 t4.1.Re, .int .i64 t4.1.Im, .int .i64 t4.1.Den], .int .i64 t4.2]) ?_
  refine JL.pur (.agg #[.int .i64 t4.1.Re, .int .i64 t4.1.Im, .int .i64 t4.1.Den]) (some 13) ?_
  refine JL.pur (.int .i64 t4.2) (some 14) ?_
  refine JL.alloc [.int .i64 0, .int .i64 0, .int .i64 0] fun b6 => ?_
  refine JL.store 2 b6 0 23 [.int .i64 0, .int .i64 0, .int .i64 0] [.int .i64 t4.1.Re, .int .i64 t4.1.Im, .int .i64 t4.1.Den] tySize_23 ?_
  refine JL.as (.int .i64 t4.2) ?_
  refine JL.nil ?_
  refine JQ.then_normal ?_
  refine JQ.sub [(1, .pointer (some ⟨b2, 0, none⟩)), (2, .pointer (some ⟨b3, 0, none⟩)), (4, .pointer (some ⟨b6, 0, none⟩)), (5, .int .i64 t4.2)] ?_
  refine J.seq ?_
  refine J.seq ?_
  refine J.region ?_
  refine JL.mv (.int .i64 t4.2) ?_
  refine JL.pur (.bool (!decide (t4.2 = 0))) (some 16) ?_
  refine JL.nil ?_
  refine JQ.then_normal ?_
  refine JQ.sub [(1, .pointer (some ⟨b2, 0, none⟩)), (2, .pointer (some ⟨b3, 0, none⟩)), (4, .pointer (some ⟨b6, 0, none⟩)), (5, .int .i64 t4.2), (16, .bool (!decide (t4.2 = 0)))] ?_
  rcases ite_cases H0 with ⟨h7, H0⟩ | ⟨h7, H0⟩
  · refine J.cond_true h7 ?_
    refine J.seq ?_
    refine J.region ?_
    refine JL.pur (.agg #[.int .i64 0, .int .i64 0, .int .i64 0, .int .i64 0, .int .i64 0, .int .i64 0, .int .i64 0, .int .i64 0, .int .i64 0, .int .i64 0, .int .i64 0, .int .i64 0]) (some 17) ?_
    refine JL.mv (.int .i64 t4.2) ?_
    refine JL.store 1 b3 0 25 [.int .i64 0, .int .i64 0, .int .i64 0, .int .i64 0, .int .i64 0, .int .i64 0, .int .i64 0, .int .i64 0, .int .i64 0, .int .i64 0, .int .i64 0, .int .i64 0] [.int .i64 0, .int .i64 0, .int .i64 0, .int .i64 0, .int .i64 0, .int .i64 0, .int .i64 0, .int .i64 0, .int .i64 0, .int .i64 0, .int .i64 0, .int .i64 0] tySize_25 ?_
    refine JL.as (.int .i64 t4.2) ?_
    refine JL.nil ?_
    refine JQ.then_normal ?_
    refine JQ.sub [(2, .pointer (some ⟨b3, 0, none⟩)), (3, .int .i64 t4.2)] ?_
    refine JQ.mask [At.box b3 25 [.int .i64 0, .int .i64 0, .int .i64 0, .int .i64 0, .int .i64 0, .int .i64 0, .int .i64 0, .int .i64 0, .int .i64 0, .int .i64 0, .int .i64 0, .int .i64 0]] [false, true, false] ?_
    refine J.ret ?_
    refine JQ.then_ret ?_
    obtain rfl := Option.some.inj H0
    exact JQ.done' (rs := [.cell 2 25, .tmp 3]) (vs := [.agg #[.int .i64 0, .int .i64 0, .int .i64 0, .int .i64 0, .int .i64 0, .int .i64 0, .int .i64 0, .int .i64 0, .int .i64 0, .int .i64 0, .int .i64 0, .int .i64 0], .int .i64 t4.2]) [] (.inr rfl) ⟨⟨b3, 0, _, _, by kernel_rfl, by kernel_rfl, holds_box b3 25 [.int .i64 0, .int .i64 0, .int .i64 0, .int .i64 0, .int .i64 0, .int .i64 0, .int .i64 0, .int .i64 0, .int .i64 0, .int .i64 0, .int .i64 0, .int .i64 0], .inl ⟨tyAgg_25, tySize_25, rfl⟩⟩, by kernel_rfl, trivial⟩ (fun _ h => Heap.to (Heap.pick [] (by decide) h)) ⟨rfl, rfl⟩
  · refine J.cond_false h7 ?_
    refine J.skip ?_
    refine JQ.then_normal ?_
    refine JQ.sub [(1, .pointer (some ⟨b2, 0, none⟩)), (2, .pointer (some ⟨b3, 0, none⟩)), (4, .pointer (some ⟨b6, 0, none⟩))] ?_
    refine J.seq ?_
    refine J.seq ?_
    refine J.region ?_
    refine JL.val (.agg #[.int .i64 t4.1.Re, .int .i64 t4.1.Im, .int .i64 t4.1.Den]) (some 19) (yields_load_boxes 2 0 [.int .i64 t4.1.Re, .int .i64 t4.1.Im, .int .i64 t4.1.Den] (holds_box b6 23 [.int .i64 t4.1.Re, .int .i64 t4.1.Im, .int .i64 t4.1.Den]) tyAgg_23 tySize_23) ?_
    obtain ⟨t8, hc9, H0⟩ := bind_some H0
    refine JL.call [] [] [] (ref25_Zero.ok t4.1 _ hc9) trivial ?_
    rintro _ _ ⟨rfl, rfl⟩
    refine JL.nil ?_
    refine JQ.then_normal ?_
    refine JQ.sub [(1, .pointer (some ⟨b2, 0, none⟩)), (2, .pointer (some ⟨b3, 0, none⟩)), (4, .pointer (some ⟨b6, 0, none⟩)), (20, .bool t8)] ?_
    rcases ite_cases H0 with ⟨h10, H0⟩ | ⟨h10, H0⟩
    · refine J.cond_true h10 ?_
      refine J.seq ?_
      refine J.region ?_
      refine JL.pur (.agg #[.int .i64 0, .int .i64 0, .int .i64 0, .int .i64 0, .int .i64 0, .int .i64 0, .int .i64 0, .int .i64 0, .int .i64 0, .int .i64 0, .int .i64 0, .int .i64 0]) (some 21) ?_
      refine JL.store 1 b3 0 25 [.int .i64 0, .int .i64 0, .int .i64 0, .int .i64 0, .int .i64 0, .int .i64 0, .int .i64 0, .int .i64 0, .int .i64 0, .int .i64 0, .int .i64 0, .int .i64 0] [.int .i64 0, .int .i64 0, .int .i64 0, .int .i64 0, .int .i64 0, .int .i64 0, .int .i64 0, .int .i64 0, .int .i64 0, .int .i64 0, .int .i64 0, .int .i64 0] tySize_25 ?_
      refine JL.as (.int .i64 18) ?_
      refine JL.nil ?_
      refine JQ.then_normal ?_
      refine JQ.sub [(2, .pointer (some ⟨b3, 0, none⟩)), (3, .int .i64 18)] ?_
      refine JQ.mask [At.box b3 25 [.int .i64 0, .int .i64 0, .int .i64 0, .int .i64 0, .int .i64 0, .int .i64 0, .int .i64 0, .int .i64 0, .int .i64 0, .int .i64 0, .int .i64 0, .int .i64 0]] [false, true, false] ?_
      refine J.ret ?_
      refine JQ.then_ret ?_
      obtain rfl := Option.some.inj H0
      exact JQ.done' (rs := [.cell 2 25, .tmp 3]) (vs := [.agg #[.int .i64 0, .int .i64 0, .int .i64 0, .int .i64 0, .int .i64 0, .int .i64 0, .int .i64 0, .int .i64 0, .int .i64 0, .int .i64 0, .int .i64 0, .int .i64 0], .int .i64 18]) [] (.inr rfl) ⟨⟨b3, 0, _, _, by kernel_rfl, by kernel_rfl, holds_box b3 25 [.int .i64 0, .int .i64 0, .int .i64 0, .int .i64 0, .int .i64 0, .int .i64 0, .int .i64 0, .int .i64 0, .int .i64 0, .int .i64 0, .int .i64 0, .int .i64 0], .inl ⟨tyAgg_25, tySize_25, rfl⟩⟩, by kernel_rfl, trivial⟩ (fun _ h => Heap.to (Heap.pick [] (by decide) h)) ⟨rfl, rfl⟩
    · refine J.cond_false h10 ?_
      refine J.skip ?_
      refine JQ.then_normal ?_
      refine JQ.sub [(1, .pointer (some ⟨b2, 0, none⟩)), (2, .pointer (some ⟨b3, 0, none⟩)), (4, .pointer (some ⟨b6, 0, none⟩))] ?_
      refine J.seq ?_
      refine J.drawA 12 [⟨11, 6, 25, [.int .i64 0, .int .i64 0, .int .i64 0, .int .i64 0, .int .i64 0, .int .i64 0, .int .i64 0, .int .i64 0, .int .i64 0, .int .i64 0, .int .i64 0, .int .i64 0]⟩] ?_ (by simp only [List.mem_cons, List.not_mem_nil, or_false, forall_eq_or_imp, forall_eq]; exact ⟨by decide, ⟨_, _, _, rfl⟩, by kernel_rfl⟩)
      refine QL.pur (.pointer (some ⟨b2, 9, none⟩)) (some 22) ?_
      refine QL.val (.agg #[.int .i64 a1.e3.Re, .int .i64 a1.e3.Im, .int .i64 a1.e3.Den]) (some 23) (yields_load_boxes 0 9 [.int .i64 a1.e3.Re, .int .i64 a1.e3.Im, .int .i64 a1.e3.Den] (holds_box b2 25 [.int .i64 a1.e0.Re, .int .i64 a1.e0.Im, .int .i64 a1.e0.Den, .int .i64 a1.e1.Re, .int .i64 a1.e1.Im, .int .i64 a1.e1.Den, .int .i64 a1.e2.Re, .int .i64 a1.e2.Im, .int .i64 a1.e2.Den, .int .i64 a1.e3.Re, .int .i64 a1.e3.Im, .int .i64 a1.e3.Den]) tyAgg_23 tySize_23) ?_
      refine QL.pur (.pointer (some ⟨b2, 3, none⟩)) (some 24) ?_
      refine QL.val (.agg #[.int .i64 a1.e1.Re, .int .i64 a1.e1.Im, .int .i64 a1.e1.Den]) (some 25) (yields_load_boxes 0 3 [.int .i64 a1.e1.Re, .int .i64 a1.e1.Im, .int .i64 a1.e1.Den] (holds_box b2 25 [.int .i64 a1.e0.Re, .int .i64 a1.e0.Im, .int .i64 a1.e0.Den, .int .i64 a1.e1.Re, .int .i64 a1.e1.Im, .int .i64 a1.e1.Den, .int .i64 a1.e2.Re, .int .i64 a1.e2.Im, .int .i64 a1.e2.Den, .int .i64 a1.e3.Re, .int .i64 a1.e3.Im, .int .i64 a1.e3.Den]) tyAgg_23 tySize_23) ?_
      obtain ⟨t11, hc12, H0⟩ := bind_some H0
      refine QL.call [] [] (ref25_Neg.ok a1.e1 _ hc12) trivial ?_
      refine QL.pur (.pointer (some ⟨b2, 6, none⟩)) (some 27) ?_
      refine QL.val (.agg #[.int .i64 a1.e2.Re, .int .i64 a1.e2.Im, .int .i64 a1.e2.Den]) (some 28) (yields_load_boxes 0 6 [.int .i64 a1.e2.Re, .int .i64 a1.e2.Im, .int .i64 a1.e2.Den] (holds_box b2 25 [.int .i64 a1.e0.Re, .int .i64 a1.e0.Im, .int .i64 a1.e0.Den, .int .i64 a1.e1.Re, .int .i64 a1.e1.Im, .int .i64 a1.e1.Den, .int .i64 a1.e2.Re, .int .i64 a1.e2.Im, .int .i64 a1.e2.Den, .int .i64 a1.e3.Re, .int .i64 a1.e3.Im, .int .i64 a1.e3.Den]) tyAgg_23 tySize_23) ?_
      obtain ⟨t13, hc14, H0⟩ := bind_some H0
      refine QL.call [] [] (ref25_Neg.ok a1.e2 _ hc14) trivial ?_
      refine QL.pur (.pointer (some ⟨b2, 0, none⟩)) (some 30) ?_
      refine QL.val (.agg #[.int .i64 a1.e0.Re, .int .i64 a1.e0.Im, .int .i64 a1.e0.Den]) (some 31) (yields_load_boxes 0 0 [.int .i64 a1.e0.Re, .int .i64 a1.e0.Im, .int .i64 a1.e0.Den] (holds_box b2 25 [.int .i64 a1.e0.Re, .int .i64 a1.e0.Im, .int .i64 a1.e0.Den, .int .i64 a1.e1.Re, .int .i64 a1.e1.Im, .int .i64 a1.e1.Den, .int .i64 a1.e2.Re, .int .i64 a1.e2.Im, .int .i64 a1.e2.Den, .int .i64 a1.e3.Re, .int .i64 a1.e3.Im, .int .i64 a1.e3.Den]) tyAgg_23 tySize_23) ?_
      refine QL.pur (.agg #[.int .i64 a1.e3.Re, .int .i64 a1.e3.Im, .int .i64 a1.e3.Den, .int .i64 t11.Re, .int .i64 t11.Im, .int .i64 t11.Den, .int .i64 t13.Re, .int .i64 t13.Im, .int .i64 t13.Den, .int .i64 a1.e0.Re, .int .i64 a1.e0.Im, .int .i64 a1.e0.Den]) (some 32) ?_
      refine QL.skipA ?_
      refine QL.nil ?_
      refine JA.alloc fun b15 => ?_
      refine JA.nil ?_
      refine JL.store 3 b15 0 25 [.int .i64 0, .int .i64 0, .int .i64 0, .int .i64 0, .int .i64 0, .int .i64 0, .int .i64 0, .int .i64 0, .int .i64 0, .int .i64 0, .int .i64 0, .int .i64 0] [.int .i64 a1.e3.Re, .int .i64 a1.e3.Im, .int .i64 a1.e3.Den, .int .i64 t11.Re, .int .i64 t11.Im, .int .i64 t11.Den, .int .i64 t13.Re, .int .i64 t13.Im, .int .i64 t13.Den, .int .i64 a1.e0.Re, .int .i64 a1.e0.Im, .int .i64 a1.e0.Den] tySize_25 ?_
      refine JL.nil ?_
      refine JQ.then_normal ?_
      refine JQ.sub [(2, .pointer (some ⟨b3, 0, none⟩)), (4, .pointer (some ⟨b6, 0, none⟩)), (6, .pointer (some ⟨b15, 0, none⟩))] ?_
      refine JQ.mask [At.box b3 25 [.int .i64 0, .int .i64 0, .int .i64 0, .int .i64 0, .int .i64 0, .int .i64 0, .int .i64 0, .int .i64 0, .int .i64 0, .int .i64 0, .int .i64 0, .int .i64 0], At.box b6 23 [.int .i64 t4.1.Re, .int .i64 t4.1.Im, .int .i64 t4.1.Den], At.box b15 25 [.int .i64 a1.e3.Re, .int .i64 a1.e3.Im, .int .i64 a1.e3.Den, .int .i64 t11.Re, .int .i64 t11.Im, .int .i64 t11.Den, .int .i64 t13.Re, .int .i64 t13.Im, .int .i64 t13.Den, .int .i64 a1.e0.Re, .int .i64 a1.e0.Im, .int .i64 a1.e0.Den]] [false, true, true, true] ?_
      refine J.seq ?_
      refine J.seq ?_
      refine J.region ?_
      refine JL.as (.int .i64 0) ?_
      refine JL.nil ?_
      refine JQ.then_normal ?_
      obtain ⟨o1, hit, H0⟩ := bind_some H0
      refine J.loop (σ := ((A4 Cx) × Int)) (τ := (A4 Cx)) (G := Unit) (G' := Unit) _ o1 (fun s g => [(2, .pointer (some ⟨b3, 0, none⟩)), (4, .pointer (some ⟨b6, 0, none⟩)), (6, .pointer (some ⟨b15, 0, none⟩)), (7, .int .i64 s.2)]) (fun s g => [At.box b3 25 [.int .i64 0, .int .i64 0, .int .i64 0, .int .i64 0, .int .i64 0, .int .i64 0, .int .i64 0, .int .i64 0, .int .i64 0, .int .i64 0, .int .i64 0, .int .i64 0], At.box b6 23 [.int .i64 t4.1.Re, .int .i64 t4.1.Im, .int .i64 t4.1.Den], At.box b15 25 [.int .i64 s.1.e0.Re, .int .i64 s.1.e0.Im, .int .i64 s.1.e0.Den, .int .i64 s.1.e1.Re, .int .i64 s.1.e1.Im, .int .i64 s.1.e1.Den, .int .i64 s.1.e2.Re, .int .i64 s.1.e2.Im, .int .i64 s.1.e2.Den, .int .i64 s.1.e3.Re, .int .i64 s.1.e3.Im, .int .i64 s.1.e3.Den]]) (fun t => ref33_Inv.k5 t = some r) (fun t g => [(2, .pointer (some ⟨b3, 0, none⟩)), (6, .pointer (some ⟨b15, 0, none⟩))]) (fun t g => [At.box b3 25 [.int .i64 0, .int .i64 0, .int .i64 0, .int .i64 0, .int .i64 0, .int .i64 0, .int .i64 0, .int .i64 0, .int .i64 0, .int .i64 0, .int .i64 0, .int .i64 0], At.box b15 25 [.int .i64 t.e0.Re, .int .i64 t.e0.Im, .int .i64 t.e0.Den, .int .i64 t.e1.Re, .int .i64 t.e1.Im, .int .i64 t.e1.Den, .int .i64 t.e2.Re, .int .i64 t.e2.Im, .int .i64 t.e2.Den, .int .i64 t.e3.Re, .int .i64 t.e3.Im, .int .i64 t.e3.Den]]) ((⟨a1.e3, t11, t13, a1.e0⟩ : (A4 Cx)), 0) () hit (fun _ h => Heap.to h) ?_ ?_
      · clear hit
        rintro ⟨out78, k79⟩ ⟨⟩ st1 H1 hb1 hr1
        replace H1 : ref33_Inv.s4 t4 out78 k79 = some st1 := H1
        unfold ref33_Inv.s4 at H1
        refine JQ.sub [(2, .pointer (some ⟨b3, 0, none⟩)), (4, .pointer (some ⟨b6, 0, none⟩)), (6, .pointer (some ⟨b15, 0, none⟩)), (7, .int .i64 k79)] ?_
        refine JQ.turn (Δ' := [At.box b3 25 [.int .i64 0, .int .i64 0, .int .i64 0, .int .i64 0, .int .i64 0, .int .i64 0, .int .i64 0, .int .i64 0, .int .i64 0, .int .i64 0, .int .i64 0, .int .i64 0], At.box b6 23 [.int .i64 t4.1.Re, .int .i64 t4.1.Im, .int .i64 t4.1.Den], At.box b15 25 [.int .i64 out78.e0.Re, .int .i64 out78.e0.Im, .int .i64 out78.e0.Den, .int .i64 out78.e1.Re, .int .i64 out78.e1.Im, .int .i64 out78.e1.Den, .int .i64 out78.e2.Re, .int .i64 out78.e2.Im, .int .i64 out78.e2.Den, .int .i64 out78.e3.Re, .int .i64 out78.e3.Im, .int .i64 out78.e3.Den]]) (fun _ h => h.to) ?_
        refine J.seq ?_
        refine J.seq ?_
        refine J.region ?_
        refine JL.mv (.int .i64 k79) ?_
        refine JL.pur (.bool (decide (k79 < 4))) (some 34) ?_
        refine JL.nil ?_
        refine JQ.then_normal ?_
        refine JQ.sub [(2, .pointer (some ⟨b3, 0, none⟩)), (4, .pointer (some ⟨b6, 0, none⟩)), (6, .pointer (some ⟨b15, 0, none⟩)), (7, .int .i64 k79), (34, .bool (decide (k79 < 4)))] ?_
        rcases ite_cases H1 with ⟨h116, H1⟩ | ⟨h116, H1⟩
        · refine J.cond_true h116 ?_
          refine J.skip ?_
          refine JQ.then_normal ?_
          refine JQ.sub [(2, .pointer (some ⟨b3, 0, none⟩)), (4, .pointer (some ⟨b6, 0, none⟩)), (6, .pointer (some ⟨b15, 0, none⟩)), (7, .int .i64 k79)] ?_
          refine J.seq ?_
          refine J.block ?_
          refine J.join (T := (Cx × Int)) (G := Nat) (fun t => ref33_Inv.k6 out78 k79 t.1 t.2 = some st1) (fun t g => [(2, .pointer (some ⟨b3, 0, none⟩)), (4, .pointer (some ⟨b6, 0, none⟩)), (6, .pointer (some ⟨b15, 0, none⟩)), (7, .int .i64 k79), (8, .pointer (some ⟨g, 0, none⟩)), (9, .int .i64 t.2)]) (fun t g => [At.box b3 25 [.int .i64 0, .int .i64 0, .int .i64 0, .int .i64 0, .int .i64 0, .int .i64 0, .int .i64 0, .int .i64 0, .int .i64 0, .int .i64 0, .int .i64 0, .int .i64 0], At.box b6 23 [.int .i64 t4.1.Re, .int .i64 t4.1.Im, .int .i64 t4.1.Den], At.box b15 25 [.int .i64 out78.e0.Re, .int .i64 out78.e0.Im, .int .i64 out78.e0.Den, .int .i64 out78.e1.Re, .int .i64 out78.e1.Im, .int .i64 out78.e1.Den, .int .i64 out78.e2.Re, .int .i64 out78.e2.Im, .int .i64 out78.e2.Den, .int .i64 out78.e3.Re, .int .i64 out78.e3.Im, .int .i64 out78.e3.Den], At.box g 23 [.int .i64 t.1.Re, .int .i64 t.1.Im, .int .i64 t.1.Den]]) ?_ ?_
          · obtain ⟨⟨h138, h139⟩, H1⟩ := ite_must H1
            obtain ⟨t140, hc141, H1⟩ := bind_some H1
            refine JY.start [9] #[false, false, false, false, false, false, false, false, false, false, false] ?_
            refine JY.pur (hi := rfl) 0 #[true, false, false, false, false, false, false, false, false, false, false] (.int .i64 k79) (some 38) want ?_
            obtain ⟨h143, h144⟩ : 0 ≤ k79 ∧ k79 < 4 := ⟨h138, h139⟩
            refine JY.puw (hi := rfl) 1 #[true, true, false, false, false, false, false, false, false, false, false] (.pointer (some ⟨b15, 0 + k79.toNat * 3, none⟩)) (some 39) want (givesW_ixArrD (b := b15) (o := 0) (i := k79) 4 3 .i64 h143 h144 Try.underlying25 tySize_23) ?_
            refine JY.take (hi := rfl) 2 #[true, true, true, false, false, false, false, false, false, false, false] (.agg #[.int .i64 ((ix ([out78.e0, out78.e1, out78.e2, out78.e3] : List Cx) k79).Re), .int .i64 ((ix ([out78.e0, out78.e1, out78.e2, out78.e3] : List Cx) k79).Im), .int .i64 ((ix ([out78.e0, out78.e1, out78.e2, out78.e3] : List Cx) k79).Den)]) (some 40) [true, true, true] want (gives_loadEl (f := fl_Cx) 2 0 k79 (elems_arr b15 25 [.int .i64 out78.e0.Re, .int .i64 out78.e0.Im, .int .i64 out78.e0.Den, .int .i64 out78.e1.Re, .int .i64 out78.e1.Im, .int .i64 out78.e1.Den, .int .i64 out78.e2.Re, .int .i64 out78.e2.Im, .int .i64 out78.e2.Den, .int .i64 out78.e3.Re, .int .i64 out78.e3.Im, .int .i64 out78.e3.Den] fl_Cx ([out78.e0, out78.e1, out78.e2, out78.e3] : List Cx) 0) h143 h144 tySize_23 (.inl ⟨tyAgg_23, rfl⟩)) ?_
            refine JY.take (hi := rfl) 3 #[true, true, true, true, false, false, false, false, false, false, false] (.agg #[.int .i64 t4.1.Re, .int .i64 t4.1.Im, .int .i64 t4.1.Den]) (some 41) [true, true, true] want (yields_load_boxes 1 0 [.int .i64 t4.1.Re, .int .i64 t4.1.Im, .int .i64 t4.1.Den] (holds_box b6 23 [.int .i64 t4.1.Re, .int .i64 t4.1.Im, .int .i64 t4.1.Den]) tyAgg_23 tySize_23) ?_
            refine JY.all [4, 8] ⟨⟨_, rfl, ?_⟩, ⟨_, rfl, ?_⟩, trivial⟩
            · refine JL.call [] [] [] (ref25_Div.ok (⟨((ix ([out78.e0, out78.e1, out78.e2, out78.e3] : List Cx) k79).Re), ((ix ([out78.e0, out78.e1, out78.e2, out78.e3] : List Cx) k79).Im), ((ix ([out78.e0, out78.e1, out78.e2, out78.e3] : List Cx) k79).Den)⟩ : Cx) t4.1 _ hc141) trivial ?_
              rintro _ _ ⟨rfl, rfl⟩
              refine JL.nil ?_
              refine JY.ran #[true, true, true, true, true, false, false, false, false, false, false] [true, true, true] ?_
              refine JY.pur (hi := rfl) 5 #[true, true, true, true, true, true, false, false, false, false, false] (.tuple #[.agg #[.int .i64 t140.1.Re, .int .i64 t140.1.Im, .int .i64 t140.1.Den], .int .i64 t140.2]) (some 37) want ?_
              refine JY.pur (hi := rfl) 6 #[true, true, true, true, true, true, true, false, false, false, false] (.agg #[.int .i64 t140.1.Re, .int .i64 t140.1.Im, .int .i64 t140.1.Den]) (some 43) want ?_
              refine JY.pur (hi := rfl) 7 #[true, true, true, true, true, true, true, true, false, false, false] (.int .i64 t140.2) (some 44) want ?_
              refine JY.all [8] ⟨⟨_, rfl, ?_⟩, trivial⟩
              refine JL.alloc [.int .i64 0, .int .i64 0, .int .i64 0] fun b147 => ?_
              refine JL.nil ?_
              refine JY.ran #[true, true, true, true, true, true, true, true, true, false, false] [true, true, true, false] ?_
              refine JY.all [9] ⟨⟨_, rfl, ?_⟩, trivial⟩
              refine JL.store 3 b147 0 23 [.int .i64 0, .int .i64 0, .int .i64 0] [.int .i64 t140.1.Re, .int .i64 t140.1.Im, .int .i64 t140.1.Den] tySize_23 ?_
              refine JL.nil ?_
              refine JY.ranD #[true, true, true, true, true, true, true, true, true, true, false] ?_
              refine JY.pur (hi := rfl) 10 #[true, true, true, true, true, true, true, true, true, true, true] (.int .i64 t140.2) (some 9) want ?_
              refine JY.done ?_
              refine JQ.then_normal ?_
              exact JQ.meet (t140.1, t140.2) b147 H1 (fun _ h => Heap.to h)
            · refine JL.alloc [.int .i64 0, .int .i64 0, .int .i64 0] fun b148 => ?_
              refine JL.nil ?_
              refine JY.ran #[true, true, true, true, false, false, false, false, true, false, false] [true, true, true, false] ?_
              refine JY.all [4] ⟨⟨_, rfl, ?_⟩, trivial⟩
              refine JL.call [] [] [] (ref25_Div.ok (⟨((ix ([out78.e0, out78.e1, out78.e2, out78.e3] : List Cx) k79).Re), ((ix ([out78.e0, out78.e1, out78.e2, out78.e3] : List Cx) k79).Im), ((ix ([out78.e0, out78.e1, out78.e2, out78.e3] : List Cx) k79).Den)⟩ : Cx) t4.1 _ hc141) trivial ?_
              rintro _ _ ⟨rfl, rfl⟩
              refine JL.nil ?_
              refine JY.ran #[true, true, true, true, true, false, false, false, true, false, false] [true, true, true, false] ?_
              refine JY.pur (hi := rfl) 5 #[true, true, true, true, true, true, false, false, true, false, false] (.tuple #[.agg #[.int .i64 t140.1.Re, .int .i64 t140.1.Im, .int .i64 t140.1.Den], .int .i64 t140.2]) (some 37) want ?_
              refine JY.pur (hi := rfl) 6 #[true, true, true, true, true, true, true, false, true, false, false] (.agg #[.int .i64 t140.1.Re, .int .i64 t140.1.Im, .int .i64 t140.1.Den]) (some 43) want ?_
              refine JY.pur (hi := rfl) 7 #[true, true, true, true, true, true, true, true, true, false, false] (.int .i64 t140.2) (some 44) want ?_
              refine JY.all [9] ⟨⟨_, rfl, ?_⟩, trivial⟩
              refine JL.store 3 b148 0 23 [.int .i64 0, .int .i64 0, .int .i64 0] [.int .i64 t140.1.Re, .int .i64 t140.1.Im, .int .i64 t140.1.Den] tySize_23 ?_
              refine JL.nil ?_
              refine JY.ranD #[true, true, true, true, true, true, true, true, true, true, false] ?_
              refine JY.pur (hi := rfl) 10 #[true, true, true, true, true, true, true, true, true, true, true] (.int .i64 t140.2) (some 9) want ?_
              refine JY.done ?_
              refine JQ.then_normal ?_
              exact JQ.meet (t140.1, t140.2) b148 H1 (fun _ h => Heap.to h)
          · clear H1
            rintro ⟨x132, e133⟩ b130 H1
            replace H1 : ref33_Inv.k6 out78 k79 x132 e133 = some st1 := H1
            unfold ref33_Inv.k6 at H1
            refine JQ.sub [(2, .pointer (some ⟨b3, 0, none⟩)), (4, .pointer (some ⟨b6, 0, none⟩)), (6, .pointer (some ⟨b15, 0, none⟩)), (7, .int .i64 k79), (8, .pointer (some ⟨b130, 0, none⟩)), (9, .int .i64 e133)] ?_
            refine JQ.turn (Δ' := [At.box b3 25 [.int .i64 0, .int .i64 0, .int .i64 0, .int .i64 0, .int .i64 0, .int .i64 0, .int .i64 0, .int .i64 0, .int .i64 0, .int .i64 0, .int .i64 0, .int .i64 0], At.box b6 23 [.int .i64 t4.1.Re, .int .i64 t4.1.Im, .int .i64 t4.1.Den], At.box b15 25 [.int .i64 out78.e0.Re, .int .i64 out78.e0.Im, .int .i64 out78.e0.Den, .int .i64 out78.e1.Re, .int .i64 out78.e1.Im, .int .i64 out78.e1.Den, .int .i64 out78.e2.Re, .int .i64 out78.e2.Im, .int .i64 out78.e2.Den, .int .i64 out78.e3.Re, .int .i64 out78.e3.Im, .int .i64 out78.e3.Den], At.box b130 23 [.int .i64 x132.Re, .int .i64 x132.Im, .int .i64 x132.Den]]) (fun _ h => h.to) ?_
            refine J.seq ?_
            refine J.seq ?_
            refine J.region ?_
            refine JL.mv (.int .i64 e133) ?_
            refine JL.pur (.bool (!decide (e133 = 0))) (some 46) ?_
            refine JL.nil ?_
            refine JQ.then_normal ?_
            refine JQ.sub [(2, .pointer (some ⟨b3, 0, none⟩)), (4, .pointer (some ⟨b6, 0, none⟩)), (6, .pointer (some ⟨b15, 0, none⟩)), (7, .int .i64 k79), (8, .pointer (some ⟨b130, 0, none⟩)), (46, .bool (!decide (e133 = 0)))] ?_
            rcases ite_cases H1 with ⟨h134, H1⟩ | ⟨h134, H1⟩
            · refine J.cond_true h134 ?_
              refine J.seq ?_
              refine J.region ?_
              refine JL.pur (.agg #[.int .i64 0, .int .i64 0, .int .i64 0, .int .i64 0, .int .i64 0, .int .i64 0, .int .i64 0, .int .i64 0, .int .i64 0, .int .i64 0, .int .i64 0, .int .i64 0]) (some 47) ?_
              refine JL.store 0 b3 0 25 [.int .i64 0, .int .i64 0, .int .i64 0, .int .i64 0, .int .i64 0, .int .i64 0, .int .i64 0, .int .i64 0, .int .i64 0, .int .i64 0, .int .i64 0, .int .i64 0] [.int .i64 0, .int .i64 0, .int .i64 0, .int .i64 0, .int .i64 0, .int .i64 0, .int .i64 0, .int .i64 0, .int .i64 0, .int .i64 0, .int .i64 0, .int .i64 0] tySize_25 ?_
              refine JL.as (.int .i64 16) ?_
              refine JL.nil ?_
              refine JQ.then_normal ?_
              refine JQ.sub [(2, .pointer (some ⟨b3, 0, none⟩)), (3, .int .i64 16)] ?_
              refine JQ.mask [At.box b3 25 [.int .i64 0, .int .i64 0, .int .i64 0, .int .i64 0, .int .i64 0, .int .i64 0, .int .i64 0, .int .i64 0, .int .i64 0, .int .i64 0, .int .i64 0, .int .i64 0]] [true, false, false, false] ?_
              refine J.ret ?_
              refine JQ.then_ret ?_
              refine JQ.blk_ret ?_
              refine JQ.then_ret ?_
              refine JQ.then_ret ?_
              refine JQ.blk_ret ?_
              refine JQ.met_ret ?_
              refine JQ.then_ret ?_
              rw [hr1 _ (Option.some.inj H1).symm, fin_ret] at H0
              obtain rfl := Option.some.inj H0
              exact JQ.done' (rs := [.cell 2 25, .tmp 3]) (vs := [.agg #[.int .i64 0, .int .i64 0, .int .i64 0, .int .i64 0, .int .i64 0, .int .i64 0, .int .i64 0, .int .i64 0, .int .i64 0, .int .i64 0, .int .i64 0, .int .i64 0], .int .i64 16]) [] (.inr rfl) ⟨⟨b3, 0, _, _, by kernel_rfl, by kernel_rfl, holds_box b3 25 [.int .i64 0, .int .i64 0, .int .i64 0, .int .i64 0, .int .i64 0, .int .i64 0, .int .i64 0, .int .i64 0, .int .i64 0, .int .i64 0, .int .i64 0, .int .i64 0], .inl ⟨tyAgg_25, tySize_25, rfl⟩⟩, by kernel_rfl, trivial⟩ (fun _ h => Heap.to (Heap.pick [] (by decide) h)) ⟨rfl, rfl⟩
            · refine J.cond_false h134 ?_
              refine J.skip ?_
              refine JQ.then_normal ?_
              refine JQ.sub [(2, .pointer (some ⟨b3, 0, none⟩)), (4, .pointer (some ⟨b6, 0, none⟩)), (6, .pointer (some ⟨b15, 0, none⟩)), (7, .int .i64 k79), (8, .pointer (some ⟨b130, 0, none⟩))] ?_
              refine J.region ?_
              refine JL.mv (.int .i64 k79) ?_
              refine JL.val (.agg #[.int .i64 x132.Re, .int .i64 x132.Im, .int .i64 x132.Den]) (some 49) (yields_load_boxes 3 0 [.int .i64 x132.Re, .int .i64 x132.Im, .int .i64 x132.Den] (holds_box b130 23 [.int .i64 x132.Re, .int .i64 x132.Im, .int .i64 x132.Den]) tyAgg_23 tySize_23) ?_
              obtain ⟨⟨h135, h136⟩, H1⟩ := ite_must H1
              refine JL.val (.pointer (some ⟨b15, 0 + k79.toNat * 3, none⟩)) (some 50) (gives_ixArrD (b := b15) (o := 0) (i := k79) 4 3 .i64 h135 h136 Try.underlying25 tySize_23) ?_
              obtain ⟨arr137, earr137, H1⟩ := lt_some H1
              refine JL.storeArr b15 0 0 2 25 fl_Cx ([out78.e0, out78.e1, out78.e2, out78.e3] : List Cx) k79 [.int .i64 out78.e0.Re, .int .i64 out78.e0.Im, .int .i64 out78.e0.Den, .int .i64 out78.e1.Re, .int .i64 out78.e1.Im, .int .i64 out78.e1.Den, .int .i64 out78.e2.Re, .int .i64 out78.e2.Im, .int .i64 out78.e2.Den, .int .i64 out78.e3.Re, .int .i64 out78.e3.Im, .int .i64 out78.e3.Den] [] [] x132 h135 h136 tySize_23 ?_
              rw [ofL4 fl_Cx (l := ([out78.e0, out78.e1, out78.e2, out78.e3] : List Cx).set k79.toNat x132) (by simp), earr137]
              refine JQ.turn (Δ' := [At.box b3 25 [.int .i64 0, .int .i64 0, .int .i64 0, .int .i64 0, .int .i64 0, .int .i64 0, .int .i64 0, .int .i64 0, .int .i64 0, .int .i64 0, .int .i64 0, .int .i64 0], At.box b6 23 [.int .i64 t4.1.Re, .int .i64 t4.1.Im, .int .i64 t4.1.Den], At.box b15 25 [.int .i64 arr137.e0.Re, .int .i64 arr137.e0.Im, .int .i64 arr137.e0.Den, .int .i64 arr137.e1.Re, .int .i64 arr137.e1.Im, .int .i64 arr137.e1.Den, .int .i64 arr137.e2.Re, .int .i64 arr137.e2.Im, .int .i64 arr137.e2.Den, .int .i64 arr137.e3.Re, .int .i64 arr137.e3.Im, .int .i64 arr137.e3.Den], At.box b130 23 [.int .i64 x132.Re, .int .i64 x132.Im, .int .i64 x132.Den]]) (fun _ h => h.to) ?_
              refine JL.nil ?_
              refine JQ.blk_normal ?_
              refine JQ.then_normal ?_
              refine JQ.sub [(2, .pointer (some ⟨b3, 0, none⟩)), (4, .pointer (some ⟨b6, 0, none⟩)), (6, .pointer (some ⟨b15, 0, none⟩)), (7, .int .i64 k79)] ?_
              refine JQ.mask [At.box b3 25 [.int .i64 0, .int .i64 0, .int .i64 0, .int .i64 0, .int .i64 0, .int .i64 0, .int .i64 0, .int .i64 0, .int .i64 0, .int .i64 0, .int .i64 0, .int .i64 0], At.box b6 23 [.int .i64 t4.1.Re, .int .i64 t4.1.Im, .int .i64 t4.1.Den], At.box b15 25 [.int .i64 arr137.e0.Re, .int .i64 arr137.e0.Im, .int .i64 arr137.e0.Den, .int .i64 arr137.e1.Re, .int .i64 arr137.e1.Im, .int .i64 arr137.e1.Den, .int .i64 arr137.e2.Re, .int .i64 arr137.e2.Im, .int .i64 arr137.e2.Den, .int .i64 arr137.e3.Re, .int .i64 arr137.e3.Im, .int .i64 arr137.e3.Den]] [true, true, true, false] ?_
              refine J.region ?_
              refine JL.mv (.int .i64 k79) ?_
              refine JL.pur (.int .i64 (w64 (k79 + 1))) (some 36) ?_
              refine JL.as (.int .i64 (w64 (k79 + 1))) ?_
              refine JL.nil ?_
              refine JQ.then_normal ?_
              exact JQ.again (arr137, w64 (k79 + 1)) () (Option.some.inj H1).symm (fun _ h => Heap.to h)
        · refine J.cond_false h116 ?_
          refine J.exit ?_
          refine JQ.then_exit ?_
          refine JQ.then_exit ?_
          refine JQ.blk_exit ?_
          rw [hb1 _ (Option.some.inj H1).symm, fin_brk] at H0
          exact JQ.met out78 () H0 (fun _ h => Heap.to (Heap.pick [0, 2] (by decide) h))
      · clear hit H0
        rintro out115 ⟨⟩ H0
        replace H0 : ref33_Inv.k5 out115 = some r := H0
        unfold ref33_Inv.k5 at H0
        refine JQ.sub [(2, .pointer (some ⟨b3, 0, none⟩)), (6, .pointer (some ⟨b15, 0, none⟩))] ?_
        refine JQ.turn (Δ' := [At.box b3 25 [.int .i64 0, .int .i64 0, .int .i64 0, .int .i64 0, .int .i64 0, .int .i64 0, .int .i64 0, .int .i64 0, .int .i64 0, .int .i64 0, .int .i64 0, .int .i64 0], At.box b15 25 [.int .i64 out115.e0.Re, .int .i64 out115.e0.Im, .int .i64 out115.e0.Den, .int .i64 out115.e1.Re, .int .i64 out115.e1.Im, .int .i64 out115.e1.Den, .int .i64 out115.e2.Re, .int .i64 out115.e2.Im, .int .i64 out115.e2.Den, .int .i64 out115.e3.Re, .int .i64 out115.e3.Im, .int .i64 out115.e3.Den]]) (fun _ h => h.to) ?_
        refine JQ.then_normal ?_
        refine J.seq ?_
        refine J.region ?_
        refine JL.val (.agg #[.int .i64 out115.e0.Re, .int .i64 out115.e0.Im, .int .i64 out115.e0.Den, .int .i64 out115.e1.Re, .int .i64 out115.e1.Im, .int .i64 out115.e1.Den, .int .i64 out115.e2.Re, .int .i64 out115.e2.Im, .int .i64 out115.e2.Den, .int .i64 out115.e3.Re, .int .i64 out115.e3.Im, .int .i64 out115.e3.Den]) (some 51) (yields_load_boxes 1 0 [.int .i64 out115.e0.Re, .int .i64 out115.e0.Im, .int .i64 out115.e0.Den, .int .i64 out115.e1.Re, .int .i64 out115.e1.Im, .int .i64 out115.e1.Den, .int .i64 out115.e2.Re, .int .i64 out115.e2.Im, .int .i64 out115.e2.Den, .int .i64 out115.e3.Re, .int .i64 out115.e3.Im, .int .i64 out115.e3.Den] (holds_box b15 25 [.int .i64 out115.e0.Re, .int .i64 out115.e0.Im, .int .i64 out115.e0.Den, .int .i64 out115.e1.Re, .int .i64 out115.e1.Im, .int .i64 out115.e1.Den, .int .i64 out115.e2.Re, .int .i64 out115.e2.Im, .int .i64 out115.e2.Den, .int .i64 out115.e3.Re, .int .i64 out115.e3.Im, .int .i64 out115.e3.Den]) tyAgg_25 tySize_25) ?_
        refine JL.store 0 b3 0 25 [.int .i64 0, .int .i64 0, .int .i64 0, .int .i64 0, .int .i64 0, .int .i64 0, .int .i64 0, .int .i64 0, .int .i64 0, .int .i64 0, .int .i64 0, .int .i64 0] [.int .i64 out115.e0.Re, .int .i64 out115.e0.Im, .int .i64 out115.e0.Den, .int .i64 out115.e1.Re, .int .i64 out115.e1.Im, .int .i64 out115.e1.Den, .int .i64 out115.e2.Re, .int .i64 out115.e2.Im, .int .i64 out115.e2.Den, .int .i64 out115.e3.Re, .int .i64 out115.e3.Im, .int .i64 out115.e3.Den] tySize_25 ?_
        refine JL.as (.int .i64 0) ?_
        refine JL.nil ?_
        refine JQ.then_normal ?_
        refine JQ.sub [(2, .pointer (some ⟨b3, 0, none⟩)), (3, .int .i64 0)] ?_
        refine JQ.mask [At.box b3 25 [.int .i64 out115.e0.Re, .int .i64 out115.e0.Im, .int .i64 out115.e0.Den, .int .i64 out115.e1.Re, .int .i64 out115.e1.Im, .int .i64 out115.e1.Den, .int .i64 out115.e2.Re, .int .i64 out115.e2.Im, .int .i64 out115.e2.Den, .int .i64 out115.e3.Re, .int .i64 out115.e3.Im, .int .i64 out115.e3.Den]] [true, false] ?_
        refine J.ret ?_
        obtain rfl := Option.some.inj H0
        exact JQ.done' (rs := [.cell 2 25, .tmp 3]) (vs := [.agg #[.int .i64 out115.e0.Re, .int .i64 out115.e0.Im, .int .i64 out115.e0.Den, .int .i64 out115.e1.Re, .int .i64 out115.e1.Im, .int .i64 out115.e1.Den, .int .i64 out115.e2.Re, .int .i64 out115.e2.Im, .int .i64 out115.e2.Den, .int .i64 out115.e3.Re, .int .i64 out115.e3.Im, .int .i64 out115.e3.Den], .int .i64 0]) [] (.inr rfl) ⟨⟨b3, 0, _, _, by kernel_rfl, by kernel_rfl, holds_box b3 25 [.int .i64 out115.e0.Re, .int .i64 out115.e0.Im, .int .i64 out115.e0.Den, .int .i64 out115.e1.Re, .int .i64 out115.e1.Im, .int .i64 out115.e1.Den, .int .i64 out115.e2.Re, .int .i64 out115.e2.Im, .int .i64 out115.e2.Den, .int .i64 out115.e3.Re, .int .i64 out115.e3.Im, .int .i64 out115.e3.Den], .inl ⟨tyAgg_25, tySize_25, rfl⟩⟩, by kernel_rfl, trivial⟩ (fun _ h => Heap.to (Heap.pick [] (by decide) h)) ⟨rfl, rfl⟩

theorem law33_JonesReckons.ok (a1 : (A4 Cx)) (b2 : (A4 Cx)) (r : Bool) (H0 : law33_JonesReckons.f a1 b2 = some r) :
    Does Try.prog 3 [.agg #[.int .i64 a1.e0.Re, .int .i64 a1.e0.Im, .int .i64 a1.e0.Den, .int .i64 a1.e1.Re, .int .i64 a1.e1.Im, .int .i64 a1.e1.Den, .int .i64 a1.e2.Re, .int .i64 a1.e2.Im, .int .i64 a1.e2.Den, .int .i64 a1.e3.Re, .int .i64 a1.e3.Im, .int .i64 a1.e3.Den], .agg #[.int .i64 b2.e0.Re, .int .i64 b2.e0.Im, .int .i64 b2.e0.Den, .int .i64 b2.e1.Re, .int .i64 b2.e1.Im, .int .i64 b2.e1.Den, .int .i64 b2.e2.Re, .int .i64 b2.e2.Im, .int .i64 b2.e2.Den, .int .i64 b2.e3.Re, .int .i64 b2.e3.Im, .int .i64 b2.e3.Den]].toArray [] [] false (fun v Δ => v = .bool r ∧ Δ = []) := by
  refine Does.body (vs := [.agg #[.int .i64 a1.e0.Re, .int .i64 a1.e0.Im, .int .i64 a1.e0.Den, .int .i64 a1.e1.Re, .int .i64 a1.e1.Im, .int .i64 a1.e1.Den, .int .i64 a1.e2.Re, .int .i64 a1.e2.Im, .int .i64 a1.e2.Den, .int .i64 a1.e3.Re, .int .i64 a1.e3.Im, .int .i64 a1.e3.Den], .agg #[.int .i64 b2.e0.Re, .int .i64 b2.e0.Im, .int .i64 b2.e0.Den, .int .i64 b2.e1.Re, .int .i64 b2.e1.Im, .int .i64 b2.e1.Den, .int .i64 b2.e2.Re, .int .i64 b2.e2.Im, .int .i64 b2.e2.Den, .int .i64 b2.e3.Re, .int .i64 b2.e3.Im, .int .i64 b2.e3.Den]]) Try.func3 rfl trivial trivial fun w S => ?_
  unfold law33_JonesReckons.f at H0
  refine J.seq ?_
  refine J.region ?_
  refine JL.box [.int .i64 a1.e0.Re, .int .i64 a1.e0.Im, .int .i64 a1.e0.Den, .int .i64 a1.e1.Re, .int .i64 a1.e1.Im, .int .i64 a1.e1.Den, .int .i64 a1.e2.Re, .int .i64 a1.e2.Im, .int .i64 a1.e2.Den, .int .i64 a1.e3.Re, .int .i64 a1.e3.Im, .int .i64 a1.e3.Den] fun b3 => ?_
  refine JL.box [.int .i64 b2.e0.Re, .int .i64 b2.e0.Im, .int .i64 b2.e0.Den, .int .i64 b2.e1.Re, .int .i64 b2.e1.Im, .int .i64 b2.e1.Den, .int .i64 b2.e2.Re, .int .i64 b2.e2.Im, .int .i64 b2.e2.Den, .int .i64 b2.e3.Re, .int .i64 b2.e3.Im, .int .i64 b2.e3.Den] fun b4 => ?_
  refine JL.as (.bool false) ?_
  refine JL.nil ?_
  refine JQ.then_normal ?_
  refine JQ.sub [(2, .pointer (some ⟨b3, 0, none⟩)), (3, .pointer (some ⟨b4, 0, none⟩))] ?_
  refine J.seq ?_
  refine J.region ?_
  refine JL.val (.agg #[.int .i64 a1.e0.Re, .int .i64 a1.e0.Im, .int .i64 a1.e0.Den, .int .i64 a1.e1.Re, .int .i64 a1.e1.Im, .int .i64 a1.e1.Den, .int .i64 a1.e2.Re, .int .i64 a1.e2.Im, .int .i64 a1.e2.Den, .int .i64 a1.e3.Re, .int .i64 a1.e3.Im, .int .i64 a1.e3.Den]) (some 26) (yields_load_boxes 0 0 [.int .i64 a1.e0.Re, .int .i64 a1.e0.Im, .int .i64 a1.e0.Den, .int .i64 a1.e1.Re, .int .i64 a1.e1.Im, .int .i64 a1.e1.Den, .int .i64 a1.e2.Re, .int .i64 a1.e2.Im, .int .i64 a1.e2.Den, .int .i64 a1.e3.Re, .int .i64 a1.e3.Im, .int .i64 a1.e3.Den] (holds_box b3 25 [.int .i64 a1.e0.Re, .int .i64 a1.e0.Im, .int .i64 a1.e0.Den, .int .i64 a1.e1.Re, .int .i64 a1.e1.Im, .int .i64 a1.e1.Den, .int .i64 a1.e2.Re, .int .i64 a1.e2.Im, .int .i64 a1.e2.Den, .int .i64 a1.e3.Re, .int .i64 a1.e3.Im, .int .i64 a1.e3.Den]) tyAgg_25 tySize_25) ?_
  refine JL.val (.agg #[.int .i64 b2.e0.Re, .int .i64 b2.e0.Im, .int .i64 b2.e0.Den, .int .i64 b2.e1.Re, .int .i64 b2.e1.Im, .int .i64 b2.e1.Den, .int .i64 b2.e2.Re, .int .i64 b2.e2.Im, .int .i64 b2.e2.Den, .int .i64 b2.e3.Re, .int .i64 b2.e3.Im, .int .i64 b2.e3.Den]) (some 27) (yields_load_boxes 1 0 [.int .i64 b2.e0.Re, .int .i64 b2.e0.Im, .int .i64 b2.e0.Den, .int .i64 b2.e1.Re, .int .i64 b2.e1.Im, .int .i64 b2.e1.Den, .int .i64 b2.e2.Re, .int .i64 b2.e2.Im, .int .i64 b2.e2.Den, .int .i64 b2.e3.Re, .int .i64 b2.e3.Im, .int .i64 b2.e3.Den] (holds_box b4 25 [.int .i64 b2.e0.Re, .int .i64 b2.e0.Im, .int .i64 b2.e0.Den, .int .i64 b2.e1.Re, .int .i64 b2.e1.Im, .int .i64 b2.e1.Den, .int .i64 b2.e2.Re, .int .i64 b2.e2.Im, .int .i64 b2.e2.Den, .int .i64 b2.e3.Re, .int .i64 b2.e3.Im, .int .i64 b2.e3.Den]) tyAgg_25 tySize_25) ?_
  obtain ⟨t5, hc6, H0⟩ := bind_some H0
  refine JL.call [] [] [] (jones_Mul.ok a1 b2 _ hc6) trivial ?_
  rintro _ _ ⟨rfl, rfl⟩
  refine JL.mv (.tuple #[.agg #[.int .i64 t5.1.e0.Re, .int .i64 t5.1.e0.Im, .int .i64 t5.1.e0.Den, .int .i64 t5.1.e1.Re, .int .i64 t5.1.e1.Im, .int .i64 t5.1.e1.Den, .int .i64 t5.1.e2.Re, .int .i64 t5.1.e2.Im, .int .i64 t5.1.e2.Den, .int .i64 t5.1.e3.Re, .int .i64 t5.1.e3.Im, .int .i64 t5.1.e3.Den], .int .i64 t5.2]) ?_
  refine JL.pur (.agg #[.int .i64 t5.1.e0.Re, .int .i64 t5.1.e0.Im, .int .i64 t5.1.e0.Den, .int .i64 t5.1.e1.Re, .int .i64 t5.1.e1.Im, .int .i64 t5.1.e1.Den, .int .i64 t5.1.e2.Re, .int .i64 t5.1.e2.Im, .int .i64 t5.1.e2.Den, .int .i64 t5.1.e3.Re, .int .i64 t5.1.e3.Im, .int .i64 t5.1.e3.Den]) (some 29) ?_
  refine JL.pur (.int .i64 t5.2) (some 30) ?_
  refine JL.alloc [.int .i64 0, .int .i64 0, .int .i64 0, .int .i64 0, .int .i64 0, .int .i64 0, .int .i64 0, .int .i64 0, .int .i64 0, .int .i64 0, .int .i64 0, .int .i64 0] fun b7 => ?_
  refine JL.store 2 b7 0 25 [.int .i64 0, .int .i64 0, .int .i64 0, .int .i64 0, .int .i64 0, .int .i64 0, .int .i64 0, .int .i64 0, .int .i64 0, .int .i64 0, .int .i64 0, .int .i64 0] [.int .i64 t5.1.e0.Re, .int .i64 t5.1.e0.Im, .int .i64 t5.1.e0.Den, .int .i64 t5.1.e1.Re, .int .i64 t5.1.e1.Im, .int .i64 t5.1.e1.Den, .int .i64 t5.1.e2.Re, .int .i64 t5.1.e2.Im, .int .i64 t5.1.e2.Den, .int .i64 t5.1.e3.Re, .int .i64 t5.1.e3.Im, .int .i64 t5.1.e3.Den] tySize_25 ?_
  refine JL.as (.int .i64 t5.2) ?_
  refine JL.nil ?_
  refine JQ.then_normal ?_
  refine JQ.sub [(2, .pointer (some ⟨b3, 0, none⟩)), (3, .pointer (some ⟨b4, 0, none⟩)), (5, .pointer (some ⟨b7, 0, none⟩)), (6, .int .i64 t5.2)] ?_
  refine J.seq ?_
  refine J.region ?_
  refine JL.val (.agg #[.int .i64 a1.e0.Re, .int .i64 a1.e0.Im, .int .i64 a1.e0.Den, .int .i64 a1.e1.Re, .int .i64 a1.e1.Im, .int .i64 a1.e1.Den, .int .i64 a1.e2.Re, .int .i64 a1.e2.Im, .int .i64 a1.e2.Den, .int .i64 a1.e3.Re, .int .i64 a1.e3.Im, .int .i64 a1.e3.Den]) (some 32) (yields_load_boxes 0 0 [.int .i64 a1.e0.Re, .int .i64 a1.e0.Im, .int .i64 a1.e0.Den, .int .i64 a1.e1.Re, .int .i64 a1.e1.Im, .int .i64 a1.e1.Den, .int .i64 a1.e2.Re, .int .i64 a1.e2.Im, .int .i64 a1.e2.Den, .int .i64 a1.e3.Re, .int .i64 a1.e3.Im, .int .i64 a1.e3.Den] (holds_box b3 25 [.int .i64 a1.e0.Re, .int .i64 a1.e0.Im, .int .i64 a1.e0.Den, .int .i64 a1.e1.Re, .int .i64 a1.e1.Im, .int .i64 a1.e1.Den, .int .i64 a1.e2.Re, .int .i64 a1.e2.Im, .int .i64 a1.e2.Den, .int .i64 a1.e3.Re, .int .i64 a1.e3.Im, .int .i64 a1.e3.Den]) tyAgg_25 tySize_25) ?_
  refine JL.val (.agg #[.int .i64 b2.e0.Re, .int .i64 b2.e0.Im, .int .i64 b2.e0.Den, .int .i64 b2.e1.Re, .int .i64 b2.e1.Im, .int .i64 b2.e1.Den, .int .i64 b2.e2.Re, .int .i64 b2.e2.Im, .int .i64 b2.e2.Den, .int .i64 b2.e3.Re, .int .i64 b2.e3.Im, .int .i64 b2.e3.Den]) (some 33) (yields_load_boxes 1 0 [.int .i64 b2.e0.Re, .int .i64 b2.e0.Im, .int .i64 b2.e0.Den, .int .i64 b2.e1.Re, .int .i64 b2.e1.Im, .int .i64 b2.e1.Den, .int .i64 b2.e2.Re, .int .i64 b2.e2.Im, .int .i64 b2.e2.Den, .int .i64 b2.e3.Re, .int .i64 b2.e3.Im, .int .i64 b2.e3.Den] (holds_box b4 25 [.int .i64 b2.e0.Re, .int .i64 b2.e0.Im, .int .i64 b2.e0.Den, .int .i64 b2.e1.Re, .int .i64 b2.e1.Im, .int .i64 b2.e1.Den, .int .i64 b2.e2.Re, .int .i64 b2.e2.Im, .int .i64 b2.e2.Den, .int .i64 b2.e3.Re, .int .i64 b2.e3.Im, .int .i64 b2.e3.Den]) tyAgg_25 tySize_25) ?_
  obtain ⟨t8, hc9, H0⟩ := bind_some H0
  refine JL.call [] [] [] (ref33_Mul.ok a1 b2 _ hc9) trivial ?_
  rintro _ _ ⟨rfl, rfl⟩
  refine JL.mv (.tuple #[.agg #[.int .i64 t8.1.e0.Re, .int .i64 t8.1.e0.Im, .int .i64 t8.1.e0.Den, .int .i64 t8.1.e1.Re, .int .i64 t8.1.e1.Im, .int .i64 t8.1.e1.Den, .int .i64 t8.1.e2.Re, .int .i64 t8.1.e2.Im, .int .i64 t8.1.e2.Den, .int .i64 t8.1.e3.Re, .int .i64 t8.1.e3.Im, .int .i64 t8.1.e3.Den], .int .i64 t8.2]) ?_
  refine JL.pur (.agg #[.int .i64 t8.1.e0.Re, .int .i64 t8.1.e0.Im, .int .i64 t8.1.e0.Den, .int .i64 t8.1.e1.Re, .int .i64 t8.1.e1.Im, .int .i64 t8.1.e1.Den, .int .i64 t8.1.e2.Re, .int .i64 t8.1.e2.Im, .int .i64 t8.1.e2.Den, .int .i64 t8.1.e3.Re, .int .i64 t8.1.e3.Im, .int .i64 t8.1.e3.Den]) (some 35) ?_
  refine JL.pur (.int .i64 t8.2) (some 36) ?_
  refine JL.alloc [.int .i64 0, .int .i64 0, .int .i64 0, .int .i64 0, .int .i64 0, .int .i64 0, .int .i64 0, .int .i64 0, .int .i64 0, .int .i64 0, .int .i64 0, .int .i64 0] fun b10 => ?_
  refine JL.store 3 b10 0 25 [.int .i64 0, .int .i64 0, .int .i64 0, .int .i64 0, .int .i64 0, .int .i64 0, .int .i64 0, .int .i64 0, .int .i64 0, .int .i64 0, .int .i64 0, .int .i64 0] [.int .i64 t8.1.e0.Re, .int .i64 t8.1.e0.Im, .int .i64 t8.1.e0.Den, .int .i64 t8.1.e1.Re, .int .i64 t8.1.e1.Im, .int .i64 t8.1.e1.Den, .int .i64 t8.1.e2.Re, .int .i64 t8.1.e2.Im, .int .i64 t8.1.e2.Den, .int .i64 t8.1.e3.Re, .int .i64 t8.1.e3.Im, .int .i64 t8.1.e3.Den] tySize_25 ?_
  refine JL.as (.int .i64 t8.2) ?_
  refine JL.nil ?_
  refine JQ.then_normal ?_
  refine JQ.sub [(2, .pointer (some ⟨b3, 0, none⟩)), (5, .pointer (some ⟨b7, 0, none⟩)), (6, .int .i64 t5.2), (7, .pointer (some ⟨b10, 0, none⟩)), (8, .int .i64 t8.2)] ?_
  refine JQ.mask [At.box b3 25 [.int .i64 a1.e0.Re, .int .i64 a1.e0.Im, .int .i64 a1.e0.Den, .int .i64 a1.e1.Re, .int .i64 a1.e1.Im, .int .i64 a1.e1.Den, .int .i64 a1.e2.Re, .int .i64 a1.e2.Im, .int .i64 a1.e2.Den, .int .i64 a1.e3.Re, .int .i64 a1.e3.Im, .int .i64 a1.e3.Den], At.box b7 25 [.int .i64 t5.1.e0.Re, .int .i64 t5.1.e0.Im, .int .i64 t5.1.e0.Den, .int .i64 t5.1.e1.Re, .int .i64 t5.1.e1.Im, .int .i64 t5.1.e1.Den, .int .i64 t5.1.e2.Re, .int .i64 t5.1.e2.Im, .int .i64 t5.1.e2.Den, .int .i64 t5.1.e3.Re, .int .i64 t5.1.e3.Im, .int .i64 t5.1.e3.Den], At.box b10 25 [.int .i64 t8.1.e0.Re, .int .i64 t8.1.e0.Im, .int .i64 t8.1.e0.Den, .int .i64 t8.1.e1.Re, .int .i64 t8.1.e1.Im, .int .i64 t8.1.e1.Den, .int .i64 t8.1.e2.Re, .int .i64 t8.1.e2.Im, .int .i64 t8.1.e2.Den, .int .i64 t8.1.e3.Re, .int .i64 t8.1.e3.Im, .int .i64 t8.1.e3.Den]] [true, false, true, true] ?_
  refine J.seq ?_
  refine J.region ?_
  refine JL.val (.agg #[.int .i64 a1.e0.Re, .int .i64 a1.e0.Im, .int .i64 a1.e0.Den, .int .i64 a1.e1.Re, .int .i64 a1.e1.Im, .int .i64 a1.e1.Den, .int .i64 a1.e2.Re, .int .i64 a1.e2.Im, .int .i64 a1.e2.Den, .int .i64 a1.e3.Re, .int .i64 a1.e3.Im, .int .i64 a1.e3.Den]) (some 38) (yields_load_boxes 0 0 [.int .i64 a1.e0.Re, .int .i64 a1.e0.Im, .int .i64 a1.e0.Den, .int .i64 a1.e1.Re, .int .i64 a1.e1.Im, .int .i64 a1.e1.Den, .int .i64 a1.e2.Re, .int .i64 a1.e2.Im, .int .i64 a1.e2.Den, .int .i64 a1.e3.Re, .int .i64 a1.e3.Im, .int .i64 a1.e3.Den] (holds_box b3 25 [.int .i64 a1.e0.Re, .int .i64 a1.e0.Im, .int .i64 a1.e0.Den, .int .i64 a1.e1.Re, .int .i64 a1.e1.Im, .int .i64 a1.e1.Den, .int .i64 a1.e2.Re, .int .i64 a1.e2.Im, .int .i64 a1.e2.Den, .int .i64 a1.e3.Re, .int .i64 a1.e3.Im, .int .i64 a1.e3.Den]) tyAgg_25 tySize_25) ?_
  obtain ⟨t11, hc12, H0⟩ := bind_some H0
  refine JL.call [] [] [] (jones_Adjoint.ok a1 _ hc12) trivial ?_
  rintro _ _ ⟨rfl, rfl⟩
  refine JL.mv (.tuple #[.agg #[.int .i64 t11.1.e0.Re, .int .i64 t11.1.e0.Im, .int .i64 t11.1.e0.Den, .int .i64 t11.1.e1.Re, .int .i64 t11.1.e1.Im, .int .i64 t11.1.e1.Den, .int .i64 t11.1.e2.Re, .int .i64 t11.1.e2.Im, .int .i64 t11.1.e2.Den, .int .i64 t11.1.e3.Re, .int .i64 t11.1.e3.Im, .int .i64 t11.1.e3.Den], .int .i64 t11.2]) ?_
  refine JL.pur (.agg #[.int .i64 t11.1.e0.Re, .int .i64 t11.1.e0.Im, .int .i64 t11.1.e0.Den, .int .i64 t11.1.e1.Re, .int .i64 t11.1.e1.Im, .int .i64 t11.1.e1.Den, .int .i64 t11.1.e2.Re, .int .i64 t11.1.e2.Im, .int .i64 t11.1.e2.Den, .int .i64 t11.1.e3.Re, .int .i64 t11.1.e3.Im, .int .i64 t11.1.e3.Den]) (some 40) ?_
  refine JL.pur (.int .i64 t11.2) (some 41) ?_
  refine JL.alloc [.int .i64 0, .int .i64 0, .int .i64 0, .int .i64 0, .int .i64 0, .int .i64 0, .int .i64 0, .int .i64 0, .int .i64 0, .int .i64 0, .int .i64 0, .int .i64 0] fun b13 => ?_
  refine JL.store 3 b13 0 25 [.int .i64 0, .int .i64 0, .int .i64 0, .int .i64 0, .int .i64 0, .int .i64 0, .int .i64 0, .int .i64 0, .int .i64 0, .int .i64 0, .int .i64 0, .int .i64 0] [.int .i64 t11.1.e0.Re, .int .i64 t11.1.e0.Im, .int .i64 t11.1.e0.Den, .int .i64 t11.1.e1.Re, .int .i64 t11.1.e1.Im, .int .i64 t11.1.e1.Den, .int .i64 t11.1.e2.Re, .int .i64 t11.1.e2.Im, .int .i64 t11.1.e2.Den, .int .i64 t11.1.e3.Re, .int .i64 t11.1.e3.Im, .int .i64 t11.1.e3.Den] tySize_25 ?_
  refine JL.as (.int .i64 t11.2) ?_
  refine JL.nil ?_
  refine JQ.then_normal ?_
  refine JQ.sub [(2, .pointer (some ⟨b3, 0, none⟩)), (5, .pointer (some ⟨b7, 0, none⟩)), (6, .int .i64 t5.2), (7, .pointer (some ⟨b10, 0, none⟩)), (8, .int .i64 t8.2), (9, .pointer (some ⟨b13, 0, none⟩)), (10, .int .i64 t11.2)] ?_
  refine J.seq ?_
  refine J.region ?_
  refine JL.val (.agg #[.int .i64 a1.e0.Re, .int .i64 a1.e0.Im, .int .i64 a1.e0.Den, .int .i64 a1.e1.Re, .int .i64 a1.e1.Im, .int .i64 a1.e1.Den, .int .i64 a1.e2.Re, .int .i64 a1.e2.Im, .int .i64 a1.e2.Den, .int .i64 a1.e3.Re, .int .i64 a1.e3.Im, .int .i64 a1.e3.Den]) (some 43) (yields_load_boxes 0 0 [.int .i64 a1.e0.Re, .int .i64 a1.e0.Im, .int .i64 a1.e0.Den, .int .i64 a1.e1.Re, .int .i64 a1.e1.Im, .int .i64 a1.e1.Den, .int .i64 a1.e2.Re, .int .i64 a1.e2.Im, .int .i64 a1.e2.Den, .int .i64 a1.e3.Re, .int .i64 a1.e3.Im, .int .i64 a1.e3.Den] (holds_box b3 25 [.int .i64 a1.e0.Re, .int .i64 a1.e0.Im, .int .i64 a1.e0.Den, .int .i64 a1.e1.Re, .int .i64 a1.e1.Im, .int .i64 a1.e1.Den, .int .i64 a1.e2.Re, .int .i64 a1.e2.Im, .int .i64 a1.e2.Den, .int .i64 a1.e3.Re, .int .i64 a1.e3.Im, .int .i64 a1.e3.Den]) tyAgg_25 tySize_25) ?_
  obtain ⟨t14, hc15, H0⟩ := bind_some H0
  refine JL.call [] [] [] (ref33_Adjoint.ok a1 _ hc15) trivial ?_
  rintro _ _ ⟨rfl, rfl⟩
  refine JL.mv (.tuple #[.agg #[.int .i64 t14.1.e0.Re, .int .i64 t14.1.e0.Im, .int .i64 t14.1.e0.Den, .int .i64 t14.1.e1.Re, .int .i64 t14.1.e1.Im, .int .i64 t14.1.e1.Den, .int .i64 t14.1.e2.Re, .int .i64 t14.1.e2.Im, .int .i64 t14.1.e2.Den, .int .i64 t14.1.e3.Re, .int .i64 t14.1.e3.Im, .int .i64 t14.1.e3.Den], .int .i64 t14.2]) ?_
  refine JL.pur (.agg #[.int .i64 t14.1.e0.Re, .int .i64 t14.1.e0.Im, .int .i64 t14.1.e0.Den, .int .i64 t14.1.e1.Re, .int .i64 t14.1.e1.Im, .int .i64 t14.1.e1.Den, .int .i64 t14.1.e2.Re, .int .i64 t14.1.e2.Im, .int .i64 t14.1.e2.Den, .int .i64 t14.1.e3.Re, .int .i64 t14.1.e3.Im, .int .i64 t14.1.e3.Den]) (some 45) ?_
  refine JL.pur (.int .i64 t14.2) (some 46) ?_
  refine JL.alloc [.int .i64 0, .int .i64 0, .int .i64 0, .int .i64 0, .int .i64 0, .int .i64 0, .int .i64 0, .int .i64 0, .int .i64 0, .int .i64 0, .int .i64 0, .int .i64 0] fun b16 => ?_
  refine JL.store 4 b16 0 25 [.int .i64 0, .int .i64 0, .int .i64 0, .int .i64 0, .int .i64 0, .int .i64 0, .int .i64 0, .int .i64 0, .int .i64 0, .int .i64 0, .int .i64 0, .int .i64 0] [.int .i64 t14.1.e0.Re, .int .i64 t14.1.e0.Im, .int .i64 t14.1.e0.Den, .int .i64 t14.1.e1.Re, .int .i64 t14.1.e1.Im, .int .i64 t14.1.e1.Den, .int .i64 t14.1.e2.Re, .int .i64 t14.1.e2.Im, .int .i64 t14.1.e2.Den, .int .i64 t14.1.e3.Re, .int .i64 t14.1.e3.Im, .int .i64 t14.1.e3.Den] tySize_25 ?_
  refine JL.as (.int .i64 t14.2) ?_
  refine JL.nil ?_
  refine JQ.then_normal ?_
  refine JQ.sub [(2, .pointer (some ⟨b3, 0, none⟩)), (5, .pointer (some ⟨b7, 0, none⟩)), (6, .int .i64 t5.2), (7, .pointer (some ⟨b10, 0, none⟩)), (8, .int .i64 t8.2), (9, .pointer (some ⟨b13, 0, none⟩)), (10, .int .i64 t11.2), (11, .pointer (some ⟨b16, 0, none⟩)), (12, .int .i64 t14.2)] ?_
  refine J.seq ?_
  refine J.region ?_
  refine JL.val (.agg #[.int .i64 a1.e0.Re, .int .i64 a1.e0.Im, .int .i64 a1.e0.Den, .int .i64 a1.e1.Re, .int .i64 a1.e1.Im, .int .i64 a1.e1.Den, .int .i64 a1.e2.Re, .int .i64 a1.e2.Im, .int .i64 a1.e2.Den, .int .i64 a1.e3.Re, .int .i64 a1.e3.Im, .int .i64 a1.e3.Den]) (some 48) (yields_load_boxes 0 0 [.int .i64 a1.e0.Re, .int .i64 a1.e0.Im, .int .i64 a1.e0.Den, .int .i64 a1.e1.Re, .int .i64 a1.e1.Im, .int .i64 a1.e1.Den, .int .i64 a1.e2.Re, .int .i64 a1.e2.Im, .int .i64 a1.e2.Den, .int .i64 a1.e3.Re, .int .i64 a1.e3.Im, .int .i64 a1.e3.Den] (holds_box b3 25 [.int .i64 a1.e0.Re, .int .i64 a1.e0.Im, .int .i64 a1.e0.Den, .int .i64 a1.e1.Re, .int .i64 a1.e1.Im, .int .i64 a1.e1.Den, .int .i64 a1.e2.Re, .int .i64 a1.e2.Im, .int .i64 a1.e2.Den, .int .i64 a1.e3.Re, .int .i64 a1.e3.Im, .int .i64 a1.e3.Den]) tyAgg_25 tySize_25) ?_
  obtain ⟨t17, hc18, H0⟩ := bind_some H0
  refine JL.call [] [] [] (jones_Det.ok a1 _ hc18) trivial ?_
  rintro _ _ ⟨rfl, rfl⟩
  refine JL.mv (.tuple #[.agg #[.int .i64 t17.1.Re, .int .i64 t17.1.Im, .int .i64 t17.1.Den], .int .i64 t17.2]) ?_
  refine JL.pur (.agg #[.int .i64 t17.1.Re, .int .i64 t17.1.Im, .int .i64 t17.1.Den]) (some 50) ?_
  refine JL.pur (.int .i64 t17.2) (some 51) ?_
  refine JL.alloc [.int .i64 0, .int .i64 0, .int .i64 0] fun b19 => ?_
  refine JL.store 5 b19 0 23 [.int .i64 0, .int .i64 0, .int .i64 0] [.int .i64 t17.1.Re, .int .i64 t17.1.Im, .int .i64 t17.1.Den] tySize_23 ?_
  refine JL.as (.int .i64 t17.2) ?_
  refine JL.nil ?_
  refine JQ.then_normal ?_
  refine JQ.sub [(2, .pointer (some ⟨b3, 0, none⟩)), (5, .pointer (some ⟨b7, 0, none⟩)), (6, .int .i64 t5.2), (7, .pointer (some ⟨b10, 0, none⟩)), (8, .int .i64 t8.2), (9, .pointer (some ⟨b13, 0, none⟩)), (10, .int .i64 t11.2), (11, .pointer (some ⟨b16, 0, none⟩)), (12, .int .i64 t14.2), (13, .pointer (some ⟨b19, 0, none⟩)), (14, .int .i64 t17.2)] ?_
  refine J.seq ?_
  refine J.region ?_
  refine JL.val (.agg #[.int .i64 a1.e0.Re, .int .i64 a1.e0.Im, .int .i64 a1.e0.Den, .int .i64 a1.e1.Re, .int .i64 a1.e1.Im, .int .i64 a1.e1.Den, .int .i64 a1.e2.Re, .int .i64 a1.e2.Im, .int .i64 a1.e2.Den, .int .i64 a1.e3.Re, .int .i64 a1.e3.Im, .int .i64 a1.e3.Den]) (some 53) (yields_load_boxes 0 0 [.int .i64 a1.e0.Re, .int .i64 a1.e0.Im, .int .i64 a1.e0.Den, .int .i64 a1.e1.Re, .int .i64 a1.e1.Im, .int .i64 a1.e1.Den, .int .i64 a1.e2.Re, .int .i64 a1.e2.Im, .int .i64 a1.e2.Den, .int .i64 a1.e3.Re, .int .i64 a1.e3.Im, .int .i64 a1.e3.Den] (holds_box b3 25 [.int .i64 a1.e0.Re, .int .i64 a1.e0.Im, .int .i64 a1.e0.Den, .int .i64 a1.e1.Re, .int .i64 a1.e1.Im, .int .i64 a1.e1.Den, .int .i64 a1.e2.Re, .int .i64 a1.e2.Im, .int .i64 a1.e2.Den, .int .i64 a1.e3.Re, .int .i64 a1.e3.Im, .int .i64 a1.e3.Den]) tyAgg_25 tySize_25) ?_
  obtain ⟨t20, hc21, H0⟩ := bind_some H0
  refine JL.call [] [] [] (ref33_Det.ok a1 _ hc21) trivial ?_
  rintro _ _ ⟨rfl, rfl⟩
  refine JL.mv (.tuple #[.agg #[.int .i64 t20.1.Re, .int .i64 t20.1.Im, .int .i64 t20.1.Den], .int .i64 t20.2]) ?_
  refine JL.pur (.agg #[.int .i64 t20.1.Re, .int .i64 t20.1.Im, .int .i64 t20.1.Den]) (some 55) ?_
  refine JL.pur (.int .i64 t20.2) (some 56) ?_
  refine JL.alloc [.int .i64 0, .int .i64 0, .int .i64 0] fun b22 => ?_
  refine JL.store 6 b22 0 23 [.int .i64 0, .int .i64 0, .int .i64 0] [.int .i64 t20.1.Re, .int .i64 t20.1.Im, .int .i64 t20.1.Den] tySize_23 ?_
  refine JL.as (.int .i64 t20.2) ?_
  refine JL.nil ?_
  refine JQ.then_normal ?_
  refine JQ.sub [(2, .pointer (some ⟨b3, 0, none⟩)), (5, .pointer (some ⟨b7, 0, none⟩)), (6, .int .i64 t5.2), (7, .pointer (some ⟨b10, 0, none⟩)), (8, .int .i64 t8.2), (9, .pointer (some ⟨b13, 0, none⟩)), (10, .int .i64 t11.2), (11, .pointer (some ⟨b16, 0, none⟩)), (12, .int .i64 t14.2), (13, .pointer (some ⟨b19, 0, none⟩)), (14, .int .i64 t17.2), (15, .pointer (some ⟨b22, 0, none⟩)), (16, .int .i64 t20.2)] ?_
  refine J.seq ?_
  refine J.region ?_
  refine JL.val (.agg #[.int .i64 a1.e0.Re, .int .i64 a1.e0.Im, .int .i64 a1.e0.Den, .int .i64 a1.e1.Re, .int .i64 a1.e1.Im, .int .i64 a1.e1.Den, .int .i64 a1.e2.Re, .int .i64 a1.e2.Im, .int .i64 a1.e2.Den, .int .i64 a1.e3.Re, .int .i64 a1.e3.Im, .int .i64 a1.e3.Den]) (some 58) (yields_load_boxes 0 0 [.int .i64 a1.e0.Re, .int .i64 a1.e0.Im, .int .i64 a1.e0.Den, .int .i64 a1.e1.Re, .int .i64 a1.e1.Im, .int .i64 a1.e1.Den, .int .i64 a1.e2.Re, .int .i64 a1.e2.Im, .int .i64 a1.e2.Den, .int .i64 a1.e3.Re, .int .i64 a1.e3.Im, .int .i64 a1.e3.Den] (holds_box b3 25 [.int .i64 a1.e0.Re, .int .i64 a1.e0.Im, .int .i64 a1.e0.Den, .int .i64 a1.e1.Re, .int .i64 a1.e1.Im, .int .i64 a1.e1.Den, .int .i64 a1.e2.Re, .int .i64 a1.e2.Im, .int .i64 a1.e2.Den, .int .i64 a1.e3.Re, .int .i64 a1.e3.Im, .int .i64 a1.e3.Den]) tyAgg_25 tySize_25) ?_
  obtain ⟨t23, hc24, H0⟩ := bind_some H0
  refine JL.call [] [] [] (jones_Trace.ok a1 _ hc24) trivial ?_
  rintro _ _ ⟨rfl, rfl⟩
  refine JL.mv (.tuple #[.agg #[.int .i64 t23.1.Re, .int .i64 t23.1.Im, .int .i64 t23.1.Den], .int .i64 t23.2]) ?_
  refine JL.pur (.agg #[.int .i64 t23.1.Re, .int .i64 t23.1.Im, .int .i64 t23.1.Den]) (some 60) ?_
  refine JL.pur (.int .i64 t23.2) (some 61) ?_
  refine JL.alloc [.int .i64 0, .int .i64 0, .int .i64 0] fun b25 => ?_
  refine JL.store 7 b25 0 23 [.int .i64 0, .int .i64 0, .int .i64 0] [.int .i64 t23.1.Re, .int .i64 t23.1.Im, .int .i64 t23.1.Den] tySize_23 ?_
  refine JL.as (.int .i64 t23.2) ?_
  refine JL.nil ?_
  refine JQ.then_normal ?_
  refine JQ.sub [(2, .pointer (some ⟨b3, 0, none⟩)), (5, .pointer (some ⟨b7, 0, none⟩)), (6, .int .i64 t5.2), (7, .pointer (some ⟨b10, 0, none⟩)), (8, .int .i64 t8.2), (9, .pointer (some ⟨b13, 0, none⟩)), (10, .int .i64 t11.2), (11, .pointer (some ⟨b16, 0, none⟩)), (12, .int .i64 t14.2), (13, .pointer (some ⟨b19, 0, none⟩)), (14, .int .i64 t17.2), (15, .pointer (some ⟨b22, 0, none⟩)), (16, .int .i64 t20.2), (17, .pointer (some ⟨b25, 0, none⟩)), (18, .int .i64 t23.2)] ?_
  refine J.seq ?_
  refine J.region ?_
  refine JL.val (.agg #[.int .i64 a1.e0.Re, .int .i64 a1.e0.Im, .int .i64 a1.e0.Den, .int .i64 a1.e1.Re, .int .i64 a1.e1.Im, .int .i64 a1.e1.Den, .int .i64 a1.e2.Re, .int .i64 a1.e2.Im, .int .i64 a1.e2.Den, .int .i64 a1.e3.Re, .int .i64 a1.e3.Im, .int .i64 a1.e3.Den]) (some 63) (yields_load_boxes 0 0 [.int .i64 a1.e0.Re, .int .i64 a1.e0.Im, .int .i64 a1.e0.Den, .int .i64 a1.e1.Re, .int .i64 a1.e1.Im, .int .i64 a1.e1.Den, .int .i64 a1.e2.Re, .int .i64 a1.e2.Im, .int .i64 a1.e2.Den, .int .i64 a1.e3.Re, .int .i64 a1.e3.Im, .int .i64 a1.e3.Den] (holds_box b3 25 [.int .i64 a1.e0.Re, .int .i64 a1.e0.Im, .int .i64 a1.e0.Den, .int .i64 a1.e1.Re, .int .i64 a1.e1.Im, .int .i64 a1.e1.Den, .int .i64 a1.e2.Re, .int .i64 a1.e2.Im, .int .i64 a1.e2.Den, .int .i64 a1.e3.Re, .int .i64 a1.e3.Im, .int .i64 a1.e3.Den]) tyAgg_25 tySize_25) ?_
  obtain ⟨t26, hc27, H0⟩ := bind_some H0
  refine JL.call [] [] [] (ref33_Trace.ok a1 _ hc27) trivial ?_
  rintro _ _ ⟨rfl, rfl⟩
  refine JL.mv (.tuple #[.agg #[.int .i64 t26.1.Re, .int .i64 t26.1.Im, .int .i64 t26.1.Den], .int .i64 t26.2]) ?_
  refine JL.pur (.agg #[.int .i64 t26.1.Re, .int .i64 t26.1.Im, .int .i64 t26.1.Den]) (some 65) ?_
  refine JL.pur (.int .i64 t26.2) (some 66) ?_
  refine JL.alloc [.int .i64 0, .int .i64 0, .int .i64 0] fun b28 => ?_
  refine JL.store 8 b28 0 23 [.int .i64 0, .int .i64 0, .int .i64 0] [.int .i64 t26.1.Re, .int .i64 t26.1.Im, .int .i64 t26.1.Den] tySize_23 ?_
  refine JL.as (.int .i64 t26.2) ?_
  refine JL.nil ?_
  refine JQ.then_normal ?_
  refine JQ.sub [(2, .pointer (some ⟨b3, 0, none⟩)), (5, .pointer (some ⟨b7, 0, none⟩)), (6, .int .i64 t5.2), (7, .pointer (some ⟨b10, 0, none⟩)), (8, .int .i64 t8.2), (9, .pointer (some ⟨b13, 0, none⟩)), (10, .int .i64 t11.2), (11, .pointer (some ⟨b16, 0, none⟩)), (12, .int .i64 t14.2), (13, .pointer (some ⟨b19, 0, none⟩)), (14, .int .i64 t17.2), (15, .pointer (some ⟨b22, 0, none⟩)), (16, .int .i64 t20.2), (17, .pointer (some ⟨b25, 0, none⟩)), (18, .int .i64 t23.2), (19, .pointer (some ⟨b28, 0, none⟩)), (20, .int .i64 t26.2)] ?_
  refine J.seq ?_
  refine J.region ?_
  refine JL.val (.agg #[.int .i64 a1.e0.Re, .int .i64 a1.e0.Im, .int .i64 a1.e0.Den, .int .i64 a1.e1.Re, .int .i64 a1.e1.Im, .int .i64 a1.e1.Den, .int .i64 a1.e2.Re, .int .i64 a1.e2.Im, .int .i64 a1.e2.Den, .int .i64 a1.e3.Re, .int .i64 a1.e3.Im, .int .i64 a1.e3.Den]) (some 68) (yields_load_boxes 0 0 [.int .i64 a1.e0.Re, .int .i64 a1.e0.Im, .int .i64 a1.e0.Den, .int .i64 a1.e1.Re, .int .i64 a1.e1.Im, .int .i64 a1.e1.Den, .int .i64 a1.e2.Re, .int .i64 a1.e2.Im, .int .i64 a1.e2.Den, .int .i64 a1.e3.Re, .int .i64 a1.e3.Im, .int .i64 a1.e3.Den] (holds_box b3 25 [.int .i64 a1.e0.Re, .int .i64 a1.e0.Im, .int .i64 a1.e0.Den, .int .i64 a1.e1.Re, .int .i64 a1.e1.Im, .int .i64 a1.e1.Den, .int .i64 a1.e2.Re, .int .i64 a1.e2.Im, .int .i64 a1.e2.Den, .int .i64 a1.e3.Re, .int .i64 a1.e3.Im, .int .i64 a1.e3.Den]) tyAgg_25 tySize_25) ?_
  obtain ⟨t29, hc30, H0⟩ := bind_some H0
  refine JL.call [] [] [] (jones_Inv.ok a1 _ hc30) trivial ?_
  rintro _ _ ⟨rfl, rfl⟩
  refine JL.mv (.tuple #[.agg #[.int .i64 t29.1.e0.Re, .int .i64 t29.1.e0.Im, .int .i64 t29.1.e0.Den, .int .i64 t29.1.e1.Re, .int .i64 t29.1.e1.Im, .int .i64 t29.1.e1.Den, .int .i64 t29.1.e2.Re, .int .i64 t29.1.e2.Im, .int .i64 t29.1.e2.Den, .int .i64 t29.1.e3.Re, .int .i64 t29.1.e3.Im, .int .i64 t29.1.e3.Den], .int .i64 t29.2]) ?_
  refine JL.pur (.agg #[.int .i64 t29.1.e0.Re, .int .i64 t29.1.e0.Im, .int .i64 t29.1.e0.Den, .int .i64 t29.1.e1.Re, .int .i64 t29.1.e1.Im, .int .i64 t29.1.e1.Den, .int .i64 t29.1.e2.Re, .int .i64 t29.1.e2.Im, .int .i64 t29.1.e2.Den, .int .i64 t29.1.e3.Re, .int .i64 t29.1.e3.Im, .int .i64 t29.1.e3.Den]) (some 70) ?_
  refine JL.pur (.int .i64 t29.2) (some 71) ?_
  refine JL.alloc [.int .i64 0, .int .i64 0, .int .i64 0, .int .i64 0, .int .i64 0, .int .i64 0, .int .i64 0, .int .i64 0, .int .i64 0, .int .i64 0, .int .i64 0, .int .i64 0] fun b31 => ?_
  refine JL.store 9 b31 0 25 [.int .i64 0, .int .i64 0, .int .i64 0, .int .i64 0, .int .i64 0, .int .i64 0, .int .i64 0, .int .i64 0, .int .i64 0, .int .i64 0, .int .i64 0, .int .i64 0] [.int .i64 t29.1.e0.Re, .int .i64 t29.1.e0.Im, .int .i64 t29.1.e0.Den, .int .i64 t29.1.e1.Re, .int .i64 t29.1.e1.Im, .int .i64 t29.1.e1.Den, .int .i64 t29.1.e2.Re, .int .i64 t29.1.e2.Im, .int .i64 t29.1.e2.Den, .int .i64 t29.1.e3.Re, .int .i64 t29.1.e3.Im, .int .i64 t29.1.e3.Den] tySize_25 ?_
  refine JL.as (.int .i64 t29.2) ?_
  refine JL.nil ?_
  refine JQ.then_normal ?_
  refine JQ.sub [(2, .pointer (some ⟨b3, 0, none⟩)), (5, .pointer (some ⟨b7, 0, none⟩)), (6, .int .i64 t5.2), (7, .pointer (some ⟨b10, 0, none⟩)), (8, .int .i64 t8.2), (9, .pointer (some ⟨b13, 0, none⟩)), (10, .int .i64 t11.2), (11, .pointer (some ⟨b16, 0, none⟩)), (12, .int .i64 t14.2), (13, .pointer (some ⟨b19, 0, none⟩)), (14, .int .i64 t17.2), (15, .pointer (some ⟨b22, 0, none⟩)), (16, .int .i64 t20.2), (17, .pointer (some ⟨b25, 0, none⟩)), (18, .int .i64 t23.2), (19, .pointer (some ⟨b28, 0, none⟩)), (20, .int .i64 t26.2), (21, .pointer (some ⟨b31, 0, none⟩)), (22, .int .i64 t29.2)] ?_
  refine J.seq ?_
  refine J.region ?_
  refine JL.val (.agg #[.int .i64 a1.e0.Re, .int .i64 a1.e0.Im, .int .i64 a1.e0.Den, .int .i64 a1.e1.Re, .int .i64 a1.e1.Im, .int .i64 a1.e1.Den, .int .i64 a1.e2.Re, .int .i64 a1.e2.Im, .int .i64 a1.e2.Den, .int .i64 a1.e3.Re, .int .i64 a1.e3.Im, .int .i64 a1.e3.Den]) (some 73) (yields_load_boxes 0 0 [.int .i64 a1.e0.Re, .int .i64 a1.e0.Im, .int .i64 a1.e0.Den, .int .i64 a1.e1.Re, .int .i64 a1.e1.Im, .int .i64 a1.e1.Den, .int .i64 a1.e2.Re, .int .i64 a1.e2.Im, .int .i64 a1.e2.Den, .int .i64 a1.e3.Re, .int .i64 a1.e3.Im, .int .i64 a1.e3.Den] (holds_box b3 25 [.int .i64 a1.e0.Re, .int .i64 a1.e0.Im, .int .i64 a1.e0.Den, .int .i64 a1.e1.Re, .int .i64 a1.e1.Im, .int .i64 a1.e1.Den, .int .i64 a1.e2.Re, .int .i64 a1.e2.Im, .int .i64 a1.e2.Den, .int .i64 a1.e3.Re, .int .i64 a1.e3.Im, .int .i64 a1.e3.Den]) tyAgg_25 tySize_25) ?_
  obtain ⟨t32, hc33, H0⟩ := bind_some H0
  refine JL.call [] [] [] (ref33_Inv.ok a1 _ hc33) trivial ?_
  rintro _ _ ⟨rfl, rfl⟩
  refine JL.mv (.tuple #[.agg #[.int .i64 t32.1.e0.Re, .int .i64 t32.1.e0.Im, .int .i64 t32.1.e0.Den, .int .i64 t32.1.e1.Re, .int .i64 t32.1.e1.Im, .int .i64 t32.1.e1.Den, .int .i64 t32.1.e2.Re, .int .i64 t32.1.e2.Im, .int .i64 t32.1.e2.Den, .int .i64 t32.1.e3.Re, .int .i64 t32.1.e3.Im, .int .i64 t32.1.e3.Den], .int .i64 t32.2]) ?_
  refine JL.pur (.agg #[.int .i64 t32.1.e0.Re, .int .i64 t32.1.e0.Im, .int .i64 t32.1.e0.Den, .int .i64 t32.1.e1.Re, .int .i64 t32.1.e1.Im, .int .i64 t32.1.e1.Den, .int .i64 t32.1.e2.Re, .int .i64 t32.1.e2.Im, .int .i64 t32.1.e2.Den, .int .i64 t32.1.e3.Re, .int .i64 t32.1.e3.Im, .int .i64 t32.1.e3.Den]) (some 75) ?_
  refine JL.pur (.int .i64 t32.2) (some 76) ?_
  refine JL.alloc [.int .i64 0, .int .i64 0, .int .i64 0, .int .i64 0, .int .i64 0, .int .i64 0, .int .i64 0, .int .i64 0, .int .i64 0, .int .i64 0, .int .i64 0, .int .i64 0] fun b34 => ?_
  refine JL.store 10 b34 0 25 [.int .i64 0, .int .i64 0, .int .i64 0, .int .i64 0, .int .i64 0, .int .i64 0, .int .i64 0, .int .i64 0, .int .i64 0, .int .i64 0, .int .i64 0, .int .i64 0] [.int .i64 t32.1.e0.Re, .int .i64 t32.1.e0.Im, .int .i64 t32.1.e0.Den, .int .i64 t32.1.e1.Re, .int .i64 t32.1.e1.Im, .int .i64 t32.1.e1.Den, .int .i64 t32.1.e2.Re, .int .i64 t32.1.e2.Im, .int .i64 t32.1.e2.Den, .int .i64 t32.1.e3.Re, .int .i64 t32.1.e3.Im, .int .i64 t32.1.e3.Den] tySize_25 ?_
  refine JL.as (.int .i64 t32.2) ?_
  refine JL.nil ?_
  refine JQ.then_normal ?_
  refine JQ.sub [(5, .pointer (some ⟨b7, 0, none⟩)), (6, .int .i64 t5.2), (7, .pointer (some ⟨b10, 0, none⟩)), (8, .int .i64 t8.2), (9, .pointer (some ⟨b13, 0, none⟩)), (10, .int .i64 t11.2), (11, .pointer (some ⟨b16, 0, none⟩)), (12, .int .i64 t14.2), (13, .pointer (some ⟨b19, 0, none⟩)), (14, .int .i64 t17.2), (15, .pointer (some ⟨b22, 0, none⟩)), (16, .int .i64 t20.2), (17, .pointer (some ⟨b25, 0, none⟩)), (18, .int .i64 t23.2), (19, .pointer (some ⟨b28, 0, none⟩)), (20, .int .i64 t26.2), (21, .pointer (some ⟨b31, 0, none⟩)), (22, .int .i64 t29.2), (23, .pointer (some ⟨b34, 0, none⟩)), (24, .int .i64 t32.2)] ?_
  refine JQ.mask [At.box b7 25 [.int .i64 t5.1.e0.Re, .int .i64 t5.1.e0.Im, .int .i64 t5.1.e0.Den, .int .i64 t5.1.e1.Re, .int .i64 t5.1.e1.Im, .int .i64 t5.1.e1.Den, .int .i64 t5.1.e2.Re, .int .i64 t5.1.e2.Im, .int .i64 t5.1.e2.Den, .int .i64 t5.1.e3.Re, .int .i64 t5.1.e3.Im, .int .i64 t5.1.e3.Den], At.box b10 25 [.int .i64 t8.1.e0.Re, .int .i64 t8.1.e0.Im, .int .i64 t8.1.e0.Den, .int .i64 t8.1.e1.Re, .int .i64 t8.1.e1.Im, .int .i64 t8.1.e1.Den, .int .i64 t8.1.e2.Re, .int .i64 t8.1.e2.Im, .int .i64 t8.1.e2.Den, .int .i64 t8.1.e3.Re, .int .i64 t8.1.e3.Im, .int .i64 t8.1.e3.Den], At.box b13 25 [.int .i64 t11.1.e0.Re, .int .i64 t11.1.e0.Im, .int .i64 t11.1.e0.Den, .int .i64 t11.1.e1.Re, .int .i64 t11.1.e1.Im, .int .i64 t11.1.e1.Den, .int .i64 t11.1.e2.Re, .int .i64 t11.1.e2.Im, .int .i64 t11.1.e2.Den, .int .i64 t11.1.e3.Re, .int .i64 t11.1.e3.Im, .int .i64 t11.1.e3.Den], At.box b16 25 [.int .i64 t14.1.e0.Re, .int .i64 t14.1.e0.Im, .int .i64 t14.1.e0.Den, .int .i64 t14.1.e1.Re, .int .i64 t14.1.e1.Im, .int .i64 t14.1.e1.Den, .int .i64 t14.1.e2.Re, .int .i64 t14.1.e2.Im, .int .i64 t14.1.e2.Den, .int .i64 t14.1.e3.Re, .int .i64 t14.1.e3.Im, .int .i64 t14.1.e3.Den], At.box b19 23 [.int .i64 t17.1.Re, .int .i64 t17.1.Im, .int .i64 t17.1.Den], At.box b22 23 [.int .i64 t20.1.Re, .int .i64 t20.1.Im, .int .i64 t20.1.Den], At.box b25 23 [.int .i64 t23.1.Re, .int .i64 t23.1.Im, .int .i64 t23.1.Den], At.box b28 23 [.int .i64 t26.1.Re, .int .i64 t26.1.Im, .int .i64 t26.1.Den], At.box b31 25 [.int .i64 t29.1.e0.Re, .int .i64 t29.1.e0.Im, .int .i64 t29.1.e0.Den, .int .i64 t29.1.e1.Re, .int .i64 t29.1.e1.Im, .int .i64 t29.1.e1.Den, .int .i64 t29.1.e2.Re, .int .i64 t29.1.e2.Im, .int .i64 t29.1.e2.Den, .int .i64 t29.1.e3.Re, .int .i64 t29.1.e3.Im, .int .i64 t29.1.e3.Den], At.box b34 25 [.int .i64 t32.1.e0.Re, .int .i64 t32.1.e0.Im, .int .i64 t32.1.e0.Den, .int .i64 t32.1.e1.Re, .int .i64 t32.1.e1.Im, .int .i64 t32.1.e1.Den, .int .i64 t32.1.e2.Re, .int .i64 t32.1.e2.Im, .int .i64 t32.1.e2.Den, .int .i64 t32.1.e3.Re, .int .i64 t32.1.e3.Im, .int .i64 t32.1.e3.Den]] [false, true, true, true, true, true, true, true, true, true, true] ?_
  refine J.seq ?_
  refine J.region ?_
  refine JL.val (.agg #[.int .i64 t5.1.e0.Re, .int .i64 t5.1.e0.Im, .int .i64 t5.1.e0.Den, .int .i64 t5.1.e1.Re, .int .i64 t5.1.e1.Im, .int .i64 t5.1.e1.Den, .int .i64 t5.1.e2.Re, .int .i64 t5.1.e2.Im, .int .i64 t5.1.e2.Den, .int .i64 t5.1.e3.Re, .int .i64 t5.1.e3.Im, .int .i64 t5.1.e3.Den]) (some 77) (yields_load_boxes 0 0 [.int .i64 t5.1.e0.Re, .int .i64 t5.1.e0.Im, .int .i64 t5.1.e0.Den, .int .i64 t5.1.e1.Re, .int .i64 t5.1.e1.Im, .int .i64 t5.1.e1.Den, .int .i64 t5.1.e2.Re, .int .i64 t5.1.e2.Im, .int .i64 t5.1.e2.Den, .int .i64 t5.1.e3.Re, .int .i64 t5.1.e3.Im, .int .i64 t5.1.e3.Den] (holds_box b7 25 [.int .i64 t5.1.e0.Re, .int .i64 t5.1.e0.Im, .int .i64 t5.1.e0.Den, .int .i64 t5.1.e1.Re, .int .i64 t5.1.e1.Im, .int .i64 t5.1.e1.Den, .int .i64 t5.1.e2.Re, .int .i64 t5.1.e2.Im, .int .i64 t5.1.e2.Den, .int .i64 t5.1.e3.Re, .int .i64 t5.1.e3.Im, .int .i64 t5.1.e3.Den]) tyAgg_25 tySize_25) ?_
  refine JL.val (.agg #[.int .i64 t8.1.e0.Re, .int .i64 t8.1.e0.Im, .int .i64 t8.1.e0.Den, .int .i64 t8.1.e1.Re, .int .i64 t8.1.e1.Im, .int .i64 t8.1.e1.Den, .int .i64 t8.1.e2.Re, .int .i64 t8.1.e2.Im, .int .i64 t8.1.e2.Den, .int .i64 t8.1.e3.Re, .int .i64 t8.1.e3.Im, .int .i64 t8.1.e3.Den]) (some 78) (yields_load_boxes 1 0 [.int .i64 t8.1.e0.Re, .int .i64 t8.1.e0.Im, .int .i64 t8.1.e0.Den, .int .i64 t8.1.e1.Re, .int .i64 t8.1.e1.Im, .int .i64 t8.1.e1.Den, .int .i64 t8.1.e2.Re, .int .i64 t8.1.e2.Im, .int .i64 t8.1.e2.Den, .int .i64 t8.1.e3.Re, .int .i64 t8.1.e3.Im, .int .i64 t8.1.e3.Den] (holds_box b10 25 [.int .i64 t8.1.e0.Re, .int .i64 t8.1.e0.Im, .int .i64 t8.1.e0.Den, .int .i64 t8.1.e1.Re, .int .i64 t8.1.e1.Im, .int .i64 t8.1.e1.Den, .int .i64 t8.1.e2.Re, .int .i64 t8.1.e2.Im, .int .i64 t8.1.e2.Den, .int .i64 t8.1.e3.Re, .int .i64 t8.1.e3.Im, .int .i64 t8.1.e3.Den]) tyAgg_25 tySize_25) ?_
  refine JL.val (.bool (decide (t5.1 = t8.1))) (some 79) (gives_eql eqg_25 (fun w => eqt_25 t5.1 t8.1 w)) ?_
  refine JL.mv (.bool (decide (t5.1 = t8.1))) ?_
  rcases ite_cases H0 with ⟨h35, H0⟩ | ⟨h35, H0⟩
  · refine JL.on 3 80 h35 ?_
    refine JL.mv (.int .i64 t5.2) ?_
    refine JL.on 3 80 h35 ?_
    refine JL.mv (.int .i64 t8.2) ?_
    refine JL.on 3 80 h35 ?_
    refine JL.pur (.bool (decide (t5.2 = t8.2))) (some 83) ?_
    refine JL.val (.bool (decide (t5.2 = t8.2))) (some 84) (gives_pickT h35) ?_
    refine JL.mv (.bool (decide (t5.2 = t8.2))) ?_
    rcases ite_cases H0 with ⟨h36, H0⟩ | ⟨h36, H0⟩
    · refine JL.on 8 85 h36 ?_
      refine JL.val (.agg #[.int .i64 t11.1.e0.Re, .int .i64 t11.1.e0.Im, .int .i64 t11.1.e0.Den, .int .i64 t11.1.e1.Re, .int .i64 t11.1.e1.Im, .int .i64 t11.1.e1.Den, .int .i64 t11.1.e2.Re, .int .i64 t11.1.e2.Im, .int .i64 t11.1.e2.Den, .int .i64 t11.1.e3.Re, .int .i64 t11.1.e3.Im, .int .i64 t11.1.e3.Den]) (some 86) (yields_load_boxes 2 0 [.int .i64 t11.1.e0.Re, .int .i64 t11.1.e0.Im, .int .i64 t11.1.e0.Den, .int .i64 t11.1.e1.Re, .int .i64 t11.1.e1.Im, .int .i64 t11.1.e1.Den, .int .i64 t11.1.e2.Re, .int .i64 t11.1.e2.Im, .int .i64 t11.1.e2.Den, .int .i64 t11.1.e3.Re, .int .i64 t11.1.e3.Im, .int .i64 t11.1.e3.Den] (holds_box b13 25 [.int .i64 t11.1.e0.Re, .int .i64 t11.1.e0.Im, .int .i64 t11.1.e0.Den, .int .i64 t11.1.e1.Re, .int .i64 t11.1.e1.Im, .int .i64 t11.1.e1.Den, .int .i64 t11.1.e2.Re, .int .i64 t11.1.e2.Im, .int .i64 t11.1.e2.Den, .int .i64 t11.1.e3.Re, .int .i64 t11.1.e3.Im, .int .i64 t11.1.e3.Den]) tyAgg_25 tySize_25) ?_
      refine JL.on 8 85 h36 ?_
      refine JL.val (.agg #[.int .i64 t14.1.e0.Re, .int .i64 t14.1.e0.Im, .int .i64 t14.1.e0.Den, .int .i64 t14.1.e1.Re, .int .i64 t14.1.e1.Im, .int .i64 t14.1.e1.Den, .int .i64 t14.1.e2.Re, .int .i64 t14.1.e2.Im, .int .i64 t14.1.e2.Den, .int .i64 t14.1.e3.Re, .int .i64 t14.1.e3.Im, .int .i64 t14.1.e3.Den]) (some 87) (yields_load_boxes 3 0 [.int .i64 t14.1.e0.Re, .int .i64 t14.1.e0.Im, .int .i64 t14.1.e0.Den, .int .i64 t14.1.e1.Re, .int .i64 t14.1.e1.Im, .int .i64 t14.1.e1.Den, .int .i64 t14.1.e2.Re, .int .i64 t14.1.e2.Im, .int .i64 t14.1.e2.Den, .int .i64 t14.1.e3.Re, .int .i64 t14.1.e3.Im, .int .i64 t14.1.e3.Den] (holds_box b16 25 [.int .i64 t14.1.e0.Re, .int .i64 t14.1.e0.Im, .int .i64 t14.1.e0.Den, .int .i64 t14.1.e1.Re, .int .i64 t14.1.e1.Im, .int .i64 t14.1.e1.Den, .int .i64 t14.1.e2.Re, .int .i64 t14.1.e2.Im, .int .i64 t14.1.e2.Den, .int .i64 t14.1.e3.Re, .int .i64 t14.1.e3.Im, .int .i64 t14.1.e3.Den]) tyAgg_25 tySize_25) ?_
      refine JL.on 8 85 h36 ?_
      refine JL.val (.bool (decide (t11.1 = t14.1))) (some 88) (gives_eql eqg_25 (fun w => eqt_25 t11.1 t14.1 w)) ?_
      refine JL.val (.bool (decide (t11.1 = t14.1))) (some 89) (gives_pickT h36) ?_
      refine JL.mv (.bool (decide (t11.1 = t14.1))) ?_
      rcases ite_cases H0 with ⟨h37, H0⟩ | ⟨h37, H0⟩
      · refine JL.on 13 90 h37 ?_
        refine JL.mv (.int .i64 t11.2) ?_
        refine JL.on 13 90 h37 ?_
        refine JL.mv (.int .i64 t14.2) ?_
        refine JL.on 13 90 h37 ?_
        refine JL.pur (.bool (decide (t11.2 = t14.2))) (some 93) ?_
        refine JL.val (.bool (decide (t11.2 = t14.2))) (some 94) (gives_pickT h37) ?_
        refine JL.mv (.bool (decide (t11.2 = t14.2))) ?_
        rcases ite_cases H0 with ⟨h38, H0⟩ | ⟨h38, H0⟩
        · refine JL.on 18 95 h38 ?_
          refine JL.val (.agg #[.int .i64 t17.1.Re, .int .i64 t17.1.Im, .int .i64 t17.1.Den]) (some 96) (yields_load_boxes 4 0 [.int .i64 t17.1.Re, .int .i64 t17.1.Im, .int .i64 t17.1.Den] (holds_box b19 23 [.int .i64 t17.1.Re, .int .i64 t17.1.Im, .int .i64 t17.1.Den]) tyAgg_23 tySize_23) ?_
          refine JL.on 18 95 h38 ?_
          refine JL.val (.agg #[.int .i64 t20.1.Re, .int .i64 t20.1.Im, .int .i64 t20.1.Den]) (some 97) (yields_load_boxes 5 0 [.int .i64 t20.1.Re, .int .i64 t20.1.Im, .int .i64 t20.1.Den] (holds_box b22 23 [.int .i64 t20.1.Re, .int .i64 t20.1.Im, .int .i64 t20.1.Den]) tyAgg_23 tySize_23) ?_
          refine JL.on 18 95 h38 ?_
          refine JL.val (.bool (decide (t17.1 = t20.1))) (some 98) (gives_eql eqg_23 (fun w => eqt_23 t17.1 t20.1 w)) ?_
          refine JL.val (.bool (decide (t17.1 = t20.1))) (some 99) (gives_pickT h38) ?_
          refine JL.mv (.bool (decide (t17.1 = t20.1))) ?_
          rcases ite_cases H0 with ⟨h39, H0⟩ | ⟨h39, H0⟩
          · refine JL.on 23 100 h39 ?_
            refine JL.mv (.int .i64 t17.2) ?_
            refine JL.on 23 100 h39 ?_
            refine JL.mv (.int .i64 t20.2) ?_
            refine JL.on 23 100 h39 ?_
            refine JL.pur (.bool (decide (t17.2 = t20.2))) (some 103) ?_
            refine JL.val (.bool (decide (t17.2 = t20.2))) (some 104) (gives_pickT h39) ?_
            refine JL.mv (.bool (decide (t17.2 = t20.2))) ?_
            rcases ite_cases H0 with ⟨h40, H0⟩ | ⟨h40, H0⟩
            · refine JL.on 28 105 h40 ?_
              refine JL.val (.agg #[.int .i64 t23.1.Re, .int .i64 t23.1.Im, .int .i64 t23.1.Den]) (some 106) (yields_load_boxes 6 0 [.int .i64 t23.1.Re, .int .i64 t23.1.Im, .int .i64 t23.1.Den] (holds_box b25 23 [.int .i64 t23.1.Re, .int .i64 t23.1.Im, .int .i64 t23.1.Den]) tyAgg_23 tySize_23) ?_
              refine JL.on 28 105 h40 ?_
              refine JL.val (.agg #[.int .i64 t26.1.Re, .int .i64 t26.1.Im, .int .i64 t26.1.Den]) (some 107) (yields_load_boxes 7 0 [.int .i64 t26.1.Re, .int .i64 t26.1.Im, .int .i64 t26.1.Den] (holds_box b28 23 [.int .i64 t26.1.Re, .int .i64 t26.1.Im, .int .i64 t26.1.Den]) tyAgg_23 tySize_23) ?_
              refine JL.on 28 105 h40 ?_
              refine JL.val (.bool (decide (t23.1 = t26.1))) (some 108) (gives_eql eqg_23 (fun w => eqt_23 t23.1 t26.1 w)) ?_
              refine JL.val (.bool (decide (t23.1 = t26.1))) (some 109) (gives_pickT h40) ?_
              refine JL.mv (.bool (decide (t23.1 = t26.1))) ?_
              rcases ite_cases H0 with ⟨h41, H0⟩ | ⟨h41, H0⟩
              · refine JL.on 33 110 h41 ?_
                refine JL.mv (.int .i64 t23.2) ?_
                refine JL.on 33 110 h41 ?_
                refine JL.mv (.int .i64 t26.2) ?_
                refine JL.on 33 110 h41 ?_
                refine JL.pur (.bool (decide (t23.2 = t26.2))) (some 113) ?_
                refine JL.val (.bool (decide (t23.2 = t26.2))) (some 114) (gives_pickT h41) ?_
                refine JL.mv (.bool (decide (t23.2 = t26.2))) ?_
                rcases ite_cases H0 with ⟨h42, H0⟩ | ⟨h42, H0⟩
                · refine JL.on 38 115 h42 ?_
                  refine JL.val (.agg #[.int .i64 t29.1.e0.Re, .int .i64 t29.1.e0.Im, .int .i64 t29.1.e0.Den, .int .i64 t29.1.e1.Re, .int .i64 t29.1.e1.Im, .int .i64 t29.1.e1.Den, .int .i64 t29.1.e2.Re, .int .i64 t29.1.e2.Im, .int .i64 t29.1.e2.Den, .int .i64 t29.1.e3.Re, .int .i64 t29.1.e3.Im, .int .i64 t29.1.e3.Den]) (some 116) (yields_load_boxes 8 0 [.int .i64 t29.1.e0.Re, .int .i64 t29.1.e0.Im, .int .i64 t29.1.e0.Den, .int .i64 t29.1.e1.Re, .int .i64 t29.1.e1.Im, .int .i64 t29.1.e1.Den, .int .i64 t29.1.e2.Re, .int .i64 t29.1.e2.Im, .int .i64 t29.1.e2.Den, .int .i64 t29.1.e3.Re, .int .i64 t29.1.e3.Im, .int .i64 t29.1.e3.Den] (holds_box b31 25 [.int .i64 t29.1.e0.Re, .int .i64 t29.1.e0.Im, .int .i64 t29.1.e0.Den, .int .i64 t29.1.e1.Re, .int .i64 t29.1.e1.Im, .int .i64 t29.1.e1.Den, .int .i64 t29.1.e2.Re, .int .i64 t29.1.e2.Im, .int .i64 t29.1.e2.Den, .int .i64 t29.1.e3.Re, .int .i64 t29.1.e3.Im, .int .i64 t29.1.e3.Den]) tyAgg_25 tySize_25) ?_
                  refine JL.on 38 115 h42 ?_
                  refine JL.val (.agg #[.int .i64 t32.1.e0.Re, .int .i64 t32.1.e0.Im, .int .i64 t32.1.e0.Den, .int .i64 t32.1.e1.Re, .int .i64 t32.1.e1.Im, .int .i64 t32.1.e1.Den, .int .i64 t32.1.e2.Re, .int .i64 t32.1.e2.Im, .int .i64 t32.1.e2.Den, .int .i64 t32.1.e3.Re, .int .i64 t32.1.e3.Im, .int .i64 t32.1.e3.Den]) (some 117) (yields_load_boxes 9 0 [.int .i64 t32.1.e0.Re, .int .i64 t32.1.e0.Im, .int .i64 t32.1.e0.Den, .int .i64 t32.1.e1.Re, .int .i64 t32.1.e1.Im, .int .i64 t32.1.e1.Den, .int .i64 t32.1.e2.Re, .int .i64 t32.1.e2.Im, .int .i64 t32.1.e2.Den, .int .i64 t32.1.e3.Re, .int .i64 t32.1.e3.Im, .int .i64 t32.1.e3.Den] (holds_box b34 25 [.int .i64 t32.1.e0.Re, .int .i64 t32.1.e0.Im, .int .i64 t32.1.e0.Den, .int .i64 t32.1.e1.Re, .int .i64 t32.1.e1.Im, .int .i64 t32.1.e1.Den, .int .i64 t32.1.e2.Re, .int .i64 t32.1.e2.Im, .int .i64 t32.1.e2.Den, .int .i64 t32.1.e3.Re, .int .i64 t32.1.e3.Im, .int .i64 t32.1.e3.Den]) tyAgg_25 tySize_25) ?_
                  refine JL.on 38 115 h42 ?_
                  refine JL.val (.bool (decide (t29.1 = t32.1))) (some 118) (gives_eql eqg_25 (fun w => eqt_25 t29.1 t32.1 w)) ?_
                  refine JL.val (.bool (decide (t29.1 = t32.1))) (some 119) (gives_pickT h42) ?_
                  refine JL.mv (.bool (decide (t29.1 = t32.1))) ?_
                  rcases ite_cases H0 with ⟨h43, H0⟩ | ⟨h43, H0⟩
                  · refine JL.on 43 120 h43 ?_
                    refine JL.mv (.int .i64 t29.2) ?_
                    refine JL.on 43 120 h43 ?_
                    refine JL.mv (.int .i64 t32.2) ?_
                    refine JL.on 43 120 h43 ?_
                    refine JL.pur (.bool (decide (t29.2 = t32.2))) (some 123) ?_
                    refine JL.val (.bool (decide (t29.2 = t32.2))) (some 124) (gives_pickT h43) ?_
                    refine JL.as (.bool (decide (t29.2 = t32.2))) ?_
                    refine JL.nil ?_
                    refine JQ.then_normal ?_
                    refine JQ.sub [(4, .bool (decide (t29.2 = t32.2)))] ?_
                    refine JQ.mask [] [false, false, false, false, false, false, false, false, false, false] ?_
                    refine J.ret ?_
                    obtain rfl := Option.some.inj H0
                    exact JQ.done' (rs := [.tmp 4]) (vs := [.bool (decide (t29.2 = t32.2))]) [] (.inr rfl) ⟨by kernel_rfl, trivial⟩ (fun _ h => Heap.to h) ⟨rfl, rfl⟩
                  · refine JL.off 43 120 true (some 121) h43 ?_
                    refine JL.off 43 120 true (some 122) h43 ?_
                    refine JL.off 43 120 true (some 123) h43 ?_
                    refine JL.val (.bool false) (some 124) (gives_pickF h43) ?_
                    refine JL.as (.bool false) ?_
                    refine JL.nil ?_
                    refine JQ.then_normal ?_
                    refine JQ.sub [(4, .bool false)] ?_
                    refine JQ.mask [] [false, false, false, false, false, false, false, false, false, false] ?_
                    refine J.ret ?_
                    obtain rfl := Option.some.inj H0
                    exact JQ.done' (rs := [.tmp 4]) (vs := [.bool false]) [] (.inr rfl) ⟨by kernel_rfl, trivial⟩ (fun _ h => Heap.to h) ⟨rfl, rfl⟩
                · refine JL.off 38 115 true (some 116) h42 ?_
                  refine JL.off 38 115 true (some 117) h42 ?_
                  refine JL.off 38 115 true (some 118) h42 ?_
                  refine JL.val (.bool false) (some 119) (gives_pickF h42) ?_
                  refine JL.mv (.bool false) ?_
                  refine JL.off 43 120 true (some 121) rfl ?_
                  refine JL.off 43 120 true (some 122) rfl ?_
                  refine JL.off 43 120 true (some 123) rfl ?_
                  refine JL.val (.bool false) (some 124) (gives_pickF rfl) ?_
                  refine JL.as (.bool false) ?_
                  refine JL.nil ?_
                  refine JQ.then_normal ?_
                  refine JQ.sub [(4, .bool false)] ?_
                  refine JQ.mask [] [false, false, false, false, false, false, false, false, false, false] ?_
                  refine J.ret ?_
                  obtain rfl := Option.some.inj H0
                  exact JQ.done' (rs := [.tmp 4]) (vs := [.bool false]) [] (.inr rfl) ⟨by kernel_rfl, trivial⟩ (fun _ h => Heap.to h) ⟨rfl, rfl⟩
              · refine JL.off 33 110 true (some 111) h41 ?_
                refine JL.off 33 110 true (some 112) h41 ?_
                refine JL.off 33 110 true (some 113) h41 ?_
                refine JL.val (.bool false) (some 114) (gives_pickF h41) ?_
                refine JL.mv (.bool false) ?_
                refine JL.off 38 115 true (some 116) rfl ?_
                refine JL.off 38 115 true (some 117) rfl ?_
                refine JL.off 38 115 true (some 118) rfl ?_
                refine JL.val (.bool false) (some 119) (gives_pickF rfl) ?_
                refine JL.mv (.bool false) ?_
                refine JL.off 43 120 true (some 121) rfl ?_
                refine JL.off 43 120 true (some 122) rfl ?_
                refine JL.off 43 120 true (some 123) rfl ?_
                refine JL.val (.bool false) (some 124) (gives_pickF rfl) ?_
                refine JL.as (.bool false) ?_
                refine JL.nil ?_
                refine JQ.then_normal ?_
                refine JQ.sub [(4, .bool false)] ?_
                refine JQ.mask [] [false, false, false, false, false, false, false, false, false, false] ?_
                refine J.ret ?_
                obtain rfl := Option.some.inj H0
                exact JQ.done' (rs := [.tmp 4]) (vs := [.bool false]) [] (.inr rfl) ⟨by kernel_rfl, trivial⟩ (fun _ h => Heap.to h) ⟨rfl, rfl⟩
            · refine JL.off 28 105 true (some 106) h40 ?_
              refine JL.off 28 105 true (some 107) h40 ?_
              refine JL.off 28 105 true (some 108) h40 ?_
              refine JL.val (.bool false) (some 109) (gives_pickF h40) ?_
              refine JL.mv (.bool false) ?_
              refine JL.off 33 110 true (some 111) rfl ?_
              refine JL.off 33 110 true (some 112) rfl ?_
              refine JL.off 33 110 true (some 113) rfl ?_
              refine JL.val (.bool false) (some 114) (gives_pickF rfl) ?_
              refine JL.mv (.bool false) ?_
              refine JL.off 38 115 true (some 116) rfl ?_
              refine JL.off 38 115 true (some 117) rfl ?_
              refine JL.off 38 115 true (some 118) rfl ?_
              refine JL.val (.bool false) (some 119) (gives_pickF rfl) ?_
              refine JL.mv (.bool false) ?_
              refine JL.off 43 120 true (some 121) rfl ?_
              refine JL.off 43 120 true (some 122) rfl ?_
              refine JL.off 43 120 true (some 123) rfl ?_
              refine JL.val (.bool false) (some 124) (gives_pickF rfl) ?_
              refine JL.as (.bool false) ?_
              refine JL.nil ?_
              refine JQ.then_normal ?_
              refine JQ.sub [(4, .bool false)] ?_
              refine JQ.mask [] [false, false, false, false, false, false, false, false, false, false] ?_
              refine J.ret ?_
              obtain rfl := Option.some.inj H0
              exact JQ.done' (rs := [.tmp 4]) (vs := [.bool false]) [] (.inr rfl) ⟨by kernel_rfl, trivial⟩ (fun _ h => Heap.to h) ⟨rfl, rfl⟩
          · refine JL.off 23 100 true (some 101) h39 ?_
            refine JL.off 23 100 true (some 102) h39 ?_
            refine JL.off 23 100 true (some 103) h39 ?_
            refine JL.val (.bool false) (some 104) (gives_pickF h39) ?_
            refine JL.mv (.bool false) ?_
            refine JL.off 28 105 true (some 106) rfl ?_
            refine JL.off 28 105 true (some 107) rfl ?_
            refine JL.off 28 105 true (some 108) rfl ?_
            refine JL.val (.bool false) (some 109) (gives_pickF rfl) ?_
            refine JL.mv (.bool false) ?_
            refine JL.off 33 110 true (some 111) rfl ?_
            refine JL.off 33 110 true (some 112) rfl ?_
            refine JL.off 33 110 true (some 113) rfl ?_
            refine JL.val (.bool false) (some 114) (gives_pickF rfl) ?_
            refine JL.mv (.bool false) ?_
            refine JL.off 38 115 true (some 116) rfl ?_
            refine JL.off 38 115 true (some 117) rfl ?_
            refine JL.off 38 115 true (some 118) rfl ?_
            refine JL.val (.bool false) (some 119) (gives_pickF rfl) ?_
            refine JL.mv (.bool false) ?_
            refine JL.off 43 120 true (some 121) rfl ?_
            refine JL.off 43 120 true (some 122) rfl ?_
            refine JL.off 43 120 true (some 123) rfl ?_
            refine JL.val (.bool false) (some 124) (gives_pickF rfl) ?_
            refine JL.as (.bool false) ?_
            refine JL.nil ?_
            refine JQ.then_normal ?_
            refine JQ.sub [(4, .bool false)] ?_
            refine JQ.mask [] [false, false, false, false, false, false, false, false, false, false] ?_
            refine J.ret ?_
            obtain rfl := Option.some.inj H0
            exact JQ.done' (rs := [.tmp 4]) (vs := [.bool false]) [] (.inr rfl) ⟨by kernel_rfl, trivial⟩ (fun _ h => Heap.to h) ⟨rfl, rfl⟩
        · refine JL.off 18 95 true (some 96) h38 ?_
          refine JL.off 18 95 true (some 97) h38 ?_
          refine JL.off 18 95 true (some 98) h38 ?_
          refine JL.val (.bool false) (some 99) (gives_pickF h38) ?_
          refine JL.mv (.bool false) ?_
          refine JL.off 23 100 true (some 101) rfl ?_
          refine JL.off 23 100 true (some 102) rfl ?_
          refine JL.off 23 100 true (some 103) rfl ?_
          refine JL.val (.bool false) (some 104) (gives_pickF rfl) ?_
          refine JL.mv (.bool false) ?_
          refine JL.off 28 105 true (some 106) rfl ?_
          refine JL.off 28 105 true (some 107) rfl ?_
          refine JL.off 28 105 true (some 108) rfl ?_
          refine JL.val (.bool false) (some 109) (gives_pickF rfl) ?_
          refine JL.mv (.bool false) ?_
          refine JL.off 33 110 true (some 111) rfl ?_
          refine JL.off 33 110 true (some 112) rfl ?_
          refine JL.off 33 110 true (some 113) rfl ?_
          refine JL.val (.bool false) (some 114) (gives_pickF rfl) ?_
          refine JL.mv (.bool false) ?_
          refine JL.off 38 115 true (some 116) rfl ?_
          refine JL.off 38 115 true (some 117) rfl ?_
          refine JL.off 38 115 true (some 118) rfl ?_
          refine JL.val (.bool false) (some 119) (gives_pickF rfl) ?_
          refine JL.mv (.bool false) ?_
          refine JL.off 43 120 true (some 121) rfl ?_
          refine JL.off 43 120 true (some 122) rfl ?_
          refine JL.off 43 120 true (some 123) rfl ?_
          refine JL.val (.bool false) (some 124) (gives_pickF rfl) ?_
          refine JL.as (.bool false) ?_
          refine JL.nil ?_
          refine JQ.then_normal ?_
          refine JQ.sub [(4, .bool false)] ?_
          refine JQ.mask [] [false, false, false, false, false, false, false, false, false, false] ?_
          refine J.ret ?_
          obtain rfl := Option.some.inj H0
          exact JQ.done' (rs := [.tmp 4]) (vs := [.bool false]) [] (.inr rfl) ⟨by kernel_rfl, trivial⟩ (fun _ h => Heap.to h) ⟨rfl, rfl⟩
      · refine JL.off 13 90 true (some 91) h37 ?_
        refine JL.off 13 90 true (some 92) h37 ?_
        refine JL.off 13 90 true (some 93) h37 ?_
        refine JL.val (.bool false) (some 94) (gives_pickF h37) ?_
        refine JL.mv (.bool false) ?_
        refine JL.off 18 95 true (some 96) rfl ?_
        refine JL.off 18 95 true (some 97) rfl ?_
        refine JL.off 18 95 true (some 98) rfl ?_
        refine JL.val (.bool false) (some 99) (gives_pickF rfl) ?_
        refine JL.mv (.bool false) ?_
        refine JL.off 23 100 true (some 101) rfl ?_
        refine JL.off 23 100 true (some 102) rfl ?_
        refine JL.off 23 100 true (some 103) rfl ?_
        refine JL.val (.bool false) (some 104) (gives_pickF rfl) ?_
        refine JL.mv (.bool false) ?_
        refine JL.off 28 105 true (some 106) rfl ?_
        refine JL.off 28 105 true (some 107) rfl ?_
        refine JL.off 28 105 true (some 108) rfl ?_
        refine JL.val (.bool false) (some 109) (gives_pickF rfl) ?_
        refine JL.mv (.bool false) ?_
        refine JL.off 33 110 true (some 111) rfl ?_
        refine JL.off 33 110 true (some 112) rfl ?_
        refine JL.off 33 110 true (some 113) rfl ?_
        refine JL.val (.bool false) (some 114) (gives_pickF rfl) ?_
        refine JL.mv (.bool false) ?_
        refine JL.off 38 115 true (some 116) rfl ?_
        refine JL.off 38 115 true (some 117) rfl ?_
        refine JL.off 38 115 true (some 118) rfl ?_
        refine JL.val (.bool false) (some 119) (gives_pickF rfl) ?_
        refine JL.mv (.bool false) ?_
        refine JL.off 43 120 true (some 121) rfl ?_
        refine JL.off 43 120 true (some 122) rfl ?_
        refine JL.off 43 120 true (some 123) rfl ?_
        refine JL.val (.bool false) (some 124) (gives_pickF rfl) ?_
        refine JL.as (.bool false) ?_
        refine JL.nil ?_
        refine JQ.then_normal ?_
        refine JQ.sub [(4, .bool false)] ?_
        refine JQ.mask [] [false, false, false, false, false, false, false, false, false, false] ?_
        refine J.ret ?_
        obtain rfl := Option.some.inj H0
        exact JQ.done' (rs := [.tmp 4]) (vs := [.bool false]) [] (.inr rfl) ⟨by kernel_rfl, trivial⟩ (fun _ h => Heap.to h) ⟨rfl, rfl⟩
    · refine JL.off 8 85 true (some 86) h36 ?_
      refine JL.off 8 85 true (some 87) h36 ?_
      refine JL.off 8 85 true (some 88) h36 ?_
      refine JL.val (.bool false) (some 89) (gives_pickF h36) ?_
      refine JL.mv (.bool false) ?_
      refine JL.off 13 90 true (some 91) rfl ?_
      refine JL.off 13 90 true (some 92) rfl ?_
      refine JL.off 13 90 true (some 93) rfl ?_
      refine JL.val (.bool false) (some 94) (gives_pickF rfl) ?_
      refine JL.mv (.bool false) ?_
      refine JL.off 18 95 true (some 96) rfl ?_
      refine JL.off 18 95 true (some 97) rfl ?_
      refine JL.off 18 95 true (some 98) rfl ?_
      refine JL.val (.bool false) (some 99) (gives_pickF rfl) ?_
      refine JL.mv (.bool false) ?_
      refine JL.off 23 100 true (some 101) rfl ?_
      refine JL.off 23 100 true (some 102) rfl ?_
      refine JL.off 23 100 true (some 103) rfl ?_
      refine JL.val (.bool false) (some 104) (gives_pickF rfl) ?_
      refine JL.mv (.bool false) ?_
      refine JL.off 28 105 true (some 106) rfl ?_
      refine JL.off 28 105 true (some 107) rfl ?_
      refine JL.off 28 105 true (some 108) rfl ?_
      refine JL.val (.bool false) (some 109) (gives_pickF rfl) ?_
      refine JL.mv (.bool false) ?_
      refine JL.off 33 110 true (some 111) rfl ?_
      refine JL.off 33 110 true (some 112) rfl ?_
      refine JL.off 33 110 true (some 113) rfl ?_
      refine JL.val (.bool false) (some 114) (gives_pickF rfl) ?_
      refine JL.mv (.bool false) ?_
      refine JL.off 38 115 true (some 116) rfl ?_
      refine JL.off 38 115 true (some 117) rfl ?_
      refine JL.off 38 115 true (some 118) rfl ?_
      refine JL.val (.bool false) (some 119) (gives_pickF rfl) ?_
      refine JL.mv (.bool false) ?_
      refine JL.off 43 120 true (some 121) rfl ?_
      refine JL.off 43 120 true (some 122) rfl ?_
      refine JL.off 43 120 true (some 123) rfl ?_
      refine JL.val (.bool false) (some 124) (gives_pickF rfl) ?_
      refine JL.as (.bool false) ?_
      refine JL.nil ?_
      refine JQ.then_normal ?_
      refine JQ.sub [(4, .bool false)] ?_
      refine JQ.mask [] [false, false, false, false, false, false, false, false, false, false] ?_
      refine J.ret ?_
      obtain rfl := Option.some.inj H0
      exact JQ.done' (rs := [.tmp 4]) (vs := [.bool false]) [] (.inr rfl) ⟨by kernel_rfl, trivial⟩ (fun _ h => Heap.to h) ⟨rfl, rfl⟩
  · refine JL.off 3 80 true (some 81) h35 ?_
    refine JL.off 3 80 true (some 82) h35 ?_
    refine JL.off 3 80 true (some 83) h35 ?_
    refine JL.val (.bool false) (some 84) (gives_pickF h35) ?_
    refine JL.mv (.bool false) ?_
    refine JL.off 8 85 true (some 86) rfl ?_
    refine JL.off 8 85 true (some 87) rfl ?_
    refine JL.off 8 85 true (some 88) rfl ?_
    refine JL.val (.bool false) (some 89) (gives_pickF rfl) ?_
    refine JL.mv (.bool false) ?_
    refine JL.off 13 90 true (some 91) rfl ?_
    refine JL.off 13 90 true (some 92) rfl ?_
    refine JL.off 13 90 true (some 93) rfl ?_
    refine JL.val (.bool false) (some 94) (gives_pickF rfl) ?_
    refine JL.mv (.bool false) ?_
    refine JL.off 18 95 true (some 96) rfl ?_
    refine JL.off 18 95 true (some 97) rfl ?_
    refine JL.off 18 95 true (some 98) rfl ?_
    refine JL.val (.bool false) (some 99) (gives_pickF rfl) ?_
    refine JL.mv (.bool false) ?_
    refine JL.off 23 100 true (some 101) rfl ?_
    refine JL.off 23 100 true (some 102) rfl ?_
    refine JL.off 23 100 true (some 103) rfl ?_
    refine JL.val (.bool false) (some 104) (gives_pickF rfl) ?_
    refine JL.mv (.bool false) ?_
    refine JL.off 28 105 true (some 106) rfl ?_
    refine JL.off 28 105 true (some 107) rfl ?_
    refine JL.off 28 105 true (some 108) rfl ?_
    refine JL.val (.bool false) (some 109) (gives_pickF rfl) ?_
    refine JL.mv (.bool false) ?_
    refine JL.off 33 110 true (some 111) rfl ?_
    refine JL.off 33 110 true (some 112) rfl ?_
    refine JL.off 33 110 true (some 113) rfl ?_
    refine JL.val (.bool false) (some 114) (gives_pickF rfl) ?_
    refine JL.mv (.bool false) ?_
    refine JL.off 38 115 true (some 116) rfl ?_
    refine JL.off 38 115 true (some 117) rfl ?_
    refine JL.off 38 115 true (some 118) rfl ?_
    refine JL.val (.bool false) (some 119) (gives_pickF rfl) ?_
    refine JL.mv (.bool false) ?_
    refine JL.off 43 120 true (some 121) rfl ?_
    refine JL.off 43 120 true (some 122) rfl ?_
    refine JL.off 43 120 true (some 123) rfl ?_
    refine JL.val (.bool false) (some 124) (gives_pickF rfl) ?_
    refine JL.as (.bool false) ?_
    refine JL.nil ?_
    refine JQ.then_normal ?_
    refine JQ.sub [(4, .bool false)] ?_
    refine JQ.mask [] [false, false, false, false, false, false, false, false, false, false] ?_
    refine J.ret ?_
    obtain rfl := Option.some.inj H0
    exact JQ.done' (rs := [.tmp 4]) (vs := [.bool false]) [] (.inr rfl) ⟨by kernel_rfl, trivial⟩ (fun _ h => Heap.to h) ⟨rfl, rfl⟩


end Go.Proofs.Ytlfmmenlkpoodaa.M
