import Derived.Test.YtlfmmenlkpoodaaW0
set_option linter.unusedVariables false
set_option linter.unusedSimpArgs false
set_option maxRecDepth 100000
set_option maxHeartbeats 8000000
namespace Go.Proofs.Ytlfmmenlkpoodaa.M
open Go.GW Go.Proofs

theorem jones_Mul.ok (a1 : (A4 Cx)) (b2 : (A4 Cx)) (r : ((A4 Cx) × Int)) (H0 : jones_Mul.f a1 b2 = some r) :
    Does Try.prog 9 [.agg #[.int .i64 a1.e0.Re, .int .i64 a1.e0.Im, .int .i64 a1.e0.Den, .int .i64 a1.e1.Re, .int .i64 a1.e1.Im, .int .i64 a1.e1.Den, .int .i64 a1.e2.Re, .int .i64 a1.e2.Im, .int .i64 a1.e2.Den, .int .i64 a1.e3.Re, .int .i64 a1.e3.Im, .int .i64 a1.e3.Den], .agg #[.int .i64 b2.e0.Re, .int .i64 b2.e0.Im, .int .i64 b2.e0.Den, .int .i64 b2.e1.Re, .int .i64 b2.e1.Im, .int .i64 b2.e1.Den, .int .i64 b2.e2.Re, .int .i64 b2.e2.Im, .int .i64 b2.e2.Den, .int .i64 b2.e3.Re, .int .i64 b2.e3.Im, .int .i64 b2.e3.Den]].toArray [] [] false (fun v Δ => v = .tuple #[.agg #[.int .i64 r.1.e0.Re, .int .i64 r.1.e0.Im, .int .i64 r.1.e0.Den, .int .i64 r.1.e1.Re, .int .i64 r.1.e1.Im, .int .i64 r.1.e1.Den, .int .i64 r.1.e2.Re, .int .i64 r.1.e2.Im, .int .i64 r.1.e2.Den, .int .i64 r.1.e3.Re, .int .i64 r.1.e3.Im, .int .i64 r.1.e3.Den], .int .i64 r.2] ∧ Δ = []) := by
  refine Does.body (vs := [.agg #[.int .i64 a1.e0.Re, .int .i64 a1.e0.Im, .int .i64 a1.e0.Den, .int .i64 a1.e1.Re, .int .i64 a1.e1.Im, .int .i64 a1.e1.Den, .int .i64 a1.e2.Re, .int .i64 a1.e2.Im, .int .i64 a1.e2.Den, .int .i64 a1.e3.Re, .int .i64 a1.e3.Im, .int .i64 a1.e3.Den], .agg #[.int .i64 b2.e0.Re, .int .i64 b2.e0.Im, .int .i64 b2.e0.Den, .int .i64 b2.e1.Re, .int .i64 b2.e1.Im, .int .i64 b2.e1.Den, .int .i64 b2.e2.Re, .int .i64 b2.e2.Im, .int .i64 b2.e2.Den, .int .i64 b2.e3.Re, .int .i64 b2.e3.Im, .int .i64 b2.e3.Den]]) Try.func9 rfl trivial trivial fun w S => ?_
  unfold jones_Mul.f at H0
  refine J.seq ?_
  refine J.region ?_
  refine JL.box [.int .i64 a1.e0.Re, .int .i64 a1.e0.Im, .int .i64 a1.e0.Den, .int .i64 a1.e1.Re, .int .i64 a1.e1.Im, .int .i64 a1.e1.Den, .int .i64 a1.e2.Re, .int .i64 a1.e2.Im, .int .i64 a1.e2.Den, .int .i64 a1.e3.Re, .int .i64 a1.e3.Im, .int .i64 a1.e3.Den] fun b3 => ?_
  refine JL.box [.int .i64 b2.e0.Re, .int .i64 b2.e0.Im, .int .i64 b2.e0.Den, .int .i64 b2.e1.Re, .int .i64 b2.e1.Im, .int .i64 b2.e1.Den, .int .i64 b2.e2.Re, .int .i64 b2.e2.Im, .int .i64 b2.e2.Den, .int .i64 b2.e3.Re, .int .i64 b2.e3.Im, .int .i64 b2.e3.Den] fun b4 => ?_
  refine JL.alloc [.int .i64 0, .int .i64 0, .int .i64 0, .int .i64 0, .int .i64 0, .int .i64 0, .int .i64 0, .int .i64 0, .int .i64 0, .int .i64 0, .int .i64 0, .int .i64 0] fun b5 => ?_
  refine JL.as (.int .i64 0) ?_
  refine JL.nil ?_
  refine JQ.then_normal ?_
  refine JQ.sub [(2, .pointer (some ⟨b3, 0, none⟩)), (3, .pointer (some ⟨b4, 0, none⟩)), (4, .pointer (some ⟨b5, 0, none⟩))] ?_
  refine J.seq ?_
  refine J.join (T := Bool) (G := Unit) (fun t => jones_Mul.k1 a1 b2 t = some r) (fun t g => [(2, .pointer (some ⟨b3, 0, none⟩)), (3, .pointer (some ⟨b4, 0, none⟩)), (4, .pointer (some ⟨b5, 0, none⟩)), (22, .bool t)]) (fun t g => [At.box b3 25 [.int .i64 a1.e0.Re, .int .i64 a1.e0.Im, .int .i64 a1.e0.Den, .int .i64 a1.e1.Re, .int .i64 a1.e1.Im, .int .i64 a1.e1.Den, .int .i64 a1.e2.Re, .int .i64 a1.e2.Im, .int .i64 a1.e2.Den, .int .i64 a1.e3.Re, .int .i64 a1.e3.Im, .int .i64 a1.e3.Den], At.box b4 25 [.int .i64 b2.e0.Re, .int .i64 b2.e0.Im, .int .i64 b2.e0.Den, .int .i64 b2.e1.Re, .int .i64 b2.e1.Im, .int .i64 b2.e1.Den, .int .i64 b2.e2.Re, .int .i64 b2.e2.Im, .int .i64 b2.e2.Den, .int .i64 b2.e3.Re, .int .i64 b2.e3.Im, .int .i64 b2.e3.Den], At.box b5 25 [.int .i64 0, .int .i64 0, .int .i64 0, .int .i64 0, .int .i64 0, .int .i64 0, .int .i64 0, .int .i64 0, .int .i64 0, .int .i64 0, .int .i64 0, .int .i64 0]]) ?_ ?_
  · refine J.region ?_
    refine JL.val (.agg #[.int .i64 a1.e0.Re, .int .i64 a1.e0.Im, .int .i64 a1.e0.Den, .int .i64 a1.e1.Re, .int .i64 a1.e1.Im, .int .i64 a1.e1.Den, .int .i64 a1.e2.Re, .int .i64 a1.e2.Im, .int .i64 a1.e2.Den, .int .i64 a1.e3.Re, .int .i64 a1.e3.Im, .int .i64 a1.e3.Den]) (some 15) (yields_load_boxes 0 0 [.int .i64 a1.e0.Re, .int .i64 a1.e0.Im, .int .i64 a1.e0.Den, .int .i64 a1.e1.Re, .int .i64 a1.e1.Im, .int .i64 a1.e1.Den, .int .i64 a1.e2.Re, .int .i64 a1.e2.Im, .int .i64 a1.e2.Den, .int .i64 a1.e3.Re, .int .i64 a1.e3.Im, .int .i64 a1.e3.Den] (holds_box b3 25 [.int .i64 a1.e0.Re, .int .i64 a1.e0.Im, .int .i64 a1.e0.Den, .int .i64 a1.e1.Re, .int .i64 a1.e1.Im, .int .i64 a1.e1.Den, .int .i64 a1.e2.Re, .int .i64 a1.e2.Im, .int .i64 a1.e2.Den, .int .i64 a1.e3.Re, .int .i64 a1.e3.Im, .int .i64 a1.e3.Den]) tyAgg_25 tySize_25) ?_
    obtain ⟨t338, hc339, H0⟩ := bind_some H0
    refine JL.call [] [] [] (jones_valid.ok a1 _ hc339) trivial ?_
    rintro _ _ ⟨rfl, rfl⟩
    refine JL.pur (.bool (!t338)) (some 17) ?_
    refine JL.mv (.bool (!t338)) ?_
    rcases ite_cases H0 with ⟨h340, H0⟩ | ⟨h340, H0⟩
    · refine JL.off 3 18 false (some 19) h340 ?_
      refine JL.off 3 18 false (some 20) h340 ?_
      refine JL.off 3 18 false (some 21) h340 ?_
      refine JL.val (.bool true) (some 22) (gives_pickT h340) ?_
      refine JL.nil ?_
      refine JQ.then_normal ?_
      exact JQ.meet true () H0 (fun _ h => Heap.to h)
    · refine JL.on 3 18 h340 ?_
      refine JL.val (.agg #[.int .i64 b2.e0.Re, .int .i64 b2.e0.Im, .int .i64 b2.e0.Den, .int .i64 b2.e1.Re, .int .i64 b2.e1.Im, .int .i64 b2.e1.Den, .int .i64 b2.e2.Re, .int .i64 b2.e2.Im, .int .i64 b2.e2.Den, .int .i64 b2.e3.Re, .int .i64 b2.e3.Im, .int .i64 b2.e3.Den]) (some 19) (yields_load_boxes 1 0 [.int .i64 b2.e0.Re, .int .i64 b2.e0.Im, .int .i64 b2.e0.Den, .int .i64 b2.e1.Re, .int .i64 b2.e1.Im, .int .i64 b2.e1.Den, .int .i64 b2.e2.Re, .int .i64 b2.e2.Im, .int .i64 b2.e2.Den, .int .i64 b2.e3.Re, .int .i64 b2.e3.Im, .int .i64 b2.e3.Den] (holds_box b4 25 [.int .i64 b2.e0.Re, .int .i64 b2.e0.Im, .int .i64 b2.e0.Den, .int .i64 b2.e1.Re, .int .i64 b2.e1.Im, .int .i64 b2.e1.Den, .int .i64 b2.e2.Re, .int .i64 b2.e2.Im, .int .i64 b2.e2.Den, .int .i64 b2.e3.Re, .int .i64 b2.e3.Im, .int .i64 b2.e3.Den]) tyAgg_25 tySize_25) ?_
      refine JL.on 3 18 h340 ?_
      obtain ⟨t341, hc342, H0⟩ := bind_some H0
      refine JL.call [] [] [] (jones_valid.ok b2 _ hc342) trivial ?_
      rintro _ _ ⟨rfl, rfl⟩
      refine JL.on 3 18 h340 ?_
      refine JL.pur (.bool (!t341)) (some 21) ?_
      refine JL.val (.bool (!t341)) (some 22) (gives_pickF h340) ?_
      refine JL.nil ?_
      refine JQ.then_normal ?_
      exact JQ.meet (!t341) () H0 (fun _ h => Heap.to h)
  · clear H0
    rintro x11 ⟨⟩ H0
    replace H0 : jones_Mul.k1 a1 b2 x11 = some r := H0
    unfold jones_Mul.k1 at H0
    refine JQ.sub [(2, .pointer (some ⟨b3, 0, none⟩)), (3, .pointer (some ⟨b4, 0, none⟩)), (4, .pointer (some ⟨b5, 0, none⟩)), (22, .bool x11)] ?_
    refine JQ.turn (Δ' := [At.box b3 25 [.int .i64 a1.e0.Re, .int .i64 a1.e0.Im, .int .i64 a1.e0.Den, .int .i64 a1.e1.Re, .int .i64 a1.e1.Im, .int .i64 a1.e1.Den, .int .i64 a1.e2.Re, .int .i64 a1.e2.Im, .int .i64 a1.e2.Den, .int .i64 a1.e3.Re, .int .i64 a1.e3.Im, .int .i64 a1.e3.Den], At.box b4 25 [.int .i64 b2.e0.Re, .int .i64 b2.e0.Im, .int .i64 b2.e0.Den, .int .i64 b2.e1.Re, .int .i64 b2.e1.Im, .int .i64 b2.e1.Den, .int .i64 b2.e2.Re, .int .i64 b2.e2.Im, .int .i64 b2.e2.Den, .int .i64 b2.e3.Re, .int .i64 b2.e3.Im, .int .i64 b2.e3.Den], At.box b5 25 [.int .i64 0, .int .i64 0, .int .i64 0, .int .i64 0, .int .i64 0, .int .i64 0, .int .i64 0, .int .i64 0, .int .i64 0, .int .i64 0, .int .i64 0, .int .i64 0]]) (fun _ h => h.to) ?_
    rcases ite_cases H0 with ⟨h12, H0⟩ | ⟨h12, H0⟩
    · refine J.cond_true h12 ?_
      refine J.seq ?_
      refine J.region ?_
      refine JL.pur (.agg #[.int .i64 0, .int .i64 0, .int .i64 0, .int .i64 0, .int .i64 0, .int .i64 0, .int .i64 0, .int .i64 0, .int .i64 0, .int .i64 0, .int .i64 0, .int .i64 0]) (some 23) ?_
      refine JL.store 2 b5 0 25 [.int .i64 0, .int .i64 0, .int .i64 0, .int .i64 0, .int .i64 0, .int .i64 0, .int .i64 0, .int .i64 0, .int .i64 0, .int .i64 0, .int .i64 0, .int .i64 0] [.int .i64 0, .int .i64 0, .int .i64 0, .int .i64 0, .int .i64 0, .int .i64 0, .int .i64 0, .int .i64 0, .int .i64 0, .int .i64 0, .int .i64 0, .int .i64 0] tySize_25 ?_
      refine JL.as (.int .i64 8) ?_
      refine JL.nil ?_
      refine JQ.then_normal ?_
      refine JQ.sub [(4, .pointer (some ⟨b5, 0, none⟩)), (5, .int .i64 8)] ?_
      refine JQ.mask [At.box b5 25 [.int .i64 0, .int .i64 0, .int .i64 0, .int .i64 0, .int .i64 0, .int .i64 0, .int .i64 0, .int .i64 0, .int .i64 0, .int .i64 0, .int .i64 0, .int .i64 0]] [false, false, true] ?_
      refine J.ret ?_
      refine JQ.then_ret ?_
      obtain rfl := Option.some.inj H0
      exact JQ.done' (rs := [.cell 4 25, .tmp 5]) (vs := [.agg #[.int .i64 0, .int .i64 0, .int .i64 0, .int .i64 0, .int .i64 0, .int .i64 0, .int .i64 0, .int .i64 0, .int .i64 0, .int .i64 0, .int .i64 0, .int .i64 0], .int .i64 8]) [] (.inr rfl) ⟨⟨b5, 0, _, _, by kernel_rfl, by kernel_rfl, holds_box b5 25 [.int .i64 0, .int .i64 0, .int .i64 0, .int .i64 0, .int .i64 0, .int .i64 0, .int .i64 0, .int .i64 0, .int .i64 0, .int .i64 0, .int .i64 0, .int .i64 0], .inl ⟨tyAgg_25, tySize_25, rfl⟩⟩, by kernel_rfl, trivial⟩ (fun _ h => Heap.to (Heap.pick [] (by decide) h)) ⟨rfl, rfl⟩
    · refine J.cond_false h12 ?_
      refine J.skip ?_
      refine JQ.then_normal ?_
      refine JQ.sub [(2, .pointer (some ⟨b3, 0, none⟩)), (3, .pointer (some ⟨b4, 0, none⟩)), (4, .pointer (some ⟨b5, 0, none⟩))] ?_
      refine J.seq ?_
      refine J.region ?_
      refine JL.alloc [.int .i64 0, .int .i64 0, .int .i64 0, .int .i64 0, .int .i64 0, .int .i64 0, .int .i64 0, .int .i64 0, .int .i64 0, .int .i64 0, .int .i64 0, .int .i64 0] fun b13 => ?_
      refine JL.nil ?_
      refine JQ.then_normal ?_
      refine J.seq ?_
      refine J.seq ?_
      refine J.region ?_
      refine JL.mv (.int .i64 0) ?_
      refine JL.nil ?_
      refine JQ.then_normal ?_
      obtain ⟨o1, hit, H0⟩ := bind_some H0
      refine J.loop (σ := ((A4 Cx) × Int)) (τ := (A4 Cx)) (G := Unit) (G' := Unit) _ o1 (fun s g => [(2, .pointer (some ⟨b3, 0, none⟩)), (3, .pointer (some ⟨b4, 0, none⟩)), (4, .pointer (some ⟨b5, 0, none⟩)), (6, .pointer (some ⟨b13, 0, none⟩)), (24, .int .i64 s.2)]) (fun s g => [At.box b3 25 [.int .i64 a1.e0.Re, .int .i64 a1.e0.Im, .int .i64 a1.e0.Den, .int .i64 a1.e1.Re, .int .i64 a1.e1.Im, .int .i64 a1.e1.Den, .int .i64 a1.e2.Re, .int .i64 a1.e2.Im, .int .i64 a1.e2.Den, .int .i64 a1.e3.Re, .int .i64 a1.e3.Im, .int .i64 a1.e3.Den], At.box b4 25 [.int .i64 b2.e0.Re, .int .i64 b2.e0.Im, .int .i64 b2.e0.Den, .int .i64 b2.e1.Re, .int .i64 b2.e1.Im, .int .i64 b2.e1.Den, .int .i64 b2.e2.Re, .int .i64 b2.e2.Im, .int .i64 b2.e2.Den, .int .i64 b2.e3.Re, .int .i64 b2.e3.Im, .int .i64 b2.e3.Den], At.box b5 25 [.int .i64 0, .int .i64 0, .int .i64 0, .int .i64 0, .int .i64 0, .int .i64 0, .int .i64 0, .int .i64 0, .int .i64 0, .int .i64 0, .int .i64 0, .int .i64 0], At.box b13 25 [.int .i64 s.1.e0.Re, .int .i64 s.1.e0.Im, .int .i64 s.1.e0.Den, .int .i64 s.1.e1.Re, .int .i64 s.1.e1.Im, .int .i64 s.1.e1.Den, .int .i64 s.1.e2.Re, .int .i64 s.1.e2.Im, .int .i64 s.1.e2.Den, .int .i64 s.1.e3.Re, .int .i64 s.1.e3.Im, .int .i64 s.1.e3.Den]]) (fun t => jones_Mul.k9 t = some r) (fun t g => [(4, .pointer (some ⟨b5, 0, none⟩)), (6, .pointer (some ⟨b13, 0, none⟩))]) (fun t g => [At.box b5 25 [.int .i64 0, .int .i64 0, .int .i64 0, .int .i64 0, .int .i64 0, .int .i64 0, .int .i64 0, .int .i64 0, .int .i64 0, .int .i64 0, .int .i64 0, .int .i64 0], At.box b13 25 [.int .i64 t.e0.Re, .int .i64 t.e0.Im, .int .i64 t.e0.Den, .int .i64 t.e1.Re, .int .i64 t.e1.Im, .int .i64 t.e1.Den, .int .i64 t.e2.Re, .int .i64 t.e2.Im, .int .i64 t.e2.Den, .int .i64 t.e3.Re, .int .i64 t.e3.Im, .int .i64 t.e3.Den]]) ((⟨(⟨0, 0, 0⟩ : Cx), (⟨0, 0, 0⟩ : Cx), (⟨0, 0, 0⟩ : Cx), (⟨0, 0, 0⟩ : Cx)⟩ : (A4 Cx)), 0) () hit (fun _ h => Heap.to h) ?_ ?_
      · clear hit
        rintro ⟨out157, x158⟩ ⟨⟩ st1 H1 hb1 hr1
        replace H1 : jones_Mul.s8 a1 b2 out157 x158 = some st1 := H1
        unfold jones_Mul.s8 at H1
        refine JQ.sub [(2, .pointer (some ⟨b3, 0, none⟩)), (3, .pointer (some ⟨b4, 0, none⟩)), (4, .pointer (some ⟨b5, 0, none⟩)), (6, .pointer (some ⟨b13, 0, none⟩)), (24, .int .i64 x158)] ?_
        refine JQ.turn (Δ' := [At.box b3 25 [.int .i64 a1.e0.Re, .int .i64 a1.e0.Im, .int .i64 a1.e0.Den, .int .i64 a1.e1.Re, .int .i64 a1.e1.Im, .int .i64 a1.e1.Den, .int .i64 a1.e2.Re, .int .i64 a1.e2.Im, .int .i64 a1.e2.Den, .int .i64 a1.e3.Re, .int .i64 a1.e3.Im, .int .i64 a1.e3.Den], At.box b4 25 [.int .i64 b2.e0.Re, .int .i64 b2.e0.Im, .int .i64 b2.e0.Den, .int .i64 b2.e1.Re, .int .i64 b2.e1.Im, .int .i64 b2.e1.Den, .int .i64 b2.e2.Re, .int .i64 b2.e2.Im, .int .i64 b2.e2.Den, .int .i64 b2.e3.Re, .int .i64 b2.e3.Im, .int .i64 b2.e3.Den], At.box b5 25 [.int .i64 0, .int .i64 0, .int .i64 0, .int .i64 0, .int .i64 0, .int .i64 0, .int .i64 0, .int .i64 0, .int .i64 0, .int .i64 0, .int .i64 0, .int .i64 0], At.box b13 25 [.int .i64 out157.e0.Re, .int .i64 out157.e0.Im, .int .i64 out157.e0.Den, .int .i64 out157.e1.Re, .int .i64 out157.e1.Im, .int .i64 out157.e1.Den, .int .i64 out157.e2.Re, .int .i64 out157.e2.Im, .int .i64 out157.e2.Den, .int .i64 out157.e3.Re, .int .i64 out157.e3.Im, .int .i64 out157.e3.Den]]) (fun _ h => h.to) ?_
        refine J.seq ?_
        refine J.region ?_
        refine JL.pur (.bool (decide (x158 < 4))) (some 25) ?_
        refine JL.nil ?_
        refine JQ.then_normal ?_
        refine J.seq ?_
        rcases ite_cases H1 with ⟨h249, H1⟩ | ⟨h249, H1⟩
        · refine J.cond_true h249 ?_
          refine J.skip ?_
          refine JQ.then_normal ?_
          refine JQ.sub [(2, .pointer (some ⟨b3, 0, none⟩)), (3, .pointer (some ⟨b4, 0, none⟩)), (4, .pointer (some ⟨b5, 0, none⟩)), (6, .pointer (some ⟨b13, 0, none⟩)), (24, .int .i64 x158)] ?_
          refine J.seq ?_
          refine J.block ?_
          refine J.seq ?_
          refine J.region ?_
          refine JL.mv (.int .i64 x158) ?_
          refine JL.as (.int .i64 x158) ?_
          refine JL.nil ?_
          refine JQ.then_normal ?_
          refine JQ.sub [(2, .pointer (some ⟨b3, 0, none⟩)), (3, .pointer (some ⟨b4, 0, none⟩)), (4, .pointer (some ⟨b5, 0, none⟩)), (6, .pointer (some ⟨b13, 0, none⟩)), (7, .int .i64 x158), (24, .int .i64 x158)] ?_
          refine J.seq ?_
          refine J.region ?_
          refine JL.mv (.int .i64 x158) ?_
          refine JL.pur (.int .i64 (w64 (Int.tdiv x158 2))) (some 28) ?_
          refine JL.pur (.int .i64 (w64 ((w64 (Int.tdiv x158 2)) * 2))) (some 29) ?_
          refine JL.mv (.int .i64 x158) ?_
          refine JL.pur (.int .i64 (Int.tmod x158 2)) (some 31) ?_
          obtain ⟨row250, erow250, H1⟩ := lt_some H1
          refine JL.as' (k := .i64) row250 erow250 ?_
          obtain ⟨column251, ecolumn251, H1⟩ := lt_some H1
          refine JL.as' (k := .i64) column251 ecolumn251 ?_
          refine JL.nil ?_
          refine JQ.then_normal ?_
          refine JQ.sub [(2, .pointer (some ⟨b3, 0, none⟩)), (3, .pointer (some ⟨b4, 0, none⟩)), (4, .pointer (some ⟨b5, 0, none⟩)), (6, .pointer (some ⟨b13, 0, none⟩)), (7, .int .i64 x158), (8, .int .i64 row250), (9, .int .i64 column251), (24, .int .i64 x158)] ?_
          refine J.join (T := (Cx × Int)) (G := Nat) (fun t => jones_Mul.k10 a1 b2 out157 x158 row250 column251 t.1 t.2 = some st1) (fun t g => [(2, .pointer (some ⟨b3, 0, none⟩)), (3, .pointer (some ⟨b4, 0, none⟩)), (4, .pointer (some ⟨b5, 0, none⟩)), (6, .pointer (some ⟨b13, 0, none⟩)), (7, .int .i64 x158), (8, .int .i64 row250), (9, .int .i64 column251), (10, .pointer (some ⟨g, 0, none⟩)), (11, .int .i64 t.2), (24, .int .i64 x158)]) (fun t g => [At.box b3 25 [.int .i64 a1.e0.Re, .int .i64 a1.e0.Im, .int .i64 a1.e0.Den, .int .i64 a1.e1.Re, .int .i64 a1.e1.Im, .int .i64 a1.e1.Den, .int .i64 a1.e2.Re, .int .i64 a1.e2.Im, .int .i64 a1.e2.Den, .int .i64 a1.e3.Re, .int .i64 a1.e3.Im, .int .i64 a1.e3.Den], At.box b4 25 [.int .i64 b2.e0.Re, .int .i64 b2.e0.Im, .int .i64 b2.e0.Den, .int .i64 b2.e1.Re, .int .i64 b2.e1.Im, .int .i64 b2.e1.Den, .int .i64 b2.e2.Re, .int .i64 b2.e2.Im, .int .i64 b2.e2.Den, .int .i64 b2.e3.Re, .int .i64 b2.e3.Im, .int .i64 b2.e3.Den], At.box b5 25 [.int .i64 0, .int .i64 0, .int .i64 0, .int .i64 0, .int .i64 0, .int .i64 0, .int .i64 0, .int .i64 0, .int .i64 0, .int .i64 0, .int .i64 0, .int .i64 0], At.box b13 25 [.int .i64 out157.e0.Re, .int .i64 out157.e0.Im, .int .i64 out157.e0.Den, .int .i64 out157.e1.Re, .int .i64 out157.e1.Im, .int .i64 out157.e1.Den, .int .i64 out157.e2.Re, .int .i64 out157.e2.Im, .int .i64 out157.e2.Den, .int .i64 out157.e3.Re, .int .i64 out157.e3.Im, .int .i64 out157.e3.Den], At.box g 23 [.int .i64 t.1.Re, .int .i64 t.1.Im, .int .i64 t.1.Den]]) ?_ ?_
          · obtain ⟨⟨h321, h322⟩, H1⟩ := ite_must H1
            obtain ⟨⟨h323, h324⟩, H1⟩ := ite_must H1
            obtain ⟨t325, hc326, H1⟩ := bind_some H1
            refine JY.start [11] #[false, false, false, false, false, false, false, false, false, false, false, false, false] ?_
            refine JY.pur (hi := rfl) 0 #[true, false, false, false, false, false, false, false, false, false, false, false, false] (.int .i64 row250) (some 33) want ?_
            obtain ⟨h328, h329⟩ : 0 ≤ row250 ∧ row250 < 4 := ⟨h321, h322⟩
            refine JY.puw (hi := rfl) 1 #[true, true, false, false, false, false, false, false, false, false, false, false, false] (.pointer (some ⟨b3, 0 + row250.toNat * 3, none⟩)) (some 34) want (givesW_ixArrD (b := b3) (o := 0) (i := row250) 4 3 .i64 h328 h329 Try.underlying25 tySize_23) ?_
            refine JY.take (hi := rfl) 2 #[true, true, true, false, false, false, false, false, false, false, false, false, false] (.agg #[.int .i64 ((ix ([a1.e0, a1.e1, a1.e2, a1.e3] : List Cx) row250).Re), .int .i64 ((ix ([a1.e0, a1.e1, a1.e2, a1.e3] : List Cx) row250).Im), .int .i64 ((ix ([a1.e0, a1.e1, a1.e2, a1.e3] : List Cx) row250).Den)]) (some 35) [true, true, true, true] want (gives_loadEl (f := fl_Cx) 0 0 row250 (elems_arr b3 25 [.int .i64 a1.e0.Re, .int .i64 a1.e0.Im, .int .i64 a1.e0.Den, .int .i64 a1.e1.Re, .int .i64 a1.e1.Im, .int .i64 a1.e1.Den, .int .i64 a1.e2.Re, .int .i64 a1.e2.Im, .int .i64 a1.e2.Den, .int .i64 a1.e3.Re, .int .i64 a1.e3.Im, .int .i64 a1.e3.Den] fl_Cx ([a1.e0, a1.e1, a1.e2, a1.e3] : List Cx) 0) h328 h329 tySize_23 (.inl ⟨tyAgg_23, rfl⟩)) ?_
            refine JY.pur (hi := rfl) 3 #[true, true, true, true, false, false, false, false, false, false, false, false, false] (.int .i64 column251) (some 36) want ?_
            obtain ⟨h330, h331⟩ : 0 ≤ column251 ∧ column251 < 4 := ⟨h323, h324⟩
            refine JY.puw (hi := rfl) 4 #[true, true, true, true, true, false, false, false, false, false, false, false, false] (.pointer (some ⟨b4, 0 + column251.toNat * 3, none⟩)) (some 37) want (givesW_ixArrD (b := b4) (o := 0) (i := column251) 4 3 .i64 h330 h331 Try.underlying25 tySize_23) ?_
            refine JY.take (hi := rfl) 5 #[true, true, true, true, true, true, false, false, false, false, false, false, false] (.agg #[.int .i64 ((ix ([b2.e0, b2.e1, b2.e2, b2.e3] : List Cx) column251).Re), .int .i64 ((ix ([b2.e0, b2.e1, b2.e2, b2.e3] : List Cx) column251).Im), .int .i64 ((ix ([b2.e0, b2.e1, b2.e2, b2.e3] : List Cx) column251).Den)]) (some 38) [true, true, true, true] want (gives_loadEl (f := fl_Cx) 1 0 column251 (elems_arr b4 25 [.int .i64 b2.e0.Re, .int .i64 b2.e0.Im, .int .i64 b2.e0.Den, .int .i64 b2.e1.Re, .int .i64 b2.e1.Im, .int .i64 b2.e1.Den, .int .i64 b2.e2.Re, .int .i64 b2.e2.Im, .int .i64 b2.e2.Den, .int .i64 b2.e3.Re, .int .i64 b2.e3.Im, .int .i64 b2.e3.Den] fl_Cx ([b2.e0, b2.e1, b2.e2, b2.e3] : List Cx) 0) h330 h331 tySize_23 (.inl ⟨tyAgg_23, rfl⟩)) ?_
            refine JY.all [6, 10] ⟨⟨_, rfl, ?_⟩, ⟨_, rfl, ?_⟩, trivial⟩
            · refine JL.call [] [] [] (cx_Mul.ok (ix ([a1.e0, a1.e1, a1.e2, a1.e3] : List Cx) row250) (ix ([b2.e0, b2.e1, b2.e2, b2.e3] : List Cx) column251) _ hc326) trivial ?_
              rintro _ _ ⟨rfl, rfl⟩
              refine JL.nil ?_
              refine JY.ran #[true, true, true, true, true, true, true, false, false, false, false, false, false] [true, true, true, true] ?_
              refine JY.pur (hi := rfl) 7 #[true, true, true, true, true, true, true, true, false, false, false, false, false] (.tuple #[.agg #[.int .i64 t325.1.Re, .int .i64 t325.1.Im, .int .i64 t325.1.Den], .int .i64 t325.2]) (some 32) want ?_
              refine JY.pur (hi := rfl) 8 #[true, true, true, true, true, true, true, true, true, false, false, false, false] (.agg #[.int .i64 t325.1.Re, .int .i64 t325.1.Im, .int .i64 t325.1.Den]) (some 40) want ?_
              refine JY.pur (hi := rfl) 9 #[true, true, true, true, true, true, true, true, true, true, false, false, false] (.int .i64 t325.2) (some 41) want ?_
              refine JY.all [10] ⟨⟨_, rfl, ?_⟩, trivial⟩
              refine JL.alloc [.int .i64 0, .int .i64 0, .int .i64 0] fun b334 => ?_
              refine JL.nil ?_
              refine JY.ran #[true, true, true, true, true, true, true, true, true, true, true, false, false] [true, true, true, true, false] ?_
              refine JY.all [11] ⟨⟨_, rfl, ?_⟩, trivial⟩
              refine JL.store 4 b334 0 23 [.int .i64 0, .int .i64 0, .int .i64 0] [.int .i64 t325.1.Re, .int .i64 t325.1.Im, .int .i64 t325.1.Den] tySize_23 ?_
              refine JL.nil ?_
              refine JY.ranD #[true, true, true, true, true, true, true, true, true, true, true, true, false] ?_
              refine JY.pur (hi := rfl) 12 #[true, true, true, true, true, true, true, true, true, true, true, true, true] (.int .i64 t325.2) (some 11) want ?_
              refine JY.done ?_
              refine JQ.then_normal ?_
              exact JQ.meet (t325.1, t325.2) b334 H1 (fun _ h => Heap.to h)
            · refine JL.alloc [.int .i64 0, .int .i64 0, .int .i64 0] fun b335 => ?_
              refine JL.nil ?_
              refine JY.ran #[true, true, true, true, true, true, false, false, false, false, true, false, false] [true, true, true, true, false] ?_
              refine JY.all [6] ⟨⟨_, rfl, ?_⟩, trivial⟩
              refine JL.call [] [] [] (cx_Mul.ok (ix ([a1.e0, a1.e1, a1.e2, a1.e3] : List Cx) row250) (ix ([b2.e0, b2.e1, b2.e2, b2.e3] : List Cx) column251) _ hc326) trivial ?_
              rintro _ _ ⟨rfl, rfl⟩
              refine JL.nil ?_
              refine JY.ran #[true, true, true, true, true, true, true, false, false, false, true, false, false] [true, true, true, true, false] ?_
              refine JY.pur (hi := rfl) 7 #[true, true, true, true, true, true, true, true, false, false, true, false, false] (.tuple #[.agg #[.int .i64 t325.1.Re, .int .i64 t325.1.Im, .int .i64 t325.1.Den], .int .i64 t325.2]) (some 32) want ?_
              refine JY.pur (hi := rfl) 8 #[true, true, true, true, true, true, true, true, true, false, true, false, false] (.agg #[.int .i64 t325.1.Re, .int .i64 t325.1.Im, .int .i64 t325.1.Den]) (some 40) want ?_
              refine JY.pur (hi := rfl) 9 #[true, true, true, true, true, true, true, true, true, true, true, false, false] (.int .i64 t325.2) (some 41) want ?_
              refine JY.all [11] ⟨⟨_, rfl, ?_⟩, trivial⟩
              refine JL.store 4 b335 0 23 [.int .i64 0, .int .i64 0, .int .i64 0] [.int .i64 t325.1.Re, .int .i64 t325.1.Im, .int .i64 t325.1.Den] tySize_23 ?_
              refine JL.nil ?_
              refine JY.ranD #[true, true, true, true, true, true, true, true, true, true, true, true, false] ?_
              refine JY.pur (hi := rfl) 12 #[true, true, true, true, true, true, true, true, true, true, true, true, true] (.int .i64 t325.2) (some 11) want ?_
              refine JY.done ?_
              refine JQ.then_normal ?_
              exact JQ.meet (t325.1, t325.2) b335 H1 (fun _ h => Heap.to h)
          · clear H1
            rintro ⟨x271, e272⟩ b269 H1
            replace H1 : jones_Mul.k10 a1 b2 out157 x158 row250 column251 x271 e272 = some st1 := H1
            unfold jones_Mul.k10 at H1
            refine JQ.sub [(2, .pointer (some ⟨b3, 0, none⟩)), (3, .pointer (some ⟨b4, 0, none⟩)), (4, .pointer (some ⟨b5, 0, none⟩)), (6, .pointer (some ⟨b13, 0, none⟩)), (7, .int .i64 x158), (8, .int .i64 row250), (9, .int .i64 column251), (10, .pointer (some ⟨b269, 0, none⟩)), (11, .int .i64 e272), (24, .int .i64 x158)] ?_
            refine JQ.turn (Δ' := [At.box b3 25 [.int .i64 a1.e0.Re, .int .i64 a1.e0.Im, .int .i64 a1.e0.Den, .int .i64 a1.e1.Re, .int .i64 a1.e1.Im, .int .i64 a1.e1.Den, .int .i64 a1.e2.Re, .int .i64 a1.e2.Im, .int .i64 a1.e2.Den, .int .i64 a1.e3.Re, .int .i64 a1.e3.Im, .int .i64 a1.e3.Den], At.box b4 25 [.int .i64 b2.e0.Re, .int .i64 b2.e0.Im, .int .i64 b2.e0.Den, .int .i64 b2.e1.Re, .int .i64 b2.e1.Im, .int .i64 b2.e1.Den, .int .i64 b2.e2.Re, .int .i64 b2.e2.Im, .int .i64 b2.e2.Den, .int .i64 b2.e3.Re, .int .i64 b2.e3.Im, .int .i64 b2.e3.Den], At.box b5 25 [.int .i64 0, .int .i64 0, .int .i64 0, .int .i64 0, .int .i64 0, .int .i64 0, .int .i64 0, .int .i64 0, .int .i64 0, .int .i64 0, .int .i64 0, .int .i64 0], At.box b13 25 [.int .i64 out157.e0.Re, .int .i64 out157.e0.Im, .int .i64 out157.e0.Den, .int .i64 out157.e1.Re, .int .i64 out157.e1.Im, .int .i64 out157.e1.Den, .int .i64 out157.e2.Re, .int .i64 out157.e2.Im, .int .i64 out157.e2.Den, .int .i64 out157.e3.Re, .int .i64 out157.e3.Im, .int .i64 out157.e3.Den], At.box b269 23 [.int .i64 x271.Re, .int .i64 x271.Im, .int .i64 x271.Den]]) (fun _ h => h.to) ?_
            refine J.join (T := (Cx × Int)) (G := Nat) (fun t => jones_Mul.k11 out157 x158 x271 e272 t.1 t.2 = some st1) (fun t g => [(2, .pointer (some ⟨b3, 0, none⟩)), (3, .pointer (some ⟨b4, 0, none⟩)), (4, .pointer (some ⟨b5, 0, none⟩)), (6, .pointer (some ⟨b13, 0, none⟩)), (7, .int .i64 x158), (10, .pointer (some ⟨b269, 0, none⟩)), (11, .int .i64 e272), (12, .pointer (some ⟨g, 0, none⟩)), (13, .int .i64 t.2), (24, .int .i64 x158)]) (fun t g => [At.box b3 25 [.int .i64 a1.e0.Re, .int .i64 a1.e0.Im, .int .i64 a1.e0.Den, .int .i64 a1.e1.Re, .int .i64 a1.e1.Im, .int .i64 a1.e1.Den, .int .i64 a1.e2.Re, .int .i64 a1.e2.Im, .int .i64 a1.e2.Den, .int .i64 a1.e3.Re, .int .i64 a1.e3.Im, .int .i64 a1.e3.Den], At.box b4 25 [.int .i64 b2.e0.Re, .int .i64 b2.e0.Im, .int .i64 b2.e0.Den, .int .i64 b2.e1.Re, .int .i64 b2.e1.Im, .int .i64 b2.e1.Den, .int .i64 b2.e2.Re, .int .i64 b2.e2.Im, .int .i64 b2.e2.Den, .int .i64 b2.e3.Re, .int .i64 b2.e3.Im, .int .i64 b2.e3.Den], At.box b5 25 [.int .i64 0, .int .i64 0, .int .i64 0, .int .i64 0, .int .i64 0, .int .i64 0, .int .i64 0, .int .i64 0, .int .i64 0, .int .i64 0, .int .i64 0, .int .i64 0], At.box b13 25 [.int .i64 out157.e0.Re, .int .i64 out157.e0.Im, .int .i64 out157.e0.Den, .int .i64 out157.e1.Re, .int .i64 out157.e1.Im, .int .i64 out157.e1.Den, .int .i64 out157.e2.Re, .int .i64 out157.e2.Im, .int .i64 out157.e2.Den, .int .i64 out157.e3.Re, .int .i64 out157.e3.Im, .int .i64 out157.e3.Den], At.box b269 23 [.int .i64 x271.Re, .int .i64 x271.Im, .int .i64 x271.Den], At.box g 23 [.int .i64 t.1.Re, .int .i64 t.1.Im, .int .i64 t.1.Den]]) ?_ ?_
            · obtain ⟨⟨h304, h305⟩, H1⟩ := ite_must H1
              obtain ⟨⟨h306, h307⟩, H1⟩ := ite_must H1
              obtain ⟨t308, hc309, H1⟩ := bind_some H1
              refine JY.start [13] #[false, false, false, false, false, false, false, false, false, false, false, false, false, false, false] ?_
              refine JY.pur (hi := rfl) 0 #[true, false, false, false, false, false, false, false, false, false, false, false, false, false, false] (.int .i64 row250) (some 43) want ?_
              refine JY.pur (hi := rfl) 1 #[true, true, false, false, false, false, false, false, false, false, false, false, false, false, false] (.int .i64 (w64 (row250 + 1))) (some 44) want ?_
              obtain ⟨h311, h312⟩ : 0 ≤ w64 (row250 + 1) ∧ w64 (row250 + 1) < 4 := ⟨h304, h305⟩
              refine JY.puw (hi := rfl) 2 #[true, true, true, false, false, false, false, false, false, false, false, false, false, false, false] (.pointer (some ⟨b3, 0 + (w64 (row250 + 1)).toNat * 3, none⟩)) (some 45) want (givesW_ixArrD (b := b3) (o := 0) (i := w64 (row250 + 1)) 4 3 .i64 h311 h312 Try.underlying25 tySize_23) ?_
              refine JY.take (hi := rfl) 3 #[true, true, true, true, false, false, false, false, false, false, false, false, false, false, false] (.agg #[.int .i64 ((ix ([a1.e0, a1.e1, a1.e2, a1.e3] : List Cx) (w64 (row250 + 1))).Re), .int .i64 ((ix ([a1.e0, a1.e1, a1.e2, a1.e3] : List Cx) (w64 (row250 + 1))).Im), .int .i64 ((ix ([a1.e0, a1.e1, a1.e2, a1.e3] : List Cx) (w64 (row250 + 1))).Den)]) (some 46) [true, true, true, true, true] want (gives_loadEl (f := fl_Cx) 0 0 (w64 (row250 + 1)) (elems_arr b3 25 [.int .i64 a1.e0.Re, .int .i64 a1.e0.Im, .int .i64 a1.e0.Den, .int .i64 a1.e1.Re, .int .i64 a1.e1.Im, .int .i64 a1.e1.Den, .int .i64 a1.e2.Re, .int .i64 a1.e2.Im, .int .i64 a1.e2.Den, .int .i64 a1.e3.Re, .int .i64 a1.e3.Im, .int .i64 a1.e3.Den] fl_Cx ([a1.e0, a1.e1, a1.e2, a1.e3] : List Cx) 0) h311 h312 tySize_23 (.inl ⟨tyAgg_23, rfl⟩)) ?_
              refine JY.pur (hi := rfl) 4 #[true, true, true, true, true, false, false, false, false, false, false, false, false, false, false] (.int .i64 column251) (some 47) want ?_
              refine JY.pur (hi := rfl) 5 #[true, true, true, true, true, true, false, false, false, false, false, false, false, false, false] (.int .i64 (w64 (column251 + 2))) (some 48) want ?_
              obtain ⟨h313, h314⟩ : 0 ≤ w64 (column251 + 2) ∧ w64 (column251 + 2) < 4 := ⟨h306, h307⟩
              refine JY.puw (hi := rfl) 6 #[true, true, true, true, true, true, true, false, false, false, false, false, false, false, false] (.pointer (some ⟨b4, 0 + (w64 (column251 + 2)).toNat * 3, none⟩)) (some 49) want (givesW_ixArrD (b := b4) (o := 0) (i := w64 (column251 + 2)) 4 3 .i64 h313 h314 Try.underlying25 tySize_23) ?_
              refine JY.take (hi := rfl) 7 #[true, true, true, true, true, true, true, true, false, false, false, false, false, false, false] (.agg #[.int .i64 ((ix ([b2.e0, b2.e1, b2.e2, b2.e3] : List Cx) (w64 (column251 + 2))).Re), .int .i64 ((ix ([b2.e0, b2.e1, b2.e2, b2.e3] : List Cx) (w64 (column251 + 2))).Im), .int .i64 ((ix ([b2.e0, b2.e1, b2.e2, b2.e3] : List Cx) (w64 (column251 + 2))).Den)]) (some 50) [true, true, true, true, true] want (gives_loadEl (f := fl_Cx) 1 0 (w64 (column251 + 2)) (elems_arr b4 25 [.int .i64 b2.e0.Re, .int .i64 b2.e0.Im, .int .i64 b2.e0.Den, .int .i64 b2.e1.Re, .int .i64 b2.e1.Im, .int .i64 b2.e1.Den, .int .i64 b2.e2.Re, .int .i64 b2.e2.Im, .int .i64 b2.e2.Den, .int .i64 b2.e3.Re, .int .i64 b2.e3.Im, .int .i64 b2.e3.Den] fl_Cx ([b2.e0, b2.e1, b2.e2, b2.e3] : List Cx) 0) h313 h314 tySize_23 (.inl ⟨tyAgg_23, rfl⟩)) ?_
              refine JY.all [8, 12] ⟨⟨_, rfl, ?_⟩, ⟨_, rfl, ?_⟩, trivial⟩
              · refine JL.call [] [] [] (cx_Mul.ok (ix ([a1.e0, a1.e1, a1.e2, a1.e3] : List Cx) (w64 (row250 + 1))) (ix ([b2.e0, b2.e1, b2.e2, b2.e3] : List Cx) (w64 (column251 + 2))) _ hc309) trivial ?_
                rintro _ _ ⟨rfl, rfl⟩
                refine JL.nil ?_
                refine JY.ran #[true, true, true, true, true, true, true, true, true, false, false, false, false, false, false] [true, true, true, true, true] ?_
                refine JY.pur (hi := rfl) 9 #[true, true, true, true, true, true, true, true, true, true, false, false, false, false, false] (.tuple #[.agg #[.int .i64 t308.1.Re, .int .i64 t308.1.Im, .int .i64 t308.1.Den], .int .i64 t308.2]) (some 42) want ?_
                refine JY.pur (hi := rfl) 10 #[true, true, true, true, true, true, true, true, true, true, true, false, false, false, false] (.agg #[.int .i64 t308.1.Re, .int .i64 t308.1.Im, .int .i64 t308.1.Den]) (some 52) want ?_
                refine JY.pur (hi := rfl) 11 #[true, true, true, true, true, true, true, true, true, true, true, true, false, false, false] (.int .i64 t308.2) (some 53) want ?_
                refine JY.all [12] ⟨⟨_, rfl, ?_⟩, trivial⟩
                refine JL.alloc [.int .i64 0, .int .i64 0, .int .i64 0] fun b317 => ?_
                refine JL.nil ?_
                refine JY.ran #[true, true, true, true, true, true, true, true, true, true, true, true, true, false, false] [true, true, true, true, true, false] ?_
                refine JY.all [13] ⟨⟨_, rfl, ?_⟩, trivial⟩
                refine JL.store 5 b317 0 23 [.int .i64 0, .int .i64 0, .int .i64 0] [.int .i64 t308.1.Re, .int .i64 t308.1.Im, .int .i64 t308.1.Den] tySize_23 ?_
                refine JL.nil ?_
                refine JY.ranD #[true, true, true, true, true, true, true, true, true, true, true, true, true, true, false] ?_
                refine JY.pur (hi := rfl) 14 #[true, true, true, true, true, true, true, true, true, true, true, true, true, true, true] (.int .i64 t308.2) (some 13) want ?_
                refine JY.done ?_
                refine JQ.then_normal ?_
                exact JQ.meet (t308.1, t308.2) b317 H1 (fun _ h => Heap.to h)
              · refine JL.alloc [.int .i64 0, .int .i64 0, .int .i64 0] fun b318 => ?_
                refine JL.nil ?_
                refine JY.ran #[true, true, true, true, true, true, true, true, false, false, false, false, true, false, false] [true, true, true, true, true, false] ?_
                refine JY.all [8] ⟨⟨_, rfl, ?_⟩, trivial⟩
                refine JL.call [] [] [] (cx_Mul.ok (ix ([a1.e0, a1.e1, a1.e2, a1.e3] : List Cx) (w64 (row250 + 1))) (ix ([b2.e0, b2.e1, b2.e2, b2.e3] : List Cx) (w64 (column251 + 2))) _ hc309) trivial ?_
                rintro _ _ ⟨rfl, rfl⟩
                refine JL.nil ?_
                refine JY.ran #[true, true, true, true, true, true, true, true, true, false, false, false, true, false, false] [true, true, true, true, true, false] ?_
                refine JY.pur (hi := rfl) 9 #[true, true, true, true, true, true, true, true, true, true, false, false, true, false, false] (.tuple #[.agg #[.int .i64 t308.1.Re, .int .i64 t308.1.Im, .int .i64 t308.1.Den], .int .i64 t308.2]) (some 42) want ?_
                refine JY.pur (hi := rfl) 10 #[true, true, true, true, true, true, true, true, true, true, true, false, true, false, false] (.agg #[.int .i64 t308.1.Re, .int .i64 t308.1.Im, .int .i64 t308.1.Den]) (some 52) want ?_
                refine JY.pur (hi := rfl) 11 #[true, true, true, true, true, true, true, true, true, true, true, true, true, false, false] (.int .i64 t308.2) (some 53) want ?_
                refine JY.all [13] ⟨⟨_, rfl, ?_⟩, trivial⟩
                refine JL.store 5 b318 0 23 [.int .i64 0, .int .i64 0, .int .i64 0] [.int .i64 t308.1.Re, .int .i64 t308.1.Im, .int .i64 t308.1.Den] tySize_23 ?_
                refine JL.nil ?_
                refine JY.ranD #[true, true, true, true, true, true, true, true, true, true, true, true, true, true, false] ?_
                refine JY.pur (hi := rfl) 14 #[true, true, true, true, true, true, true, true, true, true, true, true, true, true, true] (.int .i64 t308.2) (some 13) want ?_
                refine JY.done ?_
                refine JQ.then_normal ?_
                exact JQ.meet (t308.1, t308.2) b318 H1 (fun _ h => Heap.to h)
            · clear H1
              rintro ⟨y292, f293⟩ b290 H1
              replace H1 : jones_Mul.k11 out157 x158 x271 e272 y292 f293 = some st1 := H1
              unfold jones_Mul.k11 at H1
              refine JQ.sub [(2, .pointer (some ⟨b3, 0, none⟩)), (3, .pointer (some ⟨b4, 0, none⟩)), (4, .pointer (some ⟨b5, 0, none⟩)), (6, .pointer (some ⟨b13, 0, none⟩)), (7, .int .i64 x158), (10, .pointer (some ⟨b269, 0, none⟩)), (11, .int .i64 e272), (12, .pointer (some ⟨b290, 0, none⟩)), (13, .int .i64 f293), (24, .int .i64 x158)] ?_
              refine JQ.turn (Δ' := [At.box b3 25 [.int .i64 a1.e0.Re, .int .i64 a1.e0.Im, .int .i64 a1.e0.Den, .int .i64 a1.e1.Re, .int .i64 a1.e1.Im, .int .i64 a1.e1.Den, .int .i64 a1.e2.Re, .int .i64 a1.e2.Im, .int .i64 a1.e2.Den, .int .i64 a1.e3.Re, .int .i64 a1.e3.Im, .int .i64 a1.e3.Den], At.box b4 25 [.int .i64 b2.e0.Re, .int .i64 b2.e0.Im, .int .i64 b2.e0.Den, .int .i64 b2.e1.Re, .int .i64 b2.e1.Im, .int .i64 b2.e1.Den, .int .i64 b2.e2.Re, .int .i64 b2.e2.Im, .int .i64 b2.e2.Den, .int .i64 b2.e3.Re, .int .i64 b2.e3.Im, .int .i64 b2.e3.Den], At.box b5 25 [.int .i64 0, .int .i64 0, .int .i64 0, .int .i64 0, .int .i64 0, .int .i64 0, .int .i64 0, .int .i64 0, .int .i64 0, .int .i64 0, .int .i64 0, .int .i64 0], At.box b13 25 [.int .i64 out157.e0.Re, .int .i64 out157.e0.Im, .int .i64 out157.e0.Den, .int .i64 out157.e1.Re, .int .i64 out157.e1.Im, .int .i64 out157.e1.Den, .int .i64 out157.e2.Re, .int .i64 out157.e2.Im, .int .i64 out157.e2.Den, .int .i64 out157.e3.Re, .int .i64 out157.e3.Im, .int .i64 out157.e3.Den], At.box b269 23 [.int .i64 x271.Re, .int .i64 x271.Im, .int .i64 x271.Den], At.box b290 23 [.int .i64 y292.Re, .int .i64 y292.Im, .int .i64 y292.Den]]) (fun _ h => h.to) ?_
              refine J.seq ?_
              refine J.seq ?_
              refine J.region ?_
              refine JL.mv (.int .i64 e272) ?_
              refine JL.mv (.int .i64 f293) ?_
              refine JL.buildSl 26 ((flInt .i64).kd) (([e272, f293] : List Int) : List Int) [.int .i64 e272, .int .i64 f293] false (closes_fl rfl) fun b294 => ?_
              obtain ⟨t295, hc296, H1⟩ := bind_some H1
              refine JL.call [] [] [] (cmp_Or__api_Errno.ok ([e272, f293] : List Int) (some ⟨b294, 0, none⟩) 2 _ hc296) ⟨pre_view 6 (view_row (some ⟨b294, 0, none⟩) 2 26 ((flInt .i64).kd) ([e272, f293] : List Int) false true), trivial⟩ ?_
              rintro _ _ ⟨rfl, rfl⟩
              refine JL.as (.int .i64 t295) ?_
              refine JL.nil ?_
              refine JQ.then_normal ?_
              refine JQ.sub [(2, .pointer (some ⟨b3, 0, none⟩)), (3, .pointer (some ⟨b4, 0, none⟩)), (4, .pointer (some ⟨b5, 0, none⟩)), (6, .pointer (some ⟨b13, 0, none⟩)), (7, .int .i64 x158), (10, .pointer (some ⟨b269, 0, none⟩)), (12, .pointer (some ⟨b290, 0, none⟩)), (14, .int .i64 t295), (24, .int .i64 x158)] ?_
              refine JQ.mask [At.box b3 25 [.int .i64 a1.e0.Re, .int .i64 a1.e0.Im, .int .i64 a1.e0.Den, .int .i64 a1.e1.Re, .int .i64 a1.e1.Im, .int .i64 a1.e1.Den, .int .i64 a1.e2.Re, .int .i64 a1.e2.Im, .int .i64 a1.e2.Den, .int .i64 a1.e3.Re, .int .i64 a1.e3.Im, .int .i64 a1.e3.Den], At.box b4 25 [.int .i64 b2.e0.Re, .int .i64 b2.e0.Im, .int .i64 b2.e0.Den, .int .i64 b2.e1.Re, .int .i64 b2.e1.Im, .int .i64 b2.e1.Den, .int .i64 b2.e2.Re, .int .i64 b2.e2.Im, .int .i64 b2.e2.Den, .int .i64 b2.e3.Re, .int .i64 b2.e3.Im, .int .i64 b2.e3.Den], At.box b5 25 [.int .i64 0, .int .i64 0, .int .i64 0, .int .i64 0, .int .i64 0, .int .i64 0, .int .i64 0, .int .i64 0, .int .i64 0, .int .i64 0, .int .i64 0, .int .i64 0], At.box b13 25 [.int .i64 out157.e0.Re, .int .i64 out157.e0.Im, .int .i64 out157.e0.Den, .int .i64 out157.e1.Re, .int .i64 out157.e1.Im, .int .i64 out157.e1.Den, .int .i64 out157.e2.Re, .int .i64 out157.e2.Im, .int .i64 out157.e2.Den, .int .i64 out157.e3.Re, .int .i64 out157.e3.Im, .int .i64 out157.e3.Den], At.box b269 23 [.int .i64 x271.Re, .int .i64 x271.Im, .int .i64 x271.Den], At.box b290 23 [.int .i64 y292.Re, .int .i64 y292.Im, .int .i64 y292.Den]] [true, true, true, true, true, true, false] ?_
              refine J.seq ?_
              refine J.region ?_
              refine JL.mv (.int .i64 t295) ?_
              refine JL.pur (.bool (!decide (t295 = 0))) (some 59) ?_
              refine JL.nil ?_
              refine JQ.then_normal ?_
              refine JQ.sub [(2, .pointer (some ⟨b3, 0, none⟩)), (3, .pointer (some ⟨b4, 0, none⟩)), (4, .pointer (some ⟨b5, 0, none⟩)), (6, .pointer (some ⟨b13, 0, none⟩)), (7, .int .i64 x158), (10, .pointer (some ⟨b269, 0, none⟩)), (12, .pointer (some ⟨b290, 0, none⟩)), (14, .int .i64 t295), (24, .int .i64 x158), (59, .bool (!decide (t295 = 0)))] ?_
              rcases ite_cases H1 with ⟨h297, H1⟩ | ⟨h297, H1⟩
              · refine J.cond_true h297 ?_
                refine J.seq ?_
                refine J.region ?_
                refine JL.pur (.agg #[.int .i64 0, .int .i64 0, .int .i64 0, .int .i64 0, .int .i64 0, .int .i64 0, .int .i64 0, .int .i64 0, .int .i64 0, .int .i64 0, .int .i64 0, .int .i64 0]) (some 60) ?_
                refine JL.mv (.int .i64 t295) ?_
                refine JL.store 2 b5 0 25 [.int .i64 0, .int .i64 0, .int .i64 0, .int .i64 0, .int .i64 0, .int .i64 0, .int .i64 0, .int .i64 0, .int .i64 0, .int .i64 0, .int .i64 0, .int .i64 0] [.int .i64 0, .int .i64 0, .int .i64 0, .int .i64 0, .int .i64 0, .int .i64 0, .int .i64 0, .int .i64 0, .int .i64 0, .int .i64 0, .int .i64 0, .int .i64 0] tySize_25 ?_
                refine JL.as (.int .i64 t295) ?_
                refine JL.nil ?_
                refine JQ.then_normal ?_
                refine JQ.sub [(4, .pointer (some ⟨b5, 0, none⟩)), (5, .int .i64 t295)] ?_
                refine JQ.mask [At.box b5 25 [.int .i64 0, .int .i64 0, .int .i64 0, .int .i64 0, .int .i64 0, .int .i64 0, .int .i64 0, .int .i64 0, .int .i64 0, .int .i64 0, .int .i64 0, .int .i64 0]] [false, false, true, false, false, false] ?_
                refine J.ret ?_
                refine JQ.then_ret ?_
                refine JQ.blk_ret ?_
                refine JQ.then_ret ?_
                refine JQ.then_ret ?_
                refine JQ.blk_ret ?_
                refine JQ.met_ret ?_
                refine JQ.then_ret ?_
                rw [hr1 _ (Option.some.inj H1).symm, fin_ret] at H0
                obtain rfl := Option.some.inj H0
                exact JQ.done' (rs := [.cell 4 25, .tmp 5]) (vs := [.agg #[.int .i64 0, .int .i64 0, .int .i64 0, .int .i64 0, .int .i64 0, .int .i64 0, .int .i64 0, .int .i64 0, .int .i64 0, .int .i64 0, .int .i64 0, .int .i64 0], .int .i64 t295]) [] (.inr rfl) ⟨⟨b5, 0, _, _, by kernel_rfl, by kernel_rfl, holds_box b5 25 [.int .i64 0, .int .i64 0, .int .i64 0, .int .i64 0, .int .i64 0, .int .i64 0, .int .i64 0, .int .i64 0, .int .i64 0, .int .i64 0, .int .i64 0, .int .i64 0], .inl ⟨tyAgg_25, tySize_25, rfl⟩⟩, by kernel_rfl, trivial⟩ (fun _ h => Heap.to (Heap.pick [] (by decide) h)) ⟨rfl, rfl⟩
              · refine J.cond_false h297 ?_
                refine J.skip ?_
                refine JQ.then_normal ?_
                refine JQ.sub [(2, .pointer (some ⟨b3, 0, none⟩)), (3, .pointer (some ⟨b4, 0, none⟩)), (4, .pointer (some ⟨b5, 0, none⟩)), (6, .pointer (some ⟨b13, 0, none⟩)), (7, .int .i64 x158), (10, .pointer (some ⟨b269, 0, none⟩)), (12, .pointer (some ⟨b290, 0, none⟩)), (24, .int .i64 x158)] ?_
                refine J.seq ?_
                refine J.region ?_
                refine JL.mv (.int .i64 x158) ?_
                refine JL.val (.agg #[.int .i64 x271.Re, .int .i64 x271.Im, .int .i64 x271.Den]) (some 64) (yields_load_boxes 4 0 [.int .i64 x271.Re, .int .i64 x271.Im, .int .i64 x271.Den] (holds_box b269 23 [.int .i64 x271.Re, .int .i64 x271.Im, .int .i64 x271.Den]) tyAgg_23 tySize_23) ?_
                refine JL.val (.agg #[.int .i64 y292.Re, .int .i64 y292.Im, .int .i64 y292.Den]) (some 65) (yields_load_boxes 5 0 [.int .i64 y292.Re, .int .i64 y292.Im, .int .i64 y292.Den] (holds_box b290 23 [.int .i64 y292.Re, .int .i64 y292.Im, .int .i64 y292.Den]) tyAgg_23 tySize_23) ?_
                obtain ⟨t298, hc299, H1⟩ := bind_some H1
                refine JL.call [] [] [] (cx_Add.ok x271 y292 _ hc299) trivial ?_
                rintro _ _ ⟨rfl, rfl⟩
                refine JL.mv (.tuple #[.agg #[.int .i64 t298.1.Re, .int .i64 t298.1.Im, .int .i64 t298.1.Den], .int .i64 t298.2]) ?_
                refine JL.pur (.agg #[.int .i64 t298.1.Re, .int .i64 t298.1.Im, .int .i64 t298.1.Den]) (some 67) ?_
                refine JL.pur (.int .i64 t298.2) (some 68) ?_
                obtain ⟨⟨h300, h301⟩, H1⟩ := ite_must H1
                refine JL.val (.pointer (some ⟨b13, 0 + x158.toNat * 3, none⟩)) (some 69) (gives_ixArrD (b := b13) (o := 0) (i := x158) 4 3 .i64 h300 h301 Try.underlying25 tySize_23) ?_
                obtain ⟨arr302, earr302, H1⟩ := lt_some H1
                refine JL.storeArr b13 0 0 3 25 fl_Cx ([out157.e0, out157.e1, out157.e2, out157.e3] : List Cx) x158 [.int .i64 out157.e0.Re, .int .i64 out157.e0.Im, .int .i64 out157.e0.Den, .int .i64 out157.e1.Re, .int .i64 out157.e1.Im, .int .i64 out157.e1.Den, .int .i64 out157.e2.Re, .int .i64 out157.e2.Im, .int .i64 out157.e2.Den, .int .i64 out157.e3.Re, .int .i64 out157.e3.Im, .int .i64 out157.e3.Den] [] [] t298.1 h300 h301 tySize_23 ?_
                rw [ofL4 fl_Cx (l := ([out157.e0, out157.e1, out157.e2, out157.e3] : List Cx).set x158.toNat t298.1) (by simp), earr302]
                refine JQ.turn (Δ' := [At.box b3 25 [.int .i64 a1.e0.Re, .int .i64 a1.e0.Im, .int .i64 a1.e0.Den, .int .i64 a1.e1.Re, .int .i64 a1.e1.Im, .int .i64 a1.e1.Den, .int .i64 a1.e2.Re, .int .i64 a1.e2.Im, .int .i64 a1.e2.Den, .int .i64 a1.e3.Re, .int .i64 a1.e3.Im, .int .i64 a1.e3.Den], At.box b4 25 [.int .i64 b2.e0.Re, .int .i64 b2.e0.Im, .int .i64 b2.e0.Den, .int .i64 b2.e1.Re, .int .i64 b2.e1.Im, .int .i64 b2.e1.Den, .int .i64 b2.e2.Re, .int .i64 b2.e2.Im, .int .i64 b2.e2.Den, .int .i64 b2.e3.Re, .int .i64 b2.e3.Im, .int .i64 b2.e3.Den], At.box b5 25 [.int .i64 0, .int .i64 0, .int .i64 0, .int .i64 0, .int .i64 0, .int .i64 0, .int .i64 0, .int .i64 0, .int .i64 0, .int .i64 0, .int .i64 0, .int .i64 0], At.box b13 25 [.int .i64 arr302.e0.Re, .int .i64 arr302.e0.Im, .int .i64 arr302.e0.Den, .int .i64 arr302.e1.Re, .int .i64 arr302.e1.Im, .int .i64 arr302.e1.Den, .int .i64 arr302.e2.Re, .int .i64 arr302.e2.Im, .int .i64 arr302.e2.Den, .int .i64 arr302.e3.Re, .int .i64 arr302.e3.Im, .int .i64 arr302.e3.Den], At.box b269 23 [.int .i64 x271.Re, .int .i64 x271.Im, .int .i64 x271.Den], At.box b290 23 [.int .i64 y292.Re, .int .i64 y292.Im, .int .i64 y292.Den]]) (fun _ h => h.to) ?_
                refine JL.as (.int .i64 t298.2) ?_
                refine JL.nil ?_
                refine JQ.then_normal ?_
                refine JQ.sub [(2, .pointer (some ⟨b3, 0, none⟩)), (3, .pointer (some ⟨b4, 0, none⟩)), (4, .pointer (some ⟨b5, 0, none⟩)), (6, .pointer (some ⟨b13, 0, none⟩)), (11, .int .i64 t298.2), (24, .int .i64 x158)] ?_
                refine JQ.mask [At.box b3 25 [.int .i64 a1.e0.Re, .int .i64 a1.e0.Im, .int .i64 a1.e0.Den, .int .i64 a1.e1.Re, .int .i64 a1.e1.Im, .int .i64 a1.e1.Den, .int .i64 a1.e2.Re, .int .i64 a1.e2.Im, .int .i64 a1.e2.Den, .int .i64 a1.e3.Re, .int .i64 a1.e3.Im, .int .i64 a1.e3.Den], At.box b4 25 [.int .i64 b2.e0.Re, .int .i64 b2.e0.Im, .int .i64 b2.e0.Den, .int .i64 b2.e1.Re, .int .i64 b2.e1.Im, .int .i64 b2.e1.Den, .int .i64 b2.e2.Re, .int .i64 b2.e2.Im, .int .i64 b2.e2.Den, .int .i64 b2.e3.Re, .int .i64 b2.e3.Im, .int .i64 b2.e3.Den], At.box b5 25 [.int .i64 0, .int .i64 0, .int .i64 0, .int .i64 0, .int .i64 0, .int .i64 0, .int .i64 0, .int .i64 0, .int .i64 0, .int .i64 0, .int .i64 0, .int .i64 0], At.box b13 25 [.int .i64 arr302.e0.Re, .int .i64 arr302.e0.Im, .int .i64 arr302.e0.Den, .int .i64 arr302.e1.Re, .int .i64 arr302.e1.Im, .int .i64 arr302.e1.Den, .int .i64 arr302.e2.Re, .int .i64 arr302.e2.Im, .int .i64 arr302.e2.Den, .int .i64 arr302.e3.Re, .int .i64 arr302.e3.Im, .int .i64 arr302.e3.Den]] [true, true, true, true, false, false] ?_
                refine J.seq ?_
                refine J.region ?_
                refine JL.mv (.int .i64 t298.2) ?_
                refine JL.pur (.bool (!decide (t298.2 = 0))) (some 71) ?_
                refine JL.nil ?_
                refine JQ.then_normal ?_
                refine JQ.sub [(2, .pointer (some ⟨b3, 0, none⟩)), (3, .pointer (some ⟨b4, 0, none⟩)), (4, .pointer (some ⟨b5, 0, none⟩)), (6, .pointer (some ⟨b13, 0, none⟩)), (11, .int .i64 t298.2), (24, .int .i64 x158), (71, .bool (!decide (t298.2 = 0)))] ?_
                rcases ite_cases H1 with ⟨h303, H1⟩ | ⟨h303, H1⟩
                · refine J.cond_true h303 ?_
                  refine J.seq ?_
                  refine J.region ?_
                  refine JL.pur (.agg #[.int .i64 0, .int .i64 0, .int .i64 0, .int .i64 0, .int .i64 0, .int .i64 0, .int .i64 0, .int .i64 0, .int .i64 0, .int .i64 0, .int .i64 0, .int .i64 0]) (some 72) ?_
                  refine JL.mv (.int .i64 t298.2) ?_
                  refine JL.store 2 b5 0 25 [.int .i64 0, .int .i64 0, .int .i64 0, .int .i64 0, .int .i64 0, .int .i64 0, .int .i64 0, .int .i64 0, .int .i64 0, .int .i64 0, .int .i64 0, .int .i64 0] [.int .i64 0, .int .i64 0, .int .i64 0, .int .i64 0, .int .i64 0, .int .i64 0, .int .i64 0, .int .i64 0, .int .i64 0, .int .i64 0, .int .i64 0, .int .i64 0] tySize_25 ?_
                  refine JL.as (.int .i64 t298.2) ?_
                  refine JL.nil ?_
                  refine JQ.then_normal ?_
                  refine JQ.sub [(4, .pointer (some ⟨b5, 0, none⟩)), (5, .int .i64 t298.2)] ?_
                  refine JQ.mask [At.box b5 25 [.int .i64 0, .int .i64 0, .int .i64 0, .int .i64 0, .int .i64 0, .int .i64 0, .int .i64 0, .int .i64 0, .int .i64 0, .int .i64 0, .int .i64 0, .int .i64 0]] [false, false, true, false] ?_
                  refine J.ret ?_
                  refine JQ.blk_ret ?_
                  refine JQ.then_ret ?_
                  refine JQ.then_ret ?_
                  refine JQ.blk_ret ?_
                  refine JQ.met_ret ?_
                  refine JQ.then_ret ?_
                  rw [hr1 _ (Option.some.inj H1).symm, fin_ret] at H0
                  obtain rfl := Option.some.inj H0
                  exact JQ.done' (rs := [.cell 4 25, .tmp 5]) (vs := [.agg #[.int .i64 0, .int .i64 0, .int .i64 0, .int .i64 0, .int .i64 0, .int .i64 0, .int .i64 0, .int .i64 0, .int .i64 0, .int .i64 0, .int .i64 0, .int .i64 0], .int .i64 t298.2]) [] (.inr rfl) ⟨⟨b5, 0, _, _, by kernel_rfl, by kernel_rfl, holds_box b5 25 [.int .i64 0, .int .i64 0, .int .i64 0, .int .i64 0, .int .i64 0, .int .i64 0, .int .i64 0, .int .i64 0, .int .i64 0, .int .i64 0, .int .i64 0, .int .i64 0], .inl ⟨tyAgg_25, tySize_25, rfl⟩⟩, by kernel_rfl, trivial⟩ (fun _ h => Heap.to (Heap.pick [] (by decide) h)) ⟨rfl, rfl⟩
                · refine J.cond_false h303 ?_
                  refine J.skip ?_
                  refine JQ.blk_normal ?_
                  refine JQ.then_normal ?_
                  refine JQ.sub [(2, .pointer (some ⟨b3, 0, none⟩)), (3, .pointer (some ⟨b4, 0, none⟩)), (4, .pointer (some ⟨b5, 0, none⟩)), (6, .pointer (some ⟨b13, 0, none⟩)), (24, .int .i64 x158)] ?_
                  refine J.region ?_
                  refine JL.pur (.int .i64 (w64 (x158 + 1))) (some 74) ?_
                  refine JL.mv (.int .i64 (w64 (x158 + 1))) ?_
                  refine JL.nil ?_
                  refine JQ.then_normal ?_
                  exact JQ.again (arr302, w64 (x158 + 1)) () (Option.some.inj H1).symm (fun _ h => Heap.to h)
        · refine J.cond_false h249 ?_
          refine J.exit ?_
          refine JQ.then_exit ?_
          refine JQ.then_exit ?_
          refine JQ.blk_exit ?_
          rw [hb1 _ (Option.some.inj H1).symm, fin_brk] at H0
          exact JQ.met out157 () H0 (fun _ h => Heap.to (Heap.pick [2, 3] (by decide) h))
      · clear hit H0
        rintro out248 ⟨⟩ H0
        replace H0 : jones_Mul.k9 out248 = some r := H0
        unfold jones_Mul.k9 at H0
        refine JQ.sub [(4, .pointer (some ⟨b5, 0, none⟩)), (6, .pointer (some ⟨b13, 0, none⟩))] ?_
        refine JQ.turn (Δ' := [At.box b5 25 [.int .i64 0, .int .i64 0, .int .i64 0, .int .i64 0, .int .i64 0, .int .i64 0, .int .i64 0, .int .i64 0, .int .i64 0, .int .i64 0, .int .i64 0, .int .i64 0], At.box b13 25 [.int .i64 out248.e0.Re, .int .i64 out248.e0.Im, .int .i64 out248.e0.Den, .int .i64 out248.e1.Re, .int .i64 out248.e1.Im, .int .i64 out248.e1.Den, .int .i64 out248.e2.Re, .int .i64 out248.e2.Im, .int .i64 out248.e2.Den, .int .i64 out248.e3.Re, .int .i64 out248.e3.Im, .int .i64 out248.e3.Den]]) (fun _ h => h.to) ?_
        refine JQ.then_normal ?_
        refine J.seq ?_
        refine J.region ?_
        refine JL.val (.agg #[.int .i64 out248.e0.Re, .int .i64 out248.e0.Im, .int .i64 out248.e0.Den, .int .i64 out248.e1.Re, .int .i64 out248.e1.Im, .int .i64 out248.e1.Den, .int .i64 out248.e2.Re, .int .i64 out248.e2.Im, .int .i64 out248.e2.Den, .int .i64 out248.e3.Re, .int .i64 out248.e3.Im, .int .i64 out248.e3.Den]) (some 75) (yields_load_boxes 1 0 [.int .i64 out248.e0.Re, .int .i64 out248.e0.Im, .int .i64 out248.e0.Den, .int .i64 out248.e1.Re, .int .i64 out248.e1.Im, .int .i64 out248.e1.Den, .int .i64 out248.e2.Re, .int .i64 out248.e2.Im, .int .i64 out248.e2.Den, .int .i64 out248.e3.Re, .int .i64 out248.e3.Im, .int .i64 out248.e3.Den] (holds_box b13 25 [.int .i64 out248.e0.Re, .int .i64 out248.e0.Im, .int .i64 out248.e0.Den, .int .i64 out248.e1.Re, .int .i64 out248.e1.Im, .int .i64 out248.e1.Den, .int .i64 out248.e2.Re, .int .i64 out248.e2.Im, .int .i64 out248.e2.Den, .int .i64 out248.e3.Re, .int .i64 out248.e3.Im, .int .i64 out248.e3.Den]) tyAgg_25 tySize_25) ?_
        refine JL.store 0 b5 0 25 [.int .i64 0, .int .i64 0, .int .i64 0, .int .i64 0, .int .i64 0, .int .i64 0, .int .i64 0, .int .i64 0, .int .i64 0, .int .i64 0, .int .i64 0, .int .i64 0] [.int .i64 out248.e0.Re, .int .i64 out248.e0.Im, .int .i64 out248.e0.Den, .int .i64 out248.e1.Re, .int .i64 out248.e1.Im, .int .i64 out248.e1.Den, .int .i64 out248.e2.Re, .int .i64 out248.e2.Im, .int .i64 out248.e2.Den, .int .i64 out248.e3.Re, .int .i64 out248.e3.Im, .int .i64 out248.e3.Den] tySize_25 ?_
        refine JL.as (.int .i64 0) ?_
        refine JL.nil ?_
        refine JQ.then_normal ?_
        refine JQ.sub [(4, .pointer (some ⟨b5, 0, none⟩)), (5, .int .i64 0)] ?_
        refine JQ.mask [At.box b5 25 [.int .i64 out248.e0.Re, .int .i64 out248.e0.Im, .int .i64 out248.e0.Den, .int .i64 out248.e1.Re, .int .i64 out248.e1.Im, .int .i64 out248.e1.Den, .int .i64 out248.e2.Re, .int .i64 out248.e2.Im, .int .i64 out248.e2.Den, .int .i64 out248.e3.Re, .int .i64 out248.e3.Im, .int .i64 out248.e3.Den]] [true, false] ?_
        refine J.ret ?_
        obtain rfl := Option.some.inj H0
        exact JQ.done' (rs := [.cell 4 25, .tmp 5]) (vs := [.agg #[.int .i64 out248.e0.Re, .int .i64 out248.e0.Im, .int .i64 out248.e0.Den, .int .i64 out248.e1.Re, .int .i64 out248.e1.Im, .int .i64 out248.e1.Den, .int .i64 out248.e2.Re, .int .i64 out248.e2.Im, .int .i64 out248.e2.Den, .int .i64 out248.e3.Re, .int .i64 out248.e3.Im, .int .i64 out248.e3.Den], .int .i64 0]) [] (.inr rfl) ⟨⟨b5, 0, _, _, by kernel_rfl, by kernel_rfl, holds_box b5 25 [.int .i64 out248.e0.Re, .int .i64 out248.e0.Im, .int .i64 out248.e0.Den, .int .i64 out248.e1.Re, .int .i64 out248.e1.Im, .int .i64 out248.e1.Den, .int .i64 out248.e2.Re, .int .i64 out248.e2.Im, .int .i64 out248.e2.Den, .int .i64 out248.e3.Re, .int .i64 out248.e3.Im, .int .i64 out248.e3.Den], .inl ⟨tyAgg_25, tySize_25, rfl⟩⟩, by kernel_rfl, trivial⟩ (fun _ h => Heap.to (Heap.pick [] (by decide) h)) ⟨rfl, rfl⟩

theorem jones_product.ok (l1 : (List (A4 Cx))) (A2 : Option Addr) (c3 : Nat) (r : ((A4 Cx) × Int)) (H0 : jones_product.f l1 = some r) :
    Does Try.prog 52 [.slice A2 l1.length c3].toArray [At.rd A2 c3 ((flArr4 fl_Cx).kd) l1 true] [] false (fun v Δ => v = .tuple #[.agg #[.int .i64 r.1.e0.Re, .int .i64 r.1.e0.Im, .int .i64 r.1.e0.Den, .int .i64 r.1.e1.Re, .int .i64 r.1.e1.Im, .int .i64 r.1.e1.Den, .int .i64 r.1.e2.Re, .int .i64 r.1.e2.Im, .int .i64 r.1.e2.Den, .int .i64 r.1.e3.Re, .int .i64 r.1.e3.Im, .int .i64 r.1.e3.Den], .int .i64 r.2] ∧ Δ = []) := by
  refine Does.body (vs := [.slice A2 l1.length c3]) Try.func52 rfl ⟨.inl rfl, trivial⟩ trivial fun w S => ?_
  unfold jones_product.f at H0
  refine J.seq ?_
  refine J.region ?_
  refine JL.alloc [.int .i64 0, .int .i64 0, .int .i64 0, .int .i64 0, .int .i64 0, .int .i64 0, .int .i64 0, .int .i64 0, .int .i64 0, .int .i64 0, .int .i64 0, .int .i64 0] fun b5 => ?_
  refine JL.as (.int .i64 0) ?_
  refine JL.nil ?_
  refine JQ.then_normal ?_
  refine JQ.sub [(0, .slice A2 l1.length c3), (2, .pointer (some ⟨b5, 0, none⟩))] ?_
  refine J.seq ?_
  refine J.region ?_
  refine JL.mv (.slice A2 l1.length c3) ?_
  obtain ⟨⟨h6, h7⟩, H0⟩ := ite_must H0
  refine JL.ixAddr 0 12 c3 .i64 (elems_rd A2 c3 ((flArr4 fl_Cx).kd) l1 true) Try.underlying38 tySize_25 h6 h7 fun g8 o9 hA => ?_
  subst hA
  refine JL.val (.agg #[.int .i64 ((ix l1 0).e0.Re), .int .i64 ((ix l1 0).e0.Im), .int .i64 ((ix l1 0).e0.Den), .int .i64 ((ix l1 0).e1.Re), .int .i64 ((ix l1 0).e1.Im), .int .i64 ((ix l1 0).e1.Den), .int .i64 ((ix l1 0).e2.Re), .int .i64 ((ix l1 0).e2.Im), .int .i64 ((ix l1 0).e2.Den), .int .i64 ((ix l1 0).e3.Re), .int .i64 ((ix l1 0).e3.Im), .int .i64 ((ix l1 0).e3.Den)]) (some 10) (gives_loadEl (f := (flArr4 fl_Cx)) 0 0 0 (elems_rd (some ⟨g8, o9, none⟩) c3 ((flArr4 fl_Cx).kd) l1 true) h6 h7 tySize_25 (.inl ⟨tyAgg_25, rfl⟩)) ?_
  refine JL.alloc [.int .i64 0, .int .i64 0, .int .i64 0, .int .i64 0, .int .i64 0, .int .i64 0, .int .i64 0, .int .i64 0, .int .i64 0, .int .i64 0, .int .i64 0, .int .i64 0] fun b10 => ?_
  refine JL.store 2 b10 0 25 [.int .i64 0, .int .i64 0, .int .i64 0, .int .i64 0, .int .i64 0, .int .i64 0, .int .i64 0, .int .i64 0, .int .i64 0, .int .i64 0, .int .i64 0, .int .i64 0] [.int .i64 ((ix l1 0).e0.Re), .int .i64 ((ix l1 0).e0.Im), .int .i64 ((ix l1 0).e0.Den), .int .i64 ((ix l1 0).e1.Re), .int .i64 ((ix l1 0).e1.Im), .int .i64 ((ix l1 0).e1.Den), .int .i64 ((ix l1 0).e2.Re), .int .i64 ((ix l1 0).e2.Im), .int .i64 ((ix l1 0).e2.Den), .int .i64 ((ix l1 0).e3.Re), .int .i64 ((ix l1 0).e3.Im), .int .i64 ((ix l1 0).e3.Den)] tySize_25 ?_
  refine JL.nil ?_
  refine JQ.then_normal ?_
  refine JQ.sub [(0, .slice (some ⟨g8, o9, none⟩) l1.length c3), (2, .pointer (some ⟨b5, 0, none⟩)), (4, .pointer (some ⟨b10, 0, none⟩))] ?_
  refine J.seq ?_
  refine J.seq ?_
  refine J.region ?_
  refine JL.mv (.slice (some ⟨g8, o9, none⟩) l1.length c3) ?_
  obtain ⟨⟨h15, h16⟩, H0⟩ := ite_must H0
  refine JQ.capLe 0 (some ⟨g8, o9, none⟩) c3 ((flArr4 fl_Cx).kd) l1 true fun h14 => ?_
  refine JL.cut ((1 : Int).toNat) l1.length c3 0 (some ⟨g8, o9, none⟩) c3 ((flArr4 fl_Cx).kd) l1 true Try.underlying38 tySize_25 (.inl ⟨rfl, rfl⟩) (.inl ⟨rfl, rfl⟩) (.inr ⟨.i64, 1, by kernel_rfl, h15, rfl⟩) (.inl rfl) (by omega) (by omega) (by omega) (.inl (by omega)) fun A11 c12 => ?_
  refine JL.pur (.int .i64 (((l1.take l1.length).drop ((1 : Int).toNat)).length : Int)) (some 13) ?_
  refine JL.mv (.int .i64 0) ?_
  refine JL.nil ?_
  refine JQ.then_normal ?_
  refine JQ.sub [(2, .pointer (some ⟨b5, 0, none⟩)), (4, .pointer (some ⟨b10, 0, none⟩)), (12, .slice A11 ((l1.take l1.length).drop ((1 : Int).toNat)).length c12), (13, .int .i64 (((l1.take l1.length).drop ((1 : Int).toNat)).length : Int)), (14, .int .i64 0)] ?_
  refine JQ.mask [At.box b5 25 [.int .i64 0, .int .i64 0, .int .i64 0, .int .i64 0, .int .i64 0, .int .i64 0, .int .i64 0, .int .i64 0, .int .i64 0, .int .i64 0, .int .i64 0, .int .i64 0], At.box b10 25 [.int .i64 ((ix l1 0).e0.Re), .int .i64 ((ix l1 0).e0.Im), .int .i64 ((ix l1 0).e0.Den), .int .i64 ((ix l1 0).e1.Re), .int .i64 ((ix l1 0).e1.Im), .int .i64 ((ix l1 0).e1.Den), .int .i64 ((ix l1 0).e2.Re), .int .i64 ((ix l1 0).e2.Im), .int .i64 ((ix l1 0).e2.Den), .int .i64 ((ix l1 0).e3.Re), .int .i64 ((ix l1 0).e3.Im), .int .i64 ((ix l1 0).e3.Den)], At.rd A11 c12 ((flArr4 fl_Cx).kd) ((l1.take l1.length).drop ((1 : Int).toNat)) true] [false, true, true, true] ?_
  obtain ⟨o1, hit, H0⟩ := bind_some H0
  refine J.loop (σ := ((A4 Cx) × Int)) (τ := (A4 Cx)) (G := Unit) (G' := Unit) _ o1 (fun s g => [(2, .pointer (some ⟨b5, 0, none⟩)), (4, .pointer (some ⟨b10, 0, none⟩)), (12, .slice A11 ((l1.take l1.length).drop ((1 : Int).toNat)).length c12), (13, .int .i64 (((l1.take l1.length).drop ((1 : Int).toNat)).length : Int)), (14, .int .i64 s.2)]) (fun s g => [At.box b5 25 [.int .i64 0, .int .i64 0, .int .i64 0, .int .i64 0, .int .i64 0, .int .i64 0, .int .i64 0, .int .i64 0, .int .i64 0, .int .i64 0, .int .i64 0, .int .i64 0], At.box b10 25 [.int .i64 s.1.e0.Re, .int .i64 s.1.e0.Im, .int .i64 s.1.e0.Den, .int .i64 s.1.e1.Re, .int .i64 s.1.e1.Im, .int .i64 s.1.e1.Den, .int .i64 s.1.e2.Re, .int .i64 s.1.e2.Im, .int .i64 s.1.e2.Den, .int .i64 s.1.e3.Re, .int .i64 s.1.e3.Im, .int .i64 s.1.e3.Den], At.rd A11 c12 ((flArr4 fl_Cx).kd) ((l1.take l1.length).drop ((1 : Int).toNat)) true]) (fun t => jones_product.k2 t = some r) (fun t g => [(2, .pointer (some ⟨b5, 0, none⟩)), (4, .pointer (some ⟨b10, 0, none⟩))]) (fun t g => [At.box b5 25 [.int .i64 0, .int .i64 0, .int .i64 0, .int .i64 0, .int .i64 0, .int .i64 0, .int .i64 0, .int .i64 0, .int .i64 0, .int .i64 0, .int .i64 0, .int .i64 0], At.box b10 25 [.int .i64 t.e0.Re, .int .i64 t.e0.Im, .int .i64 t.e0.Den, .int .i64 t.e1.Re, .int .i64 t.e1.Im, .int .i64 t.e1.Den, .int .i64 t.e2.Re, .int .i64 t.e2.Im, .int .i64 t.e2.Den, .int .i64 t.e3.Re, .int .i64 t.e3.Im, .int .i64 t.e3.Den]]) ((ix l1 0), 0) () hit (fun _ h => Heap.to h) ?_ ?_
  · clear hit
    rintro ⟨out39, x40⟩ ⟨⟩ st1 H1 hb1 hr1
    replace H1 : jones_product.s1 l1 out39 x40 = some st1 := H1
    unfold jones_product.s1 at H1
    refine JQ.sub [(2, .pointer (some ⟨b5, 0, none⟩)), (4, .pointer (some ⟨b10, 0, none⟩)), (12, .slice A11 ((l1.take l1.length).drop ((1 : Int).toNat)).length c12), (13, .int .i64 (((l1.take l1.length).drop ((1 : Int).toNat)).length : Int)), (14, .int .i64 x40)] ?_
    refine JQ.turn (Δ' := [At.box b5 25 [.int .i64 0, .int .i64 0, .int .i64 0, .int .i64 0, .int .i64 0, .int .i64 0, .int .i64 0, .int .i64 0, .int .i64 0, .int .i64 0, .int .i64 0, .int .i64 0], At.box b10 25 [.int .i64 out39.e0.Re, .int .i64 out39.e0.Im, .int .i64 out39.e0.Den, .int .i64 out39.e1.Re, .int .i64 out39.e1.Im, .int .i64 out39.e1.Den, .int .i64 out39.e2.Re, .int .i64 out39.e2.Im, .int .i64 out39.e2.Den, .int .i64 out39.e3.Re, .int .i64 out39.e3.Im, .int .i64 out39.e3.Den], At.rd A11 c12 ((flArr4 fl_Cx).kd) ((l1.take l1.length).drop ((1 : Int).toNat)) true]) (fun _ h => h.to) ?_
    refine J.seq ?_
    refine J.region ?_
    refine JL.pur (.bool (decide (x40 < (((l1.take l1.length).drop ((1 : Int).toNat)).length : Int)))) (some 15) ?_
    refine JL.nil ?_
    refine JQ.then_normal ?_
    refine J.seq ?_
    rcases ite_cases H1 with ⟨h51, H1⟩ | ⟨h51, H1⟩
    · refine J.cond_true h51 ?_
      refine J.skip ?_
      refine JQ.then_normal ?_
      refine JQ.sub [(2, .pointer (some ⟨b5, 0, none⟩)), (4, .pointer (some ⟨b10, 0, none⟩)), (12, .slice A11 ((l1.take l1.length).drop ((1 : Int).toNat)).length c12), (13, .int .i64 (((l1.take l1.length).drop ((1 : Int).toNat)).length : Int)), (14, .int .i64 x40)] ?_
      refine J.seq ?_
      refine J.block ?_
      refine J.seq ?_
      refine J.region ?_
      obtain ⟨⟨h52, h53⟩, H1⟩ := ite_must H1
      refine JL.ixAddr 2 12 c12 .i64 (elems_rd A11 c12 ((flArr4 fl_Cx).kd) ((l1.take l1.length).drop ((1 : Int).toNat)) true) Try.underlying38 tySize_25 h52 h53 fun g54 o55 hA => ?_
      subst hA
      refine JL.val (.agg #[.int .i64 ((ix ((l1.take l1.length).drop ((1 : Int).toNat)) x40).e0.Re), .int .i64 ((ix ((l1.take l1.length).drop ((1 : Int).toNat)) x40).e0.Im), .int .i64 ((ix ((l1.take l1.length).drop ((1 : Int).toNat)) x40).e0.Den), .int .i64 ((ix ((l1.take l1.length).drop ((1 : Int).toNat)) x40).e1.Re), .int .i64 ((ix ((l1.take l1.length).drop ((1 : Int).toNat)) x40).e1.Im), .int .i64 ((ix ((l1.take l1.length).drop ((1 : Int).toNat)) x40).e1.Den), .int .i64 ((ix ((l1.take l1.length).drop ((1 : Int).toNat)) x40).e2.Re), .int .i64 ((ix ((l1.take l1.length).drop ((1 : Int).toNat)) x40).e2.Im), .int .i64 ((ix ((l1.take l1.length).drop ((1 : Int).toNat)) x40).e2.Den), .int .i64 ((ix ((l1.take l1.length).drop ((1 : Int).toNat)) x40).e3.Re), .int .i64 ((ix ((l1.take l1.length).drop ((1 : Int).toNat)) x40).e3.Im), .int .i64 ((ix ((l1.take l1.length).drop ((1 : Int).toNat)) x40).e3.Den)]) (some 17) (gives_loadEl (f := (flArr4 fl_Cx)) 2 0 x40 (elems_rd (some ⟨g54, o55, none⟩) c12 ((flArr4 fl_Cx).kd) ((l1.take l1.length).drop ((1 : Int).toNat)) true) h52 h53 tySize_25 (.inl ⟨tyAgg_25, rfl⟩)) ?_
      refine JL.alloc [.int .i64 0, .int .i64 0, .int .i64 0, .int .i64 0, .int .i64 0, .int .i64 0, .int .i64 0, .int .i64 0, .int .i64 0, .int .i64 0, .int .i64 0, .int .i64 0] fun b56 => ?_
      refine JL.store 3 b56 0 25 [.int .i64 0, .int .i64 0, .int .i64 0, .int .i64 0, .int .i64 0, .int .i64 0, .int .i64 0, .int .i64 0, .int .i64 0, .int .i64 0, .int .i64 0, .int .i64 0] [.int .i64 ((ix ((l1.take l1.length).drop ((1 : Int).toNat)) x40).e0.Re), .int .i64 ((ix ((l1.take l1.length).drop ((1 : Int).toNat)) x40).e0.Im), .int .i64 ((ix ((l1.take l1.length).drop ((1 : Int).toNat)) x40).e0.Den), .int .i64 ((ix ((l1.take l1.length).drop ((1 : Int).toNat)) x40).e1.Re), .int .i64 ((ix ((l1.take l1.length).drop ((1 : Int).toNat)) x40).e1.Im), .int .i64 ((ix ((l1.take l1.length).drop ((1 : Int).toNat)) x40).e1.Den), .int .i64 ((ix ((l1.take l1.length).drop ((1 : Int).toNat)) x40).e2.Re), .int .i64 ((ix ((l1.take l1.length).drop ((1 : Int).toNat)) x40).e2.Im), .int .i64 ((ix ((l1.take l1.length).drop ((1 : Int).toNat)) x40).e2.Den), .int .i64 ((ix ((l1.take l1.length).drop ((1 : Int).toNat)) x40).e3.Re), .int .i64 ((ix ((l1.take l1.length).drop ((1 : Int).toNat)) x40).e3.Im), .int .i64 ((ix ((l1.take l1.length).drop ((1 : Int).toNat)) x40).e3.Den)] tySize_25 ?_
      refine JL.nil ?_
      refine JQ.then_normal ?_
      refine JQ.sub [(2, .pointer (some ⟨b5, 0, none⟩)), (4, .pointer (some ⟨b10, 0, none⟩)), (6, .pointer (some ⟨b56, 0, none⟩)), (12, .slice (some ⟨g54, o55, none⟩) ((l1.take l1.length).drop ((1 : Int).toNat)).length c12), (13, .int .i64 (((l1.take l1.length).drop ((1 : Int).toNat)).length : Int)), (14, .int .i64 x40)] ?_
      refine J.seq ?_
      refine J.region ?_
      refine JL.as (.int .i64 0) ?_
      refine JL.nil ?_
      refine JQ.then_normal ?_
      refine JQ.sub [(2, .pointer (some ⟨b5, 0, none⟩)), (4, .pointer (some ⟨b10, 0, none⟩)), (6, .pointer (some ⟨b56, 0, none⟩)), (12, .slice (some ⟨g54, o55, none⟩) ((l1.take l1.length).drop ((1 : Int).toNat)).length c12), (13, .int .i64 (((l1.take l1.length).drop ((1 : Int).toNat)).length : Int)), (14, .int .i64 x40)] ?_
      refine J.seq ?_
      refine J.region ?_
      refine JL.val (.agg #[.int .i64 out39.e0.Re, .int .i64 out39.e0.Im, .int .i64 out39.e0.Den, .int .i64 out39.e1.Re, .int .i64 out39.e1.Im, .int .i64 out39.e1.Den, .int .i64 out39.e2.Re, .int .i64 out39.e2.Im, .int .i64 out39.e2.Den, .int .i64 out39.e3.Re, .int .i64 out39.e3.Im, .int .i64 out39.e3.Den]) (some 19) (yields_load_boxes 1 0 [.int .i64 out39.e0.Re, .int .i64 out39.e0.Im, .int .i64 out39.e0.Den, .int .i64 out39.e1.Re, .int .i64 out39.e1.Im, .int .i64 out39.e1.Den, .int .i64 out39.e2.Re, .int .i64 out39.e2.Im, .int .i64 out39.e2.Den, .int .i64 out39.e3.Re, .int .i64 out39.e3.Im, .int .i64 out39.e3.Den] (holds_box b10 25 [.int .i64 out39.e0.Re, .int .i64 out39.e0.Im, .int .i64 out39.e0.Den, .int .i64 out39.e1.Re, .int .i64 out39.e1.Im, .int .i64 out39.e1.Den, .int .i64 out39.e2.Re, .int .i64 out39.e2.Im, .int .i64 out39.e2.Den, .int .i64 out39.e3.Re, .int .i64 out39.e3.Im, .int .i64 out39.e3.Den]) tyAgg_25 tySize_25) ?_
      refine JL.val (.agg #[.int .i64 ((ix ((l1.take l1.length).drop ((1 : Int).toNat)) x40).e0.Re), .int .i64 ((ix ((l1.take l1.length).drop ((1 : Int).toNat)) x40).e0.Im), .int .i64 ((ix ((l1.take l1.length).drop ((1 : Int).toNat)) x40).e0.Den), .int .i64 ((ix ((l1.take l1.length).drop ((1 : Int).toNat)) x40).e1.Re), .int .i64 ((ix ((l1.take l1.length).drop ((1 : Int).toNat)) x40).e1.Im), .int .i64 ((ix ((l1.take l1.length).drop ((1 : Int).toNat)) x40).e1.Den), .int .i64 ((ix ((l1.take l1.length).drop ((1 : Int).toNat)) x40).e2.Re), .int .i64 ((ix ((l1.take l1.length).drop ((1 : Int).toNat)) x40).e2.Im), .int .i64 ((ix ((l1.take l1.length).drop ((1 : Int).toNat)) x40).e2.Den), .int .i64 ((ix ((l1.take l1.length).drop ((1 : Int).toNat)) x40).e3.Re), .int .i64 ((ix ((l1.take l1.length).drop ((1 : Int).toNat)) x40).e3.Im), .int .i64 ((ix ((l1.take l1.length).drop ((1 : Int).toNat)) x40).e3.Den)]) (some 20) (yields_load_boxes 3 0 [.int .i64 ((ix ((l1.take l1.length).drop ((1 : Int).toNat)) x40).e0.Re), .int .i64 ((ix ((l1.take l1.length).drop ((1 : Int).toNat)) x40).e0.Im), .int .i64 ((ix ((l1.take l1.length).drop ((1 : Int).toNat)) x40).e0.Den), .int .i64 ((ix ((l1.take l1.length).drop ((1 : Int).toNat)) x40).e1.Re), .int .i64 ((ix ((l1.take l1.length).drop ((1 : Int).toNat)) x40).e1.Im), .int .i64 ((ix ((l1.take l1.length).drop ((1 : Int).toNat)) x40).e1.Den), .int .i64 ((ix ((l1.take l1.length).drop ((1 : Int).toNat)) x40).e2.Re), .int .i64 ((ix ((l1.take l1.length).drop ((1 : Int).toNat)) x40).e2.Im), .int .i64 ((ix ((l1.take l1.length).drop ((1 : Int).toNat)) x40).e2.Den), .int .i64 ((ix ((l1.take l1.length).drop ((1 : Int).toNat)) x40).e3.Re), .int .i64 ((ix ((l1.take l1.length).drop ((1 : Int).toNat)) x40).e3.Im), .int .i64 ((ix ((l1.take l1.length).drop ((1 : Int).toNat)) x40).e3.Den)] (holds_box b56 25 [.int .i64 ((ix ((l1.take l1.length).drop ((1 : Int).toNat)) x40).e0.Re), .int .i64 ((ix ((l1.take l1.length).drop ((1 : Int).toNat)) x40).e0.Im), .int .i64 ((ix ((l1.take l1.length).drop ((1 : Int).toNat)) x40).e0.Den), .int .i64 ((ix ((l1.take l1.length).drop ((1 : Int).toNat)) x40).e1.Re), .int .i64 ((ix ((l1.take l1.length).drop ((1 : Int).toNat)) x40).e1.Im), .int .i64 ((ix ((l1.take l1.length).drop ((1 : Int).toNat)) x40).e1.Den), .int .i64 ((ix ((l1.take l1.length).drop ((1 : Int).toNat)) x40).e2.Re), .int .i64 ((ix ((l1.take l1.length).drop ((1 : Int).toNat)) x40).e2.Im), .int .i64 ((ix ((l1.take l1.length).drop ((1 : Int).toNat)) x40).e2.Den), .int .i64 ((ix ((l1.take l1.length).drop ((1 : Int).toNat)) x40).e3.Re), .int .i64 ((ix ((l1.take l1.length).drop ((1 : Int).toNat)) x40).e3.Im), .int .i64 ((ix ((l1.take l1.length).drop ((1 : Int).toNat)) x40).e3.Den)]) tyAgg_25 tySize_25) ?_
      obtain ⟨t57, hc58, H1⟩ := bind_some H1
      refine JL.call [] [] [] (jones_Mul.ok out39 (ix ((l1.take l1.length).drop ((1 : Int).toNat)) x40) _ hc58) trivial ?_
      rintro _ _ ⟨rfl, rfl⟩
      refine JL.mv (.tuple #[.agg #[.int .i64 t57.1.e0.Re, .int .i64 t57.1.e0.Im, .int .i64 t57.1.e0.Den, .int .i64 t57.1.e1.Re, .int .i64 t57.1.e1.Im, .int .i64 t57.1.e1.Den, .int .i64 t57.1.e2.Re, .int .i64 t57.1.e2.Im, .int .i64 t57.1.e2.Den, .int .i64 t57.1.e3.Re, .int .i64 t57.1.e3.Im, .int .i64 t57.1.e3.Den], .int .i64 t57.2]) ?_
      refine JL.pur (.agg #[.int .i64 t57.1.e0.Re, .int .i64 t57.1.e0.Im, .int .i64 t57.1.e0.Den, .int .i64 t57.1.e1.Re, .int .i64 t57.1.e1.Im, .int .i64 t57.1.e1.Den, .int .i64 t57.1.e2.Re, .int .i64 t57.1.e2.Im, .int .i64 t57.1.e2.Den, .int .i64 t57.1.e3.Re, .int .i64 t57.1.e3.Im, .int .i64 t57.1.e3.Den]) (some 22) ?_
      refine JL.pur (.int .i64 t57.2) (some 23) ?_
      refine JL.store 1 b10 0 25 [.int .i64 out39.e0.Re, .int .i64 out39.e0.Im, .int .i64 out39.e0.Den, .int .i64 out39.e1.Re, .int .i64 out39.e1.Im, .int .i64 out39.e1.Den, .int .i64 out39.e2.Re, .int .i64 out39.e2.Im, .int .i64 out39.e2.Den, .int .i64 out39.e3.Re, .int .i64 out39.e3.Im, .int .i64 out39.e3.Den] [.int .i64 t57.1.e0.Re, .int .i64 t57.1.e0.Im, .int .i64 t57.1.e0.Den, .int .i64 t57.1.e1.Re, .int .i64 t57.1.e1.Im, .int .i64 t57.1.e1.Den, .int .i64 t57.1.e2.Re, .int .i64 t57.1.e2.Im, .int .i64 t57.1.e2.Den, .int .i64 t57.1.e3.Re, .int .i64 t57.1.e3.Im, .int .i64 t57.1.e3.Den] tySize_25 ?_
      refine JL.as (.int .i64 t57.2) ?_
      refine JL.nil ?_
      refine JQ.then_normal ?_
      refine JQ.sub [(2, .pointer (some ⟨b5, 0, none⟩)), (4, .pointer (some ⟨b10, 0, none⟩)), (7, .int .i64 t57.2), (12, .slice (some ⟨g54, o55, none⟩) ((l1.take l1.length).drop ((1 : Int).toNat)).length c12), (13, .int .i64 (((l1.take l1.length).drop ((1 : Int).toNat)).length : Int)), (14, .int .i64 x40)] ?_
      refine JQ.mask [At.box b5 25 [.int .i64 0, .int .i64 0, .int .i64 0, .int .i64 0, .int .i64 0, .int .i64 0, .int .i64 0, .int .i64 0, .int .i64 0, .int .i64 0, .int .i64 0, .int .i64 0], At.box b10 25 [.int .i64 t57.1.e0.Re, .int .i64 t57.1.e0.Im, .int .i64 t57.1.e0.Den, .int .i64 t57.1.e1.Re, .int .i64 t57.1.e1.Im, .int .i64 t57.1.e1.Den, .int .i64 t57.1.e2.Re, .int .i64 t57.1.e2.Im, .int .i64 t57.1.e2.Den, .int .i64 t57.1.e3.Re, .int .i64 t57.1.e3.Im, .int .i64 t57.1.e3.Den], At.rd (some ⟨g54, o55, none⟩) c12 ((flArr4 fl_Cx).kd) ((l1.take l1.length).drop ((1 : Int).toNat)) true] [true, true, true, false] ?_
      refine J.seq ?_
      refine J.region ?_
      refine JL.mv (.int .i64 t57.2) ?_
      refine JL.pur (.bool (!decide (t57.2 = 0))) (some 25) ?_
      refine JL.nil ?_
      refine JQ.then_normal ?_
      refine JQ.sub [(2, .pointer (some ⟨b5, 0, none⟩)), (4, .pointer (some ⟨b10, 0, none⟩)), (7, .int .i64 t57.2), (12, .slice (some ⟨g54, o55, none⟩) ((l1.take l1.length).drop ((1 : Int).toNat)).length c12), (13, .int .i64 (((l1.take l1.length).drop ((1 : Int).toNat)).length : Int)), (14, .int .i64 x40), (25, .bool (!decide (t57.2 = 0)))] ?_
      rcases ite_cases H1 with ⟨h59, H1⟩ | ⟨h59, H1⟩
      · refine J.cond_true h59 ?_
        refine J.seq ?_
        refine J.region ?_
        refine JL.pur (.agg #[.int .i64 0, .int .i64 0, .int .i64 0, .int .i64 0, .int .i64 0, .int .i64 0, .int .i64 0, .int .i64 0, .int .i64 0, .int .i64 0, .int .i64 0, .int .i64 0]) (some 26) ?_
        refine JL.mv (.int .i64 t57.2) ?_
        refine JL.store 0 b5 0 25 [.int .i64 0, .int .i64 0, .int .i64 0, .int .i64 0, .int .i64 0, .int .i64 0, .int .i64 0, .int .i64 0, .int .i64 0, .int .i64 0, .int .i64 0, .int .i64 0] [.int .i64 0, .int .i64 0, .int .i64 0, .int .i64 0, .int .i64 0, .int .i64 0, .int .i64 0, .int .i64 0, .int .i64 0, .int .i64 0, .int .i64 0, .int .i64 0] tySize_25 ?_
        refine JL.as (.int .i64 t57.2) ?_
        refine JL.nil ?_
        refine JQ.then_normal ?_
        refine JQ.sub [(2, .pointer (some ⟨b5, 0, none⟩)), (3, .int .i64 t57.2)] ?_
        refine JQ.mask [At.box b5 25 [.int .i64 0, .int .i64 0, .int .i64 0, .int .i64 0, .int .i64 0, .int .i64 0, .int .i64 0, .int .i64 0, .int .i64 0, .int .i64 0, .int .i64 0, .int .i64 0]] [true, false, false] ?_
        refine J.ret ?_
        refine JQ.blk_ret ?_
        refine JQ.then_ret ?_
        refine JQ.then_ret ?_
        refine JQ.blk_ret ?_
        refine JQ.met_ret ?_
        refine JQ.then_ret ?_
        rw [hr1 _ (Option.some.inj H1).symm, fin_ret] at H0
        obtain rfl := Option.some.inj H0
        exact JQ.done' (rs := [.cell 2 25, .tmp 3]) (vs := [.agg #[.int .i64 0, .int .i64 0, .int .i64 0, .int .i64 0, .int .i64 0, .int .i64 0, .int .i64 0, .int .i64 0, .int .i64 0, .int .i64 0, .int .i64 0, .int .i64 0], .int .i64 t57.2]) [] (.inr rfl) ⟨⟨b5, 0, _, _, by kernel_rfl, by kernel_rfl, holds_box b5 25 [.int .i64 0, .int .i64 0, .int .i64 0, .int .i64 0, .int .i64 0, .int .i64 0, .int .i64 0, .int .i64 0, .int .i64 0, .int .i64 0, .int .i64 0, .int .i64 0], .inl ⟨tyAgg_25, tySize_25, rfl⟩⟩, by kernel_rfl, trivial⟩ (fun _ h => Heap.to (Heap.pick [] (by decide) h)) ⟨rfl, rfl⟩
      · refine J.cond_false h59 ?_
        refine J.skip ?_
        refine JQ.blk_normal ?_
        refine JQ.then_normal ?_
        refine JQ.sub [(2, .pointer (some ⟨b5, 0, none⟩)), (4, .pointer (some ⟨b10, 0, none⟩)), (12, .slice (some ⟨g54, o55, none⟩) ((l1.take l1.length).drop ((1 : Int).toNat)).length c12), (13, .int .i64 (((l1.take l1.length).drop ((1 : Int).toNat)).length : Int)), (14, .int .i64 x40)] ?_
        refine J.region ?_
        refine JL.pur (.int .i64 (w64 (x40 + 1))) (some 28) ?_
        refine JL.mv (.int .i64 (w64 (x40 + 1))) ?_
        refine JL.nil ?_
        refine JQ.then_normal ?_
        exact JQ.again (t57.1, w64 (x40 + 1)) () (Option.some.inj H1).symm (fun _ h => Heap.to h)
    · refine J.cond_false h51 ?_
      refine J.exit ?_
      refine JQ.then_exit ?_
      refine JQ.then_exit ?_
      refine JQ.blk_exit ?_
      rw [hb1 _ (Option.some.inj H1).symm, fin_brk] at H0
      exact JQ.met out39 () H0 (fun _ h => Heap.to (Heap.pick [0, 1] (by decide) h))
  · clear hit H0
    rintro out50 ⟨⟩ H0
    replace H0 : jones_product.k2 out50 = some r := H0
    unfold jones_product.k2 at H0
    refine JQ.sub [(2, .pointer (some ⟨b5, 0, none⟩)), (4, .pointer (some ⟨b10, 0, none⟩))] ?_
    refine JQ.turn (Δ' := [At.box b5 25 [.int .i64 0, .int .i64 0, .int .i64 0, .int .i64 0, .int .i64 0, .int .i64 0, .int .i64 0, .int .i64 0, .int .i64 0, .int .i64 0, .int .i64 0, .int .i64 0], At.box b10 25 [.int .i64 out50.e0.Re, .int .i64 out50.e0.Im, .int .i64 out50.e0.Den, .int .i64 out50.e1.Re, .int .i64 out50.e1.Im, .int .i64 out50.e1.Den, .int .i64 out50.e2.Re, .int .i64 out50.e2.Im, .int .i64 out50.e2.Den, .int .i64 out50.e3.Re, .int .i64 out50.e3.Im, .int .i64 out50.e3.Den]]) (fun _ h => h.to) ?_
    refine JQ.then_normal ?_
    refine J.seq ?_
    refine J.region ?_
    refine JL.val (.agg #[.int .i64 out50.e0.Re, .int .i64 out50.e0.Im, .int .i64 out50.e0.Den, .int .i64 out50.e1.Re, .int .i64 out50.e1.Im, .int .i64 out50.e1.Den, .int .i64 out50.e2.Re, .int .i64 out50.e2.Im, .int .i64 out50.e2.Den, .int .i64 out50.e3.Re, .int .i64 out50.e3.Im, .int .i64 out50.e3.Den]) (some 29) (yields_load_boxes 1 0 [.int .i64 out50.e0.Re, .int .i64 out50.e0.Im, .int .i64 out50.e0.Den, .int .i64 out50.e1.Re, .int .i64 out50.e1.Im, .int .i64 out50.e1.Den, .int .i64 out50.e2.Re, .int .i64 out50.e2.Im, .int .i64 out50.e2.Den, .int .i64 out50.e3.Re, .int .i64 out50.e3.Im, .int .i64 out50.e3.Den] (holds_box b10 25 [.int .i64 out50.e0.Re, .int .i64 out50.e0.Im, .int .i64 out50.e0.Den, .int .i64 out50.e1.Re, .int .i64 out50.e1.Im, .int .i64 out50.e1.Den, .int .i64 out50.e2.Re, .int .i64 out50.e2.Im, .int .i64 out50.e2.Den, .int .i64 out50.e3.Re, .int .i64 out50.e3.Im, .int .i64 out50.e3.Den]) tyAgg_25 tySize_25) ?_
    refine JL.store 0 b5 0 25 [.int .i64 0, .int .i64 0, .int .i64 0, .int .i64 0, .int .i64 0, .int .i64 0, .int .i64 0, .int .i64 0, .int .i64 0, .int .i64 0, .int .i64 0, .int .i64 0] [.int .i64 out50.e0.Re, .int .i64 out50.e0.Im, .int .i64 out50.e0.Den, .int .i64 out50.e1.Re, .int .i64 out50.e1.Im, .int .i64 out50.e1.Den, .int .i64 out50.e2.Re, .int .i64 out50.e2.Im, .int .i64 out50.e2.Den, .int .i64 out50.e3.Re, .int .i64 out50.e3.Im, .int .i64 out50.e3.Den] tySize_25 ?_
    refine JL.as (.int .i64 0) ?_
    refine JL.nil ?_
    refine JQ.then_normal ?_
    refine JQ.sub [(2, .pointer (some ⟨b5, 0, none⟩)), (3, .int .i64 0)] ?_
    refine JQ.mask [At.box b5 25 [.int .i64 out50.e0.Re, .int .i64 out50.e0.Im, .int .i64 out50.e0.Den, .int .i64 out50.e1.Re, .int .i64 out50.e1.Im, .int .i64 out50.e1.Den, .int .i64 out50.e2.Re, .int .i64 out50.e2.Im, .int .i64 out50.e2.Den, .int .i64 out50.e3.Re, .int .i64 out50.e3.Im, .int .i64 out50.e3.Den]] [true, false] ?_
    refine J.ret ?_
    obtain rfl := Option.some.inj H0
    exact JQ.done' (rs := [.cell 2 25, .tmp 3]) (vs := [.agg #[.int .i64 out50.e0.Re, .int .i64 out50.e0.Im, .int .i64 out50.e0.Den, .int .i64 out50.e1.Re, .int .i64 out50.e1.Im, .int .i64 out50.e1.Den, .int .i64 out50.e2.Re, .int .i64 out50.e2.Im, .int .i64 out50.e2.Den, .int .i64 out50.e3.Re, .int .i64 out50.e3.Im, .int .i64 out50.e3.Den], .int .i64 0]) [] (.inr rfl) ⟨⟨b5, 0, _, _, by kernel_rfl, by kernel_rfl, holds_box b5 25 [.int .i64 out50.e0.Re, .int .i64 out50.e0.Im, .int .i64 out50.e0.Den, .int .i64 out50.e1.Re, .int .i64 out50.e1.Im, .int .i64 out50.e1.Den, .int .i64 out50.e2.Re, .int .i64 out50.e2.Im, .int .i64 out50.e2.Den, .int .i64 out50.e3.Re, .int .i64 out50.e3.Im, .int .i64 out50.e3.Den], .inl ⟨tyAgg_25, tySize_25, rfl⟩⟩, by kernel_rfl, trivial⟩ (fun _ h => Heap.to (Heap.pick [] (by decide) h)) ⟨rfl, rfl⟩

theorem jones_Act.ok (t1 : (List (A4 Cx))) (A2 : Option Addr) (c3 : Nat) (l5 : (List Pol)) (A6 : Option Addr) (c7 : Nat) (r : ((List Pol) × Int)) (H0 : jones_Act.f t1 l5 = some r) :
    Does Try.prog 22 [.slice A2 t1.length c3, .slice A6 l5.length c7].toArray [At.rd A2 c3 ((flArr4 fl_Cx).kd) t1 true, At.rd A6 c7 fl_Pol.kd l5 true] [] false (fun v Δ => ∃ A1001 : Option Addr, ∃ c1001 : Nat, v = .tuple #[.slice A1001 r.1.length c1001, .int .i64 r.2] ∧ Δ = [At.row A1001 c1001 57 fl_Pol.kd r.1 false]) := by
  refine Does.body (vs := [.slice A2 t1.length c3, .slice A6 l5.length c7]) Try.func22 rfl ⟨.inl rfl, .inl rfl, trivial⟩ trivial fun w S => ?_
  unfold jones_Act.f at H0
  refine J.seq ?_
  refine J.region ?_
  refine JL.as (.slice none 0 0) ?_
  refine JL.as (.int .i64 0) ?_
  refine JL.nil ?_
  refine JQ.then_normal ?_
  refine JQ.sub [(0, .slice A2 t1.length c3), (1, .slice A6 l5.length c7)] ?_
  refine J.seq ?_
  refine J.seq ?_
  refine J.region ?_
  refine JL.mv (.slice A2 t1.length c3) ?_
  obtain ⟨t9, hc10, H0⟩ := bind_some H0
  refine JL.call [] [] [] (jones_table.ok t1 A2 c3 _ hc10) ⟨pre_any 0 (view_rd A2 c3 ((flArr4 fl_Cx).kd) t1 true true), trivial⟩ ?_
  rintro _ _ ⟨rfl, rfl⟩
  refine JL.as (.int .i64 t9) ?_
  refine JL.nil ?_
  refine JQ.then_normal ?_
  refine JQ.sub [(0, .slice A2 t1.length c3), (1, .slice A6 l5.length c7), (6, .int .i64 t9)] ?_
  refine J.seq ?_
  refine J.region ?_
  refine JL.mv (.int .i64 t9) ?_
  refine JL.pur (.bool (!decide (t9 = 0))) (some 16) ?_
  refine JL.nil ?_
  refine JQ.then_normal ?_
  refine JQ.sub [(0, .slice A2 t1.length c3), (1, .slice A6 l5.length c7), (6, .int .i64 t9), (16, .bool (!decide (t9 = 0)))] ?_
  rcases ite_cases H0 with ⟨h11, H0⟩ | ⟨h11, H0⟩
  · refine J.cond_true h11 ?_
    refine J.seq ?_
    refine J.region ?_
    refine JL.mv (.int .i64 t9) ?_
    refine JL.as (.slice none 0 0) ?_
    refine JL.as (.int .i64 t9) ?_
    refine JL.nil ?_
    refine JQ.then_normal ?_
    refine JQ.sub [(4, .slice none 0 0), (5, .int .i64 t9)] ?_
    refine JQ.mask [] [false, false] ?_
    refine J.ret ?_
    refine JQ.then_ret ?_
    obtain rfl := Option.some.inj H0
    exact JQ.done' (rs := [.tmp 4, .tmp 5]) (vs := [.slice none 0 0, .int .i64 t9]) [At.row none 0 57 fl_Pol.kd ([] : List Pol) false] (.inr rfl) ⟨by kernel_rfl, by kernel_rfl, trivial⟩ (fun _ h => Heap.to (Heap.addRow0 (α := Pol) 57 fl_Pol.kd false h)) ⟨none, 0, rfl, rfl⟩
  · refine J.cond_false h11 ?_
    refine J.skip ?_
    refine JQ.then_normal ?_
    refine JQ.sub [(0, .slice A2 t1.length c3), (1, .slice A6 l5.length c7)] ?_
    refine J.seq ?_
    refine J.seq ?_
    refine J.region ?_
    refine JL.mv (.slice A6 l5.length c7) ?_
    refine JL.mv (.slice A2 t1.length c3) ?_
    refine JL.pur (.int .i64 (t1.length : Int)) (some 20) ?_
    obtain ⟨t12, hc13, H0⟩ := bind_some H0
    refine JL.call [] [] [] (jones_seen.ok l5 A6 c7 (t1.length : Int) _ hc13) ⟨pre_any 1 (view_rd A6 c7 fl_Pol.kd l5 true true), trivial⟩ ?_
    rintro _ _ ⟨rfl, rfl⟩
    refine JL.as (.int .i64 t12) ?_
    refine JL.nil ?_
    refine JQ.then_normal ?_
    refine JQ.sub [(0, .slice A2 t1.length c3), (1, .slice A6 l5.length c7), (7, .int .i64 t12)] ?_
    refine J.seq ?_
    refine J.region ?_
    refine JL.mv (.int .i64 t12) ?_
    refine JL.pur (.bool (!decide (t12 = 0))) (some 23) ?_
    refine JL.nil ?_
    refine JQ.then_normal ?_
    refine JQ.sub [(0, .slice A2 t1.length c3), (1, .slice A6 l5.length c7), (7, .int .i64 t12), (23, .bool (!decide (t12 = 0)))] ?_
    rcases ite_cases H0 with ⟨h14, H0⟩ | ⟨h14, H0⟩
    · refine J.cond_true h14 ?_
      refine J.seq ?_
      refine J.region ?_
      refine JL.mv (.int .i64 t12) ?_
      refine JL.as (.slice none 0 0) ?_
      refine JL.as (.int .i64 t12) ?_
      refine JL.nil ?_
      refine JQ.then_normal ?_
      refine JQ.sub [(4, .slice none 0 0), (5, .int .i64 t12)] ?_
      refine JQ.mask [] [false, false] ?_
      refine J.ret ?_
      refine JQ.then_ret ?_
      obtain rfl := Option.some.inj H0
      exact JQ.done' (rs := [.tmp 4, .tmp 5]) (vs := [.slice none 0 0, .int .i64 t12]) [At.row none 0 57 fl_Pol.kd ([] : List Pol) false] (.inr rfl) ⟨by kernel_rfl, by kernel_rfl, trivial⟩ (fun _ h => Heap.to (Heap.addRow0 (α := Pol) 57 fl_Pol.kd false h)) ⟨none, 0, rfl, rfl⟩
    · refine J.cond_false h14 ?_
      refine J.skip ?_
      refine JQ.then_normal ?_
      refine JQ.sub [(0, .slice A2 t1.length c3), (1, .slice A6 l5.length c7)] ?_
      refine J.seq ?_
      refine J.region ?_
      refine JL.as (.slice none 0 0) ?_
      refine JL.nil ?_
      refine JQ.then_normal ?_
      refine J.seq ?_
      refine J.seq ?_
      refine J.region ?_
      refine JL.mv (.slice A6 l5.length c7) ?_
      refine JL.pur (.int .i64 (l5.length : Int)) (some 26) ?_
      refine JL.mv (.int .i64 0) ?_
      refine JL.nil ?_
      refine JQ.then_normal ?_
      refine JQ.sub [(0, .slice A2 t1.length c3), (8, .slice none 0 0), (25, .slice A6 l5.length c7), (26, .int .i64 (l5.length : Int)), (27, .int .i64 0)] ?_
      obtain ⟨o1, hit, H0⟩ := bind_some H0
      refine J.loop (σ := ((List Pol) × Int)) (τ := List Pol) (G := ((Option Addr) × Nat × (Option Addr) × Nat)) (G' := ((Option Addr) × Nat)) _ o1 (fun s g => [(0, .slice A2 t1.length c3), (8, .slice g.1 s.1.length g.2.1), (25, .slice g.2.2.1 l5.length g.2.2.2), (26, .int .i64 (l5.length : Int)), (27, .int .i64 s.2)]) (fun s g => [At.rd A2 c3 ((flArr4 fl_Cx).kd) t1 true, At.row g.1 g.2.1 57 fl_Pol.kd s.1 false, At.rd g.2.2.1 g.2.2.2 fl_Pol.kd l5 true]) (fun t => jones_Act.k5 t = some r) (fun t g => [(8, .slice g.1 t.length g.2)]) (fun t g => [At.row g.1 g.2 57 fl_Pol.kd t false]) ([], 0) (none, 0, A6, c7) hit (fun _ h => Heap.to (Heap.pick [0, 2, 1] (by decide) (Heap.addRow0 (α := Pol) 57 fl_Pol.kd false h))) ?_ ?_
      · clear hit
        rintro ⟨out234, x241⟩ ⟨A235, c236, A238, c239⟩ st1 H1 hb1 hr1
        replace H1 : jones_Act.s4 t1 l5 out234 x241 = some st1 := H1
        unfold jones_Act.s4 at H1
        refine JQ.sub [(0, .slice A2 t1.length c3), (8, .slice A235 out234.length c236), (25, .slice A238 l5.length c239), (26, .int .i64 (l5.length : Int)), (27, .int .i64 x241)] ?_
        refine JQ.turn (Δ' := [At.rd A2 c3 ((flArr4 fl_Cx).kd) t1 true, At.row A235 c236 57 fl_Pol.kd out234 false, At.rd A238 c239 fl_Pol.kd l5 true]) (fun _ h => h.to) ?_
        refine J.seq ?_
        refine J.region ?_
        refine JL.pur (.bool (decide (x241 < (l5.length : Int)))) (some 28) ?_
        refine JL.nil ?_
        refine JQ.then_normal ?_
        refine J.seq ?_
        rcases ite_cases H1 with ⟨h347, H1⟩ | ⟨h347, H1⟩
        · refine J.cond_true h347 ?_
          refine J.skip ?_
          refine JQ.then_normal ?_
          refine JQ.sub [(0, .slice A2 t1.length c3), (8, .slice A235 out234.length c236), (25, .slice A238 l5.length c239), (26, .int .i64 (l5.length : Int)), (27, .int .i64 x241)] ?_
          refine J.seq ?_
          refine J.block ?_
          refine J.seq ?_
          refine J.region ?_
          obtain ⟨⟨h348, h349⟩, H1⟩ := ite_must H1
          refine JL.ixAddr 2 15 c239 .i64 (elems_rd A238 c239 fl_Pol.kd l5 true) Try.underlying39 tySize_57 h348 h349 fun g350 o351 hA => ?_
          subst hA
          refine JL.val (.agg #[.int .i64 ((ix l5 x241).I), .int .i64 ((ix l5 x241).J), .int .i64 ((ix l5 x241).V.e0.Re), .int .i64 ((ix l5 x241).V.e0.Im), .int .i64 ((ix l5 x241).V.e0.Den), .int .i64 ((ix l5 x241).V.e1.Re), .int .i64 ((ix l5 x241).V.e1.Im), .int .i64 ((ix l5 x241).V.e1.Den), .int .i64 ((ix l5 x241).V.e2.Re), .int .i64 ((ix l5 x241).V.e2.Im), .int .i64 ((ix l5 x241).V.e2.Den), .int .i64 ((ix l5 x241).V.e3.Re), .int .i64 ((ix l5 x241).V.e3.Im), .int .i64 ((ix l5 x241).V.e3.Den), .int .i64 ((ix l5 x241).N)]) (some 30) (gives_loadEl (f := fl_Pol) 2 0 x241 (elems_rd (some ⟨g350, o351, none⟩) c239 fl_Pol.kd l5 true) h348 h349 tySize_57 (.inl ⟨tyAgg_57, rfl⟩)) ?_
          refine JL.alloc [.int .i64 0, .int .i64 0, .int .i64 0, .int .i64 0, .int .i64 0, .int .i64 0, .int .i64 0, .int .i64 0, .int .i64 0, .int .i64 0, .int .i64 0, .int .i64 0, .int .i64 0, .int .i64 0, .int .i64 0] fun b352 => ?_
          refine JL.store 3 b352 0 57 [.int .i64 0, .int .i64 0, .int .i64 0, .int .i64 0, .int .i64 0, .int .i64 0, .int .i64 0, .int .i64 0, .int .i64 0, .int .i64 0, .int .i64 0, .int .i64 0, .int .i64 0, .int .i64 0, .int .i64 0] [.int .i64 ((ix l5 x241).I), .int .i64 ((ix l5 x241).J), .int .i64 ((ix l5 x241).V.e0.Re), .int .i64 ((ix l5 x241).V.e0.Im), .int .i64 ((ix l5 x241).V.e0.Den), .int .i64 ((ix l5 x241).V.e1.Re), .int .i64 ((ix l5 x241).V.e1.Im), .int .i64 ((ix l5 x241).V.e1.Den), .int .i64 ((ix l5 x241).V.e2.Re), .int .i64 ((ix l5 x241).V.e2.Im), .int .i64 ((ix l5 x241).V.e2.Den), .int .i64 ((ix l5 x241).V.e3.Re), .int .i64 ((ix l5 x241).V.e3.Im), .int .i64 ((ix l5 x241).V.e3.Den), .int .i64 ((ix l5 x241).N)] tySize_57 ?_
          refine JL.nil ?_
          refine JQ.then_normal ?_
          refine JQ.sub [(0, .slice A2 t1.length c3), (8, .slice A235 out234.length c236), (10, .pointer (some ⟨b352, 0, none⟩)), (25, .slice (some ⟨g350, o351, none⟩) l5.length c239), (26, .int .i64 (l5.length : Int)), (27, .int .i64 x241)] ?_
          refine J.join (T := ((A4 Cx) × Int)) (G := Nat) (fun t => jones_Act.k6 l5 out234 x241 t.1 t.2 = some st1) (fun t g => [(0, .slice A2 t1.length c3), (8, .slice A235 out234.length c236), (10, .pointer (some ⟨b352, 0, none⟩)), (11, .pointer (some ⟨g, 0, none⟩)), (12, .int .i64 t.2), (25, .slice (some ⟨g350, o351, none⟩) l5.length c239), (26, .int .i64 (l5.length : Int)), (27, .int .i64 x241)]) (fun t g => [At.rd A2 c3 ((flArr4 fl_Cx).kd) t1 true, At.row A235 c236 57 fl_Pol.kd out234 false, At.box b352 57 [.int .i64 ((ix l5 x241).I), .int .i64 ((ix l5 x241).J), .int .i64 ((ix l5 x241).V.e0.Re), .int .i64 ((ix l5 x241).V.e0.Im), .int .i64 ((ix l5 x241).V.e0.Den), .int .i64 ((ix l5 x241).V.e1.Re), .int .i64 ((ix l5 x241).V.e1.Im), .int .i64 ((ix l5 x241).V.e1.Den), .int .i64 ((ix l5 x241).V.e2.Re), .int .i64 ((ix l5 x241).V.e2.Im), .int .i64 ((ix l5 x241).V.e2.Den), .int .i64 ((ix l5 x241).V.e3.Re), .int .i64 ((ix l5 x241).V.e3.Im), .int .i64 ((ix l5 x241).V.e3.Den), .int .i64 ((ix l5 x241).N)], At.box g 25 [.int .i64 t.1.e0.Re, .int .i64 t.1.e0.Im, .int .i64 t.1.e0.Den, .int .i64 t.1.e1.Re, .int .i64 t.1.e1.Im, .int .i64 t.1.e1.Den, .int .i64 t.1.e2.Re, .int .i64 t.1.e2.Im, .int .i64 t.1.e2.Den, .int .i64 t.1.e3.Re, .int .i64 t.1.e3.Im, .int .i64 t.1.e3.Den], At.rd (some ⟨g350, o351, none⟩) c239 fl_Pol.kd l5 true]) ?_ ?_
          · obtain ⟨⟨h405, h406⟩, H1⟩ := ite_must H1
            obtain ⟨⟨h409, h410⟩, H1⟩ := ite_must H1
            obtain ⟨t413, hc414, H1⟩ := bind_some H1
            obtain ⟨t416, hc417, H1⟩ := bind_some H1
            refine JQ.openA 0 (elems_rd A2 c3 ((flArr4 fl_Cx).kd) t1 true) h405 h406 fun g419 o420 hA => ?_
            subst hA
            refine JY.start [19] #[false, false, false, false, false, false, false, false, false, false, false, false, false, false, false, false, false, false, false, false, false] ?_
            refine JY.pur (hi := rfl) 0 #[true, false, false, false, false, false, false, false, false, false, false, false, false, false, false, false, false, false, false, false, false] (.slice (some ⟨g419, o420, none⟩) t1.length c3) (some 32) want ?_
            refine JY.pur (hi := rfl) 1 #[true, true, false, false, false, false, false, false, false, false, false, false, false, false, false, false, false, false, false, false, false] (.pointer (some ⟨b352, 0, none⟩)) (some 33) want ?_
            refine JY.take (hi := rfl) 2 #[true, true, true, false, false, false, false, false, false, false, false, false, false, false, false, false, false, false, false, false, false] (.int .i64 ((ix l5 x241).I)) (some 34) [true, true, true, true] want (yields_load_box 3 0 (holds_box b352 57 [.int .i64 ((ix l5 x241).I), .int .i64 ((ix l5 x241).J), .int .i64 ((ix l5 x241).V.e0.Re), .int .i64 ((ix l5 x241).V.e0.Im), .int .i64 ((ix l5 x241).V.e0.Den), .int .i64 ((ix l5 x241).V.e1.Re), .int .i64 ((ix l5 x241).V.e1.Im), .int .i64 ((ix l5 x241).V.e1.Den), .int .i64 ((ix l5 x241).V.e2.Re), .int .i64 ((ix l5 x241).V.e2.Im), .int .i64 ((ix l5 x241).V.e2.Den), .int .i64 ((ix l5 x241).V.e3.Re), .int .i64 ((ix l5 x241).V.e3.Im), .int .i64 ((ix l5 x241).V.e3.Den), .int .i64 ((ix l5 x241).N)]) tyAgg_3) ?_
            obtain ⟨h421, h422⟩ : 0 ≤ (ix l5 x241).I ∧ (ix l5 x241).I < (t1.length : Int) := ⟨h405, h406⟩
            refine JY.puw (hi := rfl) 3 #[true, true, true, true, false, false, false, false, false, false, false, false, false, false, false, false, false, false, false, false, false] (.pointer (some ⟨g419, o420 + ((ix l5 x241).I).toNat * 12, none⟩)) (some 35) want (givesW_ixSl (g := g419) (o := o420) (n := t1.length) (i := (ix l5 x241).I) 12 c3 .i64 Try.underlying38 tySize_25 h421 h422) ?_
            refine JY.take (hi := rfl) 4 #[true, true, true, true, true, false, false, false, false, false, false, false, false, false, false, false, false, false, false, false, false] (.agg #[.int .i64 ((ix t1 ((ix l5 x241).I)).e0.Re), .int .i64 ((ix t1 ((ix l5 x241).I)).e0.Im), .int .i64 ((ix t1 ((ix l5 x241).I)).e0.Den), .int .i64 ((ix t1 ((ix l5 x241).I)).e1.Re), .int .i64 ((ix t1 ((ix l5 x241).I)).e1.Im), .int .i64 ((ix t1 ((ix l5 x241).I)).e1.Den), .int .i64 ((ix t1 ((ix l5 x241).I)).e2.Re), .int .i64 ((ix t1 ((ix l5 x241).I)).e2.Im), .int .i64 ((ix t1 ((ix l5 x241).I)).e2.Den), .int .i64 ((ix t1 ((ix l5 x241).I)).e3.Re), .int .i64 ((ix t1 ((ix l5 x241).I)).e3.Im), .int .i64 ((ix t1 ((ix l5 x241).I)).e3.Den)]) (some 36) [true, true, true, true] want (gives_loadEl (f := (flArr4 fl_Cx)) 0 0 ((ix l5 x241).I) (elems_rd (some ⟨g419, o420, none⟩) c3 ((flArr4 fl_Cx).kd) t1 true) h421 h422 tySize_25 (.inl ⟨tyAgg_25, rfl⟩)) ?_
            refine JY.pur (hi := rfl) 5 #[true, true, true, true, true, true, false, false, false, false, false, false, false, false, false, false, false, false, false, false, false] (.pointer (some ⟨b352, 2, none⟩)) (some 37) want ?_
            refine JY.take (hi := rfl) 6 #[true, true, true, true, true, true, true, false, false, false, false, false, false, false, false, false, false, false, false, false, false] (.agg #[.int .i64 ((ix l5 x241).V.e0.Re), .int .i64 ((ix l5 x241).V.e0.Im), .int .i64 ((ix l5 x241).V.e0.Den), .int .i64 ((ix l5 x241).V.e1.Re), .int .i64 ((ix l5 x241).V.e1.Im), .int .i64 ((ix l5 x241).V.e1.Den), .int .i64 ((ix l5 x241).V.e2.Re), .int .i64 ((ix l5 x241).V.e2.Im), .int .i64 ((ix l5 x241).V.e2.Den), .int .i64 ((ix l5 x241).V.e3.Re), .int .i64 ((ix l5 x241).V.e3.Im), .int .i64 ((ix l5 x241).V.e3.Den)]) (some 38) [true, true, true, true] want (yields_load_boxes 3 2 [.int .i64 ((ix l5 x241).V.e0.Re), .int .i64 ((ix l5 x241).V.e0.Im), .int .i64 ((ix l5 x241).V.e0.Den), .int .i64 ((ix l5 x241).V.e1.Re), .int .i64 ((ix l5 x241).V.e1.Im), .int .i64 ((ix l5 x241).V.e1.Den), .int .i64 ((ix l5 x241).V.e2.Re), .int .i64 ((ix l5 x241).V.e2.Im), .int .i64 ((ix l5 x241).V.e2.Den), .int .i64 ((ix l5 x241).V.e3.Re), .int .i64 ((ix l5 x241).V.e3.Im), .int .i64 ((ix l5 x241).V.e3.Den)] (holds_box b352 57 [.int .i64 ((ix l5 x241).I), .int .i64 ((ix l5 x241).J), .int .i64 ((ix l5 x241).V.e0.Re), .int .i64 ((ix l5 x241).V.e0.Im), .int .i64 ((ix l5 x241).V.e0.Den), .int .i64 ((ix l5 x241).V.e1.Re), .int .i64 ((ix l5 x241).V.e1.Im), .int .i64 ((ix l5 x241).V.e1.Den), .int .i64 ((ix l5 x241).V.e2.Re), .int .i64 ((ix l5 x241).V.e2.Im), .int .i64 ((ix l5 x241).V.e2.Den), .int .i64 ((ix l5 x241).V.e3.Re), .int .i64 ((ix l5 x241).V.e3.Im), .int .i64 ((ix l5 x241).V.e3.Den), .int .i64 ((ix l5 x241).N)]) tyAgg_25 tySize_25) ?_
            refine JY.pur (hi := rfl) 7 #[true, true, true, true, true, true, true, true, false, false, false, false, false, false, false, false, false, false, false, false, false] (.slice (some ⟨g419, o420, none⟩) t1.length c3) (some 39) want ?_
            refine JY.pur (hi := rfl) 8 #[true, true, true, true, true, true, true, true, true, false, false, false, false, false, false, false, false, false, false, false, false] (.pointer (some ⟨b352, 1, none⟩)) (some 40) want ?_
            refine JY.take (hi := rfl) 9 #[true, true, true, true, true, true, true, true, true, true, false, false, false, false, false, false, false, false, false, false, false] (.int .i64 ((ix l5 x241).J)) (some 41) [true, true, true, true] want (yields_load_box 3 1 (holds_box b352 57 [.int .i64 ((ix l5 x241).I), .int .i64 ((ix l5 x241).J), .int .i64 ((ix l5 x241).V.e0.Re), .int .i64 ((ix l5 x241).V.e0.Im), .int .i64 ((ix l5 x241).V.e0.Den), .int .i64 ((ix l5 x241).V.e1.Re), .int .i64 ((ix l5 x241).V.e1.Im), .int .i64 ((ix l5 x241).V.e1.Den), .int .i64 ((ix l5 x241).V.e2.Re), .int .i64 ((ix l5 x241).V.e2.Im), .int .i64 ((ix l5 x241).V.e2.Den), .int .i64 ((ix l5 x241).V.e3.Re), .int .i64 ((ix l5 x241).V.e3.Im), .int .i64 ((ix l5 x241).V.e3.Den), .int .i64 ((ix l5 x241).N)]) tyAgg_3) ?_
            obtain ⟨h425, h426⟩ : 0 ≤ (ix l5 x241).J ∧ (ix l5 x241).J < (t1.length : Int) := ⟨h409, h410⟩
            refine JY.puw (hi := rfl) 10 #[true, true, true, true, true, true, true, true, true, true, true, false, false, false, false, false, false, false, false, false, false] (.pointer (some ⟨g419, o420 + ((ix l5 x241).J).toNat * 12, none⟩)) (some 42) want (givesW_ixSl (g := g419) (o := o420) (n := t1.length) (i := (ix l5 x241).J) 12 c3 .i64 Try.underlying38 tySize_25 h425 h426) ?_
            refine JY.take (hi := rfl) 11 #[true, true, true, true, true, true, true, true, true, true, true, true, false, false, false, false, false, false, false, false, false] (.agg #[.int .i64 ((ix t1 ((ix l5 x241).J)).e0.Re), .int .i64 ((ix t1 ((ix l5 x241).J)).e0.Im), .int .i64 ((ix t1 ((ix l5 x241).J)).e0.Den), .int .i64 ((ix t1 ((ix l5 x241).J)).e1.Re), .int .i64 ((ix t1 ((ix l5 x241).J)).e1.Im), .int .i64 ((ix t1 ((ix l5 x241).J)).e1.Den), .int .i64 ((ix t1 ((ix l5 x241).J)).e2.Re), .int .i64 ((ix t1 ((ix l5 x241).J)).e2.Im), .int .i64 ((ix t1 ((ix l5 x241).J)).e2.Den), .int .i64 ((ix t1 ((ix l5 x241).J)).e3.Re), .int .i64 ((ix t1 ((ix l5 x241).J)).e3.Im), .int .i64 ((ix t1 ((ix l5 x241).J)).e3.Den)]) (some 43) [true, true, true, true] want (gives_loadEl (f := (flArr4 fl_Cx)) 0 0 ((ix l5 x241).J) (elems_rd (some ⟨g419, o420, none⟩) c3 ((flArr4 fl_Cx).kd) t1 true) h425 h426 tySize_25 (.inl ⟨tyAgg_25, rfl⟩)) ?_
            refine JY.all [12, 18] ⟨⟨_, rfl, ?_⟩, ⟨_, rfl, ?_⟩, trivial⟩
            · refine JL.call [] [] [] (jones_adjoint.ok (ix t1 ((ix l5 x241).J)) _ hc414) trivial ?_
              rintro _ _ ⟨rfl, rfl⟩
              refine JL.nil ?_
              refine JY.ran #[true, true, true, true, true, true, true, true, true, true, true, true, true, false, false, false, false, false, false, false, false] [true, true, true, true] ?_
              refine JY.all [13, 18] ⟨⟨_, rfl, ?_⟩, ⟨_, rfl, ?_⟩, trivial⟩
              · refine JL.buildSl 25 ((flArr4 fl_Cx).kd) (([(ix t1 ((ix l5 x241).I)), (ix l5 x241).V, t413] : List (A4 Cx)) : List (A4 Cx)) [.int .i64 ((ix t1 ((ix l5 x241).I)).e0.Re), .int .i64 ((ix t1 ((ix l5 x241).I)).e0.Im), .int .i64 ((ix t1 ((ix l5 x241).I)).e0.Den), .int .i64 ((ix t1 ((ix l5 x241).I)).e1.Re), .int .i64 ((ix t1 ((ix l5 x241).I)).e1.Im), .int .i64 ((ix t1 ((ix l5 x241).I)).e1.Den), .int .i64 ((ix t1 ((ix l5 x241).I)).e2.Re), .int .i64 ((ix t1 ((ix l5 x241).I)).e2.Im), .int .i64 ((ix t1 ((ix l5 x241).I)).e2.Den), .int .i64 ((ix t1 ((ix l5 x241).I)).e3.Re), .int .i64 ((ix t1 ((ix l5 x241).I)).e3.Im), .int .i64 ((ix t1 ((ix l5 x241).I)).e3.Den), .int .i64 ((ix l5 x241).V.e0.Re), .int .i64 ((ix l5 x241).V.e0.Im), .int .i64 ((ix l5 x241).V.e0.Den), .int .i64 ((ix l5 x241).V.e1.Re), .int .i64 ((ix l5 x241).V.e1.Im), .int .i64 ((ix l5 x241).V.e1.Den), .int .i64 ((ix l5 x241).V.e2.Re), .int .i64 ((ix l5 x241).V.e2.Im), .int .i64 ((ix l5 x241).V.e2.Den), .int .i64 ((ix l5 x241).V.e3.Re), .int .i64 ((ix l5 x241).V.e3.Im), .int .i64 ((ix l5 x241).V.e3.Den), .int .i64 t413.e0.Re, .int .i64 t413.e0.Im, .int .i64 t413.e0.Den, .int .i64 t413.e1.Re, .int .i64 t413.e1.Im, .int .i64 t413.e1.Den, .int .i64 t413.e2.Re, .int .i64 t413.e2.Im, .int .i64 t413.e2.Den, .int .i64 t413.e3.Re, .int .i64 t413.e3.Im, .int .i64 t413.e3.Den] false (closes_fl rfl) fun b431 => ?_
                refine JL.nil ?_
                refine JY.ran #[true, true, true, true, true, true, true, true, true, true, true, true, true, true, false, false, false, false, false, false, false] [true, true, true, true, false] ?_
                refine JY.all [14, 18] ⟨⟨_, rfl, ?_⟩, ⟨_, rfl, ?_⟩, trivial⟩
                · refine JL.call [] [] [] (jones_product.ok ([(ix t1 ((ix l5 x241).I)), (ix l5 x241).V, t413] : List (A4 Cx)) (some ⟨b431, 0, none⟩) 3 _ hc417) ⟨pre_view 4 (view_row (some ⟨b431, 0, none⟩) 3 25 ((flArr4 fl_Cx).kd) ([(ix t1 ((ix l5 x241).I)), (ix l5 x241).V, t413] : List (A4 Cx)) false true), trivial⟩ ?_
                  rintro _ _ ⟨rfl, rfl⟩
                  refine JL.nil ?_
                  refine JY.ran #[true, true, true, true, true, true, true, true, true, true, true, true, true, true, true, false, false, false, false, false, false] [true, true, true, true, false] ?_
                  refine JY.pur (hi := rfl) 15 #[true, true, true, true, true, true, true, true, true, true, true, true, true, true, true, true, false, false, false, false, false] (.tuple #[.agg #[.int .i64 t416.1.e0.Re, .int .i64 t416.1.e0.Im, .int .i64 t416.1.e0.Den, .int .i64 t416.1.e1.Re, .int .i64 t416.1.e1.Im, .int .i64 t416.1.e1.Den, .int .i64 t416.1.e2.Re, .int .i64 t416.1.e2.Im, .int .i64 t416.1.e2.Den, .int .i64 t416.1.e3.Re, .int .i64 t416.1.e3.Im, .int .i64 t416.1.e3.Den], .int .i64 t416.2]) (some 31) want ?_
                  refine JY.pur (hi := rfl) 16 #[true, true, true, true, true, true, true, true, true, true, true, true, true, true, true, true, true, false, false, false, false] (.agg #[.int .i64 t416.1.e0.Re, .int .i64 t416.1.e0.Im, .int .i64 t416.1.e0.Den, .int .i64 t416.1.e1.Re, .int .i64 t416.1.e1.Im, .int .i64 t416.1.e1.Den, .int .i64 t416.1.e2.Re, .int .i64 t416.1.e2.Im, .int .i64 t416.1.e2.Den, .int .i64 t416.1.e3.Re, .int .i64 t416.1.e3.Im, .int .i64 t416.1.e3.Den]) (some 47) want ?_
                  refine JY.pur (hi := rfl) 17 #[true, true, true, true, true, true, true, true, true, true, true, true, true, true, true, true, true, true, false, false, false] (.int .i64 t416.2) (some 48) want ?_
                  refine JY.all [18] ⟨⟨_, rfl, ?_⟩, trivial⟩
                  refine JL.alloc [.int .i64 0, .int .i64 0, .int .i64 0, .int .i64 0, .int .i64 0, .int .i64 0, .int .i64 0, .int .i64 0, .int .i64 0, .int .i64 0, .int .i64 0, .int .i64 0] fun b434 => ?_
                  refine JL.nil ?_
                  refine JY.ran #[true, true, true, true, true, true, true, true, true, true, true, true, true, true, true, true, true, true, true, false, false] [true, true, true, true, false, false] ?_
                  refine JY.all [19] ⟨⟨_, rfl, ?_⟩, trivial⟩
                  refine JL.store 5 b434 0 25 [.int .i64 0, .int .i64 0, .int .i64 0, .int .i64 0, .int .i64 0, .int .i64 0, .int .i64 0, .int .i64 0, .int .i64 0, .int .i64 0, .int .i64 0, .int .i64 0] [.int .i64 t416.1.e0.Re, .int .i64 t416.1.e0.Im, .int .i64 t416.1.e0.Den, .int .i64 t416.1.e1.Re, .int .i64 t416.1.e1.Im, .int .i64 t416.1.e1.Den, .int .i64 t416.1.e2.Re, .int .i64 t416.1.e2.Im, .int .i64 t416.1.e2.Den, .int .i64 t416.1.e3.Re, .int .i64 t416.1.e3.Im, .int .i64 t416.1.e3.Den] tySize_25 ?_
                  refine JL.nil ?_
                  refine JY.ranD #[true, true, true, true, true, true, true, true, true, true, true, true, true, true, true, true, true, true, true, true, false] ?_
                  refine JY.pur (hi := rfl) 20 #[true, true, true, true, true, true, true, true, true, true, true, true, true, true, true, true, true, true, true, true, true] (.int .i64 t416.2) (some 12) want ?_
                  refine JY.done ?_
                  refine JQ.then_normal ?_
                  exact JQ.meet (t416.1, t416.2) b434 H1 (fun _ h => Heap.to (Heap.pick [0, 1, 3, 5, 2] (by decide) h))
                · refine JL.alloc [.int .i64 0, .int .i64 0, .int .i64 0, .int .i64 0, .int .i64 0, .int .i64 0, .int .i64 0, .int .i64 0, .int .i64 0, .int .i64 0, .int .i64 0, .int .i64 0] fun b435 => ?_
                  refine JL.nil ?_
                  refine JY.ran #[true, true, true, true, true, true, true, true, true, true, true, true, true, true, false, false, false, false, true, false, false] [true, true, true, true, false, false] ?_
                  refine JY.all [14] ⟨⟨_, rfl, ?_⟩, trivial⟩
                  refine JL.call [] [] [] (jones_product.ok ([(ix t1 ((ix l5 x241).I)), (ix l5 x241).V, t413] : List (A4 Cx)) (some ⟨b431, 0, none⟩) 3 _ hc417) ⟨pre_view 4 (view_row (some ⟨b431, 0, none⟩) 3 25 ((flArr4 fl_Cx).kd) ([(ix t1 ((ix l5 x241).I)), (ix l5 x241).V, t413] : List (A4 Cx)) false true), trivial⟩ ?_
                  rintro _ _ ⟨rfl, rfl⟩
                  refine JL.nil ?_
                  refine JY.ran #[true, true, true, true, true, true, true, true, true, true, true, true, true, true, true, false, false, false, true, false, false] [true, true, true, true, false, false] ?_
                  refine JY.pur (hi := rfl) 15 #[true, true, true, true, true, true, true, true, true, true, true, true, true, true, true, true, false, false, true, false, false] (.tuple #[.agg #[.int .i64 t416.1.e0.Re, .int .i64 t416.1.e0.Im, .int .i64 t416.1.e0.Den, .int .i64 t416.1.e1.Re, .int .i64 t416.1.e1.Im, .int .i64 t416.1.e1.Den, .int .i64 t416.1.e2.Re, .int .i64 t416.1.e2.Im, .int .i64 t416.1.e2.Den, .int .i64 t416.1.e3.Re, .int .i64 t416.1.e3.Im, .int .i64 t416.1.e3.Den], .int .i64 t416.2]) (some 31) want ?_
                  refine JY.pur (hi := rfl) 16 #[true, true, true, true, true, true, true, true, true, true, true, true, true, true, true, true, true, false, true, false, false] (.agg #[.int .i64 t416.1.e0.Re, .int .i64 t416.1.e0.Im, .int .i64 t416.1.e0.Den, .int .i64 t416.1.e1.Re, .int .i64 t416.1.e1.Im, .int .i64 t416.1.e1.Den, .int .i64 t416.1.e2.Re, .int .i64 t416.1.e2.Im, .int .i64 t416.1.e2.Den, .int .i64 t416.1.e3.Re, .int .i64 t416.1.e3.Im, .int .i64 t416.1.e3.Den]) (some 47) want ?_
                  refine JY.pur (hi := rfl) 17 #[true, true, true, true, true, true, true, true, true, true, true, true, true, true, true, true, true, true, true, false, false] (.int .i64 t416.2) (some 48) want ?_
                  refine JY.all [19] ⟨⟨_, rfl, ?_⟩, trivial⟩
                  refine JL.store 5 b435 0 25 [.int .i64 0, .int .i64 0, .int .i64 0, .int .i64 0, .int .i64 0, .int .i64 0, .int .i64 0, .int .i64 0, .int .i64 0, .int .i64 0, .int .i64 0, .int .i64 0] [.int .i64 t416.1.e0.Re, .int .i64 t416.1.e0.Im, .int .i64 t416.1.e0.Den, .int .i64 t416.1.e1.Re, .int .i64 t416.1.e1.Im, .int .i64 t416.1.e1.Den, .int .i64 t416.1.e2.Re, .int .i64 t416.1.e2.Im, .int .i64 t416.1.e2.Den, .int .i64 t416.1.e3.Re, .int .i64 t416.1.e3.Im, .int .i64 t416.1.e3.Den] tySize_25 ?_
                  refine JL.nil ?_
                  refine JY.ranD #[true, true, true, true, true, true, true, true, true, true, true, true, true, true, true, true, true, true, true, true, false] ?_
                  refine JY.pur (hi := rfl) 20 #[true, true, true, true, true, true, true, true, true, true, true, true, true, true, true, true, true, true, true, true, true] (.int .i64 t416.2) (some 12) want ?_
                  refine JY.done ?_
                  refine JQ.then_normal ?_
                  exact JQ.meet (t416.1, t416.2) b435 H1 (fun _ h => Heap.to (Heap.pick [0, 1, 3, 5, 2] (by decide) h))
              · refine JL.alloc [.int .i64 0, .int .i64 0, .int .i64 0, .int .i64 0, .int .i64 0, .int .i64 0, .int .i64 0, .int .i64 0, .int .i64 0, .int .i64 0, .int .i64 0, .int .i64 0] fun b438 => ?_
                refine JL.nil ?_
                refine JY.ran #[true, true, true, true, true, true, true, true, true, true, true, true, true, false, false, false, false, false, true, false, false] [true, true, true, true, false] ?_
                refine JY.all [13] ⟨⟨_, rfl, ?_⟩, trivial⟩
                refine JL.buildSl 25 ((flArr4 fl_Cx).kd) (([(ix t1 ((ix l5 x241).I)), (ix l5 x241).V, t413] : List (A4 Cx)) : List (A4 Cx)) [.int .i64 ((ix t1 ((ix l5 x241).I)).e0.Re), .int .i64 ((ix t1 ((ix l5 x241).I)).e0.Im), .int .i64 ((ix t1 ((ix l5 x241).I)).e0.Den), .int .i64 ((ix t1 ((ix l5 x241).I)).e1.Re), .int .i64 ((ix t1 ((ix l5 x241).I)).e1.Im), .int .i64 ((ix t1 ((ix l5 x241).I)).e1.Den), .int .i64 ((ix t1 ((ix l5 x241).I)).e2.Re), .int .i64 ((ix t1 ((ix l5 x241).I)).e2.Im), .int .i64 ((ix t1 ((ix l5 x241).I)).e2.Den), .int .i64 ((ix t1 ((ix l5 x241).I)).e3.Re), .int .i64 ((ix t1 ((ix l5 x241).I)).e3.Im), .int .i64 ((ix t1 ((ix l5 x241).I)).e3.Den), .int .i64 ((ix l5 x241).V.e0.Re), .int .i64 ((ix l5 x241).V.e0.Im), .int .i64 ((ix l5 x241).V.e0.Den), .int .i64 ((ix l5 x241).V.e1.Re), .int .i64 ((ix l5 x241).V.e1.Im), .int .i64 ((ix l5 x241).V.e1.Den), .int .i64 ((ix l5 x241).V.e2.Re), .int .i64 ((ix l5 x241).V.e2.Im), .int .i64 ((ix l5 x241).V.e2.Den), .int .i64 ((ix l5 x241).V.e3.Re), .int .i64 ((ix l5 x241).V.e3.Im), .int .i64 ((ix l5 x241).V.e3.Den), .int .i64 t413.e0.Re, .int .i64 t413.e0.Im, .int .i64 t413.e0.Den, .int .i64 t413.e1.Re, .int .i64 t413.e1.Im, .int .i64 t413.e1.Den, .int .i64 t413.e2.Re, .int .i64 t413.e2.Im, .int .i64 t413.e2.Den, .int .i64 t413.e3.Re, .int .i64 t413.e3.Im, .int .i64 t413.e3.Den] false (closes_fl rfl) fun b439 => ?_
                refine JL.nil ?_
                refine JY.ran #[true, true, true, true, true, true, true, true, true, true, true, true, true, true, false, false, false, false, true, false, false] [true, true, true, true, false, false] ?_
                refine JY.all [14] ⟨⟨_, rfl, ?_⟩, trivial⟩
                refine JL.call [] [] [] (jones_product.ok ([(ix t1 ((ix l5 x241).I)), (ix l5 x241).V, t413] : List (A4 Cx)) (some ⟨b439, 0, none⟩) 3 _ hc417) ⟨pre_view 5 (view_row (some ⟨b439, 0, none⟩) 3 25 ((flArr4 fl_Cx).kd) ([(ix t1 ((ix l5 x241).I)), (ix l5 x241).V, t413] : List (A4 Cx)) false true), trivial⟩ ?_
                rintro _ _ ⟨rfl, rfl⟩
                refine JL.nil ?_
                refine JY.ran #[true, true, true, true, true, true, true, true, true, true, true, true, true, true, true, false, false, false, true, false, false] [true, true, true, true, false, false] ?_
                refine JY.pur (hi := rfl) 15 #[true, true, true, true, true, true, true, true, true, true, true, true, true, true, true, true, false, false, true, false, false] (.tuple #[.agg #[.int .i64 t416.1.e0.Re, .int .i64 t416.1.e0.Im, .int .i64 t416.1.e0.Den, .int .i64 t416.1.e1.Re, .int .i64 t416.1.e1.Im, .int .i64 t416.1.e1.Den, .int .i64 t416.1.e2.Re, .int .i64 t416.1.e2.Im, .int .i64 t416.1.e2.Den, .int .i64 t416.1.e3.Re, .int .i64 t416.1.e3.Im, .int .i64 t416.1.e3.Den], .int .i64 t416.2]) (some 31) want ?_
                refine JY.pur (hi := rfl) 16 #[true, true, true, true, true, true, true, true, true, true, true, true, true, true, true, true, true, false, true, false, false] (.agg #[.int .i64 t416.1.e0.Re, .int .i64 t416.1.e0.Im, .int .i64 t416.1.e0.Den, .int .i64 t416.1.e1.Re, .int .i64 t416.1.e1.Im, .int .i64 t416.1.e1.Den, .int .i64 t416.1.e2.Re, .int .i64 t416.1.e2.Im, .int .i64 t416.1.e2.Den, .int .i64 t416.1.e3.Re, .int .i64 t416.1.e3.Im, .int .i64 t416.1.e3.Den]) (some 47) want ?_
                refine JY.pur (hi := rfl) 17 #[true, true, true, true, true, true, true, true, true, true, true, true, true, true, true, true, true, true, true, false, false] (.int .i64 t416.2) (some 48) want ?_
                refine JY.all [19] ⟨⟨_, rfl, ?_⟩, trivial⟩
                refine JL.store 4 b438 0 25 [.int .i64 0, .int .i64 0, .int .i64 0, .int .i64 0, .int .i64 0, .int .i64 0, .int .i64 0, .int .i64 0, .int .i64 0, .int .i64 0, .int .i64 0, .int .i64 0] [.int .i64 t416.1.e0.Re, .int .i64 t416.1.e0.Im, .int .i64 t416.1.e0.Den, .int .i64 t416.1.e1.Re, .int .i64 t416.1.e1.Im, .int .i64 t416.1.e1.Den, .int .i64 t416.1.e2.Re, .int .i64 t416.1.e2.Im, .int .i64 t416.1.e2.Den, .int .i64 t416.1.e3.Re, .int .i64 t416.1.e3.Im, .int .i64 t416.1.e3.Den] tySize_25 ?_
                refine JL.nil ?_
                refine JY.ranD #[true, true, true, true, true, true, true, true, true, true, true, true, true, true, true, true, true, true, true, true, false] ?_
                refine JY.pur (hi := rfl) 20 #[true, true, true, true, true, true, true, true, true, true, true, true, true, true, true, true, true, true, true, true, true] (.int .i64 t416.2) (some 12) want ?_
                refine JY.done ?_
                refine JQ.then_normal ?_
                exact JQ.meet (t416.1, t416.2) b438 H1 (fun _ h => Heap.to (Heap.pick [0, 1, 3, 4, 2] (by decide) h))
            · refine JL.alloc [.int .i64 0, .int .i64 0, .int .i64 0, .int .i64 0, .int .i64 0, .int .i64 0, .int .i64 0, .int .i64 0, .int .i64 0, .int .i64 0, .int .i64 0, .int .i64 0] fun b442 => ?_
              refine JL.nil ?_
              refine JY.ran #[true, true, true, true, true, true, true, true, true, true, true, true, false, false, false, false, false, false, true, false, false] [true, true, true, true, false] ?_
              refine JY.all [12] ⟨⟨_, rfl, ?_⟩, trivial⟩
              refine JL.call [] [] [] (jones_adjoint.ok (ix t1 ((ix l5 x241).J)) _ hc414) trivial ?_
              rintro _ _ ⟨rfl, rfl⟩
              refine JL.nil ?_
              refine JY.ran #[true, true, true, true, true, true, true, true, true, true, true, true, true, false, false, false, false, false, true, false, false] [true, true, true, true, false] ?_
              refine JY.all [13] ⟨⟨_, rfl, ?_⟩, trivial⟩
              refine JL.buildSl 25 ((flArr4 fl_Cx).kd) (([(ix t1 ((ix l5 x241).I)), (ix l5 x241).V, t413] : List (A4 Cx)) : List (A4 Cx)) [.int .i64 ((ix t1 ((ix l5 x241).I)).e0.Re), .int .i64 ((ix t1 ((ix l5 x241).I)).e0.Im), .int .i64 ((ix t1 ((ix l5 x241).I)).e0.Den), .int .i64 ((ix t1 ((ix l5 x241).I)).e1.Re), .int .i64 ((ix t1 ((ix l5 x241).I)).e1.Im), .int .i64 ((ix t1 ((ix l5 x241).I)).e1.Den), .int .i64 ((ix t1 ((ix l5 x241).I)).e2.Re), .int .i64 ((ix t1 ((ix l5 x241).I)).e2.Im), .int .i64 ((ix t1 ((ix l5 x241).I)).e2.Den), .int .i64 ((ix t1 ((ix l5 x241).I)).e3.Re), .int .i64 ((ix t1 ((ix l5 x241).I)).e3.Im), .int .i64 ((ix t1 ((ix l5 x241).I)).e3.Den), .int .i64 ((ix l5 x241).V.e0.Re), .int .i64 ((ix l5 x241).V.e0.Im), .int .i64 ((ix l5 x241).V.e0.Den), .int .i64 ((ix l5 x241).V.e1.Re), .int .i64 ((ix l5 x241).V.e1.Im), .int .i64 ((ix l5 x241).V.e1.Den), .int .i64 ((ix l5 x241).V.e2.Re), .int .i64 ((ix l5 x241).V.e2.Im), .int .i64 ((ix l5 x241).V.e2.Den), .int .i64 ((ix l5 x241).V.e3.Re), .int .i64 ((ix l5 x241).V.e3.Im), .int .i64 ((ix l5 x241).V.e3.Den), .int .i64 t413.e0.Re, .int .i64 t413.e0.Im, .int .i64 t413.e0.Den, .int .i64 t413.e1.Re, .int .i64 t413.e1.Im, .int .i64 t413.e1.Den, .int .i64 t413.e2.Re, .int .i64 t413.e2.Im, .int .i64 t413.e2.Den, .int .i64 t413.e3.Re, .int .i64 t413.e3.Im, .int .i64 t413.e3.Den] false (closes_fl rfl) fun b445 => ?_
              refine JL.nil ?_
              refine JY.ran #[true, true, true, true, true, true, true, true, true, true, true, true, true, true, false, false, false, false, true, false, false] [true, true, true, true, false, false] ?_
              refine JY.all [14] ⟨⟨_, rfl, ?_⟩, trivial⟩
              refine JL.call [] [] [] (jones_product.ok ([(ix t1 ((ix l5 x241).I)), (ix l5 x241).V, t413] : List (A4 Cx)) (some ⟨b445, 0, none⟩) 3 _ hc417) ⟨pre_view 5 (view_row (some ⟨b445, 0, none⟩) 3 25 ((flArr4 fl_Cx).kd) ([(ix t1 ((ix l5 x241).I)), (ix l5 x241).V, t413] : List (A4 Cx)) false true), trivial⟩ ?_
              rintro _ _ ⟨rfl, rfl⟩
              refine JL.nil ?_
              refine JY.ran #[true, true, true, true, true, true, true, true, true, true, true, true, true, true, true, false, false, false, true, false, false] [true, true, true, true, false, false] ?_
              refine JY.pur (hi := rfl) 15 #[true, true, true, true, true, true, true, true, true, true, true, true, true, true, true, true, false, false, true, false, false] (.tuple #[.agg #[.int .i64 t416.1.e0.Re, .int .i64 t416.1.e0.Im, .int .i64 t416.1.e0.Den, .int .i64 t416.1.e1.Re, .int .i64 t416.1.e1.Im, .int .i64 t416.1.e1.Den, .int .i64 t416.1.e2.Re, .int .i64 t416.1.e2.Im, .int .i64 t416.1.e2.Den, .int .i64 t416.1.e3.Re, .int .i64 t416.1.e3.Im, .int .i64 t416.1.e3.Den], .int .i64 t416.2]) (some 31) want ?_
              refine JY.pur (hi := rfl) 16 #[true, true, true, true, true, true, true, true, true, true, true, true, true, true, true, true, true, false, true, false, false] (.agg #[.int .i64 t416.1.e0.Re, .int .i64 t416.1.e0.Im, .int .i64 t416.1.e0.Den, .int .i64 t416.1.e1.Re, .int .i64 t416.1.e1.Im, .int .i64 t416.1.e1.Den, .int .i64 t416.1.e2.Re, .int .i64 t416.1.e2.Im, .int .i64 t416.1.e2.Den, .int .i64 t416.1.e3.Re, .int .i64 t416.1.e3.Im, .int .i64 t416.1.e3.Den]) (some 47) want ?_
              refine JY.pur (hi := rfl) 17 #[true, true, true, true, true, true, true, true, true, true, true, true, true, true, true, true, true, true, true, false, false] (.int .i64 t416.2) (some 48) want ?_
              refine JY.all [19] ⟨⟨_, rfl, ?_⟩, trivial⟩
              refine JL.store 4 b442 0 25 [.int .i64 0, .int .i64 0, .int .i64 0, .int .i64 0, .int .i64 0, .int .i64 0, .int .i64 0, .int .i64 0, .int .i64 0, .int .i64 0, .int .i64 0, .int .i64 0] [.int .i64 t416.1.e0.Re, .int .i64 t416.1.e0.Im, .int .i64 t416.1.e0.Den, .int .i64 t416.1.e1.Re, .int .i64 t416.1.e1.Im, .int .i64 t416.1.e1.Den, .int .i64 t416.1.e2.Re, .int .i64 t416.1.e2.Im, .int .i64 t416.1.e2.Den, .int .i64 t416.1.e3.Re, .int .i64 t416.1.e3.Im, .int .i64 t416.1.e3.Den] tySize_25 ?_
              refine JL.nil ?_
              refine JY.ranD #[true, true, true, true, true, true, true, true, true, true, true, true, true, true, true, true, true, true, true, true, false] ?_
              refine JY.pur (hi := rfl) 20 #[true, true, true, true, true, true, true, true, true, true, true, true, true, true, true, true, true, true, true, true, true] (.int .i64 t416.2) (some 12) want ?_
              refine JY.done ?_
              refine JQ.then_normal ?_
              exact JQ.meet (t416.1, t416.2) b442 H1 (fun _ h => Heap.to (Heap.pick [0, 1, 3, 4, 2] (by decide) h))
          · clear H1
            rintro ⟨v398, e399⟩ b396 H1
            replace H1 : jones_Act.k6 l5 out234 x241 v398 e399 = some st1 := H1
            unfold jones_Act.k6 at H1
            refine JQ.sub [(0, .slice A2 t1.length c3), (8, .slice A235 out234.length c236), (10, .pointer (some ⟨b352, 0, none⟩)), (11, .pointer (some ⟨b396, 0, none⟩)), (12, .int .i64 e399), (25, .slice (some ⟨g350, o351, none⟩) l5.length c239), (26, .int .i64 (l5.length : Int)), (27, .int .i64 x241)] ?_
            refine JQ.turn (Δ' := [At.rd A2 c3 ((flArr4 fl_Cx).kd) t1 true, At.row A235 c236 57 fl_Pol.kd out234 false, At.box b352 57 [.int .i64 ((ix l5 x241).I), .int .i64 ((ix l5 x241).J), .int .i64 ((ix l5 x241).V.e0.Re), .int .i64 ((ix l5 x241).V.e0.Im), .int .i64 ((ix l5 x241).V.e0.Den), .int .i64 ((ix l5 x241).V.e1.Re), .int .i64 ((ix l5 x241).V.e1.Im), .int .i64 ((ix l5 x241).V.e1.Den), .int .i64 ((ix l5 x241).V.e2.Re), .int .i64 ((ix l5 x241).V.e2.Im), .int .i64 ((ix l5 x241).V.e2.Den), .int .i64 ((ix l5 x241).V.e3.Re), .int .i64 ((ix l5 x241).V.e3.Im), .int .i64 ((ix l5 x241).V.e3.Den), .int .i64 ((ix l5 x241).N)], At.box b396 25 [.int .i64 v398.e0.Re, .int .i64 v398.e0.Im, .int .i64 v398.e0.Den, .int .i64 v398.e1.Re, .int .i64 v398.e1.Im, .int .i64 v398.e1.Den, .int .i64 v398.e2.Re, .int .i64 v398.e2.Im, .int .i64 v398.e2.Den, .int .i64 v398.e3.Re, .int .i64 v398.e3.Im, .int .i64 v398.e3.Den], At.rd (some ⟨g350, o351, none⟩) c239 fl_Pol.kd l5 true]) (fun _ h => h.to) ?_
            refine J.seq ?_
            refine J.seq ?_
            refine J.region ?_
            refine JL.mv (.int .i64 e399) ?_
            refine JL.pur (.bool (!decide (e399 = 0))) (some 50) ?_
            refine JL.nil ?_
            refine JQ.then_normal ?_
            refine JQ.sub [(0, .slice A2 t1.length c3), (8, .slice A235 out234.length c236), (10, .pointer (some ⟨b352, 0, none⟩)), (11, .pointer (some ⟨b396, 0, none⟩)), (12, .int .i64 e399), (25, .slice (some ⟨g350, o351, none⟩) l5.length c239), (26, .int .i64 (l5.length : Int)), (27, .int .i64 x241), (50, .bool (!decide (e399 = 0)))] ?_
            rcases ite_cases H1 with ⟨h400, H1⟩ | ⟨h400, H1⟩
            · refine J.cond_true h400 ?_
              refine J.seq ?_
              refine J.region ?_
              refine JL.mv (.int .i64 e399) ?_
              refine JL.as (.slice none 0 0) ?_
              refine JL.as (.int .i64 e399) ?_
              refine JL.nil ?_
              refine JQ.then_normal ?_
              refine JQ.sub [(4, .slice none 0 0), (5, .int .i64 e399)] ?_
              refine JQ.mask [] [false, false, false, false, false] ?_
              refine J.ret ?_
              refine JQ.then_ret ?_
              refine JQ.blk_ret ?_
              refine JQ.then_ret ?_
              refine JQ.then_ret ?_
              refine JQ.blk_ret ?_
              refine JQ.met_ret ?_
              refine JQ.then_ret ?_
              rw [hr1 _ (Option.some.inj H1).symm, fin_ret] at H0
              obtain rfl := Option.some.inj H0
              exact JQ.done' (rs := [.tmp 4, .tmp 5]) (vs := [.slice none 0 0, .int .i64 e399]) [At.row none 0 57 fl_Pol.kd ([] : List Pol) false] (.inr rfl) ⟨by kernel_rfl, by kernel_rfl, trivial⟩ (fun _ h => Heap.to (Heap.addRow0 (α := Pol) 57 fl_Pol.kd false h)) ⟨none, 0, rfl, rfl⟩
            · refine J.cond_false h400 ?_
              refine J.skip ?_
              refine JQ.then_normal ?_
              refine JQ.sub [(0, .slice A2 t1.length c3), (8, .slice A235 out234.length c236), (10, .pointer (some ⟨b352, 0, none⟩)), (11, .pointer (some ⟨b396, 0, none⟩)), (25, .slice (some ⟨g350, o351, none⟩) l5.length c239), (26, .int .i64 (l5.length : Int)), (27, .int .i64 x241)] ?_
              refine J.seq ?_
              refine J.region ?_
              refine JL.val (.agg #[.int .i64 v398.e0.Re, .int .i64 v398.e0.Im, .int .i64 v398.e0.Den, .int .i64 v398.e1.Re, .int .i64 v398.e1.Im, .int .i64 v398.e1.Den, .int .i64 v398.e2.Re, .int .i64 v398.e2.Im, .int .i64 v398.e2.Den, .int .i64 v398.e3.Re, .int .i64 v398.e3.Im, .int .i64 v398.e3.Den]) (some 52) (yields_load_boxes 3 0 [.int .i64 v398.e0.Re, .int .i64 v398.e0.Im, .int .i64 v398.e0.Den, .int .i64 v398.e1.Re, .int .i64 v398.e1.Im, .int .i64 v398.e1.Den, .int .i64 v398.e2.Re, .int .i64 v398.e2.Im, .int .i64 v398.e2.Den, .int .i64 v398.e3.Re, .int .i64 v398.e3.Im, .int .i64 v398.e3.Den] (holds_box b396 25 [.int .i64 v398.e0.Re, .int .i64 v398.e0.Im, .int .i64 v398.e0.Den, .int .i64 v398.e1.Re, .int .i64 v398.e1.Im, .int .i64 v398.e1.Den, .int .i64 v398.e2.Re, .int .i64 v398.e2.Im, .int .i64 v398.e2.Den, .int .i64 v398.e3.Re, .int .i64 v398.e3.Im, .int .i64 v398.e3.Den]) tyAgg_25 tySize_25) ?_
              refine JL.pur (.pointer (some ⟨b352, 2, none⟩)) (some 53) ?_
              refine JL.store 2 b352 2 57 [.int .i64 ((ix l5 x241).I), .int .i64 ((ix l5 x241).J), .int .i64 ((ix l5 x241).V.e0.Re), .int .i64 ((ix l5 x241).V.e0.Im), .int .i64 ((ix l5 x241).V.e0.Den), .int .i64 ((ix l5 x241).V.e1.Re), .int .i64 ((ix l5 x241).V.e1.Im), .int .i64 ((ix l5 x241).V.e1.Den), .int .i64 ((ix l5 x241).V.e2.Re), .int .i64 ((ix l5 x241).V.e2.Im), .int .i64 ((ix l5 x241).V.e2.Den), .int .i64 ((ix l5 x241).V.e3.Re), .int .i64 ((ix l5 x241).V.e3.Im), .int .i64 ((ix l5 x241).V.e3.Den), .int .i64 ((ix l5 x241).N)] [.int .i64 ((ix l5 x241).I), .int .i64 ((ix l5 x241).J), .int .i64 v398.e0.Re, .int .i64 v398.e0.Im, .int .i64 v398.e0.Den, .int .i64 v398.e1.Re, .int .i64 v398.e1.Im, .int .i64 v398.e1.Den, .int .i64 v398.e2.Re, .int .i64 v398.e2.Im, .int .i64 v398.e2.Den, .int .i64 v398.e3.Re, .int .i64 v398.e3.Im, .int .i64 v398.e3.Den, .int .i64 ((ix l5 x241).N)] tySize_25 ?_
              refine JL.nil ?_
              refine JQ.then_normal ?_
              refine JQ.sub [(0, .slice A2 t1.length c3), (8, .slice A235 out234.length c236), (10, .pointer (some ⟨b352, 0, none⟩)), (25, .slice (some ⟨g350, o351, none⟩) l5.length c239), (26, .int .i64 (l5.length : Int)), (27, .int .i64 x241)] ?_
              refine JQ.mask [At.rd A2 c3 ((flArr4 fl_Cx).kd) t1 true, At.row A235 c236 57 fl_Pol.kd out234 false, At.box b352 57 [.int .i64 ((ix l5 x241).I), .int .i64 ((ix l5 x241).J), .int .i64 v398.e0.Re, .int .i64 v398.e0.Im, .int .i64 v398.e0.Den, .int .i64 v398.e1.Re, .int .i64 v398.e1.Im, .int .i64 v398.e1.Den, .int .i64 v398.e2.Re, .int .i64 v398.e2.Im, .int .i64 v398.e2.Den, .int .i64 v398.e3.Re, .int .i64 v398.e3.Im, .int .i64 v398.e3.Den, .int .i64 ((ix l5 x241).N)], At.rd (some ⟨g350, o351, none⟩) c239 fl_Pol.kd l5 true] [true, true, true, false, true] ?_
              refine J.region ?_
              refine JL.mv (.slice A235 out234.length c236) ?_
              refine JL.val (.agg #[.int .i64 ((ix l5 x241).I), .int .i64 ((ix l5 x241).J), .int .i64 v398.e0.Re, .int .i64 v398.e0.Im, .int .i64 v398.e0.Den, .int .i64 v398.e1.Re, .int .i64 v398.e1.Im, .int .i64 v398.e1.Den, .int .i64 v398.e2.Re, .int .i64 v398.e2.Im, .int .i64 v398.e2.Den, .int .i64 v398.e3.Re, .int .i64 v398.e3.Im, .int .i64 v398.e3.Den, .int .i64 ((ix l5 x241).N)]) (some 55) (yields_load_boxes 2 0 [.int .i64 ((ix l5 x241).I), .int .i64 ((ix l5 x241).J), .int .i64 v398.e0.Re, .int .i64 v398.e0.Im, .int .i64 v398.e0.Den, .int .i64 v398.e1.Re, .int .i64 v398.e1.Im, .int .i64 v398.e1.Den, .int .i64 v398.e2.Re, .int .i64 v398.e2.Im, .int .i64 v398.e2.Den, .int .i64 v398.e3.Re, .int .i64 v398.e3.Im, .int .i64 v398.e3.Den, .int .i64 ((ix l5 x241).N)] (holds_box b352 57 [.int .i64 ((ix l5 x241).I), .int .i64 ((ix l5 x241).J), .int .i64 v398.e0.Re, .int .i64 v398.e0.Im, .int .i64 v398.e0.Den, .int .i64 v398.e1.Re, .int .i64 v398.e1.Im, .int .i64 v398.e1.Den, .int .i64 v398.e2.Re, .int .i64 v398.e2.Im, .int .i64 v398.e2.Den, .int .i64 v398.e3.Re, .int .i64 v398.e3.Im, .int .i64 v398.e3.Den, .int .i64 ((ix l5 x241).N)]) tyAgg_57 tySize_57) ?_
              refine JL.buildSl 57 fl_Pol.kd (([(⟨((ix l5 x241).I), ((ix l5 x241).J), v398, ((ix l5 x241).N)⟩ : Pol)] : List Pol) : List Pol) [.int .i64 ((ix l5 x241).I), .int .i64 ((ix l5 x241).J), .int .i64 v398.e0.Re, .int .i64 v398.e0.Im, .int .i64 v398.e0.Den, .int .i64 v398.e1.Re, .int .i64 v398.e1.Im, .int .i64 v398.e1.Den, .int .i64 v398.e2.Re, .int .i64 v398.e2.Im, .int .i64 v398.e2.Den, .int .i64 v398.e3.Re, .int .i64 v398.e3.Im, .int .i64 v398.e3.Den, .int .i64 ((ix l5 x241).N)] false (closes_fl rfl) fun b401 => ?_
              obtain ⟨h404, H1⟩ := ite_must H1
              refine JL.append false false 1 4 A235 c236 1 out234 (elems_row (some ⟨b401, 0, none⟩) 1 57 fl_Pol.kd ([(⟨((ix l5 x241).I), ((ix l5 x241).J), v398, ((ix l5 x241).N)⟩ : Pol)] : List Pol) false) Try.underlying39 info_57 (by omega) (by omega) (fun h => h) (.inr ⟨_, rfl⟩) fun A402 c403 => ?_
              refine JL.as (.slice A402 (out234 ++ ([(⟨((ix l5 x241).I), ((ix l5 x241).J), v398, ((ix l5 x241).N)⟩ : Pol)] : List Pol)).length c403) ?_
              refine JL.nil ?_
              refine JQ.blk_normal ?_
              refine JQ.then_normal ?_
              refine JQ.sub [(0, .slice A2 t1.length c3), (8, .slice A402 (out234 ++ ([(⟨((ix l5 x241).I), ((ix l5 x241).J), v398, ((ix l5 x241).N)⟩ : Pol)] : List Pol)).length c403), (25, .slice (some ⟨g350, o351, none⟩) l5.length c239), (26, .int .i64 (l5.length : Int)), (27, .int .i64 x241)] ?_
              refine JQ.mask [At.rd A2 c3 ((flArr4 fl_Cx).kd) t1 true, At.row A402 c403 57 fl_Pol.kd (out234 ++ ([(⟨((ix l5 x241).I), ((ix l5 x241).J), v398, ((ix l5 x241).N)⟩ : Pol)] : List Pol)) false, At.rd (some ⟨g350, o351, none⟩) c239 fl_Pol.kd l5 true] [true, true, false, true, false] ?_
              refine J.region ?_
              refine JL.pur (.int .i64 (w64 (x241 + 1))) (some 58) ?_
              refine JL.mv (.int .i64 (w64 (x241 + 1))) ?_
              refine JL.nil ?_
              refine JQ.then_normal ?_
              exact JQ.again ((out234 ++ ([(⟨((ix l5 x241).I), ((ix l5 x241).J), v398, ((ix l5 x241).N)⟩ : Pol)] : List Pol)), w64 (x241 + 1)) (A402, c403, (some ⟨g350, o351, none⟩), c239) (Option.some.inj H1).symm (fun _ h => Heap.to h)
        · refine J.cond_false h347 ?_
          refine J.exit ?_
          refine JQ.then_exit ?_
          refine JQ.then_exit ?_
          refine JQ.blk_exit ?_
          rw [hb1 _ (Option.some.inj H1).symm, fin_brk] at H0
          exact JQ.met out234 (A235, c236) H0 (fun _ h => Heap.to (Heap.pick [1] (by decide) h))
      · clear hit H0
        rintro out343 ⟨A344, c345⟩ H0
        replace H0 : jones_Act.k5 out343 = some r := H0
        unfold jones_Act.k5 at H0
        refine JQ.sub [(8, .slice A344 out343.length c345)] ?_
        refine JQ.turn (Δ' := [At.row A344 c345 57 fl_Pol.kd out343 false]) (fun _ h => h.to) ?_
        refine JQ.then_normal ?_
        refine J.seq ?_
        refine J.region ?_
        refine JL.mv (.slice A344 out343.length c345) ?_
        refine JL.as (.slice A344 out343.length c345) ?_
        refine JL.as (.int .i64 0) ?_
        refine JL.nil ?_
        refine JQ.then_normal ?_
        refine JQ.sub [(4, .slice A344 out343.length c345), (5, .int .i64 0)] ?_
        refine J.ret ?_
        obtain rfl := Option.some.inj H0
        exact JQ.done' (rs := [.tmp 4, .tmp 5]) (vs := [.slice A344 out343.length c345, .int .i64 0]) [At.row A344 c345 57 fl_Pol.kd out343 false] (.inr rfl) ⟨by kernel_rfl, by kernel_rfl, trivial⟩ (fun _ h => Heap.to h) ⟨A344, c345, rfl, rfl⟩

theorem ref33_Same.ok (a1 : (List Pol)) (A2 : Option Addr) (c3 : Nat) (b5 : (List Pol)) (A6 : Option Addr) (c7 : Nat) (r : Bool) (H0 : ref33_Same.f a1 b5 = some r) :
    Does Try.prog 23 [.slice A2 a1.length c3, .slice A6 b5.length c7].toArray [At.rd A2 c3 fl_Pol.kd a1 true, At.rd A6 c7 fl_Pol.kd b5 true] [] false (fun v Δ => v = .bool r ∧ Δ = []) := by
  refine Does.body (vs := [.slice A2 a1.length c3, .slice A6 b5.length c7]) Try.func23 rfl ⟨.inl rfl, .inl rfl, trivial⟩ trivial fun w S => ?_
  unfold ref33_Same.f at H0
  refine J.seq ?_
  refine J.region ?_
  refine JL.as (.bool false) ?_
  refine JL.nil ?_
  refine JQ.then_normal ?_
  refine JQ.sub [(0, .slice A2 a1.length c3), (1, .slice A6 b5.length c7)] ?_
  refine J.seq ?_
  refine J.seq ?_
  refine J.region ?_
  refine JL.mv (.slice A2 a1.length c3) ?_
  refine JL.pur (.int .i64 (a1.length : Int)) (some 7) ?_
  refine JL.mv (.slice A6 b5.length c7) ?_
  refine JL.pur (.int .i64 (b5.length : Int)) (some 9) ?_
  refine JL.pur (.bool (!decide ((a1.length : Int) = (b5.length : Int)))) (some 10) ?_
  refine JL.nil ?_
  refine JQ.then_normal ?_
  refine JQ.sub [(0, .slice A2 a1.length c3), (1, .slice A6 b5.length c7), (10, .bool (!decide ((a1.length : Int) = (b5.length : Int))))] ?_
  rcases ite_cases H0 with ⟨h9, H0⟩ | ⟨h9, H0⟩
  · refine J.cond_true h9 ?_
    refine J.seq ?_
    refine J.region ?_
    refine JL.as (.bool false) ?_
    refine JL.nil ?_
    refine JQ.then_normal ?_
    refine JQ.sub [(4, .bool false)] ?_
    refine JQ.mask [] [false, false] ?_
    refine J.ret ?_
    refine JQ.then_ret ?_
    obtain rfl := Option.some.inj H0
    exact JQ.done' (rs := [.tmp 4]) (vs := [.bool false]) [] (.inr rfl) ⟨by kernel_rfl, trivial⟩ (fun _ h => Heap.to h) ⟨rfl, rfl⟩
  · refine J.cond_false h9 ?_
    refine J.skip ?_
    refine JQ.then_normal ?_
    refine JQ.sub [(0, .slice A2 a1.length c3), (1, .slice A6 b5.length c7)] ?_
    refine J.seq ?_
    refine J.seq ?_
    refine J.region ?_
    refine JL.as (.int .i64 0) ?_
    refine JL.nil ?_
    refine JQ.then_normal ?_
    obtain ⟨o1, hit, H0⟩ := bind_some H0
    refine J.loop (σ := Int) (τ := Unit) (G := Unit) (G' := Unit) _ o1 (fun s g => [(0, .slice A2 a1.length c3), (1, .slice A6 b5.length c7), (5, .int .i64 s)]) (fun s g => [At.rd A2 c3 fl_Pol.kd a1 true, At.rd A6 c7 fl_Pol.kd b5 true]) (fun t => ref33_Same.k2 = some r) (fun t g => []) (fun t g => []) 0 () hit (fun _ h => Heap.to h) ?_ ?_
    · clear hit
      rintro i32 ⟨⟩ st1 H1 hb1 hr1
      replace H1 : ref33_Same.s1 a1 b5 i32 = some st1 := H1
      unfold ref33_Same.s1 at H1
      refine JQ.sub [(0, .slice A2 a1.length c3), (1, .slice A6 b5.length c7), (5, .int .i64 i32)] ?_
      refine JQ.turn (Δ' := [At.rd A2 c3 fl_Pol.kd a1 true, At.rd A6 c7 fl_Pol.kd b5 true]) (fun _ h => h.to) ?_
      refine J.seq ?_
      refine J.seq ?_
      refine J.region ?_
      refine JL.mv (.int .i64 i32) ?_
      refine JL.mv (.slice A2 a1.length c3) ?_
      refine JL.pur (.int .i64 (a1.length : Int)) (some 13) ?_
      refine JL.pur (.bool (decide (i32 < (a1.length : Int)))) (some 14) ?_
      refine JL.nil ?_
      refine JQ.then_normal ?_
      refine JQ.sub [(0, .slice A2 a1.length c3), (1, .slice A6 b5.length c7), (5, .int .i64 i32), (14, .bool (decide (i32 < (a1.length : Int))))] ?_
      rcases ite_cases H1 with ⟨h43, H1⟩ | ⟨h43, H1⟩
      · refine J.cond_true h43 ?_
        refine J.skip ?_
        refine JQ.then_normal ?_
        refine JQ.sub [(0, .slice A2 a1.length c3), (1, .slice A6 b5.length c7), (5, .int .i64 i32)] ?_
        refine J.seq ?_
        refine J.block ?_
        refine J.seq ?_
        refine J.draw ?_
        refine QL.mv (.slice A2 a1.length c3) ?_
        refine QL.mv (.int .i64 i32) ?_
        obtain ⟨⟨h44, h45⟩, H1⟩ := ite_must H1
        refine QL.ixAddr 0 15 c3 .i64 (elems_rd A2 c3 fl_Pol.kd a1 true) Try.underlying39 tySize_57 h44 h45 fun g46 o47 hA => ?_
        subst hA
        refine QL.val (.agg #[.int .i64 ((ix a1 i32).I), .int .i64 ((ix a1 i32).J), .int .i64 ((ix a1 i32).V.e0.Re), .int .i64 ((ix a1 i32).V.e0.Im), .int .i64 ((ix a1 i32).V.e0.Den), .int .i64 ((ix a1 i32).V.e1.Re), .int .i64 ((ix a1 i32).V.e1.Im), .int .i64 ((ix a1 i32).V.e1.Den), .int .i64 ((ix a1 i32).V.e2.Re), .int .i64 ((ix a1 i32).V.e2.Im), .int .i64 ((ix a1 i32).V.e2.Den), .int .i64 ((ix a1 i32).V.e3.Re), .int .i64 ((ix a1 i32).V.e3.Im), .int .i64 ((ix a1 i32).V.e3.Den), .int .i64 ((ix a1 i32).N)]) (some 20) (gives_loadEl (f := fl_Pol) 0 0 i32 (elems_rd (some ⟨g46, o47, none⟩) c3 fl_Pol.kd a1 true) h44 h45 tySize_57 (.inl ⟨tyAgg_57, rfl⟩)) ?_
        refine QL.mv (.slice A6 b5.length c7) ?_
        refine QL.mv (.int .i64 i32) ?_
        obtain ⟨⟨h48, h49⟩, H1⟩ := ite_must H1
        refine QL.ixAddr 1 15 c7 .i64 (elems_rd A6 c7 fl_Pol.kd b5 true) Try.underlying39 tySize_57 h48 h49 fun g50 o51 hA => ?_
        subst hA
        refine QL.val (.agg #[.int .i64 ((ix b5 i32).I), .int .i64 ((ix b5 i32).J), .int .i64 ((ix b5 i32).V.e0.Re), .int .i64 ((ix b5 i32).V.e0.Im), .int .i64 ((ix b5 i32).V.e0.Den), .int .i64 ((ix b5 i32).V.e1.Re), .int .i64 ((ix b5 i32).V.e1.Im), .int .i64 ((ix b5 i32).V.e1.Den), .int .i64 ((ix b5 i32).V.e2.Re), .int .i64 ((ix b5 i32).V.e2.Im), .int .i64 ((ix b5 i32).V.e2.Den), .int .i64 ((ix b5 i32).V.e3.Re), .int .i64 ((ix b5 i32).V.e3.Im), .int .i64 ((ix b5 i32).V.e3.Den), .int .i64 ((ix b5 i32).N)]) (some 24) (gives_loadEl (f := fl_Pol) 1 0 i32 (elems_rd (some ⟨g50, o51, none⟩) c7 fl_Pol.kd b5 true) h48 h49 tySize_57 (.inl ⟨tyAgg_57, rfl⟩)) ?_
        refine QL.val (.bool (!decide ((ix a1 i32) = (ix b5 i32)))) (some 25) (gives_neq eqg_57 (fun w => eqt_57 (ix a1 i32) (ix b5 i32) w)) ?_
        refine QL.nil ?_
        refine JA.nil ?_
        refine JQ.then_normal ?_
        refine JQ.sub [(0, .slice (some ⟨g46, o47, none⟩) a1.length c3), (1, .slice (some ⟨g50, o51, none⟩) b5.length c7), (5, .int .i64 i32), (25, .bool (!decide ((ix a1 i32) = (ix b5 i32))))] ?_
        rcases ite_cases H1 with ⟨h52, H1⟩ | ⟨h52, H1⟩
        · refine J.cond_true h52 ?_
          refine J.seq ?_
          refine J.region ?_
          refine JL.as (.bool false) ?_
          refine JL.nil ?_
          refine JQ.then_normal ?_
          refine JQ.sub [(4, .bool false)] ?_
          refine JQ.mask [] [false, false] ?_
          refine J.ret ?_
          refine JQ.blk_ret ?_
          refine JQ.then_ret ?_
          refine JQ.then_ret ?_
          refine JQ.blk_ret ?_
          refine JQ.met_ret ?_
          refine JQ.then_ret ?_
          rw [hr1 _ (Option.some.inj H1).symm, fin_ret] at H0
          obtain rfl := Option.some.inj H0
          exact JQ.done' (rs := [.tmp 4]) (vs := [.bool false]) [] (.inr rfl) ⟨by kernel_rfl, trivial⟩ (fun _ h => Heap.to h) ⟨rfl, rfl⟩
        · refine J.cond_false h52 ?_
          refine J.skip ?_
          refine JQ.blk_normal ?_
          refine JQ.then_normal ?_
          refine JQ.sub [(0, .slice (some ⟨g46, o47, none⟩) a1.length c3), (1, .slice (some ⟨g50, o51, none⟩) b5.length c7), (5, .int .i64 i32)] ?_
          refine J.region ?_
          refine JL.mv (.int .i64 i32) ?_
          refine JL.pur (.int .i64 (w64 (i32 + 1))) (some 16) ?_
          refine JL.as (.int .i64 (w64 (i32 + 1))) ?_
          refine JL.nil ?_
          refine JQ.then_normal ?_
          exact JQ.again (w64 (i32 + 1)) () (Option.some.inj H1).symm (fun _ h => Heap.to h)
      · refine J.cond_false h43 ?_
        refine J.exit ?_
        refine JQ.then_exit ?_
        refine JQ.then_exit ?_
        refine JQ.blk_exit ?_
        rw [hb1 _ (Option.some.inj H1).symm, fin_brk] at H0
        exact JQ.met () () H0 (fun _ h => Heap.to (Heap.pick [] (by decide) h))
    · clear hit H0
      rintro ⟨⟩ ⟨⟩ H0
      replace H0 : ref33_Same.k2 = some r := H0
      unfold ref33_Same.k2 at H0
      refine JQ.sub [] ?_
      refine JQ.turn (Δ' := []) (fun _ h => h.to) ?_
      refine JQ.then_normal ?_
      refine J.seq ?_
      refine J.region ?_
      refine JL.as (.bool true) ?_
      refine JL.nil ?_
      refine JQ.then_normal ?_
      refine J.ret ?_
      obtain rfl := Option.some.inj H0
      exact JQ.done' (rs := [.tmp 4]) (vs := [.bool true]) [] (.inr rfl) ⟨by kernel_rfl, trivial⟩ (fun _ h => Heap.to h) ⟨rfl, rfl⟩


end Go.Proofs.Ytlfmmenlkpoodaa.M
