import Derived.Test.YtlfmmenlkpoodaaW2
set_option linter.unusedVariables false
set_option linter.unusedSimpArgs false
set_option maxRecDepth 100000
set_option maxHeartbeats 8000000
namespace Go.Proofs.Ytlfmmenlkpoodaa.M
open Go.GW Go.Proofs

theorem ref25_Gcd.ok (a1 : Int) (b2 : Int) (r : Int) (H0 : ref25_Gcd.f a1 b2 = some r) :
    Does Try.prog 69 [.int .i64 a1, .int .i64 b2].toArray [] [] false (fun v Δ => v = .int .i64 r ∧ Δ = []) := by
  refine Does.body (vs := [.int .i64 a1, .int .i64 b2]) Try.func69 rfl trivial trivial fun w S => ?_
  unfold ref25_Gcd.f at H0
  refine J.seq ?_
  refine J.region ?_
  refine JL.as (.int .i64 0) ?_
  refine JL.nil ?_
  refine JQ.then_normal ?_
  refine JQ.sub [(0, .int .i64 a1), (1, .int .i64 b2)] ?_
  refine J.seq ?_
  refine J.region ?_
  refine JL.mv (.int .i64 a1) ?_
  refine JL.mv (.int .i64 a1) ?_
  refine JL.pur (.int .i64 (w64 (0 - a1))) (some 7) ?_
  refine JL.pur (.int .i64 (gmax a1 (w64 (0 - a1)))) (some 8) ?_
  refine JL.mv (.int .i64 b2) ?_
  refine JL.mv (.int .i64 b2) ?_
  refine JL.pur (.int .i64 (w64 (0 - b2))) (some 11) ?_
  refine JL.pur (.int .i64 (gmax b2 (w64 (0 - b2)))) (some 12) ?_
  obtain ⟨a3, ea3, H0⟩ := lt_some H0
  refine JL.as' (k := .i64) a3 ea3 ?_
  obtain ⟨b4, eb4, H0⟩ := lt_some H0
  refine JL.as' (k := .i64) b4 eb4 ?_
  refine JL.nil ?_
  refine JQ.then_normal ?_
  refine JQ.sub [(0, .int .i64 a3), (1, .int .i64 b4)] ?_
  refine J.seq ?_
  obtain ⟨o1, hit, H0⟩ := bind_some H0
  refine J.loop (σ := (Int × Int)) (τ := Int) (G := Unit) (G' := Unit) _ o1 (fun s g => [(0, .int .i64 s.1), (1, .int .i64 s.2)]) (fun s g => []) (fun t => ref25_Gcd.k2 t = some r) (fun t g => [(0, .int .i64 t)]) (fun t g => []) (a3, b4) () hit (fun _ h => Heap.to h) ?_ ?_
  · clear hit
    rintro ⟨a13, b14⟩ ⟨⟩ st1 H1 hb1 hr1
    replace H1 : ref25_Gcd.s1 a13 b14 = some st1 := H1
    unfold ref25_Gcd.s1 at H1
    refine JQ.sub [(0, .int .i64 a13), (1, .int .i64 b14)] ?_
    refine JQ.turn (Δ' := []) (fun _ h => h.to) ?_
    refine J.seq ?_
    refine J.seq ?_
    refine J.region ?_
    refine JL.mv (.int .i64 b14) ?_
    refine JL.pur (.bool (!decide (b14 = 0))) (some 14) ?_
    refine JL.nil ?_
    refine JQ.then_normal ?_
    refine JQ.sub [(0, .int .i64 a13), (1, .int .i64 b14), (14, .bool (!decide (b14 = 0)))] ?_
    rcases ite_cases H1 with ⟨h19, H1⟩ | ⟨h19, H1⟩
    · refine J.cond_true h19 ?_
      refine J.skip ?_
      refine JQ.then_normal ?_
      refine JQ.sub [(0, .int .i64 a13), (1, .int .i64 b14)] ?_
      refine J.block ?_
      refine J.draw ?_
      refine QL.mv (.int .i64 b14) ?_
      refine QL.mv (.int .i64 a13) ?_
      refine QL.mv (.int .i64 b14) ?_
      obtain ⟨h20, H1⟩ := ite_must H1
      refine QL.val (.int .i64 (Int.tmod a13 b14)) (some 18) (gives_rem .i64 a13 b14 h20) ?_
      refine QL.as (.int .i64 b14) ?_
      obtain ⟨b21, eb21, H1⟩ := lt_some H1
      refine QL.as' (k := .i64) b21 eb21 ?_
      refine QL.nil ?_
      refine JA.nil ?_
      refine JQ.blk_normal ?_
      refine JQ.then_normal ?_
      exact JQ.again (b14, b21) () (Option.some.inj H1).symm (fun _ h => Heap.to h)
    · refine J.cond_false h19 ?_
      refine J.exit ?_
      refine JQ.then_exit ?_
      refine JQ.then_exit ?_
      refine JQ.blk_exit ?_
      rw [hb1 _ (Option.some.inj H1).symm, fin_brk] at H0
      exact JQ.met a13 () H0 (fun _ h => Heap.to h)
  · clear hit H0
    rintro a18 ⟨⟩ H0
    replace H0 : ref25_Gcd.k2 a18 = some r := H0
    unfold ref25_Gcd.k2 at H0
    refine JQ.sub [(0, .int .i64 a18)] ?_
    refine JQ.turn (Δ' := []) (fun _ h => h.to) ?_
    refine JQ.then_normal ?_
    refine J.seq ?_
    refine J.region ?_
    refine JL.mv (.int .i64 a18) ?_
    refine JL.as (.int .i64 a18) ?_
    refine JL.nil ?_
    refine JQ.then_normal ?_
    refine JQ.sub [(4, .int .i64 a18)] ?_
    refine J.ret ?_
    obtain rfl := Option.some.inj H0
    exact JQ.done' (rs := [.tmp 4]) (vs := [.int .i64 a18]) [] (.inr rfl) ⟨by kernel_rfl, trivial⟩ (fun _ h => Heap.to h) ⟨rfl, rfl⟩

theorem ref25_Check.ok (a1 : Cx) (r : Int) (H0 : ref25_Check.f a1 = some r) :
    Does Try.prog 53 [.agg #[.int .i64 a1.Re, .int .i64 a1.Im, .int .i64 a1.Den]].toArray [] [] false (fun v Δ => v = .int .i64 r ∧ Δ = []) := by
  refine Does.body (vs := [.agg #[.int .i64 a1.Re, .int .i64 a1.Im, .int .i64 a1.Den]]) Try.func53 rfl trivial trivial fun w S => ?_
  unfold ref25_Check.f at H0
  refine J.seq ?_
  refine J.region ?_
  refine JL.box [.int .i64 a1.Re, .int .i64 a1.Im, .int .i64 a1.Den] fun b2 => ?_
  refine JL.as (.int .i64 0) ?_
  refine JL.nil ?_
  refine JQ.then_normal ?_
  refine JQ.sub [(1, .pointer (some ⟨b2, 0, none⟩))] ?_
  refine J.seq ?_
  refine J.join (T := Bool) (G := Unit) (fun t => ref25_Check.k1 t = some r) (fun t g => [(41, .bool t)]) (fun t g => []) ?_ ?_
  · refine J.draw ?_
    refine QL.pur (.pointer (some ⟨b2, 2, none⟩)) (some 3) ?_
    refine QL.val (.int .i64 a1.Den) (some 4) (yields_load_box 0 2 (holds_box b2 23 [.int .i64 a1.Re, .int .i64 a1.Im, .int .i64 a1.Den]) tyAgg_2) ?_
    refine QL.pur (.bool (decide (a1.Den < 1))) (some 5) ?_
    refine QL.mv (.bool (decide (a1.Den < 1))) ?_
    rcases ite_cases H0 with ⟨h15, H0⟩ | ⟨h15, H0⟩
    · refine QL.off 3 6 false (some 7) h15 ?_
      refine QL.off 3 6 false (some 8) h15 ?_
      refine QL.off 3 6 false (some 9) h15 ?_
      refine QL.val (.bool true) (some 10) (gives_pickT h15) ?_
      refine QL.mv (.bool true) ?_
      refine QL.off 8 11 false (some 12) rfl ?_
      refine QL.off 8 11 false (some 13) rfl ?_
      refine QL.off 8 11 false (some 14) rfl ?_
      refine QL.val (.bool true) (some 15) (gives_pickT rfl) ?_
      refine QL.mv (.bool true) ?_
      refine QL.off 13 16 false (some 17) rfl ?_
      refine QL.off 13 16 false (some 18) rfl ?_
      refine QL.off 13 16 false (some 19) rfl ?_
      refine QL.val (.bool true) (some 20) (gives_pickT rfl) ?_
      refine QL.mv (.bool true) ?_
      refine QL.off 18 21 false (some 22) rfl ?_
      refine QL.off 18 21 false (some 23) rfl ?_
      refine QL.off 18 21 false (some 24) rfl ?_
      refine QL.val (.bool true) (some 25) (gives_pickT rfl) ?_
      refine QL.mv (.bool true) ?_
      refine QL.off 23 26 false (some 27) rfl ?_
      refine QL.off 23 26 false (some 28) rfl ?_
      refine QL.off 23 26 false (some 29) rfl ?_
      refine QL.val (.bool true) (some 30) (gives_pickT rfl) ?_
      refine QL.mv (.bool true) ?_
      refine QL.off 28 31 false (some 32) rfl ?_
      refine QL.off 28 31 false (some 33) rfl ?_
      refine QL.off 28 31 false (some 34) rfl ?_
      refine QL.off 28 31 false (some 35) rfl ?_
      refine QL.off 28 31 false (some 36) rfl ?_
      refine QL.off 28 31 false (some 37) rfl ?_
      refine QL.off 28 31 false (some 38) rfl ?_
      refine QL.off 28 31 false (some 39) rfl ?_
      refine QL.off 28 31 false (some 40) rfl ?_
      refine QL.val (.bool true) (some 41) (gives_pickT rfl) ?_
      refine QL.nil ?_
      refine JA.nil ?_
      refine JQ.then_normal ?_
      exact JQ.meet true () H0 (fun _ h => Heap.to (Heap.pick [] (by decide) h))
    · refine QL.on 3 6 h15 ?_
      refine QL.pur (.pointer (some ⟨b2, 2, none⟩)) (some 7) ?_
      refine QL.on 3 6 h15 ?_
      refine QL.val (.int .i64 a1.Den) (some 8) (yields_load_box 0 2 (holds_box b2 23 [.int .i64 a1.Re, .int .i64 a1.Im, .int .i64 a1.Den]) tyAgg_2) ?_
      refine QL.on 3 6 h15 ?_
      refine QL.pur (.bool (decide (1000000000 < a1.Den))) (some 9) ?_
      refine QL.val (.bool (decide (1000000000 < a1.Den))) (some 10) (gives_pickF h15) ?_
      refine QL.mv (.bool (decide (1000000000 < a1.Den))) ?_
      rcases ite_cases H0 with ⟨h16, H0⟩ | ⟨h16, H0⟩
      · refine QL.off 8 11 false (some 12) h16 ?_
        refine QL.off 8 11 false (some 13) h16 ?_
        refine QL.off 8 11 false (some 14) h16 ?_
        refine QL.val (.bool true) (some 15) (gives_pickT h16) ?_
        refine QL.mv (.bool true) ?_
        refine QL.off 13 16 false (some 17) rfl ?_
        refine QL.off 13 16 false (some 18) rfl ?_
        refine QL.off 13 16 false (some 19) rfl ?_
        refine QL.val (.bool true) (some 20) (gives_pickT rfl) ?_
        refine QL.mv (.bool true) ?_
        refine QL.off 18 21 false (some 22) rfl ?_
        refine QL.off 18 21 false (some 23) rfl ?_
        refine QL.off 18 21 false (some 24) rfl ?_
        refine QL.val (.bool true) (some 25) (gives_pickT rfl) ?_
        refine QL.mv (.bool true) ?_
        refine QL.off 23 26 false (some 27) rfl ?_
        refine QL.off 23 26 false (some 28) rfl ?_
        refine QL.off 23 26 false (some 29) rfl ?_
        refine QL.val (.bool true) (some 30) (gives_pickT rfl) ?_
        refine QL.mv (.bool true) ?_
        refine QL.off 28 31 false (some 32) rfl ?_
        refine QL.off 28 31 false (some 33) rfl ?_
        refine QL.off 28 31 false (some 34) rfl ?_
        refine QL.off 28 31 false (some 35) rfl ?_
        refine QL.off 28 31 false (some 36) rfl ?_
        refine QL.off 28 31 false (some 37) rfl ?_
        refine QL.off 28 31 false (some 38) rfl ?_
        refine QL.off 28 31 false (some 39) rfl ?_
        refine QL.off 28 31 false (some 40) rfl ?_
        refine QL.val (.bool true) (some 41) (gives_pickT rfl) ?_
        refine QL.nil ?_
        refine JA.nil ?_
        refine JQ.then_normal ?_
        exact JQ.meet true () H0 (fun _ h => Heap.to (Heap.pick [] (by decide) h))
      · refine QL.on 8 11 h16 ?_
        refine QL.pur (.pointer (some ⟨b2, 0, none⟩)) (some 12) ?_
        refine QL.on 8 11 h16 ?_
        refine QL.val (.int .i64 a1.Re) (some 13) (yields_load_box 0 0 (holds_box b2 23 [.int .i64 a1.Re, .int .i64 a1.Im, .int .i64 a1.Den]) tyAgg_2) ?_
        refine QL.on 8 11 h16 ?_
        refine QL.pur (.bool (decide (a1.Re < (-1000000000)))) (some 14) ?_
        refine QL.val (.bool (decide (a1.Re < (-1000000000)))) (some 15) (gives_pickF h16) ?_
        refine QL.mv (.bool (decide (a1.Re < (-1000000000)))) ?_
        rcases ite_cases H0 with ⟨h17, H0⟩ | ⟨h17, H0⟩
        · refine QL.off 13 16 false (some 17) h17 ?_
          refine QL.off 13 16 false (some 18) h17 ?_
          refine QL.off 13 16 false (some 19) h17 ?_
          refine QL.val (.bool true) (some 20) (gives_pickT h17) ?_
          refine QL.mv (.bool true) ?_
          refine QL.off 18 21 false (some 22) rfl ?_
          refine QL.off 18 21 false (some 23) rfl ?_
          refine QL.off 18 21 false (some 24) rfl ?_
          refine QL.val (.bool true) (some 25) (gives_pickT rfl) ?_
          refine QL.mv (.bool true) ?_
          refine QL.off 23 26 false (some 27) rfl ?_
          refine QL.off 23 26 false (some 28) rfl ?_
          refine QL.off 23 26 false (some 29) rfl ?_
          refine QL.val (.bool true) (some 30) (gives_pickT rfl) ?_
          refine QL.mv (.bool true) ?_
          refine QL.off 28 31 false (some 32) rfl ?_
          refine QL.off 28 31 false (some 33) rfl ?_
          refine QL.off 28 31 false (some 34) rfl ?_
          refine QL.off 28 31 false (some 35) rfl ?_
          refine QL.off 28 31 false (some 36) rfl ?_
          refine QL.off 28 31 false (some 37) rfl ?_
          refine QL.off 28 31 false (some 38) rfl ?_
          refine QL.off 28 31 false (some 39) rfl ?_
          refine QL.off 28 31 false (some 40) rfl ?_
          refine QL.val (.bool true) (some 41) (gives_pickT rfl) ?_
          refine QL.nil ?_
          refine JA.nil ?_
          refine JQ.then_normal ?_
          exact JQ.meet true () H0 (fun _ h => Heap.to (Heap.pick [] (by decide) h))
        · refine QL.on 13 16 h17 ?_
          refine QL.pur (.pointer (some ⟨b2, 0, none⟩)) (some 17) ?_
          refine QL.on 13 16 h17 ?_
          refine QL.val (.int .i64 a1.Re) (some 18) (yields_load_box 0 0 (holds_box b2 23 [.int .i64 a1.Re, .int .i64 a1.Im, .int .i64 a1.Den]) tyAgg_2) ?_
          refine QL.on 13 16 h17 ?_
          refine QL.pur (.bool (decide (1000000000 < a1.Re))) (some 19) ?_
          refine QL.val (.bool (decide (1000000000 < a1.Re))) (some 20) (gives_pickF h17) ?_
          refine QL.mv (.bool (decide (1000000000 < a1.Re))) ?_
          rcases ite_cases H0 with ⟨h18, H0⟩ | ⟨h18, H0⟩
          · refine QL.off 18 21 false (some 22) h18 ?_
            refine QL.off 18 21 false (some 23) h18 ?_
            refine QL.off 18 21 false (some 24) h18 ?_
            refine QL.val (.bool true) (some 25) (gives_pickT h18) ?_
            refine QL.mv (.bool true) ?_
            refine QL.off 23 26 false (some 27) rfl ?_
            refine QL.off 23 26 false (some 28) rfl ?_
            refine QL.off 23 26 false (some 29) rfl ?_
            refine QL.val (.bool true) (some 30) (gives_pickT rfl) ?_
            refine QL.mv (.bool true) ?_
            refine QL.off 28 31 false (some 32) rfl ?_
            refine QL.off 28 31 false (some 33) rfl ?_
            refine QL.off 28 31 false (some 34) rfl ?_
            refine QL.off 28 31 false (some 35) rfl ?_
            refine QL.off 28 31 false (some 36) rfl ?_
            refine QL.off 28 31 false (some 37) rfl ?_
            refine QL.off 28 31 false (some 38) rfl ?_
            refine QL.off 28 31 false (some 39) rfl ?_
            refine QL.off 28 31 false (some 40) rfl ?_
            refine QL.val (.bool true) (some 41) (gives_pickT rfl) ?_
            refine QL.nil ?_
            refine JA.nil ?_
            refine JQ.then_normal ?_
            exact JQ.meet true () H0 (fun _ h => Heap.to (Heap.pick [] (by decide) h))
          · refine QL.on 18 21 h18 ?_
            refine QL.pur (.pointer (some ⟨b2, 1, none⟩)) (some 22) ?_
            refine QL.on 18 21 h18 ?_
            refine QL.val (.int .i64 a1.Im) (some 23) (yields_load_box 0 1 (holds_box b2 23 [.int .i64 a1.Re, .int .i64 a1.Im, .int .i64 a1.Den]) tyAgg_2) ?_
            refine QL.on 18 21 h18 ?_
            refine QL.pur (.bool (decide (a1.Im < (-1000000000)))) (some 24) ?_
            refine QL.val (.bool (decide (a1.Im < (-1000000000)))) (some 25) (gives_pickF h18) ?_
            refine QL.mv (.bool (decide (a1.Im < (-1000000000)))) ?_
            rcases ite_cases H0 with ⟨h19, H0⟩ | ⟨h19, H0⟩
            · refine QL.off 23 26 false (some 27) h19 ?_
              refine QL.off 23 26 false (some 28) h19 ?_
              refine QL.off 23 26 false (some 29) h19 ?_
              refine QL.val (.bool true) (some 30) (gives_pickT h19) ?_
              refine QL.mv (.bool true) ?_
              refine QL.off 28 31 false (some 32) rfl ?_
              refine QL.off 28 31 false (some 33) rfl ?_
              refine QL.off 28 31 false (some 34) rfl ?_
              refine QL.off 28 31 false (some 35) rfl ?_
              refine QL.off 28 31 false (some 36) rfl ?_
              refine QL.off 28 31 false (some 37) rfl ?_
              refine QL.off 28 31 false (some 38) rfl ?_
              refine QL.off 28 31 false (some 39) rfl ?_
              refine QL.off 28 31 false (some 40) rfl ?_
              refine QL.val (.bool true) (some 41) (gives_pickT rfl) ?_
              refine QL.nil ?_
              refine JA.nil ?_
              refine JQ.then_normal ?_
              exact JQ.meet true () H0 (fun _ h => Heap.to (Heap.pick [] (by decide) h))
            · refine QL.on 23 26 h19 ?_
              refine QL.pur (.pointer (some ⟨b2, 1, none⟩)) (some 27) ?_
              refine QL.on 23 26 h19 ?_
              refine QL.val (.int .i64 a1.Im) (some 28) (yields_load_box 0 1 (holds_box b2 23 [.int .i64 a1.Re, .int .i64 a1.Im, .int .i64 a1.Den]) tyAgg_2) ?_
              refine QL.on 23 26 h19 ?_
              refine QL.pur (.bool (decide (1000000000 < a1.Im))) (some 29) ?_
              refine QL.val (.bool (decide (1000000000 < a1.Im))) (some 30) (gives_pickF h19) ?_
              refine QL.mv (.bool (decide (1000000000 < a1.Im))) ?_
              rcases ite_cases H0 with ⟨h20, H0⟩ | ⟨h20, H0⟩
              · refine QL.off 28 31 false (some 32) h20 ?_
                refine QL.off 28 31 false (some 33) h20 ?_
                refine QL.off 28 31 false (some 34) h20 ?_
                refine QL.off 28 31 false (some 35) h20 ?_
                refine QL.off 28 31 false (some 36) h20 ?_
                refine QL.off 28 31 false (some 37) h20 ?_
                refine QL.off 28 31 false (some 38) h20 ?_
                refine QL.off 28 31 false (some 39) h20 ?_
                refine QL.off 28 31 false (some 40) h20 ?_
                refine QL.val (.bool true) (some 41) (gives_pickT h20) ?_
                refine QL.nil ?_
                refine JA.nil ?_
                refine JQ.then_normal ?_
                exact JQ.meet true () H0 (fun _ h => Heap.to (Heap.pick [] (by decide) h))
              · refine QL.on 28 31 h20 ?_
                refine QL.pur (.pointer (some ⟨b2, 0, none⟩)) (some 32) ?_
                refine QL.on 28 31 h20 ?_
                refine QL.val (.int .i64 a1.Re) (some 33) (yields_load_box 0 0 (holds_box b2 23 [.int .i64 a1.Re, .int .i64 a1.Im, .int .i64 a1.Den]) tyAgg_2) ?_
                refine QL.on 28 31 h20 ?_
                refine QL.pur (.pointer (some ⟨b2, 1, none⟩)) (some 34) ?_
                refine QL.on 28 31 h20 ?_
                refine QL.val (.int .i64 a1.Im) (some 35) (yields_load_box 0 1 (holds_box b2 23 [.int .i64 a1.Re, .int .i64 a1.Im, .int .i64 a1.Den]) tyAgg_2) ?_
                refine QL.on 28 31 h20 ?_
                obtain ⟨t21, hc22, H0⟩ := bind_some H0
                refine QL.call [] [] (ref25_Gcd.ok a1.Re a1.Im _ hc22) trivial ?_
                refine QL.on 28 31 h20 ?_
                refine QL.pur (.pointer (some ⟨b2, 2, none⟩)) (some 37) ?_
                refine QL.on 28 31 h20 ?_
                refine QL.val (.int .i64 a1.Den) (some 38) (yields_load_box 0 2 (holds_box b2 23 [.int .i64 a1.Re, .int .i64 a1.Im, .int .i64 a1.Den]) tyAgg_2) ?_
                refine QL.on 28 31 h20 ?_
                obtain ⟨t23, hc24, H0⟩ := bind_some H0
                refine QL.call [] [] (ref25_Gcd.ok t21 a1.Den _ hc24) trivial ?_
                refine QL.on 28 31 h20 ?_
                refine QL.pur (.bool (!decide (t23 = 1))) (some 40) ?_
                refine QL.val (.bool (!decide (t23 = 1))) (some 41) (gives_pickF h20) ?_
                refine QL.nil ?_
                refine JA.nil ?_
                refine JQ.then_normal ?_
                exact JQ.meet (!decide (t23 = 1)) () H0 (fun _ h => Heap.to (Heap.pick [] (by decide) h))
  · clear H0
    rintro x13 ⟨⟩ H0
    replace H0 : ref25_Check.k1 x13 = some r := H0
    unfold ref25_Check.k1 at H0
    refine JQ.sub [(41, .bool x13)] ?_
    refine JQ.turn (Δ' := []) (fun _ h => h.to) ?_
    rcases ite_cases H0 with ⟨h14, H0⟩ | ⟨h14, H0⟩
    · refine J.cond_true h14 ?_
      refine J.seq ?_
      refine J.region ?_
      refine JL.as (.int .i64 8) ?_
      refine JL.nil ?_
      refine JQ.then_normal ?_
      refine JQ.sub [(2, .int .i64 8)] ?_
      refine J.ret ?_
      refine JQ.then_ret ?_
      obtain rfl := Option.some.inj H0
      exact JQ.done' (rs := [.tmp 2]) (vs := [.int .i64 8]) [] (.inr rfl) ⟨by kernel_rfl, trivial⟩ (fun _ h => Heap.to h) ⟨rfl, rfl⟩
    · refine J.cond_false h14 ?_
      refine J.skip ?_
      refine JQ.then_normal ?_
      refine JQ.sub [] ?_
      refine J.seq ?_
      refine J.region ?_
      refine JL.as (.int .i64 0) ?_
      refine JL.nil ?_
      refine JQ.then_normal ?_
      refine J.ret ?_
      obtain rfl := Option.some.inj H0
      exact JQ.done' (rs := [.tmp 2]) (vs := [.int .i64 0]) [] (.inr rfl) ⟨by kernel_rfl, trivial⟩ (fun _ h => Heap.to h) ⟨rfl, rfl⟩

theorem ref33_Valid.ok (a1 : (A4 Cx)) (r : Bool) (H0 : ref33_Valid.f a1 = some r) :
    Does Try.prog 24 [.agg #[.int .i64 a1.e0.Re, .int .i64 a1.e0.Im, .int .i64 a1.e0.Den, .int .i64 a1.e1.Re, .int .i64 a1.e1.Im, .int .i64 a1.e1.Den, .int .i64 a1.e2.Re, .int .i64 a1.e2.Im, .int .i64 a1.e2.Den, .int .i64 a1.e3.Re, .int .i64 a1.e3.Im, .int .i64 a1.e3.Den]].toArray [] [] false (fun v Δ => v = .bool r ∧ Δ = []) := by
  refine Does.body (vs := [.agg #[.int .i64 a1.e0.Re, .int .i64 a1.e0.Im, .int .i64 a1.e0.Den, .int .i64 a1.e1.Re, .int .i64 a1.e1.Im, .int .i64 a1.e1.Den, .int .i64 a1.e2.Re, .int .i64 a1.e2.Im, .int .i64 a1.e2.Den, .int .i64 a1.e3.Re, .int .i64 a1.e3.Im, .int .i64 a1.e3.Den]]) Try.func24 rfl trivial trivial fun w S => ?_
  unfold ref33_Valid.f at H0
  refine J.seq ?_
  refine J.region ?_
  refine JL.box [.int .i64 a1.e0.Re, .int .i64 a1.e0.Im, .int .i64 a1.e0.Den, .int .i64 a1.e1.Re, .int .i64 a1.e1.Im, .int .i64 a1.e1.Den, .int .i64 a1.e2.Re, .int .i64 a1.e2.Im, .int .i64 a1.e2.Den, .int .i64 a1.e3.Re, .int .i64 a1.e3.Im, .int .i64 a1.e3.Den] fun b2 => ?_
  refine JL.as (.bool false) ?_
  refine JL.nil ?_
  refine JQ.then_normal ?_
  refine JQ.sub [(1, .pointer (some ⟨b2, 0, none⟩))] ?_
  refine J.seq ?_
  refine J.seq ?_
  refine J.region ?_
  refine JL.as (.int .i64 0) ?_
  refine JL.nil ?_
  refine JQ.then_normal ?_
  obtain ⟨o1, hit, H0⟩ := bind_some H0
  refine J.loop (σ := Int) (τ := Unit) (G := Unit) (G' := Unit) _ o1 (fun s g => [(1, .pointer (some ⟨b2, 0, none⟩)), (3, .int .i64 s)]) (fun s g => [At.box b2 25 [.int .i64 a1.e0.Re, .int .i64 a1.e0.Im, .int .i64 a1.e0.Den, .int .i64 a1.e1.Re, .int .i64 a1.e1.Im, .int .i64 a1.e1.Den, .int .i64 a1.e2.Re, .int .i64 a1.e2.Im, .int .i64 a1.e2.Den, .int .i64 a1.e3.Re, .int .i64 a1.e3.Im, .int .i64 a1.e3.Den]]) (fun t => ref33_Valid.k2 = some r) (fun t g => []) (fun t g => []) 0 () hit (fun _ h => Heap.to h) ?_ ?_
  · clear hit
    rintro k14 ⟨⟩ st1 H1 hb1 hr1
    replace H1 : ref33_Valid.s1 a1 k14 = some st1 := H1
    unfold ref33_Valid.s1 at H1
    refine JQ.sub [(1, .pointer (some ⟨b2, 0, none⟩)), (3, .int .i64 k14)] ?_
    refine JQ.turn (Δ' := [At.box b2 25 [.int .i64 a1.e0.Re, .int .i64 a1.e0.Im, .int .i64 a1.e0.Den, .int .i64 a1.e1.Re, .int .i64 a1.e1.Im, .int .i64 a1.e1.Den, .int .i64 a1.e2.Re, .int .i64 a1.e2.Im, .int .i64 a1.e2.Den, .int .i64 a1.e3.Re, .int .i64 a1.e3.Im, .int .i64 a1.e3.Den]]) (fun _ h => h.to) ?_
    refine J.seq ?_
    refine J.seq ?_
    refine J.region ?_
    refine JL.mv (.int .i64 k14) ?_
    refine JL.pur (.bool (decide (k14 < 4))) (some 5) ?_
    refine JL.nil ?_
    refine JQ.then_normal ?_
    refine JQ.sub [(1, .pointer (some ⟨b2, 0, none⟩)), (3, .int .i64 k14), (5, .bool (decide (k14 < 4)))] ?_
    rcases ite_cases H1 with ⟨h21, H1⟩ | ⟨h21, H1⟩
    · refine J.cond_true h21 ?_
      refine J.skip ?_
      refine JQ.then_normal ?_
      refine JQ.sub [(1, .pointer (some ⟨b2, 0, none⟩)), (3, .int .i64 k14)] ?_
      refine J.seq ?_
      refine J.block ?_
      refine J.seq ?_
      refine J.region ?_
      refine JL.mv (.int .i64 k14) ?_
      obtain ⟨⟨h22, h23⟩, H1⟩ := ite_must H1
      refine JL.val (.pointer (some ⟨b2, 0 + k14.toNat * 3, none⟩)) (some 9) (gives_ixArrD (b := b2) (o := 0) (i := k14) 4 3 .i64 h22 h23 Try.underlying25 tySize_23) ?_
      refine JL.val (.agg #[.int .i64 ((ix ([a1.e0, a1.e1, a1.e2, a1.e3] : List Cx) k14).Re), .int .i64 ((ix ([a1.e0, a1.e1, a1.e2, a1.e3] : List Cx) k14).Im), .int .i64 ((ix ([a1.e0, a1.e1, a1.e2, a1.e3] : List Cx) k14).Den)]) (some 10) (gives_loadEl (f := fl_Cx) 0 0 k14 (elems_arr b2 25 [.int .i64 a1.e0.Re, .int .i64 a1.e0.Im, .int .i64 a1.e0.Den, .int .i64 a1.e1.Re, .int .i64 a1.e1.Im, .int .i64 a1.e1.Den, .int .i64 a1.e2.Re, .int .i64 a1.e2.Im, .int .i64 a1.e2.Den, .int .i64 a1.e3.Re, .int .i64 a1.e3.Im, .int .i64 a1.e3.Den] fl_Cx ([a1.e0, a1.e1, a1.e2, a1.e3] : List Cx) 0) h22 h23 tySize_23 (.inl ⟨tyAgg_23, rfl⟩)) ?_
      obtain ⟨t24, hc25, H1⟩ := bind_some H1
      refine JL.call [] [] [] (ref25_Check.ok (⟨((ix ([a1.e0, a1.e1, a1.e2, a1.e3] : List Cx) k14).Re), ((ix ([a1.e0, a1.e1, a1.e2, a1.e3] : List Cx) k14).Im), ((ix ([a1.e0, a1.e1, a1.e2, a1.e3] : List Cx) k14).Den)⟩ : Cx) _ hc25) trivial ?_
      rintro _ _ ⟨rfl, rfl⟩
      refine JL.pur (.bool (!decide (t24 = 0))) (some 12) ?_
      refine JL.nil ?_
      refine JQ.then_normal ?_
      refine JQ.sub [(1, .pointer (some ⟨b2, 0, none⟩)), (3, .int .i64 k14), (12, .bool (!decide (t24 = 0)))] ?_
      rcases ite_cases H1 with ⟨h26, H1⟩ | ⟨h26, H1⟩
      · refine J.cond_true h26 ?_
        refine J.seq ?_
        refine J.region ?_
        refine JL.as (.bool false) ?_
        refine JL.nil ?_
        refine JQ.then_normal ?_
        refine JQ.sub [(2, .bool false)] ?_
        refine JQ.mask [] [false] ?_
        refine J.ret ?_
        refine JQ.blk_ret ?_
        refine JQ.then_ret ?_
        refine JQ.then_ret ?_
        refine JQ.blk_ret ?_
        refine JQ.met_ret ?_
        refine JQ.then_ret ?_
        rw [hr1 _ (Option.some.inj H1).symm, fin_ret] at H0
        obtain rfl := Option.some.inj H0
        exact JQ.done' (rs := [.tmp 2]) (vs := [.bool false]) [] (.inr rfl) ⟨by kernel_rfl, trivial⟩ (fun _ h => Heap.to h) ⟨rfl, rfl⟩
      · refine J.cond_false h26 ?_
        refine J.skip ?_
        refine JQ.blk_normal ?_
        refine JQ.then_normal ?_
        refine JQ.sub [(1, .pointer (some ⟨b2, 0, none⟩)), (3, .int .i64 k14)] ?_
        refine J.region ?_
        refine JL.mv (.int .i64 k14) ?_
        refine JL.pur (.int .i64 (w64 (k14 + 1))) (some 7) ?_
        refine JL.as (.int .i64 (w64 (k14 + 1))) ?_
        refine JL.nil ?_
        refine JQ.then_normal ?_
        exact JQ.again (w64 (k14 + 1)) () (Option.some.inj H1).symm (fun _ h => Heap.to h)
    · refine J.cond_false h21 ?_
      refine J.exit ?_
      refine JQ.then_exit ?_
      refine JQ.then_exit ?_
      refine JQ.blk_exit ?_
      rw [hb1 _ (Option.some.inj H1).symm, fin_brk] at H0
      exact JQ.met () () H0 (fun _ h => Heap.to (Heap.pick [] (by decide) h))
  · clear hit H0
    rintro ⟨⟩ ⟨⟩ H0
    replace H0 : ref33_Valid.k2 = some r := H0
    unfold ref33_Valid.k2 at H0
    refine JQ.sub [] ?_
    refine JQ.turn (Δ' := []) (fun _ h => h.to) ?_
    refine JQ.then_normal ?_
    refine J.seq ?_
    refine J.region ?_
    refine JL.as (.bool true) ?_
    refine JL.nil ?_
    refine JQ.then_normal ?_
    refine J.ret ?_
    obtain rfl := Option.some.inj H0
    exact JQ.done' (rs := [.tmp 2]) (vs := [.bool true]) [] (.inr rfl) ⟨by kernel_rfl, trivial⟩ (fun _ h => Heap.to h) ⟨rfl, rfl⟩

theorem ref25_Zero.ok (a1 : Cx) (r : Bool) (H0 : ref25_Zero.f a1 = some r) :
    Does Try.prog 26 [.agg #[.int .i64 a1.Re, .int .i64 a1.Im, .int .i64 a1.Den]].toArray [] [] false (fun v Δ => v = .bool r ∧ Δ = []) := by
  refine Does.body (vs := [.agg #[.int .i64 a1.Re, .int .i64 a1.Im, .int .i64 a1.Den]]) Try.func26 rfl trivial trivial fun w S => ?_
  unfold ref25_Zero.f at H0
  refine J.seq ?_
  refine J.region ?_
  refine JL.box [.int .i64 a1.Re, .int .i64 a1.Im, .int .i64 a1.Den] fun b2 => ?_
  refine JL.as (.bool false) ?_
  refine JL.nil ?_
  refine JQ.then_normal ?_
  refine JQ.sub [(1, .pointer (some ⟨b2, 0, none⟩))] ?_
  refine J.seq ?_
  refine J.region ?_
  refine JL.pur (.pointer (some ⟨b2, 0, none⟩)) (some 3) ?_
  refine JL.val (.int .i64 a1.Re) (some 4) (yields_load_box 0 0 (holds_box b2 23 [.int .i64 a1.Re, .int .i64 a1.Im, .int .i64 a1.Den]) tyAgg_2) ?_
  refine JL.pur (.bool (decide (a1.Re = 0))) (some 5) ?_
  refine JL.mv (.bool (decide (a1.Re = 0))) ?_
  rcases ite_cases H0 with ⟨h3, H0⟩ | ⟨h3, H0⟩
  · refine JL.on 3 6 h3 ?_
    refine JL.pur (.pointer (some ⟨b2, 1, none⟩)) (some 7) ?_
    refine JL.on 3 6 h3 ?_
    refine JL.val (.int .i64 a1.Im) (some 8) (yields_load_box 0 1 (holds_box b2 23 [.int .i64 a1.Re, .int .i64 a1.Im, .int .i64 a1.Den]) tyAgg_2) ?_
    refine JL.on 3 6 h3 ?_
    refine JL.pur (.bool (decide (a1.Im = 0))) (some 9) ?_
    refine JL.val (.bool (decide (a1.Im = 0))) (some 10) (gives_pickT h3) ?_
    refine JL.as (.bool (decide (a1.Im = 0))) ?_
    refine JL.nil ?_
    refine JQ.then_normal ?_
    refine JQ.sub [(2, .bool (decide (a1.Im = 0)))] ?_
    refine JQ.mask [] [false] ?_
    refine J.ret ?_
    obtain rfl := Option.some.inj H0
    exact JQ.done' (rs := [.tmp 2]) (vs := [.bool (decide (a1.Im = 0))]) [] (.inr rfl) ⟨by kernel_rfl, trivial⟩ (fun _ h => Heap.to h) ⟨rfl, rfl⟩
  · refine JL.off 3 6 true (some 7) h3 ?_
    refine JL.off 3 6 true (some 8) h3 ?_
    refine JL.off 3 6 true (some 9) h3 ?_
    refine JL.val (.bool false) (some 10) (gives_pickF h3) ?_
    refine JL.as (.bool false) ?_
    refine JL.nil ?_
    refine JQ.then_normal ?_
    refine JQ.sub [(2, .bool false)] ?_
    refine JQ.mask [] [false] ?_
    refine J.ret ?_
    obtain rfl := Option.some.inj H0
    exact JQ.done' (rs := [.tmp 2]) (vs := [.bool false]) [] (.inr rfl) ⟨by kernel_rfl, trivial⟩ (fun _ h => Heap.to h) ⟨rfl, rfl⟩

theorem law33_JonesDets.ok (a1 : (A4 Cx)) (b2 : (A4 Cx)) (r : Bool) (H0 : law33_JonesDets.f a1 b2 = some r) :
    Does Try.prog 5 [.agg #[.int .i64 a1.e0.Re, .int .i64 a1.e0.Im, .int .i64 a1.e0.Den, .int .i64 a1.e1.Re, .int .i64 a1.e1.Im, .int .i64 a1.e1.Den, .int .i64 a1.e2.Re, .int .i64 a1.e2.Im, .int .i64 a1.e2.Den, .int .i64 a1.e3.Re, .int .i64 a1.e3.Im, .int .i64 a1.e3.Den], .agg #[.int .i64 b2.e0.Re, .int .i64 b2.e0.Im, .int .i64 b2.e0.Den, .int .i64 b2.e1.Re, .int .i64 b2.e1.Im, .int .i64 b2.e1.Den, .int .i64 b2.e2.Re, .int .i64 b2.e2.Im, .int .i64 b2.e2.Den, .int .i64 b2.e3.Re, .int .i64 b2.e3.Im, .int .i64 b2.e3.Den]].toArray [] [] false (fun v Δ => v = .bool r ∧ Δ = []) := by
  refine Does.body (vs := [.agg #[.int .i64 a1.e0.Re, .int .i64 a1.e0.Im, .int .i64 a1.e0.Den, .int .i64 a1.e1.Re, .int .i64 a1.e1.Im, .int .i64 a1.e1.Den, .int .i64 a1.e2.Re, .int .i64 a1.e2.Im, .int .i64 a1.e2.Den, .int .i64 a1.e3.Re, .int .i64 a1.e3.Im, .int .i64 a1.e3.Den], .agg #[.int .i64 b2.e0.Re, .int .i64 b2.e0.Im, .int .i64 b2.e0.Den, .int .i64 b2.e1.Re, .int .i64 b2.e1.Im, .int .i64 b2.e1.Den, .int .i64 b2.e2.Re, .int .i64 b2.e2.Im, .int .i64 b2.e2.Den, .int .i64 b2.e3.Re, .int .i64 b2.e3.Im, .int .i64 b2.e3.Den]]) Try.func5 rfl trivial trivial fun w S => ?_
  unfold law33_JonesDets.f at H0
  refine J.seq ?_
  refine J.region ?_
  refine JL.box [.int .i64 a1.e0.Re, .int .i64 a1.e0.Im, .int .i64 a1.e0.Den, .int .i64 a1.e1.Re, .int .i64 a1.e1.Im, .int .i64 a1.e1.Den, .int .i64 a1.e2.Re, .int .i64 a1.e2.Im, .int .i64 a1.e2.Den, .int .i64 a1.e3.Re, .int .i64 a1.e3.Im, .int .i64 a1.e3.Den] fun b3 => ?_
  refine JL.box [.int .i64 b2.e0.Re, .int .i64 b2.e0.Im, .int .i64 b2.e0.Den, .int .i64 b2.e1.Re, .int .i64 b2.e1.Im, .int .i64 b2.e1.Den, .int .i64 b2.e2.Re, .int .i64 b2.e2.Im, .int .i64 b2.e2.Den, .int .i64 b2.e3.Re, .int .i64 b2.e3.Im, .int .i64 b2.e3.Den] fun b4 => ?_
  refine JL.as (.bool false) ?_
  refine JL.nil ?_
  refine JQ.then_normal ?_
  refine JQ.sub [(2, .pointer (some ⟨b3, 0, none⟩)), (3, .pointer (some ⟨b4, 0, none⟩))] ?_
  refine J.seq ?_
  refine J.region ?_
  obtain ⟨t5, hc6, H0⟩ := bind_some H0
  refine JL.call [] [] [] (law33_alive.ok _ hc6) trivial ?_
  rintro _ _ ⟨rfl, rfl⟩
  refine JL.as (.bool t5) ?_
  refine JL.nil ?_
  refine JQ.then_normal ?_
  refine JQ.sub [(2, .pointer (some ⟨b3, 0, none⟩)), (3, .pointer (some ⟨b4, 0, none⟩)), (5, .bool t5)] ?_
  refine J.seq ?_
  refine J.join (T := Bool) (G := Unit) (fun t => law33_JonesDets.k1 a1 b2 t5 t = some r) (fun t g => [(2, .pointer (some ⟨b3, 0, none⟩)), (3, .pointer (some ⟨b4, 0, none⟩)), (5, .bool t5), (51, .bool t)]) (fun t g => [At.box b3 25 [.int .i64 a1.e0.Re, .int .i64 a1.e0.Im, .int .i64 a1.e0.Den, .int .i64 a1.e1.Re, .int .i64 a1.e1.Im, .int .i64 a1.e1.Den, .int .i64 a1.e2.Re, .int .i64 a1.e2.Im, .int .i64 a1.e2.Den, .int .i64 a1.e3.Re, .int .i64 a1.e3.Im, .int .i64 a1.e3.Den], At.box b4 25 [.int .i64 b2.e0.Re, .int .i64 b2.e0.Im, .int .i64 b2.e0.Den, .int .i64 b2.e1.Re, .int .i64 b2.e1.Im, .int .i64 b2.e1.Den, .int .i64 b2.e2.Re, .int .i64 b2.e2.Im, .int .i64 b2.e2.Den, .int .i64 b2.e3.Re, .int .i64 b2.e3.Im, .int .i64 b2.e3.Den]]) ?_ ?_
  · refine J.region ?_
    refine JL.val (.agg #[.int .i64 a1.e0.Re, .int .i64 a1.e0.Im, .int .i64 a1.e0.Den, .int .i64 a1.e1.Re, .int .i64 a1.e1.Im, .int .i64 a1.e1.Den, .int .i64 a1.e2.Re, .int .i64 a1.e2.Im, .int .i64 a1.e2.Den, .int .i64 a1.e3.Re, .int .i64 a1.e3.Im, .int .i64 a1.e3.Den]) (some 40) (yields_load_boxes 0 0 [.int .i64 a1.e0.Re, .int .i64 a1.e0.Im, .int .i64 a1.e0.Den, .int .i64 a1.e1.Re, .int .i64 a1.e1.Im, .int .i64 a1.e1.Den, .int .i64 a1.e2.Re, .int .i64 a1.e2.Im, .int .i64 a1.e2.Den, .int .i64 a1.e3.Re, .int .i64 a1.e3.Im, .int .i64 a1.e3.Den] (holds_box b3 25 [.int .i64 a1.e0.Re, .int .i64 a1.e0.Im, .int .i64 a1.e0.Den, .int .i64 a1.e1.Re, .int .i64 a1.e1.Im, .int .i64 a1.e1.Den, .int .i64 a1.e2.Re, .int .i64 a1.e2.Im, .int .i64 a1.e2.Den, .int .i64 a1.e3.Re, .int .i64 a1.e3.Im, .int .i64 a1.e3.Den]) tyAgg_25 tySize_25) ?_
    obtain ⟨t198, hc199, H0⟩ := bind_some H0
    refine JL.call [] [] [] (ref33_Valid.ok a1 _ hc199) trivial ?_
    rintro _ _ ⟨rfl, rfl⟩
    refine JL.pur (.bool (!t198)) (some 42) ?_
    refine JL.mv (.bool (!t198)) ?_
    rcases ite_cases H0 with ⟨h200, H0⟩ | ⟨h200, H0⟩
    · refine JL.off 3 43 false (some 44) h200 ?_
      refine JL.off 3 43 false (some 45) h200 ?_
      refine JL.off 3 43 false (some 46) h200 ?_
      refine JL.val (.bool true) (some 47) (gives_pickT h200) ?_
      refine JL.mv (.bool true) ?_
      refine JL.off 8 48 false (some 49) rfl ?_
      refine JL.off 8 48 false (some 50) rfl ?_
      refine JL.val (.bool true) (some 51) (gives_pickT rfl) ?_
      refine JL.nil ?_
      refine JQ.then_normal ?_
      exact JQ.meet true () H0 (fun _ h => Heap.to h)
    · refine JL.on 3 43 h200 ?_
      refine JL.val (.agg #[.int .i64 b2.e0.Re, .int .i64 b2.e0.Im, .int .i64 b2.e0.Den, .int .i64 b2.e1.Re, .int .i64 b2.e1.Im, .int .i64 b2.e1.Den, .int .i64 b2.e2.Re, .int .i64 b2.e2.Im, .int .i64 b2.e2.Den, .int .i64 b2.e3.Re, .int .i64 b2.e3.Im, .int .i64 b2.e3.Den]) (some 44) (yields_load_boxes 1 0 [.int .i64 b2.e0.Re, .int .i64 b2.e0.Im, .int .i64 b2.e0.Den, .int .i64 b2.e1.Re, .int .i64 b2.e1.Im, .int .i64 b2.e1.Den, .int .i64 b2.e2.Re, .int .i64 b2.e2.Im, .int .i64 b2.e2.Den, .int .i64 b2.e3.Re, .int .i64 b2.e3.Im, .int .i64 b2.e3.Den] (holds_box b4 25 [.int .i64 b2.e0.Re, .int .i64 b2.e0.Im, .int .i64 b2.e0.Den, .int .i64 b2.e1.Re, .int .i64 b2.e1.Im, .int .i64 b2.e1.Den, .int .i64 b2.e2.Re, .int .i64 b2.e2.Im, .int .i64 b2.e2.Den, .int .i64 b2.e3.Re, .int .i64 b2.e3.Im, .int .i64 b2.e3.Den]) tyAgg_25 tySize_25) ?_
      refine JL.on 3 43 h200 ?_
      obtain ⟨t201, hc202, H0⟩ := bind_some H0
      refine JL.call [] [] [] (ref33_Valid.ok b2 _ hc202) trivial ?_
      rintro _ _ ⟨rfl, rfl⟩
      refine JL.on 3 43 h200 ?_
      refine JL.pur (.bool (!t201)) (some 46) ?_
      refine JL.val (.bool (!t201)) (some 47) (gives_pickF h200) ?_
      refine JL.mv (.bool (!t201)) ?_
      rcases ite_cases H0 with ⟨h203, H0⟩ | ⟨h203, H0⟩
      · refine JL.off 8 48 false (some 49) h203 ?_
        refine JL.off 8 48 false (some 50) h203 ?_
        refine JL.val (.bool true) (some 51) (gives_pickT h203) ?_
        refine JL.nil ?_
        refine JQ.then_normal ?_
        exact JQ.meet true () H0 (fun _ h => Heap.to h)
      · refine JL.on 8 48 h203 ?_
        refine JL.mv (.bool t5) ?_
        refine JL.on 8 48 h203 ?_
        refine JL.pur (.bool (!t5)) (some 50) ?_
        refine JL.val (.bool (!t5)) (some 51) (gives_pickF h203) ?_
        refine JL.nil ?_
        refine JQ.then_normal ?_
        exact JQ.meet (!t5) () H0 (fun _ h => Heap.to h)
  · clear H0
    rintro x13 ⟨⟩ H0
    replace H0 : law33_JonesDets.k1 a1 b2 t5 x13 = some r := H0
    unfold law33_JonesDets.k1 at H0
    refine JQ.sub [(2, .pointer (some ⟨b3, 0, none⟩)), (3, .pointer (some ⟨b4, 0, none⟩)), (5, .bool t5), (51, .bool x13)] ?_
    refine JQ.turn (Δ' := [At.box b3 25 [.int .i64 a1.e0.Re, .int .i64 a1.e0.Im, .int .i64 a1.e0.Den, .int .i64 a1.e1.Re, .int .i64 a1.e1.Im, .int .i64 a1.e1.Den, .int .i64 a1.e2.Re, .int .i64 a1.e2.Im, .int .i64 a1.e2.Den, .int .i64 a1.e3.Re, .int .i64 a1.e3.Im, .int .i64 a1.e3.Den], At.box b4 25 [.int .i64 b2.e0.Re, .int .i64 b2.e0.Im, .int .i64 b2.e0.Den, .int .i64 b2.e1.Re, .int .i64 b2.e1.Im, .int .i64 b2.e1.Den, .int .i64 b2.e2.Re, .int .i64 b2.e2.Im, .int .i64 b2.e2.Den, .int .i64 b2.e3.Re, .int .i64 b2.e3.Im, .int .i64 b2.e3.Den]]) (fun _ h => h.to) ?_
    rcases ite_cases H0 with ⟨h14, H0⟩ | ⟨h14, H0⟩
    · refine J.cond_true h14 ?_
      refine J.seq ?_
      refine J.region ?_
      refine JL.mv (.bool t5) ?_
      refine JL.as (.bool t5) ?_
      refine JL.nil ?_
      refine JQ.then_normal ?_
      refine JQ.sub [(4, .bool t5)] ?_
      refine JQ.mask [] [false, false] ?_
      refine J.ret ?_
      refine JQ.then_ret ?_
      obtain rfl := Option.some.inj H0
      exact JQ.done' (rs := [.tmp 4]) (vs := [.bool t5]) [] (.inr rfl) ⟨by kernel_rfl, trivial⟩ (fun _ h => Heap.to h) ⟨rfl, rfl⟩
    · refine J.cond_false h14 ?_
      refine J.skip ?_
      refine JQ.then_normal ?_
      refine JQ.sub [(2, .pointer (some ⟨b3, 0, none⟩)), (3, .pointer (some ⟨b4, 0, none⟩)), (5, .bool t5)] ?_
      refine J.seq ?_
      refine J.region ?_
      refine JL.val (.agg #[.int .i64 a1.e0.Re, .int .i64 a1.e0.Im, .int .i64 a1.e0.Den, .int .i64 a1.e1.Re, .int .i64 a1.e1.Im, .int .i64 a1.e1.Den, .int .i64 a1.e2.Re, .int .i64 a1.e2.Im, .int .i64 a1.e2.Den, .int .i64 a1.e3.Re, .int .i64 a1.e3.Im, .int .i64 a1.e3.Den]) (some 54) (yields_load_boxes 0 0 [.int .i64 a1.e0.Re, .int .i64 a1.e0.Im, .int .i64 a1.e0.Den, .int .i64 a1.e1.Re, .int .i64 a1.e1.Im, .int .i64 a1.e1.Den, .int .i64 a1.e2.Re, .int .i64 a1.e2.Im, .int .i64 a1.e2.Den, .int .i64 a1.e3.Re, .int .i64 a1.e3.Im, .int .i64 a1.e3.Den] (holds_box b3 25 [.int .i64 a1.e0.Re, .int .i64 a1.e0.Im, .int .i64 a1.e0.Den, .int .i64 a1.e1.Re, .int .i64 a1.e1.Im, .int .i64 a1.e1.Den, .int .i64 a1.e2.Re, .int .i64 a1.e2.Im, .int .i64 a1.e2.Den, .int .i64 a1.e3.Re, .int .i64 a1.e3.Im, .int .i64 a1.e3.Den]) tyAgg_25 tySize_25) ?_
      refine JL.val (.agg #[.int .i64 b2.e0.Re, .int .i64 b2.e0.Im, .int .i64 b2.e0.Den, .int .i64 b2.e1.Re, .int .i64 b2.e1.Im, .int .i64 b2.e1.Den, .int .i64 b2.e2.Re, .int .i64 b2.e2.Im, .int .i64 b2.e2.Den, .int .i64 b2.e3.Re, .int .i64 b2.e3.Im, .int .i64 b2.e3.Den]) (some 55) (yields_load_boxes 1 0 [.int .i64 b2.e0.Re, .int .i64 b2.e0.Im, .int .i64 b2.e0.Den, .int .i64 b2.e1.Re, .int .i64 b2.e1.Im, .int .i64 b2.e1.Den, .int .i64 b2.e2.Re, .int .i64 b2.e2.Im, .int .i64 b2.e2.Den, .int .i64 b2.e3.Re, .int .i64 b2.e3.Im, .int .i64 b2.e3.Den] (holds_box b4 25 [.int .i64 b2.e0.Re, .int .i64 b2.e0.Im, .int .i64 b2.e0.Den, .int .i64 b2.e1.Re, .int .i64 b2.e1.Im, .int .i64 b2.e1.Den, .int .i64 b2.e2.Re, .int .i64 b2.e2.Im, .int .i64 b2.e2.Den, .int .i64 b2.e3.Re, .int .i64 b2.e3.Im, .int .i64 b2.e3.Den]) tyAgg_25 tySize_25) ?_
      obtain ⟨t15, hc16, H0⟩ := bind_some H0
      refine JL.call [] [] [] (jones_Mul.ok a1 b2 _ hc16) trivial ?_
      rintro _ _ ⟨rfl, rfl⟩
      refine JL.mv (.tuple #[.agg #[.int .i64 t15.1.e0.Re, .int .i64 t15.1.e0.Im, .int .i64 t15.1.e0.Den, .int .i64 t15.1.e1.Re, .int .i64 t15.1.e1.Im, .int .i64 t15.1.e1.Den, .int .i64 t15.1.e2.Re, .int .i64 t15.1.e2.Im, .int .i64 t15.1.e2.Den, .int .i64 t15.1.e3.Re, .int .i64 t15.1.e3.Im, .int .i64 t15.1.e3.Den], .int .i64 t15.2]) ?_
      refine JL.pur (.agg #[.int .i64 t15.1.e0.Re, .int .i64 t15.1.e0.Im, .int .i64 t15.1.e0.Den, .int .i64 t15.1.e1.Re, .int .i64 t15.1.e1.Im, .int .i64 t15.1.e1.Den, .int .i64 t15.1.e2.Re, .int .i64 t15.1.e2.Im, .int .i64 t15.1.e2.Den, .int .i64 t15.1.e3.Re, .int .i64 t15.1.e3.Im, .int .i64 t15.1.e3.Den]) (some 57) ?_
      refine JL.pur (.int .i64 t15.2) (some 58) ?_
      refine JL.alloc [.int .i64 0, .int .i64 0, .int .i64 0, .int .i64 0, .int .i64 0, .int .i64 0, .int .i64 0, .int .i64 0, .int .i64 0, .int .i64 0, .int .i64 0, .int .i64 0] fun b17 => ?_
      refine JL.store 2 b17 0 25 [.int .i64 0, .int .i64 0, .int .i64 0, .int .i64 0, .int .i64 0, .int .i64 0, .int .i64 0, .int .i64 0, .int .i64 0, .int .i64 0, .int .i64 0, .int .i64 0] [.int .i64 t15.1.e0.Re, .int .i64 t15.1.e0.Im, .int .i64 t15.1.e0.Den, .int .i64 t15.1.e1.Re, .int .i64 t15.1.e1.Im, .int .i64 t15.1.e1.Den, .int .i64 t15.1.e2.Re, .int .i64 t15.1.e2.Im, .int .i64 t15.1.e2.Den, .int .i64 t15.1.e3.Re, .int .i64 t15.1.e3.Im, .int .i64 t15.1.e3.Den] tySize_25 ?_
      refine JL.as (.int .i64 t15.2) ?_
      refine JL.nil ?_
      refine JQ.then_normal ?_
      refine JQ.sub [(2, .pointer (some ⟨b3, 0, none⟩)), (3, .pointer (some ⟨b4, 0, none⟩)), (5, .bool t5), (6, .pointer (some ⟨b17, 0, none⟩)), (7, .int .i64 t15.2)] ?_
      refine J.seq ?_
      refine J.region ?_
      refine JL.val (.agg #[.int .i64 b2.e0.Re, .int .i64 b2.e0.Im, .int .i64 b2.e0.Den, .int .i64 b2.e1.Re, .int .i64 b2.e1.Im, .int .i64 b2.e1.Den, .int .i64 b2.e2.Re, .int .i64 b2.e2.Im, .int .i64 b2.e2.Den, .int .i64 b2.e3.Re, .int .i64 b2.e3.Im, .int .i64 b2.e3.Den]) (some 60) (yields_load_boxes 1 0 [.int .i64 b2.e0.Re, .int .i64 b2.e0.Im, .int .i64 b2.e0.Den, .int .i64 b2.e1.Re, .int .i64 b2.e1.Im, .int .i64 b2.e1.Den, .int .i64 b2.e2.Re, .int .i64 b2.e2.Im, .int .i64 b2.e2.Den, .int .i64 b2.e3.Re, .int .i64 b2.e3.Im, .int .i64 b2.e3.Den] (holds_box b4 25 [.int .i64 b2.e0.Re, .int .i64 b2.e0.Im, .int .i64 b2.e0.Den, .int .i64 b2.e1.Re, .int .i64 b2.e1.Im, .int .i64 b2.e1.Den, .int .i64 b2.e2.Re, .int .i64 b2.e2.Im, .int .i64 b2.e2.Den, .int .i64 b2.e3.Re, .int .i64 b2.e3.Im, .int .i64 b2.e3.Den]) tyAgg_25 tySize_25) ?_
      refine JL.val (.agg #[.int .i64 a1.e0.Re, .int .i64 a1.e0.Im, .int .i64 a1.e0.Den, .int .i64 a1.e1.Re, .int .i64 a1.e1.Im, .int .i64 a1.e1.Den, .int .i64 a1.e2.Re, .int .i64 a1.e2.Im, .int .i64 a1.e2.Den, .int .i64 a1.e3.Re, .int .i64 a1.e3.Im, .int .i64 a1.e3.Den]) (some 61) (yields_load_boxes 0 0 [.int .i64 a1.e0.Re, .int .i64 a1.e0.Im, .int .i64 a1.e0.Den, .int .i64 a1.e1.Re, .int .i64 a1.e1.Im, .int .i64 a1.e1.Den, .int .i64 a1.e2.Re, .int .i64 a1.e2.Im, .int .i64 a1.e2.Den, .int .i64 a1.e3.Re, .int .i64 a1.e3.Im, .int .i64 a1.e3.Den] (holds_box b3 25 [.int .i64 a1.e0.Re, .int .i64 a1.e0.Im, .int .i64 a1.e0.Den, .int .i64 a1.e1.Re, .int .i64 a1.e1.Im, .int .i64 a1.e1.Den, .int .i64 a1.e2.Re, .int .i64 a1.e2.Im, .int .i64 a1.e2.Den, .int .i64 a1.e3.Re, .int .i64 a1.e3.Im, .int .i64 a1.e3.Den]) tyAgg_25 tySize_25) ?_
      obtain ⟨t18, hc19, H0⟩ := bind_some H0
      refine JL.call [] [] [] (jones_Mul.ok b2 a1 _ hc19) trivial ?_
      rintro _ _ ⟨rfl, rfl⟩
      refine JL.mv (.tuple #[.agg #[.int .i64 t18.1.e0.Re, .int .i64 t18.1.e0.Im, .int .i64 t18.1.e0.Den, .int .i64 t18.1.e1.Re, .int .i64 t18.1.e1.Im, .int .i64 t18.1.e1.Den, .int .i64 t18.1.e2.Re, .int .i64 t18.1.e2.Im, .int .i64 t18.1.e2.Den, .int .i64 t18.1.e3.Re, .int .i64 t18.1.e3.Im, .int .i64 t18.1.e3.Den], .int .i64 t18.2]) ?_
      refine JL.pur (.agg #[.int .i64 t18.1.e0.Re, .int .i64 t18.1.e0.Im, .int .i64 t18.1.e0.Den, .int .i64 t18.1.e1.Re, .int .i64 t18.1.e1.Im, .int .i64 t18.1.e1.Den, .int .i64 t18.1.e2.Re, .int .i64 t18.1.e2.Im, .int .i64 t18.1.e2.Den, .int .i64 t18.1.e3.Re, .int .i64 t18.1.e3.Im, .int .i64 t18.1.e3.Den]) (some 63) ?_
      refine JL.pur (.int .i64 t18.2) (some 64) ?_
      refine JL.alloc [.int .i64 0, .int .i64 0, .int .i64 0, .int .i64 0, .int .i64 0, .int .i64 0, .int .i64 0, .int .i64 0, .int .i64 0, .int .i64 0, .int .i64 0, .int .i64 0] fun b20 => ?_
      refine JL.store 3 b20 0 25 [.int .i64 0, .int .i64 0, .int .i64 0, .int .i64 0, .int .i64 0, .int .i64 0, .int .i64 0, .int .i64 0, .int .i64 0, .int .i64 0, .int .i64 0, .int .i64 0] [.int .i64 t18.1.e0.Re, .int .i64 t18.1.e0.Im, .int .i64 t18.1.e0.Den, .int .i64 t18.1.e1.Re, .int .i64 t18.1.e1.Im, .int .i64 t18.1.e1.Den, .int .i64 t18.1.e2.Re, .int .i64 t18.1.e2.Im, .int .i64 t18.1.e2.Den, .int .i64 t18.1.e3.Re, .int .i64 t18.1.e3.Im, .int .i64 t18.1.e3.Den] tySize_25 ?_
      refine JL.as (.int .i64 t18.2) ?_
      refine JL.nil ?_
      refine JQ.then_normal ?_
      refine JQ.sub [(2, .pointer (some ⟨b3, 0, none⟩)), (3, .pointer (some ⟨b4, 0, none⟩)), (5, .bool t5), (6, .pointer (some ⟨b17, 0, none⟩)), (7, .int .i64 t15.2), (8, .pointer (some ⟨b20, 0, none⟩)), (9, .int .i64 t18.2)] ?_
      refine J.join (T := Unit) (G := Unit) (fun t => law33_JonesDets.k8 a1 t5 t15 t18 = some r) (fun t g => [(2, .pointer (some ⟨b3, 0, none⟩)), (5, .bool t5), (6, .pointer (some ⟨b17, 0, none⟩)), (7, .int .i64 t15.2), (8, .pointer (some ⟨b20, 0, none⟩)), (9, .int .i64 t18.2)]) (fun t g => [At.box b3 25 [.int .i64 a1.e0.Re, .int .i64 a1.e0.Im, .int .i64 a1.e0.Den, .int .i64 a1.e1.Re, .int .i64 a1.e1.Im, .int .i64 a1.e1.Den, .int .i64 a1.e2.Re, .int .i64 a1.e2.Im, .int .i64 a1.e2.Den, .int .i64 a1.e3.Re, .int .i64 a1.e3.Im, .int .i64 a1.e3.Den], At.box b17 25 [.int .i64 t15.1.e0.Re, .int .i64 t15.1.e0.Im, .int .i64 t15.1.e0.Den, .int .i64 t15.1.e1.Re, .int .i64 t15.1.e1.Im, .int .i64 t15.1.e1.Den, .int .i64 t15.1.e2.Re, .int .i64 t15.1.e2.Im, .int .i64 t15.1.e2.Den, .int .i64 t15.1.e3.Re, .int .i64 t15.1.e3.Im, .int .i64 t15.1.e3.Den], At.box b20 25 [.int .i64 t18.1.e0.Re, .int .i64 t18.1.e0.Im, .int .i64 t18.1.e0.Den, .int .i64 t18.1.e1.Re, .int .i64 t18.1.e1.Im, .int .i64 t18.1.e1.Den, .int .i64 t18.1.e2.Re, .int .i64 t18.1.e2.Im, .int .i64 t18.1.e2.Den, .int .i64 t18.1.e3.Re, .int .i64 t18.1.e3.Im, .int .i64 t18.1.e3.Den]]) ?_ ?_
      · refine J.seq ?_
        refine J.region ?_
        refine JL.mv (.int .i64 t15.2) ?_
        refine JL.pur (.bool (decide (t15.2 = 0))) (some 66) ?_
        refine JL.nil ?_
        refine JQ.then_normal ?_
        refine JQ.sub [(2, .pointer (some ⟨b3, 0, none⟩)), (3, .pointer (some ⟨b4, 0, none⟩)), (5, .bool t5), (6, .pointer (some ⟨b17, 0, none⟩)), (7, .int .i64 t15.2), (8, .pointer (some ⟨b20, 0, none⟩)), (9, .int .i64 t18.2), (66, .bool (decide (t15.2 = 0)))] ?_
        rcases ite_cases H0 with ⟨h140, H0⟩ | ⟨h140, H0⟩
        · refine J.cond_true h140 ?_
          refine J.seq ?_
          refine J.region ?_
          refine JL.val (.agg #[.int .i64 a1.e0.Re, .int .i64 a1.e0.Im, .int .i64 a1.e0.Den, .int .i64 a1.e1.Re, .int .i64 a1.e1.Im, .int .i64 a1.e1.Den, .int .i64 a1.e2.Re, .int .i64 a1.e2.Im, .int .i64 a1.e2.Den, .int .i64 a1.e3.Re, .int .i64 a1.e3.Im, .int .i64 a1.e3.Den]) (some 68) (yields_load_boxes 0 0 [.int .i64 a1.e0.Re, .int .i64 a1.e0.Im, .int .i64 a1.e0.Den, .int .i64 a1.e1.Re, .int .i64 a1.e1.Im, .int .i64 a1.e1.Den, .int .i64 a1.e2.Re, .int .i64 a1.e2.Im, .int .i64 a1.e2.Den, .int .i64 a1.e3.Re, .int .i64 a1.e3.Im, .int .i64 a1.e3.Den] (holds_box b3 25 [.int .i64 a1.e0.Re, .int .i64 a1.e0.Im, .int .i64 a1.e0.Den, .int .i64 a1.e1.Re, .int .i64 a1.e1.Im, .int .i64 a1.e1.Den, .int .i64 a1.e2.Re, .int .i64 a1.e2.Im, .int .i64 a1.e2.Den, .int .i64 a1.e3.Re, .int .i64 a1.e3.Im, .int .i64 a1.e3.Den]) tyAgg_25 tySize_25) ?_
          obtain ⟨t141, hc142, H0⟩ := bind_some H0
          refine JL.call [] [] [] (jones_Det.ok a1 _ hc142) trivial ?_
          rintro _ _ ⟨rfl, rfl⟩
          refine JL.mv (.tuple #[.agg #[.int .i64 t141.1.Re, .int .i64 t141.1.Im, .int .i64 t141.1.Den], .int .i64 t141.2]) ?_
          refine JL.pur (.agg #[.int .i64 t141.1.Re, .int .i64 t141.1.Im, .int .i64 t141.1.Den]) (some 70) ?_
          refine JL.pur (.int .i64 t141.2) (some 71) ?_
          refine JL.alloc [.int .i64 0, .int .i64 0, .int .i64 0] fun b143 => ?_
          refine JL.store 4 b143 0 23 [.int .i64 0, .int .i64 0, .int .i64 0] [.int .i64 t141.1.Re, .int .i64 t141.1.Im, .int .i64 t141.1.Den] tySize_23 ?_
          refine JL.as (.int .i64 t141.2) ?_
          refine JL.nil ?_
          refine JQ.then_normal ?_
          refine JQ.sub [(2, .pointer (some ⟨b3, 0, none⟩)), (3, .pointer (some ⟨b4, 0, none⟩)), (5, .bool t5), (6, .pointer (some ⟨b17, 0, none⟩)), (7, .int .i64 t15.2), (8, .pointer (some ⟨b20, 0, none⟩)), (9, .int .i64 t18.2), (10, .pointer (some ⟨b143, 0, none⟩)), (11, .int .i64 t141.2)] ?_
          refine J.seq ?_
          refine J.region ?_
          refine JL.val (.agg #[.int .i64 b2.e0.Re, .int .i64 b2.e0.Im, .int .i64 b2.e0.Den, .int .i64 b2.e1.Re, .int .i64 b2.e1.Im, .int .i64 b2.e1.Den, .int .i64 b2.e2.Re, .int .i64 b2.e2.Im, .int .i64 b2.e2.Den, .int .i64 b2.e3.Re, .int .i64 b2.e3.Im, .int .i64 b2.e3.Den]) (some 73) (yields_load_boxes 1 0 [.int .i64 b2.e0.Re, .int .i64 b2.e0.Im, .int .i64 b2.e0.Den, .int .i64 b2.e1.Re, .int .i64 b2.e1.Im, .int .i64 b2.e1.Den, .int .i64 b2.e2.Re, .int .i64 b2.e2.Im, .int .i64 b2.e2.Den, .int .i64 b2.e3.Re, .int .i64 b2.e3.Im, .int .i64 b2.e3.Den] (holds_box b4 25 [.int .i64 b2.e0.Re, .int .i64 b2.e0.Im, .int .i64 b2.e0.Den, .int .i64 b2.e1.Re, .int .i64 b2.e1.Im, .int .i64 b2.e1.Den, .int .i64 b2.e2.Re, .int .i64 b2.e2.Im, .int .i64 b2.e2.Den, .int .i64 b2.e3.Re, .int .i64 b2.e3.Im, .int .i64 b2.e3.Den]) tyAgg_25 tySize_25) ?_
          obtain ⟨t144, hc145, H0⟩ := bind_some H0
          refine JL.call [] [] [] (jones_Det.ok b2 _ hc145) trivial ?_
          rintro _ _ ⟨rfl, rfl⟩
          refine JL.mv (.tuple #[.agg #[.int .i64 t144.1.Re, .int .i64 t144.1.Im, .int .i64 t144.1.Den], .int .i64 t144.2]) ?_
          refine JL.pur (.agg #[.int .i64 t144.1.Re, .int .i64 t144.1.Im, .int .i64 t144.1.Den]) (some 75) ?_
          refine JL.pur (.int .i64 t144.2) (some 76) ?_
          refine JL.alloc [.int .i64 0, .int .i64 0, .int .i64 0] fun b146 => ?_
          refine JL.store 5 b146 0 23 [.int .i64 0, .int .i64 0, .int .i64 0] [.int .i64 t144.1.Re, .int .i64 t144.1.Im, .int .i64 t144.1.Den] tySize_23 ?_
          refine JL.as (.int .i64 t144.2) ?_
          refine JL.nil ?_
          refine JQ.then_normal ?_
          refine JQ.sub [(2, .pointer (some ⟨b3, 0, none⟩)), (3, .pointer (some ⟨b4, 0, none⟩)), (5, .bool t5), (6, .pointer (some ⟨b17, 0, none⟩)), (7, .int .i64 t15.2), (8, .pointer (some ⟨b20, 0, none⟩)), (9, .int .i64 t18.2), (10, .pointer (some ⟨b143, 0, none⟩)), (11, .int .i64 t141.2), (12, .pointer (some ⟨b146, 0, none⟩)), (13, .int .i64 t144.2)] ?_
          refine J.seq ?_
          refine J.region ?_
          refine JL.val (.agg #[.int .i64 t15.1.e0.Re, .int .i64 t15.1.e0.Im, .int .i64 t15.1.e0.Den, .int .i64 t15.1.e1.Re, .int .i64 t15.1.e1.Im, .int .i64 t15.1.e1.Den, .int .i64 t15.1.e2.Re, .int .i64 t15.1.e2.Im, .int .i64 t15.1.e2.Den, .int .i64 t15.1.e3.Re, .int .i64 t15.1.e3.Im, .int .i64 t15.1.e3.Den]) (some 78) (yields_load_boxes 2 0 [.int .i64 t15.1.e0.Re, .int .i64 t15.1.e0.Im, .int .i64 t15.1.e0.Den, .int .i64 t15.1.e1.Re, .int .i64 t15.1.e1.Im, .int .i64 t15.1.e1.Den, .int .i64 t15.1.e2.Re, .int .i64 t15.1.e2.Im, .int .i64 t15.1.e2.Den, .int .i64 t15.1.e3.Re, .int .i64 t15.1.e3.Im, .int .i64 t15.1.e3.Den] (holds_box b17 25 [.int .i64 t15.1.e0.Re, .int .i64 t15.1.e0.Im, .int .i64 t15.1.e0.Den, .int .i64 t15.1.e1.Re, .int .i64 t15.1.e1.Im, .int .i64 t15.1.e1.Den, .int .i64 t15.1.e2.Re, .int .i64 t15.1.e2.Im, .int .i64 t15.1.e2.Den, .int .i64 t15.1.e3.Re, .int .i64 t15.1.e3.Im, .int .i64 t15.1.e3.Den]) tyAgg_25 tySize_25) ?_
          obtain ⟨t147, hc148, H0⟩ := bind_some H0
          refine JL.call [] [] [] (jones_Det.ok t15.1 _ hc148) trivial ?_
          rintro _ _ ⟨rfl, rfl⟩
          refine JL.mv (.tuple #[.agg #[.int .i64 t147.1.Re, .int .i64 t147.1.Im, .int .i64 t147.1.Den], .int .i64 t147.2]) ?_
          refine JL.pur (.agg #[.int .i64 t147.1.Re, .int .i64 t147.1.Im, .int .i64 t147.1.Den]) (some 80) ?_
          refine JL.pur (.int .i64 t147.2) (some 81) ?_
          refine JL.alloc [.int .i64 0, .int .i64 0, .int .i64 0] fun b149 => ?_
          refine JL.store 6 b149 0 23 [.int .i64 0, .int .i64 0, .int .i64 0] [.int .i64 t147.1.Re, .int .i64 t147.1.Im, .int .i64 t147.1.Den] tySize_23 ?_
          refine JL.as (.int .i64 t147.2) ?_
          refine JL.nil ?_
          refine JQ.then_normal ?_
          refine JQ.sub [(2, .pointer (some ⟨b3, 0, none⟩)), (3, .pointer (some ⟨b4, 0, none⟩)), (5, .bool t5), (6, .pointer (some ⟨b17, 0, none⟩)), (7, .int .i64 t15.2), (8, .pointer (some ⟨b20, 0, none⟩)), (9, .int .i64 t18.2), (10, .pointer (some ⟨b143, 0, none⟩)), (11, .int .i64 t141.2), (12, .pointer (some ⟨b146, 0, none⟩)), (13, .int .i64 t144.2), (14, .pointer (some ⟨b149, 0, none⟩)), (15, .int .i64 t147.2)] ?_
          refine J.join (T := Unit) (G := Unit) (fun t => law33_JonesDets.k17 a1 b2 t5 t15 t18 = some r) (fun t g => [(2, .pointer (some ⟨b3, 0, none⟩)), (3, .pointer (some ⟨b4, 0, none⟩)), (5, .bool t5), (6, .pointer (some ⟨b17, 0, none⟩)), (7, .int .i64 t15.2), (8, .pointer (some ⟨b20, 0, none⟩)), (9, .int .i64 t18.2)]) (fun t g => [At.box b3 25 [.int .i64 a1.e0.Re, .int .i64 a1.e0.Im, .int .i64 a1.e0.Den, .int .i64 a1.e1.Re, .int .i64 a1.e1.Im, .int .i64 a1.e1.Den, .int .i64 a1.e2.Re, .int .i64 a1.e2.Im, .int .i64 a1.e2.Den, .int .i64 a1.e3.Re, .int .i64 a1.e3.Im, .int .i64 a1.e3.Den], At.box b4 25 [.int .i64 b2.e0.Re, .int .i64 b2.e0.Im, .int .i64 b2.e0.Den, .int .i64 b2.e1.Re, .int .i64 b2.e1.Im, .int .i64 b2.e1.Den, .int .i64 b2.e2.Re, .int .i64 b2.e2.Im, .int .i64 b2.e2.Den, .int .i64 b2.e3.Re, .int .i64 b2.e3.Im, .int .i64 b2.e3.Den], At.box b17 25 [.int .i64 t15.1.e0.Re, .int .i64 t15.1.e0.Im, .int .i64 t15.1.e0.Den, .int .i64 t15.1.e1.Re, .int .i64 t15.1.e1.Im, .int .i64 t15.1.e1.Den, .int .i64 t15.1.e2.Re, .int .i64 t15.1.e2.Im, .int .i64 t15.1.e2.Den, .int .i64 t15.1.e3.Re, .int .i64 t15.1.e3.Im, .int .i64 t15.1.e3.Den], At.box b20 25 [.int .i64 t18.1.e0.Re, .int .i64 t18.1.e0.Im, .int .i64 t18.1.e0.Den, .int .i64 t18.1.e1.Re, .int .i64 t18.1.e1.Im, .int .i64 t18.1.e1.Den, .int .i64 t18.1.e2.Re, .int .i64 t18.1.e2.Im, .int .i64 t18.1.e2.Den, .int .i64 t18.1.e3.Re, .int .i64 t18.1.e3.Im, .int .i64 t18.1.e3.Den]]) ?_ ?_
          · refine J.join (T := Bool) (G := Unit) (fun t => law33_JonesDets.k19 a1 b2 t5 t15 t18 t141 t144 t147 t = some r) (fun t g => [(2, .pointer (some ⟨b3, 0, none⟩)), (3, .pointer (some ⟨b4, 0, none⟩)), (5, .bool t5), (6, .pointer (some ⟨b17, 0, none⟩)), (7, .int .i64 t15.2), (8, .pointer (some ⟨b20, 0, none⟩)), (9, .int .i64 t18.2), (10, .pointer (some ⟨b143, 0, none⟩)), (12, .pointer (some ⟨b146, 0, none⟩)), (14, .pointer (some ⟨b149, 0, none⟩)), (91, .bool t)]) (fun t g => [At.box b3 25 [.int .i64 a1.e0.Re, .int .i64 a1.e0.Im, .int .i64 a1.e0.Den, .int .i64 a1.e1.Re, .int .i64 a1.e1.Im, .int .i64 a1.e1.Den, .int .i64 a1.e2.Re, .int .i64 a1.e2.Im, .int .i64 a1.e2.Den, .int .i64 a1.e3.Re, .int .i64 a1.e3.Im, .int .i64 a1.e3.Den], At.box b4 25 [.int .i64 b2.e0.Re, .int .i64 b2.e0.Im, .int .i64 b2.e0.Den, .int .i64 b2.e1.Re, .int .i64 b2.e1.Im, .int .i64 b2.e1.Den, .int .i64 b2.e2.Re, .int .i64 b2.e2.Im, .int .i64 b2.e2.Den, .int .i64 b2.e3.Re, .int .i64 b2.e3.Im, .int .i64 b2.e3.Den], At.box b17 25 [.int .i64 t15.1.e0.Re, .int .i64 t15.1.e0.Im, .int .i64 t15.1.e0.Den, .int .i64 t15.1.e1.Re, .int .i64 t15.1.e1.Im, .int .i64 t15.1.e1.Den, .int .i64 t15.1.e2.Re, .int .i64 t15.1.e2.Im, .int .i64 t15.1.e2.Den, .int .i64 t15.1.e3.Re, .int .i64 t15.1.e3.Im, .int .i64 t15.1.e3.Den], At.box b20 25 [.int .i64 t18.1.e0.Re, .int .i64 t18.1.e0.Im, .int .i64 t18.1.e0.Den, .int .i64 t18.1.e1.Re, .int .i64 t18.1.e1.Im, .int .i64 t18.1.e1.Den, .int .i64 t18.1.e2.Re, .int .i64 t18.1.e2.Im, .int .i64 t18.1.e2.Den, .int .i64 t18.1.e3.Re, .int .i64 t18.1.e3.Im, .int .i64 t18.1.e3.Den], At.box b143 23 [.int .i64 t141.1.Re, .int .i64 t141.1.Im, .int .i64 t141.1.Den], At.box b146 23 [.int .i64 t144.1.Re, .int .i64 t144.1.Im, .int .i64 t144.1.Den], At.box b149 23 [.int .i64 t147.1.Re, .int .i64 t147.1.Im, .int .i64 t147.1.Den]]) ?_ ?_
            · refine J.region ?_
              refine JL.mv (.int .i64 t141.2) ?_
              refine JL.pur (.bool (decide (t141.2 = 0))) (some 83) ?_
              refine JL.mv (.bool (decide (t141.2 = 0))) ?_
              rcases ite_cases H0 with ⟨h196, H0⟩ | ⟨h196, H0⟩
              · refine JL.on 2 84 h196 ?_
                refine JL.mv (.int .i64 t144.2) ?_
                refine JL.on 2 84 h196 ?_
                refine JL.pur (.bool (decide (t144.2 = 0))) (some 86) ?_
                refine JL.val (.bool (decide (t144.2 = 0))) (some 87) (gives_pickT h196) ?_
                refine JL.mv (.bool (decide (t144.2 = 0))) ?_
                rcases ite_cases H0 with ⟨h197, H0⟩ | ⟨h197, H0⟩
                · refine JL.on 6 88 h197 ?_
                  refine JL.mv (.int .i64 t147.2) ?_
                  refine JL.on 6 88 h197 ?_
                  refine JL.pur (.bool (decide (t147.2 = 0))) (some 90) ?_
                  refine JL.val (.bool (decide (t147.2 = 0))) (some 91) (gives_pickT h197) ?_
                  refine JL.nil ?_
                  refine JQ.then_normal ?_
                  exact JQ.meet (decide (t147.2 = 0)) () H0 (fun _ h => Heap.to h)
                · refine JL.off 6 88 true (some 89) h197 ?_
                  refine JL.off 6 88 true (some 90) h197 ?_
                  refine JL.val (.bool false) (some 91) (gives_pickF h197) ?_
                  refine JL.nil ?_
                  refine JQ.then_normal ?_
                  exact JQ.meet false () H0 (fun _ h => Heap.to h)
              · refine JL.off 2 84 true (some 85) h196 ?_
                refine JL.off 2 84 true (some 86) h196 ?_
                refine JL.val (.bool false) (some 87) (gives_pickF h196) ?_
                refine JL.mv (.bool false) ?_
                refine JL.off 6 88 true (some 89) rfl ?_
                refine JL.off 6 88 true (some 90) rfl ?_
                refine JL.val (.bool false) (some 91) (gives_pickF rfl) ?_
                refine JL.nil ?_
                refine JQ.then_normal ?_
                exact JQ.meet false () H0 (fun _ h => Heap.to h)
            · clear H0
              rintro x187 ⟨⟩ H0
              replace H0 : law33_JonesDets.k19 a1 b2 t5 t15 t18 t141 t144 t147 x187 = some r := H0
              unfold law33_JonesDets.k19 at H0
              refine JQ.sub [(2, .pointer (some ⟨b3, 0, none⟩)), (3, .pointer (some ⟨b4, 0, none⟩)), (5, .bool t5), (6, .pointer (some ⟨b17, 0, none⟩)), (7, .int .i64 t15.2), (8, .pointer (some ⟨b20, 0, none⟩)), (9, .int .i64 t18.2), (10, .pointer (some ⟨b143, 0, none⟩)), (12, .pointer (some ⟨b146, 0, none⟩)), (14, .pointer (some ⟨b149, 0, none⟩)), (91, .bool x187)] ?_
              refine JQ.turn (Δ' := [At.box b3 25 [.int .i64 a1.e0.Re, .int .i64 a1.e0.Im, .int .i64 a1.e0.Den, .int .i64 a1.e1.Re, .int .i64 a1.e1.Im, .int .i64 a1.e1.Den, .int .i64 a1.e2.Re, .int .i64 a1.e2.Im, .int .i64 a1.e2.Den, .int .i64 a1.e3.Re, .int .i64 a1.e3.Im, .int .i64 a1.e3.Den], At.box b4 25 [.int .i64 b2.e0.Re, .int .i64 b2.e0.Im, .int .i64 b2.e0.Den, .int .i64 b2.e1.Re, .int .i64 b2.e1.Im, .int .i64 b2.e1.Den, .int .i64 b2.e2.Re, .int .i64 b2.e2.Im, .int .i64 b2.e2.Den, .int .i64 b2.e3.Re, .int .i64 b2.e3.Im, .int .i64 b2.e3.Den], At.box b17 25 [.int .i64 t15.1.e0.Re, .int .i64 t15.1.e0.Im, .int .i64 t15.1.e0.Den, .int .i64 t15.1.e1.Re, .int .i64 t15.1.e1.Im, .int .i64 t15.1.e1.Den, .int .i64 t15.1.e2.Re, .int .i64 t15.1.e2.Im, .int .i64 t15.1.e2.Den, .int .i64 t15.1.e3.Re, .int .i64 t15.1.e3.Im, .int .i64 t15.1.e3.Den], At.box b20 25 [.int .i64 t18.1.e0.Re, .int .i64 t18.1.e0.Im, .int .i64 t18.1.e0.Den, .int .i64 t18.1.e1.Re, .int .i64 t18.1.e1.Im, .int .i64 t18.1.e1.Den, .int .i64 t18.1.e2.Re, .int .i64 t18.1.e2.Im, .int .i64 t18.1.e2.Den, .int .i64 t18.1.e3.Re, .int .i64 t18.1.e3.Im, .int .i64 t18.1.e3.Den], At.box b143 23 [.int .i64 t141.1.Re, .int .i64 t141.1.Im, .int .i64 t141.1.Den], At.box b146 23 [.int .i64 t144.1.Re, .int .i64 t144.1.Im, .int .i64 t144.1.Den], At.box b149 23 [.int .i64 t147.1.Re, .int .i64 t147.1.Im, .int .i64 t147.1.Den]]) (fun _ h => h.to) ?_
              rcases ite_cases H0 with ⟨h188, H0⟩ | ⟨h188, H0⟩
              · refine J.cond_true h188 ?_
                refine J.seq ?_
                refine J.region ?_
                refine JL.val (.agg #[.int .i64 t141.1.Re, .int .i64 t141.1.Im, .int .i64 t141.1.Den]) (some 93) (yields_load_boxes 4 0 [.int .i64 t141.1.Re, .int .i64 t141.1.Im, .int .i64 t141.1.Den] (holds_box b143 23 [.int .i64 t141.1.Re, .int .i64 t141.1.Im, .int .i64 t141.1.Den]) tyAgg_23 tySize_23) ?_
                refine JL.val (.agg #[.int .i64 t144.1.Re, .int .i64 t144.1.Im, .int .i64 t144.1.Den]) (some 94) (yields_load_boxes 5 0 [.int .i64 t144.1.Re, .int .i64 t144.1.Im, .int .i64 t144.1.Den] (holds_box b146 23 [.int .i64 t144.1.Re, .int .i64 t144.1.Im, .int .i64 t144.1.Den]) tyAgg_23 tySize_23) ?_
                obtain ⟨t189, hc190, H0⟩ := bind_some H0
                refine JL.call [] [] [] (cx_Mul.ok t141.1 t144.1 _ hc190) trivial ?_
                rintro _ _ ⟨rfl, rfl⟩
                refine JL.mv (.tuple #[.agg #[.int .i64 t189.1.Re, .int .i64 t189.1.Im, .int .i64 t189.1.Den], .int .i64 t189.2]) ?_
                refine JL.pur (.agg #[.int .i64 t189.1.Re, .int .i64 t189.1.Im, .int .i64 t189.1.Den]) (some 96) ?_
                refine JL.pur (.int .i64 t189.2) (some 97) ?_
                refine JL.alloc [.int .i64 0, .int .i64 0, .int .i64 0] fun b191 => ?_
                refine JL.store 7 b191 0 23 [.int .i64 0, .int .i64 0, .int .i64 0] [.int .i64 t189.1.Re, .int .i64 t189.1.Im, .int .i64 t189.1.Den] tySize_23 ?_
                refine JL.as (.int .i64 t189.2) ?_
                refine JL.nil ?_
                refine JQ.then_normal ?_
                refine JQ.sub [(2, .pointer (some ⟨b3, 0, none⟩)), (3, .pointer (some ⟨b4, 0, none⟩)), (5, .bool t5), (6, .pointer (some ⟨b17, 0, none⟩)), (7, .int .i64 t15.2), (8, .pointer (some ⟨b20, 0, none⟩)), (9, .int .i64 t18.2), (14, .pointer (some ⟨b149, 0, none⟩)), (16, .pointer (some ⟨b191, 0, none⟩)), (17, .int .i64 t189.2)] ?_
                refine JQ.mask [At.box b3 25 [.int .i64 a1.e0.Re, .int .i64 a1.e0.Im, .int .i64 a1.e0.Den, .int .i64 a1.e1.Re, .int .i64 a1.e1.Im, .int .i64 a1.e1.Den, .int .i64 a1.e2.Re, .int .i64 a1.e2.Im, .int .i64 a1.e2.Den, .int .i64 a1.e3.Re, .int .i64 a1.e3.Im, .int .i64 a1.e3.Den], At.box b4 25 [.int .i64 b2.e0.Re, .int .i64 b2.e0.Im, .int .i64 b2.e0.Den, .int .i64 b2.e1.Re, .int .i64 b2.e1.Im, .int .i64 b2.e1.Den, .int .i64 b2.e2.Re, .int .i64 b2.e2.Im, .int .i64 b2.e2.Den, .int .i64 b2.e3.Re, .int .i64 b2.e3.Im, .int .i64 b2.e3.Den], At.box b17 25 [.int .i64 t15.1.e0.Re, .int .i64 t15.1.e0.Im, .int .i64 t15.1.e0.Den, .int .i64 t15.1.e1.Re, .int .i64 t15.1.e1.Im, .int .i64 t15.1.e1.Den, .int .i64 t15.1.e2.Re, .int .i64 t15.1.e2.Im, .int .i64 t15.1.e2.Den, .int .i64 t15.1.e3.Re, .int .i64 t15.1.e3.Im, .int .i64 t15.1.e3.Den], At.box b20 25 [.int .i64 t18.1.e0.Re, .int .i64 t18.1.e0.Im, .int .i64 t18.1.e0.Den, .int .i64 t18.1.e1.Re, .int .i64 t18.1.e1.Im, .int .i64 t18.1.e1.Den, .int .i64 t18.1.e2.Re, .int .i64 t18.1.e2.Im, .int .i64 t18.1.e2.Den, .int .i64 t18.1.e3.Re, .int .i64 t18.1.e3.Im, .int .i64 t18.1.e3.Den], At.box b149 23 [.int .i64 t147.1.Re, .int .i64 t147.1.Im, .int .i64 t147.1.Den], At.box b191 23 [.int .i64 t189.1.Re, .int .i64 t189.1.Im, .int .i64 t189.1.Den]] [true, true, true, true, false, false, true, true] ?_
                refine J.join (T := Bool) (G := Unit) (fun t => law33_JonesDets.k20 a1 b2 t5 t15 t18 t = some r) (fun t g => [(2, .pointer (some ⟨b3, 0, none⟩)), (3, .pointer (some ⟨b4, 0, none⟩)), (5, .bool t5), (6, .pointer (some ⟨b17, 0, none⟩)), (7, .int .i64 t15.2), (8, .pointer (some ⟨b20, 0, none⟩)), (9, .int .i64 t18.2), (104, .bool t)]) (fun t g => [At.box b3 25 [.int .i64 a1.e0.Re, .int .i64 a1.e0.Im, .int .i64 a1.e0.Den, .int .i64 a1.e1.Re, .int .i64 a1.e1.Im, .int .i64 a1.e1.Den, .int .i64 a1.e2.Re, .int .i64 a1.e2.Im, .int .i64 a1.e2.Den, .int .i64 a1.e3.Re, .int .i64 a1.e3.Im, .int .i64 a1.e3.Den], At.box b4 25 [.int .i64 b2.e0.Re, .int .i64 b2.e0.Im, .int .i64 b2.e0.Den, .int .i64 b2.e1.Re, .int .i64 b2.e1.Im, .int .i64 b2.e1.Den, .int .i64 b2.e2.Re, .int .i64 b2.e2.Im, .int .i64 b2.e2.Den, .int .i64 b2.e3.Re, .int .i64 b2.e3.Im, .int .i64 b2.e3.Den], At.box b17 25 [.int .i64 t15.1.e0.Re, .int .i64 t15.1.e0.Im, .int .i64 t15.1.e0.Den, .int .i64 t15.1.e1.Re, .int .i64 t15.1.e1.Im, .int .i64 t15.1.e1.Den, .int .i64 t15.1.e2.Re, .int .i64 t15.1.e2.Im, .int .i64 t15.1.e2.Den, .int .i64 t15.1.e3.Re, .int .i64 t15.1.e3.Im, .int .i64 t15.1.e3.Den], At.box b20 25 [.int .i64 t18.1.e0.Re, .int .i64 t18.1.e0.Im, .int .i64 t18.1.e0.Den, .int .i64 t18.1.e1.Re, .int .i64 t18.1.e1.Im, .int .i64 t18.1.e1.Den, .int .i64 t18.1.e2.Re, .int .i64 t18.1.e2.Im, .int .i64 t18.1.e2.Den, .int .i64 t18.1.e3.Re, .int .i64 t18.1.e3.Im, .int .i64 t18.1.e3.Den]]) ?_ ?_
                · refine J.region ?_
                  refine JL.mv (.int .i64 t189.2) ?_
                  refine JL.pur (.bool (decide (t189.2 = 0))) (some 99) ?_
                  refine JL.mv (.bool (decide (t189.2 = 0))) ?_
                  rcases ite_cases H0 with ⟨h195, H0⟩ | ⟨h195, H0⟩
                  · refine JL.on 2 100 h195 ?_
                    refine JL.val (.agg #[.int .i64 t189.1.Re, .int .i64 t189.1.Im, .int .i64 t189.1.Den]) (some 101) (yields_load_boxes 5 0 [.int .i64 t189.1.Re, .int .i64 t189.1.Im, .int .i64 t189.1.Den] (holds_box b191 23 [.int .i64 t189.1.Re, .int .i64 t189.1.Im, .int .i64 t189.1.Den]) tyAgg_23 tySize_23) ?_
                    refine JL.on 2 100 h195 ?_
                    refine JL.val (.agg #[.int .i64 t147.1.Re, .int .i64 t147.1.Im, .int .i64 t147.1.Den]) (some 102) (yields_load_boxes 4 0 [.int .i64 t147.1.Re, .int .i64 t147.1.Im, .int .i64 t147.1.Den] (holds_box b149 23 [.int .i64 t147.1.Re, .int .i64 t147.1.Im, .int .i64 t147.1.Den]) tyAgg_23 tySize_23) ?_
                    refine JL.on 2 100 h195 ?_
                    refine JL.val (.bool (!decide (t189.1 = t147.1))) (some 103) (gives_neq eqg_23 (fun w => eqt_23 t189.1 t147.1 w)) ?_
                    refine JL.val (.bool (!decide (t189.1 = t147.1))) (some 104) (gives_pickT h195) ?_
                    refine JL.nil ?_
                    refine JQ.then_normal ?_
                    exact JQ.meet (!decide (t189.1 = t147.1)) () H0 (fun _ h => Heap.to (Heap.pick [0, 1, 2, 3] (by decide) h))
                  · refine JL.off 2 100 true (some 101) h195 ?_
                    refine JL.off 2 100 true (some 102) h195 ?_
                    refine JL.off 2 100 true (some 103) h195 ?_
                    refine JL.val (.bool false) (some 104) (gives_pickF h195) ?_
                    refine JL.nil ?_
                    refine JQ.then_normal ?_
                    exact JQ.meet false () H0 (fun _ h => Heap.to (Heap.pick [0, 1, 2, 3] (by decide) h))
                · clear H0
                  rintro x193 ⟨⟩ H0
                  replace H0 : law33_JonesDets.k20 a1 b2 t5 t15 t18 x193 = some r := H0
                  unfold law33_JonesDets.k20 at H0
                  refine JQ.sub [(2, .pointer (some ⟨b3, 0, none⟩)), (3, .pointer (some ⟨b4, 0, none⟩)), (5, .bool t5), (6, .pointer (some ⟨b17, 0, none⟩)), (7, .int .i64 t15.2), (8, .pointer (some ⟨b20, 0, none⟩)), (9, .int .i64 t18.2), (104, .bool x193)] ?_
                  refine JQ.turn (Δ' := [At.box b3 25 [.int .i64 a1.e0.Re, .int .i64 a1.e0.Im, .int .i64 a1.e0.Den, .int .i64 a1.e1.Re, .int .i64 a1.e1.Im, .int .i64 a1.e1.Den, .int .i64 a1.e2.Re, .int .i64 a1.e2.Im, .int .i64 a1.e2.Den, .int .i64 a1.e3.Re, .int .i64 a1.e3.Im, .int .i64 a1.e3.Den], At.box b4 25 [.int .i64 b2.e0.Re, .int .i64 b2.e0.Im, .int .i64 b2.e0.Den, .int .i64 b2.e1.Re, .int .i64 b2.e1.Im, .int .i64 b2.e1.Den, .int .i64 b2.e2.Re, .int .i64 b2.e2.Im, .int .i64 b2.e2.Den, .int .i64 b2.e3.Re, .int .i64 b2.e3.Im, .int .i64 b2.e3.Den], At.box b17 25 [.int .i64 t15.1.e0.Re, .int .i64 t15.1.e0.Im, .int .i64 t15.1.e0.Den, .int .i64 t15.1.e1.Re, .int .i64 t15.1.e1.Im, .int .i64 t15.1.e1.Den, .int .i64 t15.1.e2.Re, .int .i64 t15.1.e2.Im, .int .i64 t15.1.e2.Den, .int .i64 t15.1.e3.Re, .int .i64 t15.1.e3.Im, .int .i64 t15.1.e3.Den], At.box b20 25 [.int .i64 t18.1.e0.Re, .int .i64 t18.1.e0.Im, .int .i64 t18.1.e0.Den, .int .i64 t18.1.e1.Re, .int .i64 t18.1.e1.Im, .int .i64 t18.1.e1.Den, .int .i64 t18.1.e2.Re, .int .i64 t18.1.e2.Im, .int .i64 t18.1.e2.Den, .int .i64 t18.1.e3.Re, .int .i64 t18.1.e3.Im, .int .i64 t18.1.e3.Den]]) (fun _ h => h.to) ?_
                  rcases ite_cases H0 with ⟨h194, H0⟩ | ⟨h194, H0⟩
                  · refine J.cond_true h194 ?_
                    refine J.seq ?_
                    refine J.region ?_
                    refine JL.as (.bool false) ?_
                    refine JL.nil ?_
                    refine JQ.then_normal ?_
                    refine JQ.sub [(4, .bool false)] ?_
                    refine JQ.mask [] [false, false, false, false] ?_
                    refine J.ret ?_
                    refine JQ.then_ret ?_
                    refine JQ.then_ret ?_
                    obtain rfl := Option.some.inj H0
                    exact JQ.done' (rs := [.tmp 4]) (vs := [.bool false]) [] (.inr rfl) ⟨by kernel_rfl, trivial⟩ (fun _ h => Heap.to h) ⟨rfl, rfl⟩
                  · refine J.cond_false h194 ?_
                    refine J.skip ?_
                    refine JQ.then_normal ?_
                    exact JQ.meet () () H0 (fun _ h => Heap.to h)
              · refine J.cond_false h188 ?_
                refine J.skip ?_
                refine JQ.then_normal ?_
                exact JQ.meet () () H0 (fun _ h => Heap.to (Heap.pick [0, 1, 2, 3] (by decide) h))
          · clear H0
            rintro ⟨⟩ ⟨⟩ H0
            replace H0 : law33_JonesDets.k17 a1 b2 t5 t15 t18 = some r := H0
            unfold law33_JonesDets.k17 at H0
            refine JQ.sub [(2, .pointer (some ⟨b3, 0, none⟩)), (3, .pointer (some ⟨b4, 0, none⟩)), (5, .bool t5), (6, .pointer (some ⟨b17, 0, none⟩)), (7, .int .i64 t15.2), (8, .pointer (some ⟨b20, 0, none⟩)), (9, .int .i64 t18.2)] ?_
            refine JQ.turn (Δ' := [At.box b3 25 [.int .i64 a1.e0.Re, .int .i64 a1.e0.Im, .int .i64 a1.e0.Den, .int .i64 a1.e1.Re, .int .i64 a1.e1.Im, .int .i64 a1.e1.Den, .int .i64 a1.e2.Re, .int .i64 a1.e2.Im, .int .i64 a1.e2.Den, .int .i64 a1.e3.Re, .int .i64 a1.e3.Im, .int .i64 a1.e3.Den], At.box b4 25 [.int .i64 b2.e0.Re, .int .i64 b2.e0.Im, .int .i64 b2.e0.Den, .int .i64 b2.e1.Re, .int .i64 b2.e1.Im, .int .i64 b2.e1.Den, .int .i64 b2.e2.Re, .int .i64 b2.e2.Im, .int .i64 b2.e2.Den, .int .i64 b2.e3.Re, .int .i64 b2.e3.Im, .int .i64 b2.e3.Den], At.box b17 25 [.int .i64 t15.1.e0.Re, .int .i64 t15.1.e0.Im, .int .i64 t15.1.e0.Den, .int .i64 t15.1.e1.Re, .int .i64 t15.1.e1.Im, .int .i64 t15.1.e1.Den, .int .i64 t15.1.e2.Re, .int .i64 t15.1.e2.Im, .int .i64 t15.1.e2.Den, .int .i64 t15.1.e3.Re, .int .i64 t15.1.e3.Im, .int .i64 t15.1.e3.Den], At.box b20 25 [.int .i64 t18.1.e0.Re, .int .i64 t18.1.e0.Im, .int .i64 t18.1.e0.Den, .int .i64 t18.1.e1.Re, .int .i64 t18.1.e1.Im, .int .i64 t18.1.e1.Den, .int .i64 t18.1.e2.Re, .int .i64 t18.1.e2.Im, .int .i64 t18.1.e2.Den, .int .i64 t18.1.e3.Re, .int .i64 t18.1.e3.Im, .int .i64 t18.1.e3.Den]]) (fun _ h => h.to) ?_
            refine J.seq ?_
            refine J.region ?_
            refine JL.val (.agg #[.int .i64 a1.e0.Re, .int .i64 a1.e0.Im, .int .i64 a1.e0.Den, .int .i64 a1.e1.Re, .int .i64 a1.e1.Im, .int .i64 a1.e1.Den, .int .i64 a1.e2.Re, .int .i64 a1.e2.Im, .int .i64 a1.e2.Den, .int .i64 a1.e3.Re, .int .i64 a1.e3.Im, .int .i64 a1.e3.Den]) (some 106) (yields_load_boxes 0 0 [.int .i64 a1.e0.Re, .int .i64 a1.e0.Im, .int .i64 a1.e0.Den, .int .i64 a1.e1.Re, .int .i64 a1.e1.Im, .int .i64 a1.e1.Den, .int .i64 a1.e2.Re, .int .i64 a1.e2.Im, .int .i64 a1.e2.Den, .int .i64 a1.e3.Re, .int .i64 a1.e3.Im, .int .i64 a1.e3.Den] (holds_box b3 25 [.int .i64 a1.e0.Re, .int .i64 a1.e0.Im, .int .i64 a1.e0.Den, .int .i64 a1.e1.Re, .int .i64 a1.e1.Im, .int .i64 a1.e1.Den, .int .i64 a1.e2.Re, .int .i64 a1.e2.Im, .int .i64 a1.e2.Den, .int .i64 a1.e3.Re, .int .i64 a1.e3.Im, .int .i64 a1.e3.Den]) tyAgg_25 tySize_25) ?_
            obtain ⟨t163, hc164, H0⟩ := bind_some H0
            refine JL.call [] [] [] (jones_Adjoint.ok a1 _ hc164) trivial ?_
            rintro _ _ ⟨rfl, rfl⟩
            refine JL.mv (.tuple #[.agg #[.int .i64 t163.1.e0.Re, .int .i64 t163.1.e0.Im, .int .i64 t163.1.e0.Den, .int .i64 t163.1.e1.Re, .int .i64 t163.1.e1.Im, .int .i64 t163.1.e1.Den, .int .i64 t163.1.e2.Re, .int .i64 t163.1.e2.Im, .int .i64 t163.1.e2.Den, .int .i64 t163.1.e3.Re, .int .i64 t163.1.e3.Im, .int .i64 t163.1.e3.Den], .int .i64 t163.2]) ?_
            refine JL.pur (.agg #[.int .i64 t163.1.e0.Re, .int .i64 t163.1.e0.Im, .int .i64 t163.1.e0.Den, .int .i64 t163.1.e1.Re, .int .i64 t163.1.e1.Im, .int .i64 t163.1.e1.Den, .int .i64 t163.1.e2.Re, .int .i64 t163.1.e2.Im, .int .i64 t163.1.e2.Den, .int .i64 t163.1.e3.Re, .int .i64 t163.1.e3.Im, .int .i64 t163.1.e3.Den]) (some 108) ?_
            refine JL.pur (.int .i64 t163.2) (some 109) ?_
            refine JL.alloc [.int .i64 0, .int .i64 0, .int .i64 0, .int .i64 0, .int .i64 0, .int .i64 0, .int .i64 0, .int .i64 0, .int .i64 0, .int .i64 0, .int .i64 0, .int .i64 0] fun b165 => ?_
            refine JL.store 4 b165 0 25 [.int .i64 0, .int .i64 0, .int .i64 0, .int .i64 0, .int .i64 0, .int .i64 0, .int .i64 0, .int .i64 0, .int .i64 0, .int .i64 0, .int .i64 0, .int .i64 0] [.int .i64 t163.1.e0.Re, .int .i64 t163.1.e0.Im, .int .i64 t163.1.e0.Den, .int .i64 t163.1.e1.Re, .int .i64 t163.1.e1.Im, .int .i64 t163.1.e1.Den, .int .i64 t163.1.e2.Re, .int .i64 t163.1.e2.Im, .int .i64 t163.1.e2.Den, .int .i64 t163.1.e3.Re, .int .i64 t163.1.e3.Im, .int .i64 t163.1.e3.Den] tySize_25 ?_
            refine JL.as (.int .i64 t163.2) ?_
            refine JL.nil ?_
            refine JQ.then_normal ?_
            refine JQ.sub [(2, .pointer (some ⟨b3, 0, none⟩)), (3, .pointer (some ⟨b4, 0, none⟩)), (5, .bool t5), (6, .pointer (some ⟨b17, 0, none⟩)), (7, .int .i64 t15.2), (8, .pointer (some ⟨b20, 0, none⟩)), (9, .int .i64 t18.2), (18, .pointer (some ⟨b165, 0, none⟩)), (19, .int .i64 t163.2)] ?_
            refine J.seq ?_
            refine J.region ?_
            refine JL.val (.agg #[.int .i64 b2.e0.Re, .int .i64 b2.e0.Im, .int .i64 b2.e0.Den, .int .i64 b2.e1.Re, .int .i64 b2.e1.Im, .int .i64 b2.e1.Den, .int .i64 b2.e2.Re, .int .i64 b2.e2.Im, .int .i64 b2.e2.Den, .int .i64 b2.e3.Re, .int .i64 b2.e3.Im, .int .i64 b2.e3.Den]) (some 111) (yields_load_boxes 1 0 [.int .i64 b2.e0.Re, .int .i64 b2.e0.Im, .int .i64 b2.e0.Den, .int .i64 b2.e1.Re, .int .i64 b2.e1.Im, .int .i64 b2.e1.Den, .int .i64 b2.e2.Re, .int .i64 b2.e2.Im, .int .i64 b2.e2.Den, .int .i64 b2.e3.Re, .int .i64 b2.e3.Im, .int .i64 b2.e3.Den] (holds_box b4 25 [.int .i64 b2.e0.Re, .int .i64 b2.e0.Im, .int .i64 b2.e0.Den, .int .i64 b2.e1.Re, .int .i64 b2.e1.Im, .int .i64 b2.e1.Den, .int .i64 b2.e2.Re, .int .i64 b2.e2.Im, .int .i64 b2.e2.Den, .int .i64 b2.e3.Re, .int .i64 b2.e3.Im, .int .i64 b2.e3.Den]) tyAgg_25 tySize_25) ?_
            obtain ⟨t166, hc167, H0⟩ := bind_some H0
            refine JL.call [] [] [] (jones_Adjoint.ok b2 _ hc167) trivial ?_
            rintro _ _ ⟨rfl, rfl⟩
            refine JL.mv (.tuple #[.agg #[.int .i64 t166.1.e0.Re, .int .i64 t166.1.e0.Im, .int .i64 t166.1.e0.Den, .int .i64 t166.1.e1.Re, .int .i64 t166.1.e1.Im, .int .i64 t166.1.e1.Den, .int .i64 t166.1.e2.Re, .int .i64 t166.1.e2.Im, .int .i64 t166.1.e2.Den, .int .i64 t166.1.e3.Re, .int .i64 t166.1.e3.Im, .int .i64 t166.1.e3.Den], .int .i64 t166.2]) ?_
            refine JL.pur (.agg #[.int .i64 t166.1.e0.Re, .int .i64 t166.1.e0.Im, .int .i64 t166.1.e0.Den, .int .i64 t166.1.e1.Re, .int .i64 t166.1.e1.Im, .int .i64 t166.1.e1.Den, .int .i64 t166.1.e2.Re, .int .i64 t166.1.e2.Im, .int .i64 t166.1.e2.Den, .int .i64 t166.1.e3.Re, .int .i64 t166.1.e3.Im, .int .i64 t166.1.e3.Den]) (some 113) ?_
            refine JL.pur (.int .i64 t166.2) (some 114) ?_
            refine JL.alloc [.int .i64 0, .int .i64 0, .int .i64 0, .int .i64 0, .int .i64 0, .int .i64 0, .int .i64 0, .int .i64 0, .int .i64 0, .int .i64 0, .int .i64 0, .int .i64 0] fun b168 => ?_
            refine JL.store 5 b168 0 25 [.int .i64 0, .int .i64 0, .int .i64 0, .int .i64 0, .int .i64 0, .int .i64 0, .int .i64 0, .int .i64 0, .int .i64 0, .int .i64 0, .int .i64 0, .int .i64 0] [.int .i64 t166.1.e0.Re, .int .i64 t166.1.e0.Im, .int .i64 t166.1.e0.Den, .int .i64 t166.1.e1.Re, .int .i64 t166.1.e1.Im, .int .i64 t166.1.e1.Den, .int .i64 t166.1.e2.Re, .int .i64 t166.1.e2.Im, .int .i64 t166.1.e2.Den, .int .i64 t166.1.e3.Re, .int .i64 t166.1.e3.Im, .int .i64 t166.1.e3.Den] tySize_25 ?_
            refine JL.as (.int .i64 t166.2) ?_
            refine JL.nil ?_
            refine JQ.then_normal ?_
            refine JQ.sub [(2, .pointer (some ⟨b3, 0, none⟩)), (5, .bool t5), (6, .pointer (some ⟨b17, 0, none⟩)), (7, .int .i64 t15.2), (8, .pointer (some ⟨b20, 0, none⟩)), (9, .int .i64 t18.2), (18, .pointer (some ⟨b165, 0, none⟩)), (19, .int .i64 t163.2), (20, .pointer (some ⟨b168, 0, none⟩)), (21, .int .i64 t166.2)] ?_
            refine JQ.mask [At.box b3 25 [.int .i64 a1.e0.Re, .int .i64 a1.e0.Im, .int .i64 a1.e0.Den, .int .i64 a1.e1.Re, .int .i64 a1.e1.Im, .int .i64 a1.e1.Den, .int .i64 a1.e2.Re, .int .i64 a1.e2.Im, .int .i64 a1.e2.Den, .int .i64 a1.e3.Re, .int .i64 a1.e3.Im, .int .i64 a1.e3.Den], At.box b17 25 [.int .i64 t15.1.e0.Re, .int .i64 t15.1.e0.Im, .int .i64 t15.1.e0.Den, .int .i64 t15.1.e1.Re, .int .i64 t15.1.e1.Im, .int .i64 t15.1.e1.Den, .int .i64 t15.1.e2.Re, .int .i64 t15.1.e2.Im, .int .i64 t15.1.e2.Den, .int .i64 t15.1.e3.Re, .int .i64 t15.1.e3.Im, .int .i64 t15.1.e3.Den], At.box b20 25 [.int .i64 t18.1.e0.Re, .int .i64 t18.1.e0.Im, .int .i64 t18.1.e0.Den, .int .i64 t18.1.e1.Re, .int .i64 t18.1.e1.Im, .int .i64 t18.1.e1.Den, .int .i64 t18.1.e2.Re, .int .i64 t18.1.e2.Im, .int .i64 t18.1.e2.Den, .int .i64 t18.1.e3.Re, .int .i64 t18.1.e3.Im, .int .i64 t18.1.e3.Den], At.box b165 25 [.int .i64 t163.1.e0.Re, .int .i64 t163.1.e0.Im, .int .i64 t163.1.e0.Den, .int .i64 t163.1.e1.Re, .int .i64 t163.1.e1.Im, .int .i64 t163.1.e1.Den, .int .i64 t163.1.e2.Re, .int .i64 t163.1.e2.Im, .int .i64 t163.1.e2.Den, .int .i64 t163.1.e3.Re, .int .i64 t163.1.e3.Im, .int .i64 t163.1.e3.Den], At.box b168 25 [.int .i64 t166.1.e0.Re, .int .i64 t166.1.e0.Im, .int .i64 t166.1.e0.Den, .int .i64 t166.1.e1.Re, .int .i64 t166.1.e1.Im, .int .i64 t166.1.e1.Den, .int .i64 t166.1.e2.Re, .int .i64 t166.1.e2.Im, .int .i64 t166.1.e2.Den, .int .i64 t166.1.e3.Re, .int .i64 t166.1.e3.Im, .int .i64 t166.1.e3.Den]] [true, false, true, true, true, true] ?_
            refine J.seq ?_
            refine J.region ?_
            refine JL.val (.agg #[.int .i64 t15.1.e0.Re, .int .i64 t15.1.e0.Im, .int .i64 t15.1.e0.Den, .int .i64 t15.1.e1.Re, .int .i64 t15.1.e1.Im, .int .i64 t15.1.e1.Den, .int .i64 t15.1.e2.Re, .int .i64 t15.1.e2.Im, .int .i64 t15.1.e2.Den, .int .i64 t15.1.e3.Re, .int .i64 t15.1.e3.Im, .int .i64 t15.1.e3.Den]) (some 116) (yields_load_boxes 1 0 [.int .i64 t15.1.e0.Re, .int .i64 t15.1.e0.Im, .int .i64 t15.1.e0.Den, .int .i64 t15.1.e1.Re, .int .i64 t15.1.e1.Im, .int .i64 t15.1.e1.Den, .int .i64 t15.1.e2.Re, .int .i64 t15.1.e2.Im, .int .i64 t15.1.e2.Den, .int .i64 t15.1.e3.Re, .int .i64 t15.1.e3.Im, .int .i64 t15.1.e3.Den] (holds_box b17 25 [.int .i64 t15.1.e0.Re, .int .i64 t15.1.e0.Im, .int .i64 t15.1.e0.Den, .int .i64 t15.1.e1.Re, .int .i64 t15.1.e1.Im, .int .i64 t15.1.e1.Den, .int .i64 t15.1.e2.Re, .int .i64 t15.1.e2.Im, .int .i64 t15.1.e2.Den, .int .i64 t15.1.e3.Re, .int .i64 t15.1.e3.Im, .int .i64 t15.1.e3.Den]) tyAgg_25 tySize_25) ?_
            obtain ⟨t169, hc170, H0⟩ := bind_some H0
            refine JL.call [] [] [] (jones_Adjoint.ok t15.1 _ hc170) trivial ?_
            rintro _ _ ⟨rfl, rfl⟩
            refine JL.mv (.tuple #[.agg #[.int .i64 t169.1.e0.Re, .int .i64 t169.1.e0.Im, .int .i64 t169.1.e0.Den, .int .i64 t169.1.e1.Re, .int .i64 t169.1.e1.Im, .int .i64 t169.1.e1.Den, .int .i64 t169.1.e2.Re, .int .i64 t169.1.e2.Im, .int .i64 t169.1.e2.Den, .int .i64 t169.1.e3.Re, .int .i64 t169.1.e3.Im, .int .i64 t169.1.e3.Den], .int .i64 t169.2]) ?_
            refine JL.pur (.agg #[.int .i64 t169.1.e0.Re, .int .i64 t169.1.e0.Im, .int .i64 t169.1.e0.Den, .int .i64 t169.1.e1.Re, .int .i64 t169.1.e1.Im, .int .i64 t169.1.e1.Den, .int .i64 t169.1.e2.Re, .int .i64 t169.1.e2.Im, .int .i64 t169.1.e2.Den, .int .i64 t169.1.e3.Re, .int .i64 t169.1.e3.Im, .int .i64 t169.1.e3.Den]) (some 118) ?_
            refine JL.pur (.int .i64 t169.2) (some 119) ?_
            refine JL.alloc [.int .i64 0, .int .i64 0, .int .i64 0, .int .i64 0, .int .i64 0, .int .i64 0, .int .i64 0, .int .i64 0, .int .i64 0, .int .i64 0, .int .i64 0, .int .i64 0] fun b171 => ?_
            refine JL.store 5 b171 0 25 [.int .i64 0, .int .i64 0, .int .i64 0, .int .i64 0, .int .i64 0, .int .i64 0, .int .i64 0, .int .i64 0, .int .i64 0, .int .i64 0, .int .i64 0, .int .i64 0] [.int .i64 t169.1.e0.Re, .int .i64 t169.1.e0.Im, .int .i64 t169.1.e0.Den, .int .i64 t169.1.e1.Re, .int .i64 t169.1.e1.Im, .int .i64 t169.1.e1.Den, .int .i64 t169.1.e2.Re, .int .i64 t169.1.e2.Im, .int .i64 t169.1.e2.Den, .int .i64 t169.1.e3.Re, .int .i64 t169.1.e3.Im, .int .i64 t169.1.e3.Den] tySize_25 ?_
            refine JL.as (.int .i64 t169.2) ?_
            refine JL.nil ?_
            refine JQ.then_normal ?_
            refine JQ.sub [(2, .pointer (some ⟨b3, 0, none⟩)), (5, .bool t5), (6, .pointer (some ⟨b17, 0, none⟩)), (7, .int .i64 t15.2), (8, .pointer (some ⟨b20, 0, none⟩)), (9, .int .i64 t18.2), (18, .pointer (some ⟨b165, 0, none⟩)), (19, .int .i64 t163.2), (20, .pointer (some ⟨b168, 0, none⟩)), (21, .int .i64 t166.2), (22, .pointer (some ⟨b171, 0, none⟩)), (23, .int .i64 t169.2)] ?_
            refine J.seq ?_
            refine J.region ?_
            refine JL.val (.agg #[.int .i64 t166.1.e0.Re, .int .i64 t166.1.e0.Im, .int .i64 t166.1.e0.Den, .int .i64 t166.1.e1.Re, .int .i64 t166.1.e1.Im, .int .i64 t166.1.e1.Den, .int .i64 t166.1.e2.Re, .int .i64 t166.1.e2.Im, .int .i64 t166.1.e2.Den, .int .i64 t166.1.e3.Re, .int .i64 t166.1.e3.Im, .int .i64 t166.1.e3.Den]) (some 121) (yields_load_boxes 4 0 [.int .i64 t166.1.e0.Re, .int .i64 t166.1.e0.Im, .int .i64 t166.1.e0.Den, .int .i64 t166.1.e1.Re, .int .i64 t166.1.e1.Im, .int .i64 t166.1.e1.Den, .int .i64 t166.1.e2.Re, .int .i64 t166.1.e2.Im, .int .i64 t166.1.e2.Den, .int .i64 t166.1.e3.Re, .int .i64 t166.1.e3.Im, .int .i64 t166.1.e3.Den] (holds_box b168 25 [.int .i64 t166.1.e0.Re, .int .i64 t166.1.e0.Im, .int .i64 t166.1.e0.Den, .int .i64 t166.1.e1.Re, .int .i64 t166.1.e1.Im, .int .i64 t166.1.e1.Den, .int .i64 t166.1.e2.Re, .int .i64 t166.1.e2.Im, .int .i64 t166.1.e2.Den, .int .i64 t166.1.e3.Re, .int .i64 t166.1.e3.Im, .int .i64 t166.1.e3.Den]) tyAgg_25 tySize_25) ?_
            refine JL.val (.agg #[.int .i64 t163.1.e0.Re, .int .i64 t163.1.e0.Im, .int .i64 t163.1.e0.Den, .int .i64 t163.1.e1.Re, .int .i64 t163.1.e1.Im, .int .i64 t163.1.e1.Den, .int .i64 t163.1.e2.Re, .int .i64 t163.1.e2.Im, .int .i64 t163.1.e2.Den, .int .i64 t163.1.e3.Re, .int .i64 t163.1.e3.Im, .int .i64 t163.1.e3.Den]) (some 122) (yields_load_boxes 3 0 [.int .i64 t163.1.e0.Re, .int .i64 t163.1.e0.Im, .int .i64 t163.1.e0.Den, .int .i64 t163.1.e1.Re, .int .i64 t163.1.e1.Im, .int .i64 t163.1.e1.Den, .int .i64 t163.1.e2.Re, .int .i64 t163.1.e2.Im, .int .i64 t163.1.e2.Den, .int .i64 t163.1.e3.Re, .int .i64 t163.1.e3.Im, .int .i64 t163.1.e3.Den] (holds_box b165 25 [.int .i64 t163.1.e0.Re, .int .i64 t163.1.e0.Im, .int .i64 t163.1.e0.Den, .int .i64 t163.1.e1.Re, .int .i64 t163.1.e1.Im, .int .i64 t163.1.e1.Den, .int .i64 t163.1.e2.Re, .int .i64 t163.1.e2.Im, .int .i64 t163.1.e2.Den, .int .i64 t163.1.e3.Re, .int .i64 t163.1.e3.Im, .int .i64 t163.1.e3.Den]) tyAgg_25 tySize_25) ?_
            obtain ⟨t172, hc173, H0⟩ := bind_some H0
            refine JL.call [] [] [] (jones_Mul.ok t166.1 t163.1 _ hc173) trivial ?_
            rintro _ _ ⟨rfl, rfl⟩
            refine JL.mv (.tuple #[.agg #[.int .i64 t172.1.e0.Re, .int .i64 t172.1.e0.Im, .int .i64 t172.1.e0.Den, .int .i64 t172.1.e1.Re, .int .i64 t172.1.e1.Im, .int .i64 t172.1.e1.Den, .int .i64 t172.1.e2.Re, .int .i64 t172.1.e2.Im, .int .i64 t172.1.e2.Den, .int .i64 t172.1.e3.Re, .int .i64 t172.1.e3.Im, .int .i64 t172.1.e3.Den], .int .i64 t172.2]) ?_
            refine JL.pur (.agg #[.int .i64 t172.1.e0.Re, .int .i64 t172.1.e0.Im, .int .i64 t172.1.e0.Den, .int .i64 t172.1.e1.Re, .int .i64 t172.1.e1.Im, .int .i64 t172.1.e1.Den, .int .i64 t172.1.e2.Re, .int .i64 t172.1.e2.Im, .int .i64 t172.1.e2.Den, .int .i64 t172.1.e3.Re, .int .i64 t172.1.e3.Im, .int .i64 t172.1.e3.Den]) (some 124) ?_
            refine JL.pur (.int .i64 t172.2) (some 125) ?_
            refine JL.alloc [.int .i64 0, .int .i64 0, .int .i64 0, .int .i64 0, .int .i64 0, .int .i64 0, .int .i64 0, .int .i64 0, .int .i64 0, .int .i64 0, .int .i64 0, .int .i64 0] fun b174 => ?_
            refine JL.store 6 b174 0 25 [.int .i64 0, .int .i64 0, .int .i64 0, .int .i64 0, .int .i64 0, .int .i64 0, .int .i64 0, .int .i64 0, .int .i64 0, .int .i64 0, .int .i64 0, .int .i64 0] [.int .i64 t172.1.e0.Re, .int .i64 t172.1.e0.Im, .int .i64 t172.1.e0.Den, .int .i64 t172.1.e1.Re, .int .i64 t172.1.e1.Im, .int .i64 t172.1.e1.Den, .int .i64 t172.1.e2.Re, .int .i64 t172.1.e2.Im, .int .i64 t172.1.e2.Den, .int .i64 t172.1.e3.Re, .int .i64 t172.1.e3.Im, .int .i64 t172.1.e3.Den] tySize_25 ?_
            refine JL.as (.int .i64 t172.2) ?_
            refine JL.nil ?_
            refine JQ.then_normal ?_
            refine JQ.sub [(2, .pointer (some ⟨b3, 0, none⟩)), (5, .bool t5), (6, .pointer (some ⟨b17, 0, none⟩)), (7, .int .i64 t15.2), (8, .pointer (some ⟨b20, 0, none⟩)), (9, .int .i64 t18.2), (19, .int .i64 t163.2), (21, .int .i64 t166.2), (22, .pointer (some ⟨b171, 0, none⟩)), (23, .int .i64 t169.2), (24, .pointer (some ⟨b174, 0, none⟩)), (25, .int .i64 t172.2)] ?_
            refine JQ.mask [At.box b3 25 [.int .i64 a1.e0.Re, .int .i64 a1.e0.Im, .int .i64 a1.e0.Den, .int .i64 a1.e1.Re, .int .i64 a1.e1.Im, .int .i64 a1.e1.Den, .int .i64 a1.e2.Re, .int .i64 a1.e2.Im, .int .i64 a1.e2.Den, .int .i64 a1.e3.Re, .int .i64 a1.e3.Im, .int .i64 a1.e3.Den], At.box b17 25 [.int .i64 t15.1.e0.Re, .int .i64 t15.1.e0.Im, .int .i64 t15.1.e0.Den, .int .i64 t15.1.e1.Re, .int .i64 t15.1.e1.Im, .int .i64 t15.1.e1.Den, .int .i64 t15.1.e2.Re, .int .i64 t15.1.e2.Im, .int .i64 t15.1.e2.Den, .int .i64 t15.1.e3.Re, .int .i64 t15.1.e3.Im, .int .i64 t15.1.e3.Den], At.box b20 25 [.int .i64 t18.1.e0.Re, .int .i64 t18.1.e0.Im, .int .i64 t18.1.e0.Den, .int .i64 t18.1.e1.Re, .int .i64 t18.1.e1.Im, .int .i64 t18.1.e1.Den, .int .i64 t18.1.e2.Re, .int .i64 t18.1.e2.Im, .int .i64 t18.1.e2.Den, .int .i64 t18.1.e3.Re, .int .i64 t18.1.e3.Im, .int .i64 t18.1.e3.Den], At.box b171 25 [.int .i64 t169.1.e0.Re, .int .i64 t169.1.e0.Im, .int .i64 t169.1.e0.Den, .int .i64 t169.1.e1.Re, .int .i64 t169.1.e1.Im, .int .i64 t169.1.e1.Den, .int .i64 t169.1.e2.Re, .int .i64 t169.1.e2.Im, .int .i64 t169.1.e2.Den, .int .i64 t169.1.e3.Re, .int .i64 t169.1.e3.Im, .int .i64 t169.1.e3.Den], At.box b174 25 [.int .i64 t172.1.e0.Re, .int .i64 t172.1.e0.Im, .int .i64 t172.1.e0.Den, .int .i64 t172.1.e1.Re, .int .i64 t172.1.e1.Im, .int .i64 t172.1.e1.Den, .int .i64 t172.1.e2.Re, .int .i64 t172.1.e2.Im, .int .i64 t172.1.e2.Den, .int .i64 t172.1.e3.Re, .int .i64 t172.1.e3.Im, .int .i64 t172.1.e3.Den]] [true, true, true, false, false, true, true] ?_
            refine J.join (T := Bool) (G := Unit) (fun t => law33_JonesDets.k18 a1 t5 t15 t18 t = some r) (fun t g => [(2, .pointer (some ⟨b3, 0, none⟩)), (5, .bool t5), (6, .pointer (some ⟨b17, 0, none⟩)), (7, .int .i64 t15.2), (8, .pointer (some ⟨b20, 0, none⟩)), (9, .int .i64 t18.2), (144, .bool t)]) (fun t g => [At.box b3 25 [.int .i64 a1.e0.Re, .int .i64 a1.e0.Im, .int .i64 a1.e0.Den, .int .i64 a1.e1.Re, .int .i64 a1.e1.Im, .int .i64 a1.e1.Den, .int .i64 a1.e2.Re, .int .i64 a1.e2.Im, .int .i64 a1.e2.Den, .int .i64 a1.e3.Re, .int .i64 a1.e3.Im, .int .i64 a1.e3.Den], At.box b17 25 [.int .i64 t15.1.e0.Re, .int .i64 t15.1.e0.Im, .int .i64 t15.1.e0.Den, .int .i64 t15.1.e1.Re, .int .i64 t15.1.e1.Im, .int .i64 t15.1.e1.Den, .int .i64 t15.1.e2.Re, .int .i64 t15.1.e2.Im, .int .i64 t15.1.e2.Den, .int .i64 t15.1.e3.Re, .int .i64 t15.1.e3.Im, .int .i64 t15.1.e3.Den], At.box b20 25 [.int .i64 t18.1.e0.Re, .int .i64 t18.1.e0.Im, .int .i64 t18.1.e0.Den, .int .i64 t18.1.e1.Re, .int .i64 t18.1.e1.Im, .int .i64 t18.1.e1.Den, .int .i64 t18.1.e2.Re, .int .i64 t18.1.e2.Im, .int .i64 t18.1.e2.Den, .int .i64 t18.1.e3.Re, .int .i64 t18.1.e3.Im, .int .i64 t18.1.e3.Den]]) ?_ ?_
            · refine J.region ?_
              refine JL.mv (.int .i64 t163.2) ?_
              refine JL.pur (.bool (!decide (t163.2 = 0))) (some 127) ?_
              refine JL.mv (.bool (!decide (t163.2 = 0))) ?_
              rcases ite_cases H0 with ⟨h181, H0⟩ | ⟨h181, H0⟩
              · refine JL.off 2 128 false (some 129) h181 ?_
                refine JL.off 2 128 false (some 130) h181 ?_
                refine JL.val (.bool true) (some 131) (gives_pickT h181) ?_
                refine JL.mv (.bool true) ?_
                refine JL.off 6 132 false (some 133) rfl ?_
                refine JL.off 6 132 false (some 134) rfl ?_
                refine JL.val (.bool true) (some 135) (gives_pickT rfl) ?_
                refine JL.mv (.bool true) ?_
                refine JL.off 10 136 false (some 137) rfl ?_
                refine JL.off 10 136 false (some 138) rfl ?_
                refine JL.off 10 136 false (some 139) rfl ?_
                refine JL.off' 13 139 true (some 140) ?_
                refine JL.off' 13 139 true (some 141) ?_
                refine JL.off' 13 139 true (some 142) ?_
                refine JL.off 10 136 false (some 143) rfl ?_
                refine JL.val (.bool true) (some 144) (gives_pickT rfl) ?_
                refine JL.nil ?_
                refine JQ.then_normal ?_
                exact JQ.meet true () H0 (fun _ h => Heap.to (Heap.pick [0, 1, 2] (by decide) h))
              · refine JL.on 2 128 h181 ?_
                refine JL.mv (.int .i64 t166.2) ?_
                refine JL.on 2 128 h181 ?_
                refine JL.pur (.bool (!decide (t166.2 = 0))) (some 130) ?_
                refine JL.val (.bool (!decide (t166.2 = 0))) (some 131) (gives_pickF h181) ?_
                refine JL.mv (.bool (!decide (t166.2 = 0))) ?_
                rcases ite_cases H0 with ⟨h182, H0⟩ | ⟨h182, H0⟩
                · refine JL.off 6 132 false (some 133) h182 ?_
                  refine JL.off 6 132 false (some 134) h182 ?_
                  refine JL.val (.bool true) (some 135) (gives_pickT h182) ?_
                  refine JL.mv (.bool true) ?_
                  refine JL.off 10 136 false (some 137) rfl ?_
                  refine JL.off 10 136 false (some 138) rfl ?_
                  refine JL.off 10 136 false (some 139) rfl ?_
                  refine JL.off' 13 139 true (some 140) ?_
                  refine JL.off' 13 139 true (some 141) ?_
                  refine JL.off' 13 139 true (some 142) ?_
                  refine JL.off 10 136 false (some 143) rfl ?_
                  refine JL.val (.bool true) (some 144) (gives_pickT rfl) ?_
                  refine JL.nil ?_
                  refine JQ.then_normal ?_
                  exact JQ.meet true () H0 (fun _ h => Heap.to (Heap.pick [0, 1, 2] (by decide) h))
                · refine JL.on 6 132 h182 ?_
                  refine JL.mv (.int .i64 t169.2) ?_
                  refine JL.on 6 132 h182 ?_
                  refine JL.pur (.bool (!decide (t169.2 = 0))) (some 134) ?_
                  refine JL.val (.bool (!decide (t169.2 = 0))) (some 135) (gives_pickF h182) ?_
                  refine JL.mv (.bool (!decide (t169.2 = 0))) ?_
                  rcases ite_cases H0 with ⟨h183, H0⟩ | ⟨h183, H0⟩
                  · refine JL.off 10 136 false (some 137) h183 ?_
                    refine JL.off 10 136 false (some 138) h183 ?_
                    refine JL.off 10 136 false (some 139) h183 ?_
                    refine JL.off' 13 139 true (some 140) ?_
                    refine JL.off' 13 139 true (some 141) ?_
                    refine JL.off' 13 139 true (some 142) ?_
                    refine JL.off 10 136 false (some 143) h183 ?_
                    refine JL.val (.bool true) (some 144) (gives_pickT h183) ?_
                    refine JL.nil ?_
                    refine JQ.then_normal ?_
                    exact JQ.meet true () H0 (fun _ h => Heap.to (Heap.pick [0, 1, 2] (by decide) h))
                  · refine JL.on 10 136 h183 ?_
                    refine JL.mv (.int .i64 t172.2) ?_
                    refine JL.on 10 136 h183 ?_
                    refine JL.pur (.bool (decide (t172.2 = 0))) (some 138) ?_
                    refine JL.on 10 136 h183 ?_
                    refine JL.mv (.bool (decide (t172.2 = 0))) ?_
                    rcases ite_cases H0 with ⟨h184, H0⟩ | ⟨h184, H0⟩
                    · refine JL.on 13 139 h184 ?_
                      refine JL.val (.agg #[.int .i64 t169.1.e0.Re, .int .i64 t169.1.e0.Im, .int .i64 t169.1.e0.Den, .int .i64 t169.1.e1.Re, .int .i64 t169.1.e1.Im, .int .i64 t169.1.e1.Den, .int .i64 t169.1.e2.Re, .int .i64 t169.1.e2.Im, .int .i64 t169.1.e2.Den, .int .i64 t169.1.e3.Re, .int .i64 t169.1.e3.Im, .int .i64 t169.1.e3.Den]) (some 140) (yields_load_boxes 3 0 [.int .i64 t169.1.e0.Re, .int .i64 t169.1.e0.Im, .int .i64 t169.1.e0.Den, .int .i64 t169.1.e1.Re, .int .i64 t169.1.e1.Im, .int .i64 t169.1.e1.Den, .int .i64 t169.1.e2.Re, .int .i64 t169.1.e2.Im, .int .i64 t169.1.e2.Den, .int .i64 t169.1.e3.Re, .int .i64 t169.1.e3.Im, .int .i64 t169.1.e3.Den] (holds_box b171 25 [.int .i64 t169.1.e0.Re, .int .i64 t169.1.e0.Im, .int .i64 t169.1.e0.Den, .int .i64 t169.1.e1.Re, .int .i64 t169.1.e1.Im, .int .i64 t169.1.e1.Den, .int .i64 t169.1.e2.Re, .int .i64 t169.1.e2.Im, .int .i64 t169.1.e2.Den, .int .i64 t169.1.e3.Re, .int .i64 t169.1.e3.Im, .int .i64 t169.1.e3.Den]) tyAgg_25 tySize_25) ?_
                      refine JL.on 13 139 h184 ?_
                      refine JL.val (.agg #[.int .i64 t172.1.e0.Re, .int .i64 t172.1.e0.Im, .int .i64 t172.1.e0.Den, .int .i64 t172.1.e1.Re, .int .i64 t172.1.e1.Im, .int .i64 t172.1.e1.Den, .int .i64 t172.1.e2.Re, .int .i64 t172.1.e2.Im, .int .i64 t172.1.e2.Den, .int .i64 t172.1.e3.Re, .int .i64 t172.1.e3.Im, .int .i64 t172.1.e3.Den]) (some 141) (yields_load_boxes 4 0 [.int .i64 t172.1.e0.Re, .int .i64 t172.1.e0.Im, .int .i64 t172.1.e0.Den, .int .i64 t172.1.e1.Re, .int .i64 t172.1.e1.Im, .int .i64 t172.1.e1.Den, .int .i64 t172.1.e2.Re, .int .i64 t172.1.e2.Im, .int .i64 t172.1.e2.Den, .int .i64 t172.1.e3.Re, .int .i64 t172.1.e3.Im, .int .i64 t172.1.e3.Den] (holds_box b174 25 [.int .i64 t172.1.e0.Re, .int .i64 t172.1.e0.Im, .int .i64 t172.1.e0.Den, .int .i64 t172.1.e1.Re, .int .i64 t172.1.e1.Im, .int .i64 t172.1.e1.Den, .int .i64 t172.1.e2.Re, .int .i64 t172.1.e2.Im, .int .i64 t172.1.e2.Den, .int .i64 t172.1.e3.Re, .int .i64 t172.1.e3.Im, .int .i64 t172.1.e3.Den]) tyAgg_25 tySize_25) ?_
                      refine JL.on 13 139 h184 ?_
                      refine JL.val (.bool (!decide (t169.1 = t172.1))) (some 142) (gives_neq eqg_25 (fun w => eqt_25 t169.1 t172.1 w)) ?_
                      refine JL.on 10 136 h183 ?_
                      refine JL.val (.bool (!decide (t169.1 = t172.1))) (some 143) (gives_pickT h184) ?_
                      refine JL.val (.bool (!decide (t169.1 = t172.1))) (some 144) (gives_pickF h183) ?_
                      refine JL.nil ?_
                      refine JQ.then_normal ?_
                      exact JQ.meet (!decide (t169.1 = t172.1)) () H0 (fun _ h => Heap.to (Heap.pick [0, 1, 2] (by decide) h))
                    · refine JL.off 13 139 true (some 140) h184 ?_
                      refine JL.off 13 139 true (some 141) h184 ?_
                      refine JL.off 13 139 true (some 142) h184 ?_
                      refine JL.on 10 136 h183 ?_
                      refine JL.val (.bool false) (some 143) (gives_pickF h184) ?_
                      refine JL.val (.bool false) (some 144) (gives_pickF h183) ?_
                      refine JL.nil ?_
                      refine JQ.then_normal ?_
                      exact JQ.meet false () H0 (fun _ h => Heap.to (Heap.pick [0, 1, 2] (by decide) h))
            · clear H0
              rintro x179 ⟨⟩ H0
              replace H0 : law33_JonesDets.k18 a1 t5 t15 t18 x179 = some r := H0
              unfold law33_JonesDets.k18 at H0
              refine JQ.sub [(2, .pointer (some ⟨b3, 0, none⟩)), (5, .bool t5), (6, .pointer (some ⟨b17, 0, none⟩)), (7, .int .i64 t15.2), (8, .pointer (some ⟨b20, 0, none⟩)), (9, .int .i64 t18.2), (144, .bool x179)] ?_
              refine JQ.turn (Δ' := [At.box b3 25 [.int .i64 a1.e0.Re, .int .i64 a1.e0.Im, .int .i64 a1.e0.Den, .int .i64 a1.e1.Re, .int .i64 a1.e1.Im, .int .i64 a1.e1.Den, .int .i64 a1.e2.Re, .int .i64 a1.e2.Im, .int .i64 a1.e2.Den, .int .i64 a1.e3.Re, .int .i64 a1.e3.Im, .int .i64 a1.e3.Den], At.box b17 25 [.int .i64 t15.1.e0.Re, .int .i64 t15.1.e0.Im, .int .i64 t15.1.e0.Den, .int .i64 t15.1.e1.Re, .int .i64 t15.1.e1.Im, .int .i64 t15.1.e1.Den, .int .i64 t15.1.e2.Re, .int .i64 t15.1.e2.Im, .int .i64 t15.1.e2.Den, .int .i64 t15.1.e3.Re, .int .i64 t15.1.e3.Im, .int .i64 t15.1.e3.Den], At.box b20 25 [.int .i64 t18.1.e0.Re, .int .i64 t18.1.e0.Im, .int .i64 t18.1.e0.Den, .int .i64 t18.1.e1.Re, .int .i64 t18.1.e1.Im, .int .i64 t18.1.e1.Den, .int .i64 t18.1.e2.Re, .int .i64 t18.1.e2.Im, .int .i64 t18.1.e2.Den, .int .i64 t18.1.e3.Re, .int .i64 t18.1.e3.Im, .int .i64 t18.1.e3.Den]]) (fun _ h => h.to) ?_
              rcases ite_cases H0 with ⟨h180, H0⟩ | ⟨h180, H0⟩
              · refine J.cond_true h180 ?_
                refine J.seq ?_
                refine J.region ?_
                refine JL.as (.bool false) ?_
                refine JL.nil ?_
                refine JQ.then_normal ?_
                refine JQ.sub [(4, .bool false)] ?_
                refine JQ.mask [] [false, false, false] ?_
                refine J.ret ?_
                refine JQ.then_ret ?_
                obtain rfl := Option.some.inj H0
                exact JQ.done' (rs := [.tmp 4]) (vs := [.bool false]) [] (.inr rfl) ⟨by kernel_rfl, trivial⟩ (fun _ h => Heap.to h) ⟨rfl, rfl⟩
              · refine J.cond_false h180 ?_
                refine J.skip ?_
                refine JQ.then_normal ?_
                exact JQ.meet () () H0 (fun _ h => Heap.to h)
        · refine J.cond_false h140 ?_
          refine J.skip ?_
          refine JQ.then_normal ?_
          exact JQ.meet () () H0 (fun _ h => Heap.to (Heap.pick [0, 2, 3] (by decide) h))
      · clear H0
        rintro ⟨⟩ ⟨⟩ H0
        replace H0 : law33_JonesDets.k8 a1 t5 t15 t18 = some r := H0
        unfold law33_JonesDets.k8 at H0
        refine JQ.sub [(2, .pointer (some ⟨b3, 0, none⟩)), (5, .bool t5), (6, .pointer (some ⟨b17, 0, none⟩)), (7, .int .i64 t15.2), (8, .pointer (some ⟨b20, 0, none⟩)), (9, .int .i64 t18.2)] ?_
        refine JQ.turn (Δ' := [At.box b3 25 [.int .i64 a1.e0.Re, .int .i64 a1.e0.Im, .int .i64 a1.e0.Den, .int .i64 a1.e1.Re, .int .i64 a1.e1.Im, .int .i64 a1.e1.Den, .int .i64 a1.e2.Re, .int .i64 a1.e2.Im, .int .i64 a1.e2.Den, .int .i64 a1.e3.Re, .int .i64 a1.e3.Im, .int .i64 a1.e3.Den], At.box b17 25 [.int .i64 t15.1.e0.Re, .int .i64 t15.1.e0.Im, .int .i64 t15.1.e0.Den, .int .i64 t15.1.e1.Re, .int .i64 t15.1.e1.Im, .int .i64 t15.1.e1.Den, .int .i64 t15.1.e2.Re, .int .i64 t15.1.e2.Im, .int .i64 t15.1.e2.Den, .int .i64 t15.1.e3.Re, .int .i64 t15.1.e3.Im, .int .i64 t15.1.e3.Den], At.box b20 25 [.int .i64 t18.1.e0.Re, .int .i64 t18.1.e0.Im, .int .i64 t18.1.e0.Den, .int .i64 t18.1.e1.Re, .int .i64 t18.1.e1.Im, .int .i64 t18.1.e1.Den, .int .i64 t18.1.e2.Re, .int .i64 t18.1.e2.Im, .int .i64 t18.1.e2.Den, .int .i64 t18.1.e3.Re, .int .i64 t18.1.e3.Im, .int .i64 t18.1.e3.Den]]) (fun _ h => h.to) ?_
        refine J.join (T := Unit) (G := Unit) (fun t => law33_JonesDets.k11 a1 t5 = some r) (fun t g => [(2, .pointer (some ⟨b3, 0, none⟩)), (5, .bool t5)]) (fun t g => [At.box b3 25 [.int .i64 a1.e0.Re, .int .i64 a1.e0.Im, .int .i64 a1.e0.Den, .int .i64 a1.e1.Re, .int .i64 a1.e1.Im, .int .i64 a1.e1.Den, .int .i64 a1.e2.Re, .int .i64 a1.e2.Im, .int .i64 a1.e2.Den, .int .i64 a1.e3.Re, .int .i64 a1.e3.Im, .int .i64 a1.e3.Den]]) ?_ ?_
        · refine J.join (T := Bool) (G := Unit) (fun t => law33_JonesDets.k13 a1 t5 t15 t18 t = some r) (fun t g => [(2, .pointer (some ⟨b3, 0, none⟩)), (5, .bool t5), (6, .pointer (some ⟨b17, 0, none⟩)), (8, .pointer (some ⟨b20, 0, none⟩)), (150, .bool t)]) (fun t g => [At.box b3 25 [.int .i64 a1.e0.Re, .int .i64 a1.e0.Im, .int .i64 a1.e0.Den, .int .i64 a1.e1.Re, .int .i64 a1.e1.Im, .int .i64 a1.e1.Den, .int .i64 a1.e2.Re, .int .i64 a1.e2.Im, .int .i64 a1.e2.Den, .int .i64 a1.e3.Re, .int .i64 a1.e3.Im, .int .i64 a1.e3.Den], At.box b17 25 [.int .i64 t15.1.e0.Re, .int .i64 t15.1.e0.Im, .int .i64 t15.1.e0.Den, .int .i64 t15.1.e1.Re, .int .i64 t15.1.e1.Im, .int .i64 t15.1.e1.Den, .int .i64 t15.1.e2.Re, .int .i64 t15.1.e2.Im, .int .i64 t15.1.e2.Den, .int .i64 t15.1.e3.Re, .int .i64 t15.1.e3.Im, .int .i64 t15.1.e3.Den], At.box b20 25 [.int .i64 t18.1.e0.Re, .int .i64 t18.1.e0.Im, .int .i64 t18.1.e0.Den, .int .i64 t18.1.e1.Re, .int .i64 t18.1.e1.Im, .int .i64 t18.1.e1.Den, .int .i64 t18.1.e2.Re, .int .i64 t18.1.e2.Im, .int .i64 t18.1.e2.Den, .int .i64 t18.1.e3.Re, .int .i64 t18.1.e3.Im, .int .i64 t18.1.e3.Den]]) ?_ ?_
          · refine J.region ?_
            refine JL.mv (.int .i64 t15.2) ?_
            refine JL.pur (.bool (decide (t15.2 = 0))) (some 146) ?_
            refine JL.mv (.bool (decide (t15.2 = 0))) ?_
            rcases ite_cases H0 with ⟨h139, H0⟩ | ⟨h139, H0⟩
            · refine JL.on 2 147 h139 ?_
              refine JL.mv (.int .i64 t18.2) ?_
              refine JL.on 2 147 h139 ?_
              refine JL.pur (.bool (decide (t18.2 = 0))) (some 149) ?_
              refine JL.val (.bool (decide (t18.2 = 0))) (some 150) (gives_pickT h139) ?_
              refine JL.nil ?_
              refine JQ.then_normal ?_
              exact JQ.meet (decide (t18.2 = 0)) () H0 (fun _ h => Heap.to h)
            · refine JL.off 2 147 true (some 148) h139 ?_
              refine JL.off 2 147 true (some 149) h139 ?_
              refine JL.val (.bool false) (some 150) (gives_pickF h139) ?_
              refine JL.nil ?_
              refine JQ.then_normal ?_
              exact JQ.meet false () H0 (fun _ h => Heap.to h)
          · clear H0
            rintro x125 ⟨⟩ H0
            replace H0 : law33_JonesDets.k13 a1 t5 t15 t18 x125 = some r := H0
            unfold law33_JonesDets.k13 at H0
            refine JQ.sub [(2, .pointer (some ⟨b3, 0, none⟩)), (5, .bool t5), (6, .pointer (some ⟨b17, 0, none⟩)), (8, .pointer (some ⟨b20, 0, none⟩)), (150, .bool x125)] ?_
            refine JQ.turn (Δ' := [At.box b3 25 [.int .i64 a1.e0.Re, .int .i64 a1.e0.Im, .int .i64 a1.e0.Den, .int .i64 a1.e1.Re, .int .i64 a1.e1.Im, .int .i64 a1.e1.Den, .int .i64 a1.e2.Re, .int .i64 a1.e2.Im, .int .i64 a1.e2.Den, .int .i64 a1.e3.Re, .int .i64 a1.e3.Im, .int .i64 a1.e3.Den], At.box b17 25 [.int .i64 t15.1.e0.Re, .int .i64 t15.1.e0.Im, .int .i64 t15.1.e0.Den, .int .i64 t15.1.e1.Re, .int .i64 t15.1.e1.Im, .int .i64 t15.1.e1.Den, .int .i64 t15.1.e2.Re, .int .i64 t15.1.e2.Im, .int .i64 t15.1.e2.Den, .int .i64 t15.1.e3.Re, .int .i64 t15.1.e3.Im, .int .i64 t15.1.e3.Den], At.box b20 25 [.int .i64 t18.1.e0.Re, .int .i64 t18.1.e0.Im, .int .i64 t18.1.e0.Den, .int .i64 t18.1.e1.Re, .int .i64 t18.1.e1.Im, .int .i64 t18.1.e1.Den, .int .i64 t18.1.e2.Re, .int .i64 t18.1.e2.Im, .int .i64 t18.1.e2.Den, .int .i64 t18.1.e3.Re, .int .i64 t18.1.e3.Im, .int .i64 t18.1.e3.Den]]) (fun _ h => h.to) ?_
            rcases ite_cases H0 with ⟨h126, H0⟩ | ⟨h126, H0⟩
            · refine J.cond_true h126 ?_
              refine J.seq ?_
              refine J.region ?_
              refine JL.val (.agg #[.int .i64 t15.1.e0.Re, .int .i64 t15.1.e0.Im, .int .i64 t15.1.e0.Den, .int .i64 t15.1.e1.Re, .int .i64 t15.1.e1.Im, .int .i64 t15.1.e1.Den, .int .i64 t15.1.e2.Re, .int .i64 t15.1.e2.Im, .int .i64 t15.1.e2.Den, .int .i64 t15.1.e3.Re, .int .i64 t15.1.e3.Im, .int .i64 t15.1.e3.Den]) (some 152) (yields_load_boxes 1 0 [.int .i64 t15.1.e0.Re, .int .i64 t15.1.e0.Im, .int .i64 t15.1.e0.Den, .int .i64 t15.1.e1.Re, .int .i64 t15.1.e1.Im, .int .i64 t15.1.e1.Den, .int .i64 t15.1.e2.Re, .int .i64 t15.1.e2.Im, .int .i64 t15.1.e2.Den, .int .i64 t15.1.e3.Re, .int .i64 t15.1.e3.Im, .int .i64 t15.1.e3.Den] (holds_box b17 25 [.int .i64 t15.1.e0.Re, .int .i64 t15.1.e0.Im, .int .i64 t15.1.e0.Den, .int .i64 t15.1.e1.Re, .int .i64 t15.1.e1.Im, .int .i64 t15.1.e1.Den, .int .i64 t15.1.e2.Re, .int .i64 t15.1.e2.Im, .int .i64 t15.1.e2.Den, .int .i64 t15.1.e3.Re, .int .i64 t15.1.e3.Im, .int .i64 t15.1.e3.Den]) tyAgg_25 tySize_25) ?_
              obtain ⟨t127, hc128, H0⟩ := bind_some H0
              refine JL.call [] [] [] (jones_Trace.ok t15.1 _ hc128) trivial ?_
              rintro _ _ ⟨rfl, rfl⟩
              refine JL.mv (.tuple #[.agg #[.int .i64 t127.1.Re, .int .i64 t127.1.Im, .int .i64 t127.1.Den], .int .i64 t127.2]) ?_
              refine JL.pur (.agg #[.int .i64 t127.1.Re, .int .i64 t127.1.Im, .int .i64 t127.1.Den]) (some 154) ?_
              refine JL.pur (.int .i64 t127.2) (some 155) ?_
              refine JL.alloc [.int .i64 0, .int .i64 0, .int .i64 0] fun b129 => ?_
              refine JL.store 3 b129 0 23 [.int .i64 0, .int .i64 0, .int .i64 0] [.int .i64 t127.1.Re, .int .i64 t127.1.Im, .int .i64 t127.1.Den] tySize_23 ?_
              refine JL.as (.int .i64 t127.2) ?_
              refine JL.nil ?_
              refine JQ.then_normal ?_
              refine JQ.sub [(2, .pointer (some ⟨b3, 0, none⟩)), (5, .bool t5), (8, .pointer (some ⟨b20, 0, none⟩)), (26, .pointer (some ⟨b129, 0, none⟩)), (27, .int .i64 t127.2)] ?_
              refine JQ.mask [At.box b3 25 [.int .i64 a1.e0.Re, .int .i64 a1.e0.Im, .int .i64 a1.e0.Den, .int .i64 a1.e1.Re, .int .i64 a1.e1.Im, .int .i64 a1.e1.Den, .int .i64 a1.e2.Re, .int .i64 a1.e2.Im, .int .i64 a1.e2.Den, .int .i64 a1.e3.Re, .int .i64 a1.e3.Im, .int .i64 a1.e3.Den], At.box b20 25 [.int .i64 t18.1.e0.Re, .int .i64 t18.1.e0.Im, .int .i64 t18.1.e0.Den, .int .i64 t18.1.e1.Re, .int .i64 t18.1.e1.Im, .int .i64 t18.1.e1.Den, .int .i64 t18.1.e2.Re, .int .i64 t18.1.e2.Im, .int .i64 t18.1.e2.Den, .int .i64 t18.1.e3.Re, .int .i64 t18.1.e3.Im, .int .i64 t18.1.e3.Den], At.box b129 23 [.int .i64 t127.1.Re, .int .i64 t127.1.Im, .int .i64 t127.1.Den]] [true, false, true, true] ?_
              refine J.seq ?_
              refine J.region ?_
              refine JL.val (.agg #[.int .i64 t18.1.e0.Re, .int .i64 t18.1.e0.Im, .int .i64 t18.1.e0.Den, .int .i64 t18.1.e1.Re, .int .i64 t18.1.e1.Im, .int .i64 t18.1.e1.Den, .int .i64 t18.1.e2.Re, .int .i64 t18.1.e2.Im, .int .i64 t18.1.e2.Den, .int .i64 t18.1.e3.Re, .int .i64 t18.1.e3.Im, .int .i64 t18.1.e3.Den]) (some 157) (yields_load_boxes 1 0 [.int .i64 t18.1.e0.Re, .int .i64 t18.1.e0.Im, .int .i64 t18.1.e0.Den, .int .i64 t18.1.e1.Re, .int .i64 t18.1.e1.Im, .int .i64 t18.1.e1.Den, .int .i64 t18.1.e2.Re, .int .i64 t18.1.e2.Im, .int .i64 t18.1.e2.Den, .int .i64 t18.1.e3.Re, .int .i64 t18.1.e3.Im, .int .i64 t18.1.e3.Den] (holds_box b20 25 [.int .i64 t18.1.e0.Re, .int .i64 t18.1.e0.Im, .int .i64 t18.1.e0.Den, .int .i64 t18.1.e1.Re, .int .i64 t18.1.e1.Im, .int .i64 t18.1.e1.Den, .int .i64 t18.1.e2.Re, .int .i64 t18.1.e2.Im, .int .i64 t18.1.e2.Den, .int .i64 t18.1.e3.Re, .int .i64 t18.1.e3.Im, .int .i64 t18.1.e3.Den]) tyAgg_25 tySize_25) ?_
              obtain ⟨t130, hc131, H0⟩ := bind_some H0
              refine JL.call [] [] [] (jones_Trace.ok t18.1 _ hc131) trivial ?_
              rintro _ _ ⟨rfl, rfl⟩
              refine JL.mv (.tuple #[.agg #[.int .i64 t130.1.Re, .int .i64 t130.1.Im, .int .i64 t130.1.Den], .int .i64 t130.2]) ?_
              refine JL.pur (.agg #[.int .i64 t130.1.Re, .int .i64 t130.1.Im, .int .i64 t130.1.Den]) (some 159) ?_
              refine JL.pur (.int .i64 t130.2) (some 160) ?_
              refine JL.alloc [.int .i64 0, .int .i64 0, .int .i64 0] fun b132 => ?_
              refine JL.store 3 b132 0 23 [.int .i64 0, .int .i64 0, .int .i64 0] [.int .i64 t130.1.Re, .int .i64 t130.1.Im, .int .i64 t130.1.Den] tySize_23 ?_
              refine JL.as (.int .i64 t130.2) ?_
              refine JL.nil ?_
              refine JQ.then_normal ?_
              refine JQ.sub [(2, .pointer (some ⟨b3, 0, none⟩)), (5, .bool t5), (26, .pointer (some ⟨b129, 0, none⟩)), (27, .int .i64 t127.2), (28, .pointer (some ⟨b132, 0, none⟩)), (29, .int .i64 t130.2)] ?_
              refine JQ.mask [At.box b3 25 [.int .i64 a1.e0.Re, .int .i64 a1.e0.Im, .int .i64 a1.e0.Den, .int .i64 a1.e1.Re, .int .i64 a1.e1.Im, .int .i64 a1.e1.Den, .int .i64 a1.e2.Re, .int .i64 a1.e2.Im, .int .i64 a1.e2.Den, .int .i64 a1.e3.Re, .int .i64 a1.e3.Im, .int .i64 a1.e3.Den], At.box b129 23 [.int .i64 t127.1.Re, .int .i64 t127.1.Im, .int .i64 t127.1.Den], At.box b132 23 [.int .i64 t130.1.Re, .int .i64 t130.1.Im, .int .i64 t130.1.Den]] [true, false, true, true] ?_
              refine J.join (T := Bool) (G := Unit) (fun t => law33_JonesDets.k14 a1 t5 t = some r) (fun t g => [(2, .pointer (some ⟨b3, 0, none⟩)), (5, .bool t5), (171, .bool t)]) (fun t g => [At.box b3 25 [.int .i64 a1.e0.Re, .int .i64 a1.e0.Im, .int .i64 a1.e0.Den, .int .i64 a1.e1.Re, .int .i64 a1.e1.Im, .int .i64 a1.e1.Den, .int .i64 a1.e2.Re, .int .i64 a1.e2.Im, .int .i64 a1.e2.Den, .int .i64 a1.e3.Re, .int .i64 a1.e3.Im, .int .i64 a1.e3.Den]]) ?_ ?_
              · refine J.region ?_
                refine JL.mv (.int .i64 t127.2) ?_
                refine JL.pur (.bool (decide (t127.2 = 0))) (some 162) ?_
                refine JL.mv (.bool (decide (t127.2 = 0))) ?_
                rcases ite_cases H0 with ⟨h137, H0⟩ | ⟨h137, H0⟩
                · refine JL.on 2 163 h137 ?_
                  refine JL.mv (.int .i64 t130.2) ?_
                  refine JL.on 2 163 h137 ?_
                  refine JL.pur (.bool (decide (t130.2 = 0))) (some 165) ?_
                  refine JL.val (.bool (decide (t130.2 = 0))) (some 166) (gives_pickT h137) ?_
                  refine JL.mv (.bool (decide (t130.2 = 0))) ?_
                  rcases ite_cases H0 with ⟨h138, H0⟩ | ⟨h138, H0⟩
                  · refine JL.on 6 167 h138 ?_
                    refine JL.val (.agg #[.int .i64 t127.1.Re, .int .i64 t127.1.Im, .int .i64 t127.1.Den]) (some 168) (yields_load_boxes 1 0 [.int .i64 t127.1.Re, .int .i64 t127.1.Im, .int .i64 t127.1.Den] (holds_box b129 23 [.int .i64 t127.1.Re, .int .i64 t127.1.Im, .int .i64 t127.1.Den]) tyAgg_23 tySize_23) ?_
                    refine JL.on 6 167 h138 ?_
                    refine JL.val (.agg #[.int .i64 t130.1.Re, .int .i64 t130.1.Im, .int .i64 t130.1.Den]) (some 169) (yields_load_boxes 2 0 [.int .i64 t130.1.Re, .int .i64 t130.1.Im, .int .i64 t130.1.Den] (holds_box b132 23 [.int .i64 t130.1.Re, .int .i64 t130.1.Im, .int .i64 t130.1.Den]) tyAgg_23 tySize_23) ?_
                    refine JL.on 6 167 h138 ?_
                    refine JL.val (.bool (!decide (t127.1 = t130.1))) (some 170) (gives_neq eqg_23 (fun w => eqt_23 t127.1 t130.1 w)) ?_
                    refine JL.val (.bool (!decide (t127.1 = t130.1))) (some 171) (gives_pickT h138) ?_
                    refine JL.nil ?_
                    refine JQ.then_normal ?_
                    exact JQ.meet (!decide (t127.1 = t130.1)) () H0 (fun _ h => Heap.to (Heap.pick [0] (by decide) h))
                  · refine JL.off 6 167 true (some 168) h138 ?_
                    refine JL.off 6 167 true (some 169) h138 ?_
                    refine JL.off 6 167 true (some 170) h138 ?_
                    refine JL.val (.bool false) (some 171) (gives_pickF h138) ?_
                    refine JL.nil ?_
                    refine JQ.then_normal ?_
                    exact JQ.meet false () H0 (fun _ h => Heap.to (Heap.pick [0] (by decide) h))
                · refine JL.off 2 163 true (some 164) h137 ?_
                  refine JL.off 2 163 true (some 165) h137 ?_
                  refine JL.val (.bool false) (some 166) (gives_pickF h137) ?_
                  refine JL.mv (.bool false) ?_
                  refine JL.off 6 167 true (some 168) rfl ?_
                  refine JL.off 6 167 true (some 169) rfl ?_
                  refine JL.off 6 167 true (some 170) rfl ?_
                  refine JL.val (.bool false) (some 171) (gives_pickF rfl) ?_
                  refine JL.nil ?_
                  refine JQ.then_normal ?_
                  exact JQ.meet false () H0 (fun _ h => Heap.to (Heap.pick [0] (by decide) h))
              · clear H0
                rintro x135 ⟨⟩ H0
                replace H0 : law33_JonesDets.k14 a1 t5 x135 = some r := H0
                unfold law33_JonesDets.k14 at H0
                refine JQ.sub [(2, .pointer (some ⟨b3, 0, none⟩)), (5, .bool t5), (171, .bool x135)] ?_
                refine JQ.turn (Δ' := [At.box b3 25 [.int .i64 a1.e0.Re, .int .i64 a1.e0.Im, .int .i64 a1.e0.Den, .int .i64 a1.e1.Re, .int .i64 a1.e1.Im, .int .i64 a1.e1.Den, .int .i64 a1.e2.Re, .int .i64 a1.e2.Im, .int .i64 a1.e2.Den, .int .i64 a1.e3.Re, .int .i64 a1.e3.Im, .int .i64 a1.e3.Den]]) (fun _ h => h.to) ?_
                rcases ite_cases H0 with ⟨h136, H0⟩ | ⟨h136, H0⟩
                · refine J.cond_true h136 ?_
                  refine J.seq ?_
                  refine J.region ?_
                  refine JL.as (.bool false) ?_
                  refine JL.nil ?_
                  refine JQ.then_normal ?_
                  refine JQ.sub [(4, .bool false)] ?_
                  refine JQ.mask [] [false] ?_
                  refine J.ret ?_
                  refine JQ.then_ret ?_
                  obtain rfl := Option.some.inj H0
                  exact JQ.done' (rs := [.tmp 4]) (vs := [.bool false]) [] (.inr rfl) ⟨by kernel_rfl, trivial⟩ (fun _ h => Heap.to h) ⟨rfl, rfl⟩
                · refine J.cond_false h136 ?_
                  refine J.skip ?_
                  refine JQ.then_normal ?_
                  exact JQ.meet () () H0 (fun _ h => Heap.to h)
            · refine J.cond_false h126 ?_
              refine J.skip ?_
              refine JQ.then_normal ?_
              exact JQ.meet () () H0 (fun _ h => Heap.to (Heap.pick [0] (by decide) h))
        · clear H0
          rintro ⟨⟩ ⟨⟩ H0
          replace H0 : law33_JonesDets.k11 a1 t5 = some r := H0
          unfold law33_JonesDets.k11 at H0
          refine JQ.sub [(2, .pointer (some ⟨b3, 0, none⟩)), (5, .bool t5)] ?_
          refine JQ.turn (Δ' := [At.box b3 25 [.int .i64 a1.e0.Re, .int .i64 a1.e0.Im, .int .i64 a1.e0.Den, .int .i64 a1.e1.Re, .int .i64 a1.e1.Im, .int .i64 a1.e1.Den, .int .i64 a1.e2.Re, .int .i64 a1.e2.Im, .int .i64 a1.e2.Den, .int .i64 a1.e3.Re, .int .i64 a1.e3.Im, .int .i64 a1.e3.Den]]) (fun _ h => h.to) ?_
          refine J.seq ?_
          refine J.region ?_
          refine JL.val (.agg #[.int .i64 a1.e0.Re, .int .i64 a1.e0.Im, .int .i64 a1.e0.Den, .int .i64 a1.e1.Re, .int .i64 a1.e1.Im, .int .i64 a1.e1.Den, .int .i64 a1.e2.Re, .int .i64 a1.e2.Im, .int .i64 a1.e2.Den, .int .i64 a1.e3.Re, .int .i64 a1.e3.Im, .int .i64 a1.e3.Den]) (some 173) (yields_load_boxes 0 0 [.int .i64 a1.e0.Re, .int .i64 a1.e0.Im, .int .i64 a1.e0.Den, .int .i64 a1.e1.Re, .int .i64 a1.e1.Im, .int .i64 a1.e1.Den, .int .i64 a1.e2.Re, .int .i64 a1.e2.Im, .int .i64 a1.e2.Den, .int .i64 a1.e3.Re, .int .i64 a1.e3.Im, .int .i64 a1.e3.Den] (holds_box b3 25 [.int .i64 a1.e0.Re, .int .i64 a1.e0.Im, .int .i64 a1.e0.Den, .int .i64 a1.e1.Re, .int .i64 a1.e1.Im, .int .i64 a1.e1.Den, .int .i64 a1.e2.Re, .int .i64 a1.e2.Im, .int .i64 a1.e2.Den, .int .i64 a1.e3.Re, .int .i64 a1.e3.Im, .int .i64 a1.e3.Den]) tyAgg_25 tySize_25) ?_
          obtain ⟨t95, hc96, H0⟩ := bind_some H0
          refine JL.call [] [] [] (jones_Inv.ok a1 _ hc96) trivial ?_
          rintro _ _ ⟨rfl, rfl⟩
          refine JL.mv (.tuple #[.agg #[.int .i64 t95.1.e0.Re, .int .i64 t95.1.e0.Im, .int .i64 t95.1.e0.Den, .int .i64 t95.1.e1.Re, .int .i64 t95.1.e1.Im, .int .i64 t95.1.e1.Den, .int .i64 t95.1.e2.Re, .int .i64 t95.1.e2.Im, .int .i64 t95.1.e2.Den, .int .i64 t95.1.e3.Re, .int .i64 t95.1.e3.Im, .int .i64 t95.1.e3.Den], .int .i64 t95.2]) ?_
          refine JL.pur (.agg #[.int .i64 t95.1.e0.Re, .int .i64 t95.1.e0.Im, .int .i64 t95.1.e0.Den, .int .i64 t95.1.e1.Re, .int .i64 t95.1.e1.Im, .int .i64 t95.1.e1.Den, .int .i64 t95.1.e2.Re, .int .i64 t95.1.e2.Im, .int .i64 t95.1.e2.Den, .int .i64 t95.1.e3.Re, .int .i64 t95.1.e3.Im, .int .i64 t95.1.e3.Den]) (some 175) ?_
          refine JL.pur (.int .i64 t95.2) (some 176) ?_
          refine JL.alloc [.int .i64 0, .int .i64 0, .int .i64 0, .int .i64 0, .int .i64 0, .int .i64 0, .int .i64 0, .int .i64 0, .int .i64 0, .int .i64 0, .int .i64 0, .int .i64 0] fun b97 => ?_
          refine JL.store 1 b97 0 25 [.int .i64 0, .int .i64 0, .int .i64 0, .int .i64 0, .int .i64 0, .int .i64 0, .int .i64 0, .int .i64 0, .int .i64 0, .int .i64 0, .int .i64 0, .int .i64 0] [.int .i64 t95.1.e0.Re, .int .i64 t95.1.e0.Im, .int .i64 t95.1.e0.Den, .int .i64 t95.1.e1.Re, .int .i64 t95.1.e1.Im, .int .i64 t95.1.e1.Den, .int .i64 t95.1.e2.Re, .int .i64 t95.1.e2.Im, .int .i64 t95.1.e2.Den, .int .i64 t95.1.e3.Re, .int .i64 t95.1.e3.Im, .int .i64 t95.1.e3.Den] tySize_25 ?_
          refine JL.as (.int .i64 t95.2) ?_
          refine JL.nil ?_
          refine JQ.then_normal ?_
          refine JQ.sub [(2, .pointer (some ⟨b3, 0, none⟩)), (5, .bool t5), (30, .pointer (some ⟨b97, 0, none⟩)), (31, .int .i64 t95.2)] ?_
          refine J.seq ?_
          refine J.region ?_
          refine JL.val (.agg #[.int .i64 a1.e0.Re, .int .i64 a1.e0.Im, .int .i64 a1.e0.Den, .int .i64 a1.e1.Re, .int .i64 a1.e1.Im, .int .i64 a1.e1.Den, .int .i64 a1.e2.Re, .int .i64 a1.e2.Im, .int .i64 a1.e2.Den, .int .i64 a1.e3.Re, .int .i64 a1.e3.Im, .int .i64 a1.e3.Den]) (some 178) (yields_load_boxes 0 0 [.int .i64 a1.e0.Re, .int .i64 a1.e0.Im, .int .i64 a1.e0.Den, .int .i64 a1.e1.Re, .int .i64 a1.e1.Im, .int .i64 a1.e1.Den, .int .i64 a1.e2.Re, .int .i64 a1.e2.Im, .int .i64 a1.e2.Den, .int .i64 a1.e3.Re, .int .i64 a1.e3.Im, .int .i64 a1.e3.Den] (holds_box b3 25 [.int .i64 a1.e0.Re, .int .i64 a1.e0.Im, .int .i64 a1.e0.Den, .int .i64 a1.e1.Re, .int .i64 a1.e1.Im, .int .i64 a1.e1.Den, .int .i64 a1.e2.Re, .int .i64 a1.e2.Im, .int .i64 a1.e2.Den, .int .i64 a1.e3.Re, .int .i64 a1.e3.Im, .int .i64 a1.e3.Den]) tyAgg_25 tySize_25) ?_
          obtain ⟨t98, hc99, H0⟩ := bind_some H0
          refine JL.call [] [] [] (jones_Det.ok a1 _ hc99) trivial ?_
          rintro _ _ ⟨rfl, rfl⟩
          refine JL.mv (.tuple #[.agg #[.int .i64 t98.1.Re, .int .i64 t98.1.Im, .int .i64 t98.1.Den], .int .i64 t98.2]) ?_
          refine JL.pur (.agg #[.int .i64 t98.1.Re, .int .i64 t98.1.Im, .int .i64 t98.1.Den]) (some 180) ?_
          refine JL.pur (.int .i64 t98.2) (some 181) ?_
          refine JL.alloc [.int .i64 0, .int .i64 0, .int .i64 0] fun b100 => ?_
          refine JL.store 2 b100 0 23 [.int .i64 0, .int .i64 0, .int .i64 0] [.int .i64 t98.1.Re, .int .i64 t98.1.Im, .int .i64 t98.1.Den] tySize_23 ?_
          refine JL.as (.int .i64 t98.2) ?_
          refine JL.nil ?_
          refine JQ.then_normal ?_
          refine JQ.sub [(2, .pointer (some ⟨b3, 0, none⟩)), (5, .bool t5), (30, .pointer (some ⟨b97, 0, none⟩)), (31, .int .i64 t95.2), (32, .pointer (some ⟨b100, 0, none⟩)), (33, .int .i64 t98.2)] ?_
          refine J.seq ?_
          refine J.join (T := Bool) (G := Unit) (fun t => law33_JonesDets.k12 a1 t5 t95 t = some r) (fun t g => [(2, .pointer (some ⟨b3, 0, none⟩)), (5, .bool t5), (30, .pointer (some ⟨b97, 0, none⟩)), (31, .int .i64 t95.2), (190, .bool t)]) (fun t g => [At.box b3 25 [.int .i64 a1.e0.Re, .int .i64 a1.e0.Im, .int .i64 a1.e0.Den, .int .i64 a1.e1.Re, .int .i64 a1.e1.Im, .int .i64 a1.e1.Den, .int .i64 a1.e2.Re, .int .i64 a1.e2.Im, .int .i64 a1.e2.Den, .int .i64 a1.e3.Re, .int .i64 a1.e3.Im, .int .i64 a1.e3.Den], At.box b97 25 [.int .i64 t95.1.e0.Re, .int .i64 t95.1.e0.Im, .int .i64 t95.1.e0.Den, .int .i64 t95.1.e1.Re, .int .i64 t95.1.e1.Im, .int .i64 t95.1.e1.Den, .int .i64 t95.1.e2.Re, .int .i64 t95.1.e2.Im, .int .i64 t95.1.e2.Den, .int .i64 t95.1.e3.Re, .int .i64 t95.1.e3.Im, .int .i64 t95.1.e3.Den]]) ?_ ?_
          · refine J.region ?_
            refine JL.mv (.int .i64 t95.2) ?_
            refine JL.pur (.bool (decide (t95.2 = 18))) (some 183) ?_
            refine JL.mv (.int .i64 t98.2) ?_
            refine JL.pur (.bool (decide (t98.2 = 0))) (some 185) ?_
            refine JL.mv (.bool (decide (t98.2 = 0))) ?_
            rcases ite_cases H0 with ⟨h121, H0⟩ | ⟨h121, H0⟩
            · refine JL.on 4 186 h121 ?_
              refine JL.val (.agg #[.int .i64 t98.1.Re, .int .i64 t98.1.Im, .int .i64 t98.1.Den]) (some 187) (yields_load_boxes 2 0 [.int .i64 t98.1.Re, .int .i64 t98.1.Im, .int .i64 t98.1.Den] (holds_box b100 23 [.int .i64 t98.1.Re, .int .i64 t98.1.Im, .int .i64 t98.1.Den]) tyAgg_23 tySize_23) ?_
              refine JL.on 4 186 h121 ?_
              obtain ⟨t122, hc123, H0⟩ := bind_some H0
              refine JL.call [] [] [] (ref25_Zero.ok t98.1 _ hc123) trivial ?_
              rintro _ _ ⟨rfl, rfl⟩
              refine JL.val (.bool t122) (some 189) (gives_pickT h121) ?_
              refine JL.pur (.bool (!((decide (t95.2 = 18)) == t122))) (some 190) ?_
              refine JL.nil ?_
              refine JQ.then_normal ?_
              exact JQ.meet (!((decide (t95.2 = 18)) == t122)) () H0 (fun _ h => Heap.to (Heap.pick [0, 1] (by decide) h))
            · refine JL.off 4 186 true (some 187) h121 ?_
              refine JL.off 4 186 true (some 188) h121 ?_
              refine JL.val (.bool false) (some 189) (gives_pickF h121) ?_
              refine JL.pur (.bool (!((decide (t95.2 = 18)) == false))) (some 190) ?_
              refine JL.nil ?_
              refine JQ.then_normal ?_
              exact JQ.meet (!((decide (t95.2 = 18)) == false)) () H0 (fun _ h => Heap.to (Heap.pick [0, 1] (by decide) h))
          · clear H0
            rintro x104 ⟨⟩ H0
            replace H0 : law33_JonesDets.k12 a1 t5 t95 x104 = some r := H0
            unfold law33_JonesDets.k12 at H0
            refine JQ.sub [(2, .pointer (some ⟨b3, 0, none⟩)), (5, .bool t5), (30, .pointer (some ⟨b97, 0, none⟩)), (31, .int .i64 t95.2), (190, .bool x104)] ?_
            refine JQ.turn (Δ' := [At.box b3 25 [.int .i64 a1.e0.Re, .int .i64 a1.e0.Im, .int .i64 a1.e0.Den, .int .i64 a1.e1.Re, .int .i64 a1.e1.Im, .int .i64 a1.e1.Den, .int .i64 a1.e2.Re, .int .i64 a1.e2.Im, .int .i64 a1.e2.Den, .int .i64 a1.e3.Re, .int .i64 a1.e3.Im, .int .i64 a1.e3.Den], At.box b97 25 [.int .i64 t95.1.e0.Re, .int .i64 t95.1.e0.Im, .int .i64 t95.1.e0.Den, .int .i64 t95.1.e1.Re, .int .i64 t95.1.e1.Im, .int .i64 t95.1.e1.Den, .int .i64 t95.1.e2.Re, .int .i64 t95.1.e2.Im, .int .i64 t95.1.e2.Den, .int .i64 t95.1.e3.Re, .int .i64 t95.1.e3.Im, .int .i64 t95.1.e3.Den]]) (fun _ h => h.to) ?_
            rcases ite_cases H0 with ⟨h105, H0⟩ | ⟨h105, H0⟩
            · refine J.cond_true h105 ?_
              refine J.seq ?_
              refine J.region ?_
              refine JL.as (.bool false) ?_
              refine JL.nil ?_
              refine JQ.then_normal ?_
              refine JQ.sub [(4, .bool false)] ?_
              refine JQ.mask [] [false, false] ?_
              refine J.ret ?_
              refine JQ.then_ret ?_
              obtain rfl := Option.some.inj H0
              exact JQ.done' (rs := [.tmp 4]) (vs := [.bool false]) [] (.inr rfl) ⟨by kernel_rfl, trivial⟩ (fun _ h => Heap.to h) ⟨rfl, rfl⟩
            · refine J.cond_false h105 ?_
              refine J.skip ?_
              refine JQ.then_normal ?_
              refine JQ.sub [(2, .pointer (some ⟨b3, 0, none⟩)), (5, .bool t5), (30, .pointer (some ⟨b97, 0, none⟩)), (31, .int .i64 t95.2)] ?_
              refine J.seq ?_
              refine J.seq ?_
              refine J.region ?_
              refine JL.mv (.int .i64 t95.2) ?_
              refine JL.pur (.bool (decide (t95.2 = 0))) (some 192) ?_
              refine JL.nil ?_
              refine JQ.then_normal ?_
              refine JQ.sub [(2, .pointer (some ⟨b3, 0, none⟩)), (5, .bool t5), (30, .pointer (some ⟨b97, 0, none⟩)), (192, .bool (decide (t95.2 = 0)))] ?_
              rcases ite_cases H0 with ⟨h106, H0⟩ | ⟨h106, H0⟩
              · refine J.cond_true h106 ?_
                refine J.seq ?_
                refine J.region ?_
                refine JL.val (.agg #[.int .i64 a1.e0.Re, .int .i64 a1.e0.Im, .int .i64 a1.e0.Den, .int .i64 a1.e1.Re, .int .i64 a1.e1.Im, .int .i64 a1.e1.Den, .int .i64 a1.e2.Re, .int .i64 a1.e2.Im, .int .i64 a1.e2.Den, .int .i64 a1.e3.Re, .int .i64 a1.e3.Im, .int .i64 a1.e3.Den]) (some 194) (yields_load_boxes 0 0 [.int .i64 a1.e0.Re, .int .i64 a1.e0.Im, .int .i64 a1.e0.Den, .int .i64 a1.e1.Re, .int .i64 a1.e1.Im, .int .i64 a1.e1.Den, .int .i64 a1.e2.Re, .int .i64 a1.e2.Im, .int .i64 a1.e2.Den, .int .i64 a1.e3.Re, .int .i64 a1.e3.Im, .int .i64 a1.e3.Den] (holds_box b3 25 [.int .i64 a1.e0.Re, .int .i64 a1.e0.Im, .int .i64 a1.e0.Den, .int .i64 a1.e1.Re, .int .i64 a1.e1.Im, .int .i64 a1.e1.Den, .int .i64 a1.e2.Re, .int .i64 a1.e2.Im, .int .i64 a1.e2.Den, .int .i64 a1.e3.Re, .int .i64 a1.e3.Im, .int .i64 a1.e3.Den]) tyAgg_25 tySize_25) ?_
                refine JL.val (.agg #[.int .i64 t95.1.e0.Re, .int .i64 t95.1.e0.Im, .int .i64 t95.1.e0.Den, .int .i64 t95.1.e1.Re, .int .i64 t95.1.e1.Im, .int .i64 t95.1.e1.Den, .int .i64 t95.1.e2.Re, .int .i64 t95.1.e2.Im, .int .i64 t95.1.e2.Den, .int .i64 t95.1.e3.Re, .int .i64 t95.1.e3.Im, .int .i64 t95.1.e3.Den]) (some 195) (yields_load_boxes 1 0 [.int .i64 t95.1.e0.Re, .int .i64 t95.1.e0.Im, .int .i64 t95.1.e0.Den, .int .i64 t95.1.e1.Re, .int .i64 t95.1.e1.Im, .int .i64 t95.1.e1.Den, .int .i64 t95.1.e2.Re, .int .i64 t95.1.e2.Im, .int .i64 t95.1.e2.Den, .int .i64 t95.1.e3.Re, .int .i64 t95.1.e3.Im, .int .i64 t95.1.e3.Den] (holds_box b97 25 [.int .i64 t95.1.e0.Re, .int .i64 t95.1.e0.Im, .int .i64 t95.1.e0.Den, .int .i64 t95.1.e1.Re, .int .i64 t95.1.e1.Im, .int .i64 t95.1.e1.Den, .int .i64 t95.1.e2.Re, .int .i64 t95.1.e2.Im, .int .i64 t95.1.e2.Den, .int .i64 t95.1.e3.Re, .int .i64 t95.1.e3.Im, .int .i64 t95.1.e3.Den]) tyAgg_25 tySize_25) ?_
                obtain ⟨t107, hc108, H0⟩ := bind_some H0
                refine JL.call [] [] [] (jones_Mul.ok a1 t95.1 _ hc108) trivial ?_
                rintro _ _ ⟨rfl, rfl⟩
                refine JL.mv (.tuple #[.agg #[.int .i64 t107.1.e0.Re, .int .i64 t107.1.e0.Im, .int .i64 t107.1.e0.Den, .int .i64 t107.1.e1.Re, .int .i64 t107.1.e1.Im, .int .i64 t107.1.e1.Den, .int .i64 t107.1.e2.Re, .int .i64 t107.1.e2.Im, .int .i64 t107.1.e2.Den, .int .i64 t107.1.e3.Re, .int .i64 t107.1.e3.Im, .int .i64 t107.1.e3.Den], .int .i64 t107.2]) ?_
                refine JL.pur (.agg #[.int .i64 t107.1.e0.Re, .int .i64 t107.1.e0.Im, .int .i64 t107.1.e0.Den, .int .i64 t107.1.e1.Re, .int .i64 t107.1.e1.Im, .int .i64 t107.1.e1.Den, .int .i64 t107.1.e2.Re, .int .i64 t107.1.e2.Im, .int .i64 t107.1.e2.Den, .int .i64 t107.1.e3.Re, .int .i64 t107.1.e3.Im, .int .i64 t107.1.e3.Den]) (some 197) ?_
                refine JL.pur (.int .i64 t107.2) (some 198) ?_
                refine JL.alloc [.int .i64 0, .int .i64 0, .int .i64 0, .int .i64 0, .int .i64 0, .int .i64 0, .int .i64 0, .int .i64 0, .int .i64 0, .int .i64 0, .int .i64 0, .int .i64 0] fun b109 => ?_
                refine JL.store 2 b109 0 25 [.int .i64 0, .int .i64 0, .int .i64 0, .int .i64 0, .int .i64 0, .int .i64 0, .int .i64 0, .int .i64 0, .int .i64 0, .int .i64 0, .int .i64 0, .int .i64 0] [.int .i64 t107.1.e0.Re, .int .i64 t107.1.e0.Im, .int .i64 t107.1.e0.Den, .int .i64 t107.1.e1.Re, .int .i64 t107.1.e1.Im, .int .i64 t107.1.e1.Den, .int .i64 t107.1.e2.Re, .int .i64 t107.1.e2.Im, .int .i64 t107.1.e2.Den, .int .i64 t107.1.e3.Re, .int .i64 t107.1.e3.Im, .int .i64 t107.1.e3.Den] tySize_25 ?_
                refine JL.as (.int .i64 t107.2) ?_
                refine JL.nil ?_
                refine JQ.then_normal ?_
                refine JQ.sub [(2, .pointer (some ⟨b3, 0, none⟩)), (5, .bool t5), (30, .pointer (some ⟨b97, 0, none⟩)), (34, .pointer (some ⟨b109, 0, none⟩)), (35, .int .i64 t107.2)] ?_
                refine J.seq ?_
                refine J.region ?_
                refine JL.val (.agg #[.int .i64 t95.1.e0.Re, .int .i64 t95.1.e0.Im, .int .i64 t95.1.e0.Den, .int .i64 t95.1.e1.Re, .int .i64 t95.1.e1.Im, .int .i64 t95.1.e1.Den, .int .i64 t95.1.e2.Re, .int .i64 t95.1.e2.Im, .int .i64 t95.1.e2.Den, .int .i64 t95.1.e3.Re, .int .i64 t95.1.e3.Im, .int .i64 t95.1.e3.Den]) (some 200) (yields_load_boxes 1 0 [.int .i64 t95.1.e0.Re, .int .i64 t95.1.e0.Im, .int .i64 t95.1.e0.Den, .int .i64 t95.1.e1.Re, .int .i64 t95.1.e1.Im, .int .i64 t95.1.e1.Den, .int .i64 t95.1.e2.Re, .int .i64 t95.1.e2.Im, .int .i64 t95.1.e2.Den, .int .i64 t95.1.e3.Re, .int .i64 t95.1.e3.Im, .int .i64 t95.1.e3.Den] (holds_box b97 25 [.int .i64 t95.1.e0.Re, .int .i64 t95.1.e0.Im, .int .i64 t95.1.e0.Den, .int .i64 t95.1.e1.Re, .int .i64 t95.1.e1.Im, .int .i64 t95.1.e1.Den, .int .i64 t95.1.e2.Re, .int .i64 t95.1.e2.Im, .int .i64 t95.1.e2.Den, .int .i64 t95.1.e3.Re, .int .i64 t95.1.e3.Im, .int .i64 t95.1.e3.Den]) tyAgg_25 tySize_25) ?_
                refine JL.val (.agg #[.int .i64 a1.e0.Re, .int .i64 a1.e0.Im, .int .i64 a1.e0.Den, .int .i64 a1.e1.Re, .int .i64 a1.e1.Im, .int .i64 a1.e1.Den, .int .i64 a1.e2.Re, .int .i64 a1.e2.Im, .int .i64 a1.e2.Den, .int .i64 a1.e3.Re, .int .i64 a1.e3.Im, .int .i64 a1.e3.Den]) (some 201) (yields_load_boxes 0 0 [.int .i64 a1.e0.Re, .int .i64 a1.e0.Im, .int .i64 a1.e0.Den, .int .i64 a1.e1.Re, .int .i64 a1.e1.Im, .int .i64 a1.e1.Den, .int .i64 a1.e2.Re, .int .i64 a1.e2.Im, .int .i64 a1.e2.Den, .int .i64 a1.e3.Re, .int .i64 a1.e3.Im, .int .i64 a1.e3.Den] (holds_box b3 25 [.int .i64 a1.e0.Re, .int .i64 a1.e0.Im, .int .i64 a1.e0.Den, .int .i64 a1.e1.Re, .int .i64 a1.e1.Im, .int .i64 a1.e1.Den, .int .i64 a1.e2.Re, .int .i64 a1.e2.Im, .int .i64 a1.e2.Den, .int .i64 a1.e3.Re, .int .i64 a1.e3.Im, .int .i64 a1.e3.Den]) tyAgg_25 tySize_25) ?_
                obtain ⟨t110, hc111, H0⟩ := bind_some H0
                refine JL.call [] [] [] (jones_Mul.ok t95.1 a1 _ hc111) trivial ?_
                rintro _ _ ⟨rfl, rfl⟩
                refine JL.mv (.tuple #[.agg #[.int .i64 t110.1.e0.Re, .int .i64 t110.1.e0.Im, .int .i64 t110.1.e0.Den, .int .i64 t110.1.e1.Re, .int .i64 t110.1.e1.Im, .int .i64 t110.1.e1.Den, .int .i64 t110.1.e2.Re, .int .i64 t110.1.e2.Im, .int .i64 t110.1.e2.Den, .int .i64 t110.1.e3.Re, .int .i64 t110.1.e3.Im, .int .i64 t110.1.e3.Den], .int .i64 t110.2]) ?_
                refine JL.pur (.agg #[.int .i64 t110.1.e0.Re, .int .i64 t110.1.e0.Im, .int .i64 t110.1.e0.Den, .int .i64 t110.1.e1.Re, .int .i64 t110.1.e1.Im, .int .i64 t110.1.e1.Den, .int .i64 t110.1.e2.Re, .int .i64 t110.1.e2.Im, .int .i64 t110.1.e2.Den, .int .i64 t110.1.e3.Re, .int .i64 t110.1.e3.Im, .int .i64 t110.1.e3.Den]) (some 203) ?_
                refine JL.pur (.int .i64 t110.2) (some 204) ?_
                refine JL.alloc [.int .i64 0, .int .i64 0, .int .i64 0, .int .i64 0, .int .i64 0, .int .i64 0, .int .i64 0, .int .i64 0, .int .i64 0, .int .i64 0, .int .i64 0, .int .i64 0] fun b112 => ?_
                refine JL.store 3 b112 0 25 [.int .i64 0, .int .i64 0, .int .i64 0, .int .i64 0, .int .i64 0, .int .i64 0, .int .i64 0, .int .i64 0, .int .i64 0, .int .i64 0, .int .i64 0, .int .i64 0] [.int .i64 t110.1.e0.Re, .int .i64 t110.1.e0.Im, .int .i64 t110.1.e0.Den, .int .i64 t110.1.e1.Re, .int .i64 t110.1.e1.Im, .int .i64 t110.1.e1.Den, .int .i64 t110.1.e2.Re, .int .i64 t110.1.e2.Im, .int .i64 t110.1.e2.Den, .int .i64 t110.1.e3.Re, .int .i64 t110.1.e3.Im, .int .i64 t110.1.e3.Den] tySize_25 ?_
                refine JL.as (.int .i64 t110.2) ?_
                refine JL.nil ?_
                refine JQ.then_normal ?_
                refine JQ.sub [(5, .bool t5), (34, .pointer (some ⟨b109, 0, none⟩)), (35, .int .i64 t107.2), (36, .pointer (some ⟨b112, 0, none⟩)), (37, .int .i64 t110.2)] ?_
                refine JQ.mask [At.box b109 25 [.int .i64 t107.1.e0.Re, .int .i64 t107.1.e0.Im, .int .i64 t107.1.e0.Den, .int .i64 t107.1.e1.Re, .int .i64 t107.1.e1.Im, .int .i64 t107.1.e1.Den, .int .i64 t107.1.e2.Re, .int .i64 t107.1.e2.Im, .int .i64 t107.1.e2.Den, .int .i64 t107.1.e3.Re, .int .i64 t107.1.e3.Im, .int .i64 t107.1.e3.Den], At.box b112 25 [.int .i64 t110.1.e0.Re, .int .i64 t110.1.e0.Im, .int .i64 t110.1.e0.Den, .int .i64 t110.1.e1.Re, .int .i64 t110.1.e1.Im, .int .i64 t110.1.e1.Den, .int .i64 t110.1.e2.Re, .int .i64 t110.1.e2.Im, .int .i64 t110.1.e2.Den, .int .i64 t110.1.e3.Re, .int .i64 t110.1.e3.Im, .int .i64 t110.1.e3.Den]] [false, false, true, true] ?_
                refine J.seq ?_
                refine J.region ?_
                obtain ⟨t113, hc114, H0⟩ := bind_some H0
                refine JL.call [] [] [] (law33_whole.ok 1 0 0 1 _ hc114) trivial ?_
                rintro _ _ ⟨rfl, rfl⟩
                refine JL.alloc [.int .i64 0, .int .i64 0, .int .i64 0, .int .i64 0, .int .i64 0, .int .i64 0, .int .i64 0, .int .i64 0, .int .i64 0, .int .i64 0, .int .i64 0, .int .i64 0] fun b115 => ?_
                refine JL.store 2 b115 0 25 [.int .i64 0, .int .i64 0, .int .i64 0, .int .i64 0, .int .i64 0, .int .i64 0, .int .i64 0, .int .i64 0, .int .i64 0, .int .i64 0, .int .i64 0, .int .i64 0] [.int .i64 t113.e0.Re, .int .i64 t113.e0.Im, .int .i64 t113.e0.Den, .int .i64 t113.e1.Re, .int .i64 t113.e1.Im, .int .i64 t113.e1.Den, .int .i64 t113.e2.Re, .int .i64 t113.e2.Im, .int .i64 t113.e2.Den, .int .i64 t113.e3.Re, .int .i64 t113.e3.Im, .int .i64 t113.e3.Den] tySize_25 ?_
                refine JL.nil ?_
                refine JQ.then_normal ?_
                refine JQ.sub [(5, .bool t5), (34, .pointer (some ⟨b109, 0, none⟩)), (35, .int .i64 t107.2), (36, .pointer (some ⟨b112, 0, none⟩)), (37, .int .i64 t110.2), (38, .pointer (some ⟨b115, 0, none⟩))] ?_
                refine J.seq ?_
                refine J.region ?_
                refine JL.mv (.bool t5) ?_
                refine JL.mv (.bool t5) ?_
                rcases ite_cases H0 with ⟨h116, H0⟩ | ⟨h116, H0⟩
                · refine JL.on 1 207 h116 ?_
                  refine JL.mv (.int .i64 t107.2) ?_
                  refine JL.on 1 207 h116 ?_
                  refine JL.pur (.bool (!decide (t107.2 = 0))) (some 209) ?_
                  refine JL.on 1 207 h116 ?_
                  refine JL.mv (.bool (!decide (t107.2 = 0))) ?_
                  rcases ite_cases H0 with ⟨h117, H0⟩ | ⟨h117, H0⟩
                  · refine JL.off 4 210 false (some 211) h117 ?_
                    refine JL.off 4 210 false (some 212) h117 ?_
                    refine JL.off 4 210 false (some 213) h117 ?_
                    refine JL.on 1 207 h116 ?_
                    refine JL.val (.bool true) (some 214) (gives_pickT h117) ?_
                    refine JL.val (.bool true) (some 215) (gives_pickT h116) ?_
                    refine JL.mv (.bool true) ?_
                    refine JL.on 10 216 (rfl : (true) = true) ?_
                    refine JL.mv (.int .i64 t110.2) ?_
                    refine JL.on 10 216 (rfl : (true) = true) ?_
                    refine JL.pur (.bool (!decide (t110.2 = 0))) (some 218) ?_
                    refine JL.on 10 216 (rfl : (true) = true) ?_
                    refine JL.mv (.bool (!decide (t110.2 = 0))) ?_
                    rcases ite_cases H0 with ⟨h118, H0⟩ | ⟨h118, H0⟩
                    · refine JL.off 13 219 false (some 220) h118 ?_
                      refine JL.off 13 219 false (some 221) h118 ?_
                      refine JL.off 13 219 false (some 222) h118 ?_
                      refine JL.on 10 216 (rfl : (true) = true) ?_
                      refine JL.val (.bool true) (some 223) (gives_pickT h118) ?_
                      refine JL.val (.bool true) (some 224) (gives_pickT rfl) ?_
                      refine JL.as (.bool true) ?_
                      refine JL.nil ?_
                      refine JQ.then_normal ?_
                      refine JQ.sub [(4, .bool true)] ?_
                      refine JQ.mask [] [false, false, false] ?_
                      refine J.ret ?_
                      refine JQ.then_ret ?_
                      obtain rfl := Option.some.inj H0
                      exact JQ.done' (rs := [.tmp 4]) (vs := [.bool true]) [] (.inr rfl) ⟨by kernel_rfl, trivial⟩ (fun _ h => Heap.to h) ⟨rfl, rfl⟩
                    · refine JL.on 13 219 h118 ?_
                      refine JL.val (.agg #[.int .i64 t110.1.e0.Re, .int .i64 t110.1.e0.Im, .int .i64 t110.1.e0.Den, .int .i64 t110.1.e1.Re, .int .i64 t110.1.e1.Im, .int .i64 t110.1.e1.Den, .int .i64 t110.1.e2.Re, .int .i64 t110.1.e2.Im, .int .i64 t110.1.e2.Den, .int .i64 t110.1.e3.Re, .int .i64 t110.1.e3.Im, .int .i64 t110.1.e3.Den]) (some 220) (yields_load_boxes 1 0 [.int .i64 t110.1.e0.Re, .int .i64 t110.1.e0.Im, .int .i64 t110.1.e0.Den, .int .i64 t110.1.e1.Re, .int .i64 t110.1.e1.Im, .int .i64 t110.1.e1.Den, .int .i64 t110.1.e2.Re, .int .i64 t110.1.e2.Im, .int .i64 t110.1.e2.Den, .int .i64 t110.1.e3.Re, .int .i64 t110.1.e3.Im, .int .i64 t110.1.e3.Den] (holds_box b112 25 [.int .i64 t110.1.e0.Re, .int .i64 t110.1.e0.Im, .int .i64 t110.1.e0.Den, .int .i64 t110.1.e1.Re, .int .i64 t110.1.e1.Im, .int .i64 t110.1.e1.Den, .int .i64 t110.1.e2.Re, .int .i64 t110.1.e2.Im, .int .i64 t110.1.e2.Den, .int .i64 t110.1.e3.Re, .int .i64 t110.1.e3.Im, .int .i64 t110.1.e3.Den]) tyAgg_25 tySize_25) ?_
                      refine JL.on 13 219 h118 ?_
                      refine JL.val (.agg #[.int .i64 t113.e0.Re, .int .i64 t113.e0.Im, .int .i64 t113.e0.Den, .int .i64 t113.e1.Re, .int .i64 t113.e1.Im, .int .i64 t113.e1.Den, .int .i64 t113.e2.Re, .int .i64 t113.e2.Im, .int .i64 t113.e2.Den, .int .i64 t113.e3.Re, .int .i64 t113.e3.Im, .int .i64 t113.e3.Den]) (some 221) (yields_load_boxes 2 0 [.int .i64 t113.e0.Re, .int .i64 t113.e0.Im, .int .i64 t113.e0.Den, .int .i64 t113.e1.Re, .int .i64 t113.e1.Im, .int .i64 t113.e1.Den, .int .i64 t113.e2.Re, .int .i64 t113.e2.Im, .int .i64 t113.e2.Den, .int .i64 t113.e3.Re, .int .i64 t113.e3.Im, .int .i64 t113.e3.Den] (holds_box b115 25 [.int .i64 t113.e0.Re, .int .i64 t113.e0.Im, .int .i64 t113.e0.Den, .int .i64 t113.e1.Re, .int .i64 t113.e1.Im, .int .i64 t113.e1.Den, .int .i64 t113.e2.Re, .int .i64 t113.e2.Im, .int .i64 t113.e2.Den, .int .i64 t113.e3.Re, .int .i64 t113.e3.Im, .int .i64 t113.e3.Den]) tyAgg_25 tySize_25) ?_
                      refine JL.on 13 219 h118 ?_
                      refine JL.val (.bool (decide (t110.1 = t113))) (some 222) (gives_eql eqg_25 (fun w => eqt_25 t110.1 t113 w)) ?_
                      refine JL.on 10 216 (rfl : (true) = true) ?_
                      refine JL.val (.bool (decide (t110.1 = t113))) (some 223) (gives_pickF h118) ?_
                      refine JL.val (.bool (decide (t110.1 = t113))) (some 224) (gives_pickT rfl) ?_
                      refine JL.as (.bool (decide (t110.1 = t113))) ?_
                      refine JL.nil ?_
                      refine JQ.then_normal ?_
                      refine JQ.sub [(4, .bool (decide (t110.1 = t113)))] ?_
                      refine JQ.mask [] [false, false, false] ?_
                      refine J.ret ?_
                      refine JQ.then_ret ?_
                      obtain rfl := Option.some.inj H0
                      exact JQ.done' (rs := [.tmp 4]) (vs := [.bool (decide (t110.1 = t113))]) [] (.inr rfl) ⟨by kernel_rfl, trivial⟩ (fun _ h => Heap.to h) ⟨rfl, rfl⟩
                  · refine JL.on 4 210 h117 ?_
                    refine JL.val (.agg #[.int .i64 t107.1.e0.Re, .int .i64 t107.1.e0.Im, .int .i64 t107.1.e0.Den, .int .i64 t107.1.e1.Re, .int .i64 t107.1.e1.Im, .int .i64 t107.1.e1.Den, .int .i64 t107.1.e2.Re, .int .i64 t107.1.e2.Im, .int .i64 t107.1.e2.Den, .int .i64 t107.1.e3.Re, .int .i64 t107.1.e3.Im, .int .i64 t107.1.e3.Den]) (some 211) (yields_load_boxes 0 0 [.int .i64 t107.1.e0.Re, .int .i64 t107.1.e0.Im, .int .i64 t107.1.e0.Den, .int .i64 t107.1.e1.Re, .int .i64 t107.1.e1.Im, .int .i64 t107.1.e1.Den, .int .i64 t107.1.e2.Re, .int .i64 t107.1.e2.Im, .int .i64 t107.1.e2.Den, .int .i64 t107.1.e3.Re, .int .i64 t107.1.e3.Im, .int .i64 t107.1.e3.Den] (holds_box b109 25 [.int .i64 t107.1.e0.Re, .int .i64 t107.1.e0.Im, .int .i64 t107.1.e0.Den, .int .i64 t107.1.e1.Re, .int .i64 t107.1.e1.Im, .int .i64 t107.1.e1.Den, .int .i64 t107.1.e2.Re, .int .i64 t107.1.e2.Im, .int .i64 t107.1.e2.Den, .int .i64 t107.1.e3.Re, .int .i64 t107.1.e3.Im, .int .i64 t107.1.e3.Den]) tyAgg_25 tySize_25) ?_
                    refine JL.on 4 210 h117 ?_
                    refine JL.val (.agg #[.int .i64 t113.e0.Re, .int .i64 t113.e0.Im, .int .i64 t113.e0.Den, .int .i64 t113.e1.Re, .int .i64 t113.e1.Im, .int .i64 t113.e1.Den, .int .i64 t113.e2.Re, .int .i64 t113.e2.Im, .int .i64 t113.e2.Den, .int .i64 t113.e3.Re, .int .i64 t113.e3.Im, .int .i64 t113.e3.Den]) (some 212) (yields_load_boxes 2 0 [.int .i64 t113.e0.Re, .int .i64 t113.e0.Im, .int .i64 t113.e0.Den, .int .i64 t113.e1.Re, .int .i64 t113.e1.Im, .int .i64 t113.e1.Den, .int .i64 t113.e2.Re, .int .i64 t113.e2.Im, .int .i64 t113.e2.Den, .int .i64 t113.e3.Re, .int .i64 t113.e3.Im, .int .i64 t113.e3.Den] (holds_box b115 25 [.int .i64 t113.e0.Re, .int .i64 t113.e0.Im, .int .i64 t113.e0.Den, .int .i64 t113.e1.Re, .int .i64 t113.e1.Im, .int .i64 t113.e1.Den, .int .i64 t113.e2.Re, .int .i64 t113.e2.Im, .int .i64 t113.e2.Den, .int .i64 t113.e3.Re, .int .i64 t113.e3.Im, .int .i64 t113.e3.Den]) tyAgg_25 tySize_25) ?_
                    refine JL.on 4 210 h117 ?_
                    refine JL.val (.bool (decide (t107.1 = t113))) (some 213) (gives_eql eqg_25 (fun w => eqt_25 t107.1 t113 w)) ?_
                    refine JL.on 1 207 h116 ?_
                    refine JL.val (.bool (decide (t107.1 = t113))) (some 214) (gives_pickF h117) ?_
                    refine JL.val (.bool (decide (t107.1 = t113))) (some 215) (gives_pickT h116) ?_
                    refine JL.mv (.bool (decide (t107.1 = t113))) ?_
                    rcases ite_cases H0 with ⟨h119, H0⟩ | ⟨h119, H0⟩
                    · refine JL.on 10 216 h119 ?_
                      refine JL.mv (.int .i64 t110.2) ?_
                      refine JL.on 10 216 h119 ?_
                      refine JL.pur (.bool (!decide (t110.2 = 0))) (some 218) ?_
                      refine JL.on 10 216 h119 ?_
                      refine JL.mv (.bool (!decide (t110.2 = 0))) ?_
                      rcases ite_cases H0 with ⟨h120, H0⟩ | ⟨h120, H0⟩
                      · refine JL.off 13 219 false (some 220) h120 ?_
                        refine JL.off 13 219 false (some 221) h120 ?_
                        refine JL.off 13 219 false (some 222) h120 ?_
                        refine JL.on 10 216 h119 ?_
                        refine JL.val (.bool true) (some 223) (gives_pickT h120) ?_
                        refine JL.val (.bool true) (some 224) (gives_pickT h119) ?_
                        refine JL.as (.bool true) ?_
                        refine JL.nil ?_
                        refine JQ.then_normal ?_
                        refine JQ.sub [(4, .bool true)] ?_
                        refine JQ.mask [] [false, false, false] ?_
                        refine J.ret ?_
                        refine JQ.then_ret ?_
                        obtain rfl := Option.some.inj H0
                        exact JQ.done' (rs := [.tmp 4]) (vs := [.bool true]) [] (.inr rfl) ⟨by kernel_rfl, trivial⟩ (fun _ h => Heap.to h) ⟨rfl, rfl⟩
                      · refine JL.on 13 219 h120 ?_
                        refine JL.val (.agg #[.int .i64 t110.1.e0.Re, .int .i64 t110.1.e0.Im, .int .i64 t110.1.e0.Den, .int .i64 t110.1.e1.Re, .int .i64 t110.1.e1.Im, .int .i64 t110.1.e1.Den, .int .i64 t110.1.e2.Re, .int .i64 t110.1.e2.Im, .int .i64 t110.1.e2.Den, .int .i64 t110.1.e3.Re, .int .i64 t110.1.e3.Im, .int .i64 t110.1.e3.Den]) (some 220) (yields_load_boxes 1 0 [.int .i64 t110.1.e0.Re, .int .i64 t110.1.e0.Im, .int .i64 t110.1.e0.Den, .int .i64 t110.1.e1.Re, .int .i64 t110.1.e1.Im, .int .i64 t110.1.e1.Den, .int .i64 t110.1.e2.Re, .int .i64 t110.1.e2.Im, .int .i64 t110.1.e2.Den, .int .i64 t110.1.e3.Re, .int .i64 t110.1.e3.Im, .int .i64 t110.1.e3.Den] (holds_box b112 25 [.int .i64 t110.1.e0.Re, .int .i64 t110.1.e0.Im, .int .i64 t110.1.e0.Den, .int .i64 t110.1.e1.Re, .int .i64 t110.1.e1.Im, .int .i64 t110.1.e1.Den, .int .i64 t110.1.e2.Re, .int .i64 t110.1.e2.Im, .int .i64 t110.1.e2.Den, .int .i64 t110.1.e3.Re, .int .i64 t110.1.e3.Im, .int .i64 t110.1.e3.Den]) tyAgg_25 tySize_25) ?_
                        refine JL.on 13 219 h120 ?_
                        refine JL.val (.agg #[.int .i64 t113.e0.Re, .int .i64 t113.e0.Im, .int .i64 t113.e0.Den, .int .i64 t113.e1.Re, .int .i64 t113.e1.Im, .int .i64 t113.e1.Den, .int .i64 t113.e2.Re, .int .i64 t113.e2.Im, .int .i64 t113.e2.Den, .int .i64 t113.e3.Re, .int .i64 t113.e3.Im, .int .i64 t113.e3.Den]) (some 221) (yields_load_boxes 2 0 [.int .i64 t113.e0.Re, .int .i64 t113.e0.Im, .int .i64 t113.e0.Den, .int .i64 t113.e1.Re, .int .i64 t113.e1.Im, .int .i64 t113.e1.Den, .int .i64 t113.e2.Re, .int .i64 t113.e2.Im, .int .i64 t113.e2.Den, .int .i64 t113.e3.Re, .int .i64 t113.e3.Im, .int .i64 t113.e3.Den] (holds_box b115 25 [.int .i64 t113.e0.Re, .int .i64 t113.e0.Im, .int .i64 t113.e0.Den, .int .i64 t113.e1.Re, .int .i64 t113.e1.Im, .int .i64 t113.e1.Den, .int .i64 t113.e2.Re, .int .i64 t113.e2.Im, .int .i64 t113.e2.Den, .int .i64 t113.e3.Re, .int .i64 t113.e3.Im, .int .i64 t113.e3.Den]) tyAgg_25 tySize_25) ?_
                        refine JL.on 13 219 h120 ?_
                        refine JL.val (.bool (decide (t110.1 = t113))) (some 222) (gives_eql eqg_25 (fun w => eqt_25 t110.1 t113 w)) ?_
                        refine JL.on 10 216 h119 ?_
                        refine JL.val (.bool (decide (t110.1 = t113))) (some 223) (gives_pickF h120) ?_
                        refine JL.val (.bool (decide (t110.1 = t113))) (some 224) (gives_pickT h119) ?_
                        refine JL.as (.bool (decide (t110.1 = t113))) ?_
                        refine JL.nil ?_
                        refine JQ.then_normal ?_
                        refine JQ.sub [(4, .bool (decide (t110.1 = t113)))] ?_
                        refine JQ.mask [] [false, false, false] ?_
                        refine J.ret ?_
                        refine JQ.then_ret ?_
                        obtain rfl := Option.some.inj H0
                        exact JQ.done' (rs := [.tmp 4]) (vs := [.bool (decide (t110.1 = t113))]) [] (.inr rfl) ⟨by kernel_rfl, trivial⟩ (fun _ h => Heap.to h) ⟨rfl, rfl⟩
                    · refine JL.off 10 216 true (some 217) h119 ?_
                      refine JL.off 10 216 true (some 218) h119 ?_
                      refine JL.off 10 216 true (some 219) h119 ?_
                      refine JL.off' 13 219 false (some 220) ?_
                      refine JL.off' 13 219 false (some 221) ?_
                      refine JL.off' 13 219 false (some 222) ?_
                      refine JL.off 10 216 true (some 223) h119 ?_
                      refine JL.val (.bool false) (some 224) (gives_pickF h119) ?_
                      refine JL.as (.bool false) ?_
                      refine JL.nil ?_
                      refine JQ.then_normal ?_
                      refine JQ.sub [(4, .bool false)] ?_
                      refine JQ.mask [] [false, false, false] ?_
                      refine J.ret ?_
                      refine JQ.then_ret ?_
                      obtain rfl := Option.some.inj H0
                      exact JQ.done' (rs := [.tmp 4]) (vs := [.bool false]) [] (.inr rfl) ⟨by kernel_rfl, trivial⟩ (fun _ h => Heap.to h) ⟨rfl, rfl⟩
                · refine JL.off 1 207 true (some 208) h116 ?_
                  refine JL.off 1 207 true (some 209) h116 ?_
                  refine JL.off 1 207 true (some 210) h116 ?_
                  refine JL.off' 4 210 false (some 211) ?_
                  refine JL.off' 4 210 false (some 212) ?_
                  refine JL.off' 4 210 false (some 213) ?_
                  refine JL.off 1 207 true (some 214) h116 ?_
                  refine JL.val (.bool false) (some 215) (gives_pickF h116) ?_
                  refine JL.mv (.bool false) ?_
                  refine JL.off 10 216 true (some 217) rfl ?_
                  refine JL.off 10 216 true (some 218) rfl ?_
                  refine JL.off 10 216 true (some 219) rfl ?_
                  refine JL.off' 13 219 false (some 220) ?_
                  refine JL.off' 13 219 false (some 221) ?_
                  refine JL.off' 13 219 false (some 222) ?_
                  refine JL.off 10 216 true (some 223) rfl ?_
                  refine JL.val (.bool false) (some 224) (gives_pickF rfl) ?_
                  refine JL.as (.bool false) ?_
                  refine JL.nil ?_
                  refine JQ.then_normal ?_
                  refine JQ.sub [(4, .bool false)] ?_
                  refine JQ.mask [] [false, false, false] ?_
                  refine J.ret ?_
                  refine JQ.then_ret ?_
                  obtain rfl := Option.some.inj H0
                  exact JQ.done' (rs := [.tmp 4]) (vs := [.bool false]) [] (.inr rfl) ⟨by kernel_rfl, trivial⟩ (fun _ h => Heap.to h) ⟨rfl, rfl⟩
              · refine J.cond_false h106 ?_
                refine J.skip ?_
                refine JQ.then_normal ?_
                refine JQ.sub [(5, .bool t5)] ?_
                refine JQ.mask [] [false, false] ?_
                refine J.seq ?_
                refine J.region ?_
                refine JL.mv (.bool t5) ?_
                refine JL.as (.bool t5) ?_
                refine JL.nil ?_
                refine JQ.then_normal ?_
                refine JQ.sub [(4, .bool t5)] ?_
                refine J.ret ?_
                obtain rfl := Option.some.inj H0
                exact JQ.done' (rs := [.tmp 4]) (vs := [.bool t5]) [] (.inr rfl) ⟨by kernel_rfl, trivial⟩ (fun _ h => Heap.to h) ⟨rfl, rfl⟩


end Go.Proofs.Ytlfmmenlkpoodaa.M
