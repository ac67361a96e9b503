import Derived.Test.YtlfmmenlkpoodaaW2
set_option linter.unusedVariables false
set_option linter.unusedSimpArgs false
set_option maxRecDepth 100000
set_option maxHeartbeats 8000000
namespace Go.Proofs.Ytlfmmenlkpoodaa.M
open Go.GW Go.Proofs

theorem ref25_Gcd.ok (a1 : Int) (b2 : Int) (r : Int) (H0 : ref25_Gcd.f a1 b2 = some r) :
    Does Try.prog 69 [.int .i64 a1, .int .i64 b2].toArray [] [] false (fun v Δ => v = .int .i64 r ∧ Δ = []) := by
  refine Does.body (vs := [.int .i64 a1, .int .i64 b2]) Try.func69 rfl trivial trivial fun w S => ?_
  unfold ref25_Gcd.f at H0
  refine J.seq ?_
  refine J.region ?_
  refine JL.as (.int .i64 0) ?_
  refine JL.nil ?_
  refine JQ.then_normal ?_
  refine JQ.sub [(0, .int .i64 a1), (1, .int .i64 b2)] ?_
  refine J.seq ?_
  refine J.region ?_
  refine JL.mv (.int .i64 a1) ?_
  refine JL.mv (.int .i64 a1) ?_
  refine JL.pur (.int .i64 (w64 (0 - a1))) (some 7) ?_
  refine JL.pur (.int .i64 (gmax a1 (w64 (0 - a1)))) (some 8) ?_
  refine JL.mv (.int .i64 b2) ?_
  refine JL.mv (.int .i64 b2) ?_
  refine JL.pur (.int .i64 (w64 (0 - b2))) (some 11) ?_
  refine JL.pur (.int .i64 (gmax b2 (w64 (0 - b2)))) (some 12) ?_
  obtain ⟨a3, ea3, H0⟩ := lt_some H0
  refine JL.as' (k := .i64) a3 ea3 ?_
  obtain ⟨b4, eb4, H0⟩ := lt_some H0
  refine JL.as' (k := .i64) b4 eb4 ?_
  refine JL.nil ?_
  refine JQ.then_normal ?_
  refine JQ.sub [(0, .int .i64 a3), (1, .int .i64 b4)] ?_
  refine J.seq ?_
  obtain ⟨o1, hit, H0⟩ := bind_some H0
  refine J.loop (σ := (Int × Int)) (τ := Int) (G := Unit) (G' := Unit) _ o1 (fun s g => [(0, .int .i64 s.1), (1, .int .i64 s.2)]) (fun s g => []) (fun t => ref25_Gcd.k2 t = some r) (fun t g => [(0, .int .i64 t)]) (fun t g => []) (a3, b4) () hit (fun _ h => Heap.to h) ?_ ?_
  · clear hit
    rintro ⟨a13, b14⟩ ⟨⟩ st1 H1 hb1 hr1
    replace H1 : ref25_Gcd.s1 a13 b14 = some st1 := H1
    unfold ref25_Gcd.s1 at H1
    refine JQ.sub [(0, .int .i64 a13), (1, .int .i64 b14)] ?_
    refine JQ.turn (Δ' := []) (fun _ h => h.to) ?_
    refine J.seq ?_
    refine J.seq ?_
    refine J.region ?_
    refine JL.mv (.int .i64 b14) ?_
    refine JL.pur (.bool (!decide (b14 = 0))) (some 14) ?_
    refine JL.nil ?_
    refine JQ.then_normal ?_
    refine JQ.sub [(0, .int .i64 a13), (1, .int .i64 b14), (14, .bool (!decide (b14 = 0)))] ?_
    rcases ite_cases H1 with ⟨h19, H1⟩ | ⟨h19, H1⟩
    · refine J.cond_true h19 ?_
      refine J.skip ?_
      refine JQ.then_normal ?_
      refine JQ.sub [(0, .int .i64 a13), (1, .int .i64 b14)] ?_
      refine J.block ?_
      refine J.draw ?_
      refine QL.mv (.int .i64 b14) ?_
      refine QL.mv (.int .i64 a13) ?_
      refine QL.mv (.int .i64 b14) ?_
      obtain ⟨h20, H1⟩ := ite_must H1
      refine QL.val (.int .i64 (Int.tmod a13 b14)) (some 18) (gives_rem .i64 a13 b14 h20) ?_
      refine QL.as (.int .i64 b14) ?_
      obtain ⟨b21, eb21, H1⟩ := lt_some H1
      refine QL.as' (k := .i64) b21 eb21 ?_
      refine QL.nil ?_
      refine JA.nil ?_
      refine JQ.blk_normal ?_
      refine JQ.then_normal ?_
      exact JQ.again (b14, b21) () (Option.some.inj H1).symm (fun _ h => Heap.to h)
    · refine J.cond_false h19 ?_
      refine J.exit ?_
      refine JQ.then_exit ?_
      refine JQ.then_exit ?_
      refine JQ.blk_exit ?_
      rw [hb1 _ (Option.some.inj H1).symm, fin_brk] at H0
      exact JQ.met a13 () H0 (fun _ h => Heap.to h)
  · clear hit H0
    rintro a18 ⟨⟩ H0
    replace H0 : ref25_Gcd.k2 a18 = some r := H0
    unfold ref25_Gcd.k2 at H0
    refine JQ.sub [(0, .int .i64 a18)] ?_
    refine JQ.turn (Δ' := []) (fun _ h => h.to) ?_
    refine JQ.then_normal ?_
    refine J.seq ?_
    refine J.region ?_
    refine JL.mv (.int .i64 a18) ?_
    refine JL.as (.int .i64 a18) ?_
    refine JL.nil ?_
    refine JQ.then_normal ?_
    refine JQ.sub [(4, .int .i64 a18)] ?_
    refine J.ret ?_
    obtain rfl := Option.some.inj H0
    exact JQ.done' (rs := [.tmp 4]) (vs := [.int .i64 a18]) [] (.inr rfl) ⟨by kernel_rfl, trivial⟩ (fun _ h => Heap.to h) ⟨rfl, rfl⟩

theorem ref25_Check.ok (a1 : Cx) (r : Int) (H0 : ref25_Check.f a1 = some r) :
    Does Try.prog 53 [.agg #[.int .i64 a1.Re, .int .i64 a1.Im, .int .i64 a1.Den]].toArray [] [] false (fun v Δ => v = .int .i64 r ∧ Δ = []) := by
  refine Does.body (vs := [.agg #[.int .i64 a1.Re, .int .i64 a1.Im, .int .i64 a1.Den]]) Try.func53 rfl trivial trivial fun w S => ?_
  unfold ref25_Check.f at H0
  refine J.seq ?_
  refine J.region ?_
  refine JL.box [.int .i64 a1.Re, .int .i64 a1.Im, .int .i64 a1.Den] fun b2 => ?_
  refine JL.as (.int .i64 0) ?_
  refine JL.nil ?_
  refine JQ.then_normal ?_
  refine JQ.sub [(1, .pointer (some ⟨b2, 0, none⟩))] ?_
  refine J.seq ?_
  refine J.join (T := Bool) (G := Unit) (fun t => ref25_Check.k1 t = some r) (fun t g => [(41, .bool t)]) (fun t g => []) ?_ ?_
  · refine J.draw ?_
    refine QL.pur (.pointer (some ⟨b2, 2, none⟩)) (some 3) ?_
    refine QL.val (.int .i64 a1.Den) (some 4) (yields_load_box 0 2 (holds_box b2 23 [.int .i64 a1.Re, .int .i64 a1.Im, .int .i64 a1.Den]) tyAgg_2) ?_
    refine QL.pur (.bool (decide (a1.Den < 1))) (some 5) ?_
    refine QL.mv (.bool (decide (a1.Den < 1))) ?_
    rcases ite_cases H0 with ⟨h15, H0⟩ | ⟨h15, H0⟩
    · refine QL.off 3 6 false (some 7) h15 ?_
      refine QL.off 3 6 false (some 8) h15 ?_
      refine QL.off 3 6 false (some 9) h15 ?_
      refine QL.val (.bool true) (some 10) (gives_pickT h15) ?_
      refine QL.mv (.bool true) ?_
      refine QL.off 8 11 false (some 12) rfl ?_
      refine QL.off 8 11 false (some 13) rfl ?_
      refine QL.off 8 11 false (some 14) rfl ?_
      refine QL.val (.bool true) (some 15) (gives_pickT rfl) ?_
      refine QL.mv (.bool true) ?_
      refine QL.off 13 16 false (some 17) rfl ?_
      refine QL.off 13 16 false (some 18) rfl ?_
      refine QL.off 13 16 false (some 19) rfl ?_
      refine QL.val (.bool true) (some 20) (gives_pickT rfl) ?_
      refine QL.mv (.bool true) ?_
      refine QL.off 18 21 false (some 22) rfl ?_
      refine QL.off 18 21 false (some 23) rfl ?_
      refine QL.off 18 21 false (some 24) rfl ?_
      refine QL.val (.bool true) (some 25) (gives_pickT rfl) ?_
      refine QL.mv (.bool true) ?_
      refine QL.off 23 26 false (some 27) rfl ?_
      refine QL.off 23 26 false (some 28) rfl ?_
      refine QL.off 23 26 false (some 29) rfl ?_
      refine QL.val (.bool true) (some 30) (gives_pickT rfl) ?_
      refine QL.mv (.bool true) ?_
      refine QL.off 28 31 false (some 32) rfl ?_
      refine QL.off 28 31 false (some 33) rfl ?_
      refine QL.off 28 31 false (some 34) rfl ?_
      refine QL.off 28 31 false (some 35) rfl ?_
      refine QL.off 28 31 false (some 36) rfl ?_
      refine QL.off 28 31 false (some 37) rfl ?_
      refine QL.off 28 31 false (some 38) rfl ?_
      refine QL.off 28 31 false (some 39) rfl ?_
      refine QL.off 28 31 false (some 40) rfl ?_
      refine QL.val (.bool true) (some 41) (gives_pickT rfl) ?_
      refine QL.nil ?_
      refine JA.nil ?_
      refine JQ.then_normal ?_
      exact JQ.meet true () H0 (fun _ h => Heap.to (Heap.pick [] (by decide) h))
    · refine QL.on 3 6 h15 ?_
      refine QL.pur (.pointer (some ⟨b2, 2, none⟩)) (some 7) ?_
      refine QL.on 3 6 h15 ?_
      refine QL.val (.int .i64 a1.Den) (some 8) (yields_load_box 0 2 (holds_box b2 23 [.int .i64 a1.Re, .int .i64 a1.Im, .int .i64 a1.Den]) tyAgg_2) ?_
      refine QL.on 3 6 h15 ?_
      refine QL.pur (.bool (decide (1000000000 < a1.Den))) (some 9) ?_
      refine QL.val (.bool (decide (1000000000 < a1.Den))) (some 10) (gives_pickF h15) ?_
      refine QL.mv (.bool (decide (1000000000 < a1.Den))) ?_
      rcases ite_cases H0 with ⟨h16, H0⟩ | ⟨h16, H0⟩
      · refine QL.off 8 11 false (some 12) h16 ?_
        refine QL.off 8 11 false (some 13) h16 ?_
        refine QL.off 8 11 false (some 14) h16 ?_
        refine QL.val (.bool true) (some 15) (gives_pickT h16) ?_
        refine QL.mv (.bool true) ?_
        refine QL.off 13 16 false (some 17) rfl ?_
        refine QL.off 13 16 false (some 18) rfl ?_
        refine QL.off 13 16 false (some 19) rfl ?_
        refine QL.val (.bool true) (some 20) (gives_pickT rfl) ?_
        refine QL.mv (.bool true) ?_
        refine QL.off 18 21 false (some 22) rfl ?_
        refine QL.off 18 21 false (some 23) rfl ?_
        refine QL.off 18 21 false (some 24) rfl ?_
        refine QL.val (.bool true) (some 25) (gives_pickT rfl) ?_
        refine QL.mv (.bool true) ?_
        refine QL.off 23 26 false (some 27) rfl ?_
        refine QL.off 23 26 false (some 28) rfl ?_
        refine QL.off 23 26 false (some 29) rfl ?_
        refine QL.val (.bool true) (some 30) (gives_pickT rfl) ?_
        refine QL.mv (.bool true) ?_
        refine QL.off 28 31 false (some 32) rfl ?_
        refine QL.off 28 31 false (some 33) rfl ?_
        refine QL.off 28 31 false (some 34) rfl ?_
        refine QL.off 28 31 false (some 35) rfl ?_
        refine QL.off 28 31 false (some 36) rfl ?_
        refine QL.off 28 31 false (some 37) rfl ?_
        refine QL.off 28 31 false (some 38) rfl ?_
        refine QL.off 28 31 false (some 39) rfl ?_
        refine QL.off 28 31 false (some 40) rfl ?_
        refine QL.val (.bool true) (some 41) (gives_pickT rfl) ?_
        refine QL.nil ?_
        refine JA.nil ?_
        refine JQ.then_normal ?_
        exact JQ.meet true () H0 (fun _ h => Heap.to (Heap.pick [] (by decide) h))
      · refine QL.on 8 11 h16 ?_
        refine QL.pur (.pointer (some ⟨b2, 0, none⟩)) (some 12) ?_
        refine QL.on 8 11 h16 ?_
        refine QL.val (.int .i64 a1.Re) (some 13) (yields_load_box 0 0 (holds_box b2 23 [.int .i64 a1.Re, .int .i64 a1.Im, .int .i64 a1.Den]) tyAgg_2) ?_
        refine QL.on 8 11 h16 ?_
        refine QL.pur (.bool (decide (a1.Re < (-1000000000)))) (some 14) ?_
        refine QL.val (.bool (decide (a1.Re < (-1000000000)))) (some 15) (gives_pickF h16) ?_
        refine QL.mv (.bool (decide (a1.Re < (-1000000000)))) ?_
        rcases ite_cases H0 with ⟨h17, H0⟩ | ⟨h17, H0⟩
        · refine QL.off 13 16 false (some 17) h17 ?_
          refine QL.off 13 16 false (some 18) h17 ?_
          refine QL.off 13 16 false (some 19) h17 ?_
          refine QL.val (.bool true) (some 20) (gives_pickT h17) ?_
          refine QL.mv (.bool true) ?_
          refine QL.off 18 21 false (some 22) rfl ?_
          refine QL.off 18 21 false (some 23) rfl ?_
          refine QL.off 18 21 false (some 24) rfl ?_
          refine QL.val (.bool true) (some 25) (gives_pickT rfl) ?_
          refine QL.mv (.bool true) ?_
          refine QL.off 23 26 false (some 27) rfl ?_
          refine QL.off 23 26 false (some 28) rfl ?_
          refine QL.off 23 26 false (some 29) rfl ?_
          refine QL.val (.bool true) (some 30) (gives_pickT rfl) ?_
          refine QL.mv (.bool true) ?_
          refine QL.off 28 31 false (some 32) rfl ?_
          refine QL.off 28 31 false (some 33) rfl ?_
          refine QL.off 28 31 false (some 34) rfl ?_
          refine QL.off 28 31 false (some 35) rfl ?_
          refine QL.off 28 31 false (some 36) rfl ?_
          refine QL.off 28 31 false (some 37) rfl ?_
          refine QL.off 28 31 false (some 38) rfl ?_
          refine QL.off 28 31 false (some 39) rfl ?_
          refine QL.off 28 31 false (some 40) rfl ?_
          refine QL.val (.bool true) (some 41) (gives_pickT rfl) ?_
          refine QL.nil ?_
          refine JA.nil ?_
          refine JQ.then_normal ?_
          exact JQ.meet true () H0 (fun _ h => Heap.to (Heap.pick [] (by decide) h))
        · refine QL.on 13 16 h17 ?_
          refine QL.pur (.pointer (some ⟨b2, 0, none⟩)) (some 17) ?_
          refine QL.on 13 16 h17 ?_
          refine QL.val (.int .i64 a1.Re) (some 18) (yields_load_box 0 0 (holds_box b2 23 [.int .i64 a1.Re, .int .i64 a1.Im, .int .i64 a1.Den]) tyAgg_2) ?_
          refine QL.on 13 16 h17 ?_
          refine QL.pur (.bool (decide (1000000000 < a1.Re))) (some 19) ?_
          refine QL.val (.bool (decide (1000000000 < a1.Re))) (some 20) (gives_pickF h17) ?_
          refine QL.mv (.bool (decide (1000000000 < a1.Re))) ?_
          rcases ite_cases H0 with ⟨h18, H0⟩ | ⟨h18, H0⟩
          · refine QL.off 18 21 false (some 22) h18 ?_
            refine QL.off 18 21 false (some 23) h18 ?_
            refine QL.off 18 21 false (some 24) h18 ?_
            refine QL.val (.bool true) (some 25) (gives_pickT h18) ?_
            refine QL.mv (.bool true) ?_
            refine QL.off 23 26 false (some 27) rfl ?_
            refine QL.off 23 26 false (some 28) rfl ?_
            refine QL.off 23 26 false (some 29) rfl ?_
            refine QL.val (.bool true) (some 30) (gives_pickT rfl) ?_
            refine QL.mv (.bool true) ?_
            refine QL.off 28 31 false (some 32) rfl ?_
            refine QL.off 28 31 false (some 33) rfl ?_
            refine QL.off 28 31 false (some 34) rfl ?_
            refine QL.off 28 31 false (some 35) rfl ?_
            refine QL.off 28 31 false (some 36) rfl ?_
            refine QL.off 28 31 false (some 37) rfl ?_
            refine QL.off 28 31 false (some 38) rfl ?_
            refine QL.off 28 31 false (some 39) rfl ?_
            refine QL.off 28 31 false (some 40) rfl ?_
            refine QL.val (.bool true) (some 41) (gives_pickT rfl) ?_
            refine QL.nil ?_
            refine JA.nil ?_
            refine JQ.then_normal ?_
            exact JQ.meet true () H0 (fun _ h => Heap.to (Heap.pick [] (by decide) h))
          · refine QL.on 18 21 h18 ?_
            refine QL.pur (.pointer (some ⟨b2, 1, none⟩)) (some 22) ?_
            refine QL.on 18 21 h18 ?_
            refine QL.val (.int .i64 a1.Im) (some 23) (yields_load_box 0 1 (holds_box b2 23 [.int .i64 a1.Re, .int .i64 a1.Im, .int .i64 a1.Den]) tyAgg_2) ?_
            refine QL.on 18 21 h18 ?_
            refine QL.pur (.bool (decide (a1.Im < (-1000000000)))) (some 24) ?_
            refine QL.val (.bool (decide (a1.Im < (-1000000000)))) (some 25) (gives_pickF h18) ?_
            refine QL.mv (.bool (decide (a1.Im < (-1000000000)))) ?_
            rcases ite_cases H0 with ⟨h19, H0⟩ | ⟨h19, H0⟩
            · refine QL.off 23 26 false (some 27) h19 ?_
              refine QL.off 23 26 false (some 28) h19 ?_
              refine QL.off 23 26 false (some 29) h19 ?_
              refine QL.val (.bool true) (some 30) (gives_pickT h19) ?_
              refine QL.mv (.bool true) ?_
              refine QL.off 28 31 false (some 32) rfl ?_
              refine QL.off 28 31 false (some 33) rfl ?_
              refine QL.off 28 31 false (some 34) rfl ?_
              refine QL.off 28 31 false (some 35) rfl ?_
              refine QL.off 28 31 false (some 36) rfl ?_
              refine QL.off 28 31 false (some 37) rfl ?_
              refine QL.off 28 31 false (some 38) rfl ?_
              refine QL.off 28 31 false (some 39) rfl ?_
              refine QL.off 28 31 false (some 40) rfl ?_
              refine QL.val (.bool true) (some 41) (gives_pickT rfl) ?_
              refine QL.nil ?_
              refine JA.nil ?_
              refine JQ.then_normal ?_
              exact JQ.meet true () H0 (fun _ h => Heap.to (Heap.pick [] (by decide) h))
            · refine QL.on 23 26 h19 ?_
              refine QL.pur (.pointer (some ⟨b2, 1, none⟩)) (some 27) ?_
              refine QL.on 23 26 h19 ?_
              refine QL.val (.int .i64 a1.Im) (some 28) (yields_load_box 0 1 (holds_box b2 23 [.int .i64 a1.Re, .int .i64 a1.Im, .int .i64 a1.Den]) tyAgg_2) ?_
              refine QL.on 23 26 h19 ?_
              refine QL.pur (.bool (decide (1000000000 < a1.Im))) (some 29) ?_
              refine QL.val (.bool (decide (1000000000 < a1.Im))) (some 30) (gives_pickF h19) ?_
              refine QL.mv (.bool (decide (1000000000 < a1.Im))) ?_
              rcases ite_cases H0 with ⟨h20, H0⟩ | ⟨h20, H0⟩
              · refine QL.off 28 31 false (some 32) h20 ?_
                refine QL.off 28 31 false (some 33) h20 ?_
                refine QL.off 28 31 false (some 34) h20 ?_
                refine QL.off 28 31 false (some 35) h20 ?_
                refine QL.off 28 31 false (some 36) h20 ?_
                refine QL.off 28 31 false (some 37) h20 ?_
                refine QL.off 28 31 false (some 38) h20 ?_
                refine QL.off 28 31 false (some 39) h20 ?_
                refine QL.off 28 31 false (some 40) h20 ?_
                refine QL.val (.bool true) (some 41) (gives_pickT h20) ?_
                refine QL.nil ?_
                refine JA.nil ?_
                refine JQ.then_normal ?_
                exact JQ.meet true () H0 (fun _ h => Heap.to (Heap.pick [] (by decide) h))
              · refine QL.on 28 31 h20 ?_
                refine QL.pur (.pointer (some ⟨b2, 0, none⟩)) (some 32) ?_
                refine QL.on 28 31 h20 ?_
                refine QL.val (.int .i64 a1.Re) (some 33) (yields_load_box 0 0 (holds_box b2 23 [.int .i64 a1.Re, .int .i64 a1.Im, .int .i64 a1.Den]) tyAgg_2) ?_
                refine QL.on 28 31 h20 ?_
                refine QL.pur (.pointer (some ⟨b2, 1, none⟩)) (some 34) ?_
                refine QL.on 28 31 h20 ?_
                refine QL.val (.int .i64 a1.Im) (some 35) (yields_load_box 0 1 (holds_box b2 23 [.int .i64 a1.Re, .int .i64 a1.Im, .int .i64 a1.Den]) tyAgg_2) ?_
                refine QL.on 28 31 h20 ?_
                obtain ⟨t21, hc22, H0⟩ := bind_some H0
                refine QL.call [] [] (ref25_Gcd.ok a1.Re a1.Im _ hc22) trivial ?_
                refine QL.on 28 31 h20 ?_
                refine QL.pur (.pointer (some ⟨b2, 2, none⟩)) (some 37) ?_
                refine QL.on 28 31 h20 ?_
                refine QL.val (.int .i64 a1.Den) (some 38) (yields_load_box 0 2 (holds_box b2 23 [.int .i64 a1.Re, .int .i64 a1.Im, .int .i64 a1.Den]) tyAgg_2) ?_
                refine QL.on 28 31 h20 ?_
                obtain ⟨t23, hc24, H0⟩ := bind_some H0
                refine QL.call [] [] (ref25_Gcd.ok t21 a1.Den _ hc24) trivial ?_
                refine QL.on 28 31 h20 ?_
                refine QL.pur (.bool (!decide (t23 = 1))) (some 40) ?_
                refine QL.val (.bool (!decide (t23 = 1))) (some 41) (gives_pickF h20) ?_
                refine QL.nil ?_
                refine JA.nil ?_
                refine JQ.then_normal ?_
                exact JQ.meet (!decide (t23 = 1)) () H0 (fun _ h => Heap.to (Heap.pick [] (by decide) h))
  · clear H0
    rintro x13 ⟨⟩ H0
    replace H0 : ref25_Check.k1 x13 = some r := H0
    unfold ref25_Check.k1 at H0
    refine JQ.sub [(41, .bool x13)] ?_
    refine JQ.turn (Δ' := []) (fun _ h => h.to) ?_
    rcases ite_cases H0 with ⟨h14, H0⟩ | ⟨h14, H0⟩
    · refine J.cond_true h14 ?_
      refine J.seq ?_
      refine J.region ?_
      refine JL.as (.int .i64 8) ?_
      refine JL.nil ?_
      refine JQ.then_normal ?_
      refine JQ.sub [(2, .int .i64 8)] ?_
      refine J.ret ?_
      refine JQ.then_ret ?_
      obtain rfl := Option.some.inj H0
      exact JQ.done' (rs := [.tmp 2]) (vs := [.int .i64 8]) [] (.inr rfl) ⟨by kernel_rfl, trivial⟩ (fun _ h => Heap.to h) ⟨rfl, rfl⟩
    · refine J.cond_false h14 ?_
      refine J.skip ?_
      refine JQ.then_normal ?_
      refine JQ.sub [] ?_
      refine J.seq ?_
      refine J.region ?_
      refine JL.as (.int .i64 0) ?_
      refine JL.nil ?_
      refine JQ.then_normal ?_
      refine J.ret ?_
      obtain rfl := Option.some.inj H0
      exact JQ.done' (rs := [.tmp 2]) (vs := [.int .i64 0]) [] (.inr rfl) ⟨by kernel_rfl, trivial⟩ (fun _ h => Heap.to h) ⟨rfl, rfl⟩

theorem ref33_Valid.ok (a1 : (A4 Cx)) (r : Bool) (H0 : ref33_Valid.f a1 = some r) :
    Does Try.prog 24 [.agg #[.int .i64 a1.e0.Re, .int .i64 a1.e0.Im, .int .i64 a1.e0.Den, .int .i64 a1.e1.Re, .int .i64 a1.e1.Im, .int .i64 a1.e1.Den, .int .i64 a1.e2.Re, .int .i64 a1.e2.Im, .int .i64 a1.e2.Den, .int .i64 a1.e3.Re, .int .i64 a1.e3.Im, .int .i64 a1.e3.Den]].toArray [] [] false (fun v Δ => v = .bool r ∧ Δ = []) := by
  refine Does.body (vs := [.agg #[.int .i64 a1.e0.Re, .int .i64 a1.e0.Im, .int .i64 a1.e0.Den, .int .i64 a1.e1.Re, .int .i64 a1.e1.Im, .int .i64 a1.e1.Den, .int .i64 a1.e2.Re, .int .i64 a1.e2.Im, .int .i64 a1.e2.Den, .int .i64 a1.e3.Re, .int .i64 a1.e3.Im, .int .i64 a1.e3.Den]]) Try.func24 rfl trivial trivial fun w S => ?_
  unfold ref33_Valid.f at H0
  refine J.seq ?_
  refine J.region ?_
  refine JL.box [.int .i64 a1.e0.Re, .int .i64 a1.e0.Im, .int .i64 a1.e0.Den, .int .i64 a1.e1.Re, .int .i64 a1.e1.Im, .int .i64 a1.e1.Den, .int .i64 a1.e2.Re, .int .i64 a1.e2.Im, .int .i64 a1.e2.Den, .int .i64 a1.e3.Re, .int .i64 a1.e3.Im, .int .i64 a1.e3.Den] fun b2 => ?_
  refine JL.as (.bool false) ?_
  refine JL.nil ?_
  refine JQ.then_normal ?_
  refine JQ.sub [(1, .pointer (some ⟨b2, 0, none⟩))] ?_
  refine J.seq ?_
  refine J.seq ?_
  refine J.region ?_
  refine JL.as (.int .i64 0) ?_
  refine JL.nil ?_
  refine JQ.then_normal ?_
  obtain ⟨o1, hit, H0⟩ := bind_some H0
  refine J.loop (σ := Int) (τ := Unit) (G := Unit) (G' := Unit) _ o1 (fun s g => [(1, .pointer (some ⟨b2, 0, none⟩)), (3, .int .i64 s)]) (fun s g => [At.box b2 25 [.int .i64 a1.e0.Re, .int .i64 a1.e0.Im, .int .i64 a1.e0.Den, .int .i64 a1.e1.Re, .int .i64 a1.e1.Im, .int .i64 a1.e1.Den, .int .i64 a1.e2.Re, .int .i64 a1.e2.Im, .int .i64 a1.e2.Den, .int .i64 a1.e3.Re, .int .i64 a1.e3.Im, .int .i64 a1.e3.Den]]) (fun t => ref33_Valid.k2 = some r) (fun t g => []) (fun t g => []) 0 () hit (fun _ h => Heap.to h) ?_ ?_
  · clear hit
    rintro k14 ⟨⟩ st1 H1 hb1 hr1
    replace H1 : ref33_Valid.s1 a1 k14 = some st1 := H1
    unfold ref33_Valid.s1 at H1
    refine JQ.sub [(1, .pointer (some ⟨b2, 0, none⟩)), (3, .int .i64 k14)] ?_
    refine JQ.turn (Δ' := [At.box b2 25 [.int .i64 a1.e0.Re, .int .i64 a1.e0.Im, .int .i64 a1.e0.Den, .int .i64 a1.e1.Re, .int .i64 a1.e1.Im, .int .i64 a1.e1.Den, .int .i64 a1.e2.Re, .int .i64 a1.e2.Im, .int .i64 a1.e2.Den, .int .i64 a1.e3.Re, .int .i64 a1.e3.Im, .int .i64 a1.e3.Den]]) (fun _ h => h.to) ?_
    refine J.seq ?_
    refine J.seq ?_
    refine J.region ?_
    refine JL.mv (.int .i64 k14) ?_
    refine JL.pur (.bool (decide (k14 < 4))) (some 5) ?_
    refine JL.nil ?_
    refine JQ.then_normal ?_
    refine JQ.sub [(1, .pointer (some ⟨b2, 0, none⟩)), (3, .int .i64 k14), (5, .bool (decide (k14 < 4)))] ?_
    rcases ite_cases H1 with ⟨h21, H1⟩ | ⟨h21, H1⟩
    · refine J.cond_true h21 ?_
      refine J.skip ?_
      refine JQ.then_normal ?_
      refine JQ.sub [(1, .pointer (some ⟨b2, 0, none⟩)), (3, .int .i64 k14)] ?_
      refine J.seq ?_
      refine J.block ?_
      refine J.seq ?_
      refine J.region ?_
      refine JL.mv (.int .i64 k14) ?_
      obtain ⟨⟨h22, h23⟩, H1⟩ := ite_must H1
      refine JL.val (.pointer (some ⟨b2, 0 + k14.toNat * 3, none⟩)) (some 9) (gives_ixArrD (b := b2) (o := 0) (i := k14) 4 3 .i64 h22 h23 Try.underlying25 tySize_23) ?_
      refine JL.val (.agg #[.int .i64 ((ix ([a1.e0, a1.e1, a1.e2, a1.e3] : List Cx) k14).Re), .int .i64 ((ix ([a1.e0, a1.e1, a1.e2, a1.e3] : List Cx) k14).Im), .int .i64 ((ix ([a1.e0, a1.e1, a1.e2, a1.e3] : List Cx) k14).Den)]) (some 10) (gives_loadEl (f := fl_Cx) 0 0 k14 (elems_arr b2 25 [.int .i64 a1.e0.Re, .int .i64 a1.e0.Im, .int .i64 a1.e0.Den, .int .i64 a1.e1.Re, .int .i64 a1.e1.Im, .int .i64 a1.e1.Den, .int .i64 a1.e2.Re, .int .i64 a1.e2.Im, .int .i64 a1.e2.Den, .int .i64 a1.e3.Re, .int .i64 a1.e3.Im, .int .i64 a1.e3.Den] fl_Cx ([a1.e0, a1.e1, a1.e2, a1.e3] : List Cx) 0) h22 h23 tySize_23 (.inl ⟨tyAgg_23, rfl⟩)) ?_
      obtain ⟨t24, hc25, H1⟩ := bind_some H1
      refine JL.call [] [] [] (ref25_Check.ok (ix ([a1.e0, a1.e1, a1.e2, a1.e3] : List Cx) k14) _ hc25) trivial ?_
      rintro _ _ ⟨rfl, rfl⟩
      refine JL.pur (.bool (!decide (t24 = 0))) (some 12) ?_
      refine JL.nil ?_
      refine JQ.then_normal ?_
      refine JQ.sub [(1, .pointer (some ⟨b2, 0, none⟩)), (3, .int .i64 k14), (12, .bool (!decide (t24 = 0)))] ?_
      rcases ite_cases H1 with ⟨h26, H1⟩ | ⟨h26, H1⟩
      · refine J.cond_true h26 ?_
        refine J.seq ?_
        refine J.region ?_
        refine JL.as (.bool false) ?_
        refine JL.nil ?_
        refine JQ.then_normal ?_
        refine JQ.sub [(2, .bool false)] ?_
        refine JQ.mask [] [false] ?_
        refine J.ret ?_
        refine JQ.blk_ret ?_
        refine JQ.then_ret ?_
        refine JQ.then_ret ?_
        refine JQ.blk_ret ?_
        refine JQ.met_ret ?_
        refine JQ.then_ret ?_
        rw [hr1 _ (Option.some.inj H1).symm, fin_ret] at H0
        obtain rfl := Option.some.inj H0
        exact JQ.done' (rs := [.tmp 2]) (vs := [.bool false]) [] (.inr rfl) ⟨by kernel_rfl, trivial⟩ (fun _ h => Heap.to h) ⟨rfl, rfl⟩
      · refine J.cond_false h26 ?_
        refine J.skip ?_
        refine JQ.blk_normal ?_
        refine JQ.then_normal ?_
        refine JQ.sub [(1, .pointer (some ⟨b2, 0, none⟩)), (3, .int .i64 k14)] ?_
        refine J.region ?_
        refine JL.mv (.int .i64 k14) ?_
        refine JL.pur (.int .i64 (w64 (k14 + 1))) (some 7) ?_
        refine JL.as (.int .i64 (w64 (k14 + 1))) ?_
        refine JL.nil ?_
        refine JQ.then_normal ?_
        exact JQ.again (w64 (k14 + 1)) () (Option.some.inj H1).symm (fun _ h => Heap.to h)
    · refine J.cond_false h21 ?_
      refine J.exit ?_
      refine JQ.then_exit ?_
      refine JQ.then_exit ?_
      refine JQ.blk_exit ?_
      rw [hb1 _ (Option.some.inj H1).symm, fin_brk] at H0
      exact JQ.met () () H0 (fun _ h => Heap.to (Heap.pick [] (by decide) h))
  · clear hit H0
    rintro ⟨⟩ ⟨⟩ H0
    replace H0 : ref33_Valid.k2 = some r := H0
    unfold ref33_Valid.k2 at H0
    refine JQ.sub [] ?_
    refine JQ.turn (Δ' := []) (fun _ h => h.to) ?_
    refine JQ.then_normal ?_
    refine J.seq ?_
    refine J.region ?_
    refine JL.as (.bool true) ?_
    refine JL.nil ?_
    refine JQ.then_normal ?_
    refine J.ret ?_
    obtain rfl := Option.some.inj H0
    exact JQ.done' (rs := [.tmp 2]) (vs := [.bool true]) [] (.inr rfl) ⟨by kernel_rfl, trivial⟩ (fun _ h => Heap.to h) ⟨rfl, rfl⟩

theorem ref25_Both.ok (a1 : Cx) (b2 : Cx) (r : Int) (H0 : ref25_Both.f a1 b2 = some r) :
    Does Try.prog 64 [.agg #[.int .i64 a1.Re, .int .i64 a1.Im, .int .i64 a1.Den], .agg #[.int .i64 b2.Re, .int .i64 b2.Im, .int .i64 b2.Den]].toArray [] [] false (fun v Δ => v = .int .i64 r ∧ Δ = []) := by
  refine Does.body (vs := [.agg #[.int .i64 a1.Re, .int .i64 a1.Im, .int .i64 a1.Den], .agg #[.int .i64 b2.Re, .int .i64 b2.Im, .int .i64 b2.Den]]) Try.func64 rfl trivial trivial fun w S => ?_
  unfold ref25_Both.f at H0
  refine J.seq ?_
  refine J.region ?_
  refine JL.box [.int .i64 a1.Re, .int .i64 a1.Im, .int .i64 a1.Den] fun b3 => ?_
  refine JL.box [.int .i64 b2.Re, .int .i64 b2.Im, .int .i64 b2.Den] fun b4 => ?_
  refine JL.as (.int .i64 0) ?_
  refine JL.nil ?_
  refine JQ.then_normal ?_
  refine JQ.sub [(2, .pointer (some ⟨b3, 0, none⟩)), (3, .pointer (some ⟨b4, 0, none⟩))] ?_
  refine J.seq ?_
  refine J.join (T := Bool) (G := Unit) (fun t => ref25_Both.k1 t = some r) (fun t g => [(12, .bool t)]) (fun t g => []) ?_ ?_
  · refine J.region ?_
    refine JL.val (.agg #[.int .i64 a1.Re, .int .i64 a1.Im, .int .i64 a1.Den]) (some 5) (yields_load_boxes 0 0 [.int .i64 a1.Re, .int .i64 a1.Im, .int .i64 a1.Den] (holds_box b3 23 [.int .i64 a1.Re, .int .i64 a1.Im, .int .i64 a1.Den]) tyAgg_23 tySize_23) ?_
    obtain ⟨t12, hc13, H0⟩ := bind_some H0
    refine JL.call [] [] [] (ref25_Check.ok a1 _ hc13) trivial ?_
    rintro _ _ ⟨rfl, rfl⟩
    refine JL.pur (.bool (!decide (t12 = 0))) (some 7) ?_
    refine JL.mv (.bool (!decide (t12 = 0))) ?_
    rcases ite_cases H0 with ⟨h14, H0⟩ | ⟨h14, H0⟩
    · refine JL.off 3 8 false (some 9) h14 ?_
      refine JL.off 3 8 false (some 10) h14 ?_
      refine JL.off 3 8 false (some 11) h14 ?_
      refine JL.val (.bool true) (some 12) (gives_pickT h14) ?_
      refine JL.nil ?_
      refine JQ.then_normal ?_
      exact JQ.meet true () H0 (fun _ h => Heap.to (Heap.pick [] (by decide) h))
    · refine JL.on 3 8 h14 ?_
      refine JL.val (.agg #[.int .i64 b2.Re, .int .i64 b2.Im, .int .i64 b2.Den]) (some 9) (yields_load_boxes 1 0 [.int .i64 b2.Re, .int .i64 b2.Im, .int .i64 b2.Den] (holds_box b4 23 [.int .i64 b2.Re, .int .i64 b2.Im, .int .i64 b2.Den]) tyAgg_23 tySize_23) ?_
      refine JL.on 3 8 h14 ?_
      obtain ⟨t15, hc16, H0⟩ := bind_some H0
      refine JL.call [] [] [] (ref25_Check.ok b2 _ hc16) trivial ?_
      rintro _ _ ⟨rfl, rfl⟩
      refine JL.on 3 8 h14 ?_
      refine JL.pur (.bool (!decide (t15 = 0))) (some 11) ?_
      refine JL.val (.bool (!decide (t15 = 0))) (some 12) (gives_pickF h14) ?_
      refine JL.nil ?_
      refine JQ.then_normal ?_
      exact JQ.meet (!decide (t15 = 0)) () H0 (fun _ h => Heap.to (Heap.pick [] (by decide) h))
  · clear H0
    rintro x10 ⟨⟩ H0
    replace H0 : ref25_Both.k1 x10 = some r := H0
    unfold ref25_Both.k1 at H0
    refine JQ.sub [(12, .bool x10)] ?_
    refine JQ.turn (Δ' := []) (fun _ h => h.to) ?_
    rcases ite_cases H0 with ⟨h11, H0⟩ | ⟨h11, H0⟩
    · refine J.cond_true h11 ?_
      refine J.seq ?_
      refine J.region ?_
      refine JL.as (.int .i64 8) ?_
      refine JL.nil ?_
      refine JQ.then_normal ?_
      refine JQ.sub [(4, .int .i64 8)] ?_
      refine J.ret ?_
      refine JQ.then_ret ?_
      obtain rfl := Option.some.inj H0
      exact JQ.done' (rs := [.tmp 4]) (vs := [.int .i64 8]) [] (.inr rfl) ⟨by kernel_rfl, trivial⟩ (fun _ h => Heap.to h) ⟨rfl, rfl⟩
    · refine J.cond_false h11 ?_
      refine J.skip ?_
      refine JQ.then_normal ?_
      refine JQ.sub [] ?_
      refine J.seq ?_
      refine J.region ?_
      refine JL.as (.int .i64 0) ?_
      refine JL.nil ?_
      refine JQ.then_normal ?_
      refine J.ret ?_
      obtain rfl := Option.some.inj H0
      exact JQ.done' (rs := [.tmp 4]) (vs := [.int .i64 0]) [] (.inr rfl) ⟨by kernel_rfl, trivial⟩ (fun _ h => Heap.to h) ⟨rfl, rfl⟩

theorem ref25_made.ok (re1 : Int) (im2 : Int) (den3 : Int) (r : (Cx × Int)) (H0 : ref25_made.f re1 im2 den3 = some r) :
    Does Try.prog 65 [.int .i64 re1, .int .i64 im2, .int .i64 den3].toArray [] [] false (fun v Δ => v = .tuple #[.agg #[.int .i64 r.1.Re, .int .i64 r.1.Im, .int .i64 r.1.Den], .int .i64 r.2] ∧ Δ = []) := by
  refine Does.body (vs := [.int .i64 re1, .int .i64 im2, .int .i64 den3]) Try.func65 rfl trivial trivial fun w S => ?_
  unfold ref25_made.f at H0
  refine J.seq ?_
  refine J.region ?_
  refine JL.alloc [.int .i64 0, .int .i64 0, .int .i64 0] fun b4 => ?_
  refine JL.as (.int .i64 0) ?_
  refine JL.nil ?_
  refine JQ.then_normal ?_
  refine JQ.sub [(0, .int .i64 re1), (1, .int .i64 im2), (2, .int .i64 den3), (6, .pointer (some ⟨b4, 0, none⟩))] ?_
  refine J.seq ?_
  refine J.seq ?_
  refine J.region ?_
  refine JL.mv (.int .i64 den3) ?_
  refine JL.pur (.bool (decide (den3 = 0))) (some 11) ?_
  refine JL.nil ?_
  refine JQ.then_normal ?_
  refine JQ.sub [(0, .int .i64 re1), (1, .int .i64 im2), (2, .int .i64 den3), (6, .pointer (some ⟨b4, 0, none⟩)), (11, .bool (decide (den3 = 0)))] ?_
  rcases ite_cases H0 with ⟨h5, H0⟩ | ⟨h5, H0⟩
  · refine J.cond_true h5 ?_
    refine J.seq ?_
    refine J.region ?_
    refine JL.pur (.agg #[.int .i64 0, .int .i64 0, .int .i64 0]) (some 12) ?_
    refine JL.store 0 b4 0 23 [.int .i64 0, .int .i64 0, .int .i64 0] [.int .i64 0, .int .i64 0, .int .i64 0] tySize_23 ?_
    refine JL.as (.int .i64 18) ?_
    refine JL.nil ?_
    refine JQ.then_normal ?_
    refine JQ.sub [(6, .pointer (some ⟨b4, 0, none⟩)), (7, .int .i64 18)] ?_
    refine J.ret ?_
    refine JQ.then_ret ?_
    obtain rfl := Option.some.inj H0
    exact JQ.done' (rs := [.cell 6 23, .tmp 7]) (vs := [.agg #[.int .i64 0, .int .i64 0, .int .i64 0], .int .i64 18]) [] (.inr rfl) ⟨⟨b4, 0, _, _, by kernel_rfl, by kernel_rfl, holds_box b4 23 [.int .i64 0, .int .i64 0, .int .i64 0], .inl ⟨tyAgg_23, tySize_23, rfl⟩⟩, by kernel_rfl, trivial⟩ (fun _ h => Heap.to (Heap.pick [] (by decide) h)) ⟨rfl, rfl⟩
  · refine J.cond_false h5 ?_
    refine J.skip ?_
    refine JQ.then_normal ?_
    refine JQ.sub [(0, .int .i64 re1), (1, .int .i64 im2), (2, .int .i64 den3), (6, .pointer (some ⟨b4, 0, none⟩))] ?_
    refine J.seq ?_
    refine J.region ?_
    refine JL.mv (.int .i64 re1) ?_
    refine JL.mv (.int .i64 im2) ?_
    obtain ⟨t6, hc7, H0⟩ := bind_some H0
    refine JL.call [] [] [] (ref25_Gcd.ok re1 im2 _ hc7) trivial ?_
    rintro _ _ ⟨rfl, rfl⟩
    refine JL.mv (.int .i64 den3) ?_
    obtain ⟨t8, hc9, H0⟩ := bind_some H0
    refine JL.call [] [] [] (ref25_Gcd.ok t6 den3 _ hc9) trivial ?_
    rintro _ _ ⟨rfl, rfl⟩
    refine JL.as (.int .i64 t8) ?_
    refine JL.nil ?_
    refine JQ.then_normal ?_
    refine JQ.sub [(0, .int .i64 re1), (1, .int .i64 im2), (2, .int .i64 den3), (6, .pointer (some ⟨b4, 0, none⟩)), (8, .int .i64 t8)] ?_
    refine J.join (T := Int) (G := Unit) (fun t => ref25_made.k1 re1 im2 den3 t = some r) (fun t g => [(0, .int .i64 re1), (1, .int .i64 im2), (2, .int .i64 den3), (6, .pointer (some ⟨b4, 0, none⟩)), (8, .int .i64 t)]) (fun t g => [At.box b4 23 [.int .i64 0, .int .i64 0, .int .i64 0]]) ?_ ?_
    · refine J.seq ?_
      refine J.region ?_
      refine JL.mv (.int .i64 den3) ?_
      refine JL.pur (.bool (decide (den3 < 0))) (some 19) ?_
      refine JL.nil ?_
      refine JQ.then_normal ?_
      refine JQ.sub [(0, .int .i64 re1), (1, .int .i64 im2), (2, .int .i64 den3), (6, .pointer (some ⟨b4, 0, none⟩)), (8, .int .i64 t8), (19, .bool (decide (den3 < 0)))] ?_
      rcases ite_cases H0 with ⟨h19, H0⟩ | ⟨h19, H0⟩
      · refine J.cond_true h19 ?_
        refine J.region ?_
        refine JL.mv (.int .i64 t8) ?_
        refine JL.pur (.int .i64 (w64 (0 - t8))) (some 21) ?_
        refine JL.as (.int .i64 (w64 (0 - t8))) ?_
        refine JL.nil ?_
        refine JQ.then_normal ?_
        exact JQ.meet (w64 (0 - t8)) () H0 (fun _ h => Heap.to h)
      · refine J.cond_false h19 ?_
        refine J.skip ?_
        refine JQ.then_normal ?_
        exact JQ.meet t8 () H0 (fun _ h => Heap.to h)
    · clear H0
      rintro g11 ⟨⟩ H0
      replace H0 : ref25_made.k1 re1 im2 den3 g11 = some r := H0
      unfold ref25_made.k1 at H0
      refine JQ.sub [(0, .int .i64 re1), (1, .int .i64 im2), (2, .int .i64 den3), (6, .pointer (some ⟨b4, 0, none⟩)), (8, .int .i64 g11)] ?_
      refine JQ.turn (Δ' := [At.box b4 23 [.int .i64 0, .int .i64 0, .int .i64 0]]) (fun _ h => h.to) ?_
      refine J.seq ?_
      refine J.drawA 11 [⟨10, 9, 23, [.int .i64 0, .int .i64 0, .int .i64 0]⟩] ?_ (by simp only [List.mem_cons, List.not_mem_nil, or_false, forall_eq_or_imp, forall_eq]; exact ⟨by decide, ⟨_, _, _, rfl⟩, by kernel_rfl⟩)
      refine QL.mv (.int .i64 re1) ?_
      refine QL.mv (.int .i64 g11) ?_
      obtain ⟨h12, H0⟩ := ite_must H0
      refine QL.val (.int .i64 (w64 (Int.tdiv re1 g11))) (some 24) (gives_quo .i64 re1 g11 h12) ?_
      refine QL.mv (.int .i64 im2) ?_
      refine QL.mv (.int .i64 g11) ?_
      obtain ⟨h13, H0⟩ := ite_must H0
      refine QL.val (.int .i64 (w64 (Int.tdiv im2 g11))) (some 27) (gives_quo .i64 im2 g11 h13) ?_
      refine QL.mv (.int .i64 den3) ?_
      refine QL.mv (.int .i64 g11) ?_
      obtain ⟨h14, H0⟩ := ite_must H0
      refine QL.val (.int .i64 (w64 (Int.tdiv den3 g11))) (some 30) (gives_quo .i64 den3 g11 h14) ?_
      refine QL.pur (.agg #[.int .i64 (w64 (Int.tdiv re1 g11)), .int .i64 (w64 (Int.tdiv im2 g11)), .int .i64 (w64 (Int.tdiv den3 g11))]) (some 31) ?_
      refine QL.skipA ?_
      refine QL.nil ?_
      refine JA.alloc fun b15 => ?_
      refine JA.nil ?_
      refine JL.store 1 b15 0 23 [.int .i64 0, .int .i64 0, .int .i64 0] [.int .i64 (w64 (Int.tdiv re1 g11)), .int .i64 (w64 (Int.tdiv im2 g11)), .int .i64 (w64 (Int.tdiv den3 g11))] tySize_23 ?_
      refine JL.nil ?_
      refine JQ.then_normal ?_
      refine JQ.sub [(6, .pointer (some ⟨b4, 0, none⟩)), (9, .pointer (some ⟨b15, 0, none⟩))] ?_
      refine J.seq ?_
      refine J.seq ?_
      refine J.region ?_
      refine JL.val (.agg #[.int .i64 (w64 (Int.tdiv re1 g11)), .int .i64 (w64 (Int.tdiv im2 g11)), .int .i64 (w64 (Int.tdiv den3 g11))]) (some 32) (yields_load_boxes 1 0 [.int .i64 (w64 (Int.tdiv re1 g11)), .int .i64 (w64 (Int.tdiv im2 g11)), .int .i64 (w64 (Int.tdiv den3 g11))] (holds_box b15 23 [.int .i64 (w64 (Int.tdiv re1 g11)), .int .i64 (w64 (Int.tdiv im2 g11)), .int .i64 (w64 (Int.tdiv den3 g11))]) tyAgg_23 tySize_23) ?_
      obtain ⟨t16, hc17, H0⟩ := bind_some H0
      refine JL.call [] [] [] (ref25_Check.ok (⟨(w64 (Int.tdiv re1 g11)), (w64 (Int.tdiv im2 g11)), (w64 (Int.tdiv den3 g11))⟩ : Cx) _ hc17) trivial ?_
      rintro _ _ ⟨rfl, rfl⟩
      refine JL.pur (.bool (!decide (t16 = 0))) (some 34) ?_
      refine JL.nil ?_
      refine JQ.then_normal ?_
      refine JQ.sub [(6, .pointer (some ⟨b4, 0, none⟩)), (9, .pointer (some ⟨b15, 0, none⟩)), (34, .bool (!decide (t16 = 0)))] ?_
      rcases ite_cases H0 with ⟨h18, H0⟩ | ⟨h18, H0⟩
      · refine J.cond_true h18 ?_
        refine J.seq ?_
        refine J.region ?_
        refine JL.pur (.agg #[.int .i64 0, .int .i64 0, .int .i64 0]) (some 35) ?_
        refine JL.store 0 b4 0 23 [.int .i64 0, .int .i64 0, .int .i64 0] [.int .i64 0, .int .i64 0, .int .i64 0] tySize_23 ?_
        refine JL.as (.int .i64 16) ?_
        refine JL.nil ?_
        refine JQ.then_normal ?_
        refine JQ.sub [(6, .pointer (some ⟨b4, 0, none⟩)), (7, .int .i64 16)] ?_
        refine JQ.mask [At.box b4 23 [.int .i64 0, .int .i64 0, .int .i64 0]] [true, false] ?_
        refine J.ret ?_
        refine JQ.then_ret ?_
        obtain rfl := Option.some.inj H0
        exact JQ.done' (rs := [.cell 6 23, .tmp 7]) (vs := [.agg #[.int .i64 0, .int .i64 0, .int .i64 0], .int .i64 16]) [] (.inr rfl) ⟨⟨b4, 0, _, _, by kernel_rfl, by kernel_rfl, holds_box b4 23 [.int .i64 0, .int .i64 0, .int .i64 0], .inl ⟨tyAgg_23, tySize_23, rfl⟩⟩, by kernel_rfl, trivial⟩ (fun _ h => Heap.to (Heap.pick [] (by decide) h)) ⟨rfl, rfl⟩
      · refine J.cond_false h18 ?_
        refine J.skip ?_
        refine JQ.then_normal ?_
        refine JQ.sub [(6, .pointer (some ⟨b4, 0, none⟩)), (9, .pointer (some ⟨b15, 0, none⟩))] ?_
        refine J.seq ?_
        refine J.region ?_
        refine JL.val (.agg #[.int .i64 (w64 (Int.tdiv re1 g11)), .int .i64 (w64 (Int.tdiv im2 g11)), .int .i64 (w64 (Int.tdiv den3 g11))]) (some 36) (yields_load_boxes 1 0 [.int .i64 (w64 (Int.tdiv re1 g11)), .int .i64 (w64 (Int.tdiv im2 g11)), .int .i64 (w64 (Int.tdiv den3 g11))] (holds_box b15 23 [.int .i64 (w64 (Int.tdiv re1 g11)), .int .i64 (w64 (Int.tdiv im2 g11)), .int .i64 (w64 (Int.tdiv den3 g11))]) tyAgg_23 tySize_23) ?_
        refine JL.store 0 b4 0 23 [.int .i64 0, .int .i64 0, .int .i64 0] [.int .i64 (w64 (Int.tdiv re1 g11)), .int .i64 (w64 (Int.tdiv im2 g11)), .int .i64 (w64 (Int.tdiv den3 g11))] tySize_23 ?_
        refine JL.as (.int .i64 0) ?_
        refine JL.nil ?_
        refine JQ.then_normal ?_
        refine JQ.sub [(6, .pointer (some ⟨b4, 0, none⟩)), (7, .int .i64 0)] ?_
        refine JQ.mask [At.box b4 23 [.int .i64 (w64 (Int.tdiv re1 g11)), .int .i64 (w64 (Int.tdiv im2 g11)), .int .i64 (w64 (Int.tdiv den3 g11))]] [true, false] ?_
        refine J.ret ?_
        obtain rfl := Option.some.inj H0
        exact JQ.done' (rs := [.cell 6 23, .tmp 7]) (vs := [.agg #[.int .i64 (w64 (Int.tdiv re1 g11)), .int .i64 (w64 (Int.tdiv im2 g11)), .int .i64 (w64 (Int.tdiv den3 g11))], .int .i64 0]) [] (.inr rfl) ⟨⟨b4, 0, _, _, by kernel_rfl, by kernel_rfl, holds_box b4 23 [.int .i64 (w64 (Int.tdiv re1 g11)), .int .i64 (w64 (Int.tdiv im2 g11)), .int .i64 (w64 (Int.tdiv den3 g11))], .inl ⟨tyAgg_23, tySize_23, rfl⟩⟩, by kernel_rfl, trivial⟩ (fun _ h => Heap.to (Heap.pick [] (by decide) h)) ⟨rfl, rfl⟩

theorem ref25_Mul.ok (a1 : Cx) (b2 : Cx) (r : (Cx × Int)) (H0 : ref25_Mul.f a1 b2 = some r) :
    Does Try.prog 40 [.agg #[.int .i64 a1.Re, .int .i64 a1.Im, .int .i64 a1.Den], .agg #[.int .i64 b2.Re, .int .i64 b2.Im, .int .i64 b2.Den]].toArray [] [] false (fun v Δ => v = .tuple #[.agg #[.int .i64 r.1.Re, .int .i64 r.1.Im, .int .i64 r.1.Den], .int .i64 r.2] ∧ Δ = []) := by
  refine Does.body (vs := [.agg #[.int .i64 a1.Re, .int .i64 a1.Im, .int .i64 a1.Den], .agg #[.int .i64 b2.Re, .int .i64 b2.Im, .int .i64 b2.Den]]) Try.func40 rfl trivial trivial fun w S => ?_
  unfold ref25_Mul.f at H0
  refine J.seq ?_
  refine J.region ?_
  refine JL.box [.int .i64 a1.Re, .int .i64 a1.Im, .int .i64 a1.Den] fun b3 => ?_
  refine JL.box [.int .i64 b2.Re, .int .i64 b2.Im, .int .i64 b2.Den] fun b4 => ?_
  refine JL.alloc [.int .i64 0, .int .i64 0, .int .i64 0] fun b5 => ?_
  refine JL.as (.int .i64 0) ?_
  refine JL.nil ?_
  refine JQ.then_normal ?_
  refine JQ.sub [(2, .pointer (some ⟨b3, 0, none⟩)), (3, .pointer (some ⟨b4, 0, none⟩)), (4, .pointer (some ⟨b5, 0, none⟩))] ?_
  refine J.seq ?_
  refine J.seq ?_
  refine J.region ?_
  refine JL.val (.agg #[.int .i64 a1.Re, .int .i64 a1.Im, .int .i64 a1.Den]) (some 6) (yields_load_boxes 0 0 [.int .i64 a1.Re, .int .i64 a1.Im, .int .i64 a1.Den] (holds_box b3 23 [.int .i64 a1.Re, .int .i64 a1.Im, .int .i64 a1.Den]) tyAgg_23 tySize_23) ?_
  refine JL.val (.agg #[.int .i64 b2.Re, .int .i64 b2.Im, .int .i64 b2.Den]) (some 7) (yields_load_boxes 1 0 [.int .i64 b2.Re, .int .i64 b2.Im, .int .i64 b2.Den] (holds_box b4 23 [.int .i64 b2.Re, .int .i64 b2.Im, .int .i64 b2.Den]) tyAgg_23 tySize_23) ?_
  obtain ⟨t6, hc7, H0⟩ := bind_some H0
  refine JL.call [] [] [] (ref25_Both.ok a1 b2 _ hc7) trivial ?_
  rintro _ _ ⟨rfl, rfl⟩
  refine JL.pur (.bool (!decide (t6 = 0))) (some 9) ?_
  refine JL.nil ?_
  refine JQ.then_normal ?_
  refine JQ.sub [(2, .pointer (some ⟨b3, 0, none⟩)), (3, .pointer (some ⟨b4, 0, none⟩)), (4, .pointer (some ⟨b5, 0, none⟩)), (9, .bool (!decide (t6 = 0)))] ?_
  rcases ite_cases H0 with ⟨h8, H0⟩ | ⟨h8, H0⟩
  · refine J.cond_true h8 ?_
    refine J.seq ?_
    refine J.region ?_
    refine JL.pur (.agg #[.int .i64 0, .int .i64 0, .int .i64 0]) (some 10) ?_
    refine JL.store 2 b5 0 23 [.int .i64 0, .int .i64 0, .int .i64 0] [.int .i64 0, .int .i64 0, .int .i64 0] tySize_23 ?_
    refine JL.as (.int .i64 8) ?_
    refine JL.nil ?_
    refine JQ.then_normal ?_
    refine JQ.sub [(4, .pointer (some ⟨b5, 0, none⟩)), (5, .int .i64 8)] ?_
    refine JQ.mask [At.box b5 23 [.int .i64 0, .int .i64 0, .int .i64 0]] [false, false, true] ?_
    refine J.ret ?_
    refine JQ.then_ret ?_
    obtain rfl := Option.some.inj H0
    exact JQ.done' (rs := [.cell 4 23, .tmp 5]) (vs := [.agg #[.int .i64 0, .int .i64 0, .int .i64 0], .int .i64 8]) [] (.inr rfl) ⟨⟨b5, 0, _, _, by kernel_rfl, by kernel_rfl, holds_box b5 23 [.int .i64 0, .int .i64 0, .int .i64 0], .inl ⟨tyAgg_23, tySize_23, rfl⟩⟩, by kernel_rfl, trivial⟩ (fun _ h => Heap.to (Heap.pick [] (by decide) h)) ⟨rfl, rfl⟩
  · refine J.cond_false h8 ?_
    refine J.skip ?_
    refine JQ.then_normal ?_
    refine JQ.sub [(2, .pointer (some ⟨b3, 0, none⟩)), (3, .pointer (some ⟨b4, 0, none⟩)), (4, .pointer (some ⟨b5, 0, none⟩))] ?_
    refine J.seq ?_
    refine J.region ?_
    refine JL.pur (.pointer (some ⟨b3, 0, none⟩)) (some 11) ?_
    refine JL.val (.int .i64 a1.Re) (some 12) (yields_load_box 0 0 (holds_box b3 23 [.int .i64 a1.Re, .int .i64 a1.Im, .int .i64 a1.Den]) tyAgg_2) ?_
    refine JL.pur (.pointer (some ⟨b4, 0, none⟩)) (some 13) ?_
    refine JL.val (.int .i64 b2.Re) (some 14) (yields_load_box 1 0 (holds_box b4 23 [.int .i64 b2.Re, .int .i64 b2.Im, .int .i64 b2.Den]) tyAgg_2) ?_
    refine JL.pur (.int .i64 (w64 (a1.Re * b2.Re))) (some 15) ?_
    refine JL.pur (.pointer (some ⟨b3, 1, none⟩)) (some 16) ?_
    refine JL.val (.int .i64 a1.Im) (some 17) (yields_load_box 0 1 (holds_box b3 23 [.int .i64 a1.Re, .int .i64 a1.Im, .int .i64 a1.Den]) tyAgg_2) ?_
    refine JL.pur (.pointer (some ⟨b4, 1, none⟩)) (some 18) ?_
    refine JL.val (.int .i64 b2.Im) (some 19) (yields_load_box 1 1 (holds_box b4 23 [.int .i64 b2.Re, .int .i64 b2.Im, .int .i64 b2.Den]) tyAgg_2) ?_
    refine JL.pur (.int .i64 (w64 (a1.Im * b2.Im))) (some 20) ?_
    refine JL.pur (.int .i64 (w64 ((w64 (a1.Re * b2.Re)) - (w64 (a1.Im * b2.Im))))) (some 21) ?_
    refine JL.pur (.pointer (some ⟨b3, 0, none⟩)) (some 22) ?_
    refine JL.val (.int .i64 a1.Re) (some 23) (yields_load_box 0 0 (holds_box b3 23 [.int .i64 a1.Re, .int .i64 a1.Im, .int .i64 a1.Den]) tyAgg_2) ?_
    refine JL.pur (.pointer (some ⟨b4, 1, none⟩)) (some 24) ?_
    refine JL.val (.int .i64 b2.Im) (some 25) (yields_load_box 1 1 (holds_box b4 23 [.int .i64 b2.Re, .int .i64 b2.Im, .int .i64 b2.Den]) tyAgg_2) ?_
    refine JL.pur (.int .i64 (w64 (a1.Re * b2.Im))) (some 26) ?_
    refine JL.pur (.pointer (some ⟨b3, 1, none⟩)) (some 27) ?_
    refine JL.val (.int .i64 a1.Im) (some 28) (yields_load_box 0 1 (holds_box b3 23 [.int .i64 a1.Re, .int .i64 a1.Im, .int .i64 a1.Den]) tyAgg_2) ?_
    refine JL.pur (.pointer (some ⟨b4, 0, none⟩)) (some 29) ?_
    refine JL.val (.int .i64 b2.Re) (some 30) (yields_load_box 1 0 (holds_box b4 23 [.int .i64 b2.Re, .int .i64 b2.Im, .int .i64 b2.Den]) tyAgg_2) ?_
    refine JL.pur (.int .i64 (w64 (a1.Im * b2.Re))) (some 31) ?_
    refine JL.pur (.int .i64 (w64 ((w64 (a1.Re * b2.Im)) + (w64 (a1.Im * b2.Re))))) (some 32) ?_
    refine JL.pur (.pointer (some ⟨b3, 2, none⟩)) (some 33) ?_
    refine JL.val (.int .i64 a1.Den) (some 34) (yields_load_box 0 2 (holds_box b3 23 [.int .i64 a1.Re, .int .i64 a1.Im, .int .i64 a1.Den]) tyAgg_2) ?_
    refine JL.pur (.pointer (some ⟨b4, 2, none⟩)) (some 35) ?_
    refine JL.val (.int .i64 b2.Den) (some 36) (yields_load_box 1 2 (holds_box b4 23 [.int .i64 b2.Re, .int .i64 b2.Im, .int .i64 b2.Den]) tyAgg_2) ?_
    refine JL.pur (.int .i64 (w64 (a1.Den * b2.Den))) (some 37) ?_
    obtain ⟨t9, hc10, H0⟩ := bind_some H0
    refine JL.call [] [] [] (ref25_made.ok (w64 ((w64 (a1.Re * b2.Re)) - (w64 (a1.Im * b2.Im)))) (w64 ((w64 (a1.Re * b2.Im)) + (w64 (a1.Im * b2.Re)))) (w64 (a1.Den * b2.Den)) _ hc10) trivial ?_
    rintro _ _ ⟨rfl, rfl⟩
    refine JL.pur (.agg #[.int .i64 t9.1.Re, .int .i64 t9.1.Im, .int .i64 t9.1.Den]) (some 39) ?_
    refine JL.pur (.int .i64 t9.2) (some 40) ?_
    refine JL.store 2 b5 0 23 [.int .i64 0, .int .i64 0, .int .i64 0] [.int .i64 t9.1.Re, .int .i64 t9.1.Im, .int .i64 t9.1.Den] tySize_23 ?_
    refine JL.as (.int .i64 t9.2) ?_
    refine JL.nil ?_
    refine JQ.then_normal ?_
    refine JQ.sub [(4, .pointer (some ⟨b5, 0, none⟩)), (5, .int .i64 t9.2)] ?_
    refine JQ.mask [At.box b5 23 [.int .i64 t9.1.Re, .int .i64 t9.1.Im, .int .i64 t9.1.Den]] [false, false, true] ?_
    refine J.ret ?_
    obtain rfl := Option.some.inj H0
    exact JQ.done' (rs := [.cell 4 23, .tmp 5]) (vs := [.agg #[.int .i64 t9.1.Re, .int .i64 t9.1.Im, .int .i64 t9.1.Den], .int .i64 t9.2]) [] (.inr rfl) ⟨⟨b5, 0, _, _, by kernel_rfl, by kernel_rfl, holds_box b5 23 [.int .i64 t9.1.Re, .int .i64 t9.1.Im, .int .i64 t9.1.Den], .inl ⟨tyAgg_23, tySize_23, rfl⟩⟩, by kernel_rfl, trivial⟩ (fun _ h => Heap.to (Heap.pick [] (by decide) h)) ⟨rfl, rfl⟩

theorem ref25_Neg.ok (a1 : Cx) (r : Cx) (H0 : ref25_Neg.f a1 = some r) :
    Does Try.prog 45 [.agg #[.int .i64 a1.Re, .int .i64 a1.Im, .int .i64 a1.Den]].toArray [] [] false (fun v Δ => v = .agg #[.int .i64 r.Re, .int .i64 r.Im, .int .i64 r.Den] ∧ Δ = []) := by
  refine Does.body (vs := [.agg #[.int .i64 a1.Re, .int .i64 a1.Im, .int .i64 a1.Den]]) Try.func45 rfl trivial trivial fun w S => ?_
  unfold ref25_Neg.f at H0
  refine J.seq ?_
  refine J.region ?_
  refine JL.box [.int .i64 a1.Re, .int .i64 a1.Im, .int .i64 a1.Den] fun b2 => ?_
  refine JL.alloc [.int .i64 0, .int .i64 0, .int .i64 0] fun b3 => ?_
  refine JL.nil ?_
  refine JQ.then_normal ?_
  refine JQ.sub [(1, .pointer (some ⟨b2, 0, none⟩)), (2, .pointer (some ⟨b3, 0, none⟩))] ?_
  refine J.seq ?_
  refine J.region ?_
  refine JL.pur (.pointer (some ⟨b2, 0, none⟩)) (some 3) ?_
  refine JL.val (.int .i64 a1.Re) (some 4) (yields_load_box 0 0 (holds_box b2 23 [.int .i64 a1.Re, .int .i64 a1.Im, .int .i64 a1.Den]) tyAgg_2) ?_
  refine JL.pur (.int .i64 (w64 (0 - a1.Re))) (some 5) ?_
  refine JL.pur (.pointer (some ⟨b2, 1, none⟩)) (some 6) ?_
  refine JL.val (.int .i64 a1.Im) (some 7) (yields_load_box 0 1 (holds_box b2 23 [.int .i64 a1.Re, .int .i64 a1.Im, .int .i64 a1.Den]) tyAgg_2) ?_
  refine JL.pur (.int .i64 (w64 (0 - a1.Im))) (some 8) ?_
  refine JL.pur (.pointer (some ⟨b2, 2, none⟩)) (some 9) ?_
  refine JL.val (.int .i64 a1.Den) (some 10) (yields_load_box 0 2 (holds_box b2 23 [.int .i64 a1.Re, .int .i64 a1.Im, .int .i64 a1.Den]) tyAgg_2) ?_
  refine JL.pur (.agg #[.int .i64 (w64 (0 - a1.Re)), .int .i64 (w64 (0 - a1.Im)), .int .i64 a1.Den]) (some 11) ?_
  refine JL.store 1 b3 0 23 [.int .i64 0, .int .i64 0, .int .i64 0] [.int .i64 (w64 (0 - a1.Re)), .int .i64 (w64 (0 - a1.Im)), .int .i64 a1.Den] tySize_23 ?_
  refine JL.nil ?_
  refine JQ.then_normal ?_
  refine JQ.sub [(2, .pointer (some ⟨b3, 0, none⟩))] ?_
  refine JQ.mask [At.box b3 23 [.int .i64 (w64 (0 - a1.Re)), .int .i64 (w64 (0 - a1.Im)), .int .i64 a1.Den]] [false, true] ?_
  refine J.ret ?_
  obtain rfl := Option.some.inj H0
  exact JQ.done' (rs := [.cell 2 23]) (vs := [.agg #[.int .i64 (w64 (0 - a1.Re)), .int .i64 (w64 (0 - a1.Im)), .int .i64 a1.Den]]) [] (.inr rfl) ⟨⟨b3, 0, _, _, by kernel_rfl, by kernel_rfl, holds_box b3 23 [.int .i64 (w64 (0 - a1.Re)), .int .i64 (w64 (0 - a1.Im)), .int .i64 a1.Den], .inl ⟨tyAgg_23, tySize_23, rfl⟩⟩, trivial⟩ (fun _ h => Heap.to (Heap.pick [] (by decide) h)) ⟨rfl, rfl⟩

theorem ref25_Add.ok (a1 : Cx) (b2 : Cx) (r : (Cx × Int)) (H0 : ref25_Add.f a1 b2 = some r) :
    Does Try.prog 42 [.agg #[.int .i64 a1.Re, .int .i64 a1.Im, .int .i64 a1.Den], .agg #[.int .i64 b2.Re, .int .i64 b2.Im, .int .i64 b2.Den]].toArray [] [] false (fun v Δ => v = .tuple #[.agg #[.int .i64 r.1.Re, .int .i64 r.1.Im, .int .i64 r.1.Den], .int .i64 r.2] ∧ Δ = []) := by
  refine Does.body (vs := [.agg #[.int .i64 a1.Re, .int .i64 a1.Im, .int .i64 a1.Den], .agg #[.int .i64 b2.Re, .int .i64 b2.Im, .int .i64 b2.Den]]) Try.func42 rfl trivial trivial fun w S => ?_
  unfold ref25_Add.f at H0
  refine J.seq ?_
  refine J.region ?_
  refine JL.box [.int .i64 a1.Re, .int .i64 a1.Im, .int .i64 a1.Den] fun b3 => ?_
  refine JL.box [.int .i64 b2.Re, .int .i64 b2.Im, .int .i64 b2.Den] fun b4 => ?_
  refine JL.alloc [.int .i64 0, .int .i64 0, .int .i64 0] fun b5 => ?_
  refine JL.as (.int .i64 0) ?_
  refine JL.nil ?_
  refine JQ.then_normal ?_
  refine JQ.sub [(2, .pointer (some ⟨b3, 0, none⟩)), (3, .pointer (some ⟨b4, 0, none⟩)), (4, .pointer (some ⟨b5, 0, none⟩))] ?_
  refine J.seq ?_
  refine J.seq ?_
  refine J.region ?_
  refine JL.val (.agg #[.int .i64 a1.Re, .int .i64 a1.Im, .int .i64 a1.Den]) (some 6) (yields_load_boxes 0 0 [.int .i64 a1.Re, .int .i64 a1.Im, .int .i64 a1.Den] (holds_box b3 23 [.int .i64 a1.Re, .int .i64 a1.Im, .int .i64 a1.Den]) tyAgg_23 tySize_23) ?_
  refine JL.val (.agg #[.int .i64 b2.Re, .int .i64 b2.Im, .int .i64 b2.Den]) (some 7) (yields_load_boxes 1 0 [.int .i64 b2.Re, .int .i64 b2.Im, .int .i64 b2.Den] (holds_box b4 23 [.int .i64 b2.Re, .int .i64 b2.Im, .int .i64 b2.Den]) tyAgg_23 tySize_23) ?_
  obtain ⟨t6, hc7, H0⟩ := bind_some H0
  refine JL.call [] [] [] (ref25_Both.ok a1 b2 _ hc7) trivial ?_
  rintro _ _ ⟨rfl, rfl⟩
  refine JL.pur (.bool (!decide (t6 = 0))) (some 9) ?_
  refine JL.nil ?_
  refine JQ.then_normal ?_
  refine JQ.sub [(2, .pointer (some ⟨b3, 0, none⟩)), (3, .pointer (some ⟨b4, 0, none⟩)), (4, .pointer (some ⟨b5, 0, none⟩)), (9, .bool (!decide (t6 = 0)))] ?_
  rcases ite_cases H0 with ⟨h8, H0⟩ | ⟨h8, H0⟩
  · refine J.cond_true h8 ?_
    refine J.seq ?_
    refine J.region ?_
    refine JL.pur (.agg #[.int .i64 0, .int .i64 0, .int .i64 0]) (some 10) ?_
    refine JL.store 2 b5 0 23 [.int .i64 0, .int .i64 0, .int .i64 0] [.int .i64 0, .int .i64 0, .int .i64 0] tySize_23 ?_
    refine JL.as (.int .i64 8) ?_
    refine JL.nil ?_
    refine JQ.then_normal ?_
    refine JQ.sub [(4, .pointer (some ⟨b5, 0, none⟩)), (5, .int .i64 8)] ?_
    refine JQ.mask [At.box b5 23 [.int .i64 0, .int .i64 0, .int .i64 0]] [false, false, true] ?_
    refine J.ret ?_
    refine JQ.then_ret ?_
    obtain rfl := Option.some.inj H0
    exact JQ.done' (rs := [.cell 4 23, .tmp 5]) (vs := [.agg #[.int .i64 0, .int .i64 0, .int .i64 0], .int .i64 8]) [] (.inr rfl) ⟨⟨b5, 0, _, _, by kernel_rfl, by kernel_rfl, holds_box b5 23 [.int .i64 0, .int .i64 0, .int .i64 0], .inl ⟨tyAgg_23, tySize_23, rfl⟩⟩, by kernel_rfl, trivial⟩ (fun _ h => Heap.to (Heap.pick [] (by decide) h)) ⟨rfl, rfl⟩
  · refine J.cond_false h8 ?_
    refine J.skip ?_
    refine JQ.then_normal ?_
    refine JQ.sub [(2, .pointer (some ⟨b3, 0, none⟩)), (3, .pointer (some ⟨b4, 0, none⟩)), (4, .pointer (some ⟨b5, 0, none⟩))] ?_
    refine J.seq ?_
    refine J.region ?_
    refine JL.pur (.pointer (some ⟨b3, 0, none⟩)) (some 11) ?_
    refine JL.val (.int .i64 a1.Re) (some 12) (yields_load_box 0 0 (holds_box b3 23 [.int .i64 a1.Re, .int .i64 a1.Im, .int .i64 a1.Den]) tyAgg_2) ?_
    refine JL.pur (.pointer (some ⟨b4, 2, none⟩)) (some 13) ?_
    refine JL.val (.int .i64 b2.Den) (some 14) (yields_load_box 1 2 (holds_box b4 23 [.int .i64 b2.Re, .int .i64 b2.Im, .int .i64 b2.Den]) tyAgg_2) ?_
    refine JL.pur (.int .i64 (w64 (a1.Re * b2.Den))) (some 15) ?_
    refine JL.pur (.pointer (some ⟨b4, 0, none⟩)) (some 16) ?_
    refine JL.val (.int .i64 b2.Re) (some 17) (yields_load_box 1 0 (holds_box b4 23 [.int .i64 b2.Re, .int .i64 b2.Im, .int .i64 b2.Den]) tyAgg_2) ?_
    refine JL.pur (.pointer (some ⟨b3, 2, none⟩)) (some 18) ?_
    refine JL.val (.int .i64 a1.Den) (some 19) (yields_load_box 0 2 (holds_box b3 23 [.int .i64 a1.Re, .int .i64 a1.Im, .int .i64 a1.Den]) tyAgg_2) ?_
    refine JL.pur (.int .i64 (w64 (b2.Re * a1.Den))) (some 20) ?_
    refine JL.pur (.int .i64 (w64 ((w64 (a1.Re * b2.Den)) + (w64 (b2.Re * a1.Den))))) (some 21) ?_
    refine JL.pur (.pointer (some ⟨b3, 1, none⟩)) (some 22) ?_
    refine JL.val (.int .i64 a1.Im) (some 23) (yields_load_box 0 1 (holds_box b3 23 [.int .i64 a1.Re, .int .i64 a1.Im, .int .i64 a1.Den]) tyAgg_2) ?_
    refine JL.pur (.pointer (some ⟨b4, 2, none⟩)) (some 24) ?_
    refine JL.val (.int .i64 b2.Den) (some 25) (yields_load_box 1 2 (holds_box b4 23 [.int .i64 b2.Re, .int .i64 b2.Im, .int .i64 b2.Den]) tyAgg_2) ?_
    refine JL.pur (.int .i64 (w64 (a1.Im * b2.Den))) (some 26) ?_
    refine JL.pur (.pointer (some ⟨b4, 1, none⟩)) (some 27) ?_
    refine JL.val (.int .i64 b2.Im) (some 28) (yields_load_box 1 1 (holds_box b4 23 [.int .i64 b2.Re, .int .i64 b2.Im, .int .i64 b2.Den]) tyAgg_2) ?_
    refine JL.pur (.pointer (some ⟨b3, 2, none⟩)) (some 29) ?_
    refine JL.val (.int .i64 a1.Den) (some 30) (yields_load_box 0 2 (holds_box b3 23 [.int .i64 a1.Re, .int .i64 a1.Im, .int .i64 a1.Den]) tyAgg_2) ?_
    refine JL.pur (.int .i64 (w64 (b2.Im * a1.Den))) (some 31) ?_
    refine JL.pur (.int .i64 (w64 ((w64 (a1.Im * b2.Den)) + (w64 (b2.Im * a1.Den))))) (some 32) ?_
    refine JL.pur (.pointer (some ⟨b3, 2, none⟩)) (some 33) ?_
    refine JL.val (.int .i64 a1.Den) (some 34) (yields_load_box 0 2 (holds_box b3 23 [.int .i64 a1.Re, .int .i64 a1.Im, .int .i64 a1.Den]) tyAgg_2) ?_
    refine JL.pur (.pointer (some ⟨b4, 2, none⟩)) (some 35) ?_
    refine JL.val (.int .i64 b2.Den) (some 36) (yields_load_box 1 2 (holds_box b4 23 [.int .i64 b2.Re, .int .i64 b2.Im, .int .i64 b2.Den]) tyAgg_2) ?_
    refine JL.pur (.int .i64 (w64 (a1.Den * b2.Den))) (some 37) ?_
    obtain ⟨t9, hc10, H0⟩ := bind_some H0
    refine JL.call [] [] [] (ref25_made.ok (w64 ((w64 (a1.Re * b2.Den)) + (w64 (b2.Re * a1.Den)))) (w64 ((w64 (a1.Im * b2.Den)) + (w64 (b2.Im * a1.Den)))) (w64 (a1.Den * b2.Den)) _ hc10) trivial ?_
    rintro _ _ ⟨rfl, rfl⟩
    refine JL.pur (.agg #[.int .i64 t9.1.Re, .int .i64 t9.1.Im, .int .i64 t9.1.Den]) (some 39) ?_
    refine JL.pur (.int .i64 t9.2) (some 40) ?_
    refine JL.store 2 b5 0 23 [.int .i64 0, .int .i64 0, .int .i64 0] [.int .i64 t9.1.Re, .int .i64 t9.1.Im, .int .i64 t9.1.Den] tySize_23 ?_
    refine JL.as (.int .i64 t9.2) ?_
    refine JL.nil ?_
    refine JQ.then_normal ?_
    refine JQ.sub [(4, .pointer (some ⟨b5, 0, none⟩)), (5, .int .i64 t9.2)] ?_
    refine JQ.mask [At.box b5 23 [.int .i64 t9.1.Re, .int .i64 t9.1.Im, .int .i64 t9.1.Den]] [false, false, true] ?_
    refine J.ret ?_
    obtain rfl := Option.some.inj H0
    exact JQ.done' (rs := [.cell 4 23, .tmp 5]) (vs := [.agg #[.int .i64 t9.1.Re, .int .i64 t9.1.Im, .int .i64 t9.1.Den], .int .i64 t9.2]) [] (.inr rfl) ⟨⟨b5, 0, _, _, by kernel_rfl, by kernel_rfl, holds_box b5 23 [.int .i64 t9.1.Re, .int .i64 t9.1.Im, .int .i64 t9.1.Den], .inl ⟨tyAgg_23, tySize_23, rfl⟩⟩, by kernel_rfl, trivial⟩ (fun _ h => Heap.to (Heap.pick [] (by decide) h)) ⟨rfl, rfl⟩

theorem ref25_Sub.ok (a1 : Cx) (b2 : Cx) (r : (Cx × Int)) (H0 : ref25_Sub.f a1 b2 = some r) :
    Does Try.prog 41 [.agg #[.int .i64 a1.Re, .int .i64 a1.Im, .int .i64 a1.Den], .agg #[.int .i64 b2.Re, .int .i64 b2.Im, .int .i64 b2.Den]].toArray [] [] false (fun v Δ => v = .tuple #[.agg #[.int .i64 r.1.Re, .int .i64 r.1.Im, .int .i64 r.1.Den], .int .i64 r.2] ∧ Δ = []) := by
  refine Does.body (vs := [.agg #[.int .i64 a1.Re, .int .i64 a1.Im, .int .i64 a1.Den], .agg #[.int .i64 b2.Re, .int .i64 b2.Im, .int .i64 b2.Den]]) Try.func41 rfl trivial trivial fun w S => ?_
  unfold ref25_Sub.f at H0
  refine J.seq ?_
  refine J.region ?_
  refine JL.box [.int .i64 a1.Re, .int .i64 a1.Im, .int .i64 a1.Den] fun b3 => ?_
  refine JL.box [.int .i64 b2.Re, .int .i64 b2.Im, .int .i64 b2.Den] fun b4 => ?_
  refine JL.alloc [.int .i64 0, .int .i64 0, .int .i64 0] fun b5 => ?_
  refine JL.as (.int .i64 0) ?_
  refine JL.nil ?_
  refine JQ.then_normal ?_
  refine JQ.sub [(2, .pointer (some ⟨b3, 0, none⟩)), (3, .pointer (some ⟨b4, 0, none⟩)), (4, .pointer (some ⟨b5, 0, none⟩))] ?_
  refine J.seq ?_
  refine J.seq ?_
  refine J.region ?_
  refine JL.val (.agg #[.int .i64 a1.Re, .int .i64 a1.Im, .int .i64 a1.Den]) (some 6) (yields_load_boxes 0 0 [.int .i64 a1.Re, .int .i64 a1.Im, .int .i64 a1.Den] (holds_box b3 23 [.int .i64 a1.Re, .int .i64 a1.Im, .int .i64 a1.Den]) tyAgg_23 tySize_23) ?_
  refine JL.val (.agg #[.int .i64 b2.Re, .int .i64 b2.Im, .int .i64 b2.Den]) (some 7) (yields_load_boxes 1 0 [.int .i64 b2.Re, .int .i64 b2.Im, .int .i64 b2.Den] (holds_box b4 23 [.int .i64 b2.Re, .int .i64 b2.Im, .int .i64 b2.Den]) tyAgg_23 tySize_23) ?_
  obtain ⟨t6, hc7, H0⟩ := bind_some H0
  refine JL.call [] [] [] (ref25_Both.ok a1 b2 _ hc7) trivial ?_
  rintro _ _ ⟨rfl, rfl⟩
  refine JL.pur (.bool (!decide (t6 = 0))) (some 9) ?_
  refine JL.nil ?_
  refine JQ.then_normal ?_
  refine JQ.sub [(2, .pointer (some ⟨b3, 0, none⟩)), (3, .pointer (some ⟨b4, 0, none⟩)), (4, .pointer (some ⟨b5, 0, none⟩)), (9, .bool (!decide (t6 = 0)))] ?_
  rcases ite_cases H0 with ⟨h8, H0⟩ | ⟨h8, H0⟩
  · refine J.cond_true h8 ?_
    refine J.seq ?_
    refine J.region ?_
    refine JL.pur (.agg #[.int .i64 0, .int .i64 0, .int .i64 0]) (some 10) ?_
    refine JL.store 2 b5 0 23 [.int .i64 0, .int .i64 0, .int .i64 0] [.int .i64 0, .int .i64 0, .int .i64 0] tySize_23 ?_
    refine JL.as (.int .i64 8) ?_
    refine JL.nil ?_
    refine JQ.then_normal ?_
    refine JQ.sub [(4, .pointer (some ⟨b5, 0, none⟩)), (5, .int .i64 8)] ?_
    refine JQ.mask [At.box b5 23 [.int .i64 0, .int .i64 0, .int .i64 0]] [false, false, true] ?_
    refine J.ret ?_
    refine JQ.then_ret ?_
    obtain rfl := Option.some.inj H0
    exact JQ.done' (rs := [.cell 4 23, .tmp 5]) (vs := [.agg #[.int .i64 0, .int .i64 0, .int .i64 0], .int .i64 8]) [] (.inr rfl) ⟨⟨b5, 0, _, _, by kernel_rfl, by kernel_rfl, holds_box b5 23 [.int .i64 0, .int .i64 0, .int .i64 0], .inl ⟨tyAgg_23, tySize_23, rfl⟩⟩, by kernel_rfl, trivial⟩ (fun _ h => Heap.to (Heap.pick [] (by decide) h)) ⟨rfl, rfl⟩
  · refine J.cond_false h8 ?_
    refine J.skip ?_
    refine JQ.then_normal ?_
    refine JQ.sub [(2, .pointer (some ⟨b3, 0, none⟩)), (3, .pointer (some ⟨b4, 0, none⟩)), (4, .pointer (some ⟨b5, 0, none⟩))] ?_
    refine J.seq ?_
    refine J.drawT 6 ?_
    refine QL.val (.agg #[.int .i64 a1.Re, .int .i64 a1.Im, .int .i64 a1.Den]) (some 11) (yields_load_boxes 0 0 [.int .i64 a1.Re, .int .i64 a1.Im, .int .i64 a1.Den] (holds_box b3 23 [.int .i64 a1.Re, .int .i64 a1.Im, .int .i64 a1.Den]) tyAgg_23 tySize_23) ?_
    refine QL.val (.agg #[.int .i64 b2.Re, .int .i64 b2.Im, .int .i64 b2.Den]) (some 12) (yields_load_boxes 1 0 [.int .i64 b2.Re, .int .i64 b2.Im, .int .i64 b2.Den] (holds_box b4 23 [.int .i64 b2.Re, .int .i64 b2.Im, .int .i64 b2.Den]) tyAgg_23 tySize_23) ?_
    obtain ⟨t9, hc10, H0⟩ := bind_some H0
    refine QL.call [] [] (ref25_Neg.ok b2 _ hc10) trivial ?_
    obtain ⟨t11, hc12, H0⟩ := bind_some H0
    refine QL.call [] [] (ref25_Add.ok a1 t9 _ hc12) trivial ?_
    refine QL.pur (.agg #[.int .i64 t11.1.Re, .int .i64 t11.1.Im, .int .i64 t11.1.Den]) (some 15) ?_
    refine QL.pur (.int .i64 t11.2) (some 16) ?_
    refine QL.nil ?_
    refine JA.nil ?_
    refine JL.store 2 b5 0 23 [.int .i64 0, .int .i64 0, .int .i64 0] [.int .i64 t11.1.Re, .int .i64 t11.1.Im, .int .i64 t11.1.Den] tySize_23 ?_
    refine JL.as (.int .i64 t11.2) ?_
    refine JL.nil ?_
    refine JQ.then_normal ?_
    refine JQ.sub [(4, .pointer (some ⟨b5, 0, none⟩)), (5, .int .i64 t11.2)] ?_
    refine JQ.mask [At.box b5 23 [.int .i64 t11.1.Re, .int .i64 t11.1.Im, .int .i64 t11.1.Den]] [false, false, true] ?_
    refine J.ret ?_
    obtain rfl := Option.some.inj H0
    exact JQ.done' (rs := [.cell 4 23, .tmp 5]) (vs := [.agg #[.int .i64 t11.1.Re, .int .i64 t11.1.Im, .int .i64 t11.1.Den], .int .i64 t11.2]) [] (.inr rfl) ⟨⟨b5, 0, _, _, by kernel_rfl, by kernel_rfl, holds_box b5 23 [.int .i64 t11.1.Re, .int .i64 t11.1.Im, .int .i64 t11.1.Den], .inl ⟨tyAgg_23, tySize_23, rfl⟩⟩, by kernel_rfl, trivial⟩ (fun _ h => Heap.to (Heap.pick [] (by decide) h)) ⟨rfl, rfl⟩

theorem ref33_Det.ok (a1 : (A4 Cx)) (r : (Cx × Int)) (H0 : ref33_Det.f a1 = some r) :
    Does Try.prog 14 [.agg #[.int .i64 a1.e0.Re, .int .i64 a1.e0.Im, .int .i64 a1.e0.Den, .int .i64 a1.e1.Re, .int .i64 a1.e1.Im, .int .i64 a1.e1.Den, .int .i64 a1.e2.Re, .int .i64 a1.e2.Im, .int .i64 a1.e2.Den, .int .i64 a1.e3.Re, .int .i64 a1.e3.Im, .int .i64 a1.e3.Den]].toArray [] [] false (fun v Δ => v = .tuple #[.agg #[.int .i64 r.1.Re, .int .i64 r.1.Im, .int .i64 r.1.Den], .int .i64 r.2] ∧ Δ = []) := by
  refine Does.body (vs := [.agg #[.int .i64 a1.e0.Re, .int .i64 a1.e0.Im, .int .i64 a1.e0.Den, .int .i64 a1.e1.Re, .int .i64 a1.e1.Im, .int .i64 a1.e1.Den, .int .i64 a1.e2.Re, .int .i64 a1.e2.Im, .int .i64 a1.e2.Den, .int .i64 a1.e3.Re, .int .i64 a1.e3.Im, .int .i64 a1.e3.Den]]) Try.func14 rfl trivial trivial fun w S => ?_
  unfold ref33_Det.f at H0
  refine J.seq ?_
  refine J.region ?_
  refine JL.box [.int .i64 a1.e0.Re, .int .i64 a1.e0.Im, .int .i64 a1.e0.Den, .int .i64 a1.e1.Re, .int .i64 a1.e1.Im, .int .i64 a1.e1.Den, .int .i64 a1.e2.Re, .int .i64 a1.e2.Im, .int .i64 a1.e2.Den, .int .i64 a1.e3.Re, .int .i64 a1.e3.Im, .int .i64 a1.e3.Den] fun b2 => ?_
  refine JL.alloc [.int .i64 0, .int .i64 0, .int .i64 0] fun b3 => ?_
  refine JL.as (.int .i64 0) ?_
  refine JL.nil ?_
  refine JQ.then_normal ?_
  refine JQ.sub [(1, .pointer (some ⟨b2, 0, none⟩)), (2, .pointer (some ⟨b3, 0, none⟩))] ?_
  refine J.seq ?_
  refine J.seq ?_
  refine J.region ?_
  refine JL.val (.agg #[.int .i64 a1.e0.Re, .int .i64 a1.e0.Im, .int .i64 a1.e0.Den, .int .i64 a1.e1.Re, .int .i64 a1.e1.Im, .int .i64 a1.e1.Den, .int .i64 a1.e2.Re, .int .i64 a1.e2.Im, .int .i64 a1.e2.Den, .int .i64 a1.e3.Re, .int .i64 a1.e3.Im, .int .i64 a1.e3.Den]) (some 9) (yields_load_boxes 0 0 [.int .i64 a1.e0.Re, .int .i64 a1.e0.Im, .int .i64 a1.e0.Den, .int .i64 a1.e1.Re, .int .i64 a1.e1.Im, .int .i64 a1.e1.Den, .int .i64 a1.e2.Re, .int .i64 a1.e2.Im, .int .i64 a1.e2.Den, .int .i64 a1.e3.Re, .int .i64 a1.e3.Im, .int .i64 a1.e3.Den] (holds_box b2 25 [.int .i64 a1.e0.Re, .int .i64 a1.e0.Im, .int .i64 a1.e0.Den, .int .i64 a1.e1.Re, .int .i64 a1.e1.Im, .int .i64 a1.e1.Den, .int .i64 a1.e2.Re, .int .i64 a1.e2.Im, .int .i64 a1.e2.Den, .int .i64 a1.e3.Re, .int .i64 a1.e3.Im, .int .i64 a1.e3.Den]) tyAgg_25 tySize_25) ?_
  obtain ⟨t4, hc5, H0⟩ := bind_some H0
  refine JL.call [] [] [] (ref33_Valid.ok a1 _ hc5) trivial ?_
  rintro _ _ ⟨rfl, rfl⟩
  refine JL.pur (.bool (!t4)) (some 11) ?_
  refine JL.nil ?_
  refine JQ.then_normal ?_
  refine JQ.sub [(1, .pointer (some ⟨b2, 0, none⟩)), (2, .pointer (some ⟨b3, 0, none⟩)), (11, .bool (!t4))] ?_
  rcases ite_cases H0 with ⟨h6, H0⟩ | ⟨h6, H0⟩
  · refine J.cond_true h6 ?_
    refine J.seq ?_
    refine J.region ?_
    refine JL.pur (.agg #[.int .i64 0, .int .i64 0, .int .i64 0]) (some 12) ?_
    refine JL.store 1 b3 0 23 [.int .i64 0, .int .i64 0, .int .i64 0] [.int .i64 0, .int .i64 0, .int .i64 0] tySize_23 ?_
    refine JL.as (.int .i64 8) ?_
    refine JL.nil ?_
    refine JQ.then_normal ?_
    refine JQ.sub [(2, .pointer (some ⟨b3, 0, none⟩)), (3, .int .i64 8)] ?_
    refine JQ.mask [At.box b3 23 [.int .i64 0, .int .i64 0, .int .i64 0]] [false, true] ?_
    refine J.ret ?_
    refine JQ.then_ret ?_
    obtain rfl := Option.some.inj H0
    exact JQ.done' (rs := [.cell 2 23, .tmp 3]) (vs := [.agg #[.int .i64 0, .int .i64 0, .int .i64 0], .int .i64 8]) [] (.inr rfl) ⟨⟨b3, 0, _, _, by kernel_rfl, by kernel_rfl, holds_box b3 23 [.int .i64 0, .int .i64 0, .int .i64 0], .inl ⟨tyAgg_23, tySize_23, rfl⟩⟩, by kernel_rfl, trivial⟩ (fun _ h => Heap.to (Heap.pick [] (by decide) h)) ⟨rfl, rfl⟩
  · refine J.cond_false h6 ?_
    refine J.skip ?_
    refine JQ.then_normal ?_
    refine JQ.sub [(1, .pointer (some ⟨b2, 0, none⟩)), (2, .pointer (some ⟨b3, 0, none⟩))] ?_
    refine J.seq ?_
    refine J.region ?_
    refine JL.pur (.pointer (some ⟨b2, 0, none⟩)) (some 14) ?_
    refine JL.val (.agg #[.int .i64 a1.e0.Re, .int .i64 a1.e0.Im, .int .i64 a1.e0.Den]) (some 15) (yields_load_boxes 0 0 [.int .i64 a1.e0.Re, .int .i64 a1.e0.Im, .int .i64 a1.e0.Den] (holds_box b2 25 [.int .i64 a1.e0.Re, .int .i64 a1.e0.Im, .int .i64 a1.e0.Den, .int .i64 a1.e1.Re, .int .i64 a1.e1.Im, .int .i64 a1.e1.Den, .int .i64 a1.e2.Re, .int .i64 a1.e2.Im, .int .i64 a1.e2.Den, .int .i64 a1.e3.Re, .int .i64 a1.e3.Im, .int .i64 a1.e3.Den]) tyAgg_23 tySize_23) ?_
    refine JL.pur (.pointer (some ⟨b2, 9, none⟩)) (some 16) ?_
    refine JL.val (.agg #[.int .i64 a1.e3.Re, .int .i64 a1.e3.Im, .int .i64 a1.e3.Den]) (some 17) (yields_load_boxes 0 9 [.int .i64 a1.e3.Re, .int .i64 a1.e3.Im, .int .i64 a1.e3.Den] (holds_box b2 25 [.int .i64 a1.e0.Re, .int .i64 a1.e0.Im, .int .i64 a1.e0.Den, .int .i64 a1.e1.Re, .int .i64 a1.e1.Im, .int .i64 a1.e1.Den, .int .i64 a1.e2.Re, .int .i64 a1.e2.Im, .int .i64 a1.e2.Den, .int .i64 a1.e3.Re, .int .i64 a1.e3.Im, .int .i64 a1.e3.Den]) tyAgg_23 tySize_23) ?_
    obtain ⟨t7, hc8, H0⟩ := bind_some H0
    refine JL.call [] [] [] (ref25_Mul.ok a1.e0 a1.e3 _ hc8) trivial ?_
    rintro _ _ ⟨rfl, rfl⟩
    refine JL.mv (.tuple #[.agg #[.int .i64 t7.1.Re, .int .i64 t7.1.Im, .int .i64 t7.1.Den], .int .i64 t7.2]) ?_
    refine JL.pur (.agg #[.int .i64 t7.1.Re, .int .i64 t7.1.Im, .int .i64 t7.1.Den]) (some 19) ?_
    refine JL.pur (.int .i64 t7.2) (some 20) ?_
    refine JL.alloc [.int .i64 0, .int .i64 0, .int .i64 0] fun b9 => ?_
    refine JL.store 2 b9 0 23 [.int .i64 0, .int .i64 0, .int .i64 0] [.int .i64 t7.1.Re, .int .i64 t7.1.Im, .int .i64 t7.1.Den] tySize_23 ?_
    refine JL.as (.int .i64 t7.2) ?_
    refine JL.nil ?_
    refine JQ.then_normal ?_
    refine JQ.sub [(1, .pointer (some ⟨b2, 0, none⟩)), (2, .pointer (some ⟨b3, 0, none⟩)), (4, .pointer (some ⟨b9, 0, none⟩)), (5, .int .i64 t7.2)] ?_
    refine J.seq ?_
    refine J.region ?_
    refine JL.pur (.pointer (some ⟨b2, 3, none⟩)) (some 22) ?_
    refine JL.val (.agg #[.int .i64 a1.e1.Re, .int .i64 a1.e1.Im, .int .i64 a1.e1.Den]) (some 23) (yields_load_boxes 0 3 [.int .i64 a1.e1.Re, .int .i64 a1.e1.Im, .int .i64 a1.e1.Den] (holds_box b2 25 [.int .i64 a1.e0.Re, .int .i64 a1.e0.Im, .int .i64 a1.e0.Den, .int .i64 a1.e1.Re, .int .i64 a1.e1.Im, .int .i64 a1.e1.Den, .int .i64 a1.e2.Re, .int .i64 a1.e2.Im, .int .i64 a1.e2.Den, .int .i64 a1.e3.Re, .int .i64 a1.e3.Im, .int .i64 a1.e3.Den]) tyAgg_23 tySize_23) ?_
    refine JL.pur (.pointer (some ⟨b2, 6, none⟩)) (some 24) ?_
    refine JL.val (.agg #[.int .i64 a1.e2.Re, .int .i64 a1.e2.Im, .int .i64 a1.e2.Den]) (some 25) (yields_load_boxes 0 6 [.int .i64 a1.e2.Re, .int .i64 a1.e2.Im, .int .i64 a1.e2.Den] (holds_box b2 25 [.int .i64 a1.e0.Re, .int .i64 a1.e0.Im, .int .i64 a1.e0.Den, .int .i64 a1.e1.Re, .int .i64 a1.e1.Im, .int .i64 a1.e1.Den, .int .i64 a1.e2.Re, .int .i64 a1.e2.Im, .int .i64 a1.e2.Den, .int .i64 a1.e3.Re, .int .i64 a1.e3.Im, .int .i64 a1.e3.Den]) tyAgg_23 tySize_23) ?_
    obtain ⟨t10, hc11, H0⟩ := bind_some H0
    refine JL.call [] [] [] (ref25_Mul.ok a1.e1 a1.e2 _ hc11) trivial ?_
    rintro _ _ ⟨rfl, rfl⟩
    refine JL.mv (.tuple #[.agg #[.int .i64 t10.1.Re, .int .i64 t10.1.Im, .int .i64 t10.1.Den], .int .i64 t10.2]) ?_
    refine JL.pur (.agg #[.int .i64 t10.1.Re, .int .i64 t10.1.Im, .int .i64 t10.1.Den]) (some 27) ?_
    refine JL.pur (.int .i64 t10.2) (some 28) ?_
    refine JL.alloc [.int .i64 0, .int .i64 0, .int .i64 0] fun b12 => ?_
    refine JL.store 3 b12 0 23 [.int .i64 0, .int .i64 0, .int .i64 0] [.int .i64 t10.1.Re, .int .i64 t10.1.Im, .int .i64 t10.1.Den] tySize_23 ?_
    refine JL.as (.int .i64 t10.2) ?_
    refine JL.nil ?_
    refine JQ.then_normal ?_
    refine JQ.sub [(2, .pointer (some ⟨b3, 0, none⟩)), (4, .pointer (some ⟨b9, 0, none⟩)), (5, .int .i64 t7.2), (6, .pointer (some ⟨b12, 0, none⟩)), (7, .int .i64 t10.2)] ?_
    refine JQ.mask [At.box b3 23 [.int .i64 0, .int .i64 0, .int .i64 0], At.box b9 23 [.int .i64 t7.1.Re, .int .i64 t7.1.Im, .int .i64 t7.1.Den], At.box b12 23 [.int .i64 t10.1.Re, .int .i64 t10.1.Im, .int .i64 t10.1.Den]] [false, true, true, true] ?_
    refine J.seq ?_
    refine J.join (T := Bool) (G := Unit) (fun t => ref33_Det.k1 t7 t10 t = some r) (fun t g => [(2, .pointer (some ⟨b3, 0, none⟩)), (4, .pointer (some ⟨b9, 0, none⟩)), (6, .pointer (some ⟨b12, 0, none⟩)), (34, .bool t)]) (fun t g => [At.box b3 23 [.int .i64 0, .int .i64 0, .int .i64 0], At.box b9 23 [.int .i64 t7.1.Re, .int .i64 t7.1.Im, .int .i64 t7.1.Den], At.box b12 23 [.int .i64 t10.1.Re, .int .i64 t10.1.Im, .int .i64 t10.1.Den]]) ?_ ?_
    · refine J.region ?_
      refine JL.mv (.int .i64 t7.2) ?_
      refine JL.pur (.bool (!decide (t7.2 = 0))) (some 30) ?_
      refine JL.mv (.bool (!decide (t7.2 = 0))) ?_
      rcases ite_cases H0 with ⟨h20, H0⟩ | ⟨h20, H0⟩
      · refine JL.off 2 31 false (some 32) h20 ?_
        refine JL.off 2 31 false (some 33) h20 ?_
        refine JL.val (.bool true) (some 34) (gives_pickT h20) ?_
        refine JL.nil ?_
        refine JQ.then_normal ?_
        exact JQ.meet true () H0 (fun _ h => Heap.to h)
      · refine JL.on 2 31 h20 ?_
        refine JL.mv (.int .i64 t10.2) ?_
        refine JL.on 2 31 h20 ?_
        refine JL.pur (.bool (!decide (t10.2 = 0))) (some 33) ?_
        refine JL.val (.bool (!decide (t10.2 = 0))) (some 34) (gives_pickF h20) ?_
        refine JL.nil ?_
        refine JQ.then_normal ?_
        exact JQ.meet (!decide (t10.2 = 0)) () H0 (fun _ h => Heap.to h)
    · clear H0
      rintro x14 ⟨⟩ H0
      replace H0 : ref33_Det.k1 t7 t10 x14 = some r := H0
      unfold ref33_Det.k1 at H0
      refine JQ.sub [(2, .pointer (some ⟨b3, 0, none⟩)), (4, .pointer (some ⟨b9, 0, none⟩)), (6, .pointer (some ⟨b12, 0, none⟩)), (34, .bool x14)] ?_
      refine JQ.turn (Δ' := [At.box b3 23 [.int .i64 0, .int .i64 0, .int .i64 0], At.box b9 23 [.int .i64 t7.1.Re, .int .i64 t7.1.Im, .int .i64 t7.1.Den], At.box b12 23 [.int .i64 t10.1.Re, .int .i64 t10.1.Im, .int .i64 t10.1.Den]]) (fun _ h => h.to) ?_
      rcases ite_cases H0 with ⟨h15, H0⟩ | ⟨h15, H0⟩
      · refine J.cond_true h15 ?_
        refine J.seq ?_
        refine J.region ?_
        refine JL.pur (.agg #[.int .i64 0, .int .i64 0, .int .i64 0]) (some 35) ?_
        refine JL.store 0 b3 0 23 [.int .i64 0, .int .i64 0, .int .i64 0] [.int .i64 0, .int .i64 0, .int .i64 0] tySize_23 ?_
        refine JL.as (.int .i64 16) ?_
        refine JL.nil ?_
        refine JQ.then_normal ?_
        refine JQ.sub [(2, .pointer (some ⟨b3, 0, none⟩)), (3, .int .i64 16)] ?_
        refine JQ.mask [At.box b3 23 [.int .i64 0, .int .i64 0, .int .i64 0]] [true, false, false] ?_
        refine J.ret ?_
        refine JQ.then_ret ?_
        obtain rfl := Option.some.inj H0
        exact JQ.done' (rs := [.cell 2 23, .tmp 3]) (vs := [.agg #[.int .i64 0, .int .i64 0, .int .i64 0], .int .i64 16]) [] (.inr rfl) ⟨⟨b3, 0, _, _, by kernel_rfl, by kernel_rfl, holds_box b3 23 [.int .i64 0, .int .i64 0, .int .i64 0], .inl ⟨tyAgg_23, tySize_23, rfl⟩⟩, by kernel_rfl, trivial⟩ (fun _ h => Heap.to (Heap.pick [] (by decide) h)) ⟨rfl, rfl⟩
      · refine J.cond_false h15 ?_
        refine J.skip ?_
        refine JQ.then_normal ?_
        refine JQ.sub [(2, .pointer (some ⟨b3, 0, none⟩)), (4, .pointer (some ⟨b9, 0, none⟩)), (6, .pointer (some ⟨b12, 0, none⟩))] ?_
        refine J.seq ?_
        refine J.region ?_
        refine JL.val (.agg #[.int .i64 t7.1.Re, .int .i64 t7.1.Im, .int .i64 t7.1.Den]) (some 37) (yields_load_boxes 1 0 [.int .i64 t7.1.Re, .int .i64 t7.1.Im, .int .i64 t7.1.Den] (holds_box b9 23 [.int .i64 t7.1.Re, .int .i64 t7.1.Im, .int .i64 t7.1.Den]) tyAgg_23 tySize_23) ?_
        refine JL.val (.agg #[.int .i64 t10.1.Re, .int .i64 t10.1.Im, .int .i64 t10.1.Den]) (some 38) (yields_load_boxes 2 0 [.int .i64 t10.1.Re, .int .i64 t10.1.Im, .int .i64 t10.1.Den] (holds_box b12 23 [.int .i64 t10.1.Re, .int .i64 t10.1.Im, .int .i64 t10.1.Den]) tyAgg_23 tySize_23) ?_
        obtain ⟨t16, hc17, H0⟩ := bind_some H0
        refine JL.call [] [] [] (ref25_Sub.ok t7.1 t10.1 _ hc17) trivial ?_
        rintro _ _ ⟨rfl, rfl⟩
        refine JL.mv (.tuple #[.agg #[.int .i64 t16.1.Re, .int .i64 t16.1.Im, .int .i64 t16.1.Den], .int .i64 t16.2]) ?_
        refine JL.pur (.agg #[.int .i64 t16.1.Re, .int .i64 t16.1.Im, .int .i64 t16.1.Den]) (some 40) ?_
        refine JL.pur (.int .i64 t16.2) (some 41) ?_
        refine JL.alloc [.int .i64 0, .int .i64 0, .int .i64 0] fun b18 => ?_
        refine JL.store 3 b18 0 23 [.int .i64 0, .int .i64 0, .int .i64 0] [.int .i64 t16.1.Re, .int .i64 t16.1.Im, .int .i64 t16.1.Den] tySize_23 ?_
        refine JL.as (.int .i64 t16.2) ?_
        refine JL.nil ?_
        refine JQ.then_normal ?_
        refine JQ.sub [(2, .pointer (some ⟨b3, 0, none⟩)), (5, .int .i64 t16.2), (8, .pointer (some ⟨b18, 0, none⟩))] ?_
        refine JQ.mask [At.box b3 23 [.int .i64 0, .int .i64 0, .int .i64 0], At.box b18 23 [.int .i64 t16.1.Re, .int .i64 t16.1.Im, .int .i64 t16.1.Den]] [true, false, false, true] ?_
        refine J.seq ?_
        refine J.seq ?_
        refine J.region ?_
        refine JL.mv (.int .i64 t16.2) ?_
        refine JL.pur (.bool (!decide (t16.2 = 0))) (some 43) ?_
        refine JL.nil ?_
        refine JQ.then_normal ?_
        refine JQ.sub [(2, .pointer (some ⟨b3, 0, none⟩)), (8, .pointer (some ⟨b18, 0, none⟩)), (43, .bool (!decide (t16.2 = 0)))] ?_
        rcases ite_cases H0 with ⟨h19, H0⟩ | ⟨h19, H0⟩
        · refine J.cond_true h19 ?_
          refine J.seq ?_
          refine J.region ?_
          refine JL.pur (.agg #[.int .i64 0, .int .i64 0, .int .i64 0]) (some 44) ?_
          refine JL.store 0 b3 0 23 [.int .i64 0, .int .i64 0, .int .i64 0] [.int .i64 0, .int .i64 0, .int .i64 0] tySize_23 ?_
          refine JL.as (.int .i64 16) ?_
          refine JL.nil ?_
          refine JQ.then_normal ?_
          refine JQ.sub [(2, .pointer (some ⟨b3, 0, none⟩)), (3, .int .i64 16)] ?_
          refine JQ.mask [At.box b3 23 [.int .i64 0, .int .i64 0, .int .i64 0]] [true, false] ?_
          refine J.ret ?_
          refine JQ.then_ret ?_
          obtain rfl := Option.some.inj H0
          exact JQ.done' (rs := [.cell 2 23, .tmp 3]) (vs := [.agg #[.int .i64 0, .int .i64 0, .int .i64 0], .int .i64 16]) [] (.inr rfl) ⟨⟨b3, 0, _, _, by kernel_rfl, by kernel_rfl, holds_box b3 23 [.int .i64 0, .int .i64 0, .int .i64 0], .inl ⟨tyAgg_23, tySize_23, rfl⟩⟩, by kernel_rfl, trivial⟩ (fun _ h => Heap.to (Heap.pick [] (by decide) h)) ⟨rfl, rfl⟩
        · refine J.cond_false h19 ?_
          refine J.skip ?_
          refine JQ.then_normal ?_
          refine JQ.sub [(2, .pointer (some ⟨b3, 0, none⟩)), (8, .pointer (some ⟨b18, 0, none⟩))] ?_
          refine J.seq ?_
          refine J.region ?_
          refine JL.val (.agg #[.int .i64 t16.1.Re, .int .i64 t16.1.Im, .int .i64 t16.1.Den]) (some 45) (yields_load_boxes 1 0 [.int .i64 t16.1.Re, .int .i64 t16.1.Im, .int .i64 t16.1.Den] (holds_box b18 23 [.int .i64 t16.1.Re, .int .i64 t16.1.Im, .int .i64 t16.1.Den]) tyAgg_23 tySize_23) ?_
          refine JL.store 0 b3 0 23 [.int .i64 0, .int .i64 0, .int .i64 0] [.int .i64 t16.1.Re, .int .i64 t16.1.Im, .int .i64 t16.1.Den] tySize_23 ?_
          refine JL.as (.int .i64 0) ?_
          refine JL.nil ?_
          refine JQ.then_normal ?_
          refine JQ.sub [(2, .pointer (some ⟨b3, 0, none⟩)), (3, .int .i64 0)] ?_
          refine JQ.mask [At.box b3 23 [.int .i64 t16.1.Re, .int .i64 t16.1.Im, .int .i64 t16.1.Den]] [true, false] ?_
          refine J.ret ?_
          obtain rfl := Option.some.inj H0
          exact JQ.done' (rs := [.cell 2 23, .tmp 3]) (vs := [.agg #[.int .i64 t16.1.Re, .int .i64 t16.1.Im, .int .i64 t16.1.Den], .int .i64 0]) [] (.inr rfl) ⟨⟨b3, 0, _, _, by kernel_rfl, by kernel_rfl, holds_box b3 23 [.int .i64 t16.1.Re, .int .i64 t16.1.Im, .int .i64 t16.1.Den], .inl ⟨tyAgg_23, tySize_23, rfl⟩⟩, by kernel_rfl, trivial⟩ (fun _ h => Heap.to (Heap.pick [] (by decide) h)) ⟨rfl, rfl⟩

theorem ref25_Zero.ok (a1 : Cx) (r : Bool) (H0 : ref25_Zero.f a1 = some r) :
    Does Try.prog 26 [.agg #[.int .i64 a1.Re, .int .i64 a1.Im, .int .i64 a1.Den]].toArray [] [] false (fun v Δ => v = .bool r ∧ Δ = []) := by
  refine Does.body (vs := [.agg #[.int .i64 a1.Re, .int .i64 a1.Im, .int .i64 a1.Den]]) Try.func26 rfl trivial trivial fun w S => ?_
  unfold ref25_Zero.f at H0
  refine J.seq ?_
  refine J.region ?_
  refine JL.box [.int .i64 a1.Re, .int .i64 a1.Im, .int .i64 a1.Den] fun b2 => ?_
  refine JL.as (.bool false) ?_
  refine JL.nil ?_
  refine JQ.then_normal ?_
  refine JQ.sub [(1, .pointer (some ⟨b2, 0, none⟩))] ?_
  refine J.seq ?_
  refine J.region ?_
  refine JL.pur (.pointer (some ⟨b2, 0, none⟩)) (some 3) ?_
  refine JL.val (.int .i64 a1.Re) (some 4) (yields_load_box 0 0 (holds_box b2 23 [.int .i64 a1.Re, .int .i64 a1.Im, .int .i64 a1.Den]) tyAgg_2) ?_
  refine JL.pur (.bool (decide (a1.Re = 0))) (some 5) ?_
  refine JL.mv (.bool (decide (a1.Re = 0))) ?_
  rcases ite_cases H0 with ⟨h3, H0⟩ | ⟨h3, H0⟩
  · refine JL.on 3 6 h3 ?_
    refine JL.pur (.pointer (some ⟨b2, 1, none⟩)) (some 7) ?_
    refine JL.on 3 6 h3 ?_
    refine JL.val (.int .i64 a1.Im) (some 8) (yields_load_box 0 1 (holds_box b2 23 [.int .i64 a1.Re, .int .i64 a1.Im, .int .i64 a1.Den]) tyAgg_2) ?_
    refine JL.on 3 6 h3 ?_
    refine JL.pur (.bool (decide (a1.Im = 0))) (some 9) ?_
    refine JL.val (.bool (decide (a1.Im = 0))) (some 10) (gives_pickT h3) ?_
    refine JL.as (.bool (decide (a1.Im = 0))) ?_
    refine JL.nil ?_
    refine JQ.then_normal ?_
    refine JQ.sub [(2, .bool (decide (a1.Im = 0)))] ?_
    refine JQ.mask [] [false] ?_
    refine J.ret ?_
    obtain rfl := Option.some.inj H0
    exact JQ.done' (rs := [.tmp 2]) (vs := [.bool (decide (a1.Im = 0))]) [] (.inr rfl) ⟨by kernel_rfl, trivial⟩ (fun _ h => Heap.to h) ⟨rfl, rfl⟩
  · refine JL.off 3 6 true (some 7) h3 ?_
    refine JL.off 3 6 true (some 8) h3 ?_
    refine JL.off 3 6 true (some 9) h3 ?_
    refine JL.val (.bool false) (some 10) (gives_pickF h3) ?_
    refine JL.as (.bool false) ?_
    refine JL.nil ?_
    refine JQ.then_normal ?_
    refine JQ.sub [(2, .bool false)] ?_
    refine JQ.mask [] [false] ?_
    refine J.ret ?_
    obtain rfl := Option.some.inj H0
    exact JQ.done' (rs := [.tmp 2]) (vs := [.bool false]) [] (.inr rfl) ⟨by kernel_rfl, trivial⟩ (fun _ h => Heap.to h) ⟨rfl, rfl⟩

theorem ref33_Table.ok (t1 : (List (A4 Cx))) (A2 : Option Addr) (c3 : Nat) (r : Int) (H0 : ref33_Table.f t1 = some r) :
    Does Try.prog 20 [.slice A2 t1.length c3].toArray [At.rd A2 c3 ((flArr4 fl_Cx).kd) t1 true] [] false (fun v Δ => v = .int .i64 r ∧ Δ = []) := by
  refine Does.body (vs := [.slice A2 t1.length c3]) Try.func20 rfl ⟨.inl rfl, trivial⟩ trivial fun w S => ?_
  unfold ref33_Table.f at H0
  refine J.seq ?_
  refine J.region ?_
  refine JL.as (.int .i64 0) ?_
  refine JL.nil ?_
  refine JQ.then_normal ?_
  refine JQ.sub [(0, .slice A2 t1.length c3)] ?_
  refine J.seq ?_
  refine J.seq ?_
  refine J.region ?_
  refine JL.mv (.slice A2 t1.length c3) ?_
  refine JL.pur (.int .i64 (t1.length : Int)) (some 8) ?_
  refine JL.pur (.bool (decide (8 < (t1.length : Int)))) (some 9) ?_
  refine JL.nil ?_
  refine JQ.then_normal ?_
  refine JQ.sub [(0, .slice A2 t1.length c3), (9, .bool (decide (8 < (t1.length : Int))))] ?_
  rcases ite_cases H0 with ⟨h5, H0⟩ | ⟨h5, H0⟩
  · refine J.cond_true h5 ?_
    refine J.seq ?_
    refine J.region ?_
    refine JL.as (.int .i64 4) ?_
    refine JL.nil ?_
    refine JQ.then_normal ?_
    refine JQ.sub [(2, .int .i64 4)] ?_
    refine JQ.mask [] [false] ?_
    refine J.ret ?_
    refine JQ.then_ret ?_
    obtain rfl := Option.some.inj H0
    exact JQ.done' (rs := [.tmp 2]) (vs := [.int .i64 4]) [] (.inr rfl) ⟨by kernel_rfl, trivial⟩ (fun _ h => Heap.to h) ⟨rfl, rfl⟩
  · refine J.cond_false h5 ?_
    refine J.skip ?_
    refine JQ.then_normal ?_
    refine JQ.sub [(0, .slice A2 t1.length c3)] ?_
    refine J.seq ?_
    refine J.seq ?_
    refine J.region ?_
    refine JL.as (.int .i64 0) ?_
    refine JL.nil ?_
    refine JQ.then_normal ?_
    obtain ⟨o1, hit, H0⟩ := bind_some H0
    refine J.loop (σ := Int) (τ := Unit) (G := Unit) (G' := Unit) _ o1 (fun s g => [(0, .slice A2 t1.length c3), (3, .int .i64 s)]) (fun s g => [At.rd A2 c3 ((flArr4 fl_Cx).kd) t1 true]) (fun t => ref33_Table.k2 t1 = some r) (fun t g => [(0, .slice A2 t1.length c3)]) (fun t g => [At.rd A2 c3 ((flArr4 fl_Cx).kd) t1 true]) 0 () hit (fun _ h => Heap.to h) ?_ ?_
    · clear hit
      rintro i24 ⟨⟩ st1 H1 hb1 hr1
      replace H1 : ref33_Table.s1 t1 i24 = some st1 := H1
      unfold ref33_Table.s1 at H1
      refine JQ.sub [(0, .slice A2 t1.length c3), (3, .int .i64 i24)] ?_
      refine JQ.turn (Δ' := [At.rd A2 c3 ((flArr4 fl_Cx).kd) t1 true]) (fun _ h => h.to) ?_
      refine J.seq ?_
      refine J.seq ?_
      refine J.region ?_
      refine JL.mv (.int .i64 i24) ?_
      refine JL.mv (.slice A2 t1.length c3) ?_
      refine JL.pur (.int .i64 (t1.length : Int)) (some 12) ?_
      refine JL.pur (.bool (decide (i24 < (t1.length : Int)))) (some 13) ?_
      refine JL.nil ?_
      refine JQ.then_normal ?_
      refine JQ.sub [(0, .slice A2 t1.length c3), (3, .int .i64 i24), (13, .bool (decide (i24 < (t1.length : Int))))] ?_
      rcases ite_cases H1 with ⟨h85, H1⟩ | ⟨h85, H1⟩
      · refine J.cond_true h85 ?_
        refine J.skip ?_
        refine JQ.then_normal ?_
        refine JQ.sub [(0, .slice A2 t1.length c3), (3, .int .i64 i24)] ?_
        refine J.seq ?_
        refine J.block ?_
        refine J.seq ?_
        refine J.region ?_
        refine JL.mv (.slice A2 t1.length c3) ?_
        refine JL.mv (.int .i64 i24) ?_
        obtain ⟨⟨h86, h87⟩, H1⟩ := ite_must H1
        refine JL.ixAddr 0 12 c3 .i64 (elems_rd A2 c3 ((flArr4 fl_Cx).kd) t1 true) Try.underlying38 tySize_25 h86 h87 fun g88 o89 hA => ?_
        subst hA
        refine JL.val (.agg #[.int .i64 ((ix t1 i24).e0.Re), .int .i64 ((ix t1 i24).e0.Im), .int .i64 ((ix t1 i24).e0.Den), .int .i64 ((ix t1 i24).e1.Re), .int .i64 ((ix t1 i24).e1.Im), .int .i64 ((ix t1 i24).e1.Den), .int .i64 ((ix t1 i24).e2.Re), .int .i64 ((ix t1 i24).e2.Im), .int .i64 ((ix t1 i24).e2.Den), .int .i64 ((ix t1 i24).e3.Re), .int .i64 ((ix t1 i24).e3.Im), .int .i64 ((ix t1 i24).e3.Den)]) (some 19) (gives_loadEl (f := (flArr4 fl_Cx)) 0 0 i24 (elems_rd (some ⟨g88, o89, none⟩) c3 ((flArr4 fl_Cx).kd) t1 true) h86 h87 tySize_25 (.inl ⟨tyAgg_25, rfl⟩)) ?_
        obtain ⟨t90, hc91, H1⟩ := bind_some H1
        refine JL.call [] [] [] (ref33_Valid.ok (ix t1 i24) _ hc91) trivial ?_
        rintro _ _ ⟨rfl, rfl⟩
        refine JL.pur (.bool (!t90)) (some 21) ?_
        refine JL.nil ?_
        refine JQ.then_normal ?_
        refine JQ.sub [(0, .slice (some ⟨g88, o89, none⟩) t1.length c3), (3, .int .i64 i24), (21, .bool (!t90))] ?_
        rcases ite_cases H1 with ⟨h92, H1⟩ | ⟨h92, H1⟩
        · refine J.cond_true h92 ?_
          refine J.seq ?_
          refine J.region ?_
          refine JL.as (.int .i64 8) ?_
          refine JL.nil ?_
          refine JQ.then_normal ?_
          refine JQ.sub [(2, .int .i64 8)] ?_
          refine JQ.mask [] [false] ?_
          refine J.ret ?_
          refine JQ.blk_ret ?_
          refine JQ.then_ret ?_
          refine JQ.then_ret ?_
          refine JQ.blk_ret ?_
          refine JQ.met_ret ?_
          refine JQ.then_ret ?_
          rw [hr1 _ (Option.some.inj H1).symm, fin_ret] at H0
          obtain rfl := Option.some.inj H0
          exact JQ.done' (rs := [.tmp 2]) (vs := [.int .i64 8]) [] (.inr rfl) ⟨by kernel_rfl, trivial⟩ (fun _ h => Heap.to h) ⟨rfl, rfl⟩
        · refine J.cond_false h92 ?_
          refine J.skip ?_
          refine JQ.blk_normal ?_
          refine JQ.then_normal ?_
          refine JQ.sub [(0, .slice (some ⟨g88, o89, none⟩) t1.length c3), (3, .int .i64 i24)] ?_
          refine J.region ?_
          refine JL.mv (.int .i64 i24) ?_
          refine JL.pur (.int .i64 (w64 (i24 + 1))) (some 15) ?_
          refine JL.as (.int .i64 (w64 (i24 + 1))) ?_
          refine JL.nil ?_
          refine JQ.then_normal ?_
          exact JQ.again (w64 (i24 + 1)) () (Option.some.inj H1).symm (fun _ h => Heap.to h)
      · refine J.cond_false h85 ?_
        refine J.exit ?_
        refine JQ.then_exit ?_
        refine JQ.then_exit ?_
        refine JQ.blk_exit ?_
        rw [hb1 _ (Option.some.inj H1).symm, fin_brk] at H0
        exact JQ.met () () H0 (fun _ h => Heap.to h)
    · clear hit H0
      rintro ⟨⟩ ⟨⟩ H0
      replace H0 : ref33_Table.k2 t1 = some r := H0
      unfold ref33_Table.k2 at H0
      refine JQ.sub [(0, .slice A2 t1.length c3)] ?_
      refine JQ.turn (Δ' := [At.rd A2 c3 ((flArr4 fl_Cx).kd) t1 true]) (fun _ h => h.to) ?_
      refine JQ.then_normal ?_
      refine J.seq ?_
      refine J.seq ?_
      refine J.region ?_
      refine JL.mv (.slice A2 t1.length c3) ?_
      refine JL.pur (.int .i64 (t1.length : Int)) (some 23) ?_
      refine JL.pur (.bool (decide ((t1.length : Int) = 0))) (some 24) ?_
      refine JL.nil ?_
      refine JQ.then_normal ?_
      refine JQ.sub [(0, .slice A2 t1.length c3), (24, .bool (decide ((t1.length : Int) = 0)))] ?_
      rcases ite_cases H0 with ⟨h33, H0⟩ | ⟨h33, H0⟩
      · refine J.cond_true h33 ?_
        refine J.seq ?_
        refine J.region ?_
        refine JL.as (.int .i64 8) ?_
        refine JL.nil ?_
        refine JQ.then_normal ?_
        refine JQ.sub [(2, .int .i64 8)] ?_
        refine JQ.mask [] [false] ?_
        refine J.ret ?_
        refine JQ.then_ret ?_
        obtain rfl := Option.some.inj H0
        exact JQ.done' (rs := [.tmp 2]) (vs := [.int .i64 8]) [] (.inr rfl) ⟨by kernel_rfl, trivial⟩ (fun _ h => Heap.to h) ⟨rfl, rfl⟩
      · refine J.cond_false h33 ?_
        refine J.skip ?_
        refine JQ.then_normal ?_
        refine JQ.sub [(0, .slice A2 t1.length c3)] ?_
        refine J.seq ?_
        refine J.seq ?_
        refine J.region ?_
        refine JL.as (.int .i64 0) ?_
        refine JL.nil ?_
        refine JQ.then_normal ?_
        obtain ⟨o1, hit, H0⟩ := bind_some H0
        refine J.loop (σ := Int) (τ := Unit) (G := Unit) (G' := Unit) _ o1 (fun s g => [(0, .slice A2 t1.length c3), (4, .int .i64 s)]) (fun s g => [At.rd A2 c3 ((flArr4 fl_Cx).kd) t1 true]) (fun t => ref33_Table.k4 = some r) (fun t g => []) (fun t g => []) 0 () hit (fun _ h => Heap.to h) ?_ ?_
        · clear hit
          rintro i60 ⟨⟩ st1 H1 hb1 hr1
          replace H1 : ref33_Table.s3 t1 i60 = some st1 := H1
          unfold ref33_Table.s3 at H1
          refine JQ.sub [(0, .slice A2 t1.length c3), (4, .int .i64 i60)] ?_
          refine JQ.turn (Δ' := [At.rd A2 c3 ((flArr4 fl_Cx).kd) t1 true]) (fun _ h => h.to) ?_
          refine J.seq ?_
          refine J.seq ?_
          refine J.region ?_
          refine JL.mv (.int .i64 i60) ?_
          refine JL.mv (.slice A2 t1.length c3) ?_
          refine JL.pur (.int .i64 (t1.length : Int)) (some 27) ?_
          refine JL.pur (.bool (decide (i60 < (t1.length : Int)))) (some 28) ?_
          refine JL.nil ?_
          refine JQ.then_normal ?_
          refine JQ.sub [(0, .slice A2 t1.length c3), (4, .int .i64 i60), (28, .bool (decide (i60 < (t1.length : Int))))] ?_
          rcases ite_cases H1 with ⟨h73, H1⟩ | ⟨h73, H1⟩
          · refine J.cond_true h73 ?_
            refine J.skip ?_
            refine JQ.then_normal ?_
            refine JQ.sub [(0, .slice A2 t1.length c3), (4, .int .i64 i60)] ?_
            refine J.seq ?_
            refine J.block ?_
            refine J.seq ?_
            refine J.region ?_
            refine JL.mv (.slice A2 t1.length c3) ?_
            refine JL.mv (.int .i64 i60) ?_
            obtain ⟨⟨h74, h75⟩, H1⟩ := ite_must H1
            refine JL.ixAddr 0 12 c3 .i64 (elems_rd A2 c3 ((flArr4 fl_Cx).kd) t1 true) Try.underlying38 tySize_25 h74 h75 fun g76 o77 hA => ?_
            subst hA
            refine JL.val (.agg #[.int .i64 ((ix t1 i60).e0.Re), .int .i64 ((ix t1 i60).e0.Im), .int .i64 ((ix t1 i60).e0.Den), .int .i64 ((ix t1 i60).e1.Re), .int .i64 ((ix t1 i60).e1.Im), .int .i64 ((ix t1 i60).e1.Den), .int .i64 ((ix t1 i60).e2.Re), .int .i64 ((ix t1 i60).e2.Im), .int .i64 ((ix t1 i60).e2.Den), .int .i64 ((ix t1 i60).e3.Re), .int .i64 ((ix t1 i60).e3.Im), .int .i64 ((ix t1 i60).e3.Den)]) (some 35) (gives_loadEl (f := (flArr4 fl_Cx)) 0 0 i60 (elems_rd (some ⟨g76, o77, none⟩) c3 ((flArr4 fl_Cx).kd) t1 true) h74 h75 tySize_25 (.inl ⟨tyAgg_25, rfl⟩)) ?_
            obtain ⟨t78, hc79, H1⟩ := bind_some H1
            refine JL.call [] [] [] (ref33_Det.ok (ix t1 i60) _ hc79) trivial ?_
            rintro _ _ ⟨rfl, rfl⟩
            refine JL.mv (.tuple #[.agg #[.int .i64 t78.1.Re, .int .i64 t78.1.Im, .int .i64 t78.1.Den], .int .i64 t78.2]) ?_
            refine JL.pur (.agg #[.int .i64 t78.1.Re, .int .i64 t78.1.Im, .int .i64 t78.1.Den]) (some 37) ?_
            refine JL.pur (.int .i64 t78.2) (some 38) ?_
            refine JL.alloc [.int .i64 0, .int .i64 0, .int .i64 0] fun b80 => ?_
            refine JL.store 1 b80 0 23 [.int .i64 0, .int .i64 0, .int .i64 0] [.int .i64 t78.1.Re, .int .i64 t78.1.Im, .int .i64 t78.1.Den] tySize_23 ?_
            refine JL.as (.int .i64 t78.2) ?_
            refine JL.nil ?_
            refine JQ.then_normal ?_
            refine JQ.sub [(0, .slice (some ⟨g76, o77, none⟩) t1.length c3), (4, .int .i64 i60), (5, .pointer (some ⟨b80, 0, none⟩)), (6, .int .i64 t78.2)] ?_
            refine J.seq ?_
            refine J.seq ?_
            refine J.region ?_
            refine JL.mv (.int .i64 t78.2) ?_
            refine JL.pur (.bool (!decide (t78.2 = 0))) (some 40) ?_
            refine JL.nil ?_
            refine JQ.then_normal ?_
            refine JQ.sub [(0, .slice (some ⟨g76, o77, none⟩) t1.length c3), (4, .int .i64 i60), (5, .pointer (some ⟨b80, 0, none⟩)), (6, .int .i64 t78.2), (40, .bool (!decide (t78.2 = 0)))] ?_
            rcases ite_cases H1 with ⟨h81, H1⟩ | ⟨h81, H1⟩
            · refine J.cond_true h81 ?_
              refine J.seq ?_
              refine J.region ?_
              refine JL.mv (.int .i64 t78.2) ?_
              refine JL.as (.int .i64 t78.2) ?_
              refine JL.nil ?_
              refine JQ.then_normal ?_
              refine JQ.sub [(2, .int .i64 t78.2)] ?_
              refine JQ.mask [] [false, false] ?_
              refine J.ret ?_
              refine JQ.then_ret ?_
              refine JQ.blk_ret ?_
              refine JQ.then_ret ?_
              refine JQ.then_ret ?_
              refine JQ.blk_ret ?_
              refine JQ.met_ret ?_
              refine JQ.then_ret ?_
              rw [hr1 _ (Option.some.inj H1).symm, fin_ret] at H0
              obtain rfl := Option.some.inj H0
              exact JQ.done' (rs := [.tmp 2]) (vs := [.int .i64 t78.2]) [] (.inr rfl) ⟨by kernel_rfl, trivial⟩ (fun _ h => Heap.to h) ⟨rfl, rfl⟩
            · refine J.cond_false h81 ?_
              refine J.skip ?_
              refine JQ.then_normal ?_
              refine JQ.sub [(0, .slice (some ⟨g76, o77, none⟩) t1.length c3), (4, .int .i64 i60), (5, .pointer (some ⟨b80, 0, none⟩))] ?_
              refine J.seq ?_
              refine J.region ?_
              refine JL.val (.agg #[.int .i64 t78.1.Re, .int .i64 t78.1.Im, .int .i64 t78.1.Den]) (some 42) (yields_load_boxes 1 0 [.int .i64 t78.1.Re, .int .i64 t78.1.Im, .int .i64 t78.1.Den] (holds_box b80 23 [.int .i64 t78.1.Re, .int .i64 t78.1.Im, .int .i64 t78.1.Den]) tyAgg_23 tySize_23) ?_
              obtain ⟨t82, hc83, H1⟩ := bind_some H1
              refine JL.call [] [] [] (ref25_Zero.ok t78.1 _ hc83) trivial ?_
              rintro _ _ ⟨rfl, rfl⟩
              refine JL.nil ?_
              refine JQ.then_normal ?_
              refine JQ.sub [(0, .slice (some ⟨g76, o77, none⟩) t1.length c3), (4, .int .i64 i60), (43, .bool t82)] ?_
              refine JQ.mask [At.rd (some ⟨g76, o77, none⟩) c3 ((flArr4 fl_Cx).kd) t1 true] [true, false] ?_
              rcases ite_cases H1 with ⟨h84, H1⟩ | ⟨h84, H1⟩
              · refine J.cond_true h84 ?_
                refine J.seq ?_
                refine J.region ?_
                refine JL.as (.int .i64 18) ?_
                refine JL.nil ?_
                refine JQ.then_normal ?_
                refine JQ.sub [(2, .int .i64 18)] ?_
                refine JQ.mask [] [false] ?_
                refine J.ret ?_
                refine JQ.blk_ret ?_
                refine JQ.then_ret ?_
                refine JQ.then_ret ?_
                refine JQ.blk_ret ?_
                refine JQ.met_ret ?_
                refine JQ.then_ret ?_
                rw [hr1 _ (Option.some.inj H1).symm, fin_ret] at H0
                obtain rfl := Option.some.inj H0
                exact JQ.done' (rs := [.tmp 2]) (vs := [.int .i64 18]) [] (.inr rfl) ⟨by kernel_rfl, trivial⟩ (fun _ h => Heap.to h) ⟨rfl, rfl⟩
              · refine J.cond_false h84 ?_
                refine J.skip ?_
                refine JQ.blk_normal ?_
                refine JQ.then_normal ?_
                refine JQ.sub [(0, .slice (some ⟨g76, o77, none⟩) t1.length c3), (4, .int .i64 i60)] ?_
                refine J.region ?_
                refine JL.mv (.int .i64 i60) ?_
                refine JL.pur (.int .i64 (w64 (i60 + 1))) (some 30) ?_
                refine JL.as (.int .i64 (w64 (i60 + 1))) ?_
                refine JL.nil ?_
                refine JQ.then_normal ?_
                exact JQ.again (w64 (i60 + 1)) () (Option.some.inj H1).symm (fun _ h => Heap.to h)
          · refine J.cond_false h73 ?_
            refine J.exit ?_
            refine JQ.then_exit ?_
            refine JQ.then_exit ?_
            refine JQ.blk_exit ?_
            rw [hb1 _ (Option.some.inj H1).symm, fin_brk] at H0
            exact JQ.met () () H0 (fun _ h => Heap.to (Heap.pick [] (by decide) h))
        · clear hit H0
          rintro ⟨⟩ ⟨⟩ H0
          replace H0 : ref33_Table.k4 = some r := H0
          unfold ref33_Table.k4 at H0
          refine JQ.sub [] ?_
          refine JQ.turn (Δ' := []) (fun _ h => h.to) ?_
          refine JQ.then_normal ?_
          refine J.seq ?_
          refine J.region ?_
          refine JL.as (.int .i64 0) ?_
          refine JL.nil ?_
          refine JQ.then_normal ?_
          refine J.ret ?_
          obtain rfl := Option.some.inj H0
          exact JQ.done' (rs := [.tmp 2]) (vs := [.int .i64 0]) [] (.inr rfl) ⟨by kernel_rfl, trivial⟩ (fun _ h => Heap.to h) ⟨rfl, rfl⟩

theorem ref33_Seen.ok (p1 : Pol) (n2 : Int) (r : Bool) (H0 : ref33_Seen.f p1 n2 = some r) :
    Does Try.prog 49 [.agg #[.int .i64 p1.I, .int .i64 p1.J, .int .i64 p1.V.e0.Re, .int .i64 p1.V.e0.Im, .int .i64 p1.V.e0.Den, .int .i64 p1.V.e1.Re, .int .i64 p1.V.e1.Im, .int .i64 p1.V.e1.Den, .int .i64 p1.V.e2.Re, .int .i64 p1.V.e2.Im, .int .i64 p1.V.e2.Den, .int .i64 p1.V.e3.Re, .int .i64 p1.V.e3.Im, .int .i64 p1.V.e3.Den, .int .i64 p1.N], .int .i64 n2].toArray [] [] false (fun v Δ => v = .bool r ∧ Δ = []) := by
  refine Does.body (vs := [.agg #[.int .i64 p1.I, .int .i64 p1.J, .int .i64 p1.V.e0.Re, .int .i64 p1.V.e0.Im, .int .i64 p1.V.e0.Den, .int .i64 p1.V.e1.Re, .int .i64 p1.V.e1.Im, .int .i64 p1.V.e1.Den, .int .i64 p1.V.e2.Re, .int .i64 p1.V.e2.Im, .int .i64 p1.V.e2.Den, .int .i64 p1.V.e3.Re, .int .i64 p1.V.e3.Im, .int .i64 p1.V.e3.Den, .int .i64 p1.N], .int .i64 n2]) Try.func49 rfl trivial trivial fun w S => ?_
  unfold ref33_Seen.f at H0
  refine J.seq ?_
  refine J.region ?_
  refine JL.box [.int .i64 p1.I, .int .i64 p1.J, .int .i64 p1.V.e0.Re, .int .i64 p1.V.e0.Im, .int .i64 p1.V.e0.Den, .int .i64 p1.V.e1.Re, .int .i64 p1.V.e1.Im, .int .i64 p1.V.e1.Den, .int .i64 p1.V.e2.Re, .int .i64 p1.V.e2.Im, .int .i64 p1.V.e2.Den, .int .i64 p1.V.e3.Re, .int .i64 p1.V.e3.Im, .int .i64 p1.V.e3.Den, .int .i64 p1.N] fun b3 => ?_
  refine JL.as (.bool false) ?_
  refine JL.nil ?_
  refine JQ.then_normal ?_
  refine JQ.sub [(1, .int .i64 n2), (2, .pointer (some ⟨b3, 0, none⟩))] ?_
  refine J.seq ?_
  refine J.region ?_
  refine JL.pur (.pointer (some ⟨b3, 0, none⟩)) (some 5) ?_
  refine JL.val (.int .i64 p1.I) (some 6) (yields_load_box 0 0 (holds_box b3 57 [.int .i64 p1.I, .int .i64 p1.J, .int .i64 p1.V.e0.Re, .int .i64 p1.V.e0.Im, .int .i64 p1.V.e0.Den, .int .i64 p1.V.e1.Re, .int .i64 p1.V.e1.Im, .int .i64 p1.V.e1.Den, .int .i64 p1.V.e2.Re, .int .i64 p1.V.e2.Im, .int .i64 p1.V.e2.Den, .int .i64 p1.V.e3.Re, .int .i64 p1.V.e3.Im, .int .i64 p1.V.e3.Den, .int .i64 p1.N]) tyAgg_3) ?_
  refine JL.pur (.bool (decide (0 ≤ p1.I))) (some 7) ?_
  refine JL.mv (.bool (decide (0 ≤ p1.I))) ?_
  rcases ite_cases H0 with ⟨h4, H0⟩ | ⟨h4, H0⟩
  · refine JL.on 3 8 h4 ?_
    refine JL.pur (.pointer (some ⟨b3, 0, none⟩)) (some 9) ?_
    refine JL.on 3 8 h4 ?_
    refine JL.val (.int .i64 p1.I) (some 10) (yields_load_box 0 0 (holds_box b3 57 [.int .i64 p1.I, .int .i64 p1.J, .int .i64 p1.V.e0.Re, .int .i64 p1.V.e0.Im, .int .i64 p1.V.e0.Den, .int .i64 p1.V.e1.Re, .int .i64 p1.V.e1.Im, .int .i64 p1.V.e1.Den, .int .i64 p1.V.e2.Re, .int .i64 p1.V.e2.Im, .int .i64 p1.V.e2.Den, .int .i64 p1.V.e3.Re, .int .i64 p1.V.e3.Im, .int .i64 p1.V.e3.Den, .int .i64 p1.N]) tyAgg_3) ?_
    refine JL.on 3 8 h4 ?_
    refine JL.pur (.pointer (some ⟨b3, 1, none⟩)) (some 11) ?_
    refine JL.on 3 8 h4 ?_
    refine JL.val (.int .i64 p1.J) (some 12) (yields_load_box 0 1 (holds_box b3 57 [.int .i64 p1.I, .int .i64 p1.J, .int .i64 p1.V.e0.Re, .int .i64 p1.V.e0.Im, .int .i64 p1.V.e0.Den, .int .i64 p1.V.e1.Re, .int .i64 p1.V.e1.Im, .int .i64 p1.V.e1.Den, .int .i64 p1.V.e2.Re, .int .i64 p1.V.e2.Im, .int .i64 p1.V.e2.Den, .int .i64 p1.V.e3.Re, .int .i64 p1.V.e3.Im, .int .i64 p1.V.e3.Den, .int .i64 p1.N]) tyAgg_3) ?_
    refine JL.on 3 8 h4 ?_
    refine JL.pur (.bool (decide (p1.I < p1.J))) (some 13) ?_
    refine JL.val (.bool (decide (p1.I < p1.J))) (some 14) (gives_pickT h4) ?_
    refine JL.mv (.bool (decide (p1.I < p1.J))) ?_
    rcases ite_cases H0 with ⟨h5, H0⟩ | ⟨h5, H0⟩
    · refine JL.on 10 15 h5 ?_
      refine JL.pur (.pointer (some ⟨b3, 1, none⟩)) (some 16) ?_
      refine JL.on 10 15 h5 ?_
      refine JL.val (.int .i64 p1.J) (some 17) (yields_load_box 0 1 (holds_box b3 57 [.int .i64 p1.I, .int .i64 p1.J, .int .i64 p1.V.e0.Re, .int .i64 p1.V.e0.Im, .int .i64 p1.V.e0.Den, .int .i64 p1.V.e1.Re, .int .i64 p1.V.e1.Im, .int .i64 p1.V.e1.Den, .int .i64 p1.V.e2.Re, .int .i64 p1.V.e2.Im, .int .i64 p1.V.e2.Den, .int .i64 p1.V.e3.Re, .int .i64 p1.V.e3.Im, .int .i64 p1.V.e3.Den, .int .i64 p1.N]) tyAgg_3) ?_
      refine JL.on 10 15 h5 ?_
      refine JL.mv (.int .i64 n2) ?_
      refine JL.on 10 15 h5 ?_
      refine JL.pur (.bool (decide (p1.J < n2))) (some 19) ?_
      refine JL.val (.bool (decide (p1.J < n2))) (some 20) (gives_pickT h5) ?_
      refine JL.mv (.bool (decide (p1.J < n2))) ?_
      rcases ite_cases H0 with ⟨h6, H0⟩ | ⟨h6, H0⟩
      · refine JL.on 16 21 h6 ?_
        refine JL.pur (.pointer (some ⟨b3, 14, none⟩)) (some 22) ?_
        refine JL.on 16 21 h6 ?_
        refine JL.val (.int .i64 p1.N) (some 23) (yields_load_box 0 14 (holds_box b3 57 [.int .i64 p1.I, .int .i64 p1.J, .int .i64 p1.V.e0.Re, .int .i64 p1.V.e0.Im, .int .i64 p1.V.e0.Den, .int .i64 p1.V.e1.Re, .int .i64 p1.V.e1.Im, .int .i64 p1.V.e1.Den, .int .i64 p1.V.e2.Re, .int .i64 p1.V.e2.Im, .int .i64 p1.V.e2.Den, .int .i64 p1.V.e3.Re, .int .i64 p1.V.e3.Im, .int .i64 p1.V.e3.Den, .int .i64 p1.N]) tyAgg_3) ?_
        refine JL.on 16 21 h6 ?_
        refine JL.pur (.bool (decide (0 ≤ p1.N))) (some 24) ?_
        refine JL.val (.bool (decide (0 ≤ p1.N))) (some 25) (gives_pickT h6) ?_
        refine JL.mv (.bool (decide (0 ≤ p1.N))) ?_
        rcases ite_cases H0 with ⟨h7, H0⟩ | ⟨h7, H0⟩
        · refine JL.on 21 26 h7 ?_
          refine JL.pur (.pointer (some ⟨b3, 2, none⟩)) (some 27) ?_
          refine JL.on 21 26 h7 ?_
          refine JL.val (.agg #[.int .i64 p1.V.e0.Re, .int .i64 p1.V.e0.Im, .int .i64 p1.V.e0.Den, .int .i64 p1.V.e1.Re, .int .i64 p1.V.e1.Im, .int .i64 p1.V.e1.Den, .int .i64 p1.V.e2.Re, .int .i64 p1.V.e2.Im, .int .i64 p1.V.e2.Den, .int .i64 p1.V.e3.Re, .int .i64 p1.V.e3.Im, .int .i64 p1.V.e3.Den]) (some 28) (yields_load_boxes 0 2 [.int .i64 p1.V.e0.Re, .int .i64 p1.V.e0.Im, .int .i64 p1.V.e0.Den, .int .i64 p1.V.e1.Re, .int .i64 p1.V.e1.Im, .int .i64 p1.V.e1.Den, .int .i64 p1.V.e2.Re, .int .i64 p1.V.e2.Im, .int .i64 p1.V.e2.Den, .int .i64 p1.V.e3.Re, .int .i64 p1.V.e3.Im, .int .i64 p1.V.e3.Den] (holds_box b3 57 [.int .i64 p1.I, .int .i64 p1.J, .int .i64 p1.V.e0.Re, .int .i64 p1.V.e0.Im, .int .i64 p1.V.e0.Den, .int .i64 p1.V.e1.Re, .int .i64 p1.V.e1.Im, .int .i64 p1.V.e1.Den, .int .i64 p1.V.e2.Re, .int .i64 p1.V.e2.Im, .int .i64 p1.V.e2.Den, .int .i64 p1.V.e3.Re, .int .i64 p1.V.e3.Im, .int .i64 p1.V.e3.Den, .int .i64 p1.N]) tyAgg_25 tySize_25) ?_
          refine JL.on 21 26 h7 ?_
          obtain ⟨t8, hc9, H0⟩ := bind_some H0
          refine JL.call [] [] [] (ref33_Valid.ok p1.V _ hc9) trivial ?_
          rintro _ _ ⟨rfl, rfl⟩
          refine JL.val (.bool t8) (some 30) (gives_pickT h7) ?_
          refine JL.as (.bool t8) ?_
          refine JL.nil ?_
          refine JQ.then_normal ?_
          refine JQ.sub [(4, .bool t8)] ?_
          refine JQ.mask [] [false] ?_
          refine J.ret ?_
          obtain rfl := Option.some.inj H0
          exact JQ.done' (rs := [.tmp 4]) (vs := [.bool t8]) [] (.inr rfl) ⟨by kernel_rfl, trivial⟩ (fun _ h => Heap.to h) ⟨rfl, rfl⟩
        · refine JL.off 21 26 true (some 27) h7 ?_
          refine JL.off 21 26 true (some 28) h7 ?_
          refine JL.off 21 26 true (some 29) h7 ?_
          refine JL.val (.bool false) (some 30) (gives_pickF h7) ?_
          refine JL.as (.bool false) ?_
          refine JL.nil ?_
          refine JQ.then_normal ?_
          refine JQ.sub [(4, .bool false)] ?_
          refine JQ.mask [] [false] ?_
          refine J.ret ?_
          obtain rfl := Option.some.inj H0
          exact JQ.done' (rs := [.tmp 4]) (vs := [.bool false]) [] (.inr rfl) ⟨by kernel_rfl, trivial⟩ (fun _ h => Heap.to h) ⟨rfl, rfl⟩
      · refine JL.off 16 21 true (some 22) h6 ?_
        refine JL.off 16 21 true (some 23) h6 ?_
        refine JL.off 16 21 true (some 24) h6 ?_
        refine JL.val (.bool false) (some 25) (gives_pickF h6) ?_
        refine JL.mv (.bool false) ?_
        refine JL.off 21 26 true (some 27) rfl ?_
        refine JL.off 21 26 true (some 28) rfl ?_
        refine JL.off 21 26 true (some 29) rfl ?_
        refine JL.val (.bool false) (some 30) (gives_pickF rfl) ?_
        refine JL.as (.bool false) ?_
        refine JL.nil ?_
        refine JQ.then_normal ?_
        refine JQ.sub [(4, .bool false)] ?_
        refine JQ.mask [] [false] ?_
        refine J.ret ?_
        obtain rfl := Option.some.inj H0
        exact JQ.done' (rs := [.tmp 4]) (vs := [.bool false]) [] (.inr rfl) ⟨by kernel_rfl, trivial⟩ (fun _ h => Heap.to h) ⟨rfl, rfl⟩
    · refine JL.off 10 15 true (some 16) h5 ?_
      refine JL.off 10 15 true (some 17) h5 ?_
      refine JL.off 10 15 true (some 18) h5 ?_
      refine JL.off 10 15 true (some 19) h5 ?_
      refine JL.val (.bool false) (some 20) (gives_pickF h5) ?_
      refine JL.mv (.bool false) ?_
      refine JL.off 16 21 true (some 22) rfl ?_
      refine JL.off 16 21 true (some 23) rfl ?_
      refine JL.off 16 21 true (some 24) rfl ?_
      refine JL.val (.bool false) (some 25) (gives_pickF rfl) ?_
      refine JL.mv (.bool false) ?_
      refine JL.off 21 26 true (some 27) rfl ?_
      refine JL.off 21 26 true (some 28) rfl ?_
      refine JL.off 21 26 true (some 29) rfl ?_
      refine JL.val (.bool false) (some 30) (gives_pickF rfl) ?_
      refine JL.as (.bool false) ?_
      refine JL.nil ?_
      refine JQ.then_normal ?_
      refine JQ.sub [(4, .bool false)] ?_
      refine JQ.mask [] [false] ?_
      refine J.ret ?_
      obtain rfl := Option.some.inj H0
      exact JQ.done' (rs := [.tmp 4]) (vs := [.bool false]) [] (.inr rfl) ⟨by kernel_rfl, trivial⟩ (fun _ h => Heap.to h) ⟨rfl, rfl⟩
  · refine JL.off 3 8 true (some 9) h4 ?_
    refine JL.off 3 8 true (some 10) h4 ?_
    refine JL.off 3 8 true (some 11) h4 ?_
    refine JL.off 3 8 true (some 12) h4 ?_
    refine JL.off 3 8 true (some 13) h4 ?_
    refine JL.val (.bool false) (some 14) (gives_pickF h4) ?_
    refine JL.mv (.bool false) ?_
    refine JL.off 10 15 true (some 16) rfl ?_
    refine JL.off 10 15 true (some 17) rfl ?_
    refine JL.off 10 15 true (some 18) rfl ?_
    refine JL.off 10 15 true (some 19) rfl ?_
    refine JL.val (.bool false) (some 20) (gives_pickF rfl) ?_
    refine JL.mv (.bool false) ?_
    refine JL.off 16 21 true (some 22) rfl ?_
    refine JL.off 16 21 true (some 23) rfl ?_
    refine JL.off 16 21 true (some 24) rfl ?_
    refine JL.val (.bool false) (some 25) (gives_pickF rfl) ?_
    refine JL.mv (.bool false) ?_
    refine JL.off 21 26 true (some 27) rfl ?_
    refine JL.off 21 26 true (some 28) rfl ?_
    refine JL.off 21 26 true (some 29) rfl ?_
    refine JL.val (.bool false) (some 30) (gives_pickF rfl) ?_
    refine JL.as (.bool false) ?_
    refine JL.nil ?_
    refine JQ.then_normal ?_
    refine JQ.sub [(4, .bool false)] ?_
    refine JQ.mask [] [false] ?_
    refine J.ret ?_
    obtain rfl := Option.some.inj H0
    exact JQ.done' (rs := [.tmp 4]) (vs := [.bool false]) [] (.inr rfl) ⟨by kernel_rfl, trivial⟩ (fun _ h => Heap.to h) ⟨rfl, rfl⟩

theorem ref33_All.ok (l1 : (List Pol)) (A2 : Option Addr) (c3 : Nat) (n5 : Int) (r : Int) (H0 : ref33_All.f l1 n5 = some r) :
    Does Try.prog 21 [.slice A2 l1.length c3, .int .i64 n5].toArray [At.rd A2 c3 fl_Pol.kd l1 true] [] false (fun v Δ => v = .int .i64 r ∧ Δ = []) := by
  refine Does.body (vs := [.slice A2 l1.length c3, .int .i64 n5]) Try.func21 rfl ⟨.inl rfl, trivial⟩ trivial fun w S => ?_
  unfold ref33_All.f at H0
  refine J.seq ?_
  refine J.region ?_
  refine JL.as (.int .i64 0) ?_
  refine JL.nil ?_
  refine JQ.then_normal ?_
  refine JQ.sub [(0, .slice A2 l1.length c3), (1, .int .i64 n5)] ?_
  refine J.seq ?_
  refine J.seq ?_
  refine J.region ?_
  refine JL.mv (.slice A2 l1.length c3) ?_
  refine JL.pur (.int .i64 (l1.length : Int)) (some 7) ?_
  refine JL.pur (.bool (decide (64 < (l1.length : Int)))) (some 8) ?_
  refine JL.nil ?_
  refine JQ.then_normal ?_
  refine JQ.sub [(0, .slice A2 l1.length c3), (1, .int .i64 n5), (8, .bool (decide (64 < (l1.length : Int))))] ?_
  rcases ite_cases H0 with ⟨h6, H0⟩ | ⟨h6, H0⟩
  · refine J.cond_true h6 ?_
    refine J.seq ?_
    refine J.region ?_
    refine JL.as (.int .i64 4) ?_
    refine JL.nil ?_
    refine JQ.then_normal ?_
    refine JQ.sub [(4, .int .i64 4)] ?_
    refine JQ.mask [] [false] ?_
    refine J.ret ?_
    refine JQ.then_ret ?_
    obtain rfl := Option.some.inj H0
    exact JQ.done' (rs := [.tmp 4]) (vs := [.int .i64 4]) [] (.inr rfl) ⟨by kernel_rfl, trivial⟩ (fun _ h => Heap.to h) ⟨rfl, rfl⟩
  · refine J.cond_false h6 ?_
    refine J.skip ?_
    refine JQ.then_normal ?_
    refine JQ.sub [(0, .slice A2 l1.length c3), (1, .int .i64 n5)] ?_
    refine J.seq ?_
    refine J.seq ?_
    refine J.region ?_
    refine JL.as (.int .i64 0) ?_
    refine JL.nil ?_
    refine JQ.then_normal ?_
    obtain ⟨o1, hit, H0⟩ := bind_some H0
    refine J.loop (σ := Int) (τ := Unit) (G := Unit) (G' := Unit) _ o1 (fun s g => [(0, .slice A2 l1.length c3), (1, .int .i64 n5), (5, .int .i64 s)]) (fun s g => [At.rd A2 c3 fl_Pol.kd l1 true]) (fun t => ref33_All.k2 = some r) (fun t g => []) (fun t g => []) 0 () hit (fun _ h => Heap.to h) ?_ ?_
    · clear hit
      rintro i25 ⟨⟩ st1 H1 hb1 hr1
      replace H1 : ref33_All.s1 l1 n5 i25 = some st1 := H1
      unfold ref33_All.s1 at H1
      refine JQ.sub [(0, .slice A2 l1.length c3), (1, .int .i64 n5), (5, .int .i64 i25)] ?_
      refine JQ.turn (Δ' := [At.rd A2 c3 fl_Pol.kd l1 true]) (fun _ h => h.to) ?_
      refine J.seq ?_
      refine J.seq ?_
      refine J.region ?_
      refine JL.mv (.int .i64 i25) ?_
      refine JL.mv (.slice A2 l1.length c3) ?_
      refine JL.pur (.int .i64 (l1.length : Int)) (some 11) ?_
      refine JL.pur (.bool (decide (i25 < (l1.length : Int)))) (some 12) ?_
      refine JL.nil ?_
      refine JQ.then_normal ?_
      refine JQ.sub [(0, .slice A2 l1.length c3), (1, .int .i64 n5), (5, .int .i64 i25), (12, .bool (decide (i25 < (l1.length : Int))))] ?_
      rcases ite_cases H1 with ⟨h34, H1⟩ | ⟨h34, H1⟩
      · refine J.cond_true h34 ?_
        refine J.skip ?_
        refine JQ.then_normal ?_
        refine JQ.sub [(0, .slice A2 l1.length c3), (1, .int .i64 n5), (5, .int .i64 i25)] ?_
        refine J.seq ?_
        refine J.block ?_
        refine J.seq ?_
        refine J.region ?_
        refine JL.mv (.slice A2 l1.length c3) ?_
        refine JL.mv (.int .i64 i25) ?_
        obtain ⟨⟨h35, h36⟩, H1⟩ := ite_must H1
        refine JL.ixAddr 0 15 c3 .i64 (elems_rd A2 c3 fl_Pol.kd l1 true) Try.underlying39 tySize_57 h35 h36 fun g37 o38 hA => ?_
        subst hA
        refine JL.val (.agg #[.int .i64 ((ix l1 i25).I), .int .i64 ((ix l1 i25).J), .int .i64 ((ix l1 i25).V.e0.Re), .int .i64 ((ix l1 i25).V.e0.Im), .int .i64 ((ix l1 i25).V.e0.Den), .int .i64 ((ix l1 i25).V.e1.Re), .int .i64 ((ix l1 i25).V.e1.Im), .int .i64 ((ix l1 i25).V.e1.Den), .int .i64 ((ix l1 i25).V.e2.Re), .int .i64 ((ix l1 i25).V.e2.Im), .int .i64 ((ix l1 i25).V.e2.Den), .int .i64 ((ix l1 i25).V.e3.Re), .int .i64 ((ix l1 i25).V.e3.Im), .int .i64 ((ix l1 i25).V.e3.Den), .int .i64 ((ix l1 i25).N)]) (some 18) (gives_loadEl (f := fl_Pol) 0 0 i25 (elems_rd (some ⟨g37, o38, none⟩) c3 fl_Pol.kd l1 true) h35 h36 tySize_57 (.inl ⟨tyAgg_57, rfl⟩)) ?_
        refine JL.mv (.int .i64 n5) ?_
        obtain ⟨t39, hc40, H1⟩ := bind_some H1
        refine JL.call [] [] [] (ref33_Seen.ok (ix l1 i25) n5 _ hc40) trivial ?_
        rintro _ _ ⟨rfl, rfl⟩
        refine JL.pur (.bool (!t39)) (some 21) ?_
        refine JL.nil ?_
        refine JQ.then_normal ?_
        refine JQ.sub [(0, .slice (some ⟨g37, o38, none⟩) l1.length c3), (1, .int .i64 n5), (5, .int .i64 i25), (21, .bool (!t39))] ?_
        rcases ite_cases H1 with ⟨h41, H1⟩ | ⟨h41, H1⟩
        · refine J.cond_true h41 ?_
          refine J.seq ?_
          refine J.region ?_
          refine JL.as (.int .i64 8) ?_
          refine JL.nil ?_
          refine JQ.then_normal ?_
          refine JQ.sub [(4, .int .i64 8)] ?_
          refine JQ.mask [] [false] ?_
          refine J.ret ?_
          refine JQ.blk_ret ?_
          refine JQ.then_ret ?_
          refine JQ.then_ret ?_
          refine JQ.blk_ret ?_
          refine JQ.met_ret ?_
          refine JQ.then_ret ?_
          rw [hr1 _ (Option.some.inj H1).symm, fin_ret] at H0
          obtain rfl := Option.some.inj H0
          exact JQ.done' (rs := [.tmp 4]) (vs := [.int .i64 8]) [] (.inr rfl) ⟨by kernel_rfl, trivial⟩ (fun _ h => Heap.to h) ⟨rfl, rfl⟩
        · refine J.cond_false h41 ?_
          refine J.skip ?_
          refine JQ.blk_normal ?_
          refine JQ.then_normal ?_
          refine JQ.sub [(0, .slice (some ⟨g37, o38, none⟩) l1.length c3), (1, .int .i64 n5), (5, .int .i64 i25)] ?_
          refine J.region ?_
          refine JL.mv (.int .i64 i25) ?_
          refine JL.pur (.int .i64 (w64 (i25 + 1))) (some 14) ?_
          refine JL.as (.int .i64 (w64 (i25 + 1))) ?_
          refine JL.nil ?_
          refine JQ.then_normal ?_
          exact JQ.again (w64 (i25 + 1)) () (Option.some.inj H1).symm (fun _ h => Heap.to h)
      · refine J.cond_false h34 ?_
        refine J.exit ?_
        refine JQ.then_exit ?_
        refine JQ.then_exit ?_
        refine JQ.blk_exit ?_
        rw [hb1 _ (Option.some.inj H1).symm, fin_brk] at H0
        exact JQ.met () () H0 (fun _ h => Heap.to (Heap.pick [] (by decide) h))
    · clear hit H0
      rintro ⟨⟩ ⟨⟩ H0
      replace H0 : ref33_All.k2 = some r := H0
      unfold ref33_All.k2 at H0
      refine JQ.sub [] ?_
      refine JQ.turn (Δ' := []) (fun _ h => h.to) ?_
      refine JQ.then_normal ?_
      refine J.seq ?_
      refine J.region ?_
      refine JL.as (.int .i64 0) ?_
      refine JL.nil ?_
      refine JQ.then_normal ?_
      refine J.ret ?_
      obtain rfl := Option.some.inj H0
      exact JQ.done' (rs := [.tmp 4]) (vs := [.int .i64 0]) [] (.inr rfl) ⟨by kernel_rfl, trivial⟩ (fun _ h => Heap.to h) ⟨rfl, rfl⟩

theorem law33_JonesGroup.ok (s1 : (List (A4 Cx))) (A2 : Option Addr) (c3 : Nat) (t5 : (List (A4 Cx))) (A6 : Option Addr) (c7 : Nat) (l9 : (List Pol)) (A10 : Option Addr) (c11 : Nat) (r : Bool) (H0 : law33_JonesGroup.f s1 t5 l9 = some r) :
    Does Try.prog 4 [.slice A2 s1.length c3, .slice A6 t5.length c7, .slice A10 l9.length c11].toArray [At.rd A2 c3 ((flArr4 fl_Cx).kd) s1 true, At.rd A6 c7 ((flArr4 fl_Cx).kd) t5 true, At.rd A10 c11 fl_Pol.kd l9 true] [] false (fun v Δ => v = .bool r ∧ Δ = []) := by
  refine Does.body (vs := [.slice A2 s1.length c3, .slice A6 t5.length c7, .slice A10 l9.length c11]) Try.func4 rfl ⟨.inl rfl, .inl rfl, .inl rfl, trivial⟩ trivial fun w S => ?_
  unfold law33_JonesGroup.f at H0
  refine J.seq ?_
  refine J.region ?_
  refine JL.as (.bool false) ?_
  refine JL.nil ?_
  refine JQ.then_normal ?_
  refine JQ.sub [(0, .slice A2 s1.length c3), (1, .slice A6 t5.length c7), (2, .slice A10 l9.length c11)] ?_
  refine J.seq ?_
  refine J.region ?_
  obtain ⟨t13, hc14, H0⟩ := bind_some H0
  refine JL.call [] [] [] (law33_alive.ok _ hc14) trivial ?_
  rintro _ _ ⟨rfl, rfl⟩
  refine JL.as (.bool t13) ?_
  refine JL.nil ?_
  refine JQ.then_normal ?_
  refine JQ.sub [(0, .slice A2 s1.length c3), (1, .slice A6 t5.length c7), (2, .slice A10 l9.length c11), (7, .bool t13)] ?_
  refine J.seq ?_
  refine J.join (T := Bool) (G := Unit) (fun t => law33_JonesGroup.k1 s1 t5 l9 t13 t = some r) (fun t g => [(0, .slice A2 s1.length c3), (1, .slice A6 t5.length c7), (2, .slice A10 l9.length c11), (7, .bool t13), (51, .bool t)]) (fun t g => [At.rd A2 c3 ((flArr4 fl_Cx).kd) s1 true, At.rd A6 c7 ((flArr4 fl_Cx).kd) t5 true, At.rd A10 c11 fl_Pol.kd l9 true]) ?_ ?_
  · refine J.region ?_
    refine JL.mv (.slice A2 s1.length c3) ?_
    obtain ⟨t1358, hc1359, H0⟩ := bind_some H0
    refine JL.call [] [] [] (ref33_Table.ok s1 A2 c3 _ hc1359) ⟨pre_any 0 (view_rd A2 c3 ((flArr4 fl_Cx).kd) s1 true true), trivial⟩ ?_
    rintro _ _ ⟨rfl, rfl⟩
    refine JL.pur (.bool (!decide (t1358 = 0))) (some 28) ?_
    refine JL.mv (.bool (!decide (t1358 = 0))) ?_
    rcases ite_cases H0 with ⟨h1360, H0⟩ | ⟨h1360, H0⟩
    · refine JL.off 3 29 false (some 30) h1360 ?_
      refine JL.off 3 29 false (some 31) h1360 ?_
      refine JL.off 3 29 false (some 32) h1360 ?_
      refine JL.val (.bool true) (some 33) (gives_pickT h1360) ?_
      refine JL.mv (.bool true) ?_
      refine JL.off 8 34 false (some 35) rfl ?_
      refine JL.off 8 34 false (some 36) rfl ?_
      refine JL.off 8 34 false (some 37) rfl ?_
      refine JL.off 8 34 false (some 38) rfl ?_
      refine JL.off 8 34 false (some 39) rfl ?_
      refine JL.val (.bool true) (some 40) (gives_pickT rfl) ?_
      refine JL.mv (.bool true) ?_
      refine JL.off 15 41 false (some 42) rfl ?_
      refine JL.off 15 41 false (some 43) rfl ?_
      refine JL.off 15 41 false (some 44) rfl ?_
      refine JL.off 15 41 false (some 45) rfl ?_
      refine JL.off 15 41 false (some 46) rfl ?_
      refine JL.val (.bool true) (some 47) (gives_pickT rfl) ?_
      refine JL.mv (.bool true) ?_
      refine JL.off 22 48 false (some 49) rfl ?_
      refine JL.off 22 48 false (some 50) rfl ?_
      refine JL.val (.bool true) (some 51) (gives_pickT rfl) ?_
      refine JL.nil ?_
      refine JQ.then_normal ?_
      exact JQ.meet true () H0 (fun _ h => Heap.to h)
    · refine JL.on 3 29 h1360 ?_
      refine JL.mv (.slice A6 t5.length c7) ?_
      refine JL.on 3 29 h1360 ?_
      obtain ⟨t1361, hc1362, H0⟩ := bind_some H0
      refine JL.call [] [] [] (ref33_Table.ok t5 A6 c7 _ hc1362) ⟨pre_any 1 (view_rd A6 c7 ((flArr4 fl_Cx).kd) t5 true true), trivial⟩ ?_
      rintro _ _ ⟨rfl, rfl⟩
      refine JL.on 3 29 h1360 ?_
      refine JL.pur (.bool (!decide (t1361 = 0))) (some 32) ?_
      refine JL.val (.bool (!decide (t1361 = 0))) (some 33) (gives_pickF h1360) ?_
      refine JL.mv (.bool (!decide (t1361 = 0))) ?_
      rcases ite_cases H0 with ⟨h1363, H0⟩ | ⟨h1363, H0⟩
      · refine JL.off 8 34 false (some 35) h1363 ?_
        refine JL.off 8 34 false (some 36) h1363 ?_
        refine JL.off 8 34 false (some 37) h1363 ?_
        refine JL.off 8 34 false (some 38) h1363 ?_
        refine JL.off 8 34 false (some 39) h1363 ?_
        refine JL.val (.bool true) (some 40) (gives_pickT h1363) ?_
        refine JL.mv (.bool true) ?_
        refine JL.off 15 41 false (some 42) rfl ?_
        refine JL.off 15 41 false (some 43) rfl ?_
        refine JL.off 15 41 false (some 44) rfl ?_
        refine JL.off 15 41 false (some 45) rfl ?_
        refine JL.off 15 41 false (some 46) rfl ?_
        refine JL.val (.bool true) (some 47) (gives_pickT rfl) ?_
        refine JL.mv (.bool true) ?_
        refine JL.off 22 48 false (some 49) rfl ?_
        refine JL.off 22 48 false (some 50) rfl ?_
        refine JL.val (.bool true) (some 51) (gives_pickT rfl) ?_
        refine JL.nil ?_
        refine JQ.then_normal ?_
        exact JQ.meet true () H0 (fun _ h => Heap.to h)
      · refine JL.on 8 34 h1363 ?_
        refine JL.mv (.slice A2 s1.length c3) ?_
        refine JL.on 8 34 h1363 ?_
        refine JL.pur (.int .i64 (s1.length : Int)) (some 36) ?_
        refine JL.on 8 34 h1363 ?_
        refine JL.mv (.slice A6 t5.length c7) ?_
        refine JL.on 8 34 h1363 ?_
        refine JL.pur (.int .i64 (t5.length : Int)) (some 38) ?_
        refine JL.on 8 34 h1363 ?_
        refine JL.pur (.bool (!decide ((s1.length : Int) = (t5.length : Int)))) (some 39) ?_
        refine JL.val (.bool (!decide ((s1.length : Int) = (t5.length : Int)))) (some 40) (gives_pickF h1363) ?_
        refine JL.mv (.bool (!decide ((s1.length : Int) = (t5.length : Int)))) ?_
        rcases ite_cases H0 with ⟨h1364, H0⟩ | ⟨h1364, H0⟩
        · refine JL.off 15 41 false (some 42) h1364 ?_
          refine JL.off 15 41 false (some 43) h1364 ?_
          refine JL.off 15 41 false (some 44) h1364 ?_
          refine JL.off 15 41 false (some 45) h1364 ?_
          refine JL.off 15 41 false (some 46) h1364 ?_
          refine JL.val (.bool true) (some 47) (gives_pickT h1364) ?_
          refine JL.mv (.bool true) ?_
          refine JL.off 22 48 false (some 49) rfl ?_
          refine JL.off 22 48 false (some 50) rfl ?_
          refine JL.val (.bool true) (some 51) (gives_pickT rfl) ?_
          refine JL.nil ?_
          refine JQ.then_normal ?_
          exact JQ.meet true () H0 (fun _ h => Heap.to h)
        · refine JL.on 15 41 h1364 ?_
          refine JL.mv (.slice A10 l9.length c11) ?_
          refine JL.on 15 41 h1364 ?_
          refine JL.mv (.slice A2 s1.length c3) ?_
          refine JL.on 15 41 h1364 ?_
          refine JL.pur (.int .i64 (s1.length : Int)) (some 44) ?_
          refine JL.on 15 41 h1364 ?_
          obtain ⟨t1365, hc1366, H0⟩ := bind_some H0
          refine JL.call [] [] [] (ref33_All.ok l9 A10 c11 (s1.length : Int) _ hc1366) ⟨pre_any 2 (view_rd A10 c11 fl_Pol.kd l9 true true), trivial⟩ ?_
          rintro _ _ ⟨rfl, rfl⟩
          refine JL.on 15 41 h1364 ?_
          refine JL.pur (.bool (!decide (t1365 = 0))) (some 46) ?_
          refine JL.val (.bool (!decide (t1365 = 0))) (some 47) (gives_pickF h1364) ?_
          refine JL.mv (.bool (!decide (t1365 = 0))) ?_
          rcases ite_cases H0 with ⟨h1367, H0⟩ | ⟨h1367, H0⟩
          · refine JL.off 22 48 false (some 49) h1367 ?_
            refine JL.off 22 48 false (some 50) h1367 ?_
            refine JL.val (.bool true) (some 51) (gives_pickT h1367) ?_
            refine JL.nil ?_
            refine JQ.then_normal ?_
            exact JQ.meet true () H0 (fun _ h => Heap.to h)
          · refine JL.on 22 48 h1367 ?_
            refine JL.mv (.bool t13) ?_
            refine JL.on 22 48 h1367 ?_
            refine JL.pur (.bool (!t13)) (some 50) ?_
            refine JL.val (.bool (!t13)) (some 51) (gives_pickF h1367) ?_
            refine JL.nil ?_
            refine JQ.then_normal ?_
            exact JQ.meet (!t13) () H0 (fun _ h => Heap.to h)
  · clear H0
    rintro x25 ⟨⟩ H0
    replace H0 : law33_JonesGroup.k1 s1 t5 l9 t13 x25 = some r := H0
    unfold law33_JonesGroup.k1 at H0
    refine JQ.sub [(0, .slice A2 s1.length c3), (1, .slice A6 t5.length c7), (2, .slice A10 l9.length c11), (7, .bool t13), (51, .bool x25)] ?_
    refine JQ.turn (Δ' := [At.rd A2 c3 ((flArr4 fl_Cx).kd) s1 true, At.rd A6 c7 ((flArr4 fl_Cx).kd) t5 true, At.rd A10 c11 fl_Pol.kd l9 true]) (fun _ h => h.to) ?_
    rcases ite_cases H0 with ⟨h26, H0⟩ | ⟨h26, H0⟩
    · refine J.cond_true h26 ?_
      refine J.seq ?_
      refine J.region ?_
      refine JL.mv (.bool t13) ?_
      refine JL.as (.bool t13) ?_
      refine JL.nil ?_
      refine JQ.then_normal ?_
      refine JQ.sub [(6, .bool t13)] ?_
      refine JQ.mask [] [false, false, false] ?_
      refine J.ret ?_
      refine JQ.then_ret ?_
      obtain rfl := Option.some.inj H0
      exact JQ.done' (rs := [.tmp 6]) (vs := [.bool t13]) [] (.inr rfl) ⟨by kernel_rfl, trivial⟩ (fun _ h => Heap.to h) ⟨rfl, rfl⟩
    · refine J.cond_false h26 ?_
      refine J.skip ?_
      refine JQ.then_normal ?_
      refine JQ.sub [(0, .slice A2 s1.length c3), (1, .slice A6 t5.length c7), (2, .slice A10 l9.length c11), (7, .bool t13)] ?_
      refine J.seq ?_
      refine J.region ?_
      refine JL.mv (.slice A2 s1.length c3) ?_
      refine JL.mv (.slice A10 l9.length c11) ?_
      obtain ⟨t27, hc28, H0⟩ := bind_some H0
      refine JL.call [] [] [] (jones_Act.ok s1 A2 c3 l9 A10 c11 _ hc28) ⟨pre_any 0 (view_rd A2 c3 ((flArr4 fl_Cx).kd) s1 true true), ⟨pre_any 2 (view_rd A10 c11 fl_Pol.kd l9 true true), trivial⟩⟩ ?_
      rintro _ _ ⟨A29, c30, rfl, rfl⟩
      refine JL.mv (.tuple #[.slice A29 t27.1.length c30, .int .i64 t27.2]) ?_
      refine JL.pur (.slice A29 t27.1.length c30) (some 57) ?_
      refine JL.pur (.int .i64 t27.2) (some 58) ?_
      refine JL.as (.slice A29 t27.1.length c30) ?_
      refine JL.as (.int .i64 t27.2) ?_
      refine JL.nil ?_
      refine JQ.then_normal ?_
      refine JQ.sub [(0, .slice A2 s1.length c3), (1, .slice A6 t5.length c7), (2, .slice A10 l9.length c11), (7, .bool t13), (8, .slice A29 t27.1.length c30), (9, .int .i64 t27.2)] ?_
      refine J.seq ?_
      refine J.seq ?_
      refine J.region ?_
      refine JL.mv (.int .i64 t27.2) ?_
      refine JL.pur (.bool (!decide (t27.2 = 0))) (some 60) ?_
      refine JL.nil ?_
      refine JQ.then_normal ?_
      refine JQ.sub [(0, .slice A2 s1.length c3), (1, .slice A6 t5.length c7), (2, .slice A10 l9.length c11), (7, .bool t13), (8, .slice A29 t27.1.length c30), (9, .int .i64 t27.2), (60, .bool (!decide (t27.2 = 0)))] ?_
      rcases ite_cases H0 with ⟨h32, H0⟩ | ⟨h32, H0⟩
      · refine J.cond_true h32 ?_
        refine J.seq ?_
        refine J.region ?_
        refine JL.mv (.bool t13) ?_
        refine JL.mv (.bool t13) ?_
        rcases ite_cases H0 with ⟨h33, H0⟩ | ⟨h33, H0⟩
        · refine JL.on 1 62 h33 ?_
          refine JL.mv (.int .i64 t27.2) ?_
          refine JL.on 1 62 h33 ?_
          refine JL.pur (.bool (decide (t27.2 = 16))) (some 64) ?_
          refine JL.val (.bool (decide (t27.2 = 16))) (some 65) (gives_pickT h33) ?_
          refine JL.as (.bool (decide (t27.2 = 16))) ?_
          refine JL.nil ?_
          refine JQ.then_normal ?_
          refine JQ.sub [(6, .bool (decide (t27.2 = 16)))] ?_
          refine JQ.mask [] [false, false, false, false] ?_
          refine J.ret ?_
          refine JQ.then_ret ?_
          obtain rfl := Option.some.inj H0
          exact JQ.done' (rs := [.tmp 6]) (vs := [.bool (decide (t27.2 = 16))]) [] (.inr rfl) ⟨by kernel_rfl, trivial⟩ (fun _ h => Heap.to h) ⟨rfl, rfl⟩
        · refine JL.off 1 62 true (some 63) h33 ?_
          refine JL.off 1 62 true (some 64) h33 ?_
          refine JL.val (.bool false) (some 65) (gives_pickF h33) ?_
          refine JL.as (.bool false) ?_
          refine JL.nil ?_
          refine JQ.then_normal ?_
          refine JQ.sub [(6, .bool false)] ?_
          refine JQ.mask [] [false, false, false, false] ?_
          refine J.ret ?_
          refine JQ.then_ret ?_
          obtain rfl := Option.some.inj H0
          exact JQ.done' (rs := [.tmp 6]) (vs := [.bool false]) [] (.inr rfl) ⟨by kernel_rfl, trivial⟩ (fun _ h => Heap.to h) ⟨rfl, rfl⟩
      · refine J.cond_false h32 ?_
        refine J.skip ?_
        refine JQ.then_normal ?_
        refine JQ.sub [(0, .slice A2 s1.length c3), (1, .slice A6 t5.length c7), (2, .slice A10 l9.length c11), (7, .bool t13), (8, .slice A29 t27.1.length c30)] ?_
        refine J.seq ?_
        refine J.region ?_
        refine JL.as (.slice none 0 0) ?_
        refine JL.as (.slice none 0 0) ?_
        refine JL.nil ?_
        refine JQ.then_normal ?_
        refine J.seq ?_
        refine J.region ?_
        refine JL.as (.bool true) ?_
        refine JL.as (.bool true) ?_
        refine JL.nil ?_
        refine JQ.then_normal ?_
        refine J.seq ?_
        refine J.seq ?_
        refine J.region ?_
        refine JL.as (.int .i64 0) ?_
        refine JL.nil ?_
        refine JQ.then_normal ?_
        obtain ⟨o1, hit, H0⟩ := bind_some H0
        refine J.loop (σ := ((List (A4 Cx)) × (List (A4 Cx)) × Bool × Bool × Int)) (τ := ((List (A4 Cx)) × (List (A4 Cx)) × Bool × Bool)) (G := ((Option Addr) × Nat × (Option Addr) × Nat × (Option Addr) × Nat)) (G' := ((Option Addr) × Nat × (Option Addr) × Nat)) _ o1 (fun s g => [(0, .slice g.1 s1.length g.2.1), (1, .slice A6 t5.length c7), (2, .slice A10 l9.length c11), (7, .bool t13), (8, .slice A29 t27.1.length c30), (10, .slice g.2.2.1 s.1.length g.2.2.2.1), (11, .slice g.2.2.2.2.1 s.2.1.length g.2.2.2.2.2), (12, .bool s.2.2.1), (13, .bool s.2.2.2.1), (14, .int .i64 s.2.2.2.2)]) (fun s g => [At.rd g.1 g.2.1 ((flArr4 fl_Cx).kd) s1 true, At.rd A6 c7 ((flArr4 fl_Cx).kd) t5 true, At.rd A10 c11 fl_Pol.kd l9 true, At.row A29 c30 57 fl_Pol.kd t27.1 false, At.row g.2.2.1 g.2.2.2.1 25 ((flArr4 fl_Cx).kd) s.1 false, At.row g.2.2.2.2.1 g.2.2.2.2.2 25 ((flArr4 fl_Cx).kd) s.2.1 false]) (fun t => law33_JonesGroup.k21 t5 l9 t13 t27 t.1 t.2.1 t.2.2.1 t.2.2.2 = some r) (fun t g => [(1, .slice A6 t5.length c7), (2, .slice A10 l9.length c11), (7, .bool t13), (8, .slice A29 t27.1.length c30), (10, .slice g.1 t.1.length g.2.1), (11, .slice g.2.2.1 t.2.1.length g.2.2.2), (12, .bool t.2.2.1), (13, .bool t.2.2.2)]) (fun t g => [At.rd A6 c7 ((flArr4 fl_Cx).kd) t5 true, At.rd A10 c11 fl_Pol.kd l9 true, At.row A29 c30 57 fl_Pol.kd t27.1 false, At.row g.1 g.2.1 25 ((flArr4 fl_Cx).kd) t.1 false, At.row g.2.2.1 g.2.2.2 25 ((flArr4 fl_Cx).kd) t.2.1 false]) ([], [], true, true, 0) (A2, c3, none, 0, none, 0) hit (fun _ h => Heap.to (Heap.addRow0 (α := (A4 Cx)) 25 ((flArr4 fl_Cx).kd) false (Heap.addRow0 (α := (A4 Cx)) 25 ((flArr4 fl_Cx).kd) false h))) ?_ ?_
        · clear hit
          rintro ⟨both819, back823, all827, inverse828, i829⟩ ⟨A816, c817, A820, c821, A824, c825⟩ st1 H1 hb1 hr1
          replace H1 : law33_JonesGroup.s20 s1 t5 both819 back823 all827 inverse828 i829 = some st1 := H1
          unfold law33_JonesGroup.s20 at H1
          refine JQ.sub [(0, .slice A816 s1.length c817), (1, .slice A6 t5.length c7), (2, .slice A10 l9.length c11), (7, .bool t13), (8, .slice A29 t27.1.length c30), (10, .slice A820 both819.length c821), (11, .slice A824 back823.length c825), (12, .bool all827), (13, .bool inverse828), (14, .int .i64 i829)] ?_
          refine JQ.turn (Δ' := [At.rd A816 c817 ((flArr4 fl_Cx).kd) s1 true, At.rd A6 c7 ((flArr4 fl_Cx).kd) t5 true, At.rd A10 c11 fl_Pol.kd l9 true, At.row A29 c30 57 fl_Pol.kd t27.1 false, At.row A820 c821 25 ((flArr4 fl_Cx).kd) both819 false, At.row A824 c825 25 ((flArr4 fl_Cx).kd) back823 false]) (fun _ h => h.to) ?_
          refine J.seq ?_
          refine J.seq ?_
          refine J.region ?_
          refine JL.mv (.int .i64 i829) ?_
          refine JL.mv (.slice A816 s1.length c817) ?_
          refine JL.pur (.int .i64 (s1.length : Int)) (some 68) ?_
          refine JL.pur (.bool (decide (i829 < (s1.length : Int)))) (some 69) ?_
          refine JL.nil ?_
          refine JQ.then_normal ?_
          refine JQ.sub [(0, .slice A816 s1.length c817), (1, .slice A6 t5.length c7), (2, .slice A10 l9.length c11), (7, .bool t13), (8, .slice A29 t27.1.length c30), (10, .slice A820 both819.length c821), (11, .slice A824 back823.length c825), (12, .bool all827), (13, .bool inverse828), (14, .int .i64 i829), (69, .bool (decide (i829 < (s1.length : Int))))] ?_
          rcases ite_cases H1 with ⟨h1128, H1⟩ | ⟨h1128, H1⟩
          · refine J.cond_true h1128 ?_
            refine J.skip ?_
            refine JQ.then_normal ?_
            refine JQ.sub [(0, .slice A816 s1.length c817), (1, .slice A6 t5.length c7), (2, .slice A10 l9.length c11), (7, .bool t13), (8, .slice A29 t27.1.length c30), (10, .slice A820 both819.length c821), (11, .slice A824 back823.length c825), (12, .bool all827), (13, .bool inverse828), (14, .int .i64 i829)] ?_
            refine J.join (T := ((List (A4 Cx)) × (List (A4 Cx)) × Bool × Bool)) (G := ((Option Addr) × Nat × (Option Addr) × Nat × (Option Addr) × Nat)) (fun t => law33_JonesGroup.k28 i829 t.1 t.2.1 t.2.2.1 t.2.2.2 = some st1) (fun t g => [(0, .slice g.1 s1.length g.2.1), (1, .slice A6 t5.length c7), (2, .slice A10 l9.length c11), (7, .bool t13), (8, .slice A29 t27.1.length c30), (10, .slice g.2.2.1 t.1.length g.2.2.2.1), (11, .slice g.2.2.2.2.1 t.2.1.length g.2.2.2.2.2), (12, .bool t.2.2.1), (13, .bool t.2.2.2), (14, .int .i64 i829)]) (fun t g => [At.rd g.1 g.2.1 ((flArr4 fl_Cx).kd) s1 true, At.rd A6 c7 ((flArr4 fl_Cx).kd) t5 true, At.rd A10 c11 fl_Pol.kd l9 true, At.row A29 c30 57 fl_Pol.kd t27.1 false, At.row g.2.2.1 g.2.2.2.1 25 ((flArr4 fl_Cx).kd) t.1 false, At.row g.2.2.2.2.1 g.2.2.2.2.2 25 ((flArr4 fl_Cx).kd) t.2.1 false]) ?_ ?_
            · refine J.block ?_
              refine J.join (T := ((A4 Cx) × Int)) (G := Nat) (fun t => law33_JonesGroup.k29 s1 both819 back823 all827 inverse828 i829 t.1 t.2 = some st1) (fun t g => [(0, .slice A816 s1.length c817), (1, .slice A6 t5.length c7), (2, .slice A10 l9.length c11), (7, .bool t13), (8, .slice A29 t27.1.length c30), (10, .slice A820 both819.length c821), (11, .slice A824 back823.length c825), (12, .bool all827), (13, .bool inverse828), (14, .int .i64 i829), (15, .pointer (some ⟨g, 0, none⟩)), (16, .int .i64 t.2)]) (fun t g => [At.rd A816 c817 ((flArr4 fl_Cx).kd) s1 true, At.rd A6 c7 ((flArr4 fl_Cx).kd) t5 true, At.rd A10 c11 fl_Pol.kd l9 true, At.row A29 c30 57 fl_Pol.kd t27.1 false, At.row A820 c821 25 ((flArr4 fl_Cx).kd) both819 false, At.row A824 c825 25 ((flArr4 fl_Cx).kd) back823 false, At.box g 25 [.int .i64 t.1.e0.Re, .int .i64 t.1.e0.Im, .int .i64 t.1.e0.Den, .int .i64 t.1.e1.Re, .int .i64 t.1.e1.Im, .int .i64 t.1.e1.Den, .int .i64 t.1.e2.Re, .int .i64 t.1.e2.Im, .int .i64 t.1.e2.Den, .int .i64 t.1.e3.Re, .int .i64 t.1.e3.Im, .int .i64 t.1.e3.Den]]) ?_ ?_
              · obtain ⟨⟨h1329, h1330⟩, H1⟩ := ite_must H1
                obtain ⟨⟨h1333, h1334⟩, H1⟩ := ite_must H1
                obtain ⟨t1337, hc1338, H1⟩ := bind_some H1
                refine JQ.openA 1 (elems_rd A6 c7 ((flArr4 fl_Cx).kd) t5 true) h1329 h1330 fun g1340 o1341 hA => ?_
                subst hA
                refine JQ.openA 0 (elems_rd A816 c817 ((flArr4 fl_Cx).kd) s1 true) h1333 h1334 fun g1342 o1343 hA => ?_
                subst hA
                refine JY.start [13] #[false, false, false, false, false, false, false, false, false, false, false, false, false, false, false] ?_
                refine JY.pur (hi := rfl) 0 #[true, false, false, false, false, false, false, false, false, false, false, false, false, false, false] (.slice (some ⟨g1340, o1341, none⟩) t5.length c7) (some 73) want ?_
                refine JY.pur (hi := rfl) 1 #[true, true, false, false, false, false, false, false, false, false, false, false, false, false, false] (.int .i64 i829) (some 74) want ?_
                obtain ⟨h1344, h1345⟩ : 0 ≤ i829 ∧ i829 < (t5.length : Int) := ⟨h1329, h1330⟩
                refine JY.puw (hi := rfl) 2 #[true, true, true, false, false, false, false, false, false, false, false, false, false, false, false] (.pointer (some ⟨g1340, o1341 + i829.toNat * 12, none⟩)) (some 75) want (givesW_ixSl (g := g1340) (o := o1341) (n := t5.length) (i := i829) 12 c7 .i64 Try.underlying38 tySize_25 h1344 h1345) ?_
                refine JY.take (hi := rfl) 3 #[true, true, true, true, false, false, false, false, false, false, false, false, false, false, false] (.agg #[.int .i64 ((ix t5 i829).e0.Re), .int .i64 ((ix t5 i829).e0.Im), .int .i64 ((ix t5 i829).e0.Den), .int .i64 ((ix t5 i829).e1.Re), .int .i64 ((ix t5 i829).e1.Im), .int .i64 ((ix t5 i829).e1.Den), .int .i64 ((ix t5 i829).e2.Re), .int .i64 ((ix t5 i829).e2.Im), .int .i64 ((ix t5 i829).e2.Den), .int .i64 ((ix t5 i829).e3.Re), .int .i64 ((ix t5 i829).e3.Im), .int .i64 ((ix t5 i829).e3.Den)]) (some 76) [true, true, true, true, true, true] want (gives_loadEl (f := (flArr4 fl_Cx)) 1 0 i829 (elems_rd (some ⟨g1340, o1341, none⟩) c7 ((flArr4 fl_Cx).kd) t5 true) h1344 h1345 tySize_25 (.inl ⟨tyAgg_25, rfl⟩)) ?_
                refine JY.pur (hi := rfl) 4 #[true, true, true, true, true, false, false, false, false, false, false, false, false, false, false] (.slice (some ⟨g1342, o1343, none⟩) s1.length c817) (some 77) want ?_
                refine JY.pur (hi := rfl) 5 #[true, true, true, true, true, true, false, false, false, false, false, false, false, false, false] (.int .i64 i829) (some 78) want ?_
                obtain ⟨h1348, h1349⟩ : 0 ≤ i829 ∧ i829 < (s1.length : Int) := ⟨h1333, h1334⟩
                refine JY.puw (hi := rfl) 6 #[true, true, true, true, true, true, true, false, false, false, false, false, false, false, false] (.pointer (some ⟨g1342, o1343 + i829.toNat * 12, none⟩)) (some 79) want (givesW_ixSl (g := g1342) (o := o1343) (n := s1.length) (i := i829) 12 c817 .i64 Try.underlying38 tySize_25 h1348 h1349) ?_
                refine JY.take (hi := rfl) 7 #[true, true, true, true, true, true, true, true, false, false, false, false, false, false, false] (.agg #[.int .i64 ((ix s1 i829).e0.Re), .int .i64 ((ix s1 i829).e0.Im), .int .i64 ((ix s1 i829).e0.Den), .int .i64 ((ix s1 i829).e1.Re), .int .i64 ((ix s1 i829).e1.Im), .int .i64 ((ix s1 i829).e1.Den), .int .i64 ((ix s1 i829).e2.Re), .int .i64 ((ix s1 i829).e2.Im), .int .i64 ((ix s1 i829).e2.Den), .int .i64 ((ix s1 i829).e3.Re), .int .i64 ((ix s1 i829).e3.Im), .int .i64 ((ix s1 i829).e3.Den)]) (some 80) [true, true, true, true, true, true] want (gives_loadEl (f := (flArr4 fl_Cx)) 0 0 i829 (elems_rd (some ⟨g1342, o1343, none⟩) c817 ((flArr4 fl_Cx).kd) s1 true) h1348 h1349 tySize_25 (.inl ⟨tyAgg_25, rfl⟩)) ?_
                refine JY.all [8, 12] ⟨⟨_, rfl, ?_⟩, ⟨_, rfl, ?_⟩, trivial⟩
                · refine JL.call [] [] [] (jones_Mul.ok (ix t5 i829) (ix s1 i829) _ hc1338) trivial ?_
                  rintro _ _ ⟨rfl, rfl⟩
                  refine JL.nil ?_
                  refine JY.ran #[true, true, true, true, true, true, true, true, true, false, false, false, false, false, false] [true, true, true, true, true, true] ?_
                  refine JY.pur (hi := rfl) 9 #[true, true, true, true, true, true, true, true, true, true, false, false, false, false, false] (.tuple #[.agg #[.int .i64 t1337.1.e0.Re, .int .i64 t1337.1.e0.Im, .int .i64 t1337.1.e0.Den, .int .i64 t1337.1.e1.Re, .int .i64 t1337.1.e1.Im, .int .i64 t1337.1.e1.Den, .int .i64 t1337.1.e2.Re, .int .i64 t1337.1.e2.Im, .int .i64 t1337.1.e2.Den, .int .i64 t1337.1.e3.Re, .int .i64 t1337.1.e3.Im, .int .i64 t1337.1.e3.Den], .int .i64 t1337.2]) (some 72) want ?_
                  refine JY.pur (hi := rfl) 10 #[true, true, true, true, true, true, true, true, true, true, true, false, false, false, false] (.agg #[.int .i64 t1337.1.e0.Re, .int .i64 t1337.1.e0.Im, .int .i64 t1337.1.e0.Den, .int .i64 t1337.1.e1.Re, .int .i64 t1337.1.e1.Im, .int .i64 t1337.1.e1.Den, .int .i64 t1337.1.e2.Re, .int .i64 t1337.1.e2.Im, .int .i64 t1337.1.e2.Den, .int .i64 t1337.1.e3.Re, .int .i64 t1337.1.e3.Im, .int .i64 t1337.1.e3.Den]) (some 82) want ?_
                  refine JY.pur (hi := rfl) 11 #[true, true, true, true, true, true, true, true, true, true, true, true, false, false, false] (.int .i64 t1337.2) (some 83) want ?_
                  refine JY.all [12] ⟨⟨_, rfl, ?_⟩, trivial⟩
                  refine JL.alloc [.int .i64 0, .int .i64 0, .int .i64 0, .int .i64 0, .int .i64 0, .int .i64 0, .int .i64 0, .int .i64 0, .int .i64 0, .int .i64 0, .int .i64 0, .int .i64 0] fun b1354 => ?_
                  refine JL.nil ?_
                  refine JY.ran #[true, true, true, true, true, true, true, true, true, true, true, true, true, false, false] [true, true, true, true, true, true, false] ?_
                  refine JY.all [13] ⟨⟨_, rfl, ?_⟩, trivial⟩
                  refine JL.store 6 b1354 0 25 [.int .i64 0, .int .i64 0, .int .i64 0, .int .i64 0, .int .i64 0, .int .i64 0, .int .i64 0, .int .i64 0, .int .i64 0, .int .i64 0, .int .i64 0, .int .i64 0] [.int .i64 t1337.1.e0.Re, .int .i64 t1337.1.e0.Im, .int .i64 t1337.1.e0.Den, .int .i64 t1337.1.e1.Re, .int .i64 t1337.1.e1.Im, .int .i64 t1337.1.e1.Den, .int .i64 t1337.1.e2.Re, .int .i64 t1337.1.e2.Im, .int .i64 t1337.1.e2.Den, .int .i64 t1337.1.e3.Re, .int .i64 t1337.1.e3.Im, .int .i64 t1337.1.e3.Den] tySize_25 ?_
                  refine JL.nil ?_
                  refine JY.ranD #[true, true, true, true, true, true, true, true, true, true, true, true, true, true, false] ?_
                  refine JY.pur (hi := rfl) 14 #[true, true, true, true, true, true, true, true, true, true, true, true, true, true, true] (.int .i64 t1337.2) (some 16) want ?_
                  refine JY.done ?_
                  refine JQ.then_normal ?_
                  exact JQ.meet (t1337.1, t1337.2) b1354 H1 (fun _ h => Heap.to h)
                · refine JL.alloc [.int .i64 0, .int .i64 0, .int .i64 0, .int .i64 0, .int .i64 0, .int .i64 0, .int .i64 0, .int .i64 0, .int .i64 0, .int .i64 0, .int .i64 0, .int .i64 0] fun b1355 => ?_
                  refine JL.nil ?_
                  refine JY.ran #[true, true, true, true, true, true, true, true, false, false, false, false, true, false, false] [true, true, true, true, true, true, false] ?_
                  refine JY.all [8] ⟨⟨_, rfl, ?_⟩, trivial⟩
                  refine JL.call [] [] [] (jones_Mul.ok (ix t5 i829) (ix s1 i829) _ hc1338) trivial ?_
                  rintro _ _ ⟨rfl, rfl⟩
                  refine JL.nil ?_
                  refine JY.ran #[true, true, true, true, true, true, true, true, true, false, false, false, true, false, false] [true, true, true, true, true, true, false] ?_
                  refine JY.pur (hi := rfl) 9 #[true, true, true, true, true, true, true, true, true, true, false, false, true, false, false] (.tuple #[.agg #[.int .i64 t1337.1.e0.Re, .int .i64 t1337.1.e0.Im, .int .i64 t1337.1.e0.Den, .int .i64 t1337.1.e1.Re, .int .i64 t1337.1.e1.Im, .int .i64 t1337.1.e1.Den, .int .i64 t1337.1.e2.Re, .int .i64 t1337.1.e2.Im, .int .i64 t1337.1.e2.Den, .int .i64 t1337.1.e3.Re, .int .i64 t1337.1.e3.Im, .int .i64 t1337.1.e3.Den], .int .i64 t1337.2]) (some 72) want ?_
                  refine JY.pur (hi := rfl) 10 #[true, true, true, true, true, true, true, true, true, true, true, false, true, false, false] (.agg #[.int .i64 t1337.1.e0.Re, .int .i64 t1337.1.e0.Im, .int .i64 t1337.1.e0.Den, .int .i64 t1337.1.e1.Re, .int .i64 t1337.1.e1.Im, .int .i64 t1337.1.e1.Den, .int .i64 t1337.1.e2.Re, .int .i64 t1337.1.e2.Im, .int .i64 t1337.1.e2.Den, .int .i64 t1337.1.e3.Re, .int .i64 t1337.1.e3.Im, .int .i64 t1337.1.e3.Den]) (some 82) want ?_
                  refine JY.pur (hi := rfl) 11 #[true, true, true, true, true, true, true, true, true, true, true, true, true, false, false] (.int .i64 t1337.2) (some 83) want ?_
                  refine JY.all [13] ⟨⟨_, rfl, ?_⟩, trivial⟩
                  refine JL.store 6 b1355 0 25 [.int .i64 0, .int .i64 0, .int .i64 0, .int .i64 0, .int .i64 0, .int .i64 0, .int .i64 0, .int .i64 0, .int .i64 0, .int .i64 0, .int .i64 0, .int .i64 0] [.int .i64 t1337.1.e0.Re, .int .i64 t1337.1.e0.Im, .int .i64 t1337.1.e0.Den, .int .i64 t1337.1.e1.Re, .int .i64 t1337.1.e1.Im, .int .i64 t1337.1.e1.Den, .int .i64 t1337.1.e2.Re, .int .i64 t1337.1.e2.Im, .int .i64 t1337.1.e2.Den, .int .i64 t1337.1.e3.Re, .int .i64 t1337.1.e3.Im, .int .i64 t1337.1.e3.Den] tySize_25 ?_
                  refine JL.nil ?_
                  refine JY.ranD #[true, true, true, true, true, true, true, true, true, true, true, true, true, true, false] ?_
                  refine JY.pur (hi := rfl) 14 #[true, true, true, true, true, true, true, true, true, true, true, true, true, true, true] (.int .i64 t1337.2) (some 16) want ?_
                  refine JY.done ?_
                  refine JQ.then_normal ?_
                  exact JQ.meet (t1337.1, t1337.2) b1355 H1 (fun _ h => Heap.to h)
              · clear H1
                rintro ⟨m1281, f1282⟩ b1279 H1
                replace H1 : law33_JonesGroup.k29 s1 both819 back823 all827 inverse828 i829 m1281 f1282 = some st1 := H1
                unfold law33_JonesGroup.k29 at H1
                refine JQ.sub [(0, .slice A816 s1.length c817), (1, .slice A6 t5.length c7), (2, .slice A10 l9.length c11), (7, .bool t13), (8, .slice A29 t27.1.length c30), (10, .slice A820 both819.length c821), (11, .slice A824 back823.length c825), (12, .bool all827), (13, .bool inverse828), (14, .int .i64 i829), (15, .pointer (some ⟨b1279, 0, none⟩)), (16, .int .i64 f1282)] ?_
                refine JQ.turn (Δ' := [At.rd A816 c817 ((flArr4 fl_Cx).kd) s1 true, At.rd A6 c7 ((flArr4 fl_Cx).kd) t5 true, At.rd A10 c11 fl_Pol.kd l9 true, At.row A29 c30 57 fl_Pol.kd t27.1 false, At.row A820 c821 25 ((flArr4 fl_Cx).kd) both819 false, At.row A824 c825 25 ((flArr4 fl_Cx).kd) back823 false, At.box b1279 25 [.int .i64 m1281.e0.Re, .int .i64 m1281.e0.Im, .int .i64 m1281.e0.Den, .int .i64 m1281.e1.Re, .int .i64 m1281.e1.Im, .int .i64 m1281.e1.Den, .int .i64 m1281.e2.Re, .int .i64 m1281.e2.Im, .int .i64 m1281.e2.Den, .int .i64 m1281.e3.Re, .int .i64 m1281.e3.Im, .int .i64 m1281.e3.Den]]) (fun _ h => h.to) ?_
                refine J.seq ?_
                refine J.region ?_
                refine JL.mv (.slice A816 s1.length c817) ?_
                refine JL.mv (.int .i64 i829) ?_
                obtain ⟨⟨h1283, h1284⟩, H1⟩ := ite_must H1
                refine JL.ixAddr 0 12 c817 .i64 (elems_rd A816 c817 ((flArr4 fl_Cx).kd) s1 true) Try.underlying38 tySize_25 h1283 h1284 fun g1285 o1286 hA => ?_
                subst hA
                refine JL.val (.agg #[.int .i64 ((ix s1 i829).e0.Re), .int .i64 ((ix s1 i829).e0.Im), .int .i64 ((ix s1 i829).e0.Den), .int .i64 ((ix s1 i829).e1.Re), .int .i64 ((ix s1 i829).e1.Im), .int .i64 ((ix s1 i829).e1.Den), .int .i64 ((ix s1 i829).e2.Re), .int .i64 ((ix s1 i829).e2.Im), .int .i64 ((ix s1 i829).e2.Den), .int .i64 ((ix s1 i829).e3.Re), .int .i64 ((ix s1 i829).e3.Im), .int .i64 ((ix s1 i829).e3.Den)]) (some 88) (gives_loadEl (f := (flArr4 fl_Cx)) 0 0 i829 (elems_rd (some ⟨g1285, o1286, none⟩) c817 ((flArr4 fl_Cx).kd) s1 true) h1283 h1284 tySize_25 (.inl ⟨tyAgg_25, rfl⟩)) ?_
                obtain ⟨t1287, hc1288, H1⟩ := bind_some H1
                refine JL.call [] [] [] (jones_Inv.ok (ix s1 i829) _ hc1288) trivial ?_
                rintro _ _ ⟨rfl, rfl⟩
                refine JL.mv (.tuple #[.agg #[.int .i64 t1287.1.e0.Re, .int .i64 t1287.1.e0.Im, .int .i64 t1287.1.e0.Den, .int .i64 t1287.1.e1.Re, .int .i64 t1287.1.e1.Im, .int .i64 t1287.1.e1.Den, .int .i64 t1287.1.e2.Re, .int .i64 t1287.1.e2.Im, .int .i64 t1287.1.e2.Den, .int .i64 t1287.1.e3.Re, .int .i64 t1287.1.e3.Im, .int .i64 t1287.1.e3.Den], .int .i64 t1287.2]) ?_
                refine JL.pur (.agg #[.int .i64 t1287.1.e0.Re, .int .i64 t1287.1.e0.Im, .int .i64 t1287.1.e0.Den, .int .i64 t1287.1.e1.Re, .int .i64 t1287.1.e1.Im, .int .i64 t1287.1.e1.Den, .int .i64 t1287.1.e2.Re, .int .i64 t1287.1.e2.Im, .int .i64 t1287.1.e2.Den, .int .i64 t1287.1.e3.Re, .int .i64 t1287.1.e3.Im, .int .i64 t1287.1.e3.Den]) (some 90) ?_
                refine JL.pur (.int .i64 t1287.2) (some 91) ?_
                refine JL.alloc [.int .i64 0, .int .i64 0, .int .i64 0, .int .i64 0, .int .i64 0, .int .i64 0, .int .i64 0, .int .i64 0, .int .i64 0, .int .i64 0, .int .i64 0, .int .i64 0] fun b1289 => ?_
                refine JL.store 7 b1289 0 25 [.int .i64 0, .int .i64 0, .int .i64 0, .int .i64 0, .int .i64 0, .int .i64 0, .int .i64 0, .int .i64 0, .int .i64 0, .int .i64 0, .int .i64 0, .int .i64 0] [.int .i64 t1287.1.e0.Re, .int .i64 t1287.1.e0.Im, .int .i64 t1287.1.e0.Den, .int .i64 t1287.1.e1.Re, .int .i64 t1287.1.e1.Im, .int .i64 t1287.1.e1.Den, .int .i64 t1287.1.e2.Re, .int .i64 t1287.1.e2.Im, .int .i64 t1287.1.e2.Den, .int .i64 t1287.1.e3.Re, .int .i64 t1287.1.e3.Im, .int .i64 t1287.1.e3.Den] tySize_25 ?_
                refine JL.as (.int .i64 t1287.2) ?_
                refine JL.nil ?_
                refine JQ.then_normal ?_
                refine JQ.sub [(0, .slice (some ⟨g1285, o1286, none⟩) s1.length c817), (1, .slice A6 t5.length c7), (2, .slice A10 l9.length c11), (7, .bool t13), (8, .slice A29 t27.1.length c30), (10, .slice A820 both819.length c821), (11, .slice A824 back823.length c825), (12, .bool all827), (13, .bool inverse828), (14, .int .i64 i829), (15, .pointer (some ⟨b1279, 0, none⟩)), (16, .int .i64 f1282), (17, .pointer (some ⟨b1289, 0, none⟩)), (18, .int .i64 t1287.2)] ?_
                refine J.join (T := (Bool × Bool)) (G := Unit) (fun t => law33_JonesGroup.k30 both819 back823 i829 m1281 t1287 t.1 t.2 = some st1) (fun t g => [(0, .slice (some ⟨g1285, o1286, none⟩) s1.length c817), (1, .slice A6 t5.length c7), (2, .slice A10 l9.length c11), (7, .bool t13), (8, .slice A29 t27.1.length c30), (10, .slice A820 both819.length c821), (11, .slice A824 back823.length c825), (12, .bool t.1), (13, .bool t.2), (14, .int .i64 i829), (15, .pointer (some ⟨b1279, 0, none⟩)), (17, .pointer (some ⟨b1289, 0, none⟩))]) (fun t g => [At.rd (some ⟨g1285, o1286, none⟩) c817 ((flArr4 fl_Cx).kd) s1 true, At.rd A6 c7 ((flArr4 fl_Cx).kd) t5 true, At.rd A10 c11 fl_Pol.kd l9 true, At.row A29 c30 57 fl_Pol.kd t27.1 false, At.row A820 c821 25 ((flArr4 fl_Cx).kd) both819 false, At.row A824 c825 25 ((flArr4 fl_Cx).kd) back823 false, At.box b1279 25 [.int .i64 m1281.e0.Re, .int .i64 m1281.e0.Im, .int .i64 m1281.e0.Den, .int .i64 m1281.e1.Re, .int .i64 m1281.e1.Im, .int .i64 m1281.e1.Den, .int .i64 m1281.e2.Re, .int .i64 m1281.e2.Im, .int .i64 m1281.e2.Den, .int .i64 m1281.e3.Re, .int .i64 m1281.e3.Im, .int .i64 m1281.e3.Den], At.box b1289 25 [.int .i64 t1287.1.e0.Re, .int .i64 t1287.1.e0.Im, .int .i64 t1287.1.e0.Den, .int .i64 t1287.1.e1.Re, .int .i64 t1287.1.e1.Im, .int .i64 t1287.1.e1.Den, .int .i64 t1287.1.e2.Re, .int .i64 t1287.1.e2.Im, .int .i64 t1287.1.e2.Den, .int .i64 t1287.1.e3.Re, .int .i64 t1287.1.e3.Im, .int .i64 t1287.1.e3.Den]]) ?_ ?_
                · refine J.region ?_
                  refine JL.mv (.bool all827) ?_
                  refine JL.mv (.bool all827) ?_
                  rcases ite_cases H1 with ⟨h1326, H1⟩ | ⟨h1326, H1⟩
                  · refine JL.on 1 93 h1326 ?_
                    refine JL.mv (.int .i64 f1282) ?_
                    refine JL.on 1 93 h1326 ?_
                    refine JL.pur (.bool (decide (f1282 = 0))) (some 95) ?_
                    refine JL.val (.bool (decide (f1282 = 0))) (some 96) (gives_pickT h1326) ?_
                    refine JL.mv (.bool inverse828) ?_
                    refine JL.mv (.bool inverse828) ?_
                    rcases ite_cases H1 with ⟨h1327, H1⟩ | ⟨h1327, H1⟩
                    · refine JL.on 6 98 h1327 ?_
                      refine JL.mv (.int .i64 t1287.2) ?_
                      refine JL.on 6 98 h1327 ?_
                      refine JL.pur (.bool (decide (t1287.2 = 0))) (some 100) ?_
                      refine JL.val (.bool (decide (t1287.2 = 0))) (some 101) (gives_pickT h1327) ?_
                      refine JL.as (.bool (decide (f1282 = 0))) ?_
                      refine JL.as (.bool (decide (t1287.2 = 0))) ?_
                      refine JL.nil ?_
                      refine JQ.then_normal ?_
                      exact JQ.meet (decide (f1282 = 0), decide (t1287.2 = 0)) () H1 (fun _ h => Heap.to h)
                    · refine JL.off 6 98 true (some 99) h1327 ?_
                      refine JL.off 6 98 true (some 100) h1327 ?_
                      refine JL.val (.bool false) (some 101) (gives_pickF h1327) ?_
                      refine JL.as (.bool (decide (f1282 = 0))) ?_
                      refine JL.as (.bool false) ?_
                      refine JL.nil ?_
                      refine JQ.then_normal ?_
                      exact JQ.meet (decide (f1282 = 0), false) () H1 (fun _ h => Heap.to h)
                  · refine JL.off 1 93 true (some 94) h1326 ?_
                    refine JL.off 1 93 true (some 95) h1326 ?_
                    refine JL.val (.bool false) (some 96) (gives_pickF h1326) ?_
                    refine JL.mv (.bool inverse828) ?_
                    refine JL.mv (.bool inverse828) ?_
                    rcases ite_cases H1 with ⟨h1328, H1⟩ | ⟨h1328, H1⟩
                    · refine JL.on 6 98 h1328 ?_
                      refine JL.mv (.int .i64 t1287.2) ?_
                      refine JL.on 6 98 h1328 ?_
                      refine JL.pur (.bool (decide (t1287.2 = 0))) (some 100) ?_
                      refine JL.val (.bool (decide (t1287.2 = 0))) (some 101) (gives_pickT h1328) ?_
                      refine JL.as (.bool false) ?_
                      refine JL.as (.bool (decide (t1287.2 = 0))) ?_
                      refine JL.nil ?_
                      refine JQ.then_normal ?_
                      exact JQ.meet (false, decide (t1287.2 = 0)) () H1 (fun _ h => Heap.to h)
                    · refine JL.off 6 98 true (some 99) h1328 ?_
                      refine JL.off 6 98 true (some 100) h1328 ?_
                      refine JL.val (.bool false) (some 101) (gives_pickF h1328) ?_
                      refine JL.as (.bool false) ?_
                      refine JL.as (.bool false) ?_
                      refine JL.nil ?_
                      refine JQ.then_normal ?_
                      exact JQ.meet (false, false) () H1 (fun _ h => Heap.to h)
                · clear H1
                  rintro ⟨all1293, inverse1294⟩ ⟨⟩ H1
                  replace H1 : law33_JonesGroup.k30 both819 back823 i829 m1281 t1287 all1293 inverse1294 = some st1 := H1
                  unfold law33_JonesGroup.k30 at H1
                  refine JQ.sub [(0, .slice (some ⟨g1285, o1286, none⟩) s1.length c817), (1, .slice A6 t5.length c7), (2, .slice A10 l9.length c11), (7, .bool t13), (8, .slice A29 t27.1.length c30), (10, .slice A820 both819.length c821), (11, .slice A824 back823.length c825), (12, .bool all1293), (13, .bool inverse1294), (14, .int .i64 i829), (15, .pointer (some ⟨b1279, 0, none⟩)), (17, .pointer (some ⟨b1289, 0, none⟩))] ?_
                  refine JQ.turn (Δ' := [At.rd (some ⟨g1285, o1286, none⟩) c817 ((flArr4 fl_Cx).kd) s1 true, At.rd A6 c7 ((flArr4 fl_Cx).kd) t5 true, At.rd A10 c11 fl_Pol.kd l9 true, At.row A29 c30 57 fl_Pol.kd t27.1 false, At.row A820 c821 25 ((flArr4 fl_Cx).kd) both819 false, At.row A824 c825 25 ((flArr4 fl_Cx).kd) back823 false, At.box b1279 25 [.int .i64 m1281.e0.Re, .int .i64 m1281.e0.Im, .int .i64 m1281.e0.Den, .int .i64 m1281.e1.Re, .int .i64 m1281.e1.Im, .int .i64 m1281.e1.Den, .int .i64 m1281.e2.Re, .int .i64 m1281.e2.Im, .int .i64 m1281.e2.Den, .int .i64 m1281.e3.Re, .int .i64 m1281.e3.Im, .int .i64 m1281.e3.Den], At.box b1289 25 [.int .i64 t1287.1.e0.Re, .int .i64 t1287.1.e0.Im, .int .i64 t1287.1.e0.Den, .int .i64 t1287.1.e1.Re, .int .i64 t1287.1.e1.Im, .int .i64 t1287.1.e1.Den, .int .i64 t1287.1.e2.Re, .int .i64 t1287.1.e2.Im, .int .i64 t1287.1.e2.Den, .int .i64 t1287.1.e3.Re, .int .i64 t1287.1.e3.Im, .int .i64 t1287.1.e3.Den]]) (fun _ h => h.to) ?_
                  obtain ⟨h1298, H1⟩ := ite_must H1
                  obtain ⟨h1302, H1⟩ := ite_must H1
                  refine JY.startM [true, true, true, true, false, false, true, true] [] #[false, false, false, false, false, false, false, false, false, false] ?_
                  refine JY.pur (hi := rfl) 0 #[true, false, false, false, false, false, false, false, false, false] (.slice A820 both819.length c821) (some 102) want ?_
                  refine JY.take (hi := rfl) 1 #[true, true, false, false, false, false, false, false, false, false] (.agg #[.int .i64 m1281.e0.Re, .int .i64 m1281.e0.Im, .int .i64 m1281.e0.Den, .int .i64 m1281.e1.Re, .int .i64 m1281.e1.Im, .int .i64 m1281.e1.Den, .int .i64 m1281.e2.Re, .int .i64 m1281.e2.Im, .int .i64 m1281.e2.Den, .int .i64 m1281.e3.Re, .int .i64 m1281.e3.Im, .int .i64 m1281.e3.Den]) (some 103) [true, true, true, true, false, false, true, true] want (yields_load_boxes 4 0 [.int .i64 m1281.e0.Re, .int .i64 m1281.e0.Im, .int .i64 m1281.e0.Den, .int .i64 m1281.e1.Re, .int .i64 m1281.e1.Im, .int .i64 m1281.e1.Den, .int .i64 m1281.e2.Re, .int .i64 m1281.e2.Im, .int .i64 m1281.e2.Den, .int .i64 m1281.e3.Re, .int .i64 m1281.e3.Im, .int .i64 m1281.e3.Den] (holds_box b1279 25 [.int .i64 m1281.e0.Re, .int .i64 m1281.e0.Im, .int .i64 m1281.e0.Den, .int .i64 m1281.e1.Re, .int .i64 m1281.e1.Im, .int .i64 m1281.e1.Den, .int .i64 m1281.e2.Re, .int .i64 m1281.e2.Im, .int .i64 m1281.e2.Den, .int .i64 m1281.e3.Re, .int .i64 m1281.e3.Im, .int .i64 m1281.e3.Den]) tyAgg_25 tySize_25) ?_
                  refine JY.pur (hi := rfl) 4 #[true, true, false, false, true, false, false, false, false, false] (.slice A824 back823.length c825) (some 106) want ?_
                  refine JY.take (hi := rfl) 5 #[true, true, false, false, true, true, false, false, false, false] (.agg #[.int .i64 t1287.1.e0.Re, .int .i64 t1287.1.e0.Im, .int .i64 t1287.1.e0.Den, .int .i64 t1287.1.e1.Re, .int .i64 t1287.1.e1.Im, .int .i64 t1287.1.e1.Den, .int .i64 t1287.1.e2.Re, .int .i64 t1287.1.e2.Im, .int .i64 t1287.1.e2.Den, .int .i64 t1287.1.e3.Re, .int .i64 t1287.1.e3.Im, .int .i64 t1287.1.e3.Den]) (some 107) [true, true, true, true, false, false, true, true] want (yields_load_boxes 5 0 [.int .i64 t1287.1.e0.Re, .int .i64 t1287.1.e0.Im, .int .i64 t1287.1.e0.Den, .int .i64 t1287.1.e1.Re, .int .i64 t1287.1.e1.Im, .int .i64 t1287.1.e1.Den, .int .i64 t1287.1.e2.Re, .int .i64 t1287.1.e2.Im, .int .i64 t1287.1.e2.Den, .int .i64 t1287.1.e3.Re, .int .i64 t1287.1.e3.Im, .int .i64 t1287.1.e3.Den] (holds_box b1289 25 [.int .i64 t1287.1.e0.Re, .int .i64 t1287.1.e0.Im, .int .i64 t1287.1.e0.Den, .int .i64 t1287.1.e1.Re, .int .i64 t1287.1.e1.Im, .int .i64 t1287.1.e1.Den, .int .i64 t1287.1.e2.Re, .int .i64 t1287.1.e2.Im, .int .i64 t1287.1.e2.Den, .int .i64 t1287.1.e3.Re, .int .i64 t1287.1.e3.Im, .int .i64 t1287.1.e3.Den]) tyAgg_25 tySize_25) ?_
                  refine JY.all [2, 6] ⟨⟨_, rfl, ?_⟩, ⟨_, rfl, ?_⟩, trivial⟩
                  · refine JL.buildSl 25 ((flArr4 fl_Cx).kd) (([m1281] : List (A4 Cx)) : List (A4 Cx)) [.int .i64 m1281.e0.Re, .int .i64 m1281.e0.Im, .int .i64 m1281.e0.Den, .int .i64 m1281.e1.Re, .int .i64 m1281.e1.Im, .int .i64 m1281.e1.Den, .int .i64 m1281.e2.Re, .int .i64 m1281.e2.Im, .int .i64 m1281.e2.Den, .int .i64 m1281.e3.Re, .int .i64 m1281.e3.Im, .int .i64 m1281.e3.Den] false (closes_fl rfl) fun b1303 => ?_
                    refine JL.nil ?_
                    refine JY.ran #[true, true, true, false, true, true, false, false, false, false] [true, true, true, true, false, false, true, true, false] ?_
                    refine JY.all [3, 6] ⟨⟨_, rfl, ?_⟩, ⟨_, rfl, ?_⟩, trivial⟩
                    · obtain h1306 : both819.length + ([m1281] : List (A4 Cx)).length ≤ 1466015503701 := h1298
                      refine JL.append false false 4 8 A820 c821 1 both819 (elems_row (some ⟨b1303, 0, none⟩) 1 25 ((flArr4 fl_Cx).kd) ([m1281] : List (A4 Cx)) false) Try.underlying38 info_25 (by omega) (by omega) (fun h => h) (.inr ⟨_, rfl⟩) fun A1304 c1305 => ?_
                      refine JL.nil ?_
                      refine JY.ran #[true, true, true, true, true, true, false, false, false, false] [true, true, true, true, false, false, true, true, false] ?_
                      refine JY.all [6] ⟨⟨_, rfl, ?_⟩, trivial⟩
                      refine JL.buildSl 25 ((flArr4 fl_Cx).kd) (([t1287.1] : List (A4 Cx)) : List (A4 Cx)) [.int .i64 t1287.1.e0.Re, .int .i64 t1287.1.e0.Im, .int .i64 t1287.1.e0.Den, .int .i64 t1287.1.e1.Re, .int .i64 t1287.1.e1.Im, .int .i64 t1287.1.e1.Den, .int .i64 t1287.1.e2.Re, .int .i64 t1287.1.e2.Im, .int .i64 t1287.1.e2.Den, .int .i64 t1287.1.e3.Re, .int .i64 t1287.1.e3.Im, .int .i64 t1287.1.e3.Den] false (closes_fl rfl) fun b1307 => ?_
                      refine JL.nil ?_
                      refine JY.ran #[true, true, true, true, true, true, true, false, false, false] [true, true, true, true, false, false, true, true, false, false] ?_
                      refine JY.all [7] ⟨⟨_, rfl, ?_⟩, trivial⟩
                      obtain h1310 : back823.length + ([t1287.1] : List (A4 Cx)).length ≤ 1466015503701 := h1302
                      refine JL.append false false 5 9 A824 c825 1 back823 (elems_row (some ⟨b1307, 0, none⟩) 1 25 ((flArr4 fl_Cx).kd) ([t1287.1] : List (A4 Cx)) false) Try.underlying38 info_25 (by omega) (by omega) (fun h => h) (.inr ⟨_, rfl⟩) fun A1308 c1309 => ?_
                      refine JL.nil ?_
                      refine JY.ran #[true, true, true, true, true, true, true, true, false, false] [true, true, true, true, false, false, true, true, false, false] ?_
                      refine JY.pur (hi := rfl) 8 #[true, true, true, true, true, true, true, true, true, false] (.slice A1304 (both819 ++ ([m1281] : List (A4 Cx))).length c1305) (some 10) want ?_
                      refine JY.pur (hi := rfl) 9 #[true, true, true, true, true, true, true, true, true, true] (.slice A1308 (back823 ++ ([t1287.1] : List (A4 Cx))).length c1309) (some 11) want ?_
                      refine JY.done ?_
                      refine JQ.blk_normal ?_
                      refine JQ.then_normal ?_
                      exact JQ.meet ((both819 ++ ([m1281] : List (A4 Cx))), (back823 ++ ([t1287.1] : List (A4 Cx))), all1293, inverse1294) ((some ⟨g1285, o1286, none⟩), c817, A1304, c1305, A1308, c1309) H1 (fun _ h => Heap.to (Heap.pick [0, 1, 2, 3, 4, 5] (by decide) h))
                    · refine JL.buildSl 25 ((flArr4 fl_Cx).kd) (([t1287.1] : List (A4 Cx)) : List (A4 Cx)) [.int .i64 t1287.1.e0.Re, .int .i64 t1287.1.e0.Im, .int .i64 t1287.1.e0.Den, .int .i64 t1287.1.e1.Re, .int .i64 t1287.1.e1.Im, .int .i64 t1287.1.e1.Den, .int .i64 t1287.1.e2.Re, .int .i64 t1287.1.e2.Im, .int .i64 t1287.1.e2.Den, .int .i64 t1287.1.e3.Re, .int .i64 t1287.1.e3.Im, .int .i64 t1287.1.e3.Den] false (closes_fl rfl) fun b1311 => ?_
                      refine JL.nil ?_
                      refine JY.ran #[true, true, true, false, true, true, true, false, false, false] [true, true, true, true, false, false, true, true, false, false] ?_
                      refine JY.all [3] ⟨⟨_, rfl, ?_⟩, trivial⟩
                      obtain h1314 : both819.length + ([m1281] : List (A4 Cx)).length ≤ 1466015503701 := h1298
                      refine JL.append false false 4 8 A820 c821 1 both819 (elems_row (some ⟨b1303, 0, none⟩) 1 25 ((flArr4 fl_Cx).kd) ([m1281] : List (A4 Cx)) false) Try.underlying38 info_25 (by omega) (by omega) (fun h => h) (.inr ⟨_, rfl⟩) fun A1312 c1313 => ?_
                      refine JL.nil ?_
                      refine JY.ran #[true, true, true, true, true, true, true, false, false, false] [true, true, true, true, false, false, true, true, false, false] ?_
                      refine JY.all [7] ⟨⟨_, rfl, ?_⟩, trivial⟩
                      obtain h1317 : back823.length + ([t1287.1] : List (A4 Cx)).length ≤ 1466015503701 := h1302
                      refine JL.append false false 5 9 A824 c825 1 back823 (elems_row (some ⟨b1311, 0, none⟩) 1 25 ((flArr4 fl_Cx).kd) ([t1287.1] : List (A4 Cx)) false) Try.underlying38 info_25 (by omega) (by omega) (fun h => h) (.inr ⟨_, rfl⟩) fun A1315 c1316 => ?_
                      refine JL.nil ?_
                      refine JY.ran #[true, true, true, true, true, true, true, true, false, false] [true, true, true, true, false, false, true, true, false, false] ?_
                      refine JY.pur (hi := rfl) 8 #[true, true, true, true, true, true, true, true, true, false] (.slice A1312 (both819 ++ ([m1281] : List (A4 Cx))).length c1313) (some 10) want ?_
                      refine JY.pur (hi := rfl) 9 #[true, true, true, true, true, true, true, true, true, true] (.slice A1315 (back823 ++ ([t1287.1] : List (A4 Cx))).length c1316) (some 11) want ?_
                      refine JY.done ?_
                      refine JQ.blk_normal ?_
                      refine JQ.then_normal ?_
                      exact JQ.meet ((both819 ++ ([m1281] : List (A4 Cx))), (back823 ++ ([t1287.1] : List (A4 Cx))), all1293, inverse1294) ((some ⟨g1285, o1286, none⟩), c817, A1312, c1313, A1315, c1316) H1 (fun _ h => Heap.to (Heap.pick [0, 1, 2, 3, 4, 5] (by decide) h))
                  · refine JL.buildSl 25 ((flArr4 fl_Cx).kd) (([t1287.1] : List (A4 Cx)) : List (A4 Cx)) [.int .i64 t1287.1.e0.Re, .int .i64 t1287.1.e0.Im, .int .i64 t1287.1.e0.Den, .int .i64 t1287.1.e1.Re, .int .i64 t1287.1.e1.Im, .int .i64 t1287.1.e1.Den, .int .i64 t1287.1.e2.Re, .int .i64 t1287.1.e2.Im, .int .i64 t1287.1.e2.Den, .int .i64 t1287.1.e3.Re, .int .i64 t1287.1.e3.Im, .int .i64 t1287.1.e3.Den] false (closes_fl rfl) fun b1318 => ?_
                    refine JL.nil ?_
                    refine JY.ran #[true, true, false, false, true, true, true, false, false, false] [true, true, true, true, false, false, true, true, false] ?_
                    refine JY.all [2] ⟨⟨_, rfl, ?_⟩, trivial⟩
                    refine JL.buildSl 25 ((flArr4 fl_Cx).kd) (([m1281] : List (A4 Cx)) : List (A4 Cx)) [.int .i64 m1281.e0.Re, .int .i64 m1281.e0.Im, .int .i64 m1281.e0.Den, .int .i64 m1281.e1.Re, .int .i64 m1281.e1.Im, .int .i64 m1281.e1.Den, .int .i64 m1281.e2.Re, .int .i64 m1281.e2.Im, .int .i64 m1281.e2.Den, .int .i64 m1281.e3.Re, .int .i64 m1281.e3.Im, .int .i64 m1281.e3.Den] false (closes_fl rfl) fun b1319 => ?_
                    refine JL.nil ?_
                    refine JY.ran #[true, true, true, false, true, true, true, false, false, false] [true, true, true, true, false, false, true, true, false, false] ?_
                    refine JY.all [3] ⟨⟨_, rfl, ?_⟩, trivial⟩
                    obtain h1322 : both819.length + ([m1281] : List (A4 Cx)).length ≤ 1466015503701 := h1298
                    refine JL.append false false 4 9 A820 c821 1 both819 (elems_row (some ⟨b1319, 0, none⟩) 1 25 ((flArr4 fl_Cx).kd) ([m1281] : List (A4 Cx)) false) Try.underlying38 info_25 (by omega) (by omega) (fun h => h) (.inr ⟨_, rfl⟩) fun A1320 c1321 => ?_
                    refine JL.nil ?_
                    refine JY.ran #[true, true, true, true, true, true, true, false, false, false] [true, true, true, true, false, false, true, true, false, false] ?_
                    refine JY.all [7] ⟨⟨_, rfl, ?_⟩, trivial⟩
                    obtain h1325 : back823.length + ([t1287.1] : List (A4 Cx)).length ≤ 1466015503701 := h1302
                    refine JL.append false false 5 8 A824 c825 1 back823 (elems_row (some ⟨b1318, 0, none⟩) 1 25 ((flArr4 fl_Cx).kd) ([t1287.1] : List (A4 Cx)) false) Try.underlying38 info_25 (by omega) (by omega) (fun h => h) (.inr ⟨_, rfl⟩) fun A1323 c1324 => ?_
                    refine JL.nil ?_
                    refine JY.ran #[true, true, true, true, true, true, true, true, false, false] [true, true, true, true, false, false, true, true, false, false] ?_
                    refine JY.pur (hi := rfl) 8 #[true, true, true, true, true, true, true, true, true, false] (.slice A1320 (both819 ++ ([m1281] : List (A4 Cx))).length c1321) (some 10) want ?_
                    refine JY.pur (hi := rfl) 9 #[true, true, true, true, true, true, true, true, true, true] (.slice A1323 (back823 ++ ([t1287.1] : List (A4 Cx))).length c1324) (some 11) want ?_
                    refine JY.done ?_
                    refine JQ.blk_normal ?_
                    refine JQ.then_normal ?_
                    exact JQ.meet ((both819 ++ ([m1281] : List (A4 Cx))), (back823 ++ ([t1287.1] : List (A4 Cx))), all1293, inverse1294) ((some ⟨g1285, o1286, none⟩), c817, A1320, c1321, A1323, c1324) H1 (fun _ h => Heap.to (Heap.pick [0, 1, 2, 3, 4, 5] (by decide) h))
            · clear H1
              rintro ⟨both1240, back1244, all1248, inverse1249⟩ ⟨A1237, c1238, A1241, c1242, A1245, c1246⟩ H1
              replace H1 : law33_JonesGroup.k28 i829 both1240 back1244 all1248 inverse1249 = some st1 := H1
              unfold law33_JonesGroup.k28 at H1
              refine JQ.sub [(0, .slice A1237 s1.length c1238), (1, .slice A6 t5.length c7), (2, .slice A10 l9.length c11), (7, .bool t13), (8, .slice A29 t27.1.length c30), (10, .slice A1241 both1240.length c1242), (11, .slice A1245 back1244.length c1246), (12, .bool all1248), (13, .bool inverse1249), (14, .int .i64 i829)] ?_
              refine JQ.turn (Δ' := [At.rd A1237 c1238 ((flArr4 fl_Cx).kd) s1 true, At.rd A6 c7 ((flArr4 fl_Cx).kd) t5 true, At.rd A10 c11 fl_Pol.kd l9 true, At.row A29 c30 57 fl_Pol.kd t27.1 false, At.row A1241 c1242 25 ((flArr4 fl_Cx).kd) both1240 false, At.row A1245 c1246 25 ((flArr4 fl_Cx).kd) back1244 false]) (fun _ h => h.to) ?_
              refine J.region ?_
              refine JL.mv (.int .i64 i829) ?_
              refine JL.pur (.int .i64 (w64 (i829 + 1))) (some 71) ?_
              refine JL.as (.int .i64 (w64 (i829 + 1))) ?_
              refine JL.nil ?_
              refine JQ.then_normal ?_
              exact JQ.again (both1240, back1244, all1248, inverse1249, w64 (i829 + 1)) (A1237, c1238, A1241, c1242, A1245, c1246) (Option.some.inj H1).symm (fun _ h => Heap.to h)
          · refine J.cond_false h1128 ?_
            refine J.exit ?_
            refine JQ.then_exit ?_
            refine JQ.then_exit ?_
            refine JQ.blk_exit ?_
            rw [hb1 _ (Option.some.inj H1).symm, fin_brk] at H0
            exact JQ.met (both819, back823, all827, inverse828) (A820, c821, A824, c825) H0 (fun _ h => Heap.to (Heap.pick [1, 2, 3, 4, 5] (by decide) h))
        · clear hit H0
          rintro ⟨both1060, back1064, all1068, inverse1069⟩ ⟨A1061, c1062, A1065, c1066⟩ H0
          replace H0 : law33_JonesGroup.k21 t5 l9 t13 t27 both1060 back1064 all1068 inverse1069 = some r := H0
          unfold law33_JonesGroup.k21 at H0
          refine JQ.sub [(1, .slice A6 t5.length c7), (2, .slice A10 l9.length c11), (7, .bool t13), (8, .slice A29 t27.1.length c30), (10, .slice A1061 both1060.length c1062), (11, .slice A1065 back1064.length c1066), (12, .bool all1068), (13, .bool inverse1069)] ?_
          refine JQ.turn (Δ' := [At.rd A6 c7 ((flArr4 fl_Cx).kd) t5 true, At.rd A10 c11 fl_Pol.kd l9 true, At.row A29 c30 57 fl_Pol.kd t27.1 false, At.row A1061 c1062 25 ((flArr4 fl_Cx).kd) both1060 false, At.row A1065 c1066 25 ((flArr4 fl_Cx).kd) back1064 false]) (fun _ h => h.to) ?_
          refine JQ.then_normal ?_
          refine J.join (T := Unit) (G := Unit) (fun t => law33_JonesGroup.k23 l9 t13 t27 back1064 inverse1069 = some r) (fun t g => [(2, .slice A10 l9.length c11), (7, .bool t13), (8, .slice A29 t27.1.length c30), (11, .slice A1065 back1064.length c1066), (13, .bool inverse1069)]) (fun t g => [At.rd A10 c11 fl_Pol.kd l9 true, At.row A29 c30 57 fl_Pol.kd t27.1 false, At.row A1065 c1066 25 ((flArr4 fl_Cx).kd) back1064 false]) ?_ ?_
          · refine J.seq ?_
            refine J.region ?_
            refine JL.mv (.bool all1068) ?_
            refine JL.nil ?_
            refine JQ.then_normal ?_
            refine JQ.sub [(1, .slice A6 t5.length c7), (2, .slice A10 l9.length c11), (7, .bool t13), (8, .slice A29 t27.1.length c30), (10, .slice A1061 both1060.length c1062), (11, .slice A1065 back1064.length c1066), (13, .bool inverse1069), (110, .bool all1068)] ?_
            rcases ite_cases H0 with ⟨h1107, H0⟩ | ⟨h1107, H0⟩
            · refine J.cond_true h1107 ?_
              refine J.seq ?_
              refine J.region ?_
              refine JL.mv (.slice A6 t5.length c7) ?_
              refine JL.mv (.slice A29 t27.1.length c30) ?_
              obtain ⟨t1108, hc1109, H0⟩ := bind_some H0
              refine JL.call [] [] [] (jones_Act.ok t5 A6 c7 t27.1 A29 c30 _ hc1109) ⟨pre_any 0 (view_rd A6 c7 ((flArr4 fl_Cx).kd) t5 true true), ⟨pre_view 2 (view_row A29 c30 57 fl_Pol.kd t27.1 false true), trivial⟩⟩ ?_
              rintro _ _ ⟨A1110, c1111, rfl, rfl⟩
              refine JL.mv (.tuple #[.slice A1110 t1108.1.length c1111, .int .i64 t1108.2]) ?_
              refine JL.pur (.slice A1110 t1108.1.length c1111) (some 115) ?_
              refine JL.pur (.int .i64 t1108.2) (some 116) ?_
              refine JL.as (.slice A1110 t1108.1.length c1111) ?_
              refine JL.as (.int .i64 t1108.2) ?_
              refine JL.nil ?_
              refine JQ.then_normal ?_
              refine JQ.sub [(2, .slice A10 l9.length c11), (7, .bool t13), (8, .slice A29 t27.1.length c30), (10, .slice A1061 both1060.length c1062), (11, .slice A1065 back1064.length c1066), (13, .bool inverse1069), (19, .slice A1110 t1108.1.length c1111), (20, .int .i64 t1108.2)] ?_
              refine JQ.mask [At.rd A10 c11 fl_Pol.kd l9 true, At.row A29 c30 57 fl_Pol.kd t27.1 false, At.row A1061 c1062 25 ((flArr4 fl_Cx).kd) both1060 false, At.row A1065 c1066 25 ((flArr4 fl_Cx).kd) back1064 false, At.row A1110 c1111 57 fl_Pol.kd t1108.1 false] [false, true, true, true, true, true] ?_
              refine J.seq ?_
              refine J.region ?_
              refine JL.mv (.slice A1061 both1060.length c1062) ?_
              refine JL.mv (.slice A10 l9.length c11) ?_
              obtain ⟨t1113, hc1114, H0⟩ := bind_some H0
              refine JL.call [] [] [] (jones_Act.ok both1060 A1061 c1062 l9 A10 c11 _ hc1114) ⟨pre_view 2 (view_row A1061 c1062 25 ((flArr4 fl_Cx).kd) both1060 false true), ⟨pre_any 0 (view_rd A10 c11 fl_Pol.kd l9 true true), trivial⟩⟩ ?_
              rintro _ _ ⟨A1115, c1116, rfl, rfl⟩
              refine JL.mv (.tuple #[.slice A1115 t1113.1.length c1116, .int .i64 t1113.2]) ?_
              refine JL.pur (.slice A1115 t1113.1.length c1116) (some 121) ?_
              refine JL.pur (.int .i64 t1113.2) (some 122) ?_
              refine JL.as (.slice A1115 t1113.1.length c1116) ?_
              refine JL.as (.int .i64 t1113.2) ?_
              refine JL.nil ?_
              refine JQ.then_normal ?_
              refine JQ.sub [(2, .slice A10 l9.length c11), (7, .bool t13), (8, .slice A29 t27.1.length c30), (11, .slice A1065 back1064.length c1066), (13, .bool inverse1069), (19, .slice A1110 t1108.1.length c1111), (20, .int .i64 t1108.2), (21, .slice A1115 t1113.1.length c1116), (22, .int .i64 t1113.2)] ?_
              refine JQ.mask [At.rd A10 c11 fl_Pol.kd l9 true, At.row A29 c30 57 fl_Pol.kd t27.1 false, At.row A1065 c1066 25 ((flArr4 fl_Cx).kd) back1064 false, At.row A1110 c1111 57 fl_Pol.kd t1108.1 false, At.row A1115 c1116 57 fl_Pol.kd t1113.1 false] [true, true, false, true, true, true] ?_
              refine J.join (T := Bool) (G := Unit) (fun t => law33_JonesGroup.k25 l9 t13 t27 back1064 inverse1069 t = some r) (fun t g => [(2, .slice A10 l9.length c11), (7, .bool t13), (8, .slice A29 t27.1.length c30), (11, .slice A1065 back1064.length c1066), (13, .bool inverse1069), (134, .bool t)]) (fun t g => [At.rd A10 c11 fl_Pol.kd l9 true, At.row A29 c30 57 fl_Pol.kd t27.1 false, At.row A1065 c1066 25 ((flArr4 fl_Cx).kd) back1064 false]) ?_ ?_
              · refine J.region ?_
                refine JL.mv (.int .i64 t1108.2) ?_
                refine JL.pur (.bool (decide (t1108.2 = 0))) (some 124) ?_
                refine JL.mv (.bool (decide (t1108.2 = 0))) ?_
                rcases ite_cases H0 with ⟨h1124, H0⟩ | ⟨h1124, H0⟩
                · refine JL.on 2 125 h1124 ?_
                  refine JL.mv (.int .i64 t1113.2) ?_
                  refine JL.on 2 125 h1124 ?_
                  refine JL.pur (.bool (decide (t1113.2 = 0))) (some 127) ?_
                  refine JL.val (.bool (decide (t1113.2 = 0))) (some 128) (gives_pickT h1124) ?_
                  refine JL.mv (.bool (decide (t1113.2 = 0))) ?_
                  rcases ite_cases H0 with ⟨h1125, H0⟩ | ⟨h1125, H0⟩
                  · refine JL.on 6 129 h1125 ?_
                    refine JL.mv (.slice A1110 t1108.1.length c1111) ?_
                    refine JL.on 6 129 h1125 ?_
                    refine JL.mv (.slice A1115 t1113.1.length c1116) ?_
                    refine JL.on 6 129 h1125 ?_
                    obtain ⟨t1126, hc1127, H0⟩ := bind_some H0
                    refine JL.call [] [] [] (ref33_Same.ok t1108.1 A1110 c1111 t1113.1 A1115 c1116 _ hc1127) ⟨pre_view 3 (view_row A1110 c1111 57 fl_Pol.kd t1108.1 false true), ⟨pre_view 4 (view_row A1115 c1116 57 fl_Pol.kd t1113.1 false true), trivial⟩⟩ ?_
                    rintro _ _ ⟨rfl, rfl⟩
                    refine JL.on 6 129 h1125 ?_
                    refine JL.pur (.bool (!t1126)) (some 133) ?_
                    refine JL.val (.bool (!t1126)) (some 134) (gives_pickT h1125) ?_
                    refine JL.nil ?_
                    refine JQ.then_normal ?_
                    exact JQ.meet (!t1126) () H0 (fun _ h => Heap.to (Heap.pick [0, 1, 2] (by decide) h))
                  · refine JL.off 6 129 true (some 130) h1125 ?_
                    refine JL.off 6 129 true (some 131) h1125 ?_
                    refine JL.off 6 129 true (some 132) h1125 ?_
                    refine JL.off 6 129 true (some 133) h1125 ?_
                    refine JL.val (.bool false) (some 134) (gives_pickF h1125) ?_
                    refine JL.nil ?_
                    refine JQ.then_normal ?_
                    exact JQ.meet false () H0 (fun _ h => Heap.to (Heap.pick [0, 1, 2] (by decide) h))
                · refine JL.off 2 125 true (some 126) h1124 ?_
                  refine JL.off 2 125 true (some 127) h1124 ?_
                  refine JL.val (.bool false) (some 128) (gives_pickF h1124) ?_
                  refine JL.mv (.bool false) ?_
                  refine JL.off 6 129 true (some 130) rfl ?_
                  refine JL.off 6 129 true (some 131) rfl ?_
                  refine JL.off 6 129 true (some 132) rfl ?_
                  refine JL.off 6 129 true (some 133) rfl ?_
                  refine JL.val (.bool false) (some 134) (gives_pickF rfl) ?_
                  refine JL.nil ?_
                  refine JQ.then_normal ?_
                  exact JQ.meet false () H0 (fun _ h => Heap.to (Heap.pick [0, 1, 2] (by decide) h))
              · clear H0
                rintro x1122 ⟨⟩ H0
                replace H0 : law33_JonesGroup.k25 l9 t13 t27 back1064 inverse1069 x1122 = some r := H0
                unfold law33_JonesGroup.k25 at H0
                refine JQ.sub [(2, .slice A10 l9.length c11), (7, .bool t13), (8, .slice A29 t27.1.length c30), (11, .slice A1065 back1064.length c1066), (13, .bool inverse1069), (134, .bool x1122)] ?_
                refine JQ.turn (Δ' := [At.rd A10 c11 fl_Pol.kd l9 true, At.row A29 c30 57 fl_Pol.kd t27.1 false, At.row A1065 c1066 25 ((flArr4 fl_Cx).kd) back1064 false]) (fun _ h => h.to) ?_
                rcases ite_cases H0 with ⟨h1123, H0⟩ | ⟨h1123, H0⟩
                · refine J.cond_true h1123 ?_
                  refine J.seq ?_
                  refine J.region ?_
                  refine JL.as (.bool false) ?_
                  refine JL.nil ?_
                  refine JQ.then_normal ?_
                  refine JQ.sub [(6, .bool false)] ?_
                  refine JQ.mask [] [false, false, false] ?_
                  refine J.ret ?_
                  refine JQ.then_ret ?_
                  obtain rfl := Option.some.inj H0
                  exact JQ.done' (rs := [.tmp 6]) (vs := [.bool false]) [] (.inr rfl) ⟨by kernel_rfl, trivial⟩ (fun _ h => Heap.to h) ⟨rfl, rfl⟩
                · refine J.cond_false h1123 ?_
                  refine J.skip ?_
                  refine JQ.then_normal ?_
                  exact JQ.meet () () H0 (fun _ h => Heap.to h)
            · refine J.cond_false h1107 ?_
              refine J.skip ?_
              refine JQ.then_normal ?_
              exact JQ.meet () () H0 (fun _ h => Heap.to (Heap.pick [1, 2, 4] (by decide) h))
          · clear H0
            rintro ⟨⟩ ⟨⟩ H0
            replace H0 : law33_JonesGroup.k23 l9 t13 t27 back1064 inverse1069 = some r := H0
            unfold law33_JonesGroup.k23 at H0
            refine JQ.sub [(2, .slice A10 l9.length c11), (7, .bool t13), (8, .slice A29 t27.1.length c30), (11, .slice A1065 back1064.length c1066), (13, .bool inverse1069)] ?_
            refine JQ.turn (Δ' := [At.rd A10 c11 fl_Pol.kd l9 true, At.row A29 c30 57 fl_Pol.kd t27.1 false, At.row A1065 c1066 25 ((flArr4 fl_Cx).kd) back1064 false]) (fun _ h => h.to) ?_
            refine J.seq ?_
            refine J.seq ?_
            refine J.region ?_
            refine JL.mv (.bool inverse1069) ?_
            refine JL.nil ?_
            refine JQ.then_normal ?_
            refine JQ.sub [(2, .slice A10 l9.length c11), (7, .bool t13), (8, .slice A29 t27.1.length c30), (11, .slice A1065 back1064.length c1066), (135, .bool inverse1069)] ?_
            rcases ite_cases H0 with ⟨h1091, H0⟩ | ⟨h1091, H0⟩
            · refine J.cond_true h1091 ?_
              refine J.seq ?_
              refine J.region ?_
              refine JL.mv (.slice A1065 back1064.length c1066) ?_
              refine JL.mv (.slice A29 t27.1.length c30) ?_
              obtain ⟨t1092, hc1093, H0⟩ := bind_some H0
              refine JL.call [] [] [] (jones_Act.ok back1064 A1065 c1066 t27.1 A29 c30 _ hc1093) ⟨pre_view 2 (view_row A1065 c1066 25 ((flArr4 fl_Cx).kd) back1064 false true), ⟨pre_view 1 (view_row A29 c30 57 fl_Pol.kd t27.1 false true), trivial⟩⟩ ?_
              rintro _ _ ⟨A1094, c1095, rfl, rfl⟩
              refine JL.mv (.tuple #[.slice A1094 t1092.1.length c1095, .int .i64 t1092.2]) ?_
              refine JL.pur (.slice A1094 t1092.1.length c1095) (some 140) ?_
              refine JL.pur (.int .i64 t1092.2) (some 141) ?_
              refine JL.as (.slice A1094 t1092.1.length c1095) ?_
              refine JL.as (.int .i64 t1092.2) ?_
              refine JL.nil ?_
              refine JQ.then_normal ?_
              refine JQ.sub [(2, .slice A10 l9.length c11), (7, .bool t13), (23, .slice A1094 t1092.1.length c1095), (24, .int .i64 t1092.2)] ?_
              refine JQ.mask [At.rd A10 c11 fl_Pol.kd l9 true, At.row A1094 c1095 57 fl_Pol.kd t1092.1 false] [true, false, false, true] ?_
              refine J.join (T := Bool) (G := Unit) (fun t => law33_JonesGroup.k24 t13 t = some r) (fun t g => [(7, .bool t13), (154, .bool t)]) (fun t g => []) ?_ ?_
              · refine J.region ?_
                refine JL.mv (.int .i64 t1092.2) ?_
                refine JL.pur (.bool (decide (t1092.2 = 0))) (some 143) ?_
                refine JL.mv (.bool (decide (t1092.2 = 0))) ?_
                rcases ite_cases H0 with ⟨h1103, H0⟩ | ⟨h1103, H0⟩
                · refine JL.on 2 144 h1103 ?_
                  refine JL.mv (.slice A1094 t1092.1.length c1095) ?_
                  refine JL.on 2 144 h1103 ?_
                  refine JL.mv (.slice A10 l9.length c11) ?_
                  refine JL.on 2 144 h1103 ?_
                  obtain ⟨t1104, hc1105, H0⟩ := bind_some H0
                  refine JL.call [] [] [] (ref33_Same.ok t1092.1 A1094 c1095 l9 A10 c11 _ hc1105) ⟨pre_view 1 (view_row A1094 c1095 57 fl_Pol.kd t1092.1 false true), ⟨pre_any 0 (view_rd A10 c11 fl_Pol.kd l9 true true), trivial⟩⟩ ?_
                  rintro _ _ ⟨rfl, rfl⟩
                  refine JL.on 2 144 h1103 ?_
                  refine JL.pur (.bool (!t1104)) (some 148) ?_
                  refine JL.val (.bool (!t1104)) (some 149) (gives_pickT h1103) ?_
                  refine JL.mv (.bool (!t1104)) ?_
                  rcases ite_cases H0 with ⟨h1106, H0⟩ | ⟨h1106, H0⟩
                  · refine JL.on 8 150 h1106 ?_
                    refine JL.mv (.slice A10 l9.length c11) ?_
                    refine JL.on 8 150 h1106 ?_
                    refine JL.pur (.int .i64 (l9.length : Int)) (some 152) ?_
                    refine JL.on 8 150 h1106 ?_
                    refine JL.pur (.bool (decide (0 < (l9.length : Int)))) (some 153) ?_
                    refine JL.val (.bool (decide (0 < (l9.length : Int)))) (some 154) (gives_pickT h1106) ?_
                    refine JL.nil ?_
                    refine JQ.then_normal ?_
                    exact JQ.meet (decide (0 < (l9.length : Int))) () H0 (fun _ h => Heap.to (Heap.pick [] (by decide) h))
                  · refine JL.off 8 150 true (some 151) h1106 ?_
                    refine JL.off 8 150 true (some 152) h1106 ?_
                    refine JL.off 8 150 true (some 153) h1106 ?_
                    refine JL.val (.bool false) (some 154) (gives_pickF h1106) ?_
                    refine JL.nil ?_
                    refine JQ.then_normal ?_
                    exact JQ.meet false () H0 (fun _ h => Heap.to (Heap.pick [] (by decide) h))
                · refine JL.off 2 144 true (some 145) h1103 ?_
                  refine JL.off 2 144 true (some 146) h1103 ?_
                  refine JL.off 2 144 true (some 147) h1103 ?_
                  refine JL.off 2 144 true (some 148) h1103 ?_
                  refine JL.val (.bool false) (some 149) (gives_pickF h1103) ?_
                  refine JL.mv (.bool false) ?_
                  refine JL.off 8 150 true (some 151) rfl ?_
                  refine JL.off 8 150 true (some 152) rfl ?_
                  refine JL.off 8 150 true (some 153) rfl ?_
                  refine JL.val (.bool false) (some 154) (gives_pickF rfl) ?_
                  refine JL.nil ?_
                  refine JQ.then_normal ?_
                  exact JQ.meet false () H0 (fun _ h => Heap.to (Heap.pick [] (by decide) h))
              · clear H0
                rintro x1101 ⟨⟩ H0
                replace H0 : law33_JonesGroup.k24 t13 x1101 = some r := H0
                unfold law33_JonesGroup.k24 at H0
                refine JQ.sub [(7, .bool t13), (154, .bool x1101)] ?_
                refine JQ.turn (Δ' := []) (fun _ h => h.to) ?_
                rcases ite_cases H0 with ⟨h1102, H0⟩ | ⟨h1102, H0⟩
                · refine J.cond_true h1102 ?_
                  refine J.seq ?_
                  refine J.region ?_
                  refine JL.as (.bool false) ?_
                  refine JL.nil ?_
                  refine JQ.then_normal ?_
                  refine JQ.sub [(6, .bool false)] ?_
                  refine J.ret ?_
                  refine JQ.then_ret ?_
                  obtain rfl := Option.some.inj H0
                  exact JQ.done' (rs := [.tmp 6]) (vs := [.bool false]) [] (.inr rfl) ⟨by kernel_rfl, trivial⟩ (fun _ h => Heap.to h) ⟨rfl, rfl⟩
                · refine J.cond_false h1102 ?_
                  refine J.skip ?_
                  refine JQ.then_normal ?_
                  refine JQ.sub [(7, .bool t13)] ?_
                  refine J.seq ?_
                  refine J.region ?_
                  refine JL.mv (.bool t13) ?_
                  refine JL.as (.bool t13) ?_
                  refine JL.nil ?_
                  refine JQ.then_normal ?_
                  refine JQ.sub [(6, .bool t13)] ?_
                  refine J.ret ?_
                  obtain rfl := Option.some.inj H0
                  exact JQ.done' (rs := [.tmp 6]) (vs := [.bool t13]) [] (.inr rfl) ⟨by kernel_rfl, trivial⟩ (fun _ h => Heap.to h) ⟨rfl, rfl⟩
            · refine J.cond_false h1091 ?_
              refine J.skip ?_
              refine JQ.then_normal ?_
              refine JQ.sub [(7, .bool t13)] ?_
              refine JQ.mask [] [false, false, false] ?_
              refine J.seq ?_
              refine J.region ?_
              refine JL.mv (.bool t13) ?_
              refine JL.as (.bool t13) ?_
              refine JL.nil ?_
              refine JQ.then_normal ?_
              refine JQ.sub [(6, .bool t13)] ?_
              refine J.ret ?_
              obtain rfl := Option.some.inj H0
              exact JQ.done' (rs := [.tmp 6]) (vs := [.bool t13]) [] (.inr rfl) ⟨by kernel_rfl, trivial⟩ (fun _ h => Heap.to h) ⟨rfl, rfl⟩


end Go.Proofs.Ytlfmmenlkpoodaa.M
