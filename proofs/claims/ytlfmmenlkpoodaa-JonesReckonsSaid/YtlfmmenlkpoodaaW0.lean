import Derived.Test.YtlfmmenlkpoodaaGw13
import Derived.Test.YtlfmmenlkpoodaaProg
import Derived.Test.YtlfmmenlkpoodaaM0
set_option linter.unusedVariables false
set_option linter.unusedSimpArgs false
set_option maxRecDepth 100000
set_option maxHeartbeats 8000000
namespace Go.Proofs.Ytlfmmenlkpoodaa.M
open Go.GW Go.Proofs

theorem eqg_23 : Try.prog.eqGuardType Try.prog.depth 23 = false := by kernel_rfl
theorem eqd_23 (d : Nat) (x y : Cx) (w : World) : (Op.equalIn (d + 2) 23 (.agg #[.int .i64 x.Re, .int .i64 x.Im, .int .i64 x.Den]) (.agg #[.int .i64 y.Re, .int .i64 y.Im, .int .i64 y.Den])).run Try.prog w = .ok (decide (x = y)) w := by
  have h : decide (x = y) = (decide (x.Re = y.Re) && (decide (x.Im = y.Im) && (decide (x.Den = y.Den) && true))) := by cases x; cases y; simp
  rw [h]
  exact eqs_of Try.underlying23 (eqf_cons (eq_int d 2 .i64 x.Re y.Re w Try.underlying2) (eqf_cons (eq_int d 2 .i64 x.Im y.Im w Try.underlying2) (eqf_cons (eq_int d 2 .i64 x.Den y.Den w Try.underlying2) eqf_nil)))
theorem eqt_23 (x y : Cx) (w : World) : (Op.equal 23 (.agg #[.int .i64 x.Re, .int .i64 x.Im, .int .i64 x.Den]) (.agg #[.int .i64 y.Re, .int .i64 y.Im, .int .i64 y.Den])).run Try.prog w = .ok (decide (x = y)) w := eqd_23 9998 x y w
theorem eqg_25 : Try.prog.eqGuardType Try.prog.depth 25 = false := by kernel_rfl
theorem tySize_eq_23 : tySize Try.prog 23 = some 3 := by kernel_rfl
theorem eqd_25 (d : Nat) (x y : (A4 Cx)) (w : World) : (Op.equalIn (d + 3) 25 (.agg #[.int .i64 x.e0.Re, .int .i64 x.e0.Im, .int .i64 x.e0.Den, .int .i64 x.e1.Re, .int .i64 x.e1.Im, .int .i64 x.e1.Den, .int .i64 x.e2.Re, .int .i64 x.e2.Im, .int .i64 x.e2.Den, .int .i64 x.e3.Re, .int .i64 x.e3.Im, .int .i64 x.e3.Den]) (.agg #[.int .i64 y.e0.Re, .int .i64 y.e0.Im, .int .i64 y.e0.Den, .int .i64 y.e1.Re, .int .i64 y.e1.Im, .int .i64 y.e1.Den, .int .i64 y.e2.Re, .int .i64 y.e2.Im, .int .i64 y.e2.Den, .int .i64 y.e3.Re, .int .i64 y.e3.Im, .int .i64 y.e3.Den])).run Try.prog w = .ok (decide (x = y)) w := by
  have h : decide (x = y) = (decide (x.e0 = y.e0) && (decide (x.e1 = y.e1) && (decide (x.e2 = y.e2) && (decide (x.e3 = y.e3) && true)))) := by cases x; cases y; simp
  rw [h]
  exact eqa_of Try.underlying25 (tySize_eq_23) (eqi_cons (eqd_23 d x.e0 y.e0 w) (eqi_cons (eqd_23 d x.e1 y.e1 w) (eqi_cons (eqd_23 d x.e2 y.e2 w) (eqi_cons (eqd_23 d x.e3 y.e3 w) eqi_nil))))
theorem eqt_25 (x y : (A4 Cx)) (w : World) : (Op.equal 25 (.agg #[.int .i64 x.e0.Re, .int .i64 x.e0.Im, .int .i64 x.e0.Den, .int .i64 x.e1.Re, .int .i64 x.e1.Im, .int .i64 x.e1.Den, .int .i64 x.e2.Re, .int .i64 x.e2.Im, .int .i64 x.e2.Den, .int .i64 x.e3.Re, .int .i64 x.e3.Im, .int .i64 x.e3.Den]) (.agg #[.int .i64 y.e0.Re, .int .i64 y.e0.Im, .int .i64 y.e0.Den, .int .i64 y.e1.Re, .int .i64 y.e1.Im, .int .i64 y.e1.Den, .int .i64 y.e2.Re, .int .i64 y.e2.Im, .int .i64 y.e2.Den, .int .i64 y.e3.Re, .int .i64 y.e3.Im, .int .i64 y.e3.Den])).run Try.prog w = .ok (decide (x = y)) w := eqd_25 9997 x y w
theorem tyAgg_2 : tyAgg Try.prog 2 = some false := by kernel_rfl
theorem tyAgg_23 : tyAgg Try.prog 23 = some true := by kernel_rfl
theorem tyAgg_25 : tyAgg Try.prog 25 = some true := by kernel_rfl
theorem tyAgg_26 : tyAgg Try.prog 26 = some false := by kernel_rfl
theorem tySize_2 : tySize Try.prog 2 = some 1 := by kernel_rfl
theorem tySize_23 : tySize Try.prog 23 = some 3 := by kernel_rfl
theorem tySize_25 : tySize Try.prog 25 = some 12 := by kernel_rfl
theorem tySize_26 : tySize Try.prog 26 = some 1 := by kernel_rfl
theorem cx_Check_1.ok (n1 : Int) (r : Bool) (H0 : cx_Check_1.f n1 = some r) :
    Does Try.prog 77 [.int .i64 n1].toArray [] [] false (fun v Δ => v = .bool r ∧ Δ = []) := by
  refine Does.body (vs := [.int .i64 n1]) Try.func77 rfl trivial trivial fun w S => ?_
  unfold cx_Check_1.f at H0
  refine J.seq ?_
  refine J.region ?_
  refine JL.as (.bool false) ?_
  refine JL.nil ?_
  refine JQ.then_normal ?_
  refine JQ.sub [(0, .int .i64 n1)] ?_
  refine J.seq ?_
  refine J.region ?_
  refine JL.mv (.int .i64 n1) ?_
  refine JL.pur (.bool (decide ((-1000000000) ≤ n1))) (some 4) ?_
  refine JL.mv (.bool (decide ((-1000000000) ≤ n1))) ?_
  rcases ite_cases H0 with ⟨h2, H0⟩ | ⟨h2, H0⟩
  · refine JL.on 2 5 h2 ?_
    refine JL.mv (.int .i64 n1) ?_
    refine JL.on 2 5 h2 ?_
    refine JL.pur (.bool (decide (n1 ≤ 1000000000))) (some 7) ?_
    refine JL.val (.bool (decide (n1 ≤ 1000000000))) (some 8) (gives_pickT h2) ?_
    refine JL.as (.bool (decide (n1 ≤ 1000000000))) ?_
    refine JL.nil ?_
    refine JQ.then_normal ?_
    refine JQ.sub [(2, .bool (decide (n1 ≤ 1000000000)))] ?_
    refine J.ret ?_
    obtain rfl := Option.some.inj H0
    exact JQ.done' (rs := [.tmp 2]) (vs := [.bool (decide (n1 ≤ 1000000000))]) [] (.inr rfl) ⟨by kernel_rfl, trivial⟩ (fun _ h => Heap.to h) ⟨rfl, rfl⟩
  · refine JL.off 2 5 true (some 6) h2 ?_
    refine JL.off 2 5 true (some 7) h2 ?_
    refine JL.val (.bool false) (some 8) (gives_pickF h2) ?_
    refine JL.as (.bool false) ?_
    refine JL.nil ?_
    refine JQ.then_normal ?_
    refine JQ.sub [(2, .bool false)] ?_
    refine J.ret ?_
    obtain rfl := Option.some.inj H0
    exact JQ.done' (rs := [.tmp 2]) (vs := [.bool false]) [] (.inr rfl) ⟨by kernel_rfl, trivial⟩ (fun _ h => Heap.to h) ⟨rfl, rfl⟩

theorem cx_gcd.ok (l1 : (List Int)) (A2 : Option Addr) (c3 : Nat) (r : Int) (H0 : cx_gcd.f l1 = some r) :
    Does Try.prog 67 [.slice A2 l1.length c3].toArray [At.rd A2 c3 ((flInt .i64).kd) l1 true] [] false (fun v Δ => v = .int .i64 r ∧ Δ = []) := by
  refine Does.body (vs := [.slice A2 l1.length c3]) Try.func67 rfl ⟨.inl rfl, trivial⟩ trivial fun w S => ?_
  unfold cx_gcd.f at H0
  refine J.seq ?_
  refine J.region ?_
  refine JL.as (.int .i64 0) ?_
  refine JL.nil ?_
  refine JQ.then_normal ?_
  refine JQ.sub [(0, .slice A2 l1.length c3)] ?_
  refine J.seq ?_
  refine J.region ?_
  refine JL.as (.int .i64 0) ?_
  refine JL.nil ?_
  refine JQ.then_normal ?_
  refine J.seq ?_
  refine J.seq ?_
  refine J.region ?_
  refine JL.mv (.slice A2 l1.length c3) ?_
  refine JL.pur (.int .i64 (l1.length : Int)) (some 7) ?_
  refine JL.mv (.int .i64 0) ?_
  refine JL.nil ?_
  refine JQ.then_normal ?_
  refine JQ.sub [(3, .int .i64 0), (6, .slice A2 l1.length c3), (7, .int .i64 (l1.length : Int)), (8, .int .i64 0)] ?_
  obtain ⟨o1, hit, H0⟩ := bind_some H0
  refine J.loop (σ := (Int × Int)) (τ := Int) (G := ((Option Addr) × Nat)) (G' := Unit) _ o1 (fun s g => [(3, .int .i64 s.1), (6, .slice g.1 l1.length g.2), (7, .int .i64 (l1.length : Int)), (8, .int .i64 s.2)]) (fun s g => [At.rd g.1 g.2 ((flInt .i64).kd) l1 true]) (fun t => cx_gcd.k8 t = some r) (fun t g => [(3, .int .i64 t)]) (fun t g => []) (0, 0) (A2, c3) hit (fun _ h => Heap.to h) ?_ ?_
  · clear hit
    rintro ⟨g63, x67⟩ ⟨A64, c65⟩ st1 H1 hb1 hr1
    replace H1 : cx_gcd.s7 l1 g63 x67 = some st1 := H1
    unfold cx_gcd.s7 at H1
    refine JQ.sub [(3, .int .i64 g63), (6, .slice A64 l1.length c65), (7, .int .i64 (l1.length : Int)), (8, .int .i64 x67)] ?_
    refine JQ.turn (Δ' := [At.rd A64 c65 ((flInt .i64).kd) l1 true]) (fun _ h => h.to) ?_
    refine J.seq ?_
    refine J.region ?_
    refine JL.pur (.bool (decide (x67 < (l1.length : Int)))) (some 9) ?_
    refine JL.nil ?_
    refine JQ.then_normal ?_
    refine J.seq ?_
    rcases ite_cases H1 with ⟨h93, H1⟩ | ⟨h93, H1⟩
    · refine J.cond_true h93 ?_
      refine J.skip ?_
      refine JQ.then_normal ?_
      refine JQ.sub [(3, .int .i64 g63), (6, .slice A64 l1.length c65), (7, .int .i64 (l1.length : Int)), (8, .int .i64 x67)] ?_
      refine J.seq ?_
      refine J.block ?_
      refine J.seq ?_
      refine J.region ?_
      obtain ⟨⟨h94, h95⟩, H1⟩ := ite_must H1
      refine JL.ixAddr 0 1 c65 .i64 (elems_rd A64 c65 ((flInt .i64).kd) l1 true) Try.underlying100 tySize_2 h94 h95 fun g96 o97 hA => ?_
      subst hA
      refine JL.val (.int .i64 (ix l1 x67)) (some 11) (gives_loadEl (f := (flInt .i64)) 0 0 x67 (elems_rd (some ⟨g96, o97, none⟩) c65 ((flInt .i64).kd) l1 true) h94 h95 tySize_2 (.inr ⟨tyAgg_2, rfl, rfl⟩)) ?_
      refine JL.as (.int .i64 (ix l1 x67)) ?_
      refine JL.nil ?_
      refine JQ.then_normal ?_
      refine JQ.sub [(3, .int .i64 g63), (5, .int .i64 (ix l1 x67)), (6, .slice (some ⟨g96, o97, none⟩) l1.length c65), (7, .int .i64 (l1.length : Int)), (8, .int .i64 x67)] ?_
      obtain ⟨o2, hit, H1⟩ := bind_some H1
      refine J.loop (σ := (Int × Int)) (τ := Int) (G := Unit) (G' := Unit) _ o2 (fun s g => [(3, .int .i64 s.1), (5, .int .i64 s.2), (6, .slice (some ⟨g96, o97, none⟩) l1.length c65), (7, .int .i64 (l1.length : Int)), (8, .int .i64 x67)]) (fun s g => [At.rd (some ⟨g96, o97, none⟩) c65 ((flInt .i64).kd) l1 true]) (fun t => cx_gcd.k10 x67 t = some st1) (fun t g => [(3, .int .i64 t), (6, .slice (some ⟨g96, o97, none⟩) l1.length c65), (7, .int .i64 (l1.length : Int)), (8, .int .i64 x67)]) (fun t g => [At.rd (some ⟨g96, o97, none⟩) c65 ((flInt .i64).kd) l1 true]) (g63, (ix l1 x67)) () hit (fun _ h => Heap.to h) ?_ ?_
      · clear hit
        rintro ⟨g108, n109⟩ ⟨⟩ st2 H2 hb2 hr2
        replace H2 : cx_gcd.s9 g108 n109 = some st2 := H2
        unfold cx_gcd.s9 at H2
        refine JQ.sub [(3, .int .i64 g108), (5, .int .i64 n109), (6, .slice (some ⟨g96, o97, none⟩) l1.length c65), (7, .int .i64 (l1.length : Int)), (8, .int .i64 x67)] ?_
        refine JQ.turn (Δ' := [At.rd (some ⟨g96, o97, none⟩) c65 ((flInt .i64).kd) l1 true]) (fun _ h => h.to) ?_
        refine J.seq ?_
        refine J.seq ?_
        refine J.region ?_
        refine JL.mv (.int .i64 n109) ?_
        refine JL.pur (.bool (!decide (n109 = 0))) (some 13) ?_
        refine JL.nil ?_
        refine JQ.then_normal ?_
        refine JQ.sub [(3, .int .i64 g108), (5, .int .i64 n109), (6, .slice (some ⟨g96, o97, none⟩) l1.length c65), (7, .int .i64 (l1.length : Int)), (8, .int .i64 x67), (13, .bool (!decide (n109 = 0)))] ?_
        rcases ite_cases H2 with ⟨h114, H2⟩ | ⟨h114, H2⟩
        · refine J.cond_true h114 ?_
          refine J.skip ?_
          refine JQ.then_normal ?_
          refine JQ.sub [(3, .int .i64 g108), (5, .int .i64 n109), (6, .slice (some ⟨g96, o97, none⟩) l1.length c65), (7, .int .i64 (l1.length : Int)), (8, .int .i64 x67)] ?_
          refine J.block ?_
          refine J.draw ?_
          refine QL.mv (.int .i64 n109) ?_
          refine QL.mv (.int .i64 g108) ?_
          refine QL.mv (.int .i64 n109) ?_
          obtain ⟨h115, H2⟩ := ite_must H2
          refine QL.val (.int .i64 (Int.tmod g108 n109)) (some 17) (gives_rem .i64 g108 n109 h115) ?_
          refine QL.as (.int .i64 n109) ?_
          obtain ⟨n116, en116, H2⟩ := lt_some H2
          refine QL.as' (k := .i64) n116 en116 ?_
          refine QL.nil ?_
          refine JA.nil ?_
          refine JQ.blk_normal ?_
          refine JQ.then_normal ?_
          exact JQ.again (n109, n116) () (Option.some.inj H2).symm (fun _ h => Heap.to h)
        · refine J.cond_false h114 ?_
          refine J.exit ?_
          refine JQ.then_exit ?_
          refine JQ.then_exit ?_
          refine JQ.blk_exit ?_
          rw [hb2 _ (Option.some.inj H2).symm, fin_brk] at H1
          exact JQ.met g108 () H1 (fun _ h => Heap.to h)
      · clear hit H1
        rintro g113 ⟨⟩ H1
        replace H1 : cx_gcd.k10 x67 g113 = some st1 := H1
        unfold cx_gcd.k10 at H1
        refine JQ.sub [(3, .int .i64 g113), (6, .slice (some ⟨g96, o97, none⟩) l1.length c65), (7, .int .i64 (l1.length : Int)), (8, .int .i64 x67)] ?_
        refine JQ.turn (Δ' := [At.rd (some ⟨g96, o97, none⟩) c65 ((flInt .i64).kd) l1 true]) (fun _ h => h.to) ?_
        refine JQ.blk_normal ?_
        refine JQ.then_normal ?_
        refine J.region ?_
        refine JL.pur (.int .i64 (w64 (x67 + 1))) (some 18) ?_
        refine JL.mv (.int .i64 (w64 (x67 + 1))) ?_
        refine JL.nil ?_
        refine JQ.then_normal ?_
        exact JQ.again (g113, w64 (x67 + 1)) ((some ⟨g96, o97, none⟩), c65) (Option.some.inj H1).symm (fun _ h => Heap.to h)
    · refine J.cond_false h93 ?_
      refine J.exit ?_
      refine JQ.then_exit ?_
      refine JQ.then_exit ?_
      refine JQ.blk_exit ?_
      rw [hb1 _ (Option.some.inj H1).symm, fin_brk] at H0
      exact JQ.met g63 () H0 (fun _ h => Heap.to (Heap.pick [] (by decide) h))
  · clear hit H0
    rintro g92 ⟨⟩ H0
    replace H0 : cx_gcd.k8 g92 = some r := H0
    unfold cx_gcd.k8 at H0
    refine JQ.sub [(3, .int .i64 g92)] ?_
    refine JQ.turn (Δ' := []) (fun _ h => h.to) ?_
    refine JQ.then_normal ?_
    refine J.seq ?_
    refine J.region ?_
    refine JL.mv (.int .i64 g92) ?_
    refine JL.mv (.int .i64 g92) ?_
    refine JL.pur (.int .i64 (w64 (0 - g92))) (some 21) ?_
    refine JL.pur (.int .i64 (gmax g92 (w64 (0 - g92)))) (some 22) ?_
    refine JL.as (.int .i64 (gmax g92 (w64 (0 - g92)))) ?_
    refine JL.nil ?_
    refine JQ.then_normal ?_
    refine JQ.sub [(2, .int .i64 (gmax g92 (w64 (0 - g92))))] ?_
    refine J.ret ?_
    obtain rfl := Option.some.inj H0
    exact JQ.done' (rs := [.tmp 2]) (vs := [.int .i64 (gmax g92 (w64 (0 - g92)))]) [] (.inr rfl) ⟨by kernel_rfl, trivial⟩ (fun _ h => Heap.to h) ⟨rfl, rfl⟩

theorem cx_Check.ok (a1 : Cx) (r : Int) (H0 : cx_Check.f a1 = some r) :
    Does Try.prog 62 [.agg #[.int .i64 a1.Re, .int .i64 a1.Im, .int .i64 a1.Den]].toArray [] [] false (fun v Δ => v = .int .i64 r ∧ Δ = []) := by
  refine Does.body (vs := [.agg #[.int .i64 a1.Re, .int .i64 a1.Im, .int .i64 a1.Den]]) Try.func62 rfl trivial trivial fun w S => ?_
  unfold cx_Check.f at H0
  refine J.seq ?_
  refine J.region ?_
  refine JL.box [.int .i64 a1.Re, .int .i64 a1.Im, .int .i64 a1.Den] fun b2 => ?_
  refine JL.as (.int .i64 0) ?_
  refine JL.nil ?_
  refine JQ.then_normal ?_
  refine JQ.sub [(1, .pointer (some ⟨b2, 0, none⟩))] ?_
  refine J.seq ?_
  refine J.region ?_
  refine JL.as (.func (.func 77) #[] #[]) ?_
  refine JL.nil ?_
  refine JQ.then_normal ?_
  refine J.seq ?_
  refine J.join (T := Bool) (G := Unit) (fun t => cx_Check.k1 t = some r) (fun t g => [(38, .bool t)]) (fun t g => []) ?_ ?_
  · refine J.region ?_
    refine JL.pur (.pointer (some ⟨b2, 2, none⟩)) (some 4) ?_
    refine JL.val (.int .i64 a1.Den) (some 5) (yields_load_box 0 2 (holds_box b2 23 [.int .i64 a1.Re, .int .i64 a1.Im, .int .i64 a1.Den]) tyAgg_2) ?_
    refine JL.pur (.bool (decide (a1.Den < 1))) (some 6) ?_
    refine JL.mv (.bool (decide (a1.Den < 1))) ?_
    rcases ite_cases H0 with ⟨h18, H0⟩ | ⟨h18, H0⟩
    · refine JL.off 3 7 false (some 8) h18 ?_
      refine JL.off 3 7 false (some 9) h18 ?_
      refine JL.off 3 7 false (some 10) h18 ?_
      refine JL.off 3 7 false (some 11) h18 ?_
      refine JL.off 3 7 false (some 12) h18 ?_
      refine JL.val (.bool true) (some 13) (gives_pickT h18) ?_
      refine JL.mv (.bool true) ?_
      refine JL.off 10 14 false (some 15) rfl ?_
      refine JL.off 10 14 false (some 16) rfl ?_
      refine JL.off 10 14 false (some 17) rfl ?_
      refine JL.off 10 14 false (some 18) rfl ?_
      refine JL.off 10 14 false (some 19) rfl ?_
      refine JL.val (.bool true) (some 20) (gives_pickT rfl) ?_
      refine JL.mv (.bool true) ?_
      refine JL.off 17 21 false (some 22) rfl ?_
      refine JL.off 17 21 false (some 23) rfl ?_
      refine JL.off 17 21 false (some 24) rfl ?_
      refine JL.off 17 21 false (some 25) rfl ?_
      refine JL.off 17 21 false (some 26) rfl ?_
      refine JL.val (.bool true) (some 27) (gives_pickT rfl) ?_
      refine JL.mv (.bool true) ?_
      refine JL.off 24 28 false (some 29) rfl ?_
      refine JL.off 24 28 false (some 30) rfl ?_
      refine JL.off 24 28 false (some 31) rfl ?_
      refine JL.off 24 28 false (some 32) rfl ?_
      refine JL.off 24 28 false (some 33) rfl ?_
      refine JL.off 24 28 false (some 34) rfl ?_
      refine JL.off 24 28 false (some 35) rfl ?_
      refine JL.off 24 28 false (some 36) rfl ?_
      refine JL.off 24 28 false (some 37) rfl ?_
      refine JL.val (.bool true) (some 38) (gives_pickT rfl) ?_
      refine JL.nil ?_
      refine JQ.then_normal ?_
      exact JQ.meet true () H0 (fun _ h => Heap.to (Heap.pick [] (by decide) h))
    · refine JL.on 3 7 h18 ?_
      refine JL.mv (.func (.func 77) #[] #[]) ?_
      refine JL.on 3 7 h18 ?_
      refine JL.pur (.pointer (some ⟨b2, 0, none⟩)) (some 9) ?_
      refine JL.on 3 7 h18 ?_
      refine JL.val (.int .i64 a1.Re) (some 10) (yields_load_box 0 0 (holds_box b2 23 [.int .i64 a1.Re, .int .i64 a1.Im, .int .i64 a1.Den]) tyAgg_2) ?_
      refine JL.on 3 7 h18 ?_
      obtain ⟨t19, hc20, H0⟩ := bind_some H0
      refine JL.call [] [] [] (cx_Check_1.ok a1.Re _ hc20) trivial ?_
      rintro _ _ ⟨rfl, rfl⟩
      refine JL.on 3 7 h18 ?_
      refine JL.pur (.bool (!t19)) (some 12) ?_
      refine JL.val (.bool (!t19)) (some 13) (gives_pickF h18) ?_
      refine JL.mv (.bool (!t19)) ?_
      rcases ite_cases H0 with ⟨h21, H0⟩ | ⟨h21, H0⟩
      · refine JL.off 10 14 false (some 15) h21 ?_
        refine JL.off 10 14 false (some 16) h21 ?_
        refine JL.off 10 14 false (some 17) h21 ?_
        refine JL.off 10 14 false (some 18) h21 ?_
        refine JL.off 10 14 false (some 19) h21 ?_
        refine JL.val (.bool true) (some 20) (gives_pickT h21) ?_
        refine JL.mv (.bool true) ?_
        refine JL.off 17 21 false (some 22) rfl ?_
        refine JL.off 17 21 false (some 23) rfl ?_
        refine JL.off 17 21 false (some 24) rfl ?_
        refine JL.off 17 21 false (some 25) rfl ?_
        refine JL.off 17 21 false (some 26) rfl ?_
        refine JL.val (.bool true) (some 27) (gives_pickT rfl) ?_
        refine JL.mv (.bool true) ?_
        refine JL.off 24 28 false (some 29) rfl ?_
        refine JL.off 24 28 false (some 30) rfl ?_
        refine JL.off 24 28 false (some 31) rfl ?_
        refine JL.off 24 28 false (some 32) rfl ?_
        refine JL.off 24 28 false (some 33) rfl ?_
        refine JL.off 24 28 false (some 34) rfl ?_
        refine JL.off 24 28 false (some 35) rfl ?_
        refine JL.off 24 28 false (some 36) rfl ?_
        refine JL.off 24 28 false (some 37) rfl ?_
        refine JL.val (.bool true) (some 38) (gives_pickT rfl) ?_
        refine JL.nil ?_
        refine JQ.then_normal ?_
        exact JQ.meet true () H0 (fun _ h => Heap.to (Heap.pick [] (by decide) h))
      · refine JL.on 10 14 h21 ?_
        refine JL.mv (.func (.func 77) #[] #[]) ?_
        refine JL.on 10 14 h21 ?_
        refine JL.pur (.pointer (some ⟨b2, 1, none⟩)) (some 16) ?_
        refine JL.on 10 14 h21 ?_
        refine JL.val (.int .i64 a1.Im) (some 17) (yields_load_box 0 1 (holds_box b2 23 [.int .i64 a1.Re, .int .i64 a1.Im, .int .i64 a1.Den]) tyAgg_2) ?_
        refine JL.on 10 14 h21 ?_
        obtain ⟨t22, hc23, H0⟩ := bind_some H0
        refine JL.call [] [] [] (cx_Check_1.ok a1.Im _ hc23) trivial ?_
        rintro _ _ ⟨rfl, rfl⟩
        refine JL.on 10 14 h21 ?_
        refine JL.pur (.bool (!t22)) (some 19) ?_
        refine JL.val (.bool (!t22)) (some 20) (gives_pickF h21) ?_
        refine JL.mv (.bool (!t22)) ?_
        rcases ite_cases H0 with ⟨h24, H0⟩ | ⟨h24, H0⟩
        · refine JL.off 17 21 false (some 22) h24 ?_
          refine JL.off 17 21 false (some 23) h24 ?_
          refine JL.off 17 21 false (some 24) h24 ?_
          refine JL.off 17 21 false (some 25) h24 ?_
          refine JL.off 17 21 false (some 26) h24 ?_
          refine JL.val (.bool true) (some 27) (gives_pickT h24) ?_
          refine JL.mv (.bool true) ?_
          refine JL.off 24 28 false (some 29) rfl ?_
          refine JL.off 24 28 false (some 30) rfl ?_
          refine JL.off 24 28 false (some 31) rfl ?_
          refine JL.off 24 28 false (some 32) rfl ?_
          refine JL.off 24 28 false (some 33) rfl ?_
          refine JL.off 24 28 false (some 34) rfl ?_
          refine JL.off 24 28 false (some 35) rfl ?_
          refine JL.off 24 28 false (some 36) rfl ?_
          refine JL.off 24 28 false (some 37) rfl ?_
          refine JL.val (.bool true) (some 38) (gives_pickT rfl) ?_
          refine JL.nil ?_
          refine JQ.then_normal ?_
          exact JQ.meet true () H0 (fun _ h => Heap.to (Heap.pick [] (by decide) h))
        · refine JL.on 17 21 h24 ?_
          refine JL.mv (.func (.func 77) #[] #[]) ?_
          refine JL.on 17 21 h24 ?_
          refine JL.pur (.pointer (some ⟨b2, 2, none⟩)) (some 23) ?_
          refine JL.on 17 21 h24 ?_
          refine JL.val (.int .i64 a1.Den) (some 24) (yields_load_box 0 2 (holds_box b2 23 [.int .i64 a1.Re, .int .i64 a1.Im, .int .i64 a1.Den]) tyAgg_2) ?_
          refine JL.on 17 21 h24 ?_
          obtain ⟨t25, hc26, H0⟩ := bind_some H0
          refine JL.call [] [] [] (cx_Check_1.ok a1.Den _ hc26) trivial ?_
          rintro _ _ ⟨rfl, rfl⟩
          refine JL.on 17 21 h24 ?_
          refine JL.pur (.bool (!t25)) (some 26) ?_
          refine JL.val (.bool (!t25)) (some 27) (gives_pickF h24) ?_
          refine JL.mv (.bool (!t25)) ?_
          rcases ite_cases H0 with ⟨h27, H0⟩ | ⟨h27, H0⟩
          · refine JL.off 24 28 false (some 29) h27 ?_
            refine JL.off 24 28 false (some 30) h27 ?_
            refine JL.off 24 28 false (some 31) h27 ?_
            refine JL.off 24 28 false (some 32) h27 ?_
            refine JL.off 24 28 false (some 33) h27 ?_
            refine JL.off 24 28 false (some 34) h27 ?_
            refine JL.off 24 28 false (some 35) h27 ?_
            refine JL.off 24 28 false (some 36) h27 ?_
            refine JL.off 24 28 false (some 37) h27 ?_
            refine JL.val (.bool true) (some 38) (gives_pickT h27) ?_
            refine JL.nil ?_
            refine JQ.then_normal ?_
            exact JQ.meet true () H0 (fun _ h => Heap.to (Heap.pick [] (by decide) h))
          · refine JL.on 24 28 h27 ?_
            refine JL.pur (.pointer (some ⟨b2, 0, none⟩)) (some 29) ?_
            refine JL.on 24 28 h27 ?_
            refine JL.val (.int .i64 a1.Re) (some 30) (yields_load_box 0 0 (holds_box b2 23 [.int .i64 a1.Re, .int .i64 a1.Im, .int .i64 a1.Den]) tyAgg_2) ?_
            refine JL.on 24 28 h27 ?_
            refine JL.pur (.pointer (some ⟨b2, 1, none⟩)) (some 31) ?_
            refine JL.on 24 28 h27 ?_
            refine JL.val (.int .i64 a1.Im) (some 32) (yields_load_box 0 1 (holds_box b2 23 [.int .i64 a1.Re, .int .i64 a1.Im, .int .i64 a1.Den]) tyAgg_2) ?_
            refine JL.on 24 28 h27 ?_
            refine JL.pur (.pointer (some ⟨b2, 2, none⟩)) (some 33) ?_
            refine JL.on 24 28 h27 ?_
            refine JL.val (.int .i64 a1.Den) (some 34) (yields_load_box 0 2 (holds_box b2 23 [.int .i64 a1.Re, .int .i64 a1.Im, .int .i64 a1.Den]) tyAgg_2) ?_
            refine JL.on 24 28 h27 ?_
            refine JL.buildSl 2 ((flInt .i64).kd) (([a1.Re, a1.Im, a1.Den] : List Int) : List Int) [.int .i64 a1.Re, .int .i64 a1.Im, .int .i64 a1.Den] false (closes_fl rfl) fun b28 => ?_
            refine JL.on 24 28 h27 ?_
            obtain ⟨t29, hc30, H0⟩ := bind_some H0
            refine JL.call [] [] [] (cx_gcd.ok ([a1.Re, a1.Im, a1.Den] : List Int) (some ⟨b28, 0, none⟩) 3 _ hc30) ⟨pre_view 1 (view_row (some ⟨b28, 0, none⟩) 3 2 ((flInt .i64).kd) ([a1.Re, a1.Im, a1.Den] : List Int) false true), trivial⟩ ?_
            rintro _ _ ⟨rfl, rfl⟩
            refine JL.on 24 28 h27 ?_
            refine JL.pur (.bool (!decide (t29 = 1))) (some 37) ?_
            refine JL.val (.bool (!decide (t29 = 1))) (some 38) (gives_pickF h27) ?_
            refine JL.nil ?_
            refine JQ.then_normal ?_
            exact JQ.meet (!decide (t29 = 1)) () H0 (fun _ h => Heap.to (Heap.pick [] (by decide) h))
  · clear H0
    rintro x16 ⟨⟩ H0
    replace H0 : cx_Check.k1 x16 = some r := H0
    unfold cx_Check.k1 at H0
    refine JQ.sub [(38, .bool x16)] ?_
    refine JQ.turn (Δ' := []) (fun _ h => h.to) ?_
    rcases ite_cases H0 with ⟨h17, H0⟩ | ⟨h17, H0⟩
    · refine J.cond_true h17 ?_
      refine J.seq ?_
      refine J.region ?_
      refine JL.as (.int .i64 8) ?_
      refine JL.nil ?_
      refine JQ.then_normal ?_
      refine JQ.sub [(2, .int .i64 8)] ?_
      refine J.ret ?_
      refine JQ.then_ret ?_
      obtain rfl := Option.some.inj H0
      exact JQ.done' (rs := [.tmp 2]) (vs := [.int .i64 8]) [] (.inr rfl) ⟨by kernel_rfl, trivial⟩ (fun _ h => Heap.to h) ⟨rfl, rfl⟩
    · refine J.cond_false h17 ?_
      refine J.skip ?_
      refine JQ.then_normal ?_
      refine JQ.sub [] ?_
      refine J.seq ?_
      refine J.region ?_
      refine JL.as (.int .i64 0) ?_
      refine JL.nil ?_
      refine JQ.then_normal ?_
      refine J.ret ?_
      obtain rfl := Option.some.inj H0
      exact JQ.done' (rs := [.tmp 2]) (vs := [.int .i64 0]) [] (.inr rfl) ⟨by kernel_rfl, trivial⟩ (fun _ h => Heap.to h) ⟨rfl, rfl⟩

theorem jones_valid_1.ok (x1 : Cx) (r : Bool) (H0 : jones_valid_1.f x1 = some r) :
    Does Try.prog 61 [.agg #[.int .i64 x1.Re, .int .i64 x1.Im, .int .i64 x1.Den]].toArray [] [] false (fun v Δ => v = .bool r ∧ Δ = []) := by
  refine Does.body (vs := [.agg #[.int .i64 x1.Re, .int .i64 x1.Im, .int .i64 x1.Den]]) Try.func61 rfl trivial trivial fun w S => ?_
  unfold jones_valid_1.f at H0
  refine J.seq ?_
  refine J.region ?_
  refine JL.box [.int .i64 x1.Re, .int .i64 x1.Im, .int .i64 x1.Den] fun b2 => ?_
  refine JL.as (.bool false) ?_
  refine JL.nil ?_
  refine JQ.then_normal ?_
  refine JQ.sub [(1, .pointer (some ⟨b2, 0, none⟩))] ?_
  refine J.seq ?_
  refine J.region ?_
  refine JL.val (.agg #[.int .i64 x1.Re, .int .i64 x1.Im, .int .i64 x1.Den]) (some 3) (yields_load_boxes 0 0 [.int .i64 x1.Re, .int .i64 x1.Im, .int .i64 x1.Den] (holds_box b2 23 [.int .i64 x1.Re, .int .i64 x1.Im, .int .i64 x1.Den]) tyAgg_23 tySize_23) ?_
  obtain ⟨t3, hc4, H0⟩ := bind_some H0
  refine JL.call [] [] [] (cx_Check.ok x1 _ hc4) trivial ?_
  rintro _ _ ⟨rfl, rfl⟩
  refine JL.pur (.bool (!decide (t3 = 0))) (some 5) ?_
  refine JL.as (.bool (!decide (t3 = 0))) ?_
  refine JL.nil ?_
  refine JQ.then_normal ?_
  refine JQ.sub [(2, .bool (!decide (t3 = 0)))] ?_
  refine JQ.mask [] [false] ?_
  refine J.ret ?_
  obtain rfl := Option.some.inj H0
  exact JQ.done' (rs := [.tmp 2]) (vs := [.bool (!decide (t3 = 0))]) [] (.inr rfl) ⟨by kernel_rfl, trivial⟩ (fun _ h => Heap.to h) ⟨rfl, rfl⟩

theorem slices_IndexFunc__api_Cx_api_Cx__jones_valid_1.ok (s1 : (List Cx)) (A2 : Option Addr) (c3 : Nat) (r : Int) (H0 : slices_IndexFunc__api_Cx_api_Cx__jones_valid_1.f s1 = some r) :
    Does Try.prog 76 [.slice A2 s1.length c3, .func (.func 61) #[] #[]].toArray [At.rd A2 c3 fl_Cx.kd s1 true] [] false (fun v Δ => v = .int .i64 r ∧ Δ = []) := by
  refine Does.body (vs := [.slice A2 s1.length c3, .func (.func 61) #[] #[]]) Try.func76 rfl ⟨.inl rfl, trivial⟩ trivial fun w S => ?_
  unfold slices_IndexFunc__api_Cx_api_Cx__jones_valid_1.f at H0
  refine J.seq ?_
  refine J.region ?_
  refine JL.as (.int .i64 0) ?_
  refine JL.nil ?_
  refine JQ.then_normal ?_
  refine JQ.sub [(0, .slice A2 s1.length c3), (1, .func (.func 61) #[] #[])] ?_
  refine J.seq ?_
  refine J.seq ?_
  refine J.region ?_
  refine JL.mv (.slice A2 s1.length c3) ?_
  refine JL.pur (.int .i64 (s1.length : Int)) (some 7) ?_
  refine JL.mv (.int .i64 0) ?_
  refine JL.nil ?_
  refine JQ.then_normal ?_
  refine JQ.sub [(0, .slice A2 s1.length c3), (1, .func (.func 61) #[] #[]), (7, .int .i64 (s1.length : Int)), (8, .int .i64 0)] ?_
  obtain ⟨o1, hit, H0⟩ := bind_some H0
  refine J.loop (σ := Int) (τ := Unit) (G := Unit) (G' := Unit) _ o1 (fun s g => [(0, .slice A2 s1.length c3), (1, .func (.func 61) #[] #[]), (7, .int .i64 (s1.length : Int)), (8, .int .i64 s)]) (fun s g => [At.rd A2 c3 fl_Cx.kd s1 true]) (fun t => slices_IndexFunc__api_Cx_api_Cx__jones_valid_1.k2 = some r) (fun t g => []) (fun t g => []) 0 () hit (fun _ h => Heap.to h) ?_ ?_
  · clear hit
    rintro x23 ⟨⟩ st1 H1 hb1 hr1
    replace H1 : slices_IndexFunc__api_Cx_api_Cx__jones_valid_1.s1 s1 x23 = some st1 := H1
    unfold slices_IndexFunc__api_Cx_api_Cx__jones_valid_1.s1 at H1
    refine JQ.sub [(0, .slice A2 s1.length c3), (1, .func (.func 61) #[] #[]), (7, .int .i64 (s1.length : Int)), (8, .int .i64 x23)] ?_
    refine JQ.turn (Δ' := [At.rd A2 c3 fl_Cx.kd s1 true]) (fun _ h => h.to) ?_
    refine J.seq ?_
    refine J.region ?_
    refine JL.pur (.bool (decide (x23 < (s1.length : Int)))) (some 9) ?_
    refine JL.nil ?_
    refine JQ.then_normal ?_
    refine J.seq ?_
    rcases ite_cases H1 with ⟨h32, H1⟩ | ⟨h32, H1⟩
    · refine J.cond_true h32 ?_
      refine J.skip ?_
      refine JQ.then_normal ?_
      refine JQ.sub [(0, .slice A2 s1.length c3), (1, .func (.func 61) #[] #[]), (7, .int .i64 (s1.length : Int)), (8, .int .i64 x23)] ?_
      refine J.seq ?_
      refine J.block ?_
      refine J.seq ?_
      refine J.region ?_
      refine JL.mv (.int .i64 x23) ?_
      refine JL.as (.int .i64 x23) ?_
      refine JL.nil ?_
      refine JQ.then_normal ?_
      refine JQ.sub [(0, .slice A2 s1.length c3), (1, .func (.func 61) #[] #[]), (5, .int .i64 x23), (7, .int .i64 (s1.length : Int)), (8, .int .i64 x23)] ?_
      refine J.seq ?_
      refine J.region ?_
      refine JL.mv (.func (.func 61) #[] #[]) ?_
      refine JL.mv (.slice A2 s1.length c3) ?_
      refine JL.mv (.int .i64 x23) ?_
      obtain ⟨⟨h33, h34⟩, H1⟩ := ite_must H1
      refine JL.ixAddr 0 3 c3 .i64 (elems_rd A2 c3 fl_Cx.kd s1 true) Try.underlying84 tySize_23 h33 h34 fun g35 o36 hA => ?_
      subst hA
      refine JL.val (.agg #[.int .i64 ((ix s1 x23).Re), .int .i64 ((ix s1 x23).Im), .int .i64 ((ix s1 x23).Den)]) (some 15) (gives_loadEl (f := fl_Cx) 0 0 x23 (elems_rd (some ⟨g35, o36, none⟩) c3 fl_Cx.kd s1 true) h33 h34 tySize_23 (.inl ⟨tyAgg_23, rfl⟩)) ?_
      obtain ⟨t37, hc38, H1⟩ := bind_some H1
      refine JL.call [] [] [] (jones_valid_1.ok (⟨((ix s1 x23).Re), ((ix s1 x23).Im), ((ix s1 x23).Den)⟩ : Cx) _ hc38) trivial ?_
      rintro _ _ ⟨rfl, rfl⟩
      refine JL.nil ?_
      refine JQ.then_normal ?_
      refine JQ.sub [(0, .slice (some ⟨g35, o36, none⟩) s1.length c3), (1, .func (.func 61) #[] #[]), (5, .int .i64 x23), (7, .int .i64 (s1.length : Int)), (8, .int .i64 x23), (16, .bool t37)] ?_
      rcases ite_cases H1 with ⟨h39, H1⟩ | ⟨h39, H1⟩
      · refine J.cond_true h39 ?_
        refine J.seq ?_
        refine J.region ?_
        refine JL.mv (.int .i64 x23) ?_
        refine JL.as (.int .i64 x23) ?_
        refine JL.nil ?_
        refine JQ.then_normal ?_
        refine JQ.sub [(4, .int .i64 x23)] ?_
        refine JQ.mask [] [false] ?_
        refine J.ret ?_
        refine JQ.blk_ret ?_
        refine JQ.then_ret ?_
        refine JQ.then_ret ?_
        refine JQ.blk_ret ?_
        refine JQ.met_ret ?_
        refine JQ.then_ret ?_
        rw [hr1 _ (Option.some.inj H1).symm, fin_ret] at H0
        obtain rfl := Option.some.inj H0
        exact JQ.done' (rs := [.tmp 4]) (vs := [.int .i64 x23]) [] (.inr rfl) ⟨by kernel_rfl, trivial⟩ (fun _ h => Heap.to h) ⟨rfl, rfl⟩
      · refine J.cond_false h39 ?_
        refine J.skip ?_
        refine JQ.blk_normal ?_
        refine JQ.then_normal ?_
        refine JQ.sub [(0, .slice (some ⟨g35, o36, none⟩) s1.length c3), (1, .func (.func 61) #[] #[]), (7, .int .i64 (s1.length : Int)), (8, .int .i64 x23)] ?_
        refine J.region ?_
        refine JL.pur (.int .i64 (w64 (x23 + 1))) (some 18) ?_
        refine JL.mv (.int .i64 (w64 (x23 + 1))) ?_
        refine JL.nil ?_
        refine JQ.then_normal ?_
        exact JQ.again (w64 (x23 + 1)) () (Option.some.inj H1).symm (fun _ h => Heap.to h)
    · refine J.cond_false h32 ?_
      refine J.exit ?_
      refine JQ.then_exit ?_
      refine JQ.then_exit ?_
      refine JQ.blk_exit ?_
      rw [hb1 _ (Option.some.inj H1).symm, fin_brk] at H0
      exact JQ.met () () H0 (fun _ h => Heap.to (Heap.pick [] (by decide) h))
  · clear hit H0
    rintro ⟨⟩ ⟨⟩ H0
    replace H0 : slices_IndexFunc__api_Cx_api_Cx__jones_valid_1.k2 = some r := H0
    unfold slices_IndexFunc__api_Cx_api_Cx__jones_valid_1.k2 at H0
    refine JQ.sub [] ?_
    refine JQ.turn (Δ' := []) (fun _ h => h.to) ?_
    refine JQ.then_normal ?_
    refine J.seq ?_
    refine J.region ?_
    refine JL.as (.int .i64 (-1)) ?_
    refine JL.nil ?_
    refine JQ.then_normal ?_
    refine J.ret ?_
    obtain rfl := Option.some.inj H0
    exact JQ.done' (rs := [.tmp 4]) (vs := [.int .i64 (-1)]) [] (.inr rfl) ⟨by kernel_rfl, trivial⟩ (fun _ h => Heap.to h) ⟨rfl, rfl⟩

theorem slices_ContainsFunc__api_Cx_api_Cx__jones_valid_1.ok (s1 : (List Cx)) (A2 : Option Addr) (c3 : Nat) (r : Bool) (H0 : slices_ContainsFunc__api_Cx_api_Cx__jones_valid_1.f s1 = some r) :
    Does Try.prog 60 [.slice A2 s1.length c3, .func (.func 61) #[] #[]].toArray [At.rd A2 c3 fl_Cx.kd s1 true] [] false (fun v Δ => v = .bool r ∧ Δ = []) := by
  refine Does.body (vs := [.slice A2 s1.length c3, .func (.func 61) #[] #[]]) Try.func60 rfl ⟨.inl rfl, trivial⟩ trivial fun w S => ?_
  unfold slices_ContainsFunc__api_Cx_api_Cx__jones_valid_1.f at H0
  refine J.seq ?_
  refine J.region ?_
  refine JL.as (.bool false) ?_
  refine JL.nil ?_
  refine JQ.then_normal ?_
  refine JQ.sub [(0, .slice A2 s1.length c3), (1, .func (.func 61) #[] #[])] ?_
  refine J.seq ?_
  refine J.region ?_
  refine JL.mv (.slice A2 s1.length c3) ?_
  refine JL.mv (.func (.func 61) #[] #[]) ?_
  obtain ⟨t5, hc6, H0⟩ := bind_some H0
  refine JL.call [] [] [] (slices_IndexFunc__api_Cx_api_Cx__jones_valid_1.ok s1 A2 c3 _ hc6) ⟨pre_any 0 (view_rd A2 c3 fl_Cx.kd s1 true true), trivial⟩ ?_
  rintro _ _ ⟨rfl, rfl⟩
  refine JL.pur (.bool (decide (0 ≤ t5))) (some 8) ?_
  refine JL.as (.bool (decide (0 ≤ t5))) ?_
  refine JL.nil ?_
  refine JQ.then_normal ?_
  refine JQ.sub [(4, .bool (decide (0 ≤ t5)))] ?_
  refine JQ.mask [] [false] ?_
  refine J.ret ?_
  obtain rfl := Option.some.inj H0
  exact JQ.done' (rs := [.tmp 4]) (vs := [.bool (decide (0 ≤ t5))]) [] (.inr rfl) ⟨by kernel_rfl, trivial⟩ (fun _ h => Heap.to h) ⟨rfl, rfl⟩

theorem jones_valid.ok (a1 : (A4 Cx)) (r : Bool) (H0 : jones_valid.f a1 = some r) :
    Does Try.prog 33 [.agg #[.int .i64 a1.e0.Re, .int .i64 a1.e0.Im, .int .i64 a1.e0.Den, .int .i64 a1.e1.Re, .int .i64 a1.e1.Im, .int .i64 a1.e1.Den, .int .i64 a1.e2.Re, .int .i64 a1.e2.Im, .int .i64 a1.e2.Den, .int .i64 a1.e3.Re, .int .i64 a1.e3.Im, .int .i64 a1.e3.Den]].toArray [] [] false (fun v Δ => v = .bool r ∧ Δ = []) := by
  refine Does.body (vs := [.agg #[.int .i64 a1.e0.Re, .int .i64 a1.e0.Im, .int .i64 a1.e0.Den, .int .i64 a1.e1.Re, .int .i64 a1.e1.Im, .int .i64 a1.e1.Den, .int .i64 a1.e2.Re, .int .i64 a1.e2.Im, .int .i64 a1.e2.Den, .int .i64 a1.e3.Re, .int .i64 a1.e3.Im, .int .i64 a1.e3.Den]]) Try.func33 rfl trivial trivial fun w S => ?_
  unfold jones_valid.f at H0
  refine J.seq ?_
  refine J.region ?_
  refine JL.box [.int .i64 a1.e0.Re, .int .i64 a1.e0.Im, .int .i64 a1.e0.Den, .int .i64 a1.e1.Re, .int .i64 a1.e1.Im, .int .i64 a1.e1.Den, .int .i64 a1.e2.Re, .int .i64 a1.e2.Im, .int .i64 a1.e2.Den, .int .i64 a1.e3.Re, .int .i64 a1.e3.Im, .int .i64 a1.e3.Den] fun b2 => ?_
  refine JL.as (.bool false) ?_
  refine JL.nil ?_
  refine JQ.then_normal ?_
  refine JQ.sub [(1, .pointer (some ⟨b2, 0, none⟩))] ?_
  refine J.seq ?_
  refine J.region ?_
  refine JQ.turn (fun _ h => freeze_box 0 b2 25 [.int .i64 a1.e0.Re, .int .i64 a1.e0.Im, .int .i64 a1.e0.Den, .int .i64 a1.e1.Re, .int .i64 a1.e1.Im, .int .i64 a1.e1.Den, .int .i64 a1.e2.Re, .int .i64 a1.e2.Im, .int .i64 a1.e2.Den, .int .i64 a1.e3.Re, .int .i64 a1.e3.Im, .int .i64 a1.e3.Den] h) ?_
  refine JL.cutArr fl_Cx (([a1.e0, a1.e1, a1.e2, a1.e3] : List Cx) : List Cx) 4 0 b2 25 [.int .i64 a1.e0.Re, .int .i64 a1.e0.Im, .int .i64 a1.e0.Den, .int .i64 a1.e1.Re, .int .i64 a1.e1.Im, .int .i64 a1.e1.Den, .int .i64 a1.e2.Re, .int .i64 a1.e2.Im, .int .i64 a1.e2.Den, .int .i64 a1.e3.Re, .int .i64 a1.e3.Im, .int .i64 a1.e3.Den] false Try.underlying25 tySize_23 ?_
  obtain ⟨t4, hc5, H0⟩ := bind_some H0
  refine JL.call [] [] [] (slices_ContainsFunc__api_Cx_api_Cx__jones_valid_1.ok ([a1.e0, a1.e1, a1.e2, a1.e3] : List Cx) (some ⟨b2, 0, none⟩) (([a1.e0, a1.e1, a1.e2, a1.e3] : List Cx).length) _ hc5) ⟨pre_any 1 (view_rd (some ⟨b2, 0, none⟩) (([a1.e0, a1.e1, a1.e2, a1.e3] : List Cx).length) fl_Cx.kd ([a1.e0, a1.e1, a1.e2, a1.e3] : List Cx) false true), trivial⟩ ?_
  rintro _ _ ⟨rfl, rfl⟩
  refine JL.pur (.bool (!t4)) (some 5) ?_
  refine JL.as (.bool (!t4)) ?_
  refine JL.nil ?_
  refine JQ.then_normal ?_
  refine JQ.sub [(2, .bool (!t4))] ?_
  refine JQ.mask [] [false, false] ?_
  refine J.ret ?_
  obtain rfl := Option.some.inj H0
  exact JQ.done' (rs := [.tmp 2]) (vs := [.bool (!t4)]) [] (.inr rfl) ⟨by kernel_rfl, trivial⟩ (fun _ h => Heap.to h) ⟨rfl, rfl⟩

theorem cmp_Or__api_Errno.ok (vals1 : (List Int)) (A2 : Option Addr) (c3 : Nat) (r : Int) (H0 : cmp_Or__api_Errno.f vals1 = some r) :
    Does Try.prog 34 [.slice A2 vals1.length c3].toArray [At.rd A2 c3 ((flInt .i64).kd) vals1 true] [] false (fun v Δ => v = .int .i64 r ∧ Δ = []) := by
  refine Does.body (vs := [.slice A2 vals1.length c3]) Try.func34 rfl ⟨.inl rfl, trivial⟩ trivial fun w S => ?_
  unfold cmp_Or__api_Errno.f at H0
  refine J.seq ?_
  refine J.region ?_
  refine JL.as (.int .i64 0) ?_
  refine JL.nil ?_
  refine JQ.then_normal ?_
  refine JQ.sub [(0, .slice A2 vals1.length c3)] ?_
  refine J.seq ?_
  refine J.region ?_
  refine JL.as (.int .i64 0) ?_
  refine JL.nil ?_
  refine JQ.then_normal ?_
  refine J.seq ?_
  refine J.seq ?_
  refine J.region ?_
  refine JL.mv (.slice A2 vals1.length c3) ?_
  refine JL.pur (.int .i64 (vals1.length : Int)) (some 7) ?_
  refine JL.mv (.int .i64 0) ?_
  refine JL.nil ?_
  refine JQ.then_normal ?_
  refine JQ.sub [(3, .int .i64 0), (6, .slice A2 vals1.length c3), (7, .int .i64 (vals1.length : Int)), (8, .int .i64 0)] ?_
  obtain ⟨o1, hit, H0⟩ := bind_some H0
  refine J.loop (σ := Int) (τ := Unit) (G := Unit) (G' := Unit) _ o1 (fun s g => [(3, .int .i64 0), (6, .slice A2 vals1.length c3), (7, .int .i64 (vals1.length : Int)), (8, .int .i64 s)]) (fun s g => [At.rd A2 c3 ((flInt .i64).kd) vals1 true]) (fun t => cmp_Or__api_Errno.k2 = some r) (fun t g => [(3, .int .i64 0)]) (fun t g => []) 0 () hit (fun _ h => Heap.to h) ?_ ?_
  · clear hit
    rintro x19 ⟨⟩ st1 H1 hb1 hr1
    replace H1 : cmp_Or__api_Errno.s1 vals1 x19 = some st1 := H1
    unfold cmp_Or__api_Errno.s1 at H1
    refine JQ.sub [(3, .int .i64 0), (6, .slice A2 vals1.length c3), (7, .int .i64 (vals1.length : Int)), (8, .int .i64 x19)] ?_
    refine JQ.turn (Δ' := [At.rd A2 c3 ((flInt .i64).kd) vals1 true]) (fun _ h => h.to) ?_
    refine J.seq ?_
    refine J.region ?_
    refine JL.pur (.bool (decide (x19 < (vals1.length : Int)))) (some 9) ?_
    refine JL.nil ?_
    refine JQ.then_normal ?_
    refine J.seq ?_
    rcases ite_cases H1 with ⟨h26, H1⟩ | ⟨h26, H1⟩
    · refine J.cond_true h26 ?_
      refine J.skip ?_
      refine JQ.then_normal ?_
      refine JQ.sub [(3, .int .i64 0), (6, .slice A2 vals1.length c3), (7, .int .i64 (vals1.length : Int)), (8, .int .i64 x19)] ?_
      refine J.seq ?_
      refine J.block ?_
      refine J.seq ?_
      refine J.region ?_
      obtain ⟨⟨h27, h28⟩, H1⟩ := ite_must H1
      refine JL.ixAddr 0 1 c3 .i64 (elems_rd A2 c3 ((flInt .i64).kd) vals1 true) Try.underlying86 tySize_26 h27 h28 fun g29 o30 hA => ?_
      subst hA
      refine JL.val (.int .i64 (ix vals1 x19)) (some 11) (gives_loadEl (f := (flInt .i64)) 0 0 x19 (elems_rd (some ⟨g29, o30, none⟩) c3 ((flInt .i64).kd) vals1 true) h27 h28 tySize_26 (.inr ⟨tyAgg_26, rfl, rfl⟩)) ?_
      refine JL.as (.int .i64 (ix vals1 x19)) ?_
      refine JL.nil ?_
      refine JQ.then_normal ?_
      refine JQ.sub [(3, .int .i64 0), (5, .int .i64 (ix vals1 x19)), (6, .slice (some ⟨g29, o30, none⟩) vals1.length c3), (7, .int .i64 (vals1.length : Int)), (8, .int .i64 x19)] ?_
      refine J.seq ?_
      refine J.region ?_
      refine JL.mv (.int .i64 (ix vals1 x19)) ?_
      refine JL.mv (.int .i64 0) ?_
      refine JL.pur (.bool (!decide ((ix vals1 x19) = 0))) (some 14) ?_
      refine JL.nil ?_
      refine JQ.then_normal ?_
      refine JQ.sub [(3, .int .i64 0), (5, .int .i64 (ix vals1 x19)), (6, .slice (some ⟨g29, o30, none⟩) vals1.length c3), (7, .int .i64 (vals1.length : Int)), (8, .int .i64 x19), (14, .bool (!decide ((ix vals1 x19) = 0)))] ?_
      rcases ite_cases H1 with ⟨h31, H1⟩ | ⟨h31, H1⟩
      · refine J.cond_true h31 ?_
        refine J.seq ?_
        refine J.region ?_
        refine JL.mv (.int .i64 (ix vals1 x19)) ?_
        refine JL.as (.int .i64 (ix vals1 x19)) ?_
        refine JL.nil ?_
        refine JQ.then_normal ?_
        refine JQ.sub [(2, .int .i64 (ix vals1 x19))] ?_
        refine JQ.mask [] [false] ?_
        refine J.ret ?_
        refine JQ.blk_ret ?_
        refine JQ.then_ret ?_
        refine JQ.then_ret ?_
        refine JQ.blk_ret ?_
        refine JQ.met_ret ?_
        refine JQ.then_ret ?_
        rw [hr1 _ (Option.some.inj H1).symm, fin_ret] at H0
        obtain rfl := Option.some.inj H0
        exact JQ.done' (rs := [.tmp 2]) (vs := [.int .i64 (ix vals1 x19)]) [] (.inr rfl) ⟨by kernel_rfl, trivial⟩ (fun _ h => Heap.to h) ⟨rfl, rfl⟩
      · refine J.cond_false h31 ?_
        refine J.skip ?_
        refine JQ.blk_normal ?_
        refine JQ.then_normal ?_
        refine JQ.sub [(3, .int .i64 0), (6, .slice (some ⟨g29, o30, none⟩) vals1.length c3), (7, .int .i64 (vals1.length : Int)), (8, .int .i64 x19)] ?_
        refine J.region ?_
        refine JL.pur (.int .i64 (w64 (x19 + 1))) (some 16) ?_
        refine JL.mv (.int .i64 (w64 (x19 + 1))) ?_
        refine JL.nil ?_
        refine JQ.then_normal ?_
        exact JQ.again (w64 (x19 + 1)) () (Option.some.inj H1).symm (fun _ h => Heap.to h)
    · refine J.cond_false h26 ?_
      refine J.exit ?_
      refine JQ.then_exit ?_
      refine JQ.then_exit ?_
      refine JQ.blk_exit ?_
      rw [hb1 _ (Option.some.inj H1).symm, fin_brk] at H0
      exact JQ.met () () H0 (fun _ h => Heap.to (Heap.pick [] (by decide) h))
  · clear hit H0
    rintro ⟨⟩ ⟨⟩ H0
    replace H0 : cmp_Or__api_Errno.k2 = some r := H0
    unfold cmp_Or__api_Errno.k2 at H0
    refine JQ.sub [(3, .int .i64 0)] ?_
    refine JQ.turn (Δ' := []) (fun _ h => h.to) ?_
    refine JQ.then_normal ?_
    refine J.seq ?_
    refine J.region ?_
    refine JL.mv (.int .i64 0) ?_
    refine JL.as (.int .i64 0) ?_
    refine JL.nil ?_
    refine JQ.then_normal ?_
    refine JQ.sub [(2, .int .i64 0)] ?_
    refine J.ret ?_
    obtain rfl := Option.some.inj H0
    exact JQ.done' (rs := [.tmp 2]) (vs := [.int .i64 0]) [] (.inr rfl) ⟨by kernel_rfl, trivial⟩ (fun _ h => Heap.to h) ⟨rfl, rfl⟩

theorem cx_check.ok (a1 : Cx) (b2 : Cx) (r : Int) (H0 : cx_check.f a1 b2 = some r) :
    Does Try.prog 54 [.agg #[.int .i64 a1.Re, .int .i64 a1.Im, .int .i64 a1.Den], .agg #[.int .i64 b2.Re, .int .i64 b2.Im, .int .i64 b2.Den]].toArray [] [] false (fun v Δ => v = .int .i64 r ∧ Δ = []) := by
  refine Does.body (vs := [.agg #[.int .i64 a1.Re, .int .i64 a1.Im, .int .i64 a1.Den], .agg #[.int .i64 b2.Re, .int .i64 b2.Im, .int .i64 b2.Den]]) Try.func54 rfl trivial trivial fun w S => ?_
  unfold cx_check.f at H0
  refine J.seq ?_
  refine J.region ?_
  refine JL.box [.int .i64 a1.Re, .int .i64 a1.Im, .int .i64 a1.Den] fun b3 => ?_
  refine JL.box [.int .i64 b2.Re, .int .i64 b2.Im, .int .i64 b2.Den] fun b4 => ?_
  refine JL.as (.int .i64 0) ?_
  refine JL.nil ?_
  refine JQ.then_normal ?_
  refine JQ.sub [(2, .pointer (some ⟨b3, 0, none⟩)), (3, .pointer (some ⟨b4, 0, none⟩))] ?_
  refine J.seq ?_
  refine J.drawT 4 ?_
  refine QL.val (.agg #[.int .i64 a1.Re, .int .i64 a1.Im, .int .i64 a1.Den]) (some 5) (yields_load_boxes 0 0 [.int .i64 a1.Re, .int .i64 a1.Im, .int .i64 a1.Den] (holds_box b3 23 [.int .i64 a1.Re, .int .i64 a1.Im, .int .i64 a1.Den]) tyAgg_23 tySize_23) ?_
  obtain ⟨t5, hc6, H0⟩ := bind_some H0
  refine QL.call [] [] (cx_Check.ok a1 _ hc6) trivial ?_
  refine QL.val (.agg #[.int .i64 b2.Re, .int .i64 b2.Im, .int .i64 b2.Den]) (some 7) (yields_load_boxes 1 0 [.int .i64 b2.Re, .int .i64 b2.Im, .int .i64 b2.Den] (holds_box b4 23 [.int .i64 b2.Re, .int .i64 b2.Im, .int .i64 b2.Den]) tyAgg_23 tySize_23) ?_
  obtain ⟨t7, hc8, H0⟩ := bind_some H0
  refine QL.call [] [] (cx_Check.ok b2 _ hc8) trivial ?_
  refine QL.nil ?_
  refine JA.nil ?_
  refine JL.buildSl 26 ((flInt .i64).kd) (([t5, t7] : List Int) : List Int) [.int .i64 t5, .int .i64 t7] false (closes_fl rfl) fun b9 => ?_
  obtain ⟨t10, hc11, H0⟩ := bind_some H0
  refine JL.call [] [] [] (cmp_Or__api_Errno.ok ([t5, t7] : List Int) (some ⟨b9, 0, none⟩) 2 _ hc11) ⟨pre_view 2 (view_row (some ⟨b9, 0, none⟩) 2 26 ((flInt .i64).kd) ([t5, t7] : List Int) false true), trivial⟩ ?_
  rintro _ _ ⟨rfl, rfl⟩
  refine JL.as (.int .i64 t10) ?_
  refine JL.nil ?_
  refine JQ.then_normal ?_
  refine JQ.sub [(4, .int .i64 t10)] ?_
  refine JQ.mask [] [false, false, false] ?_
  refine J.ret ?_
  obtain rfl := Option.some.inj H0
  exact JQ.done' (rs := [.tmp 4]) (vs := [.int .i64 t10]) [] (.inr rfl) ⟨by kernel_rfl, trivial⟩ (fun _ h => Heap.to h) ⟨rfl, rfl⟩

theorem cx_reduced.ok (re1 : Int) (im2 : Int) (den3 : Int) (r : (Cx × Int)) (H0 : cx_reduced.f re1 im2 den3 = some r) :
    Does Try.prog 55 [.int .i64 re1, .int .i64 im2, .int .i64 den3].toArray [] [] false (fun v Δ => v = .tuple #[.agg #[.int .i64 r.1.Re, .int .i64 r.1.Im, .int .i64 r.1.Den], .int .i64 r.2] ∧ Δ = []) := by
  refine Does.body (vs := [.int .i64 re1, .int .i64 im2, .int .i64 den3]) Try.func55 rfl trivial trivial fun w S => ?_
  unfold cx_reduced.f at H0
  refine J.seq ?_
  refine J.region ?_
  refine JL.alloc [.int .i64 0, .int .i64 0, .int .i64 0] fun b4 => ?_
  refine JL.as (.int .i64 0) ?_
  refine JL.nil ?_
  refine JQ.then_normal ?_
  refine JQ.sub [(0, .int .i64 re1), (1, .int .i64 im2), (2, .int .i64 den3), (6, .pointer (some ⟨b4, 0, none⟩))] ?_
  refine J.seq ?_
  refine J.region ?_
  refine JL.mv (.int .i64 re1) ?_
  refine JL.mv (.int .i64 im2) ?_
  refine JL.mv (.int .i64 den3) ?_
  refine JL.buildSl 2 ((flInt .i64).kd) (([re1, im2, den3] : List Int) : List Int) [.int .i64 re1, .int .i64 im2, .int .i64 den3] false (closes_fl rfl) fun b5 => ?_
  obtain ⟨t6, hc7, H0⟩ := bind_some H0
  refine JL.call [] [] [] (cx_gcd.ok ([re1, im2, den3] : List Int) (some ⟨b5, 0, none⟩) 3 _ hc7) ⟨pre_view 1 (view_row (some ⟨b5, 0, none⟩) 3 2 ((flInt .i64).kd) ([re1, im2, den3] : List Int) false true), trivial⟩ ?_
  rintro _ _ ⟨rfl, rfl⟩
  refine JL.as (.int .i64 t6) ?_
  refine JL.nil ?_
  refine JQ.then_normal ?_
  refine JQ.sub [(0, .int .i64 re1), (1, .int .i64 im2), (2, .int .i64 den3), (6, .pointer (some ⟨b4, 0, none⟩)), (8, .int .i64 t6)] ?_
  refine JQ.mask [At.box b4 23 [.int .i64 0, .int .i64 0, .int .i64 0]] [true, false] ?_
  refine J.join (T := Int) (G := Unit) (fun t => cx_reduced.k1 re1 im2 den3 t = some r) (fun t g => [(0, .int .i64 re1), (1, .int .i64 im2), (2, .int .i64 den3), (6, .pointer (some ⟨b4, 0, none⟩)), (8, .int .i64 t)]) (fun t g => [At.box b4 23 [.int .i64 0, .int .i64 0, .int .i64 0]]) ?_ ?_
  · refine J.seq ?_
    refine J.region ?_
    refine JL.mv (.int .i64 den3) ?_
    refine JL.pur (.bool (decide (den3 < 0))) (some 16) ?_
    refine JL.nil ?_
    refine JQ.then_normal ?_
    refine JQ.sub [(0, .int .i64 re1), (1, .int .i64 im2), (2, .int .i64 den3), (6, .pointer (some ⟨b4, 0, none⟩)), (8, .int .i64 t6), (16, .bool (decide (den3 < 0)))] ?_
    rcases ite_cases H0 with ⟨h17, H0⟩ | ⟨h17, H0⟩
    · refine J.cond_true h17 ?_
      refine J.region ?_
      refine JL.mv (.int .i64 t6) ?_
      refine JL.pur (.int .i64 (w64 (0 - t6))) (some 18) ?_
      refine JL.as (.int .i64 (w64 (0 - t6))) ?_
      refine JL.nil ?_
      refine JQ.then_normal ?_
      exact JQ.meet (w64 (0 - t6)) () H0 (fun _ h => Heap.to h)
    · refine J.cond_false h17 ?_
      refine J.skip ?_
      refine JQ.then_normal ?_
      exact JQ.meet t6 () H0 (fun _ h => Heap.to h)
  · clear H0
    rintro g9 ⟨⟩ H0
    replace H0 : cx_reduced.k1 re1 im2 den3 g9 = some r := H0
    unfold cx_reduced.k1 at H0
    refine JQ.sub [(0, .int .i64 re1), (1, .int .i64 im2), (2, .int .i64 den3), (6, .pointer (some ⟨b4, 0, none⟩)), (8, .int .i64 g9)] ?_
    refine JQ.turn (Δ' := [At.box b4 23 [.int .i64 0, .int .i64 0, .int .i64 0]]) (fun _ h => h.to) ?_
    refine J.seq ?_
    refine J.drawA 11 [⟨10, 9, 23, [.int .i64 0, .int .i64 0, .int .i64 0]⟩] ?_ (by simp only [List.mem_cons, List.not_mem_nil, or_false, forall_eq_or_imp, forall_eq]; exact ⟨by decide, ⟨_, _, _, rfl⟩, by kernel_rfl⟩)
    refine QL.mv (.int .i64 re1) ?_
    refine QL.mv (.int .i64 g9) ?_
    obtain ⟨h10, H0⟩ := ite_must H0
    refine QL.val (.int .i64 (w64 (Int.tdiv re1 g9))) (some 21) (gives_quo .i64 re1 g9 h10) ?_
    refine QL.mv (.int .i64 im2) ?_
    refine QL.mv (.int .i64 g9) ?_
    obtain ⟨h11, H0⟩ := ite_must H0
    refine QL.val (.int .i64 (w64 (Int.tdiv im2 g9))) (some 24) (gives_quo .i64 im2 g9 h11) ?_
    refine QL.mv (.int .i64 den3) ?_
    refine QL.mv (.int .i64 g9) ?_
    obtain ⟨h12, H0⟩ := ite_must H0
    refine QL.val (.int .i64 (w64 (Int.tdiv den3 g9))) (some 27) (gives_quo .i64 den3 g9 h12) ?_
    refine QL.pur (.agg #[.int .i64 (w64 (Int.tdiv re1 g9)), .int .i64 (w64 (Int.tdiv im2 g9)), .int .i64 (w64 (Int.tdiv den3 g9))]) (some 28) ?_
    refine QL.skipA ?_
    refine QL.nil ?_
    refine JA.alloc fun b13 => ?_
    refine JA.nil ?_
    refine JL.store 1 b13 0 23 [.int .i64 0, .int .i64 0, .int .i64 0] [.int .i64 (w64 (Int.tdiv re1 g9)), .int .i64 (w64 (Int.tdiv im2 g9)), .int .i64 (w64 (Int.tdiv den3 g9))] tySize_23 ?_
    refine JL.nil ?_
    refine JQ.then_normal ?_
    refine JQ.sub [(6, .pointer (some ⟨b4, 0, none⟩)), (9, .pointer (some ⟨b13, 0, none⟩))] ?_
    refine J.seq ?_
    refine J.seq ?_
    refine J.region ?_
    refine JL.val (.agg #[.int .i64 (w64 (Int.tdiv re1 g9)), .int .i64 (w64 (Int.tdiv im2 g9)), .int .i64 (w64 (Int.tdiv den3 g9))]) (some 29) (yields_load_boxes 1 0 [.int .i64 (w64 (Int.tdiv re1 g9)), .int .i64 (w64 (Int.tdiv im2 g9)), .int .i64 (w64 (Int.tdiv den3 g9))] (holds_box b13 23 [.int .i64 (w64 (Int.tdiv re1 g9)), .int .i64 (w64 (Int.tdiv im2 g9)), .int .i64 (w64 (Int.tdiv den3 g9))]) tyAgg_23 tySize_23) ?_
    obtain ⟨t14, hc15, H0⟩ := bind_some H0
    refine JL.call [] [] [] (cx_Check.ok (⟨(w64 (Int.tdiv re1 g9)), (w64 (Int.tdiv im2 g9)), (w64 (Int.tdiv den3 g9))⟩ : Cx) _ hc15) trivial ?_
    rintro _ _ ⟨rfl, rfl⟩
    refine JL.pur (.bool (!decide (t14 = 0))) (some 31) ?_
    refine JL.nil ?_
    refine JQ.then_normal ?_
    refine JQ.sub [(6, .pointer (some ⟨b4, 0, none⟩)), (9, .pointer (some ⟨b13, 0, none⟩)), (31, .bool (!decide (t14 = 0)))] ?_
    rcases ite_cases H0 with ⟨h16, H0⟩ | ⟨h16, H0⟩
    · refine J.cond_true h16 ?_
      refine J.seq ?_
      refine J.region ?_
      refine JL.pur (.agg #[.int .i64 0, .int .i64 0, .int .i64 0]) (some 32) ?_
      refine JL.store 0 b4 0 23 [.int .i64 0, .int .i64 0, .int .i64 0] [.int .i64 0, .int .i64 0, .int .i64 0] tySize_23 ?_
      refine JL.as (.int .i64 16) ?_
      refine JL.nil ?_
      refine JQ.then_normal ?_
      refine JQ.sub [(6, .pointer (some ⟨b4, 0, none⟩)), (7, .int .i64 16)] ?_
      refine JQ.mask [At.box b4 23 [.int .i64 0, .int .i64 0, .int .i64 0]] [true, false] ?_
      refine J.ret ?_
      refine JQ.then_ret ?_
      obtain rfl := Option.some.inj H0
      exact JQ.done' (rs := [.cell 6 23, .tmp 7]) (vs := [.agg #[.int .i64 0, .int .i64 0, .int .i64 0], .int .i64 16]) [] (.inr rfl) ⟨⟨b4, 0, _, _, by kernel_rfl, by kernel_rfl, holds_box b4 23 [.int .i64 0, .int .i64 0, .int .i64 0], .inl ⟨tyAgg_23, tySize_23, rfl⟩⟩, by kernel_rfl, trivial⟩ (fun _ h => Heap.to (Heap.pick [] (by decide) h)) ⟨rfl, rfl⟩
    · refine J.cond_false h16 ?_
      refine J.skip ?_
      refine JQ.then_normal ?_
      refine JQ.sub [(6, .pointer (some ⟨b4, 0, none⟩)), (9, .pointer (some ⟨b13, 0, none⟩))] ?_
      refine J.seq ?_
      refine J.region ?_
      refine JL.val (.agg #[.int .i64 (w64 (Int.tdiv re1 g9)), .int .i64 (w64 (Int.tdiv im2 g9)), .int .i64 (w64 (Int.tdiv den3 g9))]) (some 33) (yields_load_boxes 1 0 [.int .i64 (w64 (Int.tdiv re1 g9)), .int .i64 (w64 (Int.tdiv im2 g9)), .int .i64 (w64 (Int.tdiv den3 g9))] (holds_box b13 23 [.int .i64 (w64 (Int.tdiv re1 g9)), .int .i64 (w64 (Int.tdiv im2 g9)), .int .i64 (w64 (Int.tdiv den3 g9))]) tyAgg_23 tySize_23) ?_
      refine JL.store 0 b4 0 23 [.int .i64 0, .int .i64 0, .int .i64 0] [.int .i64 (w64 (Int.tdiv re1 g9)), .int .i64 (w64 (Int.tdiv im2 g9)), .int .i64 (w64 (Int.tdiv den3 g9))] tySize_23 ?_
      refine JL.as (.int .i64 0) ?_
      refine JL.nil ?_
      refine JQ.then_normal ?_
      refine JQ.sub [(6, .pointer (some ⟨b4, 0, none⟩)), (7, .int .i64 0)] ?_
      refine JQ.mask [At.box b4 23 [.int .i64 (w64 (Int.tdiv re1 g9)), .int .i64 (w64 (Int.tdiv im2 g9)), .int .i64 (w64 (Int.tdiv den3 g9))]] [true, false] ?_
      refine J.ret ?_
      obtain rfl := Option.some.inj H0
      exact JQ.done' (rs := [.cell 6 23, .tmp 7]) (vs := [.agg #[.int .i64 (w64 (Int.tdiv re1 g9)), .int .i64 (w64 (Int.tdiv im2 g9)), .int .i64 (w64 (Int.tdiv den3 g9))], .int .i64 0]) [] (.inr rfl) ⟨⟨b4, 0, _, _, by kernel_rfl, by kernel_rfl, holds_box b4 23 [.int .i64 (w64 (Int.tdiv re1 g9)), .int .i64 (w64 (Int.tdiv im2 g9)), .int .i64 (w64 (Int.tdiv den3 g9))], .inl ⟨tyAgg_23, tySize_23, rfl⟩⟩, by kernel_rfl, trivial⟩ (fun _ h => Heap.to (Heap.pick [] (by decide) h)) ⟨rfl, rfl⟩

theorem cx_Mul.ok (a1 : Cx) (b2 : Cx) (r : (Cx × Int)) (H0 : cx_Mul.f a1 b2 = some r) :
    Does Try.prog 25 [.agg #[.int .i64 a1.Re, .int .i64 a1.Im, .int .i64 a1.Den], .agg #[.int .i64 b2.Re, .int .i64 b2.Im, .int .i64 b2.Den]].toArray [] [] false (fun v Δ => v = .tuple #[.agg #[.int .i64 r.1.Re, .int .i64 r.1.Im, .int .i64 r.1.Den], .int .i64 r.2] ∧ Δ = []) := by
  refine Does.body (vs := [.agg #[.int .i64 a1.Re, .int .i64 a1.Im, .int .i64 a1.Den], .agg #[.int .i64 b2.Re, .int .i64 b2.Im, .int .i64 b2.Den]]) Try.func25 rfl trivial trivial fun w S => ?_
  unfold cx_Mul.f at H0
  refine J.seq ?_
  refine J.region ?_
  refine JL.box [.int .i64 a1.Re, .int .i64 a1.Im, .int .i64 a1.Den] fun b3 => ?_
  refine JL.box [.int .i64 b2.Re, .int .i64 b2.Im, .int .i64 b2.Den] fun b4 => ?_
  refine JL.alloc [.int .i64 0, .int .i64 0, .int .i64 0] fun b5 => ?_
  refine JL.as (.int .i64 0) ?_
  refine JL.nil ?_
  refine JQ.then_normal ?_
  refine JQ.sub [(2, .pointer (some ⟨b3, 0, none⟩)), (3, .pointer (some ⟨b4, 0, none⟩)), (4, .pointer (some ⟨b5, 0, none⟩))] ?_
  refine J.seq ?_
  refine J.seq ?_
  refine J.region ?_
  refine JL.val (.agg #[.int .i64 a1.Re, .int .i64 a1.Im, .int .i64 a1.Den]) (some 7) (yields_load_boxes 0 0 [.int .i64 a1.Re, .int .i64 a1.Im, .int .i64 a1.Den] (holds_box b3 23 [.int .i64 a1.Re, .int .i64 a1.Im, .int .i64 a1.Den]) tyAgg_23 tySize_23) ?_
  refine JL.val (.agg #[.int .i64 b2.Re, .int .i64 b2.Im, .int .i64 b2.Den]) (some 8) (yields_load_boxes 1 0 [.int .i64 b2.Re, .int .i64 b2.Im, .int .i64 b2.Den] (holds_box b4 23 [.int .i64 b2.Re, .int .i64 b2.Im, .int .i64 b2.Den]) tyAgg_23 tySize_23) ?_
  obtain ⟨t6, hc7, H0⟩ := bind_some H0
  refine JL.call [] [] [] (cx_check.ok a1 b2 _ hc7) trivial ?_
  rintro _ _ ⟨rfl, rfl⟩
  refine JL.as (.int .i64 t6) ?_
  refine JL.nil ?_
  refine JQ.then_normal ?_
  refine JQ.sub [(2, .pointer (some ⟨b3, 0, none⟩)), (3, .pointer (some ⟨b4, 0, none⟩)), (4, .pointer (some ⟨b5, 0, none⟩)), (6, .int .i64 t6)] ?_
  refine J.seq ?_
  refine J.region ?_
  refine JL.mv (.int .i64 t6) ?_
  refine JL.pur (.bool (!decide (t6 = 0))) (some 11) ?_
  refine JL.nil ?_
  refine JQ.then_normal ?_
  refine JQ.sub [(2, .pointer (some ⟨b3, 0, none⟩)), (3, .pointer (some ⟨b4, 0, none⟩)), (4, .pointer (some ⟨b5, 0, none⟩)), (6, .int .i64 t6), (11, .bool (!decide (t6 = 0)))] ?_
  rcases ite_cases H0 with ⟨h8, H0⟩ | ⟨h8, H0⟩
  · refine J.cond_true h8 ?_
    refine J.seq ?_
    refine J.region ?_
    refine JL.pur (.agg #[.int .i64 0, .int .i64 0, .int .i64 0]) (some 12) ?_
    refine JL.mv (.int .i64 t6) ?_
    refine JL.store 2 b5 0 23 [.int .i64 0, .int .i64 0, .int .i64 0] [.int .i64 0, .int .i64 0, .int .i64 0] tySize_23 ?_
    refine JL.as (.int .i64 t6) ?_
    refine JL.nil ?_
    refine JQ.then_normal ?_
    refine JQ.sub [(4, .pointer (some ⟨b5, 0, none⟩)), (5, .int .i64 t6)] ?_
    refine JQ.mask [At.box b5 23 [.int .i64 0, .int .i64 0, .int .i64 0]] [false, false, true] ?_
    refine J.ret ?_
    refine JQ.then_ret ?_
    obtain rfl := Option.some.inj H0
    exact JQ.done' (rs := [.cell 4 23, .tmp 5]) (vs := [.agg #[.int .i64 0, .int .i64 0, .int .i64 0], .int .i64 t6]) [] (.inr rfl) ⟨⟨b5, 0, _, _, by kernel_rfl, by kernel_rfl, holds_box b5 23 [.int .i64 0, .int .i64 0, .int .i64 0], .inl ⟨tyAgg_23, tySize_23, rfl⟩⟩, by kernel_rfl, trivial⟩ (fun _ h => Heap.to (Heap.pick [] (by decide) h)) ⟨rfl, rfl⟩
  · refine J.cond_false h8 ?_
    refine J.skip ?_
    refine JQ.then_normal ?_
    refine JQ.sub [(2, .pointer (some ⟨b3, 0, none⟩)), (3, .pointer (some ⟨b4, 0, none⟩)), (4, .pointer (some ⟨b5, 0, none⟩))] ?_
    refine J.seq ?_
    refine J.region ?_
    refine JL.pur (.pointer (some ⟨b3, 0, none⟩)) (some 14) ?_
    refine JL.val (.int .i64 a1.Re) (some 15) (yields_load_box 0 0 (holds_box b3 23 [.int .i64 a1.Re, .int .i64 a1.Im, .int .i64 a1.Den]) tyAgg_2) ?_
    refine JL.pur (.pointer (some ⟨b4, 0, none⟩)) (some 16) ?_
    refine JL.val (.int .i64 b2.Re) (some 17) (yields_load_box 1 0 (holds_box b4 23 [.int .i64 b2.Re, .int .i64 b2.Im, .int .i64 b2.Den]) tyAgg_2) ?_
    refine JL.pur (.int .i64 (w64 (a1.Re * b2.Re))) (some 18) ?_
    refine JL.pur (.pointer (some ⟨b3, 1, none⟩)) (some 19) ?_
    refine JL.val (.int .i64 a1.Im) (some 20) (yields_load_box 0 1 (holds_box b3 23 [.int .i64 a1.Re, .int .i64 a1.Im, .int .i64 a1.Den]) tyAgg_2) ?_
    refine JL.pur (.pointer (some ⟨b4, 1, none⟩)) (some 21) ?_
    refine JL.val (.int .i64 b2.Im) (some 22) (yields_load_box 1 1 (holds_box b4 23 [.int .i64 b2.Re, .int .i64 b2.Im, .int .i64 b2.Den]) tyAgg_2) ?_
    refine JL.pur (.int .i64 (w64 (a1.Im * b2.Im))) (some 23) ?_
    refine JL.pur (.int .i64 (w64 ((w64 (a1.Re * b2.Re)) - (w64 (a1.Im * b2.Im))))) (some 24) ?_
    refine JL.pur (.pointer (some ⟨b3, 0, none⟩)) (some 25) ?_
    refine JL.val (.int .i64 a1.Re) (some 26) (yields_load_box 0 0 (holds_box b3 23 [.int .i64 a1.Re, .int .i64 a1.Im, .int .i64 a1.Den]) tyAgg_2) ?_
    refine JL.pur (.pointer (some ⟨b4, 1, none⟩)) (some 27) ?_
    refine JL.val (.int .i64 b2.Im) (some 28) (yields_load_box 1 1 (holds_box b4 23 [.int .i64 b2.Re, .int .i64 b2.Im, .int .i64 b2.Den]) tyAgg_2) ?_
    refine JL.pur (.int .i64 (w64 (a1.Re * b2.Im))) (some 29) ?_
    refine JL.pur (.pointer (some ⟨b3, 1, none⟩)) (some 30) ?_
    refine JL.val (.int .i64 a1.Im) (some 31) (yields_load_box 0 1 (holds_box b3 23 [.int .i64 a1.Re, .int .i64 a1.Im, .int .i64 a1.Den]) tyAgg_2) ?_
    refine JL.pur (.pointer (some ⟨b4, 0, none⟩)) (some 32) ?_
    refine JL.val (.int .i64 b2.Re) (some 33) (yields_load_box 1 0 (holds_box b4 23 [.int .i64 b2.Re, .int .i64 b2.Im, .int .i64 b2.Den]) tyAgg_2) ?_
    refine JL.pur (.int .i64 (w64 (a1.Im * b2.Re))) (some 34) ?_
    refine JL.pur (.int .i64 (w64 ((w64 (a1.Re * b2.Im)) + (w64 (a1.Im * b2.Re))))) (some 35) ?_
    refine JL.pur (.pointer (some ⟨b3, 2, none⟩)) (some 36) ?_
    refine JL.val (.int .i64 a1.Den) (some 37) (yields_load_box 0 2 (holds_box b3 23 [.int .i64 a1.Re, .int .i64 a1.Im, .int .i64 a1.Den]) tyAgg_2) ?_
    refine JL.pur (.pointer (some ⟨b4, 2, none⟩)) (some 38) ?_
    refine JL.val (.int .i64 b2.Den) (some 39) (yields_load_box 1 2 (holds_box b4 23 [.int .i64 b2.Re, .int .i64 b2.Im, .int .i64 b2.Den]) tyAgg_2) ?_
    refine JL.pur (.int .i64 (w64 (a1.Den * b2.Den))) (some 40) ?_
    obtain ⟨t9, hc10, H0⟩ := bind_some H0
    refine JL.call [] [] [] (cx_reduced.ok (w64 ((w64 (a1.Re * b2.Re)) - (w64 (a1.Im * b2.Im)))) (w64 ((w64 (a1.Re * b2.Im)) + (w64 (a1.Im * b2.Re)))) (w64 (a1.Den * b2.Den)) _ hc10) trivial ?_
    rintro _ _ ⟨rfl, rfl⟩
    refine JL.pur (.agg #[.int .i64 t9.1.Re, .int .i64 t9.1.Im, .int .i64 t9.1.Den]) (some 42) ?_
    refine JL.pur (.int .i64 t9.2) (some 43) ?_
    refine JL.store 2 b5 0 23 [.int .i64 0, .int .i64 0, .int .i64 0] [.int .i64 t9.1.Re, .int .i64 t9.1.Im, .int .i64 t9.1.Den] tySize_23 ?_
    refine JL.as (.int .i64 t9.2) ?_
    refine JL.nil ?_
    refine JQ.then_normal ?_
    refine JQ.sub [(4, .pointer (some ⟨b5, 0, none⟩)), (5, .int .i64 t9.2)] ?_
    refine JQ.mask [At.box b5 23 [.int .i64 t9.1.Re, .int .i64 t9.1.Im, .int .i64 t9.1.Den]] [false, false, true] ?_
    refine J.ret ?_
    obtain rfl := Option.some.inj H0
    exact JQ.done' (rs := [.cell 4 23, .tmp 5]) (vs := [.agg #[.int .i64 t9.1.Re, .int .i64 t9.1.Im, .int .i64 t9.1.Den], .int .i64 t9.2]) [] (.inr rfl) ⟨⟨b5, 0, _, _, by kernel_rfl, by kernel_rfl, holds_box b5 23 [.int .i64 t9.1.Re, .int .i64 t9.1.Im, .int .i64 t9.1.Den], .inl ⟨tyAgg_23, tySize_23, rfl⟩⟩, by kernel_rfl, trivial⟩ (fun _ h => Heap.to (Heap.pick [] (by decide) h)) ⟨rfl, rfl⟩

theorem cx_Add.ok (a1 : Cx) (b2 : Cx) (r : (Cx × Int)) (H0 : cx_Add.f a1 b2 = some r) :
    Does Try.prog 35 [.agg #[.int .i64 a1.Re, .int .i64 a1.Im, .int .i64 a1.Den], .agg #[.int .i64 b2.Re, .int .i64 b2.Im, .int .i64 b2.Den]].toArray [] [] false (fun v Δ => v = .tuple #[.agg #[.int .i64 r.1.Re, .int .i64 r.1.Im, .int .i64 r.1.Den], .int .i64 r.2] ∧ Δ = []) := by
  refine Does.body (vs := [.agg #[.int .i64 a1.Re, .int .i64 a1.Im, .int .i64 a1.Den], .agg #[.int .i64 b2.Re, .int .i64 b2.Im, .int .i64 b2.Den]]) Try.func35 rfl trivial trivial fun w S => ?_
  unfold cx_Add.f at H0
  refine J.seq ?_
  refine J.region ?_
  refine JL.box [.int .i64 a1.Re, .int .i64 a1.Im, .int .i64 a1.Den] fun b3 => ?_
  refine JL.box [.int .i64 b2.Re, .int .i64 b2.Im, .int .i64 b2.Den] fun b4 => ?_
  refine JL.alloc [.int .i64 0, .int .i64 0, .int .i64 0] fun b5 => ?_
  refine JL.as (.int .i64 0) ?_
  refine JL.nil ?_
  refine JQ.then_normal ?_
  refine JQ.sub [(2, .pointer (some ⟨b3, 0, none⟩)), (3, .pointer (some ⟨b4, 0, none⟩)), (4, .pointer (some ⟨b5, 0, none⟩))] ?_
  refine J.seq ?_
  refine J.seq ?_
  refine J.region ?_
  refine JL.val (.agg #[.int .i64 a1.Re, .int .i64 a1.Im, .int .i64 a1.Den]) (some 7) (yields_load_boxes 0 0 [.int .i64 a1.Re, .int .i64 a1.Im, .int .i64 a1.Den] (holds_box b3 23 [.int .i64 a1.Re, .int .i64 a1.Im, .int .i64 a1.Den]) tyAgg_23 tySize_23) ?_
  refine JL.val (.agg #[.int .i64 b2.Re, .int .i64 b2.Im, .int .i64 b2.Den]) (some 8) (yields_load_boxes 1 0 [.int .i64 b2.Re, .int .i64 b2.Im, .int .i64 b2.Den] (holds_box b4 23 [.int .i64 b2.Re, .int .i64 b2.Im, .int .i64 b2.Den]) tyAgg_23 tySize_23) ?_
  obtain ⟨t6, hc7, H0⟩ := bind_some H0
  refine JL.call [] [] [] (cx_check.ok a1 b2 _ hc7) trivial ?_
  rintro _ _ ⟨rfl, rfl⟩
  refine JL.as (.int .i64 t6) ?_
  refine JL.nil ?_
  refine JQ.then_normal ?_
  refine JQ.sub [(2, .pointer (some ⟨b3, 0, none⟩)), (3, .pointer (some ⟨b4, 0, none⟩)), (4, .pointer (some ⟨b5, 0, none⟩)), (6, .int .i64 t6)] ?_
  refine J.seq ?_
  refine J.region ?_
  refine JL.mv (.int .i64 t6) ?_
  refine JL.pur (.bool (!decide (t6 = 0))) (some 11) ?_
  refine JL.nil ?_
  refine JQ.then_normal ?_
  refine JQ.sub [(2, .pointer (some ⟨b3, 0, none⟩)), (3, .pointer (some ⟨b4, 0, none⟩)), (4, .pointer (some ⟨b5, 0, none⟩)), (6, .int .i64 t6), (11, .bool (!decide (t6 = 0)))] ?_
  rcases ite_cases H0 with ⟨h8, H0⟩ | ⟨h8, H0⟩
  · refine J.cond_true h8 ?_
    refine J.seq ?_
    refine J.region ?_
    refine JL.pur (.agg #[.int .i64 0, .int .i64 0, .int .i64 0]) (some 12) ?_
    refine JL.mv (.int .i64 t6) ?_
    refine JL.store 2 b5 0 23 [.int .i64 0, .int .i64 0, .int .i64 0] [.int .i64 0, .int .i64 0, .int .i64 0] tySize_23 ?_
    refine JL.as (.int .i64 t6) ?_
    refine JL.nil ?_
    refine JQ.then_normal ?_
    refine JQ.sub [(4, .pointer (some ⟨b5, 0, none⟩)), (5, .int .i64 t6)] ?_
    refine JQ.mask [At.box b5 23 [.int .i64 0, .int .i64 0, .int .i64 0]] [false, false, true] ?_
    refine J.ret ?_
    refine JQ.then_ret ?_
    obtain rfl := Option.some.inj H0
    exact JQ.done' (rs := [.cell 4 23, .tmp 5]) (vs := [.agg #[.int .i64 0, .int .i64 0, .int .i64 0], .int .i64 t6]) [] (.inr rfl) ⟨⟨b5, 0, _, _, by kernel_rfl, by kernel_rfl, holds_box b5 23 [.int .i64 0, .int .i64 0, .int .i64 0], .inl ⟨tyAgg_23, tySize_23, rfl⟩⟩, by kernel_rfl, trivial⟩ (fun _ h => Heap.to (Heap.pick [] (by decide) h)) ⟨rfl, rfl⟩
  · refine J.cond_false h8 ?_
    refine J.skip ?_
    refine JQ.then_normal ?_
    refine JQ.sub [(2, .pointer (some ⟨b3, 0, none⟩)), (3, .pointer (some ⟨b4, 0, none⟩)), (4, .pointer (some ⟨b5, 0, none⟩))] ?_
    refine J.seq ?_
    refine J.region ?_
    refine JL.pur (.pointer (some ⟨b3, 0, none⟩)) (some 14) ?_
    refine JL.val (.int .i64 a1.Re) (some 15) (yields_load_box 0 0 (holds_box b3 23 [.int .i64 a1.Re, .int .i64 a1.Im, .int .i64 a1.Den]) tyAgg_2) ?_
    refine JL.pur (.pointer (some ⟨b4, 2, none⟩)) (some 16) ?_
    refine JL.val (.int .i64 b2.Den) (some 17) (yields_load_box 1 2 (holds_box b4 23 [.int .i64 b2.Re, .int .i64 b2.Im, .int .i64 b2.Den]) tyAgg_2) ?_
    refine JL.pur (.int .i64 (w64 (a1.Re * b2.Den))) (some 18) ?_
    refine JL.pur (.pointer (some ⟨b4, 0, none⟩)) (some 19) ?_
    refine JL.val (.int .i64 b2.Re) (some 20) (yields_load_box 1 0 (holds_box b4 23 [.int .i64 b2.Re, .int .i64 b2.Im, .int .i64 b2.Den]) tyAgg_2) ?_
    refine JL.pur (.pointer (some ⟨b3, 2, none⟩)) (some 21) ?_
    refine JL.val (.int .i64 a1.Den) (some 22) (yields_load_box 0 2 (holds_box b3 23 [.int .i64 a1.Re, .int .i64 a1.Im, .int .i64 a1.Den]) tyAgg_2) ?_
    refine JL.pur (.int .i64 (w64 (b2.Re * a1.Den))) (some 23) ?_
    refine JL.pur (.int .i64 (w64 ((w64 (a1.Re * b2.Den)) + (w64 (b2.Re * a1.Den))))) (some 24) ?_
    refine JL.pur (.pointer (some ⟨b3, 1, none⟩)) (some 25) ?_
    refine JL.val (.int .i64 a1.Im) (some 26) (yields_load_box 0 1 (holds_box b3 23 [.int .i64 a1.Re, .int .i64 a1.Im, .int .i64 a1.Den]) tyAgg_2) ?_
    refine JL.pur (.pointer (some ⟨b4, 2, none⟩)) (some 27) ?_
    refine JL.val (.int .i64 b2.Den) (some 28) (yields_load_box 1 2 (holds_box b4 23 [.int .i64 b2.Re, .int .i64 b2.Im, .int .i64 b2.Den]) tyAgg_2) ?_
    refine JL.pur (.int .i64 (w64 (a1.Im * b2.Den))) (some 29) ?_
    refine JL.pur (.pointer (some ⟨b4, 1, none⟩)) (some 30) ?_
    refine JL.val (.int .i64 b2.Im) (some 31) (yields_load_box 1 1 (holds_box b4 23 [.int .i64 b2.Re, .int .i64 b2.Im, .int .i64 b2.Den]) tyAgg_2) ?_
    refine JL.pur (.pointer (some ⟨b3, 2, none⟩)) (some 32) ?_
    refine JL.val (.int .i64 a1.Den) (some 33) (yields_load_box 0 2 (holds_box b3 23 [.int .i64 a1.Re, .int .i64 a1.Im, .int .i64 a1.Den]) tyAgg_2) ?_
    refine JL.pur (.int .i64 (w64 (b2.Im * a1.Den))) (some 34) ?_
    refine JL.pur (.int .i64 (w64 ((w64 (a1.Im * b2.Den)) + (w64 (b2.Im * a1.Den))))) (some 35) ?_
    refine JL.pur (.pointer (some ⟨b3, 2, none⟩)) (some 36) ?_
    refine JL.val (.int .i64 a1.Den) (some 37) (yields_load_box 0 2 (holds_box b3 23 [.int .i64 a1.Re, .int .i64 a1.Im, .int .i64 a1.Den]) tyAgg_2) ?_
    refine JL.pur (.pointer (some ⟨b4, 2, none⟩)) (some 38) ?_
    refine JL.val (.int .i64 b2.Den) (some 39) (yields_load_box 1 2 (holds_box b4 23 [.int .i64 b2.Re, .int .i64 b2.Im, .int .i64 b2.Den]) tyAgg_2) ?_
    refine JL.pur (.int .i64 (w64 (a1.Den * b2.Den))) (some 40) ?_
    obtain ⟨t9, hc10, H0⟩ := bind_some H0
    refine JL.call [] [] [] (cx_reduced.ok (w64 ((w64 (a1.Re * b2.Den)) + (w64 (b2.Re * a1.Den)))) (w64 ((w64 (a1.Im * b2.Den)) + (w64 (b2.Im * a1.Den)))) (w64 (a1.Den * b2.Den)) _ hc10) trivial ?_
    rintro _ _ ⟨rfl, rfl⟩
    refine JL.pur (.agg #[.int .i64 t9.1.Re, .int .i64 t9.1.Im, .int .i64 t9.1.Den]) (some 42) ?_
    refine JL.pur (.int .i64 t9.2) (some 43) ?_
    refine JL.store 2 b5 0 23 [.int .i64 0, .int .i64 0, .int .i64 0] [.int .i64 t9.1.Re, .int .i64 t9.1.Im, .int .i64 t9.1.Den] tySize_23 ?_
    refine JL.as (.int .i64 t9.2) ?_
    refine JL.nil ?_
    refine JQ.then_normal ?_
    refine JQ.sub [(4, .pointer (some ⟨b5, 0, none⟩)), (5, .int .i64 t9.2)] ?_
    refine JQ.mask [At.box b5 23 [.int .i64 t9.1.Re, .int .i64 t9.1.Im, .int .i64 t9.1.Den]] [false, false, true] ?_
    refine J.ret ?_
    obtain rfl := Option.some.inj H0
    exact JQ.done' (rs := [.cell 4 23, .tmp 5]) (vs := [.agg #[.int .i64 t9.1.Re, .int .i64 t9.1.Im, .int .i64 t9.1.Den], .int .i64 t9.2]) [] (.inr rfl) ⟨⟨b5, 0, _, _, by kernel_rfl, by kernel_rfl, holds_box b5 23 [.int .i64 t9.1.Re, .int .i64 t9.1.Im, .int .i64 t9.1.Den], .inl ⟨tyAgg_23, tySize_23, rfl⟩⟩, by kernel_rfl, trivial⟩ (fun _ h => Heap.to (Heap.pick [] (by decide) h)) ⟨rfl, rfl⟩

theorem jones_Mul.ok (a1 : (A4 Cx)) (b2 : (A4 Cx)) (r : ((A4 Cx) × Int)) (H0 : jones_Mul.f a1 b2 = some r) :
    Does Try.prog 9 [.agg #[.int .i64 a1.e0.Re, .int .i64 a1.e0.Im, .int .i64 a1.e0.Den, .int .i64 a1.e1.Re, .int .i64 a1.e1.Im, .int .i64 a1.e1.Den, .int .i64 a1.e2.Re, .int .i64 a1.e2.Im, .int .i64 a1.e2.Den, .int .i64 a1.e3.Re, .int .i64 a1.e3.Im, .int .i64 a1.e3.Den], .agg #[.int .i64 b2.e0.Re, .int .i64 b2.e0.Im, .int .i64 b2.e0.Den, .int .i64 b2.e1.Re, .int .i64 b2.e1.Im, .int .i64 b2.e1.Den, .int .i64 b2.e2.Re, .int .i64 b2.e2.Im, .int .i64 b2.e2.Den, .int .i64 b2.e3.Re, .int .i64 b2.e3.Im, .int .i64 b2.e3.Den]].toArray [] [] false (fun v Δ => v = .tuple #[.agg #[.int .i64 r.1.e0.Re, .int .i64 r.1.e0.Im, .int .i64 r.1.e0.Den, .int .i64 r.1.e1.Re, .int .i64 r.1.e1.Im, .int .i64 r.1.e1.Den, .int .i64 r.1.e2.Re, .int .i64 r.1.e2.Im, .int .i64 r.1.e2.Den, .int .i64 r.1.e3.Re, .int .i64 r.1.e3.Im, .int .i64 r.1.e3.Den], .int .i64 r.2] ∧ Δ = []) := by
  refine Does.body (vs := [.agg #[.int .i64 a1.e0.Re, .int .i64 a1.e0.Im, .int .i64 a1.e0.Den, .int .i64 a1.e1.Re, .int .i64 a1.e1.Im, .int .i64 a1.e1.Den, .int .i64 a1.e2.Re, .int .i64 a1.e2.Im, .int .i64 a1.e2.Den, .int .i64 a1.e3.Re, .int .i64 a1.e3.Im, .int .i64 a1.e3.Den], .agg #[.int .i64 b2.e0.Re, .int .i64 b2.e0.Im, .int .i64 b2.e0.Den, .int .i64 b2.e1.Re, .int .i64 b2.e1.Im, .int .i64 b2.e1.Den, .int .i64 b2.e2.Re, .int .i64 b2.e2.Im, .int .i64 b2.e2.Den, .int .i64 b2.e3.Re, .int .i64 b2.e3.Im, .int .i64 b2.e3.Den]]) Try.func9 rfl trivial trivial fun w S => ?_
  unfold jones_Mul.f at H0
  refine J.seq ?_
  refine J.region ?_
  refine JL.box [.int .i64 a1.e0.Re, .int .i64 a1.e0.Im, .int .i64 a1.e0.Den, .int .i64 a1.e1.Re, .int .i64 a1.e1.Im, .int .i64 a1.e1.Den, .int .i64 a1.e2.Re, .int .i64 a1.e2.Im, .int .i64 a1.e2.Den, .int .i64 a1.e3.Re, .int .i64 a1.e3.Im, .int .i64 a1.e3.Den] fun b3 => ?_
  refine JL.box [.int .i64 b2.e0.Re, .int .i64 b2.e0.Im, .int .i64 b2.e0.Den, .int .i64 b2.e1.Re, .int .i64 b2.e1.Im, .int .i64 b2.e1.Den, .int .i64 b2.e2.Re, .int .i64 b2.e2.Im, .int .i64 b2.e2.Den, .int .i64 b2.e3.Re, .int .i64 b2.e3.Im, .int .i64 b2.e3.Den] fun b4 => ?_
  refine JL.alloc [.int .i64 0, .int .i64 0, .int .i64 0, .int .i64 0, .int .i64 0, .int .i64 0, .int .i64 0, .int .i64 0, .int .i64 0, .int .i64 0, .int .i64 0, .int .i64 0] fun b5 => ?_
  refine JL.as (.int .i64 0) ?_
  refine JL.nil ?_
  refine JQ.then_normal ?_
  refine JQ.sub [(2, .pointer (some ⟨b3, 0, none⟩)), (3, .pointer (some ⟨b4, 0, none⟩)), (4, .pointer (some ⟨b5, 0, none⟩))] ?_
  refine J.seq ?_
  refine J.join (T := Bool) (G := Unit) (fun t => jones_Mul.k1 a1 b2 t = some r) (fun t g => [(2, .pointer (some ⟨b3, 0, none⟩)), (3, .pointer (some ⟨b4, 0, none⟩)), (4, .pointer (some ⟨b5, 0, none⟩)), (22, .bool t)]) (fun t g => [At.box b3 25 [.int .i64 a1.e0.Re, .int .i64 a1.e0.Im, .int .i64 a1.e0.Den, .int .i64 a1.e1.Re, .int .i64 a1.e1.Im, .int .i64 a1.e1.Den, .int .i64 a1.e2.Re, .int .i64 a1.e2.Im, .int .i64 a1.e2.Den, .int .i64 a1.e3.Re, .int .i64 a1.e3.Im, .int .i64 a1.e3.Den], At.box b4 25 [.int .i64 b2.e0.Re, .int .i64 b2.e0.Im, .int .i64 b2.e0.Den, .int .i64 b2.e1.Re, .int .i64 b2.e1.Im, .int .i64 b2.e1.Den, .int .i64 b2.e2.Re, .int .i64 b2.e2.Im, .int .i64 b2.e2.Den, .int .i64 b2.e3.Re, .int .i64 b2.e3.Im, .int .i64 b2.e3.Den], At.box b5 25 [.int .i64 0, .int .i64 0, .int .i64 0, .int .i64 0, .int .i64 0, .int .i64 0, .int .i64 0, .int .i64 0, .int .i64 0, .int .i64 0, .int .i64 0, .int .i64 0]]) ?_ ?_
  · refine J.region ?_
    refine JL.val (.agg #[.int .i64 a1.e0.Re, .int .i64 a1.e0.Im, .int .i64 a1.e0.Den, .int .i64 a1.e1.Re, .int .i64 a1.e1.Im, .int .i64 a1.e1.Den, .int .i64 a1.e2.Re, .int .i64 a1.e2.Im, .int .i64 a1.e2.Den, .int .i64 a1.e3.Re, .int .i64 a1.e3.Im, .int .i64 a1.e3.Den]) (some 15) (yields_load_boxes 0 0 [.int .i64 a1.e0.Re, .int .i64 a1.e0.Im, .int .i64 a1.e0.Den, .int .i64 a1.e1.Re, .int .i64 a1.e1.Im, .int .i64 a1.e1.Den, .int .i64 a1.e2.Re, .int .i64 a1.e2.Im, .int .i64 a1.e2.Den, .int .i64 a1.e3.Re, .int .i64 a1.e3.Im, .int .i64 a1.e3.Den] (holds_box b3 25 [.int .i64 a1.e0.Re, .int .i64 a1.e0.Im, .int .i64 a1.e0.Den, .int .i64 a1.e1.Re, .int .i64 a1.e1.Im, .int .i64 a1.e1.Den, .int .i64 a1.e2.Re, .int .i64 a1.e2.Im, .int .i64 a1.e2.Den, .int .i64 a1.e3.Re, .int .i64 a1.e3.Im, .int .i64 a1.e3.Den]) tyAgg_25 tySize_25) ?_
    obtain ⟨t338, hc339, H0⟩ := bind_some H0
    refine JL.call [] [] [] (jones_valid.ok a1 _ hc339) trivial ?_
    rintro _ _ ⟨rfl, rfl⟩
    refine JL.pur (.bool (!t338)) (some 17) ?_
    refine JL.mv (.bool (!t338)) ?_
    rcases ite_cases H0 with ⟨h340, H0⟩ | ⟨h340, H0⟩
    · refine JL.off 3 18 false (some 19) h340 ?_
      refine JL.off 3 18 false (some 20) h340 ?_
      refine JL.off 3 18 false (some 21) h340 ?_
      refine JL.val (.bool true) (some 22) (gives_pickT h340) ?_
      refine JL.nil ?_
      refine JQ.then_normal ?_
      exact JQ.meet true () H0 (fun _ h => Heap.to h)
    · refine JL.on 3 18 h340 ?_
      refine JL.val (.agg #[.int .i64 b2.e0.Re, .int .i64 b2.e0.Im, .int .i64 b2.e0.Den, .int .i64 b2.e1.Re, .int .i64 b2.e1.Im, .int .i64 b2.e1.Den, .int .i64 b2.e2.Re, .int .i64 b2.e2.Im, .int .i64 b2.e2.Den, .int .i64 b2.e3.Re, .int .i64 b2.e3.Im, .int .i64 b2.e3.Den]) (some 19) (yields_load_boxes 1 0 [.int .i64 b2.e0.Re, .int .i64 b2.e0.Im, .int .i64 b2.e0.Den, .int .i64 b2.e1.Re, .int .i64 b2.e1.Im, .int .i64 b2.e1.Den, .int .i64 b2.e2.Re, .int .i64 b2.e2.Im, .int .i64 b2.e2.Den, .int .i64 b2.e3.Re, .int .i64 b2.e3.Im, .int .i64 b2.e3.Den] (holds_box b4 25 [.int .i64 b2.e0.Re, .int .i64 b2.e0.Im, .int .i64 b2.e0.Den, .int .i64 b2.e1.Re, .int .i64 b2.e1.Im, .int .i64 b2.e1.Den, .int .i64 b2.e2.Re, .int .i64 b2.e2.Im, .int .i64 b2.e2.Den, .int .i64 b2.e3.Re, .int .i64 b2.e3.Im, .int .i64 b2.e3.Den]) tyAgg_25 tySize_25) ?_
      refine JL.on 3 18 h340 ?_
      obtain ⟨t341, hc342, H0⟩ := bind_some H0
      refine JL.call [] [] [] (jones_valid.ok b2 _ hc342) trivial ?_
      rintro _ _ ⟨rfl, rfl⟩
      refine JL.on 3 18 h340 ?_
      refine JL.pur (.bool (!t341)) (some 21) ?_
      refine JL.val (.bool (!t341)) (some 22) (gives_pickF h340) ?_
      refine JL.nil ?_
      refine JQ.then_normal ?_
      exact JQ.meet (!t341) () H0 (fun _ h => Heap.to h)
  · clear H0
    rintro x11 ⟨⟩ H0
    replace H0 : jones_Mul.k1 a1 b2 x11 = some r := H0
    unfold jones_Mul.k1 at H0
    refine JQ.sub [(2, .pointer (some ⟨b3, 0, none⟩)), (3, .pointer (some ⟨b4, 0, none⟩)), (4, .pointer (some ⟨b5, 0, none⟩)), (22, .bool x11)] ?_
    refine JQ.turn (Δ' := [At.box b3 25 [.int .i64 a1.e0.Re, .int .i64 a1.e0.Im, .int .i64 a1.e0.Den, .int .i64 a1.e1.Re, .int .i64 a1.e1.Im, .int .i64 a1.e1.Den, .int .i64 a1.e2.Re, .int .i64 a1.e2.Im, .int .i64 a1.e2.Den, .int .i64 a1.e3.Re, .int .i64 a1.e3.Im, .int .i64 a1.e3.Den], At.box b4 25 [.int .i64 b2.e0.Re, .int .i64 b2.e0.Im, .int .i64 b2.e0.Den, .int .i64 b2.e1.Re, .int .i64 b2.e1.Im, .int .i64 b2.e1.Den, .int .i64 b2.e2.Re, .int .i64 b2.e2.Im, .int .i64 b2.e2.Den, .int .i64 b2.e3.Re, .int .i64 b2.e3.Im, .int .i64 b2.e3.Den], At.box b5 25 [.int .i64 0, .int .i64 0, .int .i64 0, .int .i64 0, .int .i64 0, .int .i64 0, .int .i64 0, .int .i64 0, .int .i64 0, .int .i64 0, .int .i64 0, .int .i64 0]]) (fun _ h => h.to) ?_
    rcases ite_cases H0 with ⟨h12, H0⟩ | ⟨h12, H0⟩
    · refine J.cond_true h12 ?_
      refine J.seq ?_
      refine J.region ?_
      refine JL.pur (.agg #[.int .i64 0, .int .i64 0, .int .i64 0, .int .i64 0, .int .i64 0, .int .i64 0, .int .i64 0, .int .i64 0, .int .i64 0, .int .i64 0, .int .i64 0, .int .i64 0]) (some 23) ?_
      refine JL.store 2 b5 0 25 [.int .i64 0, .int .i64 0, .int .i64 0, .int .i64 0, .int .i64 0, .int .i64 0, .int .i64 0, .int .i64 0, .int .i64 0, .int .i64 0, .int .i64 0, .int .i64 0] [.int .i64 0, .int .i64 0, .int .i64 0, .int .i64 0, .int .i64 0, .int .i64 0, .int .i64 0, .int .i64 0, .int .i64 0, .int .i64 0, .int .i64 0, .int .i64 0] tySize_25 ?_
      refine JL.as (.int .i64 8) ?_
      refine JL.nil ?_
      refine JQ.then_normal ?_
      refine JQ.sub [(4, .pointer (some ⟨b5, 0, none⟩)), (5, .int .i64 8)] ?_
      refine JQ.mask [At.box b5 25 [.int .i64 0, .int .i64 0, .int .i64 0, .int .i64 0, .int .i64 0, .int .i64 0, .int .i64 0, .int .i64 0, .int .i64 0, .int .i64 0, .int .i64 0, .int .i64 0]] [false, false, true] ?_
      refine J.ret ?_
      refine JQ.then_ret ?_
      obtain rfl := Option.some.inj H0
      exact JQ.done' (rs := [.cell 4 25, .tmp 5]) (vs := [.agg #[.int .i64 0, .int .i64 0, .int .i64 0, .int .i64 0, .int .i64 0, .int .i64 0, .int .i64 0, .int .i64 0, .int .i64 0, .int .i64 0, .int .i64 0, .int .i64 0], .int .i64 8]) [] (.inr rfl) ⟨⟨b5, 0, _, _, by kernel_rfl, by kernel_rfl, holds_box b5 25 [.int .i64 0, .int .i64 0, .int .i64 0, .int .i64 0, .int .i64 0, .int .i64 0, .int .i64 0, .int .i64 0, .int .i64 0, .int .i64 0, .int .i64 0, .int .i64 0], .inl ⟨tyAgg_25, tySize_25, rfl⟩⟩, by kernel_rfl, trivial⟩ (fun _ h => Heap.to (Heap.pick [] (by decide) h)) ⟨rfl, rfl⟩
    · refine J.cond_false h12 ?_
      refine J.skip ?_
      refine JQ.then_normal ?_
      refine JQ.sub [(2, .pointer (some ⟨b3, 0, none⟩)), (3, .pointer (some ⟨b4, 0, none⟩)), (4, .pointer (some ⟨b5, 0, none⟩))] ?_
      refine J.seq ?_
      refine J.region ?_
      refine JL.alloc [.int .i64 0, .int .i64 0, .int .i64 0, .int .i64 0, .int .i64 0, .int .i64 0, .int .i64 0, .int .i64 0, .int .i64 0, .int .i64 0, .int .i64 0, .int .i64 0] fun b13 => ?_
      refine JL.nil ?_
      refine JQ.then_normal ?_
      refine J.seq ?_
      refine J.seq ?_
      refine J.region ?_
      refine JL.mv (.int .i64 0) ?_
      refine JL.nil ?_
      refine JQ.then_normal ?_
      obtain ⟨o1, hit, H0⟩ := bind_some H0
      refine J.loop (σ := ((A4 Cx) × Int)) (τ := (A4 Cx)) (G := Unit) (G' := Unit) _ o1 (fun s g => [(2, .pointer (some ⟨b3, 0, none⟩)), (3, .pointer (some ⟨b4, 0, none⟩)), (4, .pointer (some ⟨b5, 0, none⟩)), (6, .pointer (some ⟨b13, 0, none⟩)), (24, .int .i64 s.2)]) (fun s g => [At.box b3 25 [.int .i64 a1.e0.Re, .int .i64 a1.e0.Im, .int .i64 a1.e0.Den, .int .i64 a1.e1.Re, .int .i64 a1.e1.Im, .int .i64 a1.e1.Den, .int .i64 a1.e2.Re, .int .i64 a1.e2.Im, .int .i64 a1.e2.Den, .int .i64 a1.e3.Re, .int .i64 a1.e3.Im, .int .i64 a1.e3.Den], At.box b4 25 [.int .i64 b2.e0.Re, .int .i64 b2.e0.Im, .int .i64 b2.e0.Den, .int .i64 b2.e1.Re, .int .i64 b2.e1.Im, .int .i64 b2.e1.Den, .int .i64 b2.e2.Re, .int .i64 b2.e2.Im, .int .i64 b2.e2.Den, .int .i64 b2.e3.Re, .int .i64 b2.e3.Im, .int .i64 b2.e3.Den], At.box b5 25 [.int .i64 0, .int .i64 0, .int .i64 0, .int .i64 0, .int .i64 0, .int .i64 0, .int .i64 0, .int .i64 0, .int .i64 0, .int .i64 0, .int .i64 0, .int .i64 0], At.box b13 25 [.int .i64 s.1.e0.Re, .int .i64 s.1.e0.Im, .int .i64 s.1.e0.Den, .int .i64 s.1.e1.Re, .int .i64 s.1.e1.Im, .int .i64 s.1.e1.Den, .int .i64 s.1.e2.Re, .int .i64 s.1.e2.Im, .int .i64 s.1.e2.Den, .int .i64 s.1.e3.Re, .int .i64 s.1.e3.Im, .int .i64 s.1.e3.Den]]) (fun t => jones_Mul.k9 t = some r) (fun t g => [(4, .pointer (some ⟨b5, 0, none⟩)), (6, .pointer (some ⟨b13, 0, none⟩))]) (fun t g => [At.box b5 25 [.int .i64 0, .int .i64 0, .int .i64 0, .int .i64 0, .int .i64 0, .int .i64 0, .int .i64 0, .int .i64 0, .int .i64 0, .int .i64 0, .int .i64 0, .int .i64 0], At.box b13 25 [.int .i64 t.e0.Re, .int .i64 t.e0.Im, .int .i64 t.e0.Den, .int .i64 t.e1.Re, .int .i64 t.e1.Im, .int .i64 t.e1.Den, .int .i64 t.e2.Re, .int .i64 t.e2.Im, .int .i64 t.e2.Den, .int .i64 t.e3.Re, .int .i64 t.e3.Im, .int .i64 t.e3.Den]]) ((⟨(⟨0, 0, 0⟩ : Cx), (⟨0, 0, 0⟩ : Cx), (⟨0, 0, 0⟩ : Cx), (⟨0, 0, 0⟩ : Cx)⟩ : (A4 Cx)), 0) () hit (fun _ h => Heap.to h) ?_ ?_
      · clear hit
        rintro ⟨out157, x158⟩ ⟨⟩ st1 H1 hb1 hr1
        replace H1 : jones_Mul.s8 a1 b2 out157 x158 = some st1 := H1
        unfold jones_Mul.s8 at H1
        refine JQ.sub [(2, .pointer (some ⟨b3, 0, none⟩)), (3, .pointer (some ⟨b4, 0, none⟩)), (4, .pointer (some ⟨b5, 0, none⟩)), (6, .pointer (some ⟨b13, 0, none⟩)), (24, .int .i64 x158)] ?_
        refine JQ.turn (Δ' := [At.box b3 25 [.int .i64 a1.e0.Re, .int .i64 a1.e0.Im, .int .i64 a1.e0.Den, .int .i64 a1.e1.Re, .int .i64 a1.e1.Im, .int .i64 a1.e1.Den, .int .i64 a1.e2.Re, .int .i64 a1.e2.Im, .int .i64 a1.e2.Den, .int .i64 a1.e3.Re, .int .i64 a1.e3.Im, .int .i64 a1.e3.Den], At.box b4 25 [.int .i64 b2.e0.Re, .int .i64 b2.e0.Im, .int .i64 b2.e0.Den, .int .i64 b2.e1.Re, .int .i64 b2.e1.Im, .int .i64 b2.e1.Den, .int .i64 b2.e2.Re, .int .i64 b2.e2.Im, .int .i64 b2.e2.Den, .int .i64 b2.e3.Re, .int .i64 b2.e3.Im, .int .i64 b2.e3.Den], At.box b5 25 [.int .i64 0, .int .i64 0, .int .i64 0, .int .i64 0, .int .i64 0, .int .i64 0, .int .i64 0, .int .i64 0, .int .i64 0, .int .i64 0, .int .i64 0, .int .i64 0], At.box b13 25 [.int .i64 out157.e0.Re, .int .i64 out157.e0.Im, .int .i64 out157.e0.Den, .int .i64 out157.e1.Re, .int .i64 out157.e1.Im, .int .i64 out157.e1.Den, .int .i64 out157.e2.Re, .int .i64 out157.e2.Im, .int .i64 out157.e2.Den, .int .i64 out157.e3.Re, .int .i64 out157.e3.Im, .int .i64 out157.e3.Den]]) (fun _ h => h.to) ?_
        refine J.seq ?_
        refine J.region ?_
        refine JL.pur (.bool (decide (x158 < 4))) (some 25) ?_
        refine JL.nil ?_
        refine JQ.then_normal ?_
        refine J.seq ?_
        rcases ite_cases H1 with ⟨h249, H1⟩ | ⟨h249, H1⟩
        · refine J.cond_true h249 ?_
          refine J.skip ?_
          refine JQ.then_normal ?_
          refine JQ.sub [(2, .pointer (some ⟨b3, 0, none⟩)), (3, .pointer (some ⟨b4, 0, none⟩)), (4, .pointer (some ⟨b5, 0, none⟩)), (6, .pointer (some ⟨b13, 0, none⟩)), (24, .int .i64 x158)] ?_
          refine J.seq ?_
          refine J.block ?_
          refine J.seq ?_
          refine J.region ?_
          refine JL.mv (.int .i64 x158) ?_
          refine JL.as (.int .i64 x158) ?_
          refine JL.nil ?_
          refine JQ.then_normal ?_
          refine JQ.sub [(2, .pointer (some ⟨b3, 0, none⟩)), (3, .pointer (some ⟨b4, 0, none⟩)), (4, .pointer (some ⟨b5, 0, none⟩)), (6, .pointer (some ⟨b13, 0, none⟩)), (7, .int .i64 x158), (24, .int .i64 x158)] ?_
          refine J.seq ?_
          refine J.region ?_
          refine JL.mv (.int .i64 x158) ?_
          refine JL.pur (.int .i64 (w64 (Int.tdiv x158 2))) (some 28) ?_
          refine JL.pur (.int .i64 (w64 ((w64 (Int.tdiv x158 2)) * 2))) (some 29) ?_
          refine JL.mv (.int .i64 x158) ?_
          refine JL.pur (.int .i64 (Int.tmod x158 2)) (some 31) ?_
          obtain ⟨row250, erow250, H1⟩ := lt_some H1
          refine JL.as' (k := .i64) row250 erow250 ?_
          obtain ⟨column251, ecolumn251, H1⟩ := lt_some H1
          refine JL.as' (k := .i64) column251 ecolumn251 ?_
          refine JL.nil ?_
          refine JQ.then_normal ?_
          refine JQ.sub [(2, .pointer (some ⟨b3, 0, none⟩)), (3, .pointer (some ⟨b4, 0, none⟩)), (4, .pointer (some ⟨b5, 0, none⟩)), (6, .pointer (some ⟨b13, 0, none⟩)), (7, .int .i64 x158), (8, .int .i64 row250), (9, .int .i64 column251), (24, .int .i64 x158)] ?_
          refine J.join (T := (Cx × Int)) (G := Nat) (fun t => jones_Mul.k10 a1 b2 out157 x158 row250 column251 t.1 t.2 = some st1) (fun t g => [(2, .pointer (some ⟨b3, 0, none⟩)), (3, .pointer (some ⟨b4, 0, none⟩)), (4, .pointer (some ⟨b5, 0, none⟩)), (6, .pointer (some ⟨b13, 0, none⟩)), (7, .int .i64 x158), (8, .int .i64 row250), (9, .int .i64 column251), (10, .pointer (some ⟨g, 0, none⟩)), (11, .int .i64 t.2), (24, .int .i64 x158)]) (fun t g => [At.box b3 25 [.int .i64 a1.e0.Re, .int .i64 a1.e0.Im, .int .i64 a1.e0.Den, .int .i64 a1.e1.Re, .int .i64 a1.e1.Im, .int .i64 a1.e1.Den, .int .i64 a1.e2.Re, .int .i64 a1.e2.Im, .int .i64 a1.e2.Den, .int .i64 a1.e3.Re, .int .i64 a1.e3.Im, .int .i64 a1.e3.Den], At.box b4 25 [.int .i64 b2.e0.Re, .int .i64 b2.e0.Im, .int .i64 b2.e0.Den, .int .i64 b2.e1.Re, .int .i64 b2.e1.Im, .int .i64 b2.e1.Den, .int .i64 b2.e2.Re, .int .i64 b2.e2.Im, .int .i64 b2.e2.Den, .int .i64 b2.e3.Re, .int .i64 b2.e3.Im, .int .i64 b2.e3.Den], At.box b5 25 [.int .i64 0, .int .i64 0, .int .i64 0, .int .i64 0, .int .i64 0, .int .i64 0, .int .i64 0, .int .i64 0, .int .i64 0, .int .i64 0, .int .i64 0, .int .i64 0], At.box b13 25 [.int .i64 out157.e0.Re, .int .i64 out157.e0.Im, .int .i64 out157.e0.Den, .int .i64 out157.e1.Re, .int .i64 out157.e1.Im, .int .i64 out157.e1.Den, .int .i64 out157.e2.Re, .int .i64 out157.e2.Im, .int .i64 out157.e2.Den, .int .i64 out157.e3.Re, .int .i64 out157.e3.Im, .int .i64 out157.e3.Den], At.box g 23 [.int .i64 t.1.Re, .int .i64 t.1.Im, .int .i64 t.1.Den]]) ?_ ?_
          · obtain ⟨⟨h321, h322⟩, H1⟩ := ite_must H1
            obtain ⟨⟨h323, h324⟩, H1⟩ := ite_must H1
            obtain ⟨t325, hc326, H1⟩ := bind_some H1
            refine JY.start [11] #[false, false, false, false, false, false, false, false, false, false, false, false, false] ?_
            refine JY.pur (hi := rfl) 0 #[true, false, false, false, false, false, false, false, false, false, false, false, false] (.int .i64 row250) (some 33) want ?_
            obtain ⟨h328, h329⟩ : 0 ≤ row250 ∧ row250 < 4 := ⟨h321, h322⟩
            refine JY.puw (hi := rfl) 1 #[true, true, false, false, false, false, false, false, false, false, false, false, false] (.pointer (some ⟨b3, 0 + row250.toNat * 3, none⟩)) (some 34) want (givesW_ixArrD (b := b3) (o := 0) (i := row250) 4 3 .i64 h328 h329 Try.underlying25 tySize_23) ?_
            refine JY.take (hi := rfl) 2 #[true, true, true, false, false, false, false, false, false, false, false, false, false] (.agg #[.int .i64 ((ix ([a1.e0, a1.e1, a1.e2, a1.e3] : List Cx) row250).Re), .int .i64 ((ix ([a1.e0, a1.e1, a1.e2, a1.e3] : List Cx) row250).Im), .int .i64 ((ix ([a1.e0, a1.e1, a1.e2, a1.e3] : List Cx) row250).Den)]) (some 35) [true, true, true, true] want (gives_loadEl (f := fl_Cx) 0 0 row250 (elems_arr b3 25 [.int .i64 a1.e0.Re, .int .i64 a1.e0.Im, .int .i64 a1.e0.Den, .int .i64 a1.e1.Re, .int .i64 a1.e1.Im, .int .i64 a1.e1.Den, .int .i64 a1.e2.Re, .int .i64 a1.e2.Im, .int .i64 a1.e2.Den, .int .i64 a1.e3.Re, .int .i64 a1.e3.Im, .int .i64 a1.e3.Den] fl_Cx ([a1.e0, a1.e1, a1.e2, a1.e3] : List Cx) 0) h328 h329 tySize_23 (.inl ⟨tyAgg_23, rfl⟩)) ?_
            refine JY.pur (hi := rfl) 3 #[true, true, true, true, false, false, false, false, false, false, false, false, false] (.int .i64 column251) (some 36) want ?_
            obtain ⟨h330, h331⟩ : 0 ≤ column251 ∧ column251 < 4 := ⟨h323, h324⟩
            refine JY.puw (hi := rfl) 4 #[true, true, true, true, true, false, false, false, false, false, false, false, false] (.pointer (some ⟨b4, 0 + column251.toNat * 3, none⟩)) (some 37) want (givesW_ixArrD (b := b4) (o := 0) (i := column251) 4 3 .i64 h330 h331 Try.underlying25 tySize_23) ?_
            refine JY.take (hi := rfl) 5 #[true, true, true, true, true, true, false, false, false, false, false, false, false] (.agg #[.int .i64 ((ix ([b2.e0, b2.e1, b2.e2, b2.e3] : List Cx) column251).Re), .int .i64 ((ix ([b2.e0, b2.e1, b2.e2, b2.e3] : List Cx) column251).Im), .int .i64 ((ix ([b2.e0, b2.e1, b2.e2, b2.e3] : List Cx) column251).Den)]) (some 38) [true, true, true, true] want (gives_loadEl (f := fl_Cx) 1 0 column251 (elems_arr b4 25 [.int .i64 b2.e0.Re, .int .i64 b2.e0.Im, .int .i64 b2.e0.Den, .int .i64 b2.e1.Re, .int .i64 b2.e1.Im, .int .i64 b2.e1.Den, .int .i64 b2.e2.Re, .int .i64 b2.e2.Im, .int .i64 b2.e2.Den, .int .i64 b2.e3.Re, .int .i64 b2.e3.Im, .int .i64 b2.e3.Den] fl_Cx ([b2.e0, b2.e1, b2.e2, b2.e3] : List Cx) 0) h330 h331 tySize_23 (.inl ⟨tyAgg_23, rfl⟩)) ?_
            refine JY.all [6, 10] ⟨⟨_, rfl, ?_⟩, ⟨_, rfl, ?_⟩, trivial⟩
            · refine JL.call [] [] [] (cx_Mul.ok (⟨((ix ([a1.e0, a1.e1, a1.e2, a1.e3] : List Cx) row250).Re), ((ix ([a1.e0, a1.e1, a1.e2, a1.e3] : List Cx) row250).Im), ((ix ([a1.e0, a1.e1, a1.e2, a1.e3] : List Cx) row250).Den)⟩ : Cx) (⟨((ix ([b2.e0, b2.e1, b2.e2, b2.e3] : List Cx) column251).Re), ((ix ([b2.e0, b2.e1, b2.e2, b2.e3] : List Cx) column251).Im), ((ix ([b2.e0, b2.e1, b2.e2, b2.e3] : List Cx) column251).Den)⟩ : Cx) _ hc326) trivial ?_
              rintro _ _ ⟨rfl, rfl⟩
              refine JL.nil ?_
              refine JY.ran #[true, true, true, true, true, true, true, false, false, false, false, false, false] [true, true, true, true] ?_
              refine JY.pur (hi := rfl) 7 #[true, true, true, true, true, true, true, true, false, false, false, false, false] (.tuple #[.agg #[.int .i64 t325.1.Re, .int .i64 t325.1.Im, .int .i64 t325.1.Den], .int .i64 t325.2]) (some 32) want ?_
              refine JY.pur (hi := rfl) 8 #[true, true, true, true, true, true, true, true, true, false, false, false, false] (.agg #[.int .i64 t325.1.Re, .int .i64 t325.1.Im, .int .i64 t325.1.Den]) (some 40) want ?_
              refine JY.pur (hi := rfl) 9 #[true, true, true, true, true, true, true, true, true, true, false, false, false] (.int .i64 t325.2) (some 41) want ?_
              refine JY.all [10] ⟨⟨_, rfl, ?_⟩, trivial⟩
              refine JL.alloc [.int .i64 0, .int .i64 0, .int .i64 0] fun b334 => ?_
              refine JL.nil ?_
              refine JY.ran #[true, true, true, true, true, true, true, true, true, true, true, false, false] [true, true, true, true, false] ?_
              refine JY.all [11] ⟨⟨_, rfl, ?_⟩, trivial⟩
              refine JL.store 4 b334 0 23 [.int .i64 0, .int .i64 0, .int .i64 0] [.int .i64 t325.1.Re, .int .i64 t325.1.Im, .int .i64 t325.1.Den] tySize_23 ?_
              refine JL.nil ?_
              refine JY.ranD #[true, true, true, true, true, true, true, true, true, true, true, true, false] ?_
              refine JY.pur (hi := rfl) 12 #[true, true, true, true, true, true, true, true, true, true, true, true, true] (.int .i64 t325.2) (some 11) want ?_
              refine JY.done ?_
              refine JQ.then_normal ?_
              exact JQ.meet (t325.1, t325.2) b334 H1 (fun _ h => Heap.to h)
            · refine JL.alloc [.int .i64 0, .int .i64 0, .int .i64 0] fun b335 => ?_
              refine JL.nil ?_
              refine JY.ran #[true, true, true, true, true, true, false, false, false, false, true, false, false] [true, true, true, true, false] ?_
              refine JY.all [6] ⟨⟨_, rfl, ?_⟩, trivial⟩
              refine JL.call [] [] [] (cx_Mul.ok (⟨((ix ([a1.e0, a1.e1, a1.e2, a1.e3] : List Cx) row250).Re), ((ix ([a1.e0, a1.e1, a1.e2, a1.e3] : List Cx) row250).Im), ((ix ([a1.e0, a1.e1, a1.e2, a1.e3] : List Cx) row250).Den)⟩ : Cx) (⟨((ix ([b2.e0, b2.e1, b2.e2, b2.e3] : List Cx) column251).Re), ((ix ([b2.e0, b2.e1, b2.e2, b2.e3] : List Cx) column251).Im), ((ix ([b2.e0, b2.e1, b2.e2, b2.e3] : List Cx) column251).Den)⟩ : Cx) _ hc326) trivial ?_
              rintro _ _ ⟨rfl, rfl⟩
              refine JL.nil ?_
              refine JY.ran #[true, true, true, true, true, true, true, false, false, false, true, false, false] [true, true, true, true, false] ?_
              refine JY.pur (hi := rfl) 7 #[true, true, true, true, true, true, true, true, false, false, true, false, false] (.tuple #[.agg #[.int .i64 t325.1.Re, .int .i64 t325.1.Im, .int .i64 t325.1.Den], .int .i64 t325.2]) (some 32) want ?_
              refine JY.pur (hi := rfl) 8 #[true, true, true, true, true, true, true, true, true, false, true, false, false] (.agg #[.int .i64 t325.1.Re, .int .i64 t325.1.Im, .int .i64 t325.1.Den]) (some 40) want ?_
              refine JY.pur (hi := rfl) 9 #[true, true, true, true, true, true, true, true, true, true, true, false, false] (.int .i64 t325.2) (some 41) want ?_
              refine JY.all [11] ⟨⟨_, rfl, ?_⟩, trivial⟩
              refine JL.store 4 b335 0 23 [.int .i64 0, .int .i64 0, .int .i64 0] [.int .i64 t325.1.Re, .int .i64 t325.1.Im, .int .i64 t325.1.Den] tySize_23 ?_
              refine JL.nil ?_
              refine JY.ranD #[true, true, true, true, true, true, true, true, true, true, true, true, false] ?_
              refine JY.pur (hi := rfl) 12 #[true, true, true, true, true, true, true, true, true, true, true, true, true] (.int .i64 t325.2) (some 11) want ?_
              refine JY.done ?_
              refine JQ.then_normal ?_
              exact JQ.meet (t325.1, t325.2) b335 H1 (fun _ h => Heap.to h)
          · clear H1
            rintro ⟨x271, e272⟩ b269 H1
            replace H1 : jones_Mul.k10 a1 b2 out157 x158 row250 column251 x271 e272 = some st1 := H1
            unfold jones_Mul.k10 at H1
            refine JQ.sub [(2, .pointer (some ⟨b3, 0, none⟩)), (3, .pointer (some ⟨b4, 0, none⟩)), (4, .pointer (some ⟨b5, 0, none⟩)), (6, .pointer (some ⟨b13, 0, none⟩)), (7, .int .i64 x158), (8, .int .i64 row250), (9, .int .i64 column251), (10, .pointer (some ⟨b269, 0, none⟩)), (11, .int .i64 e272), (24, .int .i64 x158)] ?_
            refine JQ.turn (Δ' := [At.box b3 25 [.int .i64 a1.e0.Re, .int .i64 a1.e0.Im, .int .i64 a1.e0.Den, .int .i64 a1.e1.Re, .int .i64 a1.e1.Im, .int .i64 a1.e1.Den, .int .i64 a1.e2.Re, .int .i64 a1.e2.Im, .int .i64 a1.e2.Den, .int .i64 a1.e3.Re, .int .i64 a1.e3.Im, .int .i64 a1.e3.Den], At.box b4 25 [.int .i64 b2.e0.Re, .int .i64 b2.e0.Im, .int .i64 b2.e0.Den, .int .i64 b2.e1.Re, .int .i64 b2.e1.Im, .int .i64 b2.e1.Den, .int .i64 b2.e2.Re, .int .i64 b2.e2.Im, .int .i64 b2.e2.Den, .int .i64 b2.e3.Re, .int .i64 b2.e3.Im, .int .i64 b2.e3.Den], At.box b5 25 [.int .i64 0, .int .i64 0, .int .i64 0, .int .i64 0, .int .i64 0, .int .i64 0, .int .i64 0, .int .i64 0, .int .i64 0, .int .i64 0, .int .i64 0, .int .i64 0], At.box b13 25 [.int .i64 out157.e0.Re, .int .i64 out157.e0.Im, .int .i64 out157.e0.Den, .int .i64 out157.e1.Re, .int .i64 out157.e1.Im, .int .i64 out157.e1.Den, .int .i64 out157.e2.Re, .int .i64 out157.e2.Im, .int .i64 out157.e2.Den, .int .i64 out157.e3.Re, .int .i64 out157.e3.Im, .int .i64 out157.e3.Den], At.box b269 23 [.int .i64 x271.Re, .int .i64 x271.Im, .int .i64 x271.Den]]) (fun _ h => h.to) ?_
            refine J.join (T := (Cx × Int)) (G := Nat) (fun t => jones_Mul.k11 out157 x158 x271 e272 t.1 t.2 = some st1) (fun t g => [(2, .pointer (some ⟨b3, 0, none⟩)), (3, .pointer (some ⟨b4, 0, none⟩)), (4, .pointer (some ⟨b5, 0, none⟩)), (6, .pointer (some ⟨b13, 0, none⟩)), (7, .int .i64 x158), (10, .pointer (some ⟨b269, 0, none⟩)), (11, .int .i64 e272), (12, .pointer (some ⟨g, 0, none⟩)), (13, .int .i64 t.2), (24, .int .i64 x158)]) (fun t g => [At.box b3 25 [.int .i64 a1.e0.Re, .int .i64 a1.e0.Im, .int .i64 a1.e0.Den, .int .i64 a1.e1.Re, .int .i64 a1.e1.Im, .int .i64 a1.e1.Den, .int .i64 a1.e2.Re, .int .i64 a1.e2.Im, .int .i64 a1.e2.Den, .int .i64 a1.e3.Re, .int .i64 a1.e3.Im, .int .i64 a1.e3.Den], At.box b4 25 [.int .i64 b2.e0.Re, .int .i64 b2.e0.Im, .int .i64 b2.e0.Den, .int .i64 b2.e1.Re, .int .i64 b2.e1.Im, .int .i64 b2.e1.Den, .int .i64 b2.e2.Re, .int .i64 b2.e2.Im, .int .i64 b2.e2.Den, .int .i64 b2.e3.Re, .int .i64 b2.e3.Im, .int .i64 b2.e3.Den], At.box b5 25 [.int .i64 0, .int .i64 0, .int .i64 0, .int .i64 0, .int .i64 0, .int .i64 0, .int .i64 0, .int .i64 0, .int .i64 0, .int .i64 0, .int .i64 0, .int .i64 0], At.box b13 25 [.int .i64 out157.e0.Re, .int .i64 out157.e0.Im, .int .i64 out157.e0.Den, .int .i64 out157.e1.Re, .int .i64 out157.e1.Im, .int .i64 out157.e1.Den, .int .i64 out157.e2.Re, .int .i64 out157.e2.Im, .int .i64 out157.e2.Den, .int .i64 out157.e3.Re, .int .i64 out157.e3.Im, .int .i64 out157.e3.Den], At.box b269 23 [.int .i64 x271.Re, .int .i64 x271.Im, .int .i64 x271.Den], At.box g 23 [.int .i64 t.1.Re, .int .i64 t.1.Im, .int .i64 t.1.Den]]) ?_ ?_
            · obtain ⟨⟨h304, h305⟩, H1⟩ := ite_must H1
              obtain ⟨⟨h306, h307⟩, H1⟩ := ite_must H1
              obtain ⟨t308, hc309, H1⟩ := bind_some H1
              refine JY.start [13] #[false, false, false, false, false, false, false, false, false, false, false, false, false, false, false] ?_
              refine JY.pur (hi := rfl) 0 #[true, false, false, false, false, false, false, false, false, false, false, false, false, false, false] (.int .i64 row250) (some 43) want ?_
              refine JY.pur (hi := rfl) 1 #[true, true, false, false, false, false, false, false, false, false, false, false, false, false, false] (.int .i64 (w64 (row250 + 1))) (some 44) want ?_
              obtain ⟨h311, h312⟩ : 0 ≤ w64 (row250 + 1) ∧ w64 (row250 + 1) < 4 := ⟨h304, h305⟩
              refine JY.puw (hi := rfl) 2 #[true, true, true, false, false, false, false, false, false, false, false, false, false, false, false] (.pointer (some ⟨b3, 0 + (w64 (row250 + 1)).toNat * 3, none⟩)) (some 45) want (givesW_ixArrD (b := b3) (o := 0) (i := w64 (row250 + 1)) 4 3 .i64 h311 h312 Try.underlying25 tySize_23) ?_
              refine JY.take (hi := rfl) 3 #[true, true, true, true, false, false, false, false, false, false, false, false, false, false, false] (.agg #[.int .i64 ((ix ([a1.e0, a1.e1, a1.e2, a1.e3] : List Cx) (w64 (row250 + 1))).Re), .int .i64 ((ix ([a1.e0, a1.e1, a1.e2, a1.e3] : List Cx) (w64 (row250 + 1))).Im), .int .i64 ((ix ([a1.e0, a1.e1, a1.e2, a1.e3] : List Cx) (w64 (row250 + 1))).Den)]) (some 46) [true, true, true, true, true] want (gives_loadEl (f := fl_Cx) 0 0 (w64 (row250 + 1)) (elems_arr b3 25 [.int .i64 a1.e0.Re, .int .i64 a1.e0.Im, .int .i64 a1.e0.Den, .int .i64 a1.e1.Re, .int .i64 a1.e1.Im, .int .i64 a1.e1.Den, .int .i64 a1.e2.Re, .int .i64 a1.e2.Im, .int .i64 a1.e2.Den, .int .i64 a1.e3.Re, .int .i64 a1.e3.Im, .int .i64 a1.e3.Den] fl_Cx ([a1.e0, a1.e1, a1.e2, a1.e3] : List Cx) 0) h311 h312 tySize_23 (.inl ⟨tyAgg_23, rfl⟩)) ?_
              refine JY.pur (hi := rfl) 4 #[true, true, true, true, true, false, false, false, false, false, false, false, false, false, false] (.int .i64 column251) (some 47) want ?_
              refine JY.pur (hi := rfl) 5 #[true, true, true, true, true, true, false, false, false, false, false, false, false, false, false] (.int .i64 (w64 (column251 + 2))) (some 48) want ?_
              obtain ⟨h313, h314⟩ : 0 ≤ w64 (column251 + 2) ∧ w64 (column251 + 2) < 4 := ⟨h306, h307⟩
              refine JY.puw (hi := rfl) 6 #[true, true, true, true, true, true, true, false, false, false, false, false, false, false, false] (.pointer (some ⟨b4, 0 + (w64 (column251 + 2)).toNat * 3, none⟩)) (some 49) want (givesW_ixArrD (b := b4) (o := 0) (i := w64 (column251 + 2)) 4 3 .i64 h313 h314 Try.underlying25 tySize_23) ?_
              refine JY.take (hi := rfl) 7 #[true, true, true, true, true, true, true, true, false, false, false, false, false, false, false] (.agg #[.int .i64 ((ix ([b2.e0, b2.e1, b2.e2, b2.e3] : List Cx) (w64 (column251 + 2))).Re), .int .i64 ((ix ([b2.e0, b2.e1, b2.e2, b2.e3] : List Cx) (w64 (column251 + 2))).Im), .int .i64 ((ix ([b2.e0, b2.e1, b2.e2, b2.e3] : List Cx) (w64 (column251 + 2))).Den)]) (some 50) [true, true, true, true, true] want (gives_loadEl (f := fl_Cx) 1 0 (w64 (column251 + 2)) (elems_arr b4 25 [.int .i64 b2.e0.Re, .int .i64 b2.e0.Im, .int .i64 b2.e0.Den, .int .i64 b2.e1.Re, .int .i64 b2.e1.Im, .int .i64 b2.e1.Den, .int .i64 b2.e2.Re, .int .i64 b2.e2.Im, .int .i64 b2.e2.Den, .int .i64 b2.e3.Re, .int .i64 b2.e3.Im, .int .i64 b2.e3.Den] fl_Cx ([b2.e0, b2.e1, b2.e2, b2.e3] : List Cx) 0) h313 h314 tySize_23 (.inl ⟨tyAgg_23, rfl⟩)) ?_
              refine JY.all [8, 12] ⟨⟨_, rfl, ?_⟩, ⟨_, rfl, ?_⟩, trivial⟩
              · refine JL.call [] [] [] (cx_Mul.ok (⟨((ix ([a1.e0, a1.e1, a1.e2, a1.e3] : List Cx) (w64 (row250 + 1))).Re), ((ix ([a1.e0, a1.e1, a1.e2, a1.e3] : List Cx) (w64 (row250 + 1))).Im), ((ix ([a1.e0, a1.e1, a1.e2, a1.e3] : List Cx) (w64 (row250 + 1))).Den)⟩ : Cx) (⟨((ix ([b2.e0, b2.e1, b2.e2, b2.e3] : List Cx) (w64 (column251 + 2))).Re), ((ix ([b2.e0, b2.e1, b2.e2, b2.e3] : List Cx) (w64 (column251 + 2))).Im), ((ix ([b2.e0, b2.e1, b2.e2, b2.e3] : List Cx) (w64 (column251 + 2))).Den)⟩ : Cx) _ hc309) trivial ?_
                rintro _ _ ⟨rfl, rfl⟩
                refine JL.nil ?_
                refine JY.ran #[true, true, true, true, true, true, true, true, true, false, false, false, false, false, false] [true, true, true, true, true] ?_
                refine JY.pur (hi := rfl) 9 #[true, true, true, true, true, true, true, true, true, true, false, false, false, false, false] (.tuple #[.agg #[.int .i64 t308.1.Re, .int .i64 t308.1.Im, .int .i64 t308.1.Den], .int .i64 t308.2]) (some 42) want ?_
                refine JY.pur (hi := rfl) 10 #[true, true, true, true, true, true, true, true, true, true, true, false, false, false, false] (.agg #[.int .i64 t308.1.Re, .int .i64 t308.1.Im, .int .i64 t308.1.Den]) (some 52) want ?_
                refine JY.pur (hi := rfl) 11 #[true, true, true, true, true, true, true, true, true, true, true, true, false, false, false] (.int .i64 t308.2) (some 53) want ?_
                refine JY.all [12] ⟨⟨_, rfl, ?_⟩, trivial⟩
                refine JL.alloc [.int .i64 0, .int .i64 0, .int .i64 0] fun b317 => ?_
                refine JL.nil ?_
                refine JY.ran #[true, true, true, true, true, true, true, true, true, true, true, true, true, false, false] [true, true, true, true, true, false] ?_
                refine JY.all [13] ⟨⟨_, rfl, ?_⟩, trivial⟩
                refine JL.store 5 b317 0 23 [.int .i64 0, .int .i64 0, .int .i64 0] [.int .i64 t308.1.Re, .int .i64 t308.1.Im, .int .i64 t308.1.Den] tySize_23 ?_
                refine JL.nil ?_
                refine JY.ranD #[true, true, true, true, true, true, true, true, true, true, true, true, true, true, false] ?_
                refine JY.pur (hi := rfl) 14 #[true, true, true, true, true, true, true, true, true, true, true, true, true, true, true] (.int .i64 t308.2) (some 13) want ?_
                refine JY.done ?_
                refine JQ.then_normal ?_
                exact JQ.meet (t308.1, t308.2) b317 H1 (fun _ h => Heap.to h)
              · refine JL.alloc [.int .i64 0, .int .i64 0, .int .i64 0] fun b318 => ?_
                refine JL.nil ?_
                refine JY.ran #[true, true, true, true, true, true, true, true, false, false, false, false, true, false, false] [true, true, true, true, true, false] ?_
                refine JY.all [8] ⟨⟨_, rfl, ?_⟩, trivial⟩
                refine JL.call [] [] [] (cx_Mul.ok (⟨((ix ([a1.e0, a1.e1, a1.e2, a1.e3] : List Cx) (w64 (row250 + 1))).Re), ((ix ([a1.e0, a1.e1, a1.e2, a1.e3] : List Cx) (w64 (row250 + 1))).Im), ((ix ([a1.e0, a1.e1, a1.e2, a1.e3] : List Cx) (w64 (row250 + 1))).Den)⟩ : Cx) (⟨((ix ([b2.e0, b2.e1, b2.e2, b2.e3] : List Cx) (w64 (column251 + 2))).Re), ((ix ([b2.e0, b2.e1, b2.e2, b2.e3] : List Cx) (w64 (column251 + 2))).Im), ((ix ([b2.e0, b2.e1, b2.e2, b2.e3] : List Cx) (w64 (column251 + 2))).Den)⟩ : Cx) _ hc309) trivial ?_
                rintro _ _ ⟨rfl, rfl⟩
                refine JL.nil ?_
                refine JY.ran #[true, true, true, true, true, true, true, true, true, false, false, false, true, false, false] [true, true, true, true, true, false] ?_
                refine JY.pur (hi := rfl) 9 #[true, true, true, true, true, true, true, true, true, true, false, false, true, false, false] (.tuple #[.agg #[.int .i64 t308.1.Re, .int .i64 t308.1.Im, .int .i64 t308.1.Den], .int .i64 t308.2]) (some 42) want ?_
                refine JY.pur (hi := rfl) 10 #[true, true, true, true, true, true, true, true, true, true, true, false, true, false, false] (.agg #[.int .i64 t308.1.Re, .int .i64 t308.1.Im, .int .i64 t308.1.Den]) (some 52) want ?_
                refine JY.pur (hi := rfl) 11 #[true, true, true, true, true, true, true, true, true, true, true, true, true, false, false] (.int .i64 t308.2) (some 53) want ?_
                refine JY.all [13] ⟨⟨_, rfl, ?_⟩, trivial⟩
                refine JL.store 5 b318 0 23 [.int .i64 0, .int .i64 0, .int .i64 0] [.int .i64 t308.1.Re, .int .i64 t308.1.Im, .int .i64 t308.1.Den] tySize_23 ?_
                refine JL.nil ?_
                refine JY.ranD #[true, true, true, true, true, true, true, true, true, true, true, true, true, true, false] ?_
                refine JY.pur (hi := rfl) 14 #[true, true, true, true, true, true, true, true, true, true, true, true, true, true, true] (.int .i64 t308.2) (some 13) want ?_
                refine JY.done ?_
                refine JQ.then_normal ?_
                exact JQ.meet (t308.1, t308.2) b318 H1 (fun _ h => Heap.to h)
            · clear H1
              rintro ⟨y292, f293⟩ b290 H1
              replace H1 : jones_Mul.k11 out157 x158 x271 e272 y292 f293 = some st1 := H1
              unfold jones_Mul.k11 at H1
              refine JQ.sub [(2, .pointer (some ⟨b3, 0, none⟩)), (3, .pointer (some ⟨b4, 0, none⟩)), (4, .pointer (some ⟨b5, 0, none⟩)), (6, .pointer (some ⟨b13, 0, none⟩)), (7, .int .i64 x158), (10, .pointer (some ⟨b269, 0, none⟩)), (11, .int .i64 e272), (12, .pointer (some ⟨b290, 0, none⟩)), (13, .int .i64 f293), (24, .int .i64 x158)] ?_
              refine JQ.turn (Δ' := [At.box b3 25 [.int .i64 a1.e0.Re, .int .i64 a1.e0.Im, .int .i64 a1.e0.Den, .int .i64 a1.e1.Re, .int .i64 a1.e1.Im, .int .i64 a1.e1.Den, .int .i64 a1.e2.Re, .int .i64 a1.e2.Im, .int .i64 a1.e2.Den, .int .i64 a1.e3.Re, .int .i64 a1.e3.Im, .int .i64 a1.e3.Den], At.box b4 25 [.int .i64 b2.e0.Re, .int .i64 b2.e0.Im, .int .i64 b2.e0.Den, .int .i64 b2.e1.Re, .int .i64 b2.e1.Im, .int .i64 b2.e1.Den, .int .i64 b2.e2.Re, .int .i64 b2.e2.Im, .int .i64 b2.e2.Den, .int .i64 b2.e3.Re, .int .i64 b2.e3.Im, .int .i64 b2.e3.Den], At.box b5 25 [.int .i64 0, .int .i64 0, .int .i64 0, .int .i64 0, .int .i64 0, .int .i64 0, .int .i64 0, .int .i64 0, .int .i64 0, .int .i64 0, .int .i64 0, .int .i64 0], At.box b13 25 [.int .i64 out157.e0.Re, .int .i64 out157.e0.Im, .int .i64 out157.e0.Den, .int .i64 out157.e1.Re, .int .i64 out157.e1.Im, .int .i64 out157.e1.Den, .int .i64 out157.e2.Re, .int .i64 out157.e2.Im, .int .i64 out157.e2.Den, .int .i64 out157.e3.Re, .int .i64 out157.e3.Im, .int .i64 out157.e3.Den], At.box b269 23 [.int .i64 x271.Re, .int .i64 x271.Im, .int .i64 x271.Den], At.box b290 23 [.int .i64 y292.Re, .int .i64 y292.Im, .int .i64 y292.Den]]) (fun _ h => h.to) ?_
              refine J.seq ?_
              refine J.seq ?_
              refine J.region ?_
              refine JL.mv (.int .i64 e272) ?_
              refine JL.mv (.int .i64 f293) ?_
              refine JL.buildSl 26 ((flInt .i64).kd) (([e272, f293] : List Int) : List Int) [.int .i64 e272, .int .i64 f293] false (closes_fl rfl) fun b294 => ?_
              obtain ⟨t295, hc296, H1⟩ := bind_some H1
              refine JL.call [] [] [] (cmp_Or__api_Errno.ok ([e272, f293] : List Int) (some ⟨b294, 0, none⟩) 2 _ hc296) ⟨pre_view 6 (view_row (some ⟨b294, 0, none⟩) 2 26 ((flInt .i64).kd) ([e272, f293] : List Int) false true), trivial⟩ ?_
              rintro _ _ ⟨rfl, rfl⟩
              refine JL.as (.int .i64 t295) ?_
              refine JL.nil ?_
              refine JQ.then_normal ?_
              refine JQ.sub [(2, .pointer (some ⟨b3, 0, none⟩)), (3, .pointer (some ⟨b4, 0, none⟩)), (4, .pointer (some ⟨b5, 0, none⟩)), (6, .pointer (some ⟨b13, 0, none⟩)), (7, .int .i64 x158), (10, .pointer (some ⟨b269, 0, none⟩)), (12, .pointer (some ⟨b290, 0, none⟩)), (14, .int .i64 t295), (24, .int .i64 x158)] ?_
              refine JQ.mask [At.box b3 25 [.int .i64 a1.e0.Re, .int .i64 a1.e0.Im, .int .i64 a1.e0.Den, .int .i64 a1.e1.Re, .int .i64 a1.e1.Im, .int .i64 a1.e1.Den, .int .i64 a1.e2.Re, .int .i64 a1.e2.Im, .int .i64 a1.e2.Den, .int .i64 a1.e3.Re, .int .i64 a1.e3.Im, .int .i64 a1.e3.Den], At.box b4 25 [.int .i64 b2.e0.Re, .int .i64 b2.e0.Im, .int .i64 b2.e0.Den, .int .i64 b2.e1.Re, .int .i64 b2.e1.Im, .int .i64 b2.e1.Den, .int .i64 b2.e2.Re, .int .i64 b2.e2.Im, .int .i64 b2.e2.Den, .int .i64 b2.e3.Re, .int .i64 b2.e3.Im, .int .i64 b2.e3.Den], At.box b5 25 [.int .i64 0, .int .i64 0, .int .i64 0, .int .i64 0, .int .i64 0, .int .i64 0, .int .i64 0, .int .i64 0, .int .i64 0, .int .i64 0, .int .i64 0, .int .i64 0], At.box b13 25 [.int .i64 out157.e0.Re, .int .i64 out157.e0.Im, .int .i64 out157.e0.Den, .int .i64 out157.e1.Re, .int .i64 out157.e1.Im, .int .i64 out157.e1.Den, .int .i64 out157.e2.Re, .int .i64 out157.e2.Im, .int .i64 out157.e2.Den, .int .i64 out157.e3.Re, .int .i64 out157.e3.Im, .int .i64 out157.e3.Den], At.box b269 23 [.int .i64 x271.Re, .int .i64 x271.Im, .int .i64 x271.Den], At.box b290 23 [.int .i64 y292.Re, .int .i64 y292.Im, .int .i64 y292.Den]] [true, true, true, true, true, true, false] ?_
              refine J.seq ?_
              refine J.region ?_
              refine JL.mv (.int .i64 t295) ?_
              refine JL.pur (.bool (!decide (t295 = 0))) (some 59) ?_
              refine JL.nil ?_
              refine JQ.then_normal ?_
              refine JQ.sub [(2, .pointer (some ⟨b3, 0, none⟩)), (3, .pointer (some ⟨b4, 0, none⟩)), (4, .pointer (some ⟨b5, 0, none⟩)), (6, .pointer (some ⟨b13, 0, none⟩)), (7, .int .i64 x158), (10, .pointer (some ⟨b269, 0, none⟩)), (12, .pointer (some ⟨b290, 0, none⟩)), (14, .int .i64 t295), (24, .int .i64 x158), (59, .bool (!decide (t295 = 0)))] ?_
              rcases ite_cases H1 with ⟨h297, H1⟩ | ⟨h297, H1⟩
              · refine J.cond_true h297 ?_
                refine J.seq ?_
                refine J.region ?_
                refine JL.pur (.agg #[.int .i64 0, .int .i64 0, .int .i64 0, .int .i64 0, .int .i64 0, .int .i64 0, .int .i64 0, .int .i64 0, .int .i64 0, .int .i64 0, .int .i64 0, .int .i64 0]) (some 60) ?_
                refine JL.mv (.int .i64 t295) ?_
                refine JL.store 2 b5 0 25 [.int .i64 0, .int .i64 0, .int .i64 0, .int .i64 0, .int .i64 0, .int .i64 0, .int .i64 0, .int .i64 0, .int .i64 0, .int .i64 0, .int .i64 0, .int .i64 0] [.int .i64 0, .int .i64 0, .int .i64 0, .int .i64 0, .int .i64 0, .int .i64 0, .int .i64 0, .int .i64 0, .int .i64 0, .int .i64 0, .int .i64 0, .int .i64 0] tySize_25 ?_
                refine JL.as (.int .i64 t295) ?_
                refine JL.nil ?_
                refine JQ.then_normal ?_
                refine JQ.sub [(4, .pointer (some ⟨b5, 0, none⟩)), (5, .int .i64 t295)] ?_
                refine JQ.mask [At.box b5 25 [.int .i64 0, .int .i64 0, .int .i64 0, .int .i64 0, .int .i64 0, .int .i64 0, .int .i64 0, .int .i64 0, .int .i64 0, .int .i64 0, .int .i64 0, .int .i64 0]] [false, false, true, false, false, false] ?_
                refine J.ret ?_
                refine JQ.then_ret ?_
                refine JQ.blk_ret ?_
                refine JQ.then_ret ?_
                refine JQ.then_ret ?_
                refine JQ.blk_ret ?_
                refine JQ.met_ret ?_
                refine JQ.then_ret ?_
                rw [hr1 _ (Option.some.inj H1).symm, fin_ret] at H0
                obtain rfl := Option.some.inj H0
                exact JQ.done' (rs := [.cell 4 25, .tmp 5]) (vs := [.agg #[.int .i64 0, .int .i64 0, .int .i64 0, .int .i64 0, .int .i64 0, .int .i64 0, .int .i64 0, .int .i64 0, .int .i64 0, .int .i64 0, .int .i64 0, .int .i64 0], .int .i64 t295]) [] (.inr rfl) ⟨⟨b5, 0, _, _, by kernel_rfl, by kernel_rfl, holds_box b5 25 [.int .i64 0, .int .i64 0, .int .i64 0, .int .i64 0, .int .i64 0, .int .i64 0, .int .i64 0, .int .i64 0, .int .i64 0, .int .i64 0, .int .i64 0, .int .i64 0], .inl ⟨tyAgg_25, tySize_25, rfl⟩⟩, by kernel_rfl, trivial⟩ (fun _ h => Heap.to (Heap.pick [] (by decide) h)) ⟨rfl, rfl⟩
              · refine J.cond_false h297 ?_
                refine J.skip ?_
                refine JQ.then_normal ?_
                refine JQ.sub [(2, .pointer (some ⟨b3, 0, none⟩)), (3, .pointer (some ⟨b4, 0, none⟩)), (4, .pointer (some ⟨b5, 0, none⟩)), (6, .pointer (some ⟨b13, 0, none⟩)), (7, .int .i64 x158), (10, .pointer (some ⟨b269, 0, none⟩)), (12, .pointer (some ⟨b290, 0, none⟩)), (24, .int .i64 x158)] ?_
                refine J.seq ?_
                refine J.region ?_
                refine JL.mv (.int .i64 x158) ?_
                refine JL.val (.agg #[.int .i64 x271.Re, .int .i64 x271.Im, .int .i64 x271.Den]) (some 64) (yields_load_boxes 4 0 [.int .i64 x271.Re, .int .i64 x271.Im, .int .i64 x271.Den] (holds_box b269 23 [.int .i64 x271.Re, .int .i64 x271.Im, .int .i64 x271.Den]) tyAgg_23 tySize_23) ?_
                refine JL.val (.agg #[.int .i64 y292.Re, .int .i64 y292.Im, .int .i64 y292.Den]) (some 65) (yields_load_boxes 5 0 [.int .i64 y292.Re, .int .i64 y292.Im, .int .i64 y292.Den] (holds_box b290 23 [.int .i64 y292.Re, .int .i64 y292.Im, .int .i64 y292.Den]) tyAgg_23 tySize_23) ?_
                obtain ⟨t298, hc299, H1⟩ := bind_some H1
                refine JL.call [] [] [] (cx_Add.ok x271 y292 _ hc299) trivial ?_
                rintro _ _ ⟨rfl, rfl⟩
                refine JL.mv (.tuple #[.agg #[.int .i64 t298.1.Re, .int .i64 t298.1.Im, .int .i64 t298.1.Den], .int .i64 t298.2]) ?_
                refine JL.pur (.agg #[.int .i64 t298.1.Re, .int .i64 t298.1.Im, .int .i64 t298.1.Den]) (some 67) ?_
                refine JL.pur (.int .i64 t298.2) (some 68) ?_
                obtain ⟨⟨h300, h301⟩, H1⟩ := ite_must H1
                refine JL.val (.pointer (some ⟨b13, 0 + x158.toNat * 3, none⟩)) (some 69) (gives_ixArrD (b := b13) (o := 0) (i := x158) 4 3 .i64 h300 h301 Try.underlying25 tySize_23) ?_
                obtain ⟨arr302, earr302, H1⟩ := lt_some H1
                refine JL.storeArr b13 0 0 3 25 fl_Cx ([out157.e0, out157.e1, out157.e2, out157.e3] : List Cx) x158 [.int .i64 out157.e0.Re, .int .i64 out157.e0.Im, .int .i64 out157.e0.Den, .int .i64 out157.e1.Re, .int .i64 out157.e1.Im, .int .i64 out157.e1.Den, .int .i64 out157.e2.Re, .int .i64 out157.e2.Im, .int .i64 out157.e2.Den, .int .i64 out157.e3.Re, .int .i64 out157.e3.Im, .int .i64 out157.e3.Den] [] [] t298.1 h300 h301 tySize_23 ?_
                rw [ofL4 fl_Cx (l := ([out157.e0, out157.e1, out157.e2, out157.e3] : List Cx).set x158.toNat t298.1) (by simp), earr302]
                refine JQ.turn (Δ' := [At.box b3 25 [.int .i64 a1.e0.Re, .int .i64 a1.e0.Im, .int .i64 a1.e0.Den, .int .i64 a1.e1.Re, .int .i64 a1.e1.Im, .int .i64 a1.e1.Den, .int .i64 a1.e2.Re, .int .i64 a1.e2.Im, .int .i64 a1.e2.Den, .int .i64 a1.e3.Re, .int .i64 a1.e3.Im, .int .i64 a1.e3.Den], At.box b4 25 [.int .i64 b2.e0.Re, .int .i64 b2.e0.Im, .int .i64 b2.e0.Den, .int .i64 b2.e1.Re, .int .i64 b2.e1.Im, .int .i64 b2.e1.Den, .int .i64 b2.e2.Re, .int .i64 b2.e2.Im, .int .i64 b2.e2.Den, .int .i64 b2.e3.Re, .int .i64 b2.e3.Im, .int .i64 b2.e3.Den], At.box b5 25 [.int .i64 0, .int .i64 0, .int .i64 0, .int .i64 0, .int .i64 0, .int .i64 0, .int .i64 0, .int .i64 0, .int .i64 0, .int .i64 0, .int .i64 0, .int .i64 0], At.box b13 25 [.int .i64 arr302.e0.Re, .int .i64 arr302.e0.Im, .int .i64 arr302.e0.Den, .int .i64 arr302.e1.Re, .int .i64 arr302.e1.Im, .int .i64 arr302.e1.Den, .int .i64 arr302.e2.Re, .int .i64 arr302.e2.Im, .int .i64 arr302.e2.Den, .int .i64 arr302.e3.Re, .int .i64 arr302.e3.Im, .int .i64 arr302.e3.Den], At.box b269 23 [.int .i64 x271.Re, .int .i64 x271.Im, .int .i64 x271.Den], At.box b290 23 [.int .i64 y292.Re, .int .i64 y292.Im, .int .i64 y292.Den]]) (fun _ h => h.to) ?_
                refine JL.as (.int .i64 t298.2) ?_
                refine JL.nil ?_
                refine JQ.then_normal ?_
                refine JQ.sub [(2, .pointer (some ⟨b3, 0, none⟩)), (3, .pointer (some ⟨b4, 0, none⟩)), (4, .pointer (some ⟨b5, 0, none⟩)), (6, .pointer (some ⟨b13, 0, none⟩)), (11, .int .i64 t298.2), (24, .int .i64 x158)] ?_
                refine JQ.mask [At.box b3 25 [.int .i64 a1.e0.Re, .int .i64 a1.e0.Im, .int .i64 a1.e0.Den, .int .i64 a1.e1.Re, .int .i64 a1.e1.Im, .int .i64 a1.e1.Den, .int .i64 a1.e2.Re, .int .i64 a1.e2.Im, .int .i64 a1.e2.Den, .int .i64 a1.e3.Re, .int .i64 a1.e3.Im, .int .i64 a1.e3.Den], At.box b4 25 [.int .i64 b2.e0.Re, .int .i64 b2.e0.Im, .int .i64 b2.e0.Den, .int .i64 b2.e1.Re, .int .i64 b2.e1.Im, .int .i64 b2.e1.Den, .int .i64 b2.e2.Re, .int .i64 b2.e2.Im, .int .i64 b2.e2.Den, .int .i64 b2.e3.Re, .int .i64 b2.e3.Im, .int .i64 b2.e3.Den], At.box b5 25 [.int .i64 0, .int .i64 0, .int .i64 0, .int .i64 0, .int .i64 0, .int .i64 0, .int .i64 0, .int .i64 0, .int .i64 0, .int .i64 0, .int .i64 0, .int .i64 0], At.box b13 25 [.int .i64 arr302.e0.Re, .int .i64 arr302.e0.Im, .int .i64 arr302.e0.Den, .int .i64 arr302.e1.Re, .int .i64 arr302.e1.Im, .int .i64 arr302.e1.Den, .int .i64 arr302.e2.Re, .int .i64 arr302.e2.Im, .int .i64 arr302.e2.Den, .int .i64 arr302.e3.Re, .int .i64 arr302.e3.Im, .int .i64 arr302.e3.Den]] [true, true, true, true, false, false] ?_
                refine J.seq ?_
                refine J.region ?_
                refine JL.mv (.int .i64 t298.2) ?_
                refine JL.pur (.bool (!decide (t298.2 = 0))) (some 71) ?_
                refine JL.nil ?_
                refine JQ.then_normal ?_
                refine JQ.sub [(2, .pointer (some ⟨b3, 0, none⟩)), (3, .pointer (some ⟨b4, 0, none⟩)), (4, .pointer (some ⟨b5, 0, none⟩)), (6, .pointer (some ⟨b13, 0, none⟩)), (11, .int .i64 t298.2), (24, .int .i64 x158), (71, .bool (!decide (t298.2 = 0)))] ?_
                rcases ite_cases H1 with ⟨h303, H1⟩ | ⟨h303, H1⟩
                · refine J.cond_true h303 ?_
                  refine J.seq ?_
                  refine J.region ?_
                  refine JL.pur (.agg #[.int .i64 0, .int .i64 0, .int .i64 0, .int .i64 0, .int .i64 0, .int .i64 0, .int .i64 0, .int .i64 0, .int .i64 0, .int .i64 0, .int .i64 0, .int .i64 0]) (some 72) ?_
                  refine JL.mv (.int .i64 t298.2) ?_
                  refine JL.store 2 b5 0 25 [.int .i64 0, .int .i64 0, .int .i64 0, .int .i64 0, .int .i64 0, .int .i64 0, .int .i64 0, .int .i64 0, .int .i64 0, .int .i64 0, .int .i64 0, .int .i64 0] [.int .i64 0, .int .i64 0, .int .i64 0, .int .i64 0, .int .i64 0, .int .i64 0, .int .i64 0, .int .i64 0, .int .i64 0, .int .i64 0, .int .i64 0, .int .i64 0] tySize_25 ?_
                  refine JL.as (.int .i64 t298.2) ?_
                  refine JL.nil ?_
                  refine JQ.then_normal ?_
                  refine JQ.sub [(4, .pointer (some ⟨b5, 0, none⟩)), (5, .int .i64 t298.2)] ?_
                  refine JQ.mask [At.box b5 25 [.int .i64 0, .int .i64 0, .int .i64 0, .int .i64 0, .int .i64 0, .int .i64 0, .int .i64 0, .int .i64 0, .int .i64 0, .int .i64 0, .int .i64 0, .int .i64 0]] [false, false, true, false] ?_
                  refine J.ret ?_
                  refine JQ.blk_ret ?_
                  refine JQ.then_ret ?_
                  refine JQ.then_ret ?_
                  refine JQ.blk_ret ?_
                  refine JQ.met_ret ?_
                  refine JQ.then_ret ?_
                  rw [hr1 _ (Option.some.inj H1).symm, fin_ret] at H0
                  obtain rfl := Option.some.inj H0
                  exact JQ.done' (rs := [.cell 4 25, .tmp 5]) (vs := [.agg #[.int .i64 0, .int .i64 0, .int .i64 0, .int .i64 0, .int .i64 0, .int .i64 0, .int .i64 0, .int .i64 0, .int .i64 0, .int .i64 0, .int .i64 0, .int .i64 0], .int .i64 t298.2]) [] (.inr rfl) ⟨⟨b5, 0, _, _, by kernel_rfl, by kernel_rfl, holds_box b5 25 [.int .i64 0, .int .i64 0, .int .i64 0, .int .i64 0, .int .i64 0, .int .i64 0, .int .i64 0, .int .i64 0, .int .i64 0, .int .i64 0, .int .i64 0, .int .i64 0], .inl ⟨tyAgg_25, tySize_25, rfl⟩⟩, by kernel_rfl, trivial⟩ (fun _ h => Heap.to (Heap.pick [] (by decide) h)) ⟨rfl, rfl⟩
                · refine J.cond_false h303 ?_
                  refine J.skip ?_
                  refine JQ.blk_normal ?_
                  refine JQ.then_normal ?_
                  refine JQ.sub [(2, .pointer (some ⟨b3, 0, none⟩)), (3, .pointer (some ⟨b4, 0, none⟩)), (4, .pointer (some ⟨b5, 0, none⟩)), (6, .pointer (some ⟨b13, 0, none⟩)), (24, .int .i64 x158)] ?_
                  refine J.region ?_
                  refine JL.pur (.int .i64 (w64 (x158 + 1))) (some 74) ?_
                  refine JL.mv (.int .i64 (w64 (x158 + 1))) ?_
                  refine JL.nil ?_
                  refine JQ.then_normal ?_
                  exact JQ.again (arr302, w64 (x158 + 1)) () (Option.some.inj H1).symm (fun _ h => Heap.to h)
        · refine J.cond_false h249 ?_
          refine J.exit ?_
          refine JQ.then_exit ?_
          refine JQ.then_exit ?_
          refine JQ.blk_exit ?_
          rw [hb1 _ (Option.some.inj H1).symm, fin_brk] at H0
          exact JQ.met out157 () H0 (fun _ h => Heap.to (Heap.pick [2, 3] (by decide) h))
      · clear hit H0
        rintro out248 ⟨⟩ H0
        replace H0 : jones_Mul.k9 out248 = some r := H0
        unfold jones_Mul.k9 at H0
        refine JQ.sub [(4, .pointer (some ⟨b5, 0, none⟩)), (6, .pointer (some ⟨b13, 0, none⟩))] ?_
        refine JQ.turn (Δ' := [At.box b5 25 [.int .i64 0, .int .i64 0, .int .i64 0, .int .i64 0, .int .i64 0, .int .i64 0, .int .i64 0, .int .i64 0, .int .i64 0, .int .i64 0, .int .i64 0, .int .i64 0], At.box b13 25 [.int .i64 out248.e0.Re, .int .i64 out248.e0.Im, .int .i64 out248.e0.Den, .int .i64 out248.e1.Re, .int .i64 out248.e1.Im, .int .i64 out248.e1.Den, .int .i64 out248.e2.Re, .int .i64 out248.e2.Im, .int .i64 out248.e2.Den, .int .i64 out248.e3.Re, .int .i64 out248.e3.Im, .int .i64 out248.e3.Den]]) (fun _ h => h.to) ?_
        refine JQ.then_normal ?_
        refine J.seq ?_
        refine J.region ?_
        refine JL.val (.agg #[.int .i64 out248.e0.Re, .int .i64 out248.e0.Im, .int .i64 out248.e0.Den, .int .i64 out248.e1.Re, .int .i64 out248.e1.Im, .int .i64 out248.e1.Den, .int .i64 out248.e2.Re, .int .i64 out248.e2.Im, .int .i64 out248.e2.Den, .int .i64 out248.e3.Re, .int .i64 out248.e3.Im, .int .i64 out248.e3.Den]) (some 75) (yields_load_boxes 1 0 [.int .i64 out248.e0.Re, .int .i64 out248.e0.Im, .int .i64 out248.e0.Den, .int .i64 out248.e1.Re, .int .i64 out248.e1.Im, .int .i64 out248.e1.Den, .int .i64 out248.e2.Re, .int .i64 out248.e2.Im, .int .i64 out248.e2.Den, .int .i64 out248.e3.Re, .int .i64 out248.e3.Im, .int .i64 out248.e3.Den] (holds_box b13 25 [.int .i64 out248.e0.Re, .int .i64 out248.e0.Im, .int .i64 out248.e0.Den, .int .i64 out248.e1.Re, .int .i64 out248.e1.Im, .int .i64 out248.e1.Den, .int .i64 out248.e2.Re, .int .i64 out248.e2.Im, .int .i64 out248.e2.Den, .int .i64 out248.e3.Re, .int .i64 out248.e3.Im, .int .i64 out248.e3.Den]) tyAgg_25 tySize_25) ?_
        refine JL.store 0 b5 0 25 [.int .i64 0, .int .i64 0, .int .i64 0, .int .i64 0, .int .i64 0, .int .i64 0, .int .i64 0, .int .i64 0, .int .i64 0, .int .i64 0, .int .i64 0, .int .i64 0] [.int .i64 out248.e0.Re, .int .i64 out248.e0.Im, .int .i64 out248.e0.Den, .int .i64 out248.e1.Re, .int .i64 out248.e1.Im, .int .i64 out248.e1.Den, .int .i64 out248.e2.Re, .int .i64 out248.e2.Im, .int .i64 out248.e2.Den, .int .i64 out248.e3.Re, .int .i64 out248.e3.Im, .int .i64 out248.e3.Den] tySize_25 ?_
        refine JL.as (.int .i64 0) ?_
        refine JL.nil ?_
        refine JQ.then_normal ?_
        refine JQ.sub [(4, .pointer (some ⟨b5, 0, none⟩)), (5, .int .i64 0)] ?_
        refine JQ.mask [At.box b5 25 [.int .i64 out248.e0.Re, .int .i64 out248.e0.Im, .int .i64 out248.e0.Den, .int .i64 out248.e1.Re, .int .i64 out248.e1.Im, .int .i64 out248.e1.Den, .int .i64 out248.e2.Re, .int .i64 out248.e2.Im, .int .i64 out248.e2.Den, .int .i64 out248.e3.Re, .int .i64 out248.e3.Im, .int .i64 out248.e3.Den]] [true, false] ?_
        refine J.ret ?_
        obtain rfl := Option.some.inj H0
        exact JQ.done' (rs := [.cell 4 25, .tmp 5]) (vs := [.agg #[.int .i64 out248.e0.Re, .int .i64 out248.e0.Im, .int .i64 out248.e0.Den, .int .i64 out248.e1.Re, .int .i64 out248.e1.Im, .int .i64 out248.e1.Den, .int .i64 out248.e2.Re, .int .i64 out248.e2.Im, .int .i64 out248.e2.Den, .int .i64 out248.e3.Re, .int .i64 out248.e3.Im, .int .i64 out248.e3.Den], .int .i64 0]) [] (.inr rfl) ⟨⟨b5, 0, _, _, by kernel_rfl, by kernel_rfl, holds_box b5 25 [.int .i64 out248.e0.Re, .int .i64 out248.e0.Im, .int .i64 out248.e0.Den, .int .i64 out248.e1.Re, .int .i64 out248.e1.Im, .int .i64 out248.e1.Den, .int .i64 out248.e2.Re, .int .i64 out248.e2.Im, .int .i64 out248.e2.Den, .int .i64 out248.e3.Re, .int .i64 out248.e3.Im, .int .i64 out248.e3.Den], .inl ⟨tyAgg_25, tySize_25, rfl⟩⟩, by kernel_rfl, trivial⟩ (fun _ h => Heap.to (Heap.pick [] (by decide) h)) ⟨rfl, rfl⟩

theorem ref25_Gcd.ok (a1 : Int) (b2 : Int) (r : Int) (H0 : ref25_Gcd.f a1 b2 = some r) :
    Does Try.prog 69 [.int .i64 a1, .int .i64 b2].toArray [] [] false (fun v Δ => v = .int .i64 r ∧ Δ = []) := by
  refine Does.body (vs := [.int .i64 a1, .int .i64 b2]) Try.func69 rfl trivial trivial fun w S => ?_
  unfold ref25_Gcd.f at H0
  refine J.seq ?_
  refine J.region ?_
  refine JL.as (.int .i64 0) ?_
  refine JL.nil ?_
  refine JQ.then_normal ?_
  refine JQ.sub [(0, .int .i64 a1), (1, .int .i64 b2)] ?_
  refine J.seq ?_
  refine J.region ?_
  refine JL.mv (.int .i64 a1) ?_
  refine JL.mv (.int .i64 a1) ?_
  refine JL.pur (.int .i64 (w64 (0 - a1))) (some 7) ?_
  refine JL.pur (.int .i64 (gmax a1 (w64 (0 - a1)))) (some 8) ?_
  refine JL.mv (.int .i64 b2) ?_
  refine JL.mv (.int .i64 b2) ?_
  refine JL.pur (.int .i64 (w64 (0 - b2))) (some 11) ?_
  refine JL.pur (.int .i64 (gmax b2 (w64 (0 - b2)))) (some 12) ?_
  obtain ⟨a3, ea3, H0⟩ := lt_some H0
  refine JL.as' (k := .i64) a3 ea3 ?_
  obtain ⟨b4, eb4, H0⟩ := lt_some H0
  refine JL.as' (k := .i64) b4 eb4 ?_
  refine JL.nil ?_
  refine JQ.then_normal ?_
  refine JQ.sub [(0, .int .i64 a3), (1, .int .i64 b4)] ?_
  refine J.seq ?_
  obtain ⟨o1, hit, H0⟩ := bind_some H0
  refine J.loop (σ := (Int × Int)) (τ := Int) (G := Unit) (G' := Unit) _ o1 (fun s g => [(0, .int .i64 s.1), (1, .int .i64 s.2)]) (fun s g => []) (fun t => ref25_Gcd.k2 t = some r) (fun t g => [(0, .int .i64 t)]) (fun t g => []) (a3, b4) () hit (fun _ h => Heap.to h) ?_ ?_
  · clear hit
    rintro ⟨a13, b14⟩ ⟨⟩ st1 H1 hb1 hr1
    replace H1 : ref25_Gcd.s1 a13 b14 = some st1 := H1
    unfold ref25_Gcd.s1 at H1
    refine JQ.sub [(0, .int .i64 a13), (1, .int .i64 b14)] ?_
    refine JQ.turn (Δ' := []) (fun _ h => h.to) ?_
    refine J.seq ?_
    refine J.seq ?_
    refine J.region ?_
    refine JL.mv (.int .i64 b14) ?_
    refine JL.pur (.bool (!decide (b14 = 0))) (some 14) ?_
    refine JL.nil ?_
    refine JQ.then_normal ?_
    refine JQ.sub [(0, .int .i64 a13), (1, .int .i64 b14), (14, .bool (!decide (b14 = 0)))] ?_
    rcases ite_cases H1 with ⟨h19, H1⟩ | ⟨h19, H1⟩
    · refine J.cond_true h19 ?_
      refine J.skip ?_
      refine JQ.then_normal ?_
      refine JQ.sub [(0, .int .i64 a13), (1, .int .i64 b14)] ?_
      refine J.block ?_
      refine J.draw ?_
      refine QL.mv (.int .i64 b14) ?_
      refine QL.mv (.int .i64 a13) ?_
      refine QL.mv (.int .i64 b14) ?_
      obtain ⟨h20, H1⟩ := ite_must H1
      refine QL.val (.int .i64 (Int.tmod a13 b14)) (some 18) (gives_rem .i64 a13 b14 h20) ?_
      refine QL.as (.int .i64 b14) ?_
      obtain ⟨b21, eb21, H1⟩ := lt_some H1
      refine QL.as' (k := .i64) b21 eb21 ?_
      refine QL.nil ?_
      refine JA.nil ?_
      refine JQ.blk_normal ?_
      refine JQ.then_normal ?_
      exact JQ.again (b14, b21) () (Option.some.inj H1).symm (fun _ h => Heap.to h)
    · refine J.cond_false h19 ?_
      refine J.exit ?_
      refine JQ.then_exit ?_
      refine JQ.then_exit ?_
      refine JQ.blk_exit ?_
      rw [hb1 _ (Option.some.inj H1).symm, fin_brk] at H0
      exact JQ.met a13 () H0 (fun _ h => Heap.to h)
  · clear hit H0
    rintro a18 ⟨⟩ H0
    replace H0 : ref25_Gcd.k2 a18 = some r := H0
    unfold ref25_Gcd.k2 at H0
    refine JQ.sub [(0, .int .i64 a18)] ?_
    refine JQ.turn (Δ' := []) (fun _ h => h.to) ?_
    refine JQ.then_normal ?_
    refine J.seq ?_
    refine J.region ?_
    refine JL.mv (.int .i64 a18) ?_
    refine JL.as (.int .i64 a18) ?_
    refine JL.nil ?_
    refine JQ.then_normal ?_
    refine JQ.sub [(4, .int .i64 a18)] ?_
    refine J.ret ?_
    obtain rfl := Option.some.inj H0
    exact JQ.done' (rs := [.tmp 4]) (vs := [.int .i64 a18]) [] (.inr rfl) ⟨by kernel_rfl, trivial⟩ (fun _ h => Heap.to h) ⟨rfl, rfl⟩

theorem ref25_Check.ok (a1 : Cx) (r : Int) (H0 : ref25_Check.f a1 = some r) :
    Does Try.prog 53 [.agg #[.int .i64 a1.Re, .int .i64 a1.Im, .int .i64 a1.Den]].toArray [] [] false (fun v Δ => v = .int .i64 r ∧ Δ = []) := by
  refine Does.body (vs := [.agg #[.int .i64 a1.Re, .int .i64 a1.Im, .int .i64 a1.Den]]) Try.func53 rfl trivial trivial fun w S => ?_
  unfold ref25_Check.f at H0
  refine J.seq ?_
  refine J.region ?_
  refine JL.box [.int .i64 a1.Re, .int .i64 a1.Im, .int .i64 a1.Den] fun b2 => ?_
  refine JL.as (.int .i64 0) ?_
  refine JL.nil ?_
  refine JQ.then_normal ?_
  refine JQ.sub [(1, .pointer (some ⟨b2, 0, none⟩))] ?_
  refine J.seq ?_
  refine J.join (T := Bool) (G := Unit) (fun t => ref25_Check.k1 t = some r) (fun t g => [(41, .bool t)]) (fun t g => []) ?_ ?_
  · refine J.draw ?_
    refine QL.pur (.pointer (some ⟨b2, 2, none⟩)) (some 3) ?_
    refine QL.val (.int .i64 a1.Den) (some 4) (yields_load_box 0 2 (holds_box b2 23 [.int .i64 a1.Re, .int .i64 a1.Im, .int .i64 a1.Den]) tyAgg_2) ?_
    refine QL.pur (.bool (decide (a1.Den < 1))) (some 5) ?_
    refine QL.mv (.bool (decide (a1.Den < 1))) ?_
    rcases ite_cases H0 with ⟨h15, H0⟩ | ⟨h15, H0⟩
    · refine QL.off 3 6 false (some 7) h15 ?_
      refine QL.off 3 6 false (some 8) h15 ?_
      refine QL.off 3 6 false (some 9) h15 ?_
      refine QL.val (.bool true) (some 10) (gives_pickT h15) ?_
      refine QL.mv (.bool true) ?_
      refine QL.off 8 11 false (some 12) rfl ?_
      refine QL.off 8 11 false (some 13) rfl ?_
      refine QL.off 8 11 false (some 14) rfl ?_
      refine QL.val (.bool true) (some 15) (gives_pickT rfl) ?_
      refine QL.mv (.bool true) ?_
      refine QL.off 13 16 false (some 17) rfl ?_
      refine QL.off 13 16 false (some 18) rfl ?_
      refine QL.off 13 16 false (some 19) rfl ?_
      refine QL.val (.bool true) (some 20) (gives_pickT rfl) ?_
      refine QL.mv (.bool true) ?_
      refine QL.off 18 21 false (some 22) rfl ?_
      refine QL.off 18 21 false (some 23) rfl ?_
      refine QL.off 18 21 false (some 24) rfl ?_
      refine QL.val (.bool true) (some 25) (gives_pickT rfl) ?_
      refine QL.mv (.bool true) ?_
      refine QL.off 23 26 false (some 27) rfl ?_
      refine QL.off 23 26 false (some 28) rfl ?_
      refine QL.off 23 26 false (some 29) rfl ?_
      refine QL.val (.bool true) (some 30) (gives_pickT rfl) ?_
      refine QL.mv (.bool true) ?_
      refine QL.off 28 31 false (some 32) rfl ?_
      refine QL.off 28 31 false (some 33) rfl ?_
      refine QL.off 28 31 false (some 34) rfl ?_
      refine QL.off 28 31 false (some 35) rfl ?_
      refine QL.off 28 31 false (some 36) rfl ?_
      refine QL.off 28 31 false (some 37) rfl ?_
      refine QL.off 28 31 false (some 38) rfl ?_
      refine QL.off 28 31 false (some 39) rfl ?_
      refine QL.off 28 31 false (some 40) rfl ?_
      refine QL.val (.bool true) (some 41) (gives_pickT rfl) ?_
      refine QL.nil ?_
      refine JA.nil ?_
      refine JQ.then_normal ?_
      exact JQ.meet true () H0 (fun _ h => Heap.to (Heap.pick [] (by decide) h))
    · refine QL.on 3 6 h15 ?_
      refine QL.pur (.pointer (some ⟨b2, 2, none⟩)) (some 7) ?_
      refine QL.on 3 6 h15 ?_
      refine QL.val (.int .i64 a1.Den) (some 8) (yields_load_box 0 2 (holds_box b2 23 [.int .i64 a1.Re, .int .i64 a1.Im, .int .i64 a1.Den]) tyAgg_2) ?_
      refine QL.on 3 6 h15 ?_
      refine QL.pur (.bool (decide (1000000000 < a1.Den))) (some 9) ?_
      refine QL.val (.bool (decide (1000000000 < a1.Den))) (some 10) (gives_pickF h15) ?_
      refine QL.mv (.bool (decide (1000000000 < a1.Den))) ?_
      rcases ite_cases H0 with ⟨h16, H0⟩ | ⟨h16, H0⟩
      · refine QL.off 8 11 false (some 12) h16 ?_
        refine QL.off 8 11 false (some 13) h16 ?_
        refine QL.off 8 11 false (some 14) h16 ?_
        refine QL.val (.bool true) (some 15) (gives_pickT h16) ?_
        refine QL.mv (.bool true) ?_
        refine QL.off 13 16 false (some 17) rfl ?_
        refine QL.off 13 16 false (some 18) rfl ?_
        refine QL.off 13 16 false (some 19) rfl ?_
        refine QL.val (.bool true) (some 20) (gives_pickT rfl) ?_
        refine QL.mv (.bool true) ?_
        refine QL.off 18 21 false (some 22) rfl ?_
        refine QL.off 18 21 false (some 23) rfl ?_
        refine QL.off 18 21 false (some 24) rfl ?_
        refine QL.val (.bool true) (some 25) (gives_pickT rfl) ?_
        refine QL.mv (.bool true) ?_
        refine QL.off 23 26 false (some 27) rfl ?_
        refine QL.off 23 26 false (some 28) rfl ?_
        refine QL.off 23 26 false (some 29) rfl ?_
        refine QL.val (.bool true) (some 30) (gives_pickT rfl) ?_
        refine QL.mv (.bool true) ?_
        refine QL.off 28 31 false (some 32) rfl ?_
        refine QL.off 28 31 false (some 33) rfl ?_
        refine QL.off 28 31 false (some 34) rfl ?_
        refine QL.off 28 31 false (some 35) rfl ?_
        refine QL.off 28 31 false (some 36) rfl ?_
        refine QL.off 28 31 false (some 37) rfl ?_
        refine QL.off 28 31 false (some 38) rfl ?_
        refine QL.off 28 31 false (some 39) rfl ?_
        refine QL.off 28 31 false (some 40) rfl ?_
        refine QL.val (.bool true) (some 41) (gives_pickT rfl) ?_
        refine QL.nil ?_
        refine JA.nil ?_
        refine JQ.then_normal ?_
        exact JQ.meet true () H0 (fun _ h => Heap.to (Heap.pick [] (by decide) h))
      · refine QL.on 8 11 h16 ?_
        refine QL.pur (.pointer (some ⟨b2, 0, none⟩)) (some 12) ?_
        refine QL.on 8 11 h16 ?_
        refine QL.val (.int .i64 a1.Re) (some 13) (yields_load_box 0 0 (holds_box b2 23 [.int .i64 a1.Re, .int .i64 a1.Im, .int .i64 a1.Den]) tyAgg_2) ?_
        refine QL.on 8 11 h16 ?_
        refine QL.pur (.bool (decide (a1.Re < (-1000000000)))) (some 14) ?_
        refine QL.val (.bool (decide (a1.Re < (-1000000000)))) (some 15) (gives_pickF h16) ?_
        refine QL.mv (.bool (decide (a1.Re < (-1000000000)))) ?_
        rcases ite_cases H0 with ⟨h17, H0⟩ | ⟨h17, H0⟩
        · refine QL.off 13 16 false (some 17) h17 ?_
          refine QL.off 13 16 false (some 18) h17 ?_
          refine QL.off 13 16 false (some 19) h17 ?_
          refine QL.val (.bool true) (some 20) (gives_pickT h17) ?_
          refine QL.mv (.bool true) ?_
          refine QL.off 18 21 false (some 22) rfl ?_
          refine QL.off 18 21 false (some 23) rfl ?_
          refine QL.off 18 21 false (some 24) rfl ?_
          refine QL.val (.bool true) (some 25) (gives_pickT rfl) ?_
          refine QL.mv (.bool true) ?_
          refine QL.off 23 26 false (some 27) rfl ?_
          refine QL.off 23 26 false (some 28) rfl ?_
          refine QL.off 23 26 false (some 29) rfl ?_
          refine QL.val (.bool true) (some 30) (gives_pickT rfl) ?_
          refine QL.mv (.bool true) ?_
          refine QL.off 28 31 false (some 32) rfl ?_
          refine QL.off 28 31 false (some 33) rfl ?_
          refine QL.off 28 31 false (some 34) rfl ?_
          refine QL.off 28 31 false (some 35) rfl ?_
          refine QL.off 28 31 false (some 36) rfl ?_
          refine QL.off 28 31 false (some 37) rfl ?_
          refine QL.off 28 31 false (some 38) rfl ?_
          refine QL.off 28 31 false (some 39) rfl ?_
          refine QL.off 28 31 false (some 40) rfl ?_
          refine QL.val (.bool true) (some 41) (gives_pickT rfl) ?_
          refine QL.nil ?_
          refine JA.nil ?_
          refine JQ.then_normal ?_
          exact JQ.meet true () H0 (fun _ h => Heap.to (Heap.pick [] (by decide) h))
        · refine QL.on 13 16 h17 ?_
          refine QL.pur (.pointer (some ⟨b2, 0, none⟩)) (some 17) ?_
          refine QL.on 13 16 h17 ?_
          refine QL.val (.int .i64 a1.Re) (some 18) (yields_load_box 0 0 (holds_box b2 23 [.int .i64 a1.Re, .int .i64 a1.Im, .int .i64 a1.Den]) tyAgg_2) ?_
          refine QL.on 13 16 h17 ?_
          refine QL.pur (.bool (decide (1000000000 < a1.Re))) (some 19) ?_
          refine QL.val (.bool (decide (1000000000 < a1.Re))) (some 20) (gives_pickF h17) ?_
          refine QL.mv (.bool (decide (1000000000 < a1.Re))) ?_
          rcases ite_cases H0 with ⟨h18, H0⟩ | ⟨h18, H0⟩
          · refine QL.off 18 21 false (some 22) h18 ?_
            refine QL.off 18 21 false (some 23) h18 ?_
            refine QL.off 18 21 false (some 24) h18 ?_
            refine QL.val (.bool true) (some 25) (gives_pickT h18) ?_
            refine QL.mv (.bool true) ?_
            refine QL.off 23 26 false (some 27) rfl ?_
            refine QL.off 23 26 false (some 28) rfl ?_
            refine QL.off 23 26 false (some 29) rfl ?_
            refine QL.val (.bool true) (some 30) (gives_pickT rfl) ?_
            refine QL.mv (.bool true) ?_
            refine QL.off 28 31 false (some 32) rfl ?_
            refine QL.off 28 31 false (some 33) rfl ?_
            refine QL.off 28 31 false (some 34) rfl ?_
            refine QL.off 28 31 false (some 35) rfl ?_
            refine QL.off 28 31 false (some 36) rfl ?_
            refine QL.off 28 31 false (some 37) rfl ?_
            refine QL.off 28 31 false (some 38) rfl ?_
            refine QL.off 28 31 false (some 39) rfl ?_
            refine QL.off 28 31 false (some 40) rfl ?_
            refine QL.val (.bool true) (some 41) (gives_pickT rfl) ?_
            refine QL.nil ?_
            refine JA.nil ?_
            refine JQ.then_normal ?_
            exact JQ.meet true () H0 (fun _ h => Heap.to (Heap.pick [] (by decide) h))
          · refine QL.on 18 21 h18 ?_
            refine QL.pur (.pointer (some ⟨b2, 1, none⟩)) (some 22) ?_
            refine QL.on 18 21 h18 ?_
            refine QL.val (.int .i64 a1.Im) (some 23) (yields_load_box 0 1 (holds_box b2 23 [.int .i64 a1.Re, .int .i64 a1.Im, .int .i64 a1.Den]) tyAgg_2) ?_
            refine QL.on 18 21 h18 ?_
            refine QL.pur (.bool (decide (a1.Im < (-1000000000)))) (some 24) ?_
            refine QL.val (.bool (decide (a1.Im < (-1000000000)))) (some 25) (gives_pickF h18) ?_
            refine QL.mv (.bool (decide (a1.Im < (-1000000000)))) ?_
            rcases ite_cases H0 with ⟨h19, H0⟩ | ⟨h19, H0⟩
            · refine QL.off 23 26 false (some 27) h19 ?_
              refine QL.off 23 26 false (some 28) h19 ?_
              refine QL.off 23 26 false (some 29) h19 ?_
              refine QL.val (.bool true) (some 30) (gives_pickT h19) ?_
              refine QL.mv (.bool true) ?_
              refine QL.off 28 31 false (some 32) rfl ?_
              refine QL.off 28 31 false (some 33) rfl ?_
              refine QL.off 28 31 false (some 34) rfl ?_
              refine QL.off 28 31 false (some 35) rfl ?_
              refine QL.off 28 31 false (some 36) rfl ?_
              refine QL.off 28 31 false (some 37) rfl ?_
              refine QL.off 28 31 false (some 38) rfl ?_
              refine QL.off 28 31 false (some 39) rfl ?_
              refine QL.off 28 31 false (some 40) rfl ?_
              refine QL.val (.bool true) (some 41) (gives_pickT rfl) ?_
              refine QL.nil ?_
              refine JA.nil ?_
              refine JQ.then_normal ?_
              exact JQ.meet true () H0 (fun _ h => Heap.to (Heap.pick [] (by decide) h))
            · refine QL.on 23 26 h19 ?_
              refine QL.pur (.pointer (some ⟨b2, 1, none⟩)) (some 27) ?_
              refine QL.on 23 26 h19 ?_
              refine QL.val (.int .i64 a1.Im) (some 28) (yields_load_box 0 1 (holds_box b2 23 [.int .i64 a1.Re, .int .i64 a1.Im, .int .i64 a1.Den]) tyAgg_2) ?_
              refine QL.on 23 26 h19 ?_
              refine QL.pur (.bool (decide (1000000000 < a1.Im))) (some 29) ?_
              refine QL.val (.bool (decide (1000000000 < a1.Im))) (some 30) (gives_pickF h19) ?_
              refine QL.mv (.bool (decide (1000000000 < a1.Im))) ?_
              rcases ite_cases H0 with ⟨h20, H0⟩ | ⟨h20, H0⟩
              · refine QL.off 28 31 false (some 32) h20 ?_
                refine QL.off 28 31 false (some 33) h20 ?_
                refine QL.off 28 31 false (some 34) h20 ?_
                refine QL.off 28 31 false (some 35) h20 ?_
                refine QL.off 28 31 false (some 36) h20 ?_
                refine QL.off 28 31 false (some 37) h20 ?_
                refine QL.off 28 31 false (some 38) h20 ?_
                refine QL.off 28 31 false (some 39) h20 ?_
                refine QL.off 28 31 false (some 40) h20 ?_
                refine QL.val (.bool true) (some 41) (gives_pickT h20) ?_
                refine QL.nil ?_
                refine JA.nil ?_
                refine JQ.then_normal ?_
                exact JQ.meet true () H0 (fun _ h => Heap.to (Heap.pick [] (by decide) h))
              · refine QL.on 28 31 h20 ?_
                refine QL.pur (.pointer (some ⟨b2, 0, none⟩)) (some 32) ?_
                refine QL.on 28 31 h20 ?_
                refine QL.val (.int .i64 a1.Re) (some 33) (yields_load_box 0 0 (holds_box b2 23 [.int .i64 a1.Re, .int .i64 a1.Im, .int .i64 a1.Den]) tyAgg_2) ?_
                refine QL.on 28 31 h20 ?_
                refine QL.pur (.pointer (some ⟨b2, 1, none⟩)) (some 34) ?_
                refine QL.on 28 31 h20 ?_
                refine QL.val (.int .i64 a1.Im) (some 35) (yields_load_box 0 1 (holds_box b2 23 [.int .i64 a1.Re, .int .i64 a1.Im, .int .i64 a1.Den]) tyAgg_2) ?_
                refine QL.on 28 31 h20 ?_
                obtain ⟨t21, hc22, H0⟩ := bind_some H0
                refine QL.call [] [] (ref25_Gcd.ok a1.Re a1.Im _ hc22) trivial ?_
                refine QL.on 28 31 h20 ?_
                refine QL.pur (.pointer (some ⟨b2, 2, none⟩)) (some 37) ?_
                refine QL.on 28 31 h20 ?_
                refine QL.val (.int .i64 a1.Den) (some 38) (yields_load_box 0 2 (holds_box b2 23 [.int .i64 a1.Re, .int .i64 a1.Im, .int .i64 a1.Den]) tyAgg_2) ?_
                refine QL.on 28 31 h20 ?_
                obtain ⟨t23, hc24, H0⟩ := bind_some H0
                refine QL.call [] [] (ref25_Gcd.ok t21 a1.Den _ hc24) trivial ?_
                refine QL.on 28 31 h20 ?_
                refine QL.pur (.bool (!decide (t23 = 1))) (some 40) ?_
                refine QL.val (.bool (!decide (t23 = 1))) (some 41) (gives_pickF h20) ?_
                refine QL.nil ?_
                refine JA.nil ?_
                refine JQ.then_normal ?_
                exact JQ.meet (!decide (t23 = 1)) () H0 (fun _ h => Heap.to (Heap.pick [] (by decide) h))
  · clear H0
    rintro x13 ⟨⟩ H0
    replace H0 : ref25_Check.k1 x13 = some r := H0
    unfold ref25_Check.k1 at H0
    refine JQ.sub [(41, .bool x13)] ?_
    refine JQ.turn (Δ' := []) (fun _ h => h.to) ?_
    rcases ite_cases H0 with ⟨h14, H0⟩ | ⟨h14, H0⟩
    · refine J.cond_true h14 ?_
      refine J.seq ?_
      refine J.region ?_
      refine JL.as (.int .i64 8) ?_
      refine JL.nil ?_
      refine JQ.then_normal ?_
      refine JQ.sub [(2, .int .i64 8)] ?_
      refine J.ret ?_
      refine JQ.then_ret ?_
      obtain rfl := Option.some.inj H0
      exact JQ.done' (rs := [.tmp 2]) (vs := [.int .i64 8]) [] (.inr rfl) ⟨by kernel_rfl, trivial⟩ (fun _ h => Heap.to h) ⟨rfl, rfl⟩
    · refine J.cond_false h14 ?_
      refine J.skip ?_
      refine JQ.then_normal ?_
      refine JQ.sub [] ?_
      refine J.seq ?_
      refine J.region ?_
      refine JL.as (.int .i64 0) ?_
      refine JL.nil ?_
      refine JQ.then_normal ?_
      refine J.ret ?_
      obtain rfl := Option.some.inj H0
      exact JQ.done' (rs := [.tmp 2]) (vs := [.int .i64 0]) [] (.inr rfl) ⟨by kernel_rfl, trivial⟩ (fun _ h => Heap.to h) ⟨rfl, rfl⟩

theorem ref33_Valid.ok (a1 : (A4 Cx)) (r : Bool) (H0 : ref33_Valid.f a1 = some r) :
    Does Try.prog 24 [.agg #[.int .i64 a1.e0.Re, .int .i64 a1.e0.Im, .int .i64 a1.e0.Den, .int .i64 a1.e1.Re, .int .i64 a1.e1.Im, .int .i64 a1.e1.Den, .int .i64 a1.e2.Re, .int .i64 a1.e2.Im, .int .i64 a1.e2.Den, .int .i64 a1.e3.Re, .int .i64 a1.e3.Im, .int .i64 a1.e3.Den]].toArray [] [] false (fun v Δ => v = .bool r ∧ Δ = []) := by
  refine Does.body (vs := [.agg #[.int .i64 a1.e0.Re, .int .i64 a1.e0.Im, .int .i64 a1.e0.Den, .int .i64 a1.e1.Re, .int .i64 a1.e1.Im, .int .i64 a1.e1.Den, .int .i64 a1.e2.Re, .int .i64 a1.e2.Im, .int .i64 a1.e2.Den, .int .i64 a1.e3.Re, .int .i64 a1.e3.Im, .int .i64 a1.e3.Den]]) Try.func24 rfl trivial trivial fun w S => ?_
  unfold ref33_Valid.f at H0
  refine J.seq ?_
  refine J.region ?_
  refine JL.box [.int .i64 a1.e0.Re, .int .i64 a1.e0.Im, .int .i64 a1.e0.Den, .int .i64 a1.e1.Re, .int .i64 a1.e1.Im, .int .i64 a1.e1.Den, .int .i64 a1.e2.Re, .int .i64 a1.e2.Im, .int .i64 a1.e2.Den, .int .i64 a1.e3.Re, .int .i64 a1.e3.Im, .int .i64 a1.e3.Den] fun b2 => ?_
  refine JL.as (.bool false) ?_
  refine JL.nil ?_
  refine JQ.then_normal ?_
  refine JQ.sub [(1, .pointer (some ⟨b2, 0, none⟩))] ?_
  refine J.seq ?_
  refine J.seq ?_
  refine J.region ?_
  refine JL.as (.int .i64 0) ?_
  refine JL.nil ?_
  refine JQ.then_normal ?_
  obtain ⟨o1, hit, H0⟩ := bind_some H0
  refine J.loop (σ := Int) (τ := Unit) (G := Unit) (G' := Unit) _ o1 (fun s g => [(1, .pointer (some ⟨b2, 0, none⟩)), (3, .int .i64 s)]) (fun s g => [At.box b2 25 [.int .i64 a1.e0.Re, .int .i64 a1.e0.Im, .int .i64 a1.e0.Den, .int .i64 a1.e1.Re, .int .i64 a1.e1.Im, .int .i64 a1.e1.Den, .int .i64 a1.e2.Re, .int .i64 a1.e2.Im, .int .i64 a1.e2.Den, .int .i64 a1.e3.Re, .int .i64 a1.e3.Im, .int .i64 a1.e3.Den]]) (fun t => ref33_Valid.k2 = some r) (fun t g => []) (fun t g => []) 0 () hit (fun _ h => Heap.to h) ?_ ?_
  · clear hit
    rintro k14 ⟨⟩ st1 H1 hb1 hr1
    replace H1 : ref33_Valid.s1 a1 k14 = some st1 := H1
    unfold ref33_Valid.s1 at H1
    refine JQ.sub [(1, .pointer (some ⟨b2, 0, none⟩)), (3, .int .i64 k14)] ?_
    refine JQ.turn (Δ' := [At.box b2 25 [.int .i64 a1.e0.Re, .int .i64 a1.e0.Im, .int .i64 a1.e0.Den, .int .i64 a1.e1.Re, .int .i64 a1.e1.Im, .int .i64 a1.e1.Den, .int .i64 a1.e2.Re, .int .i64 a1.e2.Im, .int .i64 a1.e2.Den, .int .i64 a1.e3.Re, .int .i64 a1.e3.Im, .int .i64 a1.e3.Den]]) (fun _ h => h.to) ?_
    refine J.seq ?_
    refine J.seq ?_
    refine J.region ?_
    refine JL.mv (.int .i64 k14) ?_
    refine JL.pur (.bool (decide (k14 < 4))) (some 5) ?_
    refine JL.nil ?_
    refine JQ.then_normal ?_
    refine JQ.sub [(1, .pointer (some ⟨b2, 0, none⟩)), (3, .int .i64 k14), (5, .bool (decide (k14 < 4)))] ?_
    rcases ite_cases H1 with ⟨h21, H1⟩ | ⟨h21, H1⟩
    · refine J.cond_true h21 ?_
      refine J.skip ?_
      refine JQ.then_normal ?_
      refine JQ.sub [(1, .pointer (some ⟨b2, 0, none⟩)), (3, .int .i64 k14)] ?_
      refine J.seq ?_
      refine J.block ?_
      refine J.seq ?_
      refine J.region ?_
      refine JL.mv (.int .i64 k14) ?_
      obtain ⟨⟨h22, h23⟩, H1⟩ := ite_must H1
      refine JL.val (.pointer (some ⟨b2, 0 + k14.toNat * 3, none⟩)) (some 9) (gives_ixArrD (b := b2) (o := 0) (i := k14) 4 3 .i64 h22 h23 Try.underlying25 tySize_23) ?_
      refine JL.val (.agg #[.int .i64 ((ix ([a1.e0, a1.e1, a1.e2, a1.e3] : List Cx) k14).Re), .int .i64 ((ix ([a1.e0, a1.e1, a1.e2, a1.e3] : List Cx) k14).Im), .int .i64 ((ix ([a1.e0, a1.e1, a1.e2, a1.e3] : List Cx) k14).Den)]) (some 10) (gives_loadEl (f := fl_Cx) 0 0 k14 (elems_arr b2 25 [.int .i64 a1.e0.Re, .int .i64 a1.e0.Im, .int .i64 a1.e0.Den, .int .i64 a1.e1.Re, .int .i64 a1.e1.Im, .int .i64 a1.e1.Den, .int .i64 a1.e2.Re, .int .i64 a1.e2.Im, .int .i64 a1.e2.Den, .int .i64 a1.e3.Re, .int .i64 a1.e3.Im, .int .i64 a1.e3.Den] fl_Cx ([a1.e0, a1.e1, a1.e2, a1.e3] : List Cx) 0) h22 h23 tySize_23 (.inl ⟨tyAgg_23, rfl⟩)) ?_
      obtain ⟨t24, hc25, H1⟩ := bind_some H1
      refine JL.call [] [] [] (ref25_Check.ok (⟨((ix ([a1.e0, a1.e1, a1.e2, a1.e3] : List Cx) k14).Re), ((ix ([a1.e0, a1.e1, a1.e2, a1.e3] : List Cx) k14).Im), ((ix ([a1.e0, a1.e1, a1.e2, a1.e3] : List Cx) k14).Den)⟩ : Cx) _ hc25) trivial ?_
      rintro _ _ ⟨rfl, rfl⟩
      refine JL.pur (.bool (!decide (t24 = 0))) (some 12) ?_
      refine JL.nil ?_
      refine JQ.then_normal ?_
      refine JQ.sub [(1, .pointer (some ⟨b2, 0, none⟩)), (3, .int .i64 k14), (12, .bool (!decide (t24 = 0)))] ?_
      rcases ite_cases H1 with ⟨h26, H1⟩ | ⟨h26, H1⟩
      · refine J.cond_true h26 ?_
        refine J.seq ?_
        refine J.region ?_
        refine JL.as (.bool false) ?_
        refine JL.nil ?_
        refine JQ.then_normal ?_
        refine JQ.sub [(2, .bool false)] ?_
        refine JQ.mask [] [false] ?_
        refine J.ret ?_
        refine JQ.blk_ret ?_
        refine JQ.then_ret ?_
        refine JQ.then_ret ?_
        refine JQ.blk_ret ?_
        refine JQ.met_ret ?_
        refine JQ.then_ret ?_
        rw [hr1 _ (Option.some.inj H1).symm, fin_ret] at H0
        obtain rfl := Option.some.inj H0
        exact JQ.done' (rs := [.tmp 2]) (vs := [.bool false]) [] (.inr rfl) ⟨by kernel_rfl, trivial⟩ (fun _ h => Heap.to h) ⟨rfl, rfl⟩
      · refine J.cond_false h26 ?_
        refine J.skip ?_
        refine JQ.blk_normal ?_
        refine JQ.then_normal ?_
        refine JQ.sub [(1, .pointer (some ⟨b2, 0, none⟩)), (3, .int .i64 k14)] ?_
        refine J.region ?_
        refine JL.mv (.int .i64 k14) ?_
        refine JL.pur (.int .i64 (w64 (k14 + 1))) (some 7) ?_
        refine JL.as (.int .i64 (w64 (k14 + 1))) ?_
        refine JL.nil ?_
        refine JQ.then_normal ?_
        exact JQ.again (w64 (k14 + 1)) () (Option.some.inj H1).symm (fun _ h => Heap.to h)
    · refine J.cond_false h21 ?_
      refine J.exit ?_
      refine JQ.then_exit ?_
      refine JQ.then_exit ?_
      refine JQ.blk_exit ?_
      rw [hb1 _ (Option.some.inj H1).symm, fin_brk] at H0
      exact JQ.met () () H0 (fun _ h => Heap.to (Heap.pick [] (by decide) h))
  · clear hit H0
    rintro ⟨⟩ ⟨⟩ H0
    replace H0 : ref33_Valid.k2 = some r := H0
    unfold ref33_Valid.k2 at H0
    refine JQ.sub [] ?_
    refine JQ.turn (Δ' := []) (fun _ h => h.to) ?_
    refine JQ.then_normal ?_
    refine J.seq ?_
    refine J.region ?_
    refine JL.as (.bool true) ?_
    refine JL.nil ?_
    refine JQ.then_normal ?_
    refine J.ret ?_
    obtain rfl := Option.some.inj H0
    exact JQ.done' (rs := [.tmp 2]) (vs := [.bool true]) [] (.inr rfl) ⟨by kernel_rfl, trivial⟩ (fun _ h => Heap.to h) ⟨rfl, rfl⟩

theorem ref25_Both.ok (a1 : Cx) (b2 : Cx) (r : Int) (H0 : ref25_Both.f a1 b2 = some r) :
    Does Try.prog 64 [.agg #[.int .i64 a1.Re, .int .i64 a1.Im, .int .i64 a1.Den], .agg #[.int .i64 b2.Re, .int .i64 b2.Im, .int .i64 b2.Den]].toArray [] [] false (fun v Δ => v = .int .i64 r ∧ Δ = []) := by
  refine Does.body (vs := [.agg #[.int .i64 a1.Re, .int .i64 a1.Im, .int .i64 a1.Den], .agg #[.int .i64 b2.Re, .int .i64 b2.Im, .int .i64 b2.Den]]) Try.func64 rfl trivial trivial fun w S => ?_
  unfold ref25_Both.f at H0
  refine J.seq ?_
  refine J.region ?_
  refine JL.box [.int .i64 a1.Re, .int .i64 a1.Im, .int .i64 a1.Den] fun b3 => ?_
  refine JL.box [.int .i64 b2.Re, .int .i64 b2.Im, .int .i64 b2.Den] fun b4 => ?_
  refine JL.as (.int .i64 0) ?_
  refine JL.nil ?_
  refine JQ.then_normal ?_
  refine JQ.sub [(2, .pointer (some ⟨b3, 0, none⟩)), (3, .pointer (some ⟨b4, 0, none⟩))] ?_
  refine J.seq ?_
  refine J.join (T := Bool) (G := Unit) (fun t => ref25_Both.k1 t = some r) (fun t g => [(12, .bool t)]) (fun t g => []) ?_ ?_
  · refine J.region ?_
    refine JL.val (.agg #[.int .i64 a1.Re, .int .i64 a1.Im, .int .i64 a1.Den]) (some 5) (yields_load_boxes 0 0 [.int .i64 a1.Re, .int .i64 a1.Im, .int .i64 a1.Den] (holds_box b3 23 [.int .i64 a1.Re, .int .i64 a1.Im, .int .i64 a1.Den]) tyAgg_23 tySize_23) ?_
    obtain ⟨t12, hc13, H0⟩ := bind_some H0
    refine JL.call [] [] [] (ref25_Check.ok a1 _ hc13) trivial ?_
    rintro _ _ ⟨rfl, rfl⟩
    refine JL.pur (.bool (!decide (t12 = 0))) (some 7) ?_
    refine JL.mv (.bool (!decide (t12 = 0))) ?_
    rcases ite_cases H0 with ⟨h14, H0⟩ | ⟨h14, H0⟩
    · refine JL.off 3 8 false (some 9) h14 ?_
      refine JL.off 3 8 false (some 10) h14 ?_
      refine JL.off 3 8 false (some 11) h14 ?_
      refine JL.val (.bool true) (some 12) (gives_pickT h14) ?_
      refine JL.nil ?_
      refine JQ.then_normal ?_
      exact JQ.meet true () H0 (fun _ h => Heap.to (Heap.pick [] (by decide) h))
    · refine JL.on 3 8 h14 ?_
      refine JL.val (.agg #[.int .i64 b2.Re, .int .i64 b2.Im, .int .i64 b2.Den]) (some 9) (yields_load_boxes 1 0 [.int .i64 b2.Re, .int .i64 b2.Im, .int .i64 b2.Den] (holds_box b4 23 [.int .i64 b2.Re, .int .i64 b2.Im, .int .i64 b2.Den]) tyAgg_23 tySize_23) ?_
      refine JL.on 3 8 h14 ?_
      obtain ⟨t15, hc16, H0⟩ := bind_some H0
      refine JL.call [] [] [] (ref25_Check.ok b2 _ hc16) trivial ?_
      rintro _ _ ⟨rfl, rfl⟩
      refine JL.on 3 8 h14 ?_
      refine JL.pur (.bool (!decide (t15 = 0))) (some 11) ?_
      refine JL.val (.bool (!decide (t15 = 0))) (some 12) (gives_pickF h14) ?_
      refine JL.nil ?_
      refine JQ.then_normal ?_
      exact JQ.meet (!decide (t15 = 0)) () H0 (fun _ h => Heap.to (Heap.pick [] (by decide) h))
  · clear H0
    rintro x10 ⟨⟩ H0
    replace H0 : ref25_Both.k1 x10 = some r := H0
    unfold ref25_Both.k1 at H0
    refine JQ.sub [(12, .bool x10)] ?_
    refine JQ.turn (Δ' := []) (fun _ h => h.to) ?_
    rcases ite_cases H0 with ⟨h11, H0⟩ | ⟨h11, H0⟩
    · refine J.cond_true h11 ?_
      refine J.seq ?_
      refine J.region ?_
      refine JL.as (.int .i64 8) ?_
      refine JL.nil ?_
      refine JQ.then_normal ?_
      refine JQ.sub [(4, .int .i64 8)] ?_
      refine J.ret ?_
      refine JQ.then_ret ?_
      obtain rfl := Option.some.inj H0
      exact JQ.done' (rs := [.tmp 4]) (vs := [.int .i64 8]) [] (.inr rfl) ⟨by kernel_rfl, trivial⟩ (fun _ h => Heap.to h) ⟨rfl, rfl⟩
    · refine J.cond_false h11 ?_
      refine J.skip ?_
      refine JQ.then_normal ?_
      refine JQ.sub [] ?_
      refine J.seq ?_
      refine J.region ?_
      refine JL.as (.int .i64 0) ?_
      refine JL.nil ?_
      refine JQ.then_normal ?_
      refine J.ret ?_
      obtain rfl := Option.some.inj H0
      exact JQ.done' (rs := [.tmp 4]) (vs := [.int .i64 0]) [] (.inr rfl) ⟨by kernel_rfl, trivial⟩ (fun _ h => Heap.to h) ⟨rfl, rfl⟩

theorem ref25_made.ok (re1 : Int) (im2 : Int) (den3 : Int) (r : (Cx × Int)) (H0 : ref25_made.f re1 im2 den3 = some r) :
    Does Try.prog 65 [.int .i64 re1, .int .i64 im2, .int .i64 den3].toArray [] [] false (fun v Δ => v = .tuple #[.agg #[.int .i64 r.1.Re, .int .i64 r.1.Im, .int .i64 r.1.Den], .int .i64 r.2] ∧ Δ = []) := by
  refine Does.body (vs := [.int .i64 re1, .int .i64 im2, .int .i64 den3]) Try.func65 rfl trivial trivial fun w S => ?_
  unfold ref25_made.f at H0
  refine J.seq ?_
  refine J.region ?_
  refine JL.alloc [.int .i64 0, .int .i64 0, .int .i64 0] fun b4 => ?_
  refine JL.as (.int .i64 0) ?_
  refine JL.nil ?_
  refine JQ.then_normal ?_
  refine JQ.sub [(0, .int .i64 re1), (1, .int .i64 im2), (2, .int .i64 den3), (6, .pointer (some ⟨b4, 0, none⟩))] ?_
  refine J.seq ?_
  refine J.seq ?_
  refine J.region ?_
  refine JL.mv (.int .i64 den3) ?_
  refine JL.pur (.bool (decide (den3 = 0))) (some 11) ?_
  refine JL.nil ?_
  refine JQ.then_normal ?_
  refine JQ.sub [(0, .int .i64 re1), (1, .int .i64 im2), (2, .int .i64 den3), (6, .pointer (some ⟨b4, 0, none⟩)), (11, .bool (decide (den3 = 0)))] ?_
  rcases ite_cases H0 with ⟨h5, H0⟩ | ⟨h5, H0⟩
  · refine J.cond_true h5 ?_
    refine J.seq ?_
    refine J.region ?_
    refine JL.pur (.agg #[.int .i64 0, .int .i64 0, .int .i64 0]) (some 12) ?_
    refine JL.store 0 b4 0 23 [.int .i64 0, .int .i64 0, .int .i64 0] [.int .i64 0, .int .i64 0, .int .i64 0] tySize_23 ?_
    refine JL.as (.int .i64 18) ?_
    refine JL.nil ?_
    refine JQ.then_normal ?_
    refine JQ.sub [(6, .pointer (some ⟨b4, 0, none⟩)), (7, .int .i64 18)] ?_
    refine J.ret ?_
    refine JQ.then_ret ?_
    obtain rfl := Option.some.inj H0
    exact JQ.done' (rs := [.cell 6 23, .tmp 7]) (vs := [.agg #[.int .i64 0, .int .i64 0, .int .i64 0], .int .i64 18]) [] (.inr rfl) ⟨⟨b4, 0, _, _, by kernel_rfl, by kernel_rfl, holds_box b4 23 [.int .i64 0, .int .i64 0, .int .i64 0], .inl ⟨tyAgg_23, tySize_23, rfl⟩⟩, by kernel_rfl, trivial⟩ (fun _ h => Heap.to (Heap.pick [] (by decide) h)) ⟨rfl, rfl⟩
  · refine J.cond_false h5 ?_
    refine J.skip ?_
    refine JQ.then_normal ?_
    refine JQ.sub [(0, .int .i64 re1), (1, .int .i64 im2), (2, .int .i64 den3), (6, .pointer (some ⟨b4, 0, none⟩))] ?_
    refine J.seq ?_
    refine J.region ?_
    refine JL.mv (.int .i64 re1) ?_
    refine JL.mv (.int .i64 im2) ?_
    obtain ⟨t6, hc7, H0⟩ := bind_some H0
    refine JL.call [] [] [] (ref25_Gcd.ok re1 im2 _ hc7) trivial ?_
    rintro _ _ ⟨rfl, rfl⟩
    refine JL.mv (.int .i64 den3) ?_
    obtain ⟨t8, hc9, H0⟩ := bind_some H0
    refine JL.call [] [] [] (ref25_Gcd.ok t6 den3 _ hc9) trivial ?_
    rintro _ _ ⟨rfl, rfl⟩
    refine JL.as (.int .i64 t8) ?_
    refine JL.nil ?_
    refine JQ.then_normal ?_
    refine JQ.sub [(0, .int .i64 re1), (1, .int .i64 im2), (2, .int .i64 den3), (6, .pointer (some ⟨b4, 0, none⟩)), (8, .int .i64 t8)] ?_
    refine J.join (T := Int) (G := Unit) (fun t => ref25_made.k1 re1 im2 den3 t = some r) (fun t g => [(0, .int .i64 re1), (1, .int .i64 im2), (2, .int .i64 den3), (6, .pointer (some ⟨b4, 0, none⟩)), (8, .int .i64 t)]) (fun t g => [At.box b4 23 [.int .i64 0, .int .i64 0, .int .i64 0]]) ?_ ?_
    · refine J.seq ?_
      refine J.region ?_
      refine JL.mv (.int .i64 den3) ?_
      refine JL.pur (.bool (decide (den3 < 0))) (some 19) ?_
      refine JL.nil ?_
      refine JQ.then_normal ?_
      refine JQ.sub [(0, .int .i64 re1), (1, .int .i64 im2), (2, .int .i64 den3), (6, .pointer (some ⟨b4, 0, none⟩)), (8, .int .i64 t8), (19, .bool (decide (den3 < 0)))] ?_
      rcases ite_cases H0 with ⟨h19, H0⟩ | ⟨h19, H0⟩
      · refine J.cond_true h19 ?_
        refine J.region ?_
        refine JL.mv (.int .i64 t8) ?_
        refine JL.pur (.int .i64 (w64 (0 - t8))) (some 21) ?_
        refine JL.as (.int .i64 (w64 (0 - t8))) ?_
        refine JL.nil ?_
        refine JQ.then_normal ?_
        exact JQ.meet (w64 (0 - t8)) () H0 (fun _ h => Heap.to h)
      · refine J.cond_false h19 ?_
        refine J.skip ?_
        refine JQ.then_normal ?_
        exact JQ.meet t8 () H0 (fun _ h => Heap.to h)
    · clear H0
      rintro g11 ⟨⟩ H0
      replace H0 : ref25_made.k1 re1 im2 den3 g11 = some r := H0
      unfold ref25_made.k1 at H0
      refine JQ.sub [(0, .int .i64 re1), (1, .int .i64 im2), (2, .int .i64 den3), (6, .pointer (some ⟨b4, 0, none⟩)), (8, .int .i64 g11)] ?_
      refine JQ.turn (Δ' := [At.box b4 23 [.int .i64 0, .int .i64 0, .int .i64 0]]) (fun _ h => h.to) ?_
      refine J.seq ?_
      refine J.drawA 11 [⟨10, 9, 23, [.int .i64 0, .int .i64 0, .int .i64 0]⟩] ?_ (by simp only [List.mem_cons, List.not_mem_nil, or_false, forall_eq_or_imp, forall_eq]; exact ⟨by decide, ⟨_, _, _, rfl⟩, by kernel_rfl⟩)
      refine QL.mv (.int .i64 re1) ?_
      refine QL.mv (.int .i64 g11) ?_
      obtain ⟨h12, H0⟩ := ite_must H0
      refine QL.val (.int .i64 (w64 (Int.tdiv re1 g11))) (some 24) (gives_quo .i64 re1 g11 h12) ?_
      refine QL.mv (.int .i64 im2) ?_
      refine QL.mv (.int .i64 g11) ?_
      obtain ⟨h13, H0⟩ := ite_must H0
      refine QL.val (.int .i64 (w64 (Int.tdiv im2 g11))) (some 27) (gives_quo .i64 im2 g11 h13) ?_
      refine QL.mv (.int .i64 den3) ?_
      refine QL.mv (.int .i64 g11) ?_
      obtain ⟨h14, H0⟩ := ite_must H0
      refine QL.val (.int .i64 (w64 (Int.tdiv den3 g11))) (some 30) (gives_quo .i64 den3 g11 h14) ?_
      refine QL.pur (.agg #[.int .i64 (w64 (Int.tdiv re1 g11)), .int .i64 (w64 (Int.tdiv im2 g11)), .int .i64 (w64 (Int.tdiv den3 g11))]) (some 31) ?_
      refine QL.skipA ?_
      refine QL.nil ?_
      refine JA.alloc fun b15 => ?_
      refine JA.nil ?_
      refine JL.store 1 b15 0 23 [.int .i64 0, .int .i64 0, .int .i64 0] [.int .i64 (w64 (Int.tdiv re1 g11)), .int .i64 (w64 (Int.tdiv im2 g11)), .int .i64 (w64 (Int.tdiv den3 g11))] tySize_23 ?_
      refine JL.nil ?_
      refine JQ.then_normal ?_
      refine JQ.sub [(6, .pointer (some ⟨b4, 0, none⟩)), (9, .pointer (some ⟨b15, 0, none⟩))] ?_
      refine J.seq ?_
      refine J.seq ?_
      refine J.region ?_
      refine JL.val (.agg #[.int .i64 (w64 (Int.tdiv re1 g11)), .int .i64 (w64 (Int.tdiv im2 g11)), .int .i64 (w64 (Int.tdiv den3 g11))]) (some 32) (yields_load_boxes 1 0 [.int .i64 (w64 (Int.tdiv re1 g11)), .int .i64 (w64 (Int.tdiv im2 g11)), .int .i64 (w64 (Int.tdiv den3 g11))] (holds_box b15 23 [.int .i64 (w64 (Int.tdiv re1 g11)), .int .i64 (w64 (Int.tdiv im2 g11)), .int .i64 (w64 (Int.tdiv den3 g11))]) tyAgg_23 tySize_23) ?_
      obtain ⟨t16, hc17, H0⟩ := bind_some H0
      refine JL.call [] [] [] (ref25_Check.ok (⟨(w64 (Int.tdiv re1 g11)), (w64 (Int.tdiv im2 g11)), (w64 (Int.tdiv den3 g11))⟩ : Cx) _ hc17) trivial ?_
      rintro _ _ ⟨rfl, rfl⟩
      refine JL.pur (.bool (!decide (t16 = 0))) (some 34) ?_
      refine JL.nil ?_
      refine JQ.then_normal ?_
      refine JQ.sub [(6, .pointer (some ⟨b4, 0, none⟩)), (9, .pointer (some ⟨b15, 0, none⟩)), (34, .bool (!decide (t16 = 0)))] ?_
      rcases ite_cases H0 with ⟨h18, H0⟩ | ⟨h18, H0⟩
      · refine J.cond_true h18 ?_
        refine J.seq ?_
        refine J.region ?_
        refine JL.pur (.agg #[.int .i64 0, .int .i64 0, .int .i64 0]) (some 35) ?_
        refine JL.store 0 b4 0 23 [.int .i64 0, .int .i64 0, .int .i64 0] [.int .i64 0, .int .i64 0, .int .i64 0] tySize_23 ?_
        refine JL.as (.int .i64 16) ?_
        refine JL.nil ?_
        refine JQ.then_normal ?_
        refine JQ.sub [(6, .pointer (some ⟨b4, 0, none⟩)), (7, .int .i64 16)] ?_
        refine JQ.mask [At.box b4 23 [.int .i64 0, .int .i64 0, .int .i64 0]] [true, false] ?_
        refine J.ret ?_
        refine JQ.then_ret ?_
        obtain rfl := Option.some.inj H0
        exact JQ.done' (rs := [.cell 6 23, .tmp 7]) (vs := [.agg #[.int .i64 0, .int .i64 0, .int .i64 0], .int .i64 16]) [] (.inr rfl) ⟨⟨b4, 0, _, _, by kernel_rfl, by kernel_rfl, holds_box b4 23 [.int .i64 0, .int .i64 0, .int .i64 0], .inl ⟨tyAgg_23, tySize_23, rfl⟩⟩, by kernel_rfl, trivial⟩ (fun _ h => Heap.to (Heap.pick [] (by decide) h)) ⟨rfl, rfl⟩
      · refine J.cond_false h18 ?_
        refine J.skip ?_
        refine JQ.then_normal ?_
        refine JQ.sub [(6, .pointer (some ⟨b4, 0, none⟩)), (9, .pointer (some ⟨b15, 0, none⟩))] ?_
        refine J.seq ?_
        refine J.region ?_
        refine JL.val (.agg #[.int .i64 (w64 (Int.tdiv re1 g11)), .int .i64 (w64 (Int.tdiv im2 g11)), .int .i64 (w64 (Int.tdiv den3 g11))]) (some 36) (yields_load_boxes 1 0 [.int .i64 (w64 (Int.tdiv re1 g11)), .int .i64 (w64 (Int.tdiv im2 g11)), .int .i64 (w64 (Int.tdiv den3 g11))] (holds_box b15 23 [.int .i64 (w64 (Int.tdiv re1 g11)), .int .i64 (w64 (Int.tdiv im2 g11)), .int .i64 (w64 (Int.tdiv den3 g11))]) tyAgg_23 tySize_23) ?_
        refine JL.store 0 b4 0 23 [.int .i64 0, .int .i64 0, .int .i64 0] [.int .i64 (w64 (Int.tdiv re1 g11)), .int .i64 (w64 (Int.tdiv im2 g11)), .int .i64 (w64 (Int.tdiv den3 g11))] tySize_23 ?_
        refine JL.as (.int .i64 0) ?_
        refine JL.nil ?_
        refine JQ.then_normal ?_
        refine JQ.sub [(6, .pointer (some ⟨b4, 0, none⟩)), (7, .int .i64 0)] ?_
        refine JQ.mask [At.box b4 23 [.int .i64 (w64 (Int.tdiv re1 g11)), .int .i64 (w64 (Int.tdiv im2 g11)), .int .i64 (w64 (Int.tdiv den3 g11))]] [true, false] ?_
        refine J.ret ?_
        obtain rfl := Option.some.inj H0
        exact JQ.done' (rs := [.cell 6 23, .tmp 7]) (vs := [.agg #[.int .i64 (w64 (Int.tdiv re1 g11)), .int .i64 (w64 (Int.tdiv im2 g11)), .int .i64 (w64 (Int.tdiv den3 g11))], .int .i64 0]) [] (.inr rfl) ⟨⟨b4, 0, _, _, by kernel_rfl, by kernel_rfl, holds_box b4 23 [.int .i64 (w64 (Int.tdiv re1 g11)), .int .i64 (w64 (Int.tdiv im2 g11)), .int .i64 (w64 (Int.tdiv den3 g11))], .inl ⟨tyAgg_23, tySize_23, rfl⟩⟩, by kernel_rfl, trivial⟩ (fun _ h => Heap.to (Heap.pick [] (by decide) h)) ⟨rfl, rfl⟩

theorem ref25_Mul.ok (a1 : Cx) (b2 : Cx) (r : (Cx × Int)) (H0 : ref25_Mul.f a1 b2 = some r) :
    Does Try.prog 40 [.agg #[.int .i64 a1.Re, .int .i64 a1.Im, .int .i64 a1.Den], .agg #[.int .i64 b2.Re, .int .i64 b2.Im, .int .i64 b2.Den]].toArray [] [] false (fun v Δ => v = .tuple #[.agg #[.int .i64 r.1.Re, .int .i64 r.1.Im, .int .i64 r.1.Den], .int .i64 r.2] ∧ Δ = []) := by
  refine Does.body (vs := [.agg #[.int .i64 a1.Re, .int .i64 a1.Im, .int .i64 a1.Den], .agg #[.int .i64 b2.Re, .int .i64 b2.Im, .int .i64 b2.Den]]) Try.func40 rfl trivial trivial fun w S => ?_
  unfold ref25_Mul.f at H0
  refine J.seq ?_
  refine J.region ?_
  refine JL.box [.int .i64 a1.Re, .int .i64 a1.Im, .int .i64 a1.Den] fun b3 => ?_
  refine JL.box [.int .i64 b2.Re, .int .i64 b2.Im, .int .i64 b2.Den] fun b4 => ?_
  refine JL.alloc [.int .i64 0, .int .i64 0, .int .i64 0] fun b5 => ?_
  refine JL.as (.int .i64 0) ?_
  refine JL.nil ?_
  refine JQ.then_normal ?_
  refine JQ.sub [(2, .pointer (some ⟨b3, 0, none⟩)), (3, .pointer (some ⟨b4, 0, none⟩)), (4, .pointer (some ⟨b5, 0, none⟩))] ?_
  refine J.seq ?_
  refine J.seq ?_
  refine J.region ?_
  refine JL.val (.agg #[.int .i64 a1.Re, .int .i64 a1.Im, .int .i64 a1.Den]) (some 6) (yields_load_boxes 0 0 [.int .i64 a1.Re, .int .i64 a1.Im, .int .i64 a1.Den] (holds_box b3 23 [.int .i64 a1.Re, .int .i64 a1.Im, .int .i64 a1.Den]) tyAgg_23 tySize_23) ?_
  refine JL.val (.agg #[.int .i64 b2.Re, .int .i64 b2.Im, .int .i64 b2.Den]) (some 7) (yields_load_boxes 1 0 [.int .i64 b2.Re, .int .i64 b2.Im, .int .i64 b2.Den] (holds_box b4 23 [.int .i64 b2.Re, .int .i64 b2.Im, .int .i64 b2.Den]) tyAgg_23 tySize_23) ?_
  obtain ⟨t6, hc7, H0⟩ := bind_some H0
  refine JL.call [] [] [] (ref25_Both.ok a1 b2 _ hc7) trivial ?_
  rintro _ _ ⟨rfl, rfl⟩
  refine JL.pur (.bool (!decide (t6 = 0))) (some 9) ?_
  refine JL.nil ?_
  refine JQ.then_normal ?_
  refine JQ.sub [(2, .pointer (some ⟨b3, 0, none⟩)), (3, .pointer (some ⟨b4, 0, none⟩)), (4, .pointer (some ⟨b5, 0, none⟩)), (9, .bool (!decide (t6 = 0)))] ?_
  rcases ite_cases H0 with ⟨h8, H0⟩ | ⟨h8, H0⟩
  · refine J.cond_true h8 ?_
    refine J.seq ?_
    refine J.region ?_
    refine JL.pur (.agg #[.int .i64 0, .int .i64 0, .int .i64 0]) (some 10) ?_
    refine JL.store 2 b5 0 23 [.int .i64 0, .int .i64 0, .int .i64 0] [.int .i64 0, .int .i64 0, .int .i64 0] tySize_23 ?_
    refine JL.as (.int .i64 8) ?_
    refine JL.nil ?_
    refine JQ.then_normal ?_
    refine JQ.sub [(4, .pointer (some ⟨b5, 0, none⟩)), (5, .int .i64 8)] ?_
    refine JQ.mask [At.box b5 23 [.int .i64 0, .int .i64 0, .int .i64 0]] [false, false, true] ?_
    refine J.ret ?_
    refine JQ.then_ret ?_
    obtain rfl := Option.some.inj H0
    exact JQ.done' (rs := [.cell 4 23, .tmp 5]) (vs := [.agg #[.int .i64 0, .int .i64 0, .int .i64 0], .int .i64 8]) [] (.inr rfl) ⟨⟨b5, 0, _, _, by kernel_rfl, by kernel_rfl, holds_box b5 23 [.int .i64 0, .int .i64 0, .int .i64 0], .inl ⟨tyAgg_23, tySize_23, rfl⟩⟩, by kernel_rfl, trivial⟩ (fun _ h => Heap.to (Heap.pick [] (by decide) h)) ⟨rfl, rfl⟩
  · refine J.cond_false h8 ?_
    refine J.skip ?_
    refine JQ.then_normal ?_
    refine JQ.sub [(2, .pointer (some ⟨b3, 0, none⟩)), (3, .pointer (some ⟨b4, 0, none⟩)), (4, .pointer (some ⟨b5, 0, none⟩))] ?_
    refine J.seq ?_
    refine J.region ?_
    refine JL.pur (.pointer (some ⟨b3, 0, none⟩)) (some 11) ?_
    refine JL.val (.int .i64 a1.Re) (some 12) (yields_load_box 0 0 (holds_box b3 23 [.int .i64 a1.Re, .int .i64 a1.Im, .int .i64 a1.Den]) tyAgg_2) ?_
    refine JL.pur (.pointer (some ⟨b4, 0, none⟩)) (some 13) ?_
    refine JL.val (.int .i64 b2.Re) (some 14) (yields_load_box 1 0 (holds_box b4 23 [.int .i64 b2.Re, .int .i64 b2.Im, .int .i64 b2.Den]) tyAgg_2) ?_
    refine JL.pur (.int .i64 (w64 (a1.Re * b2.Re))) (some 15) ?_
    refine JL.pur (.pointer (some ⟨b3, 1, none⟩)) (some 16) ?_
    refine JL.val (.int .i64 a1.Im) (some 17) (yields_load_box 0 1 (holds_box b3 23 [.int .i64 a1.Re, .int .i64 a1.Im, .int .i64 a1.Den]) tyAgg_2) ?_
    refine JL.pur (.pointer (some ⟨b4, 1, none⟩)) (some 18) ?_
    refine JL.val (.int .i64 b2.Im) (some 19) (yields_load_box 1 1 (holds_box b4 23 [.int .i64 b2.Re, .int .i64 b2.Im, .int .i64 b2.Den]) tyAgg_2) ?_
    refine JL.pur (.int .i64 (w64 (a1.Im * b2.Im))) (some 20) ?_
    refine JL.pur (.int .i64 (w64 ((w64 (a1.Re * b2.Re)) - (w64 (a1.Im * b2.Im))))) (some 21) ?_
    refine JL.pur (.pointer (some ⟨b3, 0, none⟩)) (some 22) ?_
    refine JL.val (.int .i64 a1.Re) (some 23) (yields_load_box 0 0 (holds_box b3 23 [.int .i64 a1.Re, .int .i64 a1.Im, .int .i64 a1.Den]) tyAgg_2) ?_
    refine JL.pur (.pointer (some ⟨b4, 1, none⟩)) (some 24) ?_
    refine JL.val (.int .i64 b2.Im) (some 25) (yields_load_box 1 1 (holds_box b4 23 [.int .i64 b2.Re, .int .i64 b2.Im, .int .i64 b2.Den]) tyAgg_2) ?_
    refine JL.pur (.int .i64 (w64 (a1.Re * b2.Im))) (some 26) ?_
    refine JL.pur (.pointer (some ⟨b3, 1, none⟩)) (some 27) ?_
    refine JL.val (.int .i64 a1.Im) (some 28) (yields_load_box 0 1 (holds_box b3 23 [.int .i64 a1.Re, .int .i64 a1.Im, .int .i64 a1.Den]) tyAgg_2) ?_
    refine JL.pur (.pointer (some ⟨b4, 0, none⟩)) (some 29) ?_
    refine JL.val (.int .i64 b2.Re) (some 30) (yields_load_box 1 0 (holds_box b4 23 [.int .i64 b2.Re, .int .i64 b2.Im, .int .i64 b2.Den]) tyAgg_2) ?_
    refine JL.pur (.int .i64 (w64 (a1.Im * b2.Re))) (some 31) ?_
    refine JL.pur (.int .i64 (w64 ((w64 (a1.Re * b2.Im)) + (w64 (a1.Im * b2.Re))))) (some 32) ?_
    refine JL.pur (.pointer (some ⟨b3, 2, none⟩)) (some 33) ?_
    refine JL.val (.int .i64 a1.Den) (some 34) (yields_load_box 0 2 (holds_box b3 23 [.int .i64 a1.Re, .int .i64 a1.Im, .int .i64 a1.Den]) tyAgg_2) ?_
    refine JL.pur (.pointer (some ⟨b4, 2, none⟩)) (some 35) ?_
    refine JL.val (.int .i64 b2.Den) (some 36) (yields_load_box 1 2 (holds_box b4 23 [.int .i64 b2.Re, .int .i64 b2.Im, .int .i64 b2.Den]) tyAgg_2) ?_
    refine JL.pur (.int .i64 (w64 (a1.Den * b2.Den))) (some 37) ?_
    obtain ⟨t9, hc10, H0⟩ := bind_some H0
    refine JL.call [] [] [] (ref25_made.ok (w64 ((w64 (a1.Re * b2.Re)) - (w64 (a1.Im * b2.Im)))) (w64 ((w64 (a1.Re * b2.Im)) + (w64 (a1.Im * b2.Re)))) (w64 (a1.Den * b2.Den)) _ hc10) trivial ?_
    rintro _ _ ⟨rfl, rfl⟩
    refine JL.pur (.agg #[.int .i64 t9.1.Re, .int .i64 t9.1.Im, .int .i64 t9.1.Den]) (some 39) ?_
    refine JL.pur (.int .i64 t9.2) (some 40) ?_
    refine JL.store 2 b5 0 23 [.int .i64 0, .int .i64 0, .int .i64 0] [.int .i64 t9.1.Re, .int .i64 t9.1.Im, .int .i64 t9.1.Den] tySize_23 ?_
    refine JL.as (.int .i64 t9.2) ?_
    refine JL.nil ?_
    refine JQ.then_normal ?_
    refine JQ.sub [(4, .pointer (some ⟨b5, 0, none⟩)), (5, .int .i64 t9.2)] ?_
    refine JQ.mask [At.box b5 23 [.int .i64 t9.1.Re, .int .i64 t9.1.Im, .int .i64 t9.1.Den]] [false, false, true] ?_
    refine J.ret ?_
    obtain rfl := Option.some.inj H0
    exact JQ.done' (rs := [.cell 4 23, .tmp 5]) (vs := [.agg #[.int .i64 t9.1.Re, .int .i64 t9.1.Im, .int .i64 t9.1.Den], .int .i64 t9.2]) [] (.inr rfl) ⟨⟨b5, 0, _, _, by kernel_rfl, by kernel_rfl, holds_box b5 23 [.int .i64 t9.1.Re, .int .i64 t9.1.Im, .int .i64 t9.1.Den], .inl ⟨tyAgg_23, tySize_23, rfl⟩⟩, by kernel_rfl, trivial⟩ (fun _ h => Heap.to (Heap.pick [] (by decide) h)) ⟨rfl, rfl⟩

theorem ref25_Add.ok (a1 : Cx) (b2 : Cx) (r : (Cx × Int)) (H0 : ref25_Add.f a1 b2 = some r) :
    Does Try.prog 42 [.agg #[.int .i64 a1.Re, .int .i64 a1.Im, .int .i64 a1.Den], .agg #[.int .i64 b2.Re, .int .i64 b2.Im, .int .i64 b2.Den]].toArray [] [] false (fun v Δ => v = .tuple #[.agg #[.int .i64 r.1.Re, .int .i64 r.1.Im, .int .i64 r.1.Den], .int .i64 r.2] ∧ Δ = []) := by
  refine Does.body (vs := [.agg #[.int .i64 a1.Re, .int .i64 a1.Im, .int .i64 a1.Den], .agg #[.int .i64 b2.Re, .int .i64 b2.Im, .int .i64 b2.Den]]) Try.func42 rfl trivial trivial fun w S => ?_
  unfold ref25_Add.f at H0
  refine J.seq ?_
  refine J.region ?_
  refine JL.box [.int .i64 a1.Re, .int .i64 a1.Im, .int .i64 a1.Den] fun b3 => ?_
  refine JL.box [.int .i64 b2.Re, .int .i64 b2.Im, .int .i64 b2.Den] fun b4 => ?_
  refine JL.alloc [.int .i64 0, .int .i64 0, .int .i64 0] fun b5 => ?_
  refine JL.as (.int .i64 0) ?_
  refine JL.nil ?_
  refine JQ.then_normal ?_
  refine JQ.sub [(2, .pointer (some ⟨b3, 0, none⟩)), (3, .pointer (some ⟨b4, 0, none⟩)), (4, .pointer (some ⟨b5, 0, none⟩))] ?_
  refine J.seq ?_
  refine J.seq ?_
  refine J.region ?_
  refine JL.val (.agg #[.int .i64 a1.Re, .int .i64 a1.Im, .int .i64 a1.Den]) (some 6) (yields_load_boxes 0 0 [.int .i64 a1.Re, .int .i64 a1.Im, .int .i64 a1.Den] (holds_box b3 23 [.int .i64 a1.Re, .int .i64 a1.Im, .int .i64 a1.Den]) tyAgg_23 tySize_23) ?_
  refine JL.val (.agg #[.int .i64 b2.Re, .int .i64 b2.Im, .int .i64 b2.Den]) (some 7) (yields_load_boxes 1 0 [.int .i64 b2.Re, .int .i64 b2.Im, .int .i64 b2.Den] (holds_box b4 23 [.int .i64 b2.Re, .int .i64 b2.Im, .int .i64 b2.Den]) tyAgg_23 tySize_23) ?_
  obtain ⟨t6, hc7, H0⟩ := bind_some H0
  refine JL.call [] [] [] (ref25_Both.ok a1 b2 _ hc7) trivial ?_
  rintro _ _ ⟨rfl, rfl⟩
  refine JL.pur (.bool (!decide (t6 = 0))) (some 9) ?_
  refine JL.nil ?_
  refine JQ.then_normal ?_
  refine JQ.sub [(2, .pointer (some ⟨b3, 0, none⟩)), (3, .pointer (some ⟨b4, 0, none⟩)), (4, .pointer (some ⟨b5, 0, none⟩)), (9, .bool (!decide (t6 = 0)))] ?_
  rcases ite_cases H0 with ⟨h8, H0⟩ | ⟨h8, H0⟩
  · refine J.cond_true h8 ?_
    refine J.seq ?_
    refine J.region ?_
    refine JL.pur (.agg #[.int .i64 0, .int .i64 0, .int .i64 0]) (some 10) ?_
    refine JL.store 2 b5 0 23 [.int .i64 0, .int .i64 0, .int .i64 0] [.int .i64 0, .int .i64 0, .int .i64 0] tySize_23 ?_
    refine JL.as (.int .i64 8) ?_
    refine JL.nil ?_
    refine JQ.then_normal ?_
    refine JQ.sub [(4, .pointer (some ⟨b5, 0, none⟩)), (5, .int .i64 8)] ?_
    refine JQ.mask [At.box b5 23 [.int .i64 0, .int .i64 0, .int .i64 0]] [false, false, true] ?_
    refine J.ret ?_
    refine JQ.then_ret ?_
    obtain rfl := Option.some.inj H0
    exact JQ.done' (rs := [.cell 4 23, .tmp 5]) (vs := [.agg #[.int .i64 0, .int .i64 0, .int .i64 0], .int .i64 8]) [] (.inr rfl) ⟨⟨b5, 0, _, _, by kernel_rfl, by kernel_rfl, holds_box b5 23 [.int .i64 0, .int .i64 0, .int .i64 0], .inl ⟨tyAgg_23, tySize_23, rfl⟩⟩, by kernel_rfl, trivial⟩ (fun _ h => Heap.to (Heap.pick [] (by decide) h)) ⟨rfl, rfl⟩
  · refine J.cond_false h8 ?_
    refine J.skip ?_
    refine JQ.then_normal ?_
    refine JQ.sub [(2, .pointer (some ⟨b3, 0, none⟩)), (3, .pointer (some ⟨b4, 0, none⟩)), (4, .pointer (some ⟨b5, 0, none⟩))] ?_
    refine J.seq ?_
    refine J.region ?_
    refine JL.pur (.pointer (some ⟨b3, 0, none⟩)) (some 11) ?_
    refine JL.val (.int .i64 a1.Re) (some 12) (yields_load_box 0 0 (holds_box b3 23 [.int .i64 a1.Re, .int .i64 a1.Im, .int .i64 a1.Den]) tyAgg_2) ?_
    refine JL.pur (.pointer (some ⟨b4, 2, none⟩)) (some 13) ?_
    refine JL.val (.int .i64 b2.Den) (some 14) (yields_load_box 1 2 (holds_box b4 23 [.int .i64 b2.Re, .int .i64 b2.Im, .int .i64 b2.Den]) tyAgg_2) ?_
    refine JL.pur (.int .i64 (w64 (a1.Re * b2.Den))) (some 15) ?_
    refine JL.pur (.pointer (some ⟨b4, 0, none⟩)) (some 16) ?_
    refine JL.val (.int .i64 b2.Re) (some 17) (yields_load_box 1 0 (holds_box b4 23 [.int .i64 b2.Re, .int .i64 b2.Im, .int .i64 b2.Den]) tyAgg_2) ?_
    refine JL.pur (.pointer (some ⟨b3, 2, none⟩)) (some 18) ?_
    refine JL.val (.int .i64 a1.Den) (some 19) (yields_load_box 0 2 (holds_box b3 23 [.int .i64 a1.Re, .int .i64 a1.Im, .int .i64 a1.Den]) tyAgg_2) ?_
    refine JL.pur (.int .i64 (w64 (b2.Re * a1.Den))) (some 20) ?_
    refine JL.pur (.int .i64 (w64 ((w64 (a1.Re * b2.Den)) + (w64 (b2.Re * a1.Den))))) (some 21) ?_
    refine JL.pur (.pointer (some ⟨b3, 1, none⟩)) (some 22) ?_
    refine JL.val (.int .i64 a1.Im) (some 23) (yields_load_box 0 1 (holds_box b3 23 [.int .i64 a1.Re, .int .i64 a1.Im, .int .i64 a1.Den]) tyAgg_2) ?_
    refine JL.pur (.pointer (some ⟨b4, 2, none⟩)) (some 24) ?_
    refine JL.val (.int .i64 b2.Den) (some 25) (yields_load_box 1 2 (holds_box b4 23 [.int .i64 b2.Re, .int .i64 b2.Im, .int .i64 b2.Den]) tyAgg_2) ?_
    refine JL.pur (.int .i64 (w64 (a1.Im * b2.Den))) (some 26) ?_
    refine JL.pur (.pointer (some ⟨b4, 1, none⟩)) (some 27) ?_
    refine JL.val (.int .i64 b2.Im) (some 28) (yields_load_box 1 1 (holds_box b4 23 [.int .i64 b2.Re, .int .i64 b2.Im, .int .i64 b2.Den]) tyAgg_2) ?_
    refine JL.pur (.pointer (some ⟨b3, 2, none⟩)) (some 29) ?_
    refine JL.val (.int .i64 a1.Den) (some 30) (yields_load_box 0 2 (holds_box b3 23 [.int .i64 a1.Re, .int .i64 a1.Im, .int .i64 a1.Den]) tyAgg_2) ?_
    refine JL.pur (.int .i64 (w64 (b2.Im * a1.Den))) (some 31) ?_
    refine JL.pur (.int .i64 (w64 ((w64 (a1.Im * b2.Den)) + (w64 (b2.Im * a1.Den))))) (some 32) ?_
    refine JL.pur (.pointer (some ⟨b3, 2, none⟩)) (some 33) ?_
    refine JL.val (.int .i64 a1.Den) (some 34) (yields_load_box 0 2 (holds_box b3 23 [.int .i64 a1.Re, .int .i64 a1.Im, .int .i64 a1.Den]) tyAgg_2) ?_
    refine JL.pur (.pointer (some ⟨b4, 2, none⟩)) (some 35) ?_
    refine JL.val (.int .i64 b2.Den) (some 36) (yields_load_box 1 2 (holds_box b4 23 [.int .i64 b2.Re, .int .i64 b2.Im, .int .i64 b2.Den]) tyAgg_2) ?_
    refine JL.pur (.int .i64 (w64 (a1.Den * b2.Den))) (some 37) ?_
    obtain ⟨t9, hc10, H0⟩ := bind_some H0
    refine JL.call [] [] [] (ref25_made.ok (w64 ((w64 (a1.Re * b2.Den)) + (w64 (b2.Re * a1.Den)))) (w64 ((w64 (a1.Im * b2.Den)) + (w64 (b2.Im * a1.Den)))) (w64 (a1.Den * b2.Den)) _ hc10) trivial ?_
    rintro _ _ ⟨rfl, rfl⟩
    refine JL.pur (.agg #[.int .i64 t9.1.Re, .int .i64 t9.1.Im, .int .i64 t9.1.Den]) (some 39) ?_
    refine JL.pur (.int .i64 t9.2) (some 40) ?_
    refine JL.store 2 b5 0 23 [.int .i64 0, .int .i64 0, .int .i64 0] [.int .i64 t9.1.Re, .int .i64 t9.1.Im, .int .i64 t9.1.Den] tySize_23 ?_
    refine JL.as (.int .i64 t9.2) ?_
    refine JL.nil ?_
    refine JQ.then_normal ?_
    refine JQ.sub [(4, .pointer (some ⟨b5, 0, none⟩)), (5, .int .i64 t9.2)] ?_
    refine JQ.mask [At.box b5 23 [.int .i64 t9.1.Re, .int .i64 t9.1.Im, .int .i64 t9.1.Den]] [false, false, true] ?_
    refine J.ret ?_
    obtain rfl := Option.some.inj H0
    exact JQ.done' (rs := [.cell 4 23, .tmp 5]) (vs := [.agg #[.int .i64 t9.1.Re, .int .i64 t9.1.Im, .int .i64 t9.1.Den], .int .i64 t9.2]) [] (.inr rfl) ⟨⟨b5, 0, _, _, by kernel_rfl, by kernel_rfl, holds_box b5 23 [.int .i64 t9.1.Re, .int .i64 t9.1.Im, .int .i64 t9.1.Den], .inl ⟨tyAgg_23, tySize_23, rfl⟩⟩, by kernel_rfl, trivial⟩ (fun _ h => Heap.to (Heap.pick [] (by decide) h)) ⟨rfl, rfl⟩

theorem ref33_both.ok (p1 : Cx) (q2 : Cx) (r3 : Cx) (s4 : Cx) (r : (Cx × Bool)) (H0 : ref33_both.f p1 q2 r3 s4 = some r) :
    Does Try.prog 36 [.agg #[.int .i64 p1.Re, .int .i64 p1.Im, .int .i64 p1.Den], .agg #[.int .i64 q2.Re, .int .i64 q2.Im, .int .i64 q2.Den], .agg #[.int .i64 r3.Re, .int .i64 r3.Im, .int .i64 r3.Den], .agg #[.int .i64 s4.Re, .int .i64 s4.Im, .int .i64 s4.Den]].toArray [] [] false (fun v Δ => v = .tuple #[.agg #[.int .i64 r.1.Re, .int .i64 r.1.Im, .int .i64 r.1.Den], .bool r.2] ∧ Δ = []) := by
  refine Does.body (vs := [.agg #[.int .i64 p1.Re, .int .i64 p1.Im, .int .i64 p1.Den], .agg #[.int .i64 q2.Re, .int .i64 q2.Im, .int .i64 q2.Den], .agg #[.int .i64 r3.Re, .int .i64 r3.Im, .int .i64 r3.Den], .agg #[.int .i64 s4.Re, .int .i64 s4.Im, .int .i64 s4.Den]]) Try.func36 rfl trivial trivial fun w S => ?_
  unfold ref33_both.f at H0
  refine J.seq ?_
  refine J.region ?_
  refine JL.box [.int .i64 p1.Re, .int .i64 p1.Im, .int .i64 p1.Den] fun b5 => ?_
  refine JL.box [.int .i64 q2.Re, .int .i64 q2.Im, .int .i64 q2.Den] fun b6 => ?_
  refine JL.box [.int .i64 r3.Re, .int .i64 r3.Im, .int .i64 r3.Den] fun b7 => ?_
  refine JL.box [.int .i64 s4.Re, .int .i64 s4.Im, .int .i64 s4.Den] fun b8 => ?_
  refine JL.alloc [.int .i64 0, .int .i64 0, .int .i64 0] fun b9 => ?_
  refine JL.as (.bool false) ?_
  refine JL.nil ?_
  refine JQ.then_normal ?_
  refine JQ.sub [(4, .pointer (some ⟨b5, 0, none⟩)), (5, .pointer (some ⟨b6, 0, none⟩)), (6, .pointer (some ⟨b7, 0, none⟩)), (7, .pointer (some ⟨b8, 0, none⟩)), (8, .pointer (some ⟨b9, 0, none⟩))] ?_
  refine J.seq ?_
  refine J.region ?_
  refine JL.val (.agg #[.int .i64 p1.Re, .int .i64 p1.Im, .int .i64 p1.Den]) (some 17) (yields_load_boxes 0 0 [.int .i64 p1.Re, .int .i64 p1.Im, .int .i64 p1.Den] (holds_box b5 23 [.int .i64 p1.Re, .int .i64 p1.Im, .int .i64 p1.Den]) tyAgg_23 tySize_23) ?_
  refine JL.val (.agg #[.int .i64 q2.Re, .int .i64 q2.Im, .int .i64 q2.Den]) (some 18) (yields_load_boxes 1 0 [.int .i64 q2.Re, .int .i64 q2.Im, .int .i64 q2.Den] (holds_box b6 23 [.int .i64 q2.Re, .int .i64 q2.Im, .int .i64 q2.Den]) tyAgg_23 tySize_23) ?_
  obtain ⟨t10, hc11, H0⟩ := bind_some H0
  refine JL.call [] [] [] (ref25_Mul.ok p1 q2 _ hc11) trivial ?_
  rintro _ _ ⟨rfl, rfl⟩
  refine JL.mv (.tuple #[.agg #[.int .i64 t10.1.Re, .int .i64 t10.1.Im, .int .i64 t10.1.Den], .int .i64 t10.2]) ?_
  refine JL.pur (.agg #[.int .i64 t10.1.Re, .int .i64 t10.1.Im, .int .i64 t10.1.Den]) (some 20) ?_
  refine JL.pur (.int .i64 t10.2) (some 21) ?_
  refine JL.alloc [.int .i64 0, .int .i64 0, .int .i64 0] fun b12 => ?_
  refine JL.store 5 b12 0 23 [.int .i64 0, .int .i64 0, .int .i64 0] [.int .i64 t10.1.Re, .int .i64 t10.1.Im, .int .i64 t10.1.Den] tySize_23 ?_
  refine JL.as (.int .i64 t10.2) ?_
  refine JL.nil ?_
  refine JQ.then_normal ?_
  refine JQ.sub [(6, .pointer (some ⟨b7, 0, none⟩)), (7, .pointer (some ⟨b8, 0, none⟩)), (8, .pointer (some ⟨b9, 0, none⟩)), (10, .pointer (some ⟨b12, 0, none⟩)), (11, .int .i64 t10.2)] ?_
  refine JQ.mask [At.box b7 23 [.int .i64 r3.Re, .int .i64 r3.Im, .int .i64 r3.Den], At.box b8 23 [.int .i64 s4.Re, .int .i64 s4.Im, .int .i64 s4.Den], At.box b9 23 [.int .i64 0, .int .i64 0, .int .i64 0], At.box b12 23 [.int .i64 t10.1.Re, .int .i64 t10.1.Im, .int .i64 t10.1.Den]] [false, false, true, true, true, true] ?_
  refine J.seq ?_
  refine J.region ?_
  refine JL.val (.agg #[.int .i64 r3.Re, .int .i64 r3.Im, .int .i64 r3.Den]) (some 23) (yields_load_boxes 0 0 [.int .i64 r3.Re, .int .i64 r3.Im, .int .i64 r3.Den] (holds_box b7 23 [.int .i64 r3.Re, .int .i64 r3.Im, .int .i64 r3.Den]) tyAgg_23 tySize_23) ?_
  refine JL.val (.agg #[.int .i64 s4.Re, .int .i64 s4.Im, .int .i64 s4.Den]) (some 24) (yields_load_boxes 1 0 [.int .i64 s4.Re, .int .i64 s4.Im, .int .i64 s4.Den] (holds_box b8 23 [.int .i64 s4.Re, .int .i64 s4.Im, .int .i64 s4.Den]) tyAgg_23 tySize_23) ?_
  obtain ⟨t13, hc14, H0⟩ := bind_some H0
  refine JL.call [] [] [] (ref25_Mul.ok r3 s4 _ hc14) trivial ?_
  rintro _ _ ⟨rfl, rfl⟩
  refine JL.mv (.tuple #[.agg #[.int .i64 t13.1.Re, .int .i64 t13.1.Im, .int .i64 t13.1.Den], .int .i64 t13.2]) ?_
  refine JL.pur (.agg #[.int .i64 t13.1.Re, .int .i64 t13.1.Im, .int .i64 t13.1.Den]) (some 26) ?_
  refine JL.pur (.int .i64 t13.2) (some 27) ?_
  refine JL.alloc [.int .i64 0, .int .i64 0, .int .i64 0] fun b15 => ?_
  refine JL.store 4 b15 0 23 [.int .i64 0, .int .i64 0, .int .i64 0] [.int .i64 t13.1.Re, .int .i64 t13.1.Im, .int .i64 t13.1.Den] tySize_23 ?_
  refine JL.as (.int .i64 t13.2) ?_
  refine JL.nil ?_
  refine JQ.then_normal ?_
  refine JQ.sub [(8, .pointer (some ⟨b9, 0, none⟩)), (10, .pointer (some ⟨b12, 0, none⟩)), (11, .int .i64 t10.2), (12, .pointer (some ⟨b15, 0, none⟩)), (13, .int .i64 t13.2)] ?_
  refine JQ.mask [At.box b9 23 [.int .i64 0, .int .i64 0, .int .i64 0], At.box b12 23 [.int .i64 t10.1.Re, .int .i64 t10.1.Im, .int .i64 t10.1.Den], At.box b15 23 [.int .i64 t13.1.Re, .int .i64 t13.1.Im, .int .i64 t13.1.Den]] [false, false, true, true, true] ?_
  refine J.seq ?_
  refine J.join (T := Bool) (G := Unit) (fun t => ref33_both.k1 t10 t13 t = some r) (fun t g => [(8, .pointer (some ⟨b9, 0, none⟩)), (10, .pointer (some ⟨b12, 0, none⟩)), (12, .pointer (some ⟨b15, 0, none⟩)), (33, .bool t)]) (fun t g => [At.box b9 23 [.int .i64 0, .int .i64 0, .int .i64 0], At.box b12 23 [.int .i64 t10.1.Re, .int .i64 t10.1.Im, .int .i64 t10.1.Den], At.box b15 23 [.int .i64 t13.1.Re, .int .i64 t13.1.Im, .int .i64 t13.1.Den]]) ?_ ?_
  · refine J.region ?_
    refine JL.mv (.int .i64 t10.2) ?_
    refine JL.pur (.bool (!decide (t10.2 = 0))) (some 29) ?_
    refine JL.mv (.bool (!decide (t10.2 = 0))) ?_
    rcases ite_cases H0 with ⟨h22, H0⟩ | ⟨h22, H0⟩
    · refine JL.off 2 30 false (some 31) h22 ?_
      refine JL.off 2 30 false (some 32) h22 ?_
      refine JL.val (.bool true) (some 33) (gives_pickT h22) ?_
      refine JL.nil ?_
      refine JQ.then_normal ?_
      exact JQ.meet true () H0 (fun _ h => Heap.to h)
    · refine JL.on 2 30 h22 ?_
      refine JL.mv (.int .i64 t13.2) ?_
      refine JL.on 2 30 h22 ?_
      refine JL.pur (.bool (!decide (t13.2 = 0))) (some 32) ?_
      refine JL.val (.bool (!decide (t13.2 = 0))) (some 33) (gives_pickF h22) ?_
      refine JL.nil ?_
      refine JQ.then_normal ?_
      exact JQ.meet (!decide (t13.2 = 0)) () H0 (fun _ h => Heap.to h)
  · clear H0
    rintro x17 ⟨⟩ H0
    replace H0 : ref33_both.k1 t10 t13 x17 = some r := H0
    unfold ref33_both.k1 at H0
    refine JQ.sub [(8, .pointer (some ⟨b9, 0, none⟩)), (10, .pointer (some ⟨b12, 0, none⟩)), (12, .pointer (some ⟨b15, 0, none⟩)), (33, .bool x17)] ?_
    refine JQ.turn (Δ' := [At.box b9 23 [.int .i64 0, .int .i64 0, .int .i64 0], At.box b12 23 [.int .i64 t10.1.Re, .int .i64 t10.1.Im, .int .i64 t10.1.Den], At.box b15 23 [.int .i64 t13.1.Re, .int .i64 t13.1.Im, .int .i64 t13.1.Den]]) (fun _ h => h.to) ?_
    rcases ite_cases H0 with ⟨h18, H0⟩ | ⟨h18, H0⟩
    · refine J.cond_true h18 ?_
      refine J.seq ?_
      refine J.region ?_
      refine JL.pur (.agg #[.int .i64 0, .int .i64 0, .int .i64 0]) (some 34) ?_
      refine JL.store 0 b9 0 23 [.int .i64 0, .int .i64 0, .int .i64 0] [.int .i64 0, .int .i64 0, .int .i64 0] tySize_23 ?_
      refine JL.as (.bool false) ?_
      refine JL.nil ?_
      refine JQ.then_normal ?_
      refine JQ.sub [(8, .pointer (some ⟨b9, 0, none⟩)), (9, .bool false)] ?_
      refine JQ.mask [At.box b9 23 [.int .i64 0, .int .i64 0, .int .i64 0]] [true, false, false] ?_
      refine J.ret ?_
      refine JQ.then_ret ?_
      obtain rfl := Option.some.inj H0
      exact JQ.done' (rs := [.cell 8 23, .tmp 9]) (vs := [.agg #[.int .i64 0, .int .i64 0, .int .i64 0], .bool false]) [] (.inr rfl) ⟨⟨b9, 0, _, _, by kernel_rfl, by kernel_rfl, holds_box b9 23 [.int .i64 0, .int .i64 0, .int .i64 0], .inl ⟨tyAgg_23, tySize_23, rfl⟩⟩, by kernel_rfl, trivial⟩ (fun _ h => Heap.to (Heap.pick [] (by decide) h)) ⟨rfl, rfl⟩
    · refine J.cond_false h18 ?_
      refine J.skip ?_
      refine JQ.then_normal ?_
      refine JQ.sub [(8, .pointer (some ⟨b9, 0, none⟩)), (10, .pointer (some ⟨b12, 0, none⟩)), (12, .pointer (some ⟨b15, 0, none⟩))] ?_
      refine J.seq ?_
      refine J.region ?_
      refine JL.val (.agg #[.int .i64 t10.1.Re, .int .i64 t10.1.Im, .int .i64 t10.1.Den]) (some 36) (yields_load_boxes 1 0 [.int .i64 t10.1.Re, .int .i64 t10.1.Im, .int .i64 t10.1.Den] (holds_box b12 23 [.int .i64 t10.1.Re, .int .i64 t10.1.Im, .int .i64 t10.1.Den]) tyAgg_23 tySize_23) ?_
      refine JL.val (.agg #[.int .i64 t13.1.Re, .int .i64 t13.1.Im, .int .i64 t13.1.Den]) (some 37) (yields_load_boxes 2 0 [.int .i64 t13.1.Re, .int .i64 t13.1.Im, .int .i64 t13.1.Den] (holds_box b15 23 [.int .i64 t13.1.Re, .int .i64 t13.1.Im, .int .i64 t13.1.Den]) tyAgg_23 tySize_23) ?_
      obtain ⟨t19, hc20, H0⟩ := bind_some H0
      refine JL.call [] [] [] (ref25_Add.ok t10.1 t13.1 _ hc20) trivial ?_
      rintro _ _ ⟨rfl, rfl⟩
      refine JL.mv (.tuple #[.agg #[.int .i64 t19.1.Re, .int .i64 t19.1.Im, .int .i64 t19.1.Den], .int .i64 t19.2]) ?_
      refine JL.pur (.agg #[.int .i64 t19.1.Re, .int .i64 t19.1.Im, .int .i64 t19.1.Den]) (some 39) ?_
      refine JL.pur (.int .i64 t19.2) (some 40) ?_
      refine JL.alloc [.int .i64 0, .int .i64 0, .int .i64 0] fun b21 => ?_
      refine JL.store 3 b21 0 23 [.int .i64 0, .int .i64 0, .int .i64 0] [.int .i64 t19.1.Re, .int .i64 t19.1.Im, .int .i64 t19.1.Den] tySize_23 ?_
      refine JL.as (.int .i64 t19.2) ?_
      refine JL.nil ?_
      refine JQ.then_normal ?_
      refine JQ.sub [(8, .pointer (some ⟨b9, 0, none⟩)), (14, .pointer (some ⟨b21, 0, none⟩)), (15, .int .i64 t19.2)] ?_
      refine JQ.mask [At.box b9 23 [.int .i64 0, .int .i64 0, .int .i64 0], At.box b21 23 [.int .i64 t19.1.Re, .int .i64 t19.1.Im, .int .i64 t19.1.Den]] [true, false, false, true] ?_
      refine J.seq ?_
      refine J.region ?_
      refine JL.val (.agg #[.int .i64 t19.1.Re, .int .i64 t19.1.Im, .int .i64 t19.1.Den]) (some 41) (yields_load_boxes 1 0 [.int .i64 t19.1.Re, .int .i64 t19.1.Im, .int .i64 t19.1.Den] (holds_box b21 23 [.int .i64 t19.1.Re, .int .i64 t19.1.Im, .int .i64 t19.1.Den]) tyAgg_23 tySize_23) ?_
      refine JL.mv (.int .i64 t19.2) ?_
      refine JL.pur (.bool (decide (t19.2 = 0))) (some 43) ?_
      refine JL.store 0 b9 0 23 [.int .i64 0, .int .i64 0, .int .i64 0] [.int .i64 t19.1.Re, .int .i64 t19.1.Im, .int .i64 t19.1.Den] tySize_23 ?_
      refine JL.as (.bool (decide (t19.2 = 0))) ?_
      refine JL.nil ?_
      refine JQ.then_normal ?_
      refine JQ.sub [(8, .pointer (some ⟨b9, 0, none⟩)), (9, .bool (decide (t19.2 = 0)))] ?_
      refine JQ.mask [At.box b9 23 [.int .i64 t19.1.Re, .int .i64 t19.1.Im, .int .i64 t19.1.Den]] [true, false] ?_
      refine J.ret ?_
      obtain rfl := Option.some.inj H0
      exact JQ.done' (rs := [.cell 8 23, .tmp 9]) (vs := [.agg #[.int .i64 t19.1.Re, .int .i64 t19.1.Im, .int .i64 t19.1.Den], .bool (decide (t19.2 = 0))]) [] (.inr rfl) ⟨⟨b9, 0, _, _, by kernel_rfl, by kernel_rfl, holds_box b9 23 [.int .i64 t19.1.Re, .int .i64 t19.1.Im, .int .i64 t19.1.Den], .inl ⟨tyAgg_23, tySize_23, rfl⟩⟩, by kernel_rfl, trivial⟩ (fun _ h => Heap.to (Heap.pick [] (by decide) h)) ⟨rfl, rfl⟩

theorem ref33_Mul.ok (a1 : (A4 Cx)) (b2 : (A4 Cx)) (r : ((A4 Cx) × Int)) (H0 : ref33_Mul.f a1 b2 = some r) :
    Does Try.prog 10 [.agg #[.int .i64 a1.e0.Re, .int .i64 a1.e0.Im, .int .i64 a1.e0.Den, .int .i64 a1.e1.Re, .int .i64 a1.e1.Im, .int .i64 a1.e1.Den, .int .i64 a1.e2.Re, .int .i64 a1.e2.Im, .int .i64 a1.e2.Den, .int .i64 a1.e3.Re, .int .i64 a1.e3.Im, .int .i64 a1.e3.Den], .agg #[.int .i64 b2.e0.Re, .int .i64 b2.e0.Im, .int .i64 b2.e0.Den, .int .i64 b2.e1.Re, .int .i64 b2.e1.Im, .int .i64 b2.e1.Den, .int .i64 b2.e2.Re, .int .i64 b2.e2.Im, .int .i64 b2.e2.Den, .int .i64 b2.e3.Re, .int .i64 b2.e3.Im, .int .i64 b2.e3.Den]].toArray [] [] false (fun v Δ => v = .tuple #[.agg #[.int .i64 r.1.e0.Re, .int .i64 r.1.e0.Im, .int .i64 r.1.e0.Den, .int .i64 r.1.e1.Re, .int .i64 r.1.e1.Im, .int .i64 r.1.e1.Den, .int .i64 r.1.e2.Re, .int .i64 r.1.e2.Im, .int .i64 r.1.e2.Den, .int .i64 r.1.e3.Re, .int .i64 r.1.e3.Im, .int .i64 r.1.e3.Den], .int .i64 r.2] ∧ Δ = []) := by
  refine Does.body (vs := [.agg #[.int .i64 a1.e0.Re, .int .i64 a1.e0.Im, .int .i64 a1.e0.Den, .int .i64 a1.e1.Re, .int .i64 a1.e1.Im, .int .i64 a1.e1.Den, .int .i64 a1.e2.Re, .int .i64 a1.e2.Im, .int .i64 a1.e2.Den, .int .i64 a1.e3.Re, .int .i64 a1.e3.Im, .int .i64 a1.e3.Den], .agg #[.int .i64 b2.e0.Re, .int .i64 b2.e0.Im, .int .i64 b2.e0.Den, .int .i64 b2.e1.Re, .int .i64 b2.e1.Im, .int .i64 b2.e1.Den, .int .i64 b2.e2.Re, .int .i64 b2.e2.Im, .int .i64 b2.e2.Den, .int .i64 b2.e3.Re, .int .i64 b2.e3.Im, .int .i64 b2.e3.Den]]) Try.func10 rfl trivial trivial fun w S => ?_
  unfold ref33_Mul.f at H0
  refine J.seq ?_
  refine J.region ?_
  refine JL.box [.int .i64 a1.e0.Re, .int .i64 a1.e0.Im, .int .i64 a1.e0.Den, .int .i64 a1.e1.Re, .int .i64 a1.e1.Im, .int .i64 a1.e1.Den, .int .i64 a1.e2.Re, .int .i64 a1.e2.Im, .int .i64 a1.e2.Den, .int .i64 a1.e3.Re, .int .i64 a1.e3.Im, .int .i64 a1.e3.Den] fun b3 => ?_
  refine JL.box [.int .i64 b2.e0.Re, .int .i64 b2.e0.Im, .int .i64 b2.e0.Den, .int .i64 b2.e1.Re, .int .i64 b2.e1.Im, .int .i64 b2.e1.Den, .int .i64 b2.e2.Re, .int .i64 b2.e2.Im, .int .i64 b2.e2.Den, .int .i64 b2.e3.Re, .int .i64 b2.e3.Im, .int .i64 b2.e3.Den] fun b4 => ?_
  refine JL.alloc [.int .i64 0, .int .i64 0, .int .i64 0, .int .i64 0, .int .i64 0, .int .i64 0, .int .i64 0, .int .i64 0, .int .i64 0, .int .i64 0, .int .i64 0, .int .i64 0] fun b5 => ?_
  refine JL.as (.int .i64 0) ?_
  refine JL.nil ?_
  refine JQ.then_normal ?_
  refine JQ.sub [(2, .pointer (some ⟨b3, 0, none⟩)), (3, .pointer (some ⟨b4, 0, none⟩)), (4, .pointer (some ⟨b5, 0, none⟩))] ?_
  refine J.seq ?_
  refine J.join (T := Bool) (G := Unit) (fun t => ref33_Mul.k1 a1 b2 t = some r) (fun t g => [(2, .pointer (some ⟨b3, 0, none⟩)), (3, .pointer (some ⟨b4, 0, none⟩)), (4, .pointer (some ⟨b5, 0, none⟩)), (18, .bool t)]) (fun t g => [At.box b3 25 [.int .i64 a1.e0.Re, .int .i64 a1.e0.Im, .int .i64 a1.e0.Den, .int .i64 a1.e1.Re, .int .i64 a1.e1.Im, .int .i64 a1.e1.Den, .int .i64 a1.e2.Re, .int .i64 a1.e2.Im, .int .i64 a1.e2.Den, .int .i64 a1.e3.Re, .int .i64 a1.e3.Im, .int .i64 a1.e3.Den], At.box b4 25 [.int .i64 b2.e0.Re, .int .i64 b2.e0.Im, .int .i64 b2.e0.Den, .int .i64 b2.e1.Re, .int .i64 b2.e1.Im, .int .i64 b2.e1.Den, .int .i64 b2.e2.Re, .int .i64 b2.e2.Im, .int .i64 b2.e2.Den, .int .i64 b2.e3.Re, .int .i64 b2.e3.Im, .int .i64 b2.e3.Den], At.box b5 25 [.int .i64 0, .int .i64 0, .int .i64 0, .int .i64 0, .int .i64 0, .int .i64 0, .int .i64 0, .int .i64 0, .int .i64 0, .int .i64 0, .int .i64 0, .int .i64 0]]) ?_ ?_
  · refine J.region ?_
    refine JL.val (.agg #[.int .i64 a1.e0.Re, .int .i64 a1.e0.Im, .int .i64 a1.e0.Den, .int .i64 a1.e1.Re, .int .i64 a1.e1.Im, .int .i64 a1.e1.Den, .int .i64 a1.e2.Re, .int .i64 a1.e2.Im, .int .i64 a1.e2.Den, .int .i64 a1.e3.Re, .int .i64 a1.e3.Im, .int .i64 a1.e3.Den]) (some 11) (yields_load_boxes 0 0 [.int .i64 a1.e0.Re, .int .i64 a1.e0.Im, .int .i64 a1.e0.Den, .int .i64 a1.e1.Re, .int .i64 a1.e1.Im, .int .i64 a1.e1.Den, .int .i64 a1.e2.Re, .int .i64 a1.e2.Im, .int .i64 a1.e2.Den, .int .i64 a1.e3.Re, .int .i64 a1.e3.Im, .int .i64 a1.e3.Den] (holds_box b3 25 [.int .i64 a1.e0.Re, .int .i64 a1.e0.Im, .int .i64 a1.e0.Den, .int .i64 a1.e1.Re, .int .i64 a1.e1.Im, .int .i64 a1.e1.Den, .int .i64 a1.e2.Re, .int .i64 a1.e2.Im, .int .i64 a1.e2.Den, .int .i64 a1.e3.Re, .int .i64 a1.e3.Im, .int .i64 a1.e3.Den]) tyAgg_25 tySize_25) ?_
    obtain ⟨t861, hc862, H0⟩ := bind_some H0
    refine JL.call [] [] [] (ref33_Valid.ok a1 _ hc862) trivial ?_
    rintro _ _ ⟨rfl, rfl⟩
    refine JL.pur (.bool (!t861)) (some 13) ?_
    refine JL.mv (.bool (!t861)) ?_
    rcases ite_cases H0 with ⟨h863, H0⟩ | ⟨h863, H0⟩
    · refine JL.off 3 14 false (some 15) h863 ?_
      refine JL.off 3 14 false (some 16) h863 ?_
      refine JL.off 3 14 false (some 17) h863 ?_
      refine JL.val (.bool true) (some 18) (gives_pickT h863) ?_
      refine JL.nil ?_
      refine JQ.then_normal ?_
      exact JQ.meet true () H0 (fun _ h => Heap.to h)
    · refine JL.on 3 14 h863 ?_
      refine JL.val (.agg #[.int .i64 b2.e0.Re, .int .i64 b2.e0.Im, .int .i64 b2.e0.Den, .int .i64 b2.e1.Re, .int .i64 b2.e1.Im, .int .i64 b2.e1.Den, .int .i64 b2.e2.Re, .int .i64 b2.e2.Im, .int .i64 b2.e2.Den, .int .i64 b2.e3.Re, .int .i64 b2.e3.Im, .int .i64 b2.e3.Den]) (some 15) (yields_load_boxes 1 0 [.int .i64 b2.e0.Re, .int .i64 b2.e0.Im, .int .i64 b2.e0.Den, .int .i64 b2.e1.Re, .int .i64 b2.e1.Im, .int .i64 b2.e1.Den, .int .i64 b2.e2.Re, .int .i64 b2.e2.Im, .int .i64 b2.e2.Den, .int .i64 b2.e3.Re, .int .i64 b2.e3.Im, .int .i64 b2.e3.Den] (holds_box b4 25 [.int .i64 b2.e0.Re, .int .i64 b2.e0.Im, .int .i64 b2.e0.Den, .int .i64 b2.e1.Re, .int .i64 b2.e1.Im, .int .i64 b2.e1.Den, .int .i64 b2.e2.Re, .int .i64 b2.e2.Im, .int .i64 b2.e2.Den, .int .i64 b2.e3.Re, .int .i64 b2.e3.Im, .int .i64 b2.e3.Den]) tyAgg_25 tySize_25) ?_
      refine JL.on 3 14 h863 ?_
      obtain ⟨t864, hc865, H0⟩ := bind_some H0
      refine JL.call [] [] [] (ref33_Valid.ok b2 _ hc865) trivial ?_
      rintro _ _ ⟨rfl, rfl⟩
      refine JL.on 3 14 h863 ?_
      refine JL.pur (.bool (!t864)) (some 17) ?_
      refine JL.val (.bool (!t864)) (some 18) (gives_pickF h863) ?_
      refine JL.nil ?_
      refine JQ.then_normal ?_
      exact JQ.meet (!t864) () H0 (fun _ h => Heap.to h)
  · clear H0
    rintro x11 ⟨⟩ H0
    replace H0 : ref33_Mul.k1 a1 b2 x11 = some r := H0
    unfold ref33_Mul.k1 at H0
    refine JQ.sub [(2, .pointer (some ⟨b3, 0, none⟩)), (3, .pointer (some ⟨b4, 0, none⟩)), (4, .pointer (some ⟨b5, 0, none⟩)), (18, .bool x11)] ?_
    refine JQ.turn (Δ' := [At.box b3 25 [.int .i64 a1.e0.Re, .int .i64 a1.e0.Im, .int .i64 a1.e0.Den, .int .i64 a1.e1.Re, .int .i64 a1.e1.Im, .int .i64 a1.e1.Den, .int .i64 a1.e2.Re, .int .i64 a1.e2.Im, .int .i64 a1.e2.Den, .int .i64 a1.e3.Re, .int .i64 a1.e3.Im, .int .i64 a1.e3.Den], At.box b4 25 [.int .i64 b2.e0.Re, .int .i64 b2.e0.Im, .int .i64 b2.e0.Den, .int .i64 b2.e1.Re, .int .i64 b2.e1.Im, .int .i64 b2.e1.Den, .int .i64 b2.e2.Re, .int .i64 b2.e2.Im, .int .i64 b2.e2.Den, .int .i64 b2.e3.Re, .int .i64 b2.e3.Im, .int .i64 b2.e3.Den], At.box b5 25 [.int .i64 0, .int .i64 0, .int .i64 0, .int .i64 0, .int .i64 0, .int .i64 0, .int .i64 0, .int .i64 0, .int .i64 0, .int .i64 0, .int .i64 0, .int .i64 0]]) (fun _ h => h.to) ?_
    rcases ite_cases H0 with ⟨h12, H0⟩ | ⟨h12, H0⟩
    · refine J.cond_true h12 ?_
      refine J.seq ?_
      refine J.region ?_
      refine JL.pur (.agg #[.int .i64 0, .int .i64 0, .int .i64 0, .int .i64 0, .int .i64 0, .int .i64 0, .int .i64 0, .int .i64 0, .int .i64 0, .int .i64 0, .int .i64 0, .int .i64 0]) (some 19) ?_
      refine JL.store 2 b5 0 25 [.int .i64 0, .int .i64 0, .int .i64 0, .int .i64 0, .int .i64 0, .int .i64 0, .int .i64 0, .int .i64 0, .int .i64 0, .int .i64 0, .int .i64 0, .int .i64 0] [.int .i64 0, .int .i64 0, .int .i64 0, .int .i64 0, .int .i64 0, .int .i64 0, .int .i64 0, .int .i64 0, .int .i64 0, .int .i64 0, .int .i64 0, .int .i64 0] tySize_25 ?_
      refine JL.as (.int .i64 8) ?_
      refine JL.nil ?_
      refine JQ.then_normal ?_
      refine JQ.sub [(4, .pointer (some ⟨b5, 0, none⟩)), (5, .int .i64 8)] ?_
      refine JQ.mask [At.box b5 25 [.int .i64 0, .int .i64 0, .int .i64 0, .int .i64 0, .int .i64 0, .int .i64 0, .int .i64 0, .int .i64 0, .int .i64 0, .int .i64 0, .int .i64 0, .int .i64 0]] [false, false, true] ?_
      refine J.ret ?_
      refine JQ.then_ret ?_
      obtain rfl := Option.some.inj H0
      exact JQ.done' (rs := [.cell 4 25, .tmp 5]) (vs := [.agg #[.int .i64 0, .int .i64 0, .int .i64 0, .int .i64 0, .int .i64 0, .int .i64 0, .int .i64 0, .int .i64 0, .int .i64 0, .int .i64 0, .int .i64 0, .int .i64 0], .int .i64 8]) [] (.inr rfl) ⟨⟨b5, 0, _, _, by kernel_rfl, by kernel_rfl, holds_box b5 25 [.int .i64 0, .int .i64 0, .int .i64 0, .int .i64 0, .int .i64 0, .int .i64 0, .int .i64 0, .int .i64 0, .int .i64 0, .int .i64 0, .int .i64 0, .int .i64 0], .inl ⟨tyAgg_25, tySize_25, rfl⟩⟩, by kernel_rfl, trivial⟩ (fun _ h => Heap.to (Heap.pick [] (by decide) h)) ⟨rfl, rfl⟩
    · refine J.cond_false h12 ?_
      refine J.skip ?_
      refine JQ.then_normal ?_
      refine JQ.sub [(2, .pointer (some ⟨b3, 0, none⟩)), (3, .pointer (some ⟨b4, 0, none⟩)), (4, .pointer (some ⟨b5, 0, none⟩))] ?_
      refine J.seq ?_
      refine J.region ?_
      refine JL.alloc [.int .i64 0, .int .i64 0, .int .i64 0, .int .i64 0, .int .i64 0, .int .i64 0, .int .i64 0, .int .i64 0, .int .i64 0, .int .i64 0, .int .i64 0, .int .i64 0] fun b13 => ?_
      refine JL.nil ?_
      refine JQ.then_normal ?_
      refine J.seq ?_
      refine J.seq ?_
      refine J.region ?_
      refine JL.as (.int .i64 0) ?_
      refine JL.nil ?_
      refine JQ.then_normal ?_
      obtain ⟨o1, hit, H0⟩ := bind_some H0
      refine J.loop (σ := ((A4 Cx) × Int)) (τ := (A4 Cx)) (G := Unit) (G' := Unit) _ o1 (fun s g => [(2, .pointer (some ⟨b3, 0, none⟩)), (3, .pointer (some ⟨b4, 0, none⟩)), (4, .pointer (some ⟨b5, 0, none⟩)), (6, .pointer (some ⟨b13, 0, none⟩)), (7, .int .i64 s.2)]) (fun s g => [At.box b3 25 [.int .i64 a1.e0.Re, .int .i64 a1.e0.Im, .int .i64 a1.e0.Den, .int .i64 a1.e1.Re, .int .i64 a1.e1.Im, .int .i64 a1.e1.Den, .int .i64 a1.e2.Re, .int .i64 a1.e2.Im, .int .i64 a1.e2.Den, .int .i64 a1.e3.Re, .int .i64 a1.e3.Im, .int .i64 a1.e3.Den], At.box b4 25 [.int .i64 b2.e0.Re, .int .i64 b2.e0.Im, .int .i64 b2.e0.Den, .int .i64 b2.e1.Re, .int .i64 b2.e1.Im, .int .i64 b2.e1.Den, .int .i64 b2.e2.Re, .int .i64 b2.e2.Im, .int .i64 b2.e2.Den, .int .i64 b2.e3.Re, .int .i64 b2.e3.Im, .int .i64 b2.e3.Den], At.box b5 25 [.int .i64 0, .int .i64 0, .int .i64 0, .int .i64 0, .int .i64 0, .int .i64 0, .int .i64 0, .int .i64 0, .int .i64 0, .int .i64 0, .int .i64 0, .int .i64 0], At.box b13 25 [.int .i64 s.1.e0.Re, .int .i64 s.1.e0.Im, .int .i64 s.1.e0.Den, .int .i64 s.1.e1.Re, .int .i64 s.1.e1.Im, .int .i64 s.1.e1.Den, .int .i64 s.1.e2.Re, .int .i64 s.1.e2.Im, .int .i64 s.1.e2.Den, .int .i64 s.1.e3.Re, .int .i64 s.1.e3.Im, .int .i64 s.1.e3.Den]]) (fun t => ref33_Mul.k21 t = some r) (fun t g => [(4, .pointer (some ⟨b5, 0, none⟩)), (6, .pointer (some ⟨b13, 0, none⟩))]) (fun t g => [At.box b5 25 [.int .i64 0, .int .i64 0, .int .i64 0, .int .i64 0, .int .i64 0, .int .i64 0, .int .i64 0, .int .i64 0, .int .i64 0, .int .i64 0, .int .i64 0, .int .i64 0], At.box b13 25 [.int .i64 t.e0.Re, .int .i64 t.e0.Im, .int .i64 t.e0.Den, .int .i64 t.e1.Re, .int .i64 t.e1.Im, .int .i64 t.e1.Den, .int .i64 t.e2.Re, .int .i64 t.e2.Im, .int .i64 t.e2.Den, .int .i64 t.e3.Re, .int .i64 t.e3.Im, .int .i64 t.e3.Den]]) ((⟨(⟨0, 0, 0⟩ : Cx), (⟨0, 0, 0⟩ : Cx), (⟨0, 0, 0⟩ : Cx), (⟨0, 0, 0⟩ : Cx)⟩ : (A4 Cx)), 0) () hit (fun _ h => Heap.to h) ?_ ?_
      · clear hit
        rintro ⟨out404, r405⟩ ⟨⟩ st1 H1 hb1 hr1
        replace H1 : ref33_Mul.s20 a1 b2 out404 r405 = some st1 := H1
        unfold ref33_Mul.s20 at H1
        refine JQ.sub [(2, .pointer (some ⟨b3, 0, none⟩)), (3, .pointer (some ⟨b4, 0, none⟩)), (4, .pointer (some ⟨b5, 0, none⟩)), (6, .pointer (some ⟨b13, 0, none⟩)), (7, .int .i64 r405)] ?_
        refine JQ.turn (Δ' := [At.box b3 25 [.int .i64 a1.e0.Re, .int .i64 a1.e0.Im, .int .i64 a1.e0.Den, .int .i64 a1.e1.Re, .int .i64 a1.e1.Im, .int .i64 a1.e1.Den, .int .i64 a1.e2.Re, .int .i64 a1.e2.Im, .int .i64 a1.e2.Den, .int .i64 a1.e3.Re, .int .i64 a1.e3.Im, .int .i64 a1.e3.Den], At.box b4 25 [.int .i64 b2.e0.Re, .int .i64 b2.e0.Im, .int .i64 b2.e0.Den, .int .i64 b2.e1.Re, .int .i64 b2.e1.Im, .int .i64 b2.e1.Den, .int .i64 b2.e2.Re, .int .i64 b2.e2.Im, .int .i64 b2.e2.Den, .int .i64 b2.e3.Re, .int .i64 b2.e3.Im, .int .i64 b2.e3.Den], At.box b5 25 [.int .i64 0, .int .i64 0, .int .i64 0, .int .i64 0, .int .i64 0, .int .i64 0, .int .i64 0, .int .i64 0, .int .i64 0, .int .i64 0, .int .i64 0, .int .i64 0], At.box b13 25 [.int .i64 out404.e0.Re, .int .i64 out404.e0.Im, .int .i64 out404.e0.Den, .int .i64 out404.e1.Re, .int .i64 out404.e1.Im, .int .i64 out404.e1.Den, .int .i64 out404.e2.Re, .int .i64 out404.e2.Im, .int .i64 out404.e2.Den, .int .i64 out404.e3.Re, .int .i64 out404.e3.Im, .int .i64 out404.e3.Den]]) (fun _ h => h.to) ?_
        refine J.seq ?_
        refine J.seq ?_
        refine J.region ?_
        refine JL.mv (.int .i64 r405) ?_
        refine JL.pur (.bool (decide (r405 < 2))) (some 21) ?_
        refine JL.nil ?_
        refine JQ.then_normal ?_
        refine JQ.sub [(2, .pointer (some ⟨b3, 0, none⟩)), (3, .pointer (some ⟨b4, 0, none⟩)), (4, .pointer (some ⟨b5, 0, none⟩)), (6, .pointer (some ⟨b13, 0, none⟩)), (7, .int .i64 r405), (21, .bool (decide (r405 < 2)))] ?_
        rcases ite_cases H1 with ⟨h634, H1⟩ | ⟨h634, H1⟩
        · refine J.cond_true h634 ?_
          refine J.skip ?_
          refine JQ.then_normal ?_
          refine JQ.sub [(2, .pointer (some ⟨b3, 0, none⟩)), (3, .pointer (some ⟨b4, 0, none⟩)), (4, .pointer (some ⟨b5, 0, none⟩)), (6, .pointer (some ⟨b13, 0, none⟩)), (7, .int .i64 r405)] ?_
          refine J.seq ?_
          refine J.block ?_
          refine J.seq ?_
          refine J.region ?_
          refine JL.as (.int .i64 0) ?_
          refine JL.nil ?_
          refine JQ.then_normal ?_
          obtain ⟨o2, hit, H1⟩ := bind_some H1
          refine J.loop (σ := ((A4 Cx) × Int)) (τ := (A4 Cx)) (G := Unit) (G' := Unit) _ o2 (fun s g => [(2, .pointer (some ⟨b3, 0, none⟩)), (3, .pointer (some ⟨b4, 0, none⟩)), (4, .pointer (some ⟨b5, 0, none⟩)), (6, .pointer (some ⟨b13, 0, none⟩)), (7, .int .i64 r405), (8, .int .i64 s.2)]) (fun s g => [At.box b3 25 [.int .i64 a1.e0.Re, .int .i64 a1.e0.Im, .int .i64 a1.e0.Den, .int .i64 a1.e1.Re, .int .i64 a1.e1.Im, .int .i64 a1.e1.Den, .int .i64 a1.e2.Re, .int .i64 a1.e2.Im, .int .i64 a1.e2.Den, .int .i64 a1.e3.Re, .int .i64 a1.e3.Im, .int .i64 a1.e3.Den], At.box b4 25 [.int .i64 b2.e0.Re, .int .i64 b2.e0.Im, .int .i64 b2.e0.Den, .int .i64 b2.e1.Re, .int .i64 b2.e1.Im, .int .i64 b2.e1.Den, .int .i64 b2.e2.Re, .int .i64 b2.e2.Im, .int .i64 b2.e2.Den, .int .i64 b2.e3.Re, .int .i64 b2.e3.Im, .int .i64 b2.e3.Den], At.box b5 25 [.int .i64 0, .int .i64 0, .int .i64 0, .int .i64 0, .int .i64 0, .int .i64 0, .int .i64 0, .int .i64 0, .int .i64 0, .int .i64 0, .int .i64 0, .int .i64 0], At.box b13 25 [.int .i64 s.1.e0.Re, .int .i64 s.1.e0.Im, .int .i64 s.1.e0.Den, .int .i64 s.1.e1.Re, .int .i64 s.1.e1.Im, .int .i64 s.1.e1.Den, .int .i64 s.1.e2.Re, .int .i64 s.1.e2.Im, .int .i64 s.1.e2.Den, .int .i64 s.1.e3.Re, .int .i64 s.1.e3.Im, .int .i64 s.1.e3.Den]]) (fun t => ref33_Mul.k26 r405 t = some st1) (fun t g => [(2, .pointer (some ⟨b3, 0, none⟩)), (3, .pointer (some ⟨b4, 0, none⟩)), (4, .pointer (some ⟨b5, 0, none⟩)), (6, .pointer (some ⟨b13, 0, none⟩)), (7, .int .i64 r405)]) (fun t g => [At.box b3 25 [.int .i64 a1.e0.Re, .int .i64 a1.e0.Im, .int .i64 a1.e0.Den, .int .i64 a1.e1.Re, .int .i64 a1.e1.Im, .int .i64 a1.e1.Den, .int .i64 a1.e2.Re, .int .i64 a1.e2.Im, .int .i64 a1.e2.Den, .int .i64 a1.e3.Re, .int .i64 a1.e3.Im, .int .i64 a1.e3.Den], At.box b4 25 [.int .i64 b2.e0.Re, .int .i64 b2.e0.Im, .int .i64 b2.e0.Den, .int .i64 b2.e1.Re, .int .i64 b2.e1.Im, .int .i64 b2.e1.Den, .int .i64 b2.e2.Re, .int .i64 b2.e2.Im, .int .i64 b2.e2.Den, .int .i64 b2.e3.Re, .int .i64 b2.e3.Im, .int .i64 b2.e3.Den], At.box b5 25 [.int .i64 0, .int .i64 0, .int .i64 0, .int .i64 0, .int .i64 0, .int .i64 0, .int .i64 0, .int .i64 0, .int .i64 0, .int .i64 0, .int .i64 0, .int .i64 0], At.box b13 25 [.int .i64 t.e0.Re, .int .i64 t.e0.Im, .int .i64 t.e0.Den, .int .i64 t.e1.Re, .int .i64 t.e1.Im, .int .i64 t.e1.Den, .int .i64 t.e2.Re, .int .i64 t.e2.Im, .int .i64 t.e2.Den, .int .i64 t.e3.Re, .int .i64 t.e3.Im, .int .i64 t.e3.Den]]) (out404, 0) () hit (fun _ h => Heap.to h) ?_ ?_
          · clear hit
            rintro ⟨out740, c741⟩ ⟨⟩ st2 H2 hb2 hr2
            replace H2 : ref33_Mul.s25 a1 b2 r405 out740 c741 = some st2 := H2
            unfold ref33_Mul.s25 at H2
            refine JQ.sub [(2, .pointer (some ⟨b3, 0, none⟩)), (3, .pointer (some ⟨b4, 0, none⟩)), (4, .pointer (some ⟨b5, 0, none⟩)), (6, .pointer (some ⟨b13, 0, none⟩)), (7, .int .i64 r405), (8, .int .i64 c741)] ?_
            refine JQ.turn (Δ' := [At.box b3 25 [.int .i64 a1.e0.Re, .int .i64 a1.e0.Im, .int .i64 a1.e0.Den, .int .i64 a1.e1.Re, .int .i64 a1.e1.Im, .int .i64 a1.e1.Den, .int .i64 a1.e2.Re, .int .i64 a1.e2.Im, .int .i64 a1.e2.Den, .int .i64 a1.e3.Re, .int .i64 a1.e3.Im, .int .i64 a1.e3.Den], At.box b4 25 [.int .i64 b2.e0.Re, .int .i64 b2.e0.Im, .int .i64 b2.e0.Den, .int .i64 b2.e1.Re, .int .i64 b2.e1.Im, .int .i64 b2.e1.Den, .int .i64 b2.e2.Re, .int .i64 b2.e2.Im, .int .i64 b2.e2.Den, .int .i64 b2.e3.Re, .int .i64 b2.e3.Im, .int .i64 b2.e3.Den], At.box b5 25 [.int .i64 0, .int .i64 0, .int .i64 0, .int .i64 0, .int .i64 0, .int .i64 0, .int .i64 0, .int .i64 0, .int .i64 0, .int .i64 0, .int .i64 0, .int .i64 0], At.box b13 25 [.int .i64 out740.e0.Re, .int .i64 out740.e0.Im, .int .i64 out740.e0.Den, .int .i64 out740.e1.Re, .int .i64 out740.e1.Im, .int .i64 out740.e1.Den, .int .i64 out740.e2.Re, .int .i64 out740.e2.Im, .int .i64 out740.e2.Den, .int .i64 out740.e3.Re, .int .i64 out740.e3.Im, .int .i64 out740.e3.Den]]) (fun _ h => h.to) ?_
            refine J.seq ?_
            refine J.seq ?_
            refine J.region ?_
            refine JL.mv (.int .i64 c741) ?_
            refine JL.pur (.bool (decide (c741 < 2))) (some 25) ?_
            refine JL.nil ?_
            refine JQ.then_normal ?_
            refine JQ.sub [(2, .pointer (some ⟨b3, 0, none⟩)), (3, .pointer (some ⟨b4, 0, none⟩)), (4, .pointer (some ⟨b5, 0, none⟩)), (6, .pointer (some ⟨b13, 0, none⟩)), (7, .int .i64 r405), (8, .int .i64 c741), (25, .bool (decide (c741 < 2)))] ?_
            rcases ite_cases H2 with ⟨h802, H2⟩ | ⟨h802, H2⟩
            · refine J.cond_true h802 ?_
              refine J.skip ?_
              refine JQ.then_normal ?_
              refine JQ.sub [(2, .pointer (some ⟨b3, 0, none⟩)), (3, .pointer (some ⟨b4, 0, none⟩)), (4, .pointer (some ⟨b5, 0, none⟩)), (6, .pointer (some ⟨b13, 0, none⟩)), (7, .int .i64 r405), (8, .int .i64 c741)] ?_
              refine J.seq ?_
              refine J.block ?_
              refine J.join (T := (Cx × Bool)) (G := Nat) (fun t => ref33_Mul.k27 r405 out740 c741 t.1 t.2 = some st2) (fun t g => [(2, .pointer (some ⟨b3, 0, none⟩)), (3, .pointer (some ⟨b4, 0, none⟩)), (4, .pointer (some ⟨b5, 0, none⟩)), (6, .pointer (some ⟨b13, 0, none⟩)), (7, .int .i64 r405), (8, .int .i64 c741), (9, .pointer (some ⟨g, 0, none⟩)), (10, .bool t.2)]) (fun t g => [At.box b3 25 [.int .i64 a1.e0.Re, .int .i64 a1.e0.Im, .int .i64 a1.e0.Den, .int .i64 a1.e1.Re, .int .i64 a1.e1.Im, .int .i64 a1.e1.Den, .int .i64 a1.e2.Re, .int .i64 a1.e2.Im, .int .i64 a1.e2.Den, .int .i64 a1.e3.Re, .int .i64 a1.e3.Im, .int .i64 a1.e3.Den], At.box b4 25 [.int .i64 b2.e0.Re, .int .i64 b2.e0.Im, .int .i64 b2.e0.Den, .int .i64 b2.e1.Re, .int .i64 b2.e1.Im, .int .i64 b2.e1.Den, .int .i64 b2.e2.Re, .int .i64 b2.e2.Im, .int .i64 b2.e2.Den, .int .i64 b2.e3.Re, .int .i64 b2.e3.Im, .int .i64 b2.e3.Den], At.box b5 25 [.int .i64 0, .int .i64 0, .int .i64 0, .int .i64 0, .int .i64 0, .int .i64 0, .int .i64 0, .int .i64 0, .int .i64 0, .int .i64 0, .int .i64 0, .int .i64 0], At.box b13 25 [.int .i64 out740.e0.Re, .int .i64 out740.e0.Im, .int .i64 out740.e0.Den, .int .i64 out740.e1.Re, .int .i64 out740.e1.Im, .int .i64 out740.e1.Den, .int .i64 out740.e2.Re, .int .i64 out740.e2.Im, .int .i64 out740.e2.Den, .int .i64 out740.e3.Re, .int .i64 out740.e3.Im, .int .i64 out740.e3.Den], At.box g 23 [.int .i64 t.1.Re, .int .i64 t.1.Im, .int .i64 t.1.Den]]) ?_ ?_
              · obtain ⟨⟨h836, h837⟩, H2⟩ := ite_must H2
                obtain ⟨⟨h838, h839⟩, H2⟩ := ite_must H2
                obtain ⟨⟨h840, h841⟩, H2⟩ := ite_must H2
                obtain ⟨⟨h842, h843⟩, H2⟩ := ite_must H2
                obtain ⟨t844, hc845, H2⟩ := bind_some H2
                refine JY.start [21] #[false, false, false, false, false, false, false, false, false, false, false, false, false, false, false, false, false, false, false, false, false, false, false] ?_
                refine JY.pur (hi := rfl) 0 #[true, false, false, false, false, false, false, false, false, false, false, false, false, false, false, false, false, false, false, false, false, false, false] (.int .i64 r405) (some 29) want ?_
                refine JY.pur (hi := rfl) 1 #[true, true, false, false, false, false, false, false, false, false, false, false, false, false, false, false, false, false, false, false, false, false, false] (.int .i64 (w64 (2 * r405))) (some 30) want ?_
                obtain ⟨h847, h848⟩ : 0 ≤ w64 (2 * r405) ∧ w64 (2 * r405) < 4 := ⟨h836, h837⟩
                refine JY.puw (hi := rfl) 2 #[true, true, true, false, false, false, false, false, false, false, false, false, false, false, false, false, false, false, false, false, false, false, false] (.pointer (some ⟨b3, 0 + (w64 (2 * r405)).toNat * 3, none⟩)) (some 31) want (givesW_ixArrD (b := b3) (o := 0) (i := w64 (2 * r405)) 4 3 .i64 h847 h848 Try.underlying25 tySize_23) ?_
                refine JY.take (hi := rfl) 3 #[true, true, true, true, false, false, false, false, false, false, false, false, false, false, false, false, false, false, false, false, false, false, false] (.agg #[.int .i64 ((ix ([a1.e0, a1.e1, a1.e2, a1.e3] : List Cx) (w64 (2 * r405))).Re), .int .i64 ((ix ([a1.e0, a1.e1, a1.e2, a1.e3] : List Cx) (w64 (2 * r405))).Im), .int .i64 ((ix ([a1.e0, a1.e1, a1.e2, a1.e3] : List Cx) (w64 (2 * r405))).Den)]) (some 32) [true, true, true, true] want (gives_loadEl (f := fl_Cx) 0 0 (w64 (2 * r405)) (elems_arr b3 25 [.int .i64 a1.e0.Re, .int .i64 a1.e0.Im, .int .i64 a1.e0.Den, .int .i64 a1.e1.Re, .int .i64 a1.e1.Im, .int .i64 a1.e1.Den, .int .i64 a1.e2.Re, .int .i64 a1.e2.Im, .int .i64 a1.e2.Den, .int .i64 a1.e3.Re, .int .i64 a1.e3.Im, .int .i64 a1.e3.Den] fl_Cx ([a1.e0, a1.e1, a1.e2, a1.e3] : List Cx) 0) h847 h848 tySize_23 (.inl ⟨tyAgg_23, rfl⟩)) ?_
                refine JY.pur (hi := rfl) 4 #[true, true, true, true, true, false, false, false, false, false, false, false, false, false, false, false, false, false, false, false, false, false, false] (.int .i64 c741) (some 33) want ?_
                obtain ⟨h849, h850⟩ : 0 ≤ c741 ∧ c741 < 4 := ⟨h838, h839⟩
                refine JY.puw (hi := rfl) 5 #[true, true, true, true, true, true, false, false, false, false, false, false, false, false, false, false, false, false, false, false, false, false, false] (.pointer (some ⟨b4, 0 + c741.toNat * 3, none⟩)) (some 34) want (givesW_ixArrD (b := b4) (o := 0) (i := c741) 4 3 .i64 h849 h850 Try.underlying25 tySize_23) ?_
                refine JY.take (hi := rfl) 6 #[true, true, true, true, true, true, true, false, false, false, false, false, false, false, false, false, false, false, false, false, false, false, false] (.agg #[.int .i64 ((ix ([b2.e0, b2.e1, b2.e2, b2.e3] : List Cx) c741).Re), .int .i64 ((ix ([b2.e0, b2.e1, b2.e2, b2.e3] : List Cx) c741).Im), .int .i64 ((ix ([b2.e0, b2.e1, b2.e2, b2.e3] : List Cx) c741).Den)]) (some 35) [true, true, true, true] want (gives_loadEl (f := fl_Cx) 1 0 c741 (elems_arr b4 25 [.int .i64 b2.e0.Re, .int .i64 b2.e0.Im, .int .i64 b2.e0.Den, .int .i64 b2.e1.Re, .int .i64 b2.e1.Im, .int .i64 b2.e1.Den, .int .i64 b2.e2.Re, .int .i64 b2.e2.Im, .int .i64 b2.e2.Den, .int .i64 b2.e3.Re, .int .i64 b2.e3.Im, .int .i64 b2.e3.Den] fl_Cx ([b2.e0, b2.e1, b2.e2, b2.e3] : List Cx) 0) h849 h850 tySize_23 (.inl ⟨tyAgg_23, rfl⟩)) ?_
                refine JY.pur (hi := rfl) 7 #[true, true, true, true, true, true, true, true, false, false, false, false, false, false, false, false, false, false, false, false, false, false, false] (.int .i64 r405) (some 36) want ?_
                refine JY.pur (hi := rfl) 8 #[true, true, true, true, true, true, true, true, true, false, false, false, false, false, false, false, false, false, false, false, false, false, false] (.int .i64 (w64 (2 * r405))) (some 37) want ?_
                refine JY.pur (hi := rfl) 9 #[true, true, true, true, true, true, true, true, true, true, false, false, false, false, false, false, false, false, false, false, false, false, false] (.int .i64 (w64 ((w64 (2 * r405)) + 1))) (some 38) want ?_
                obtain ⟨h851, h852⟩ : 0 ≤ w64 ((w64 (2 * r405)) + 1) ∧ w64 ((w64 (2 * r405)) + 1) < 4 := ⟨h840, h841⟩
                refine JY.puw (hi := rfl) 10 #[true, true, true, true, true, true, true, true, true, true, true, false, false, false, false, false, false, false, false, false, false, false, false] (.pointer (some ⟨b3, 0 + (w64 ((w64 (2 * r405)) + 1)).toNat * 3, none⟩)) (some 39) want (givesW_ixArrD (b := b3) (o := 0) (i := w64 ((w64 (2 * r405)) + 1)) 4 3 .i64 h851 h852 Try.underlying25 tySize_23) ?_
                refine JY.take (hi := rfl) 11 #[true, true, true, true, true, true, true, true, true, true, true, true, false, false, false, false, false, false, false, false, false, false, false] (.agg #[.int .i64 ((ix ([a1.e0, a1.e1, a1.e2, a1.e3] : List Cx) (w64 ((w64 (2 * r405)) + 1))).Re), .int .i64 ((ix ([a1.e0, a1.e1, a1.e2, a1.e3] : List Cx) (w64 ((w64 (2 * r405)) + 1))).Im), .int .i64 ((ix ([a1.e0, a1.e1, a1.e2, a1.e3] : List Cx) (w64 ((w64 (2 * r405)) + 1))).Den)]) (some 40) [true, true, true, true] want (gives_loadEl (f := fl_Cx) 0 0 (w64 ((w64 (2 * r405)) + 1)) (elems_arr b3 25 [.int .i64 a1.e0.Re, .int .i64 a1.e0.Im, .int .i64 a1.e0.Den, .int .i64 a1.e1.Re, .int .i64 a1.e1.Im, .int .i64 a1.e1.Den, .int .i64 a1.e2.Re, .int .i64 a1.e2.Im, .int .i64 a1.e2.Den, .int .i64 a1.e3.Re, .int .i64 a1.e3.Im, .int .i64 a1.e3.Den] fl_Cx ([a1.e0, a1.e1, a1.e2, a1.e3] : List Cx) 0) h851 h852 tySize_23 (.inl ⟨tyAgg_23, rfl⟩)) ?_
                refine JY.pur (hi := rfl) 12 #[true, true, true, true, true, true, true, true, true, true, true, true, true, false, false, false, false, false, false, false, false, false, false] (.int .i64 c741) (some 41) want ?_
                refine JY.pur (hi := rfl) 13 #[true, true, true, true, true, true, true, true, true, true, true, true, true, true, false, false, false, false, false, false, false, false, false] (.int .i64 (w64 (2 + c741))) (some 42) want ?_
                obtain ⟨h853, h854⟩ : 0 ≤ w64 (2 + c741) ∧ w64 (2 + c741) < 4 := ⟨h842, h843⟩
                refine JY.puw (hi := rfl) 14 #[true, true, true, true, true, true, true, true, true, true, true, true, true, true, true, false, false, false, false, false, false, false, false] (.pointer (some ⟨b4, 0 + (w64 (2 + c741)).toNat * 3, none⟩)) (some 43) want (givesW_ixArrD (b := b4) (o := 0) (i := w64 (2 + c741)) 4 3 .i64 h853 h854 Try.underlying25 tySize_23) ?_
                refine JY.take (hi := rfl) 15 #[true, true, true, true, true, true, true, true, true, true, true, true, true, true, true, true, false, false, false, false, false, false, false] (.agg #[.int .i64 ((ix ([b2.e0, b2.e1, b2.e2, b2.e3] : List Cx) (w64 (2 + c741))).Re), .int .i64 ((ix ([b2.e0, b2.e1, b2.e2, b2.e3] : List Cx) (w64 (2 + c741))).Im), .int .i64 ((ix ([b2.e0, b2.e1, b2.e2, b2.e3] : List Cx) (w64 (2 + c741))).Den)]) (some 44) [true, true, true, true] want (gives_loadEl (f := fl_Cx) 1 0 (w64 (2 + c741)) (elems_arr b4 25 [.int .i64 b2.e0.Re, .int .i64 b2.e0.Im, .int .i64 b2.e0.Den, .int .i64 b2.e1.Re, .int .i64 b2.e1.Im, .int .i64 b2.e1.Den, .int .i64 b2.e2.Re, .int .i64 b2.e2.Im, .int .i64 b2.e2.Den, .int .i64 b2.e3.Re, .int .i64 b2.e3.Im, .int .i64 b2.e3.Den] fl_Cx ([b2.e0, b2.e1, b2.e2, b2.e3] : List Cx) 0) h853 h854 tySize_23 (.inl ⟨tyAgg_23, rfl⟩)) ?_
                refine JY.all [16, 20] ⟨⟨_, rfl, ?_⟩, ⟨_, rfl, ?_⟩, trivial⟩
                · refine JL.call [] [] [] (ref33_both.ok (⟨((ix ([a1.e0, a1.e1, a1.e2, a1.e3] : List Cx) (w64 (2 * r405))).Re), ((ix ([a1.e0, a1.e1, a1.e2, a1.e3] : List Cx) (w64 (2 * r405))).Im), ((ix ([a1.e0, a1.e1, a1.e2, a1.e3] : List Cx) (w64 (2 * r405))).Den)⟩ : Cx) (⟨((ix ([b2.e0, b2.e1, b2.e2, b2.e3] : List Cx) c741).Re), ((ix ([b2.e0, b2.e1, b2.e2, b2.e3] : List Cx) c741).Im), ((ix ([b2.e0, b2.e1, b2.e2, b2.e3] : List Cx) c741).Den)⟩ : Cx) (⟨((ix ([a1.e0, a1.e1, a1.e2, a1.e3] : List Cx) (w64 ((w64 (2 * r405)) + 1))).Re), ((ix ([a1.e0, a1.e1, a1.e2, a1.e3] : List Cx) (w64 ((w64 (2 * r405)) + 1))).Im), ((ix ([a1.e0, a1.e1, a1.e2, a1.e3] : List Cx) (w64 ((w64 (2 * r405)) + 1))).Den)⟩ : Cx) (⟨((ix ([b2.e0, b2.e1, b2.e2, b2.e3] : List Cx) (w64 (2 + c741))).Re), ((ix ([b2.e0, b2.e1, b2.e2, b2.e3] : List Cx) (w64 (2 + c741))).Im), ((ix ([b2.e0, b2.e1, b2.e2, b2.e3] : List Cx) (w64 (2 + c741))).Den)⟩ : Cx) _ hc845) trivial ?_
                  rintro _ _ ⟨rfl, rfl⟩
                  refine JL.nil ?_
                  refine JY.ran #[true, true, true, true, true, true, true, true, true, true, true, true, true, true, true, true, true, false, false, false, false, false, false] [true, true, true, true] ?_
                  refine JY.pur (hi := rfl) 17 #[true, true, true, true, true, true, true, true, true, true, true, true, true, true, true, true, true, true, false, false, false, false, false] (.tuple #[.agg #[.int .i64 t844.1.Re, .int .i64 t844.1.Im, .int .i64 t844.1.Den], .bool t844.2]) (some 28) want ?_
                  refine JY.pur (hi := rfl) 18 #[true, true, true, true, true, true, true, true, true, true, true, true, true, true, true, true, true, true, true, false, false, false, false] (.agg #[.int .i64 t844.1.Re, .int .i64 t844.1.Im, .int .i64 t844.1.Den]) (some 46) want ?_
                  refine JY.pur (hi := rfl) 19 #[true, true, true, true, true, true, true, true, true, true, true, true, true, true, true, true, true, true, true, true, false, false, false] (.bool t844.2) (some 47) want ?_
                  refine JY.all [20] ⟨⟨_, rfl, ?_⟩, trivial⟩
                  refine JL.alloc [.int .i64 0, .int .i64 0, .int .i64 0] fun b857 => ?_
                  refine JL.nil ?_
                  refine JY.ran #[true, true, true, true, true, true, true, true, true, true, true, true, true, true, true, true, true, true, true, true, true, false, false] [true, true, true, true, false] ?_
                  refine JY.all [21] ⟨⟨_, rfl, ?_⟩, trivial⟩
                  refine JL.store 4 b857 0 23 [.int .i64 0, .int .i64 0, .int .i64 0] [.int .i64 t844.1.Re, .int .i64 t844.1.Im, .int .i64 t844.1.Den] tySize_23 ?_
                  refine JL.nil ?_
                  refine JY.ranD #[true, true, true, true, true, true, true, true, true, true, true, true, true, true, true, true, true, true, true, true, true, true, false] ?_
                  refine JY.pur (hi := rfl) 22 #[true, true, true, true, true, true, true, true, true, true, true, true, true, true, true, true, true, true, true, true, true, true, true] (.bool t844.2) (some 10) want ?_
                  refine JY.done ?_
                  refine JQ.then_normal ?_
                  exact JQ.meet (t844.1, t844.2) b857 H2 (fun _ h => Heap.to h)
                · refine JL.alloc [.int .i64 0, .int .i64 0, .int .i64 0] fun b858 => ?_
                  refine JL.nil ?_
                  refine JY.ran #[true, true, true, true, true, true, true, true, true, true, true, true, true, true, true, true, false, false, false, false, true, false, false] [true, true, true, true, false] ?_
                  refine JY.all [16] ⟨⟨_, rfl, ?_⟩, trivial⟩
                  refine JL.call [] [] [] (ref33_both.ok (⟨((ix ([a1.e0, a1.e1, a1.e2, a1.e3] : List Cx) (w64 (2 * r405))).Re), ((ix ([a1.e0, a1.e1, a1.e2, a1.e3] : List Cx) (w64 (2 * r405))).Im), ((ix ([a1.e0, a1.e1, a1.e2, a1.e3] : List Cx) (w64 (2 * r405))).Den)⟩ : Cx) (⟨((ix ([b2.e0, b2.e1, b2.e2, b2.e3] : List Cx) c741).Re), ((ix ([b2.e0, b2.e1, b2.e2, b2.e3] : List Cx) c741).Im), ((ix ([b2.e0, b2.e1, b2.e2, b2.e3] : List Cx) c741).Den)⟩ : Cx) (⟨((ix ([a1.e0, a1.e1, a1.e2, a1.e3] : List Cx) (w64 ((w64 (2 * r405)) + 1))).Re), ((ix ([a1.e0, a1.e1, a1.e2, a1.e3] : List Cx) (w64 ((w64 (2 * r405)) + 1))).Im), ((ix ([a1.e0, a1.e1, a1.e2, a1.e3] : List Cx) (w64 ((w64 (2 * r405)) + 1))).Den)⟩ : Cx) (⟨((ix ([b2.e0, b2.e1, b2.e2, b2.e3] : List Cx) (w64 (2 + c741))).Re), ((ix ([b2.e0, b2.e1, b2.e2, b2.e3] : List Cx) (w64 (2 + c741))).Im), ((ix ([b2.e0, b2.e1, b2.e2, b2.e3] : List Cx) (w64 (2 + c741))).Den)⟩ : Cx) _ hc845) trivial ?_
                  rintro _ _ ⟨rfl, rfl⟩
                  refine JL.nil ?_
                  refine JY.ran #[true, true, true, true, true, true, true, true, true, true, true, true, true, true, true, true, true, false, false, false, true, false, false] [true, true, true, true, false] ?_
                  refine JY.pur (hi := rfl) 17 #[true, true, true, true, true, true, true, true, true, true, true, true, true, true, true, true, true, true, false, false, true, false, false] (.tuple #[.agg #[.int .i64 t844.1.Re, .int .i64 t844.1.Im, .int .i64 t844.1.Den], .bool t844.2]) (some 28) want ?_
                  refine JY.pur (hi := rfl) 18 #[true, true, true, true, true, true, true, true, true, true, true, true, true, true, true, true, true, true, true, false, true, false, false] (.agg #[.int .i64 t844.1.Re, .int .i64 t844.1.Im, .int .i64 t844.1.Den]) (some 46) want ?_
                  refine JY.pur (hi := rfl) 19 #[true, true, true, true, true, true, true, true, true, true, true, true, true, true, true, true, true, true, true, true, true, false, false] (.bool t844.2) (some 47) want ?_
                  refine JY.all [21] ⟨⟨_, rfl, ?_⟩, trivial⟩
                  refine JL.store 4 b858 0 23 [.int .i64 0, .int .i64 0, .int .i64 0] [.int .i64 t844.1.Re, .int .i64 t844.1.Im, .int .i64 t844.1.Den] tySize_23 ?_
                  refine JL.nil ?_
                  refine JY.ranD #[true, true, true, true, true, true, true, true, true, true, true, true, true, true, true, true, true, true, true, true, true, true, false] ?_
                  refine JY.pur (hi := rfl) 22 #[true, true, true, true, true, true, true, true, true, true, true, true, true, true, true, true, true, true, true, true, true, true, true] (.bool t844.2) (some 10) want ?_
                  refine JY.done ?_
                  refine JQ.then_normal ?_
                  exact JQ.meet (t844.1, t844.2) b858 H2 (fun _ h => Heap.to h)
              · clear H2
                rintro ⟨x830, ok831⟩ b828 H2
                replace H2 : ref33_Mul.k27 r405 out740 c741 x830 ok831 = some st2 := H2
                unfold ref33_Mul.k27 at H2
                refine JQ.sub [(2, .pointer (some ⟨b3, 0, none⟩)), (3, .pointer (some ⟨b4, 0, none⟩)), (4, .pointer (some ⟨b5, 0, none⟩)), (6, .pointer (some ⟨b13, 0, none⟩)), (7, .int .i64 r405), (8, .int .i64 c741), (9, .pointer (some ⟨b828, 0, none⟩)), (10, .bool ok831)] ?_
                refine JQ.turn (Δ' := [At.box b3 25 [.int .i64 a1.e0.Re, .int .i64 a1.e0.Im, .int .i64 a1.e0.Den, .int .i64 a1.e1.Re, .int .i64 a1.e1.Im, .int .i64 a1.e1.Den, .int .i64 a1.e2.Re, .int .i64 a1.e2.Im, .int .i64 a1.e2.Den, .int .i64 a1.e3.Re, .int .i64 a1.e3.Im, .int .i64 a1.e3.Den], At.box b4 25 [.int .i64 b2.e0.Re, .int .i64 b2.e0.Im, .int .i64 b2.e0.Den, .int .i64 b2.e1.Re, .int .i64 b2.e1.Im, .int .i64 b2.e1.Den, .int .i64 b2.e2.Re, .int .i64 b2.e2.Im, .int .i64 b2.e2.Den, .int .i64 b2.e3.Re, .int .i64 b2.e3.Im, .int .i64 b2.e3.Den], At.box b5 25 [.int .i64 0, .int .i64 0, .int .i64 0, .int .i64 0, .int .i64 0, .int .i64 0, .int .i64 0, .int .i64 0, .int .i64 0, .int .i64 0, .int .i64 0, .int .i64 0], At.box b13 25 [.int .i64 out740.e0.Re, .int .i64 out740.e0.Im, .int .i64 out740.e0.Den, .int .i64 out740.e1.Re, .int .i64 out740.e1.Im, .int .i64 out740.e1.Den, .int .i64 out740.e2.Re, .int .i64 out740.e2.Im, .int .i64 out740.e2.Den, .int .i64 out740.e3.Re, .int .i64 out740.e3.Im, .int .i64 out740.e3.Den], At.box b828 23 [.int .i64 x830.Re, .int .i64 x830.Im, .int .i64 x830.Den]]) (fun _ h => h.to) ?_
                refine J.seq ?_
                refine J.seq ?_
                refine J.region ?_
                refine JL.mv (.bool ok831) ?_
                refine JL.pur (.bool (!ok831)) (some 49) ?_
                refine JL.nil ?_
                refine JQ.then_normal ?_
                refine JQ.sub [(2, .pointer (some ⟨b3, 0, none⟩)), (3, .pointer (some ⟨b4, 0, none⟩)), (4, .pointer (some ⟨b5, 0, none⟩)), (6, .pointer (some ⟨b13, 0, none⟩)), (7, .int .i64 r405), (8, .int .i64 c741), (9, .pointer (some ⟨b828, 0, none⟩)), (49, .bool (!ok831))] ?_
                rcases ite_cases H2 with ⟨h832, H2⟩ | ⟨h832, H2⟩
                · refine J.cond_true h832 ?_
                  refine J.seq ?_
                  refine J.region ?_
                  refine JL.pur (.agg #[.int .i64 0, .int .i64 0, .int .i64 0, .int .i64 0, .int .i64 0, .int .i64 0, .int .i64 0, .int .i64 0, .int .i64 0, .int .i64 0, .int .i64 0, .int .i64 0]) (some 50) ?_
                  refine JL.store 2 b5 0 25 [.int .i64 0, .int .i64 0, .int .i64 0, .int .i64 0, .int .i64 0, .int .i64 0, .int .i64 0, .int .i64 0, .int .i64 0, .int .i64 0, .int .i64 0, .int .i64 0] [.int .i64 0, .int .i64 0, .int .i64 0, .int .i64 0, .int .i64 0, .int .i64 0, .int .i64 0, .int .i64 0, .int .i64 0, .int .i64 0, .int .i64 0, .int .i64 0] tySize_25 ?_
                  refine JL.as (.int .i64 16) ?_
                  refine JL.nil ?_
                  refine JQ.then_normal ?_
                  refine JQ.sub [(4, .pointer (some ⟨b5, 0, none⟩)), (5, .int .i64 16)] ?_
                  refine JQ.mask [At.box b5 25 [.int .i64 0, .int .i64 0, .int .i64 0, .int .i64 0, .int .i64 0, .int .i64 0, .int .i64 0, .int .i64 0, .int .i64 0, .int .i64 0, .int .i64 0, .int .i64 0]] [false, false, true, false, false] ?_
                  refine J.ret ?_
                  refine JQ.then_ret ?_
                  refine JQ.blk_ret ?_
                  refine JQ.then_ret ?_
                  refine JQ.then_ret ?_
                  refine JQ.blk_ret ?_
                  refine JQ.met_ret ?_
                  refine JQ.blk_ret ?_
                  refine JQ.then_ret ?_
                  refine JQ.then_ret ?_
                  refine JQ.blk_ret ?_
                  refine JQ.met_ret ?_
                  refine JQ.then_ret ?_
                  rw [hr2 _ (Option.some.inj H2).symm, fin_ret] at H1
                  rw [hr1 _ (Option.some.inj H1).symm, fin_ret] at H0
                  obtain rfl := Option.some.inj H0
                  exact JQ.done' (rs := [.cell 4 25, .tmp 5]) (vs := [.agg #[.int .i64 0, .int .i64 0, .int .i64 0, .int .i64 0, .int .i64 0, .int .i64 0, .int .i64 0, .int .i64 0, .int .i64 0, .int .i64 0, .int .i64 0, .int .i64 0], .int .i64 16]) [] (.inr rfl) ⟨⟨b5, 0, _, _, by kernel_rfl, by kernel_rfl, holds_box b5 25 [.int .i64 0, .int .i64 0, .int .i64 0, .int .i64 0, .int .i64 0, .int .i64 0, .int .i64 0, .int .i64 0, .int .i64 0, .int .i64 0, .int .i64 0, .int .i64 0], .inl ⟨tyAgg_25, tySize_25, rfl⟩⟩, by kernel_rfl, trivial⟩ (fun _ h => Heap.to (Heap.pick [] (by decide) h)) ⟨rfl, rfl⟩
                · refine J.cond_false h832 ?_
                  refine J.skip ?_
                  refine JQ.then_normal ?_
                  refine JQ.sub [(2, .pointer (some ⟨b3, 0, none⟩)), (3, .pointer (some ⟨b4, 0, none⟩)), (4, .pointer (some ⟨b5, 0, none⟩)), (6, .pointer (some ⟨b13, 0, none⟩)), (7, .int .i64 r405), (8, .int .i64 c741), (9, .pointer (some ⟨b828, 0, none⟩))] ?_
                  refine J.region ?_
                  refine JL.mv (.int .i64 r405) ?_
                  refine JL.pur (.int .i64 (w64 (2 * r405))) (some 52) ?_
                  refine JL.mv (.int .i64 c741) ?_
                  refine JL.pur (.int .i64 (w64 ((w64 (2 * r405)) + c741))) (some 54) ?_
                  refine JL.val (.agg #[.int .i64 x830.Re, .int .i64 x830.Im, .int .i64 x830.Den]) (some 55) (yields_load_boxes 4 0 [.int .i64 x830.Re, .int .i64 x830.Im, .int .i64 x830.Den] (holds_box b828 23 [.int .i64 x830.Re, .int .i64 x830.Im, .int .i64 x830.Den]) tyAgg_23 tySize_23) ?_
                  obtain ⟨⟨h833, h834⟩, H2⟩ := ite_must H2
                  refine JL.val (.pointer (some ⟨b13, 0 + (w64 ((w64 (2 * r405)) + c741)).toNat * 3, none⟩)) (some 56) (gives_ixArrD (b := b13) (o := 0) (i := w64 ((w64 (2 * r405)) + c741)) 4 3 .i64 h833 h834 Try.underlying25 tySize_23) ?_
                  obtain ⟨arr835, earr835, H2⟩ := lt_some H2
                  refine JL.storeArr b13 0 0 3 25 fl_Cx ([out740.e0, out740.e1, out740.e2, out740.e3] : List Cx) (w64 ((w64 (2 * r405)) + c741)) [.int .i64 out740.e0.Re, .int .i64 out740.e0.Im, .int .i64 out740.e0.Den, .int .i64 out740.e1.Re, .int .i64 out740.e1.Im, .int .i64 out740.e1.Den, .int .i64 out740.e2.Re, .int .i64 out740.e2.Im, .int .i64 out740.e2.Den, .int .i64 out740.e3.Re, .int .i64 out740.e3.Im, .int .i64 out740.e3.Den] [] [] x830 h833 h834 tySize_23 ?_
                  rw [ofL4 fl_Cx (l := ([out740.e0, out740.e1, out740.e2, out740.e3] : List Cx).set (w64 ((w64 (2 * r405)) + c741)).toNat x830) (by simp), earr835]
                  refine JQ.turn (Δ' := [At.box b3 25 [.int .i64 a1.e0.Re, .int .i64 a1.e0.Im, .int .i64 a1.e0.Den, .int .i64 a1.e1.Re, .int .i64 a1.e1.Im, .int .i64 a1.e1.Den, .int .i64 a1.e2.Re, .int .i64 a1.e2.Im, .int .i64 a1.e2.Den, .int .i64 a1.e3.Re, .int .i64 a1.e3.Im, .int .i64 a1.e3.Den], At.box b4 25 [.int .i64 b2.e0.Re, .int .i64 b2.e0.Im, .int .i64 b2.e0.Den, .int .i64 b2.e1.Re, .int .i64 b2.e1.Im, .int .i64 b2.e1.Den, .int .i64 b2.e2.Re, .int .i64 b2.e2.Im, .int .i64 b2.e2.Den, .int .i64 b2.e3.Re, .int .i64 b2.e3.Im, .int .i64 b2.e3.Den], At.box b5 25 [.int .i64 0, .int .i64 0, .int .i64 0, .int .i64 0, .int .i64 0, .int .i64 0, .int .i64 0, .int .i64 0, .int .i64 0, .int .i64 0, .int .i64 0, .int .i64 0], At.box b13 25 [.int .i64 arr835.e0.Re, .int .i64 arr835.e0.Im, .int .i64 arr835.e0.Den, .int .i64 arr835.e1.Re, .int .i64 arr835.e1.Im, .int .i64 arr835.e1.Den, .int .i64 arr835.e2.Re, .int .i64 arr835.e2.Im, .int .i64 arr835.e2.Den, .int .i64 arr835.e3.Re, .int .i64 arr835.e3.Im, .int .i64 arr835.e3.Den], At.box b828 23 [.int .i64 x830.Re, .int .i64 x830.Im, .int .i64 x830.Den]]) (fun _ h => h.to) ?_
                  refine JL.nil ?_
                  refine JQ.blk_normal ?_
                  refine JQ.then_normal ?_
                  refine JQ.sub [(2, .pointer (some ⟨b3, 0, none⟩)), (3, .pointer (some ⟨b4, 0, none⟩)), (4, .pointer (some ⟨b5, 0, none⟩)), (6, .pointer (some ⟨b13, 0, none⟩)), (7, .int .i64 r405), (8, .int .i64 c741)] ?_
                  refine JQ.mask [At.box b3 25 [.int .i64 a1.e0.Re, .int .i64 a1.e0.Im, .int .i64 a1.e0.Den, .int .i64 a1.e1.Re, .int .i64 a1.e1.Im, .int .i64 a1.e1.Den, .int .i64 a1.e2.Re, .int .i64 a1.e2.Im, .int .i64 a1.e2.Den, .int .i64 a1.e3.Re, .int .i64 a1.e3.Im, .int .i64 a1.e3.Den], At.box b4 25 [.int .i64 b2.e0.Re, .int .i64 b2.e0.Im, .int .i64 b2.e0.Den, .int .i64 b2.e1.Re, .int .i64 b2.e1.Im, .int .i64 b2.e1.Den, .int .i64 b2.e2.Re, .int .i64 b2.e2.Im, .int .i64 b2.e2.Den, .int .i64 b2.e3.Re, .int .i64 b2.e3.Im, .int .i64 b2.e3.Den], At.box b5 25 [.int .i64 0, .int .i64 0, .int .i64 0, .int .i64 0, .int .i64 0, .int .i64 0, .int .i64 0, .int .i64 0, .int .i64 0, .int .i64 0, .int .i64 0, .int .i64 0], At.box b13 25 [.int .i64 arr835.e0.Re, .int .i64 arr835.e0.Im, .int .i64 arr835.e0.Den, .int .i64 arr835.e1.Re, .int .i64 arr835.e1.Im, .int .i64 arr835.e1.Den, .int .i64 arr835.e2.Re, .int .i64 arr835.e2.Im, .int .i64 arr835.e2.Den, .int .i64 arr835.e3.Re, .int .i64 arr835.e3.Im, .int .i64 arr835.e3.Den]] [true, true, true, true, false] ?_
                  refine J.region ?_
                  refine JL.mv (.int .i64 c741) ?_
                  refine JL.pur (.int .i64 (w64 (c741 + 1))) (some 27) ?_
                  refine JL.as (.int .i64 (w64 (c741 + 1))) ?_
                  refine JL.nil ?_
                  refine JQ.then_normal ?_
                  exact JQ.again (arr835, w64 (c741 + 1)) () (Option.some.inj H2).symm (fun _ h => Heap.to h)
            · refine J.cond_false h802 ?_
              refine J.exit ?_
              refine JQ.then_exit ?_
              refine JQ.then_exit ?_
              refine JQ.blk_exit ?_
              rw [hb2 _ (Option.some.inj H2).symm, fin_brk] at H1
              exact JQ.met out740 () H1 (fun _ h => Heap.to h)
          · clear hit H1
            rintro out801 ⟨⟩ H1
            replace H1 : ref33_Mul.k26 r405 out801 = some st1 := H1
            unfold ref33_Mul.k26 at H1
            refine JQ.sub [(2, .pointer (some ⟨b3, 0, none⟩)), (3, .pointer (some ⟨b4, 0, none⟩)), (4, .pointer (some ⟨b5, 0, none⟩)), (6, .pointer (some ⟨b13, 0, none⟩)), (7, .int .i64 r405)] ?_
            refine JQ.turn (Δ' := [At.box b3 25 [.int .i64 a1.e0.Re, .int .i64 a1.e0.Im, .int .i64 a1.e0.Den, .int .i64 a1.e1.Re, .int .i64 a1.e1.Im, .int .i64 a1.e1.Den, .int .i64 a1.e2.Re, .int .i64 a1.e2.Im, .int .i64 a1.e2.Den, .int .i64 a1.e3.Re, .int .i64 a1.e3.Im, .int .i64 a1.e3.Den], At.box b4 25 [.int .i64 b2.e0.Re, .int .i64 b2.e0.Im, .int .i64 b2.e0.Den, .int .i64 b2.e1.Re, .int .i64 b2.e1.Im, .int .i64 b2.e1.Den, .int .i64 b2.e2.Re, .int .i64 b2.e2.Im, .int .i64 b2.e2.Den, .int .i64 b2.e3.Re, .int .i64 b2.e3.Im, .int .i64 b2.e3.Den], At.box b5 25 [.int .i64 0, .int .i64 0, .int .i64 0, .int .i64 0, .int .i64 0, .int .i64 0, .int .i64 0, .int .i64 0, .int .i64 0, .int .i64 0, .int .i64 0, .int .i64 0], At.box b13 25 [.int .i64 out801.e0.Re, .int .i64 out801.e0.Im, .int .i64 out801.e0.Den, .int .i64 out801.e1.Re, .int .i64 out801.e1.Im, .int .i64 out801.e1.Den, .int .i64 out801.e2.Re, .int .i64 out801.e2.Im, .int .i64 out801.e2.Den, .int .i64 out801.e3.Re, .int .i64 out801.e3.Im, .int .i64 out801.e3.Den]]) (fun _ h => h.to) ?_
            refine JQ.blk_normal ?_
            refine JQ.then_normal ?_
            refine J.region ?_
            refine JL.mv (.int .i64 r405) ?_
            refine JL.pur (.int .i64 (w64 (r405 + 1))) (some 23) ?_
            refine JL.as (.int .i64 (w64 (r405 + 1))) ?_
            refine JL.nil ?_
            refine JQ.then_normal ?_
            exact JQ.again (out801, w64 (r405 + 1)) () (Option.some.inj H1).symm (fun _ h => Heap.to h)
        · refine J.cond_false h634 ?_
          refine J.exit ?_
          refine JQ.then_exit ?_
          refine JQ.then_exit ?_
          refine JQ.blk_exit ?_
          rw [hb1 _ (Option.some.inj H1).symm, fin_brk] at H0
          exact JQ.met out404 () H0 (fun _ h => Heap.to (Heap.pick [2, 3] (by decide) h))
      · clear hit H0
        rintro out633 ⟨⟩ H0
        replace H0 : ref33_Mul.k21 out633 = some r := H0
        unfold ref33_Mul.k21 at H0
        refine JQ.sub [(4, .pointer (some ⟨b5, 0, none⟩)), (6, .pointer (some ⟨b13, 0, none⟩))] ?_
        refine JQ.turn (Δ' := [At.box b5 25 [.int .i64 0, .int .i64 0, .int .i64 0, .int .i64 0, .int .i64 0, .int .i64 0, .int .i64 0, .int .i64 0, .int .i64 0, .int .i64 0, .int .i64 0, .int .i64 0], At.box b13 25 [.int .i64 out633.e0.Re, .int .i64 out633.e0.Im, .int .i64 out633.e0.Den, .int .i64 out633.e1.Re, .int .i64 out633.e1.Im, .int .i64 out633.e1.Den, .int .i64 out633.e2.Re, .int .i64 out633.e2.Im, .int .i64 out633.e2.Den, .int .i64 out633.e3.Re, .int .i64 out633.e3.Im, .int .i64 out633.e3.Den]]) (fun _ h => h.to) ?_
        refine JQ.then_normal ?_
        refine J.seq ?_
        refine J.region ?_
        refine JL.val (.agg #[.int .i64 out633.e0.Re, .int .i64 out633.e0.Im, .int .i64 out633.e0.Den, .int .i64 out633.e1.Re, .int .i64 out633.e1.Im, .int .i64 out633.e1.Den, .int .i64 out633.e2.Re, .int .i64 out633.e2.Im, .int .i64 out633.e2.Den, .int .i64 out633.e3.Re, .int .i64 out633.e3.Im, .int .i64 out633.e3.Den]) (some 57) (yields_load_boxes 1 0 [.int .i64 out633.e0.Re, .int .i64 out633.e0.Im, .int .i64 out633.e0.Den, .int .i64 out633.e1.Re, .int .i64 out633.e1.Im, .int .i64 out633.e1.Den, .int .i64 out633.e2.Re, .int .i64 out633.e2.Im, .int .i64 out633.e2.Den, .int .i64 out633.e3.Re, .int .i64 out633.e3.Im, .int .i64 out633.e3.Den] (holds_box b13 25 [.int .i64 out633.e0.Re, .int .i64 out633.e0.Im, .int .i64 out633.e0.Den, .int .i64 out633.e1.Re, .int .i64 out633.e1.Im, .int .i64 out633.e1.Den, .int .i64 out633.e2.Re, .int .i64 out633.e2.Im, .int .i64 out633.e2.Den, .int .i64 out633.e3.Re, .int .i64 out633.e3.Im, .int .i64 out633.e3.Den]) tyAgg_25 tySize_25) ?_
        refine JL.store 0 b5 0 25 [.int .i64 0, .int .i64 0, .int .i64 0, .int .i64 0, .int .i64 0, .int .i64 0, .int .i64 0, .int .i64 0, .int .i64 0, .int .i64 0, .int .i64 0, .int .i64 0] [.int .i64 out633.e0.Re, .int .i64 out633.e0.Im, .int .i64 out633.e0.Den, .int .i64 out633.e1.Re, .int .i64 out633.e1.Im, .int .i64 out633.e1.Den, .int .i64 out633.e2.Re, .int .i64 out633.e2.Im, .int .i64 out633.e2.Den, .int .i64 out633.e3.Re, .int .i64 out633.e3.Im, .int .i64 out633.e3.Den] tySize_25 ?_
        refine JL.as (.int .i64 0) ?_
        refine JL.nil ?_
        refine JQ.then_normal ?_
        refine JQ.sub [(4, .pointer (some ⟨b5, 0, none⟩)), (5, .int .i64 0)] ?_
        refine JQ.mask [At.box b5 25 [.int .i64 out633.e0.Re, .int .i64 out633.e0.Im, .int .i64 out633.e0.Den, .int .i64 out633.e1.Re, .int .i64 out633.e1.Im, .int .i64 out633.e1.Den, .int .i64 out633.e2.Re, .int .i64 out633.e2.Im, .int .i64 out633.e2.Den, .int .i64 out633.e3.Re, .int .i64 out633.e3.Im, .int .i64 out633.e3.Den]] [true, false] ?_
        refine J.ret ?_
        obtain rfl := Option.some.inj H0
        exact JQ.done' (rs := [.cell 4 25, .tmp 5]) (vs := [.agg #[.int .i64 out633.e0.Re, .int .i64 out633.e0.Im, .int .i64 out633.e0.Den, .int .i64 out633.e1.Re, .int .i64 out633.e1.Im, .int .i64 out633.e1.Den, .int .i64 out633.e2.Re, .int .i64 out633.e2.Im, .int .i64 out633.e2.Den, .int .i64 out633.e3.Re, .int .i64 out633.e3.Im, .int .i64 out633.e3.Den], .int .i64 0]) [] (.inr rfl) ⟨⟨b5, 0, _, _, by kernel_rfl, by kernel_rfl, holds_box b5 25 [.int .i64 out633.e0.Re, .int .i64 out633.e0.Im, .int .i64 out633.e0.Den, .int .i64 out633.e1.Re, .int .i64 out633.e1.Im, .int .i64 out633.e1.Den, .int .i64 out633.e2.Re, .int .i64 out633.e2.Im, .int .i64 out633.e2.Den, .int .i64 out633.e3.Re, .int .i64 out633.e3.Im, .int .i64 out633.e3.Den], .inl ⟨tyAgg_25, tySize_25, rfl⟩⟩, by kernel_rfl, trivial⟩ (fun _ h => Heap.to (Heap.pick [] (by decide) h)) ⟨rfl, rfl⟩

theorem jones_adjoint.ok (a1 : (A4 Cx)) (r : (A4 Cx)) (H0 : jones_adjoint.f a1 = some r) :
    Does Try.prog 37 [.agg #[.int .i64 a1.e0.Re, .int .i64 a1.e0.Im, .int .i64 a1.e0.Den, .int .i64 a1.e1.Re, .int .i64 a1.e1.Im, .int .i64 a1.e1.Den, .int .i64 a1.e2.Re, .int .i64 a1.e2.Im, .int .i64 a1.e2.Den, .int .i64 a1.e3.Re, .int .i64 a1.e3.Im, .int .i64 a1.e3.Den]].toArray [] [] false (fun v Δ => v = .agg #[.int .i64 r.e0.Re, .int .i64 r.e0.Im, .int .i64 r.e0.Den, .int .i64 r.e1.Re, .int .i64 r.e1.Im, .int .i64 r.e1.Den, .int .i64 r.e2.Re, .int .i64 r.e2.Im, .int .i64 r.e2.Den, .int .i64 r.e3.Re, .int .i64 r.e3.Im, .int .i64 r.e3.Den] ∧ Δ = []) := by
  refine Does.body (vs := [.agg #[.int .i64 a1.e0.Re, .int .i64 a1.e0.Im, .int .i64 a1.e0.Den, .int .i64 a1.e1.Re, .int .i64 a1.e1.Im, .int .i64 a1.e1.Den, .int .i64 a1.e2.Re, .int .i64 a1.e2.Im, .int .i64 a1.e2.Den, .int .i64 a1.e3.Re, .int .i64 a1.e3.Im, .int .i64 a1.e3.Den]]) Try.func37 rfl trivial trivial fun w S => ?_
  unfold jones_adjoint.f at H0
  refine J.seq ?_
  refine J.region ?_
  refine JL.box [.int .i64 a1.e0.Re, .int .i64 a1.e0.Im, .int .i64 a1.e0.Den, .int .i64 a1.e1.Re, .int .i64 a1.e1.Im, .int .i64 a1.e1.Den, .int .i64 a1.e2.Re, .int .i64 a1.e2.Im, .int .i64 a1.e2.Den, .int .i64 a1.e3.Re, .int .i64 a1.e3.Im, .int .i64 a1.e3.Den] fun b2 => ?_
  refine JL.alloc [.int .i64 0, .int .i64 0, .int .i64 0, .int .i64 0, .int .i64 0, .int .i64 0, .int .i64 0, .int .i64 0, .int .i64 0, .int .i64 0, .int .i64 0, .int .i64 0] fun b3 => ?_
  refine JL.nil ?_
  refine JQ.then_normal ?_
  refine JQ.sub [(1, .pointer (some ⟨b2, 0, none⟩)), (2, .pointer (some ⟨b3, 0, none⟩))] ?_
  refine J.seq ?_
  refine J.region ?_
  refine JL.pur (.pointer (some ⟨b2, 6, none⟩)) (some 4) ?_
  refine JL.val (.agg #[.int .i64 a1.e2.Re, .int .i64 a1.e2.Im, .int .i64 a1.e2.Den]) (some 5) (yields_load_boxes 0 6 [.int .i64 a1.e2.Re, .int .i64 a1.e2.Im, .int .i64 a1.e2.Den] (holds_box b2 25 [.int .i64 a1.e0.Re, .int .i64 a1.e0.Im, .int .i64 a1.e0.Den, .int .i64 a1.e1.Re, .int .i64 a1.e1.Im, .int .i64 a1.e1.Den, .int .i64 a1.e2.Re, .int .i64 a1.e2.Im, .int .i64 a1.e2.Den, .int .i64 a1.e3.Re, .int .i64 a1.e3.Im, .int .i64 a1.e3.Den]) tyAgg_23 tySize_23) ?_
  refine JL.pur (.pointer (some ⟨b2, 3, none⟩)) (some 6) ?_
  refine JL.val (.agg #[.int .i64 a1.e1.Re, .int .i64 a1.e1.Im, .int .i64 a1.e1.Den]) (some 7) (yields_load_boxes 0 3 [.int .i64 a1.e1.Re, .int .i64 a1.e1.Im, .int .i64 a1.e1.Den] (holds_box b2 25 [.int .i64 a1.e0.Re, .int .i64 a1.e0.Im, .int .i64 a1.e0.Den, .int .i64 a1.e1.Re, .int .i64 a1.e1.Im, .int .i64 a1.e1.Den, .int .i64 a1.e2.Re, .int .i64 a1.e2.Im, .int .i64 a1.e2.Den, .int .i64 a1.e3.Re, .int .i64 a1.e3.Im, .int .i64 a1.e3.Den]) tyAgg_23 tySize_23) ?_
  refine JL.pur (.pointer (some ⟨b2, 3, none⟩)) (some 8) ?_
  refine JL.store 0 b2 3 25 [.int .i64 a1.e0.Re, .int .i64 a1.e0.Im, .int .i64 a1.e0.Den, .int .i64 a1.e1.Re, .int .i64 a1.e1.Im, .int .i64 a1.e1.Den, .int .i64 a1.e2.Re, .int .i64 a1.e2.Im, .int .i64 a1.e2.Den, .int .i64 a1.e3.Re, .int .i64 a1.e3.Im, .int .i64 a1.e3.Den] [.int .i64 a1.e0.Re, .int .i64 a1.e0.Im, .int .i64 a1.e0.Den, .int .i64 a1.e2.Re, .int .i64 a1.e2.Im, .int .i64 a1.e2.Den, .int .i64 a1.e2.Re, .int .i64 a1.e2.Im, .int .i64 a1.e2.Den, .int .i64 a1.e3.Re, .int .i64 a1.e3.Im, .int .i64 a1.e3.Den] tySize_23 ?_
  refine JL.pur (.pointer (some ⟨b2, 6, none⟩)) (some 9) ?_
  refine JL.store 0 b2 6 25 [.int .i64 a1.e0.Re, .int .i64 a1.e0.Im, .int .i64 a1.e0.Den, .int .i64 a1.e2.Re, .int .i64 a1.e2.Im, .int .i64 a1.e2.Den, .int .i64 a1.e2.Re, .int .i64 a1.e2.Im, .int .i64 a1.e2.Den, .int .i64 a1.e3.Re, .int .i64 a1.e3.Im, .int .i64 a1.e3.Den] [.int .i64 a1.e0.Re, .int .i64 a1.e0.Im, .int .i64 a1.e0.Den, .int .i64 a1.e2.Re, .int .i64 a1.e2.Im, .int .i64 a1.e2.Den, .int .i64 a1.e1.Re, .int .i64 a1.e1.Im, .int .i64 a1.e1.Den, .int .i64 a1.e3.Re, .int .i64 a1.e3.Im, .int .i64 a1.e3.Den] tySize_23 ?_
  refine JL.nil ?_
  refine JQ.then_normal ?_
  refine JQ.sub [(1, .pointer (some ⟨b2, 0, none⟩)), (2, .pointer (some ⟨b3, 0, none⟩))] ?_
  refine J.seq ?_
  refine J.seq ?_
  refine J.region ?_
  refine JL.mv (.int .i64 0) ?_
  refine JL.nil ?_
  refine JQ.then_normal ?_
  obtain ⟨o1, hit, H0⟩ := bind_some H0
  refine J.loop (σ := ((A4 Cx) × Int)) (τ := (A4 Cx)) (G := Unit) (G' := Unit) _ o1 (fun s g => [(1, .pointer (some ⟨b2, 0, none⟩)), (2, .pointer (some ⟨b3, 0, none⟩)), (10, .int .i64 s.2)]) (fun s g => [At.box b2 25 [.int .i64 s.1.e0.Re, .int .i64 s.1.e0.Im, .int .i64 s.1.e0.Den, .int .i64 s.1.e1.Re, .int .i64 s.1.e1.Im, .int .i64 s.1.e1.Den, .int .i64 s.1.e2.Re, .int .i64 s.1.e2.Im, .int .i64 s.1.e2.Den, .int .i64 s.1.e3.Re, .int .i64 s.1.e3.Im, .int .i64 s.1.e3.Den], At.box b3 25 [.int .i64 0, .int .i64 0, .int .i64 0, .int .i64 0, .int .i64 0, .int .i64 0, .int .i64 0, .int .i64 0, .int .i64 0, .int .i64 0, .int .i64 0, .int .i64 0]]) (fun t => jones_adjoint.k2 t = some r) (fun t g => [(1, .pointer (some ⟨b2, 0, none⟩)), (2, .pointer (some ⟨b3, 0, none⟩))]) (fun t g => [At.box b2 25 [.int .i64 t.e0.Re, .int .i64 t.e0.Im, .int .i64 t.e0.Den, .int .i64 t.e1.Re, .int .i64 t.e1.Im, .int .i64 t.e1.Den, .int .i64 t.e2.Re, .int .i64 t.e2.Im, .int .i64 t.e2.Den, .int .i64 t.e3.Re, .int .i64 t.e3.Im, .int .i64 t.e3.Den], At.box b3 25 [.int .i64 0, .int .i64 0, .int .i64 0, .int .i64 0, .int .i64 0, .int .i64 0, .int .i64 0, .int .i64 0, .int .i64 0, .int .i64 0, .int .i64 0, .int .i64 0]]) ((⟨a1.e0, a1.e2, a1.e1, a1.e3⟩ : (A4 Cx)), 0) () hit (fun _ h => Heap.to h) ?_ ?_
  · clear hit
    rintro ⟨a14, x15⟩ ⟨⟩ st1 H1 hb1 hr1
    replace H1 : jones_adjoint.s1 a14 x15 = some st1 := H1
    unfold jones_adjoint.s1 at H1
    refine JQ.sub [(1, .pointer (some ⟨b2, 0, none⟩)), (2, .pointer (some ⟨b3, 0, none⟩)), (10, .int .i64 x15)] ?_
    refine JQ.turn (Δ' := [At.box b2 25 [.int .i64 a14.e0.Re, .int .i64 a14.e0.Im, .int .i64 a14.e0.Den, .int .i64 a14.e1.Re, .int .i64 a14.e1.Im, .int .i64 a14.e1.Den, .int .i64 a14.e2.Re, .int .i64 a14.e2.Im, .int .i64 a14.e2.Den, .int .i64 a14.e3.Re, .int .i64 a14.e3.Im, .int .i64 a14.e3.Den], At.box b3 25 [.int .i64 0, .int .i64 0, .int .i64 0, .int .i64 0, .int .i64 0, .int .i64 0, .int .i64 0, .int .i64 0, .int .i64 0, .int .i64 0, .int .i64 0, .int .i64 0]]) (fun _ h => h.to) ?_
    refine J.seq ?_
    refine J.region ?_
    refine JL.pur (.bool (decide (x15 < 4))) (some 11) ?_
    refine JL.nil ?_
    refine JQ.then_normal ?_
    refine J.seq ?_
    rcases ite_cases H1 with ⟨h23, H1⟩ | ⟨h23, H1⟩
    · refine J.cond_true h23 ?_
      refine J.skip ?_
      refine JQ.then_normal ?_
      refine JQ.sub [(1, .pointer (some ⟨b2, 0, none⟩)), (2, .pointer (some ⟨b3, 0, none⟩)), (10, .int .i64 x15)] ?_
      refine J.seq ?_
      refine J.block ?_
      refine J.seq ?_
      refine J.region ?_
      refine JL.mv (.int .i64 x15) ?_
      refine JL.as (.int .i64 x15) ?_
      refine JL.nil ?_
      refine JQ.then_normal ?_
      refine JQ.sub [(1, .pointer (some ⟨b2, 0, none⟩)), (2, .pointer (some ⟨b3, 0, none⟩)), (3, .int .i64 x15), (10, .int .i64 x15)] ?_
      refine J.region ?_
      refine JL.mv (.int .i64 x15) ?_
      refine JL.mv (.int .i64 x15) ?_
      obtain ⟨⟨h24, h25⟩, H1⟩ := ite_must H1
      refine JL.val (.pointer (some ⟨b2, 0 + x15.toNat * 3, none⟩)) (some 15) (gives_ixArrD (b := b2) (o := 0) (i := x15) 4 3 .i64 h24 h25 Try.underlying25 tySize_23) ?_
      refine JL.pur (.pointer (some ⟨b2, 0 + x15.toNat * 3 + 1, none⟩)) (some 16) ?_
      refine JL.val (.int .i64 ((ix ([a14.e0, a14.e1, a14.e2, a14.e3] : List Cx) x15).Im)) (some 17) (gives_loadEl (f := fl_Cx) 0 1 x15 (elems_arr b2 25 [.int .i64 a14.e0.Re, .int .i64 a14.e0.Im, .int .i64 a14.e0.Den, .int .i64 a14.e1.Re, .int .i64 a14.e1.Im, .int .i64 a14.e1.Den, .int .i64 a14.e2.Re, .int .i64 a14.e2.Im, .int .i64 a14.e2.Den, .int .i64 a14.e3.Re, .int .i64 a14.e3.Im, .int .i64 a14.e3.Den] fl_Cx ([a14.e0, a14.e1, a14.e2, a14.e3] : List Cx) 0) h24 h25 tySize_2 (.inr ⟨tyAgg_2, rfl, rfl⟩)) ?_
      refine JL.pur (.int .i64 (w64 (0 - (ix ([a14.e0, a14.e1, a14.e2, a14.e3] : List Cx) x15).Im))) (some 18) ?_
      obtain ⟨⟨h26, h27⟩, H1⟩ := ite_must H1
      refine JL.val (.pointer (some ⟨b2, 0 + x15.toNat * 3, none⟩)) (some 19) (gives_ixArrD (b := b2) (o := 0) (i := x15) 4 3 .i64 h26 h27 Try.underlying25 tySize_23) ?_
      refine JL.pur (.pointer (some ⟨b2, 0 + x15.toNat * 3 + 1, none⟩)) (some 20) ?_
      obtain ⟨arr28, earr28, H1⟩ := lt_some H1
      refine JL.storeArr b2 0 1 0 25 fl_Cx ([a14.e0, a14.e1, a14.e2, a14.e3] : List Cx) x15 [.int .i64 a14.e0.Re, .int .i64 a14.e0.Im, .int .i64 a14.e0.Den, .int .i64 a14.e1.Re, .int .i64 a14.e1.Im, .int .i64 a14.e1.Den, .int .i64 a14.e2.Re, .int .i64 a14.e2.Im, .int .i64 a14.e2.Den, .int .i64 a14.e3.Re, .int .i64 a14.e3.Im, .int .i64 a14.e3.Den] [] [] (⟨((ix ([a14.e0, a14.e1, a14.e2, a14.e3] : List Cx) x15).Re), (w64 (0 - (ix ([a14.e0, a14.e1, a14.e2, a14.e3] : List Cx) x15).Im)), ((ix ([a14.e0, a14.e1, a14.e2, a14.e3] : List Cx) x15).Den)⟩ : Cx) h26 h27 tySize_2 ?_
      rw [ofL4 fl_Cx (l := ([a14.e0, a14.e1, a14.e2, a14.e3] : List Cx).set x15.toNat (⟨((ix ([a14.e0, a14.e1, a14.e2, a14.e3] : List Cx) x15).Re), (w64 (0 - (ix ([a14.e0, a14.e1, a14.e2, a14.e3] : List Cx) x15).Im)), ((ix ([a14.e0, a14.e1, a14.e2, a14.e3] : List Cx) x15).Den)⟩ : Cx)) (by simp), earr28]
      refine JQ.turn (Δ' := [At.box b2 25 [.int .i64 arr28.e0.Re, .int .i64 arr28.e0.Im, .int .i64 arr28.e0.Den, .int .i64 arr28.e1.Re, .int .i64 arr28.e1.Im, .int .i64 arr28.e1.Den, .int .i64 arr28.e2.Re, .int .i64 arr28.e2.Im, .int .i64 arr28.e2.Den, .int .i64 arr28.e3.Re, .int .i64 arr28.e3.Im, .int .i64 arr28.e3.Den], At.box b3 25 [.int .i64 0, .int .i64 0, .int .i64 0, .int .i64 0, .int .i64 0, .int .i64 0, .int .i64 0, .int .i64 0, .int .i64 0, .int .i64 0, .int .i64 0, .int .i64 0]]) (fun _ h => h.to) ?_
      refine JL.nil ?_
      refine JQ.blk_normal ?_
      refine JQ.then_normal ?_
      refine JQ.sub [(1, .pointer (some ⟨b2, 0, none⟩)), (2, .pointer (some ⟨b3, 0, none⟩)), (10, .int .i64 x15)] ?_
      refine J.region ?_
      refine JL.pur (.int .i64 (w64 (x15 + 1))) (some 21) ?_
      refine JL.mv (.int .i64 (w64 (x15 + 1))) ?_
      refine JL.nil ?_
      refine JQ.then_normal ?_
      exact JQ.again (arr28, w64 (x15 + 1)) () (Option.some.inj H1).symm (fun _ h => Heap.to h)
    · refine J.cond_false h23 ?_
      refine J.exit ?_
      refine JQ.then_exit ?_
      refine JQ.then_exit ?_
      refine JQ.blk_exit ?_
      rw [hb1 _ (Option.some.inj H1).symm, fin_brk] at H0
      exact JQ.met a14 () H0 (fun _ h => Heap.to h)
  · clear hit H0
    rintro a22 ⟨⟩ H0
    replace H0 : jones_adjoint.k2 a22 = some r := H0
    unfold jones_adjoint.k2 at H0
    refine JQ.sub [(1, .pointer (some ⟨b2, 0, none⟩)), (2, .pointer (some ⟨b3, 0, none⟩))] ?_
    refine JQ.turn (Δ' := [At.box b2 25 [.int .i64 a22.e0.Re, .int .i64 a22.e0.Im, .int .i64 a22.e0.Den, .int .i64 a22.e1.Re, .int .i64 a22.e1.Im, .int .i64 a22.e1.Den, .int .i64 a22.e2.Re, .int .i64 a22.e2.Im, .int .i64 a22.e2.Den, .int .i64 a22.e3.Re, .int .i64 a22.e3.Im, .int .i64 a22.e3.Den], At.box b3 25 [.int .i64 0, .int .i64 0, .int .i64 0, .int .i64 0, .int .i64 0, .int .i64 0, .int .i64 0, .int .i64 0, .int .i64 0, .int .i64 0, .int .i64 0, .int .i64 0]]) (fun _ h => h.to) ?_
    refine JQ.then_normal ?_
    refine J.seq ?_
    refine J.region ?_
    refine JL.val (.agg #[.int .i64 a22.e0.Re, .int .i64 a22.e0.Im, .int .i64 a22.e0.Den, .int .i64 a22.e1.Re, .int .i64 a22.e1.Im, .int .i64 a22.e1.Den, .int .i64 a22.e2.Re, .int .i64 a22.e2.Im, .int .i64 a22.e2.Den, .int .i64 a22.e3.Re, .int .i64 a22.e3.Im, .int .i64 a22.e3.Den]) (some 22) (yields_load_boxes 0 0 [.int .i64 a22.e0.Re, .int .i64 a22.e0.Im, .int .i64 a22.e0.Den, .int .i64 a22.e1.Re, .int .i64 a22.e1.Im, .int .i64 a22.e1.Den, .int .i64 a22.e2.Re, .int .i64 a22.e2.Im, .int .i64 a22.e2.Den, .int .i64 a22.e3.Re, .int .i64 a22.e3.Im, .int .i64 a22.e3.Den] (holds_box b2 25 [.int .i64 a22.e0.Re, .int .i64 a22.e0.Im, .int .i64 a22.e0.Den, .int .i64 a22.e1.Re, .int .i64 a22.e1.Im, .int .i64 a22.e1.Den, .int .i64 a22.e2.Re, .int .i64 a22.e2.Im, .int .i64 a22.e2.Den, .int .i64 a22.e3.Re, .int .i64 a22.e3.Im, .int .i64 a22.e3.Den]) tyAgg_25 tySize_25) ?_
    refine JL.store 1 b3 0 25 [.int .i64 0, .int .i64 0, .int .i64 0, .int .i64 0, .int .i64 0, .int .i64 0, .int .i64 0, .int .i64 0, .int .i64 0, .int .i64 0, .int .i64 0, .int .i64 0] [.int .i64 a22.e0.Re, .int .i64 a22.e0.Im, .int .i64 a22.e0.Den, .int .i64 a22.e1.Re, .int .i64 a22.e1.Im, .int .i64 a22.e1.Den, .int .i64 a22.e2.Re, .int .i64 a22.e2.Im, .int .i64 a22.e2.Den, .int .i64 a22.e3.Re, .int .i64 a22.e3.Im, .int .i64 a22.e3.Den] tySize_25 ?_
    refine JL.nil ?_
    refine JQ.then_normal ?_
    refine JQ.sub [(2, .pointer (some ⟨b3, 0, none⟩))] ?_
    refine JQ.mask [At.box b3 25 [.int .i64 a22.e0.Re, .int .i64 a22.e0.Im, .int .i64 a22.e0.Den, .int .i64 a22.e1.Re, .int .i64 a22.e1.Im, .int .i64 a22.e1.Den, .int .i64 a22.e2.Re, .int .i64 a22.e2.Im, .int .i64 a22.e2.Den, .int .i64 a22.e3.Re, .int .i64 a22.e3.Im, .int .i64 a22.e3.Den]] [false, true] ?_
    refine J.ret ?_
    obtain rfl := Option.some.inj H0
    exact JQ.done' (rs := [.cell 2 25]) (vs := [.agg #[.int .i64 a22.e0.Re, .int .i64 a22.e0.Im, .int .i64 a22.e0.Den, .int .i64 a22.e1.Re, .int .i64 a22.e1.Im, .int .i64 a22.e1.Den, .int .i64 a22.e2.Re, .int .i64 a22.e2.Im, .int .i64 a22.e2.Den, .int .i64 a22.e3.Re, .int .i64 a22.e3.Im, .int .i64 a22.e3.Den]]) [] (.inr rfl) ⟨⟨b3, 0, _, _, by kernel_rfl, by kernel_rfl, holds_box b3 25 [.int .i64 a22.e0.Re, .int .i64 a22.e0.Im, .int .i64 a22.e0.Den, .int .i64 a22.e1.Re, .int .i64 a22.e1.Im, .int .i64 a22.e1.Den, .int .i64 a22.e2.Re, .int .i64 a22.e2.Im, .int .i64 a22.e2.Den, .int .i64 a22.e3.Re, .int .i64 a22.e3.Im, .int .i64 a22.e3.Den], .inl ⟨tyAgg_25, tySize_25, rfl⟩⟩, trivial⟩ (fun _ h => Heap.to (Heap.pick [] (by decide) h)) ⟨rfl, rfl⟩

theorem jones_Adjoint.ok (a1 : (A4 Cx)) (r : ((A4 Cx) × Int)) (H0 : jones_Adjoint.f a1 = some r) :
    Does Try.prog 11 [.agg #[.int .i64 a1.e0.Re, .int .i64 a1.e0.Im, .int .i64 a1.e0.Den, .int .i64 a1.e1.Re, .int .i64 a1.e1.Im, .int .i64 a1.e1.Den, .int .i64 a1.e2.Re, .int .i64 a1.e2.Im, .int .i64 a1.e2.Den, .int .i64 a1.e3.Re, .int .i64 a1.e3.Im, .int .i64 a1.e3.Den]].toArray [] [] false (fun v Δ => v = .tuple #[.agg #[.int .i64 r.1.e0.Re, .int .i64 r.1.e0.Im, .int .i64 r.1.e0.Den, .int .i64 r.1.e1.Re, .int .i64 r.1.e1.Im, .int .i64 r.1.e1.Den, .int .i64 r.1.e2.Re, .int .i64 r.1.e2.Im, .int .i64 r.1.e2.Den, .int .i64 r.1.e3.Re, .int .i64 r.1.e3.Im, .int .i64 r.1.e3.Den], .int .i64 r.2] ∧ Δ = []) := by
  refine Does.body (vs := [.agg #[.int .i64 a1.e0.Re, .int .i64 a1.e0.Im, .int .i64 a1.e0.Den, .int .i64 a1.e1.Re, .int .i64 a1.e1.Im, .int .i64 a1.e1.Den, .int .i64 a1.e2.Re, .int .i64 a1.e2.Im, .int .i64 a1.e2.Den, .int .i64 a1.e3.Re, .int .i64 a1.e3.Im, .int .i64 a1.e3.Den]]) Try.func11 rfl trivial trivial fun w S => ?_
  unfold jones_Adjoint.f at H0
  refine J.seq ?_
  refine J.region ?_
  refine JL.box [.int .i64 a1.e0.Re, .int .i64 a1.e0.Im, .int .i64 a1.e0.Den, .int .i64 a1.e1.Re, .int .i64 a1.e1.Im, .int .i64 a1.e1.Den, .int .i64 a1.e2.Re, .int .i64 a1.e2.Im, .int .i64 a1.e2.Den, .int .i64 a1.e3.Re, .int .i64 a1.e3.Im, .int .i64 a1.e3.Den] fun b2 => ?_
  refine JL.alloc [.int .i64 0, .int .i64 0, .int .i64 0, .int .i64 0, .int .i64 0, .int .i64 0, .int .i64 0, .int .i64 0, .int .i64 0, .int .i64 0, .int .i64 0, .int .i64 0] fun b3 => ?_
  refine JL.as (.int .i64 0) ?_
  refine JL.nil ?_
  refine JQ.then_normal ?_
  refine JQ.sub [(1, .pointer (some ⟨b2, 0, none⟩)), (2, .pointer (some ⟨b3, 0, none⟩))] ?_
  refine J.seq ?_
  refine J.seq ?_
  refine J.region ?_
  refine JL.val (.agg #[.int .i64 a1.e0.Re, .int .i64 a1.e0.Im, .int .i64 a1.e0.Den, .int .i64 a1.e1.Re, .int .i64 a1.e1.Im, .int .i64 a1.e1.Den, .int .i64 a1.e2.Re, .int .i64 a1.e2.Im, .int .i64 a1.e2.Den, .int .i64 a1.e3.Re, .int .i64 a1.e3.Im, .int .i64 a1.e3.Den]) (some 4) (yields_load_boxes 0 0 [.int .i64 a1.e0.Re, .int .i64 a1.e0.Im, .int .i64 a1.e0.Den, .int .i64 a1.e1.Re, .int .i64 a1.e1.Im, .int .i64 a1.e1.Den, .int .i64 a1.e2.Re, .int .i64 a1.e2.Im, .int .i64 a1.e2.Den, .int .i64 a1.e3.Re, .int .i64 a1.e3.Im, .int .i64 a1.e3.Den] (holds_box b2 25 [.int .i64 a1.e0.Re, .int .i64 a1.e0.Im, .int .i64 a1.e0.Den, .int .i64 a1.e1.Re, .int .i64 a1.e1.Im, .int .i64 a1.e1.Den, .int .i64 a1.e2.Re, .int .i64 a1.e2.Im, .int .i64 a1.e2.Den, .int .i64 a1.e3.Re, .int .i64 a1.e3.Im, .int .i64 a1.e3.Den]) tyAgg_25 tySize_25) ?_
  obtain ⟨t4, hc5, H0⟩ := bind_some H0
  refine JL.call [] [] [] (jones_valid.ok a1 _ hc5) trivial ?_
  rintro _ _ ⟨rfl, rfl⟩
  refine JL.pur (.bool (!t4)) (some 6) ?_
  refine JL.nil ?_
  refine JQ.then_normal ?_
  refine JQ.sub [(1, .pointer (some ⟨b2, 0, none⟩)), (2, .pointer (some ⟨b3, 0, none⟩)), (6, .bool (!t4))] ?_
  rcases ite_cases H0 with ⟨h6, H0⟩ | ⟨h6, H0⟩
  · refine J.cond_true h6 ?_
    refine J.seq ?_
    refine J.region ?_
    refine JL.pur (.agg #[.int .i64 0, .int .i64 0, .int .i64 0, .int .i64 0, .int .i64 0, .int .i64 0, .int .i64 0, .int .i64 0, .int .i64 0, .int .i64 0, .int .i64 0, .int .i64 0]) (some 7) ?_
    refine JL.store 1 b3 0 25 [.int .i64 0, .int .i64 0, .int .i64 0, .int .i64 0, .int .i64 0, .int .i64 0, .int .i64 0, .int .i64 0, .int .i64 0, .int .i64 0, .int .i64 0, .int .i64 0] [.int .i64 0, .int .i64 0, .int .i64 0, .int .i64 0, .int .i64 0, .int .i64 0, .int .i64 0, .int .i64 0, .int .i64 0, .int .i64 0, .int .i64 0, .int .i64 0] tySize_25 ?_
    refine JL.as (.int .i64 8) ?_
    refine JL.nil ?_
    refine JQ.then_normal ?_
    refine JQ.sub [(2, .pointer (some ⟨b3, 0, none⟩)), (3, .int .i64 8)] ?_
    refine JQ.mask [At.box b3 25 [.int .i64 0, .int .i64 0, .int .i64 0, .int .i64 0, .int .i64 0, .int .i64 0, .int .i64 0, .int .i64 0, .int .i64 0, .int .i64 0, .int .i64 0, .int .i64 0]] [false, true] ?_
    refine J.ret ?_
    refine JQ.then_ret ?_
    obtain rfl := Option.some.inj H0
    exact JQ.done' (rs := [.cell 2 25, .tmp 3]) (vs := [.agg #[.int .i64 0, .int .i64 0, .int .i64 0, .int .i64 0, .int .i64 0, .int .i64 0, .int .i64 0, .int .i64 0, .int .i64 0, .int .i64 0, .int .i64 0, .int .i64 0], .int .i64 8]) [] (.inr rfl) ⟨⟨b3, 0, _, _, by kernel_rfl, by kernel_rfl, holds_box b3 25 [.int .i64 0, .int .i64 0, .int .i64 0, .int .i64 0, .int .i64 0, .int .i64 0, .int .i64 0, .int .i64 0, .int .i64 0, .int .i64 0, .int .i64 0, .int .i64 0], .inl ⟨tyAgg_25, tySize_25, rfl⟩⟩, by kernel_rfl, trivial⟩ (fun _ h => Heap.to (Heap.pick [] (by decide) h)) ⟨rfl, rfl⟩
  · refine J.cond_false h6 ?_
    refine J.skip ?_
    refine JQ.then_normal ?_
    refine JQ.sub [(1, .pointer (some ⟨b2, 0, none⟩)), (2, .pointer (some ⟨b3, 0, none⟩))] ?_
    refine J.seq ?_
    refine J.region ?_
    refine JL.val (.agg #[.int .i64 a1.e0.Re, .int .i64 a1.e0.Im, .int .i64 a1.e0.Den, .int .i64 a1.e1.Re, .int .i64 a1.e1.Im, .int .i64 a1.e1.Den, .int .i64 a1.e2.Re, .int .i64 a1.e2.Im, .int .i64 a1.e2.Den, .int .i64 a1.e3.Re, .int .i64 a1.e3.Im, .int .i64 a1.e3.Den]) (some 8) (yields_load_boxes 0 0 [.int .i64 a1.e0.Re, .int .i64 a1.e0.Im, .int .i64 a1.e0.Den, .int .i64 a1.e1.Re, .int .i64 a1.e1.Im, .int .i64 a1.e1.Den, .int .i64 a1.e2.Re, .int .i64 a1.e2.Im, .int .i64 a1.e2.Den, .int .i64 a1.e3.Re, .int .i64 a1.e3.Im, .int .i64 a1.e3.Den] (holds_box b2 25 [.int .i64 a1.e0.Re, .int .i64 a1.e0.Im, .int .i64 a1.e0.Den, .int .i64 a1.e1.Re, .int .i64 a1.e1.Im, .int .i64 a1.e1.Den, .int .i64 a1.e2.Re, .int .i64 a1.e2.Im, .int .i64 a1.e2.Den, .int .i64 a1.e3.Re, .int .i64 a1.e3.Im, .int .i64 a1.e3.Den]) tyAgg_25 tySize_25) ?_
    obtain ⟨t7, hc8, H0⟩ := bind_some H0
    refine JL.call [] [] [] (jones_adjoint.ok a1 _ hc8) trivial ?_
    rintro _ _ ⟨rfl, rfl⟩
    refine JL.store 1 b3 0 25 [.int .i64 0, .int .i64 0, .int .i64 0, .int .i64 0, .int .i64 0, .int .i64 0, .int .i64 0, .int .i64 0, .int .i64 0, .int .i64 0, .int .i64 0, .int .i64 0] [.int .i64 t7.e0.Re, .int .i64 t7.e0.Im, .int .i64 t7.e0.Den, .int .i64 t7.e1.Re, .int .i64 t7.e1.Im, .int .i64 t7.e1.Den, .int .i64 t7.e2.Re, .int .i64 t7.e2.Im, .int .i64 t7.e2.Den, .int .i64 t7.e3.Re, .int .i64 t7.e3.Im, .int .i64 t7.e3.Den] tySize_25 ?_
    refine JL.as (.int .i64 0) ?_
    refine JL.nil ?_
    refine JQ.then_normal ?_
    refine JQ.sub [(2, .pointer (some ⟨b3, 0, none⟩)), (3, .int .i64 0)] ?_
    refine JQ.mask [At.box b3 25 [.int .i64 t7.e0.Re, .int .i64 t7.e0.Im, .int .i64 t7.e0.Den, .int .i64 t7.e1.Re, .int .i64 t7.e1.Im, .int .i64 t7.e1.Den, .int .i64 t7.e2.Re, .int .i64 t7.e2.Im, .int .i64 t7.e2.Den, .int .i64 t7.e3.Re, .int .i64 t7.e3.Im, .int .i64 t7.e3.Den]] [false, true] ?_
    refine J.ret ?_
    obtain rfl := Option.some.inj H0
    exact JQ.done' (rs := [.cell 2 25, .tmp 3]) (vs := [.agg #[.int .i64 t7.e0.Re, .int .i64 t7.e0.Im, .int .i64 t7.e0.Den, .int .i64 t7.e1.Re, .int .i64 t7.e1.Im, .int .i64 t7.e1.Den, .int .i64 t7.e2.Re, .int .i64 t7.e2.Im, .int .i64 t7.e2.Den, .int .i64 t7.e3.Re, .int .i64 t7.e3.Im, .int .i64 t7.e3.Den], .int .i64 0]) [] (.inr rfl) ⟨⟨b3, 0, _, _, by kernel_rfl, by kernel_rfl, holds_box b3 25 [.int .i64 t7.e0.Re, .int .i64 t7.e0.Im, .int .i64 t7.e0.Den, .int .i64 t7.e1.Re, .int .i64 t7.e1.Im, .int .i64 t7.e1.Den, .int .i64 t7.e2.Re, .int .i64 t7.e2.Im, .int .i64 t7.e2.Den, .int .i64 t7.e3.Re, .int .i64 t7.e3.Im, .int .i64 t7.e3.Den], .inl ⟨tyAgg_25, tySize_25, rfl⟩⟩, by kernel_rfl, trivial⟩ (fun _ h => Heap.to (Heap.pick [] (by decide) h)) ⟨rfl, rfl⟩

theorem ref26_Apart.ok (a1 : Cx) (r : Cx) (H0 : ref26_Apart.f a1 = some r) :
    Does Try.prog 63 [.agg #[.int .i64 a1.Re, .int .i64 a1.Im, .int .i64 a1.Den]].toArray [] [] false (fun v Δ => v = .agg #[.int .i64 r.Re, .int .i64 r.Im, .int .i64 r.Den] ∧ Δ = []) := by
  refine Does.body (vs := [.agg #[.int .i64 a1.Re, .int .i64 a1.Im, .int .i64 a1.Den]]) Try.func63 rfl trivial trivial fun w S => ?_
  unfold ref26_Apart.f at H0
  refine J.seq ?_
  refine J.region ?_
  refine JL.box [.int .i64 a1.Re, .int .i64 a1.Im, .int .i64 a1.Den] fun b2 => ?_
  refine JL.alloc [.int .i64 0, .int .i64 0, .int .i64 0] fun b3 => ?_
  refine JL.nil ?_
  refine JQ.then_normal ?_
  refine JQ.sub [(1, .pointer (some ⟨b2, 0, none⟩)), (2, .pointer (some ⟨b3, 0, none⟩))] ?_
  refine J.seq ?_
  refine J.region ?_
  refine JL.pur (.pointer (some ⟨b2, 0, none⟩)) (some 3) ?_
  refine JL.val (.int .i64 a1.Re) (some 4) (yields_load_box 0 0 (holds_box b2 23 [.int .i64 a1.Re, .int .i64 a1.Im, .int .i64 a1.Den]) tyAgg_2) ?_
  refine JL.pur (.pointer (some ⟨b2, 1, none⟩)) (some 5) ?_
  refine JL.val (.int .i64 a1.Im) (some 6) (yields_load_box 0 1 (holds_box b2 23 [.int .i64 a1.Re, .int .i64 a1.Im, .int .i64 a1.Den]) tyAgg_2) ?_
  refine JL.pur (.int .i64 (w64 (0 - a1.Im))) (some 7) ?_
  refine JL.pur (.pointer (some ⟨b2, 2, none⟩)) (some 8) ?_
  refine JL.val (.int .i64 a1.Den) (some 9) (yields_load_box 0 2 (holds_box b2 23 [.int .i64 a1.Re, .int .i64 a1.Im, .int .i64 a1.Den]) tyAgg_2) ?_
  refine JL.pur (.agg #[.int .i64 a1.Re, .int .i64 (w64 (0 - a1.Im)), .int .i64 a1.Den]) (some 10) ?_
  refine JL.store 1 b3 0 23 [.int .i64 0, .int .i64 0, .int .i64 0] [.int .i64 a1.Re, .int .i64 (w64 (0 - a1.Im)), .int .i64 a1.Den] tySize_23 ?_
  refine JL.nil ?_
  refine JQ.then_normal ?_
  refine JQ.sub [(2, .pointer (some ⟨b3, 0, none⟩))] ?_
  refine JQ.mask [At.box b3 23 [.int .i64 a1.Re, .int .i64 (w64 (0 - a1.Im)), .int .i64 a1.Den]] [false, true] ?_
  refine J.ret ?_
  obtain rfl := Option.some.inj H0
  exact JQ.done' (rs := [.cell 2 23]) (vs := [.agg #[.int .i64 a1.Re, .int .i64 (w64 (0 - a1.Im)), .int .i64 a1.Den]]) [] (.inr rfl) ⟨⟨b3, 0, _, _, by kernel_rfl, by kernel_rfl, holds_box b3 23 [.int .i64 a1.Re, .int .i64 (w64 (0 - a1.Im)), .int .i64 a1.Den], .inl ⟨tyAgg_23, tySize_23, rfl⟩⟩, trivial⟩ (fun _ h => Heap.to (Heap.pick [] (by decide) h)) ⟨rfl, rfl⟩

theorem ref33_adjoint.ok (a1 : (A4 Cx)) (r : (A4 Cx)) (H0 : ref33_adjoint.f a1 = some r) :
    Does Try.prog 38 [.agg #[.int .i64 a1.e0.Re, .int .i64 a1.e0.Im, .int .i64 a1.e0.Den, .int .i64 a1.e1.Re, .int .i64 a1.e1.Im, .int .i64 a1.e1.Den, .int .i64 a1.e2.Re, .int .i64 a1.e2.Im, .int .i64 a1.e2.Den, .int .i64 a1.e3.Re, .int .i64 a1.e3.Im, .int .i64 a1.e3.Den]].toArray [] [] false (fun v Δ => v = .agg #[.int .i64 r.e0.Re, .int .i64 r.e0.Im, .int .i64 r.e0.Den, .int .i64 r.e1.Re, .int .i64 r.e1.Im, .int .i64 r.e1.Den, .int .i64 r.e2.Re, .int .i64 r.e2.Im, .int .i64 r.e2.Den, .int .i64 r.e3.Re, .int .i64 r.e3.Im, .int .i64 r.e3.Den] ∧ Δ = []) := by
  refine Does.body (vs := [.agg #[.int .i64 a1.e0.Re, .int .i64 a1.e0.Im, .int .i64 a1.e0.Den, .int .i64 a1.e1.Re, .int .i64 a1.e1.Im, .int .i64 a1.e1.Den, .int .i64 a1.e2.Re, .int .i64 a1.e2.Im, .int .i64 a1.e2.Den, .int .i64 a1.e3.Re, .int .i64 a1.e3.Im, .int .i64 a1.e3.Den]]) Try.func38 rfl trivial trivial fun w S => ?_
  unfold ref33_adjoint.f at H0
  refine J.seq ?_
  refine J.region ?_
  refine JL.box [.int .i64 a1.e0.Re, .int .i64 a1.e0.Im, .int .i64 a1.e0.Den, .int .i64 a1.e1.Re, .int .i64 a1.e1.Im, .int .i64 a1.e1.Den, .int .i64 a1.e2.Re, .int .i64 a1.e2.Im, .int .i64 a1.e2.Den, .int .i64 a1.e3.Re, .int .i64 a1.e3.Im, .int .i64 a1.e3.Den] fun b2 => ?_
  refine JL.alloc [.int .i64 0, .int .i64 0, .int .i64 0, .int .i64 0, .int .i64 0, .int .i64 0, .int .i64 0, .int .i64 0, .int .i64 0, .int .i64 0, .int .i64 0, .int .i64 0] fun b3 => ?_
  refine JL.nil ?_
  refine JQ.then_normal ?_
  refine JQ.sub [(1, .pointer (some ⟨b2, 0, none⟩)), (2, .pointer (some ⟨b3, 0, none⟩))] ?_
  refine J.seq ?_
  refine J.drawT 13 ?_
  refine QL.pur (.pointer (some ⟨b2, 0, none⟩)) (some 3) ?_
  refine QL.val (.agg #[.int .i64 a1.e0.Re, .int .i64 a1.e0.Im, .int .i64 a1.e0.Den]) (some 4) (yields_load_boxes 0 0 [.int .i64 a1.e0.Re, .int .i64 a1.e0.Im, .int .i64 a1.e0.Den] (holds_box b2 25 [.int .i64 a1.e0.Re, .int .i64 a1.e0.Im, .int .i64 a1.e0.Den, .int .i64 a1.e1.Re, .int .i64 a1.e1.Im, .int .i64 a1.e1.Den, .int .i64 a1.e2.Re, .int .i64 a1.e2.Im, .int .i64 a1.e2.Den, .int .i64 a1.e3.Re, .int .i64 a1.e3.Im, .int .i64 a1.e3.Den]) tyAgg_23 tySize_23) ?_
  obtain ⟨t4, hc5, H0⟩ := bind_some H0
  refine QL.call [] [] (ref26_Apart.ok a1.e0 _ hc5) trivial ?_
  refine QL.pur (.pointer (some ⟨b2, 6, none⟩)) (some 6) ?_
  refine QL.val (.agg #[.int .i64 a1.e2.Re, .int .i64 a1.e2.Im, .int .i64 a1.e2.Den]) (some 7) (yields_load_boxes 0 6 [.int .i64 a1.e2.Re, .int .i64 a1.e2.Im, .int .i64 a1.e2.Den] (holds_box b2 25 [.int .i64 a1.e0.Re, .int .i64 a1.e0.Im, .int .i64 a1.e0.Den, .int .i64 a1.e1.Re, .int .i64 a1.e1.Im, .int .i64 a1.e1.Den, .int .i64 a1.e2.Re, .int .i64 a1.e2.Im, .int .i64 a1.e2.Den, .int .i64 a1.e3.Re, .int .i64 a1.e3.Im, .int .i64 a1.e3.Den]) tyAgg_23 tySize_23) ?_
  obtain ⟨t6, hc7, H0⟩ := bind_some H0
  refine QL.call [] [] (ref26_Apart.ok a1.e2 _ hc7) trivial ?_
  refine QL.pur (.pointer (some ⟨b2, 3, none⟩)) (some 9) ?_
  refine QL.val (.agg #[.int .i64 a1.e1.Re, .int .i64 a1.e1.Im, .int .i64 a1.e1.Den]) (some 10) (yields_load_boxes 0 3 [.int .i64 a1.e1.Re, .int .i64 a1.e1.Im, .int .i64 a1.e1.Den] (holds_box b2 25 [.int .i64 a1.e0.Re, .int .i64 a1.e0.Im, .int .i64 a1.e0.Den, .int .i64 a1.e1.Re, .int .i64 a1.e1.Im, .int .i64 a1.e1.Den, .int .i64 a1.e2.Re, .int .i64 a1.e2.Im, .int .i64 a1.e2.Den, .int .i64 a1.e3.Re, .int .i64 a1.e3.Im, .int .i64 a1.e3.Den]) tyAgg_23 tySize_23) ?_
  obtain ⟨t8, hc9, H0⟩ := bind_some H0
  refine QL.call [] [] (ref26_Apart.ok a1.e1 _ hc9) trivial ?_
  refine QL.pur (.pointer (some ⟨b2, 9, none⟩)) (some 12) ?_
  refine QL.val (.agg #[.int .i64 a1.e3.Re, .int .i64 a1.e3.Im, .int .i64 a1.e3.Den]) (some 13) (yields_load_boxes 0 9 [.int .i64 a1.e3.Re, .int .i64 a1.e3.Im, .int .i64 a1.e3.Den] (holds_box b2 25 [.int .i64 a1.e0.Re, .int .i64 a1.e0.Im, .int .i64 a1.e0.Den, .int .i64 a1.e1.Re, .int .i64 a1.e1.Im, .int .i64 a1.e1.Den, .int .i64 a1.e2.Re, .int .i64 a1.e2.Im, .int .i64 a1.e2.Den, .int .i64 a1.e3.Re, .int .i64 a1.e3.Im, .int .i64 a1.e3.Den]) tyAgg_23 tySize_23) ?_
  obtain ⟨t10, hc11, H0⟩ := bind_some H0
  refine QL.call [] [] (ref26_Apart.ok a1.e3 _ hc11) trivial ?_
  refine QL.pur (.agg #[.int .i64 t4.Re, .int .i64 t4.Im, .int .i64 t4.Den, .int .i64 t6.Re, .int .i64 t6.Im, .int .i64 t6.Den, .int .i64 t8.Re, .int .i64 t8.Im, .int .i64 t8.Den, .int .i64 t10.Re, .int .i64 t10.Im, .int .i64 t10.Den]) (some 15) ?_
  refine QL.nil ?_
  refine JA.nil ?_
  refine JL.store 1 b3 0 25 [.int .i64 0, .int .i64 0, .int .i64 0, .int .i64 0, .int .i64 0, .int .i64 0, .int .i64 0, .int .i64 0, .int .i64 0, .int .i64 0, .int .i64 0, .int .i64 0] [.int .i64 t4.Re, .int .i64 t4.Im, .int .i64 t4.Den, .int .i64 t6.Re, .int .i64 t6.Im, .int .i64 t6.Den, .int .i64 t8.Re, .int .i64 t8.Im, .int .i64 t8.Den, .int .i64 t10.Re, .int .i64 t10.Im, .int .i64 t10.Den] tySize_25 ?_
  refine JL.nil ?_
  refine JQ.then_normal ?_
  refine JQ.sub [(2, .pointer (some ⟨b3, 0, none⟩))] ?_
  refine JQ.mask [At.box b3 25 [.int .i64 t4.Re, .int .i64 t4.Im, .int .i64 t4.Den, .int .i64 t6.Re, .int .i64 t6.Im, .int .i64 t6.Den, .int .i64 t8.Re, .int .i64 t8.Im, .int .i64 t8.Den, .int .i64 t10.Re, .int .i64 t10.Im, .int .i64 t10.Den]] [false, true] ?_
  refine J.ret ?_
  obtain rfl := Option.some.inj H0
  exact JQ.done' (rs := [.cell 2 25]) (vs := [.agg #[.int .i64 t4.Re, .int .i64 t4.Im, .int .i64 t4.Den, .int .i64 t6.Re, .int .i64 t6.Im, .int .i64 t6.Den, .int .i64 t8.Re, .int .i64 t8.Im, .int .i64 t8.Den, .int .i64 t10.Re, .int .i64 t10.Im, .int .i64 t10.Den]]) [] (.inr rfl) ⟨⟨b3, 0, _, _, by kernel_rfl, by kernel_rfl, holds_box b3 25 [.int .i64 t4.Re, .int .i64 t4.Im, .int .i64 t4.Den, .int .i64 t6.Re, .int .i64 t6.Im, .int .i64 t6.Den, .int .i64 t8.Re, .int .i64 t8.Im, .int .i64 t8.Den, .int .i64 t10.Re, .int .i64 t10.Im, .int .i64 t10.Den], .inl ⟨tyAgg_25, tySize_25, rfl⟩⟩, trivial⟩ (fun _ h => Heap.to (Heap.pick [] (by decide) h)) ⟨rfl, rfl⟩


end Go.Proofs.Ytlfmmenlkpoodaa.M
