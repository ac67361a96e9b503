import Derived.Test.YtlemaejpllhjnaaGw9
import Derived.Test.YtlemaejpllhjnaaProg
import Derived.Test.YtlemaejpllhjnaaM0
set_option linter.unusedVariables false
set_option linter.unusedSimpArgs false
set_option maxRecDepth 100000
set_option maxHeartbeats 8000000
namespace Go.Proofs.Ytlemaejpllhjnaa.M
open Go.GW Go.Proofs

theorem eqg_29 : Try.prog.eqGuardType Try.prog.depth 29 = false := by kernel_rfl
theorem tySize_eq_3 : tySize Try.prog 3 = some 1 := by kernel_rfl
theorem eqd_29 (d : Nat) (x y : (A5 Int)) (w : World) : (Op.equalIn (d + 2) 29 (.agg #[.int .i64 x.e0, .int .i64 x.e1, .int .i64 x.e2, .int .i64 x.e3, .int .i64 x.e4]) (.agg #[.int .i64 y.e0, .int .i64 y.e1, .int .i64 y.e2, .int .i64 y.e3, .int .i64 y.e4])).run Try.prog w = .ok (decide (x = y)) w := by
  have h : decide (x = y) = (decide (x.e0 = y.e0) && (decide (x.e1 = y.e1) && (decide (x.e2 = y.e2) && (decide (x.e3 = y.e3) && (decide (x.e4 = y.e4) && true))))) := by cases x; cases y; simp
  rw [h]
  exact eqa_of Try.underlying29 (tySize_eq_3) (eqi_cons (eq_int d 3 .i64 x.e0 y.e0 w Try.underlying3) (eqi_cons (eq_int d 3 .i64 x.e1 y.e1 w Try.underlying3) (eqi_cons (eq_int d 3 .i64 x.e2 y.e2 w Try.underlying3) (eqi_cons (eq_int d 3 .i64 x.e3 y.e3 w Try.underlying3) (eqi_cons (eq_int d 3 .i64 x.e4 y.e4 w Try.underlying3) eqi_nil)))))
theorem eqt_29 (x y : (A5 Int)) (w : World) : (Op.equal 29 (.agg #[.int .i64 x.e0, .int .i64 x.e1, .int .i64 x.e2, .int .i64 x.e3, .int .i64 x.e4]) (.agg #[.int .i64 y.e0, .int .i64 y.e1, .int .i64 y.e2, .int .i64 y.e3, .int .i64 y.e4])).run Try.prog w = .ok (decide (x = y)) w := eqd_29 9998 x y w
theorem info_3 : (Try.prog.info? 3).map (fun i => (i.zero, i.size, i.bytes)) = some (some (.int .i64 0), 1, 8) := by kernel_rfl
theorem tyAgg_3 : tyAgg Try.prog 3 = some false := by kernel_rfl
theorem tyAgg_29 : tyAgg Try.prog 29 = some true := by kernel_rfl
theorem tySize_3 : tySize Try.prog 3 = some 1 := by kernel_rfl
theorem tySize_29 : tySize Try.prog 29 = some 5 := by kernel_rfl
theorem ref13_Long.ok (l1 : (List Int)) (A2 : Option Addr) (c3 : Nat) (r : Bool) (H0 : ref13_Long.f l1 = some r) :
    Does Try.prog 9 [.slice A2 l1.length c3].toArray [At.rd A2 c3 ((flInt .i64).kd) l1 true] [] false (fun v Δ => v = .bool r ∧ Δ = []) := by
  refine Does.body (vs := [.slice A2 l1.length c3]) Try.func9 rfl ⟨.inl rfl, trivial⟩ trivial fun w S => ?_
  unfold ref13_Long.f at H0
  refine J.seq ?_
  refine J.region ?_
  refine JL.as (.bool false) ?_
  refine JL.nil ?_
  refine JQ.then_normal ?_
  refine JQ.sub [(0, .slice A2 l1.length c3)] ?_
  refine J.seq ?_
  refine J.region ?_
  refine JL.mv (.slice A2 l1.length c3) ?_
  refine JL.pur (.int .i64 (l1.length : Int)) (some 4) ?_
  refine JL.pur (.bool (decide (300 < (l1.length : Int)))) (some 5) ?_
  refine JL.as (.bool (decide (300 < (l1.length : Int)))) ?_
  refine JL.nil ?_
  refine JQ.then_normal ?_
  refine JQ.sub [(2, .bool (decide (300 < (l1.length : Int))))] ?_
  refine JQ.mask [] [false] ?_
  refine J.ret ?_
  obtain rfl := Option.some.inj H0
  exact JQ.done' (rs := [.tmp 2]) (vs := [.bool (decide (300 < (l1.length : Int)))]) [] (.inr rfl) ⟨by kernel_rfl, trivial⟩ (fun _ h => Heap.to h) ⟨rfl, rfl⟩

theorem slices_Index__int_int.ok (s1 : (List Int)) (A2 : Option Addr) (c3 : Nat) (v5 : Int) (r : Int) (H0 : slices_Index__int_int.f s1 v5 = some r) :
    Does Try.prog 50 [.slice A2 s1.length c3, .int .i64 v5].toArray [At.rd A2 c3 ((flInt .i64).kd) s1 true] [] false (fun v Δ => v = .int .i64 r ∧ Δ = []) := by
  refine Does.body (vs := [.slice A2 s1.length c3, .int .i64 v5]) Try.func50 rfl ⟨.inl rfl, trivial⟩ trivial fun w S => ?_
  unfold slices_Index__int_int.f at H0
  refine J.seq ?_
  refine J.region ?_
  refine JL.as (.int .i64 0) ?_
  refine JL.nil ?_
  refine JQ.then_normal ?_
  refine JQ.sub [(0, .slice A2 s1.length c3), (1, .int .i64 v5)] ?_
  refine J.seq ?_
  refine J.seq ?_
  refine J.region ?_
  refine JL.mv (.slice A2 s1.length c3) ?_
  refine JL.pur (.int .i64 (s1.length : Int)) (some 7) ?_
  refine JL.mv (.int .i64 0) ?_
  refine JL.nil ?_
  refine JQ.then_normal ?_
  refine JQ.sub [(0, .slice A2 s1.length c3), (1, .int .i64 v5), (7, .int .i64 (s1.length : Int)), (8, .int .i64 0)] ?_
  obtain ⟨o1, hit, H0⟩ := bind_some H0
  refine J.loop (σ := Int) (τ := Unit) (G := Unit) (G' := Unit) _ o1 (fun s g => [(0, .slice A2 s1.length c3), (1, .int .i64 v5), (7, .int .i64 (s1.length : Int)), (8, .int .i64 s)]) (fun s g => [At.rd A2 c3 ((flInt .i64).kd) s1 true]) (fun t => slices_Index__int_int.k2 = some r) (fun t g => []) (fun t g => []) 0 () hit (fun _ h => Heap.to h) ?_ ?_
  · clear hit
    rintro x20 ⟨⟩ st1 H1 hb1 hr1
    replace H1 : slices_Index__int_int.s1 s1 v5 x20 = some st1 := H1
    unfold slices_Index__int_int.s1 at H1
    refine JQ.sub [(0, .slice A2 s1.length c3), (1, .int .i64 v5), (7, .int .i64 (s1.length : Int)), (8, .int .i64 x20)] ?_
    refine JQ.turn (Δ' := [At.rd A2 c3 ((flInt .i64).kd) s1 true]) (fun _ h => h.to) ?_
    refine J.seq ?_
    refine J.region ?_
    refine JL.pur (.bool (decide (x20 < (s1.length : Int)))) (some 9) ?_
    refine JL.nil ?_
    refine JQ.then_normal ?_
    refine J.seq ?_
    rcases ite_cases H1 with ⟨h27, H1⟩ | ⟨h27, H1⟩
    · refine J.cond_true h27 ?_
      refine J.skip ?_
      refine JQ.then_normal ?_
      refine JQ.sub [(0, .slice A2 s1.length c3), (1, .int .i64 v5), (7, .int .i64 (s1.length : Int)), (8, .int .i64 x20)] ?_
      refine J.seq ?_
      refine J.block ?_
      refine J.seq ?_
      refine J.region ?_
      refine JL.mv (.int .i64 x20) ?_
      refine JL.as (.int .i64 x20) ?_
      refine JL.nil ?_
      refine JQ.then_normal ?_
      refine JQ.sub [(0, .slice A2 s1.length c3), (1, .int .i64 v5), (5, .int .i64 x20), (7, .int .i64 (s1.length : Int)), (8, .int .i64 x20)] ?_
      refine J.seq ?_
      refine J.region ?_
      refine JL.mv (.int .i64 v5) ?_
      refine JL.mv (.slice A2 s1.length c3) ?_
      refine JL.mv (.int .i64 x20) ?_
      obtain ⟨⟨h28, h29⟩, H1⟩ := ite_must H1
      refine JL.ixAddr 0 1 c3 .i64 (elems_rd A2 c3 ((flInt .i64).kd) s1 true) Try.underlying22 tySize_3 h28 h29 fun g30 o31 hA => ?_
      subst hA
      refine JL.val (.int .i64 (ix s1 x20)) (some 15) (gives_loadEl (f := (flInt .i64)) 0 0 x20 (elems_rd (some ⟨g30, o31, none⟩) c3 ((flInt .i64).kd) s1 true) h28 h29 tySize_3 (.inr ⟨tyAgg_3, rfl, rfl⟩)) ?_
      refine JL.pur (.bool (decide (v5 = (ix s1 x20)))) (some 16) ?_
      refine JL.nil ?_
      refine JQ.then_normal ?_
      refine JQ.sub [(0, .slice (some ⟨g30, o31, none⟩) s1.length c3), (1, .int .i64 v5), (5, .int .i64 x20), (7, .int .i64 (s1.length : Int)), (8, .int .i64 x20), (16, .bool (decide (v5 = (ix s1 x20))))] ?_
      rcases ite_cases H1 with ⟨h32, H1⟩ | ⟨h32, H1⟩
      · refine J.cond_true h32 ?_
        refine J.seq ?_
        refine J.region ?_
        refine JL.mv (.int .i64 x20) ?_
        refine JL.as (.int .i64 x20) ?_
        refine JL.nil ?_
        refine JQ.then_normal ?_
        refine JQ.sub [(4, .int .i64 x20)] ?_
        refine JQ.mask [] [false] ?_
        refine J.ret ?_
        refine JQ.blk_ret ?_
        refine JQ.then_ret ?_
        refine JQ.then_ret ?_
        refine JQ.blk_ret ?_
        refine JQ.met_ret ?_
        refine JQ.then_ret ?_
        rw [hr1 _ (Option.some.inj H1).symm, fin_ret] at H0
        obtain rfl := Option.some.inj H0
        exact JQ.done' (rs := [.tmp 4]) (vs := [.int .i64 x20]) [] (.inr rfl) ⟨by kernel_rfl, trivial⟩ (fun _ h => Heap.to h) ⟨rfl, rfl⟩
      · refine J.cond_false h32 ?_
        refine J.skip ?_
        refine JQ.blk_normal ?_
        refine JQ.then_normal ?_
        refine JQ.sub [(0, .slice (some ⟨g30, o31, none⟩) s1.length c3), (1, .int .i64 v5), (7, .int .i64 (s1.length : Int)), (8, .int .i64 x20)] ?_
        refine J.region ?_
        refine JL.pur (.int .i64 (w64 (x20 + 1))) (some 18) ?_
        refine JL.mv (.int .i64 (w64 (x20 + 1))) ?_
        refine JL.nil ?_
        refine JQ.then_normal ?_
        exact JQ.again (w64 (x20 + 1)) () (Option.some.inj H1).symm (fun _ h => Heap.to h)
    · refine J.cond_false h27 ?_
      refine J.exit ?_
      refine JQ.then_exit ?_
      refine JQ.then_exit ?_
      refine JQ.blk_exit ?_
      rw [hb1 _ (Option.some.inj H1).symm, fin_brk] at H0
      exact JQ.met () () H0 (fun _ h => Heap.to (Heap.pick [] (by decide) h))
  · clear hit H0
    rintro ⟨⟩ ⟨⟩ H0
    replace H0 : slices_Index__int_int.k2 = some r := H0
    unfold slices_Index__int_int.k2 at H0
    refine JQ.sub [] ?_
    refine JQ.turn (Δ' := []) (fun _ h => h.to) ?_
    refine JQ.then_normal ?_
    refine J.seq ?_
    refine J.region ?_
    refine JL.as (.int .i64 (-1)) ?_
    refine JL.nil ?_
    refine JQ.then_normal ?_
    refine J.ret ?_
    obtain rfl := Option.some.inj H0
    exact JQ.done' (rs := [.tmp 4]) (vs := [.int .i64 (-1)]) [] (.inr rfl) ⟨by kernel_rfl, trivial⟩ (fun _ h => Heap.to h) ⟨rfl, rfl⟩

theorem sample_digit.ok (x1 : Int) (r : Int) (H0 : sample_digit.f x1 = some r) :
    Does Try.prog 33 [.int .i64 x1].toArray [] [] false (fun v Δ => v = .int .i64 r ∧ Δ = []) := by
  refine Does.body (vs := [.int .i64 x1]) Try.func33 rfl trivial trivial fun w S => ?_
  unfold sample_digit.f at H0
  refine J.seq ?_
  refine J.region ?_
  refine JL.as (.int .i64 0) ?_
  refine JL.nil ?_
  refine JQ.then_normal ?_
  refine JQ.sub [(0, .int .i64 x1)] ?_
  refine J.seq ?_
  refine J.region ?_
  refine JL.buildSl 3 ((flInt .i64).kd) (([0, (-3), (-1), 1, 3] : List Int) : List Int) [.int .i64 0, .int .i64 (-3), .int .i64 (-1), .int .i64 1, .int .i64 3] false (closes_fl rfl) fun b2 => ?_
  refine JL.mv (.int .i64 x1) ?_
  obtain ⟨t3, hc4, H0⟩ := bind_some H0
  refine JL.call [] [] [] (slices_Index__int_int.ok ([0, (-3), (-1), 1, 3] : List Int) (some ⟨b2, 0, none⟩) 5 x1 _ hc4) ⟨pre_view 0 (view_row (some ⟨b2, 0, none⟩) 5 3 ((flInt .i64).kd) ([0, (-3), (-1), 1, 3] : List Int) false true), trivial⟩ ?_
  rintro _ _ ⟨rfl, rfl⟩
  refine JL.as (.int .i64 t3) ?_
  refine JL.nil ?_
  refine JQ.then_normal ?_
  refine JQ.sub [(2, .int .i64 t3)] ?_
  refine JQ.mask [] [false] ?_
  refine J.ret ?_
  obtain rfl := Option.some.inj H0
  exact JQ.done' (rs := [.tmp 2]) (vs := [.int .i64 t3]) [] (.inr rfl) ⟨by kernel_rfl, trivial⟩ (fun _ h => Heap.to h) ⟨rfl, rfl⟩

theorem sample_Check_1.ok (x1 : Int) (r : Bool) (H0 : sample_Check_1.f x1 = some r) :
    Does Try.prog 35 [.int .i64 x1].toArray [] [] false (fun v Δ => v = .bool r ∧ Δ = []) := by
  refine Does.body (vs := [.int .i64 x1]) Try.func35 rfl trivial trivial fun w S => ?_
  unfold sample_Check_1.f at H0
  refine J.seq ?_
  refine J.region ?_
  refine JL.as (.bool false) ?_
  refine JL.nil ?_
  refine JQ.then_normal ?_
  refine JQ.sub [(0, .int .i64 x1)] ?_
  refine J.seq ?_
  refine J.region ?_
  refine JL.mv (.int .i64 x1) ?_
  obtain ⟨t2, hc3, H0⟩ := bind_some H0
  refine JL.call [] [] [] (sample_digit.ok x1 _ hc3) trivial ?_
  rintro _ _ ⟨rfl, rfl⟩
  refine JL.pur (.bool (decide (t2 < 0))) (some 5) ?_
  refine JL.as (.bool (decide (t2 < 0))) ?_
  refine JL.nil ?_
  refine JQ.then_normal ?_
  refine JQ.sub [(2, .bool (decide (t2 < 0)))] ?_
  refine J.ret ?_
  obtain rfl := Option.some.inj H0
  exact JQ.done' (rs := [.tmp 2]) (vs := [.bool (decide (t2 < 0))]) [] (.inr rfl) ⟨by kernel_rfl, trivial⟩ (fun _ h => Heap.to h) ⟨rfl, rfl⟩

theorem slices_IndexFunc__int_int__sample_Check_1.ok (s1 : (List Int)) (A2 : Option Addr) (c3 : Nat) (r : Int) (H0 : slices_IndexFunc__int_int__sample_Check_1.f s1 = some r) :
    Does Try.prog 51 [.slice A2 s1.length c3, .func (.func 35) #[] #[]].toArray [At.rd A2 c3 ((flInt .i64).kd) s1 true] [] false (fun v Δ => v = .int .i64 r ∧ Δ = []) := by
  refine Does.body (vs := [.slice A2 s1.length c3, .func (.func 35) #[] #[]]) Try.func51 rfl ⟨.inl rfl, trivial⟩ trivial fun w S => ?_
  unfold slices_IndexFunc__int_int__sample_Check_1.f at H0
  refine J.seq ?_
  refine J.region ?_
  refine JL.as (.int .i64 0) ?_
  refine JL.nil ?_
  refine JQ.then_normal ?_
  refine JQ.sub [(0, .slice A2 s1.length c3), (1, .func (.func 35) #[] #[])] ?_
  refine J.seq ?_
  refine J.seq ?_
  refine J.region ?_
  refine JL.mv (.slice A2 s1.length c3) ?_
  refine JL.pur (.int .i64 (s1.length : Int)) (some 7) ?_
  refine JL.mv (.int .i64 0) ?_
  refine JL.nil ?_
  refine JQ.then_normal ?_
  refine JQ.sub [(0, .slice A2 s1.length c3), (1, .func (.func 35) #[] #[]), (7, .int .i64 (s1.length : Int)), (8, .int .i64 0)] ?_
  obtain ⟨o1, hit, H0⟩ := bind_some H0
  refine J.loop (σ := Int) (τ := Unit) (G := Unit) (G' := Unit) _ o1 (fun s g => [(0, .slice A2 s1.length c3), (1, .func (.func 35) #[] #[]), (7, .int .i64 (s1.length : Int)), (8, .int .i64 s)]) (fun s g => [At.rd A2 c3 ((flInt .i64).kd) s1 true]) (fun t => slices_IndexFunc__int_int__sample_Check_1.k2 = some r) (fun t g => []) (fun t g => []) 0 () hit (fun _ h => Heap.to h) ?_ ?_
  · clear hit
    rintro x23 ⟨⟩ st1 H1 hb1 hr1
    replace H1 : slices_IndexFunc__int_int__sample_Check_1.s1 s1 x23 = some st1 := H1
    unfold slices_IndexFunc__int_int__sample_Check_1.s1 at H1
    refine JQ.sub [(0, .slice A2 s1.length c3), (1, .func (.func 35) #[] #[]), (7, .int .i64 (s1.length : Int)), (8, .int .i64 x23)] ?_
    refine JQ.turn (Δ' := [At.rd A2 c3 ((flInt .i64).kd) s1 true]) (fun _ h => h.to) ?_
    refine J.seq ?_
    refine J.region ?_
    refine JL.pur (.bool (decide (x23 < (s1.length : Int)))) (some 9) ?_
    refine JL.nil ?_
    refine JQ.then_normal ?_
    refine J.seq ?_
    rcases ite_cases H1 with ⟨h32, H1⟩ | ⟨h32, H1⟩
    · refine J.cond_true h32 ?_
      refine J.skip ?_
      refine JQ.then_normal ?_
      refine JQ.sub [(0, .slice A2 s1.length c3), (1, .func (.func 35) #[] #[]), (7, .int .i64 (s1.length : Int)), (8, .int .i64 x23)] ?_
      refine J.seq ?_
      refine J.block ?_
      refine J.seq ?_
      refine J.region ?_
      refine JL.mv (.int .i64 x23) ?_
      refine JL.as (.int .i64 x23) ?_
      refine JL.nil ?_
      refine JQ.then_normal ?_
      refine JQ.sub [(0, .slice A2 s1.length c3), (1, .func (.func 35) #[] #[]), (5, .int .i64 x23), (7, .int .i64 (s1.length : Int)), (8, .int .i64 x23)] ?_
      refine J.seq ?_
      refine J.region ?_
      refine JL.mv (.func (.func 35) #[] #[]) ?_
      refine JL.mv (.slice A2 s1.length c3) ?_
      refine JL.mv (.int .i64 x23) ?_
      obtain ⟨⟨h33, h34⟩, H1⟩ := ite_must H1
      refine JL.ixAddr 0 1 c3 .i64 (elems_rd A2 c3 ((flInt .i64).kd) s1 true) Try.underlying22 tySize_3 h33 h34 fun g35 o36 hA => ?_
      subst hA
      refine JL.val (.int .i64 (ix s1 x23)) (some 15) (gives_loadEl (f := (flInt .i64)) 0 0 x23 (elems_rd (some ⟨g35, o36, none⟩) c3 ((flInt .i64).kd) s1 true) h33 h34 tySize_3 (.inr ⟨tyAgg_3, rfl, rfl⟩)) ?_
      obtain ⟨t37, hc38, H1⟩ := bind_some H1
      refine JL.call [] [] [] (sample_Check_1.ok (ix s1 x23) _ hc38) trivial ?_
      rintro _ _ ⟨rfl, rfl⟩
      refine JL.nil ?_
      refine JQ.then_normal ?_
      refine JQ.sub [(0, .slice (some ⟨g35, o36, none⟩) s1.length c3), (1, .func (.func 35) #[] #[]), (5, .int .i64 x23), (7, .int .i64 (s1.length : Int)), (8, .int .i64 x23), (16, .bool t37)] ?_
      rcases ite_cases H1 with ⟨h39, H1⟩ | ⟨h39, H1⟩
      · refine J.cond_true h39 ?_
        refine J.seq ?_
        refine J.region ?_
        refine JL.mv (.int .i64 x23) ?_
        refine JL.as (.int .i64 x23) ?_
        refine JL.nil ?_
        refine JQ.then_normal ?_
        refine JQ.sub [(4, .int .i64 x23)] ?_
        refine JQ.mask [] [false] ?_
        refine J.ret ?_
        refine JQ.blk_ret ?_
        refine JQ.then_ret ?_
        refine JQ.then_ret ?_
        refine JQ.blk_ret ?_
        refine JQ.met_ret ?_
        refine JQ.then_ret ?_
        rw [hr1 _ (Option.some.inj H1).symm, fin_ret] at H0
        obtain rfl := Option.some.inj H0
        exact JQ.done' (rs := [.tmp 4]) (vs := [.int .i64 x23]) [] (.inr rfl) ⟨by kernel_rfl, trivial⟩ (fun _ h => Heap.to h) ⟨rfl, rfl⟩
      · refine J.cond_false h39 ?_
        refine J.skip ?_
        refine JQ.blk_normal ?_
        refine JQ.then_normal ?_
        refine JQ.sub [(0, .slice (some ⟨g35, o36, none⟩) s1.length c3), (1, .func (.func 35) #[] #[]), (7, .int .i64 (s1.length : Int)), (8, .int .i64 x23)] ?_
        refine J.region ?_
        refine JL.pur (.int .i64 (w64 (x23 + 1))) (some 18) ?_
        refine JL.mv (.int .i64 (w64 (x23 + 1))) ?_
        refine JL.nil ?_
        refine JQ.then_normal ?_
        exact JQ.again (w64 (x23 + 1)) () (Option.some.inj H1).symm (fun _ h => Heap.to h)
    · refine J.cond_false h32 ?_
      refine J.exit ?_
      refine JQ.then_exit ?_
      refine JQ.then_exit ?_
      refine JQ.blk_exit ?_
      rw [hb1 _ (Option.some.inj H1).symm, fin_brk] at H0
      exact JQ.met () () H0 (fun _ h => Heap.to (Heap.pick [] (by decide) h))
  · clear hit H0
    rintro ⟨⟩ ⟨⟩ H0
    replace H0 : slices_IndexFunc__int_int__sample_Check_1.k2 = some r := H0
    unfold slices_IndexFunc__int_int__sample_Check_1.k2 at H0
    refine JQ.sub [] ?_
    refine JQ.turn (Δ' := []) (fun _ h => h.to) ?_
    refine JQ.then_normal ?_
    refine J.seq ?_
    refine J.region ?_
    refine JL.as (.int .i64 (-1)) ?_
    refine JL.nil ?_
    refine JQ.then_normal ?_
    refine J.ret ?_
    obtain rfl := Option.some.inj H0
    exact JQ.done' (rs := [.tmp 4]) (vs := [.int .i64 (-1)]) [] (.inr rfl) ⟨by kernel_rfl, trivial⟩ (fun _ h => Heap.to h) ⟨rfl, rfl⟩

theorem slices_ContainsFunc__int_int__sample_Check_1.ok (s1 : (List Int)) (A2 : Option Addr) (c3 : Nat) (r : Bool) (H0 : slices_ContainsFunc__int_int__sample_Check_1.f s1 = some r) :
    Does Try.prog 34 [.slice A2 s1.length c3, .func (.func 35) #[] #[]].toArray [At.rd A2 c3 ((flInt .i64).kd) s1 true] [] false (fun v Δ => v = .bool r ∧ Δ = []) := by
  refine Does.body (vs := [.slice A2 s1.length c3, .func (.func 35) #[] #[]]) Try.func34 rfl ⟨.inl rfl, trivial⟩ trivial fun w S => ?_
  unfold slices_ContainsFunc__int_int__sample_Check_1.f at H0
  refine J.seq ?_
  refine J.region ?_
  refine JL.as (.bool false) ?_
  refine JL.nil ?_
  refine JQ.then_normal ?_
  refine JQ.sub [(0, .slice A2 s1.length c3), (1, .func (.func 35) #[] #[])] ?_
  refine J.seq ?_
  refine J.region ?_
  refine JL.mv (.slice A2 s1.length c3) ?_
  refine JL.mv (.func (.func 35) #[] #[]) ?_
  obtain ⟨t5, hc6, H0⟩ := bind_some H0
  refine JL.call [] [] [] (slices_IndexFunc__int_int__sample_Check_1.ok s1 A2 c3 _ hc6) ⟨pre_any 0 (view_rd A2 c3 ((flInt .i64).kd) s1 true true), trivial⟩ ?_
  rintro _ _ ⟨rfl, rfl⟩
  refine JL.pur (.bool (decide (0 ≤ t5))) (some 8) ?_
  refine JL.as (.bool (decide (0 ≤ t5))) ?_
  refine JL.nil ?_
  refine JQ.then_normal ?_
  refine JQ.sub [(4, .bool (decide (0 ≤ t5)))] ?_
  refine JQ.mask [] [false] ?_
  refine J.ret ?_
  obtain rfl := Option.some.inj H0
  exact JQ.done' (rs := [.tmp 4]) (vs := [.bool (decide (0 ≤ t5))]) [] (.inr rfl) ⟨by kernel_rfl, trivial⟩ (fun _ h => Heap.to h) ⟨rfl, rfl⟩

theorem sample_Check.ok (s1 : (List Int)) (A2 : Option Addr) (c3 : Nat) (r : Int) (H0 : sample_Check.f s1 = some r) :
    Does Try.prog 16 [.slice A2 s1.length c3].toArray [At.rd A2 c3 ((flInt .i64).kd) s1 true] [] false (fun v Δ => v = .int .i64 r ∧ Δ = []) := by
  refine Does.body (vs := [.slice A2 s1.length c3]) Try.func16 rfl ⟨.inl rfl, trivial⟩ trivial fun w S => ?_
  unfold sample_Check.f at H0
  refine J.seq ?_
  refine J.region ?_
  refine JL.as (.int .i64 0) ?_
  refine JL.nil ?_
  refine JQ.then_normal ?_
  refine JQ.sub [(0, .slice A2 s1.length c3)] ?_
  refine J.seq ?_
  refine J.seq ?_
  refine J.region ?_
  refine JL.mv (.slice A2 s1.length c3) ?_
  refine JL.pur (.int .i64 (s1.length : Int)) (some 4) ?_
  refine JL.pur (.bool (decide (256 < (s1.length : Int)))) (some 5) ?_
  refine JL.nil ?_
  refine JQ.then_normal ?_
  refine JQ.sub [(0, .slice A2 s1.length c3), (5, .bool (decide (256 < (s1.length : Int))))] ?_
  rcases ite_cases H0 with ⟨h5, H0⟩ | ⟨h5, H0⟩
  · refine J.cond_true h5 ?_
    refine J.seq ?_
    refine J.region ?_
    refine JL.as (.int .i64 4) ?_
    refine JL.nil ?_
    refine JQ.then_normal ?_
    refine JQ.sub [(2, .int .i64 4)] ?_
    refine JQ.mask [] [false] ?_
    refine J.ret ?_
    refine JQ.then_ret ?_
    obtain rfl := Option.some.inj H0
    exact JQ.done' (rs := [.tmp 2]) (vs := [.int .i64 4]) [] (.inr rfl) ⟨by kernel_rfl, trivial⟩ (fun _ h => Heap.to h) ⟨rfl, rfl⟩
  · refine J.cond_false h5 ?_
    refine J.skip ?_
    refine JQ.then_normal ?_
    refine JQ.sub [(0, .slice A2 s1.length c3)] ?_
    refine J.seq ?_
    refine J.seq ?_
    refine J.region ?_
    refine JL.mv (.slice A2 s1.length c3) ?_
    obtain ⟨t6, hc7, H0⟩ := bind_some H0
    refine JL.call [] [] [] (slices_ContainsFunc__int_int__sample_Check_1.ok s1 A2 c3 _ hc7) ⟨pre_any 0 (view_rd A2 c3 ((flInt .i64).kd) s1 true true), trivial⟩ ?_
    rintro _ _ ⟨rfl, rfl⟩
    refine JL.nil ?_
    refine JQ.then_normal ?_
    refine JQ.sub [(7, .bool t6)] ?_
    refine JQ.mask [] [false] ?_
    rcases ite_cases H0 with ⟨h8, H0⟩ | ⟨h8, H0⟩
    · refine J.cond_true h8 ?_
      refine J.seq ?_
      refine J.region ?_
      refine JL.as (.int .i64 8) ?_
      refine JL.nil ?_
      refine JQ.then_normal ?_
      refine JQ.sub [(2, .int .i64 8)] ?_
      refine J.ret ?_
      refine JQ.then_ret ?_
      obtain rfl := Option.some.inj H0
      exact JQ.done' (rs := [.tmp 2]) (vs := [.int .i64 8]) [] (.inr rfl) ⟨by kernel_rfl, trivial⟩ (fun _ h => Heap.to h) ⟨rfl, rfl⟩
    · refine J.cond_false h8 ?_
      refine J.skip ?_
      refine JQ.then_normal ?_
      refine JQ.sub [] ?_
      refine J.seq ?_
      refine J.region ?_
      refine JL.as (.int .i64 0) ?_
      refine JL.nil ?_
      refine JQ.then_normal ?_
      refine J.ret ?_
      obtain rfl := Option.some.inj H0
      exact JQ.done' (rs := [.tmp 2]) (vs := [.int .i64 0]) [] (.inr rfl) ⟨by kernel_rfl, trivial⟩ (fun _ h => Heap.to h) ⟨rfl, rfl⟩

theorem sample_Bits.ok (s1 : (List Int)) (A2 : Option Addr) (c3 : Nat) (r : (Int × Int)) (H0 : sample_Bits.f s1 = some r) :
    Does Try.prog 10 [.slice A2 s1.length c3].toArray [At.rd A2 c3 ((flInt .i64).kd) s1 true] [] false (fun v Δ => v = .tuple #[.int .i64 r.1, .int .i64 r.2] ∧ Δ = []) := by
  refine Does.body (vs := [.slice A2 s1.length c3]) Try.func10 rfl ⟨.inl rfl, trivial⟩ trivial fun w S => ?_
  unfold sample_Bits.f at H0
  refine J.seq ?_
  refine J.region ?_
  refine JL.as (.int .i64 0) ?_
  refine JL.as (.int .i64 0) ?_
  refine JL.nil ?_
  refine JQ.then_normal ?_
  refine JQ.sub [(0, .slice A2 s1.length c3)] ?_
  refine J.seq ?_
  refine J.seq ?_
  refine J.region ?_
  refine JL.mv (.slice A2 s1.length c3) ?_
  obtain ⟨t5, hc6, H0⟩ := bind_some H0
  refine JL.call [] [] [] (sample_Check.ok s1 A2 c3 _ hc6) ⟨pre_any 0 (view_rd A2 c3 ((flInt .i64).kd) s1 true true), trivial⟩ ?_
  rintro _ _ ⟨rfl, rfl⟩
  refine JL.as (.int .i64 t5) ?_
  refine JL.nil ?_
  refine JQ.then_normal ?_
  refine JQ.sub [(0, .slice A2 s1.length c3), (4, .int .i64 t5)] ?_
  refine J.seq ?_
  refine J.region ?_
  refine JL.mv (.int .i64 t5) ?_
  refine JL.pur (.bool (!decide (t5 = 0))) (some 11) ?_
  refine JL.nil ?_
  refine JQ.then_normal ?_
  refine JQ.sub [(0, .slice A2 s1.length c3), (4, .int .i64 t5), (11, .bool (!decide (t5 = 0)))] ?_
  rcases ite_cases H0 with ⟨h7, H0⟩ | ⟨h7, H0⟩
  · refine J.cond_true h7 ?_
    refine J.seq ?_
    refine J.region ?_
    refine JL.mv (.int .i64 t5) ?_
    refine JL.as (.int .i64 0) ?_
    refine JL.as (.int .i64 t5) ?_
    refine JL.nil ?_
    refine JQ.then_normal ?_
    refine JQ.sub [(2, .int .i64 0), (3, .int .i64 t5)] ?_
    refine JQ.mask [] [false] ?_
    refine J.ret ?_
    refine JQ.then_ret ?_
    obtain rfl := Option.some.inj H0
    exact JQ.done' (rs := [.tmp 2, .tmp 3]) (vs := [.int .i64 0, .int .i64 t5]) [] (.inr rfl) ⟨by kernel_rfl, by kernel_rfl, trivial⟩ (fun _ h => Heap.to h) ⟨rfl, rfl⟩
  · refine J.cond_false h7 ?_
    refine J.skip ?_
    refine JQ.then_normal ?_
    refine JQ.sub [(0, .slice A2 s1.length c3)] ?_
    refine J.seq ?_
    refine J.region ?_
    refine JL.as (.int .i64 0) ?_
    refine JL.nil ?_
    refine JQ.then_normal ?_
    refine J.seq ?_
    refine J.seq ?_
    refine J.region ?_
    refine JL.mv (.slice A2 s1.length c3) ?_
    refine JL.pur (.int .i64 (s1.length : Int)) (some 14) ?_
    refine JL.mv (.int .i64 0) ?_
    refine JL.nil ?_
    refine JQ.then_normal ?_
    refine JQ.sub [(5, .int .i64 0), (13, .slice A2 s1.length c3), (14, .int .i64 (s1.length : Int)), (15, .int .i64 0)] ?_
    obtain ⟨o1, hit, H0⟩ := bind_some H0
    refine J.loop (σ := (Int × Int)) (τ := Int) (G := ((Option Addr) × Nat)) (G' := Unit) _ o1 (fun s g => [(5, .int .i64 s.1), (13, .slice g.1 s1.length g.2), (14, .int .i64 (s1.length : Int)), (15, .int .i64 s.2)]) (fun s g => [At.rd g.1 g.2 ((flInt .i64).kd) s1 true]) (fun t => sample_Bits.k17 t = some r) (fun t g => [(5, .int .i64 t)]) (fun t g => []) (0, 0) (A2, c3) hit (fun _ h => Heap.to h) ?_ ?_
    · clear hit
      rintro ⟨bits76, x80⟩ ⟨A77, c78⟩ st1 H1 hb1 hr1
      replace H1 : sample_Bits.s16 s1 bits76 x80 = some st1 := H1
      unfold sample_Bits.s16 at H1
      refine JQ.sub [(5, .int .i64 bits76), (13, .slice A77 s1.length c78), (14, .int .i64 (s1.length : Int)), (15, .int .i64 x80)] ?_
      refine JQ.turn (Δ' := [At.rd A77 c78 ((flInt .i64).kd) s1 true]) (fun _ h => h.to) ?_
      refine J.seq ?_
      refine J.region ?_
      refine JL.pur (.bool (decide (x80 < (s1.length : Int)))) (some 16) ?_
      refine JL.nil ?_
      refine JQ.then_normal ?_
      refine J.seq ?_
      rcases ite_cases H1 with ⟨h111, H1⟩ | ⟨h111, H1⟩
      · refine J.cond_true h111 ?_
        refine J.skip ?_
        refine JQ.then_normal ?_
        refine JQ.sub [(5, .int .i64 bits76), (13, .slice A77 s1.length c78), (14, .int .i64 (s1.length : Int)), (15, .int .i64 x80)] ?_
        refine J.join (T := Int) (G := ((Option Addr) × Nat)) (fun t => sample_Bits.k20 x80 t = some st1) (fun t g => [(5, .int .i64 t), (13, .slice g.1 s1.length g.2), (14, .int .i64 (s1.length : Int)), (15, .int .i64 x80)]) (fun t g => [At.rd g.1 g.2 ((flInt .i64).kd) s1 true]) ?_ ?_
        · refine J.block ?_
          refine J.seq ?_
          refine J.region ?_
          obtain ⟨⟨h128, h129⟩, H1⟩ := ite_must H1
          refine JL.ixAddr 0 1 c78 .i64 (elems_rd A77 c78 ((flInt .i64).kd) s1 true) Try.underlying22 tySize_3 h128 h129 fun g130 o131 hA => ?_
          subst hA
          refine JL.val (.int .i64 (ix s1 x80)) (some 18) (gives_loadEl (f := (flInt .i64)) 0 0 x80 (elems_rd (some ⟨g130, o131, none⟩) c78 ((flInt .i64).kd) s1 true) h128 h129 tySize_3 (.inr ⟨tyAgg_3, rfl, rfl⟩)) ?_
          refine JL.as (.int .i64 (ix s1 x80)) ?_
          refine JL.nil ?_
          refine JQ.then_normal ?_
          refine JQ.sub [(5, .int .i64 bits76), (7, .int .i64 (ix s1 x80)), (13, .slice (some ⟨g130, o131, none⟩) s1.length c78), (14, .int .i64 (s1.length : Int)), (15, .int .i64 x80)] ?_
          refine J.seq ?_
          refine J.region ?_
          refine JL.mv (.int .i64 (ix s1 x80)) ?_
          refine JL.nil ?_
          refine JQ.then_normal ?_
          refine JQ.sub [(5, .int .i64 bits76), (13, .slice (some ⟨g130, o131, none⟩) s1.length c78), (14, .int .i64 (s1.length : Int)), (15, .int .i64 x80), (19, .int .i64 (ix s1 x80))] ?_
          refine J.block ?_
          refine J.join (T := Bool) (G := Unit) (fun t => sample_Bits.k21 s1 bits76 x80 t = some st1) (fun t g => [(5, .int .i64 bits76), (13, .slice (some ⟨g130, o131, none⟩) s1.length c78), (14, .int .i64 (s1.length : Int)), (15, .int .i64 x80), (19, .int .i64 (ix s1 x80)), (20, .bool t)]) (fun t g => [At.rd (some ⟨g130, o131, none⟩) c78 ((flInt .i64).kd) s1 true]) ?_ ?_
          · refine J.seq ?_
            refine J.region ?_
            refine JL.pur (.bool (decide ((ix s1 x80) = (-3)))) (some 21) ?_
            refine JL.as (.bool (decide ((ix s1 x80) = (-3)))) ?_
            refine JL.nil ?_
            refine JQ.then_normal ?_
            refine JQ.sub [(5, .int .i64 bits76), (13, .slice (some ⟨g130, o131, none⟩) s1.length c78), (14, .int .i64 (s1.length : Int)), (15, .int .i64 x80), (19, .int .i64 (ix s1 x80)), (20, .bool (decide ((ix s1 x80) = (-3))))] ?_
            rcases ite_cases H1 with ⟨h139, H1⟩ | ⟨h139, H1⟩
            · refine J.cond_true h139 ?_
              refine J.skip ?_
              refine JQ.then_normal ?_
              exact JQ.meet (decide ((ix s1 x80) = (-3))) () H1 (fun _ h => Heap.to h)
            · refine J.cond_false h139 ?_
              refine J.region ?_
              refine JL.pur (.bool (decide ((ix s1 x80) = 3))) (some 22) ?_
              refine JL.as (.bool (decide ((ix s1 x80) = 3))) ?_
              refine JL.nil ?_
              refine JQ.then_normal ?_
              exact JQ.meet (decide ((ix s1 x80) = 3)) () H1 (fun _ h => Heap.to h)
          · clear H1
            rintro x133 ⟨⟩ H1
            replace H1 : sample_Bits.k21 s1 bits76 x80 x133 = some st1 := H1
            unfold sample_Bits.k21 at H1
            refine JQ.sub [(5, .int .i64 bits76), (13, .slice (some ⟨g130, o131, none⟩) s1.length c78), (14, .int .i64 (s1.length : Int)), (15, .int .i64 x80), (19, .int .i64 (ix s1 x80)), (20, .bool x133)] ?_
            refine JQ.turn (Δ' := [At.rd (some ⟨g130, o131, none⟩) c78 ((flInt .i64).kd) s1 true]) (fun _ h => h.to) ?_
            rcases ite_cases H1 with ⟨h134, H1⟩ | ⟨h134, H1⟩
            · refine J.cond_true h134 ?_
              refine J.region ?_
              refine JL.as (.int .i64 2) ?_
              refine JL.nil ?_
              refine JQ.blk_normal ?_
              refine JQ.blk_normal ?_
              refine JQ.then_normal ?_
              exact JQ.meet 2 ((some ⟨g130, o131, none⟩), c78) H1 (fun _ h => Heap.to h)
            · refine J.cond_false h134 ?_
              refine J.join (T := Bool) (G := Unit) (fun t => sample_Bits.k22 bits76 x80 t = some st1) (fun t g => [(5, .int .i64 bits76), (13, .slice (some ⟨g130, o131, none⟩) s1.length c78), (14, .int .i64 (s1.length : Int)), (15, .int .i64 x80), (23, .bool t)]) (fun t g => [At.rd (some ⟨g130, o131, none⟩) c78 ((flInt .i64).kd) s1 true]) ?_ ?_
              · refine J.seq ?_
                refine J.region ?_
                refine JL.pur (.bool (decide ((ix s1 x80) = (-1)))) (some 24) ?_
                refine JL.as (.bool (decide ((ix s1 x80) = (-1)))) ?_
                refine JL.nil ?_
                refine JQ.then_normal ?_
                refine JQ.sub [(5, .int .i64 bits76), (13, .slice (some ⟨g130, o131, none⟩) s1.length c78), (14, .int .i64 (s1.length : Int)), (15, .int .i64 x80), (19, .int .i64 (ix s1 x80)), (23, .bool (decide ((ix s1 x80) = (-1))))] ?_
                rcases ite_cases H1 with ⟨h138, H1⟩ | ⟨h138, H1⟩
                · refine J.cond_true h138 ?_
                  refine J.skip ?_
                  refine JQ.then_normal ?_
                  exact JQ.meet (decide ((ix s1 x80) = (-1))) () H1 (fun _ h => Heap.to h)
                · refine J.cond_false h138 ?_
                  refine J.region ?_
                  refine JL.pur (.bool (decide ((ix s1 x80) = 1))) (some 25) ?_
                  refine JL.as (.bool (decide ((ix s1 x80) = 1))) ?_
                  refine JL.nil ?_
                  refine JQ.then_normal ?_
                  exact JQ.meet (decide ((ix s1 x80) = 1)) () H1 (fun _ h => Heap.to h)
              · clear H1
                rintro x136 ⟨⟩ H1
                replace H1 : sample_Bits.k22 bits76 x80 x136 = some st1 := H1
                unfold sample_Bits.k22 at H1
                refine JQ.sub [(5, .int .i64 bits76), (13, .slice (some ⟨g130, o131, none⟩) s1.length c78), (14, .int .i64 (s1.length : Int)), (15, .int .i64 x80), (23, .bool x136)] ?_
                refine JQ.turn (Δ' := [At.rd (some ⟨g130, o131, none⟩) c78 ((flInt .i64).kd) s1 true]) (fun _ h => h.to) ?_
                rcases ite_cases H1 with ⟨h137, H1⟩ | ⟨h137, H1⟩
                · refine J.cond_true h137 ?_
                  refine J.region ?_
                  refine JL.mv (.int .i64 bits76) ?_
                  refine JL.pur (.int .i64 (gmax bits76 1)) (some 27) ?_
                  refine JL.as (.int .i64 (gmax bits76 1)) ?_
                  refine JL.nil ?_
                  refine JQ.blk_normal ?_
                  refine JQ.blk_normal ?_
                  refine JQ.then_normal ?_
                  exact JQ.meet (gmax bits76 1) ((some ⟨g130, o131, none⟩), c78) H1 (fun _ h => Heap.to h)
                · refine J.cond_false h137 ?_
                  refine J.skip ?_
                  refine JQ.blk_normal ?_
                  refine JQ.blk_normal ?_
                  refine JQ.then_normal ?_
                  exact JQ.meet bits76 ((some ⟨g130, o131, none⟩), c78) H1 (fun _ h => Heap.to h)
        · clear H1
          rintro bits124 ⟨A125, c126⟩ H1
          replace H1 : sample_Bits.k20 x80 bits124 = some st1 := H1
          unfold sample_Bits.k20 at H1
          refine JQ.sub [(5, .int .i64 bits124), (13, .slice A125 s1.length c126), (14, .int .i64 (s1.length : Int)), (15, .int .i64 x80)] ?_
          refine JQ.turn (Δ' := [At.rd A125 c126 ((flInt .i64).kd) s1 true]) (fun _ h => h.to) ?_
          refine J.region ?_
          refine JL.pur (.int .i64 (w64 (x80 + 1))) (some 28) ?_
          refine JL.mv (.int .i64 (w64 (x80 + 1))) ?_
          refine JL.nil ?_
          refine JQ.then_normal ?_
          exact JQ.again (bits124, w64 (x80 + 1)) (A125, c126) (Option.some.inj H1).symm (fun _ h => Heap.to h)
      · refine J.cond_false h111 ?_
        refine J.exit ?_
        refine JQ.then_exit ?_
        refine JQ.then_exit ?_
        refine JQ.blk_exit ?_
        rw [hb1 _ (Option.some.inj H1).symm, fin_brk] at H0
        exact JQ.met bits76 () H0 (fun _ h => Heap.to (Heap.pick [] (by decide) h))
    · clear hit H0
      rintro bits110 ⟨⟩ H0
      replace H0 : sample_Bits.k17 bits110 = some r := H0
      unfold sample_Bits.k17 at H0
      refine JQ.sub [(5, .int .i64 bits110)] ?_
      refine JQ.turn (Δ' := []) (fun _ h => h.to) ?_
      refine JQ.then_normal ?_
      refine J.seq ?_
      refine J.region ?_
      refine JL.mv (.int .i64 bits110) ?_
      refine JL.as (.int .i64 bits110) ?_
      refine JL.as (.int .i64 0) ?_
      refine JL.nil ?_
      refine JQ.then_normal ?_
      refine JQ.sub [(2, .int .i64 bits110), (3, .int .i64 0)] ?_
      refine J.ret ?_
      obtain rfl := Option.some.inj H0
      exact JQ.done' (rs := [.tmp 2, .tmp 3]) (vs := [.int .i64 bits110, .int .i64 0]) [] (.inr rfl) ⟨by kernel_rfl, by kernel_rfl, trivial⟩ (fun _ h => Heap.to h) ⟨rfl, rfl⟩

theorem ref13_Digit.ok (x1 : Int) (r : Int) (H0 : ref13_Digit.f x1 = some r) :
    Does Try.prog 36 [.int .i64 x1].toArray [] [] false (fun v Δ => v = .int .i64 r ∧ Δ = []) := by
  refine Does.body (vs := [.int .i64 x1]) Try.func36 rfl trivial trivial fun w S => ?_
  unfold ref13_Digit.f at H0
  refine J.seq ?_
  refine J.region ?_
  refine JL.as (.int .i64 0) ?_
  refine JL.nil ?_
  refine JQ.then_normal ?_
  refine JQ.sub [(0, .int .i64 x1)] ?_
  refine J.seq ?_
  refine J.seq ?_
  refine J.region ?_
  refine JL.mv (.int .i64 x1) ?_
  refine JL.nil ?_
  refine JQ.then_normal ?_
  refine JQ.sub [(3, .int .i64 x1)] ?_
  refine J.block ?_
  refine J.seq ?_
  refine J.region ?_
  refine JL.pur (.bool (decide (x1 = 0))) (some 5) ?_
  refine JL.as (.bool (decide (x1 = 0))) ?_
  refine JL.nil ?_
  refine JQ.then_normal ?_
  refine JQ.sub [(3, .int .i64 x1), (4, .bool (decide (x1 = 0)))] ?_
  rcases ite_cases H0 with ⟨h2, H0⟩ | ⟨h2, H0⟩
  · refine J.cond_true h2 ?_
    refine J.seq ?_
    refine J.region ?_
    refine JL.as (.int .i64 0) ?_
    refine JL.nil ?_
    refine JQ.then_normal ?_
    refine JQ.sub [(2, .int .i64 0)] ?_
    refine J.ret ?_
    refine JQ.blk_ret ?_
    refine JQ.then_ret ?_
    obtain rfl := Option.some.inj H0
    exact JQ.done' (rs := [.tmp 2]) (vs := [.int .i64 0]) [] (.inr rfl) ⟨by kernel_rfl, trivial⟩ (fun _ h => Heap.to h) ⟨rfl, rfl⟩
  · refine J.cond_false h2 ?_
    refine J.seq ?_
    refine J.region ?_
    refine JL.pur (.bool (decide (x1 = (-3)))) (some 7) ?_
    refine JL.as (.bool (decide (x1 = (-3)))) ?_
    refine JL.nil ?_
    refine JQ.then_normal ?_
    refine JQ.sub [(3, .int .i64 x1), (6, .bool (decide (x1 = (-3))))] ?_
    rcases ite_cases H0 with ⟨h3, H0⟩ | ⟨h3, H0⟩
    · refine J.cond_true h3 ?_
      refine J.seq ?_
      refine J.region ?_
      refine JL.as (.int .i64 1) ?_
      refine JL.nil ?_
      refine JQ.then_normal ?_
      refine JQ.sub [(2, .int .i64 1)] ?_
      refine J.ret ?_
      refine JQ.blk_ret ?_
      refine JQ.then_ret ?_
      obtain rfl := Option.some.inj H0
      exact JQ.done' (rs := [.tmp 2]) (vs := [.int .i64 1]) [] (.inr rfl) ⟨by kernel_rfl, trivial⟩ (fun _ h => Heap.to h) ⟨rfl, rfl⟩
    · refine J.cond_false h3 ?_
      refine J.seq ?_
      refine J.region ?_
      refine JL.pur (.bool (decide (x1 = (-1)))) (some 9) ?_
      refine JL.as (.bool (decide (x1 = (-1)))) ?_
      refine JL.nil ?_
      refine JQ.then_normal ?_
      refine JQ.sub [(3, .int .i64 x1), (8, .bool (decide (x1 = (-1))))] ?_
      rcases ite_cases H0 with ⟨h4, H0⟩ | ⟨h4, H0⟩
      · refine J.cond_true h4 ?_
        refine J.seq ?_
        refine J.region ?_
        refine JL.as (.int .i64 2) ?_
        refine JL.nil ?_
        refine JQ.then_normal ?_
        refine JQ.sub [(2, .int .i64 2)] ?_
        refine J.ret ?_
        refine JQ.blk_ret ?_
        refine JQ.then_ret ?_
        obtain rfl := Option.some.inj H0
        exact JQ.done' (rs := [.tmp 2]) (vs := [.int .i64 2]) [] (.inr rfl) ⟨by kernel_rfl, trivial⟩ (fun _ h => Heap.to h) ⟨rfl, rfl⟩
      · refine J.cond_false h4 ?_
        refine J.seq ?_
        refine J.region ?_
        refine JL.pur (.bool (decide (x1 = 1))) (some 11) ?_
        refine JL.as (.bool (decide (x1 = 1))) ?_
        refine JL.nil ?_
        refine JQ.then_normal ?_
        refine JQ.sub [(3, .int .i64 x1), (10, .bool (decide (x1 = 1)))] ?_
        rcases ite_cases H0 with ⟨h5, H0⟩ | ⟨h5, H0⟩
        · refine J.cond_true h5 ?_
          refine J.seq ?_
          refine J.region ?_
          refine JL.as (.int .i64 3) ?_
          refine JL.nil ?_
          refine JQ.then_normal ?_
          refine JQ.sub [(2, .int .i64 3)] ?_
          refine J.ret ?_
          refine JQ.blk_ret ?_
          refine JQ.then_ret ?_
          obtain rfl := Option.some.inj H0
          exact JQ.done' (rs := [.tmp 2]) (vs := [.int .i64 3]) [] (.inr rfl) ⟨by kernel_rfl, trivial⟩ (fun _ h => Heap.to h) ⟨rfl, rfl⟩
        · refine J.cond_false h5 ?_
          refine J.seq ?_
          refine J.region ?_
          refine JL.pur (.bool (decide (x1 = 3))) (some 13) ?_
          refine JL.as (.bool (decide (x1 = 3))) ?_
          refine JL.nil ?_
          refine JQ.then_normal ?_
          refine JQ.sub [(12, .bool (decide (x1 = 3)))] ?_
          rcases ite_cases H0 with ⟨h6, H0⟩ | ⟨h6, H0⟩
          · refine J.cond_true h6 ?_
            refine J.seq ?_
            refine J.region ?_
            refine JL.as (.int .i64 4) ?_
            refine JL.nil ?_
            refine JQ.then_normal ?_
            refine JQ.sub [(2, .int .i64 4)] ?_
            refine J.ret ?_
            refine JQ.blk_ret ?_
            refine JQ.then_ret ?_
            obtain rfl := Option.some.inj H0
            exact JQ.done' (rs := [.tmp 2]) (vs := [.int .i64 4]) [] (.inr rfl) ⟨by kernel_rfl, trivial⟩ (fun _ h => Heap.to h) ⟨rfl, rfl⟩
          · refine J.cond_false h6 ?_
            refine J.skip ?_
            refine JQ.blk_normal ?_
            refine JQ.then_normal ?_
            refine JQ.sub [] ?_
            refine J.seq ?_
            refine J.region ?_
            refine JL.as (.int .i64 (-1)) ?_
            refine JL.nil ?_
            refine JQ.then_normal ?_
            refine J.ret ?_
            obtain rfl := Option.some.inj H0
            exact JQ.done' (rs := [.tmp 2]) (vs := [.int .i64 (-1)]) [] (.inr rfl) ⟨by kernel_rfl, trivial⟩ (fun _ h => Heap.to h) ⟨rfl, rfl⟩

theorem ref13_Check.ok (s1 : (List Int)) (A2 : Option Addr) (c3 : Nat) (r : Int) (H0 : ref13_Check.f s1 = some r) :
    Does Try.prog 17 [.slice A2 s1.length c3].toArray [At.rd A2 c3 ((flInt .i64).kd) s1 true] [] false (fun v Δ => v = .int .i64 r ∧ Δ = []) := by
  refine Does.body (vs := [.slice A2 s1.length c3]) Try.func17 rfl ⟨.inl rfl, trivial⟩ trivial fun w S => ?_
  unfold ref13_Check.f at H0
  refine J.seq ?_
  refine J.region ?_
  refine JL.as (.int .i64 0) ?_
  refine JL.nil ?_
  refine JQ.then_normal ?_
  refine JQ.sub [(0, .slice A2 s1.length c3)] ?_
  refine J.seq ?_
  refine J.seq ?_
  refine J.region ?_
  refine JL.mv (.slice A2 s1.length c3) ?_
  refine JL.pur (.int .i64 (s1.length : Int)) (some 5) ?_
  refine JL.pur (.bool (decide (256 < (s1.length : Int)))) (some 6) ?_
  refine JL.nil ?_
  refine JQ.then_normal ?_
  refine JQ.sub [(0, .slice A2 s1.length c3), (6, .bool (decide (256 < (s1.length : Int))))] ?_
  rcases ite_cases H0 with ⟨h5, H0⟩ | ⟨h5, H0⟩
  · refine J.cond_true h5 ?_
    refine J.seq ?_
    refine J.region ?_
    refine JL.as (.int .i64 4) ?_
    refine JL.nil ?_
    refine JQ.then_normal ?_
    refine JQ.sub [(2, .int .i64 4)] ?_
    refine JQ.mask [] [false] ?_
    refine J.ret ?_
    refine JQ.then_ret ?_
    obtain rfl := Option.some.inj H0
    exact JQ.done' (rs := [.tmp 2]) (vs := [.int .i64 4]) [] (.inr rfl) ⟨by kernel_rfl, trivial⟩ (fun _ h => Heap.to h) ⟨rfl, rfl⟩
  · refine J.cond_false h5 ?_
    refine J.skip ?_
    refine JQ.then_normal ?_
    refine JQ.sub [(0, .slice A2 s1.length c3)] ?_
    refine J.seq ?_
    refine J.seq ?_
    refine J.region ?_
    refine JL.as (.int .i64 0) ?_
    refine JL.nil ?_
    refine JQ.then_normal ?_
    obtain ⟨o1, hit, H0⟩ := bind_some H0
    refine J.loop (σ := Int) (τ := Unit) (G := Unit) (G' := Unit) _ o1 (fun s g => [(0, .slice A2 s1.length c3), (3, .int .i64 s)]) (fun s g => [At.rd A2 c3 ((flInt .i64).kd) s1 true]) (fun t => ref13_Check.k2 = some r) (fun t g => []) (fun t g => []) 0 () hit (fun _ h => Heap.to h) ?_ ?_
    · clear hit
      rintro i24 ⟨⟩ st1 H1 hb1 hr1
      replace H1 : ref13_Check.s1 s1 i24 = some st1 := H1
      unfold ref13_Check.s1 at H1
      refine JQ.sub [(0, .slice A2 s1.length c3), (3, .int .i64 i24)] ?_
      refine JQ.turn (Δ' := [At.rd A2 c3 ((flInt .i64).kd) s1 true]) (fun _ h => h.to) ?_
      refine J.seq ?_
      refine J.seq ?_
      refine J.region ?_
      refine JL.mv (.int .i64 i24) ?_
      refine JL.mv (.slice A2 s1.length c3) ?_
      refine JL.pur (.int .i64 (s1.length : Int)) (some 9) ?_
      refine JL.pur (.bool (decide (i24 < (s1.length : Int)))) (some 10) ?_
      refine JL.nil ?_
      refine JQ.then_normal ?_
      refine JQ.sub [(0, .slice A2 s1.length c3), (3, .int .i64 i24), (10, .bool (decide (i24 < (s1.length : Int))))] ?_
      rcases ite_cases H1 with ⟨h33, H1⟩ | ⟨h33, H1⟩
      · refine J.cond_true h33 ?_
        refine J.skip ?_
        refine JQ.then_normal ?_
        refine JQ.sub [(0, .slice A2 s1.length c3), (3, .int .i64 i24)] ?_
        refine J.seq ?_
        refine J.block ?_
        refine J.seq ?_
        refine J.region ?_
        refine JL.mv (.slice A2 s1.length c3) ?_
        refine JL.mv (.int .i64 i24) ?_
        obtain ⟨⟨h34, h35⟩, H1⟩ := ite_must H1
        refine JL.ixAddr 0 1 c3 .i64 (elems_rd A2 c3 ((flInt .i64).kd) s1 true) Try.underlying22 tySize_3 h34 h35 fun g36 o37 hA => ?_
        subst hA
        refine JL.val (.int .i64 (ix s1 i24)) (some 16) (gives_loadEl (f := (flInt .i64)) 0 0 i24 (elems_rd (some ⟨g36, o37, none⟩) c3 ((flInt .i64).kd) s1 true) h34 h35 tySize_3 (.inr ⟨tyAgg_3, rfl, rfl⟩)) ?_
        obtain ⟨t38, hc39, H1⟩ := bind_some H1
        refine JL.call [] [] [] (ref13_Digit.ok (ix s1 i24) _ hc39) trivial ?_
        rintro _ _ ⟨rfl, rfl⟩
        refine JL.pur (.bool (decide (t38 < 0))) (some 18) ?_
        refine JL.nil ?_
        refine JQ.then_normal ?_
        refine JQ.sub [(0, .slice (some ⟨g36, o37, none⟩) s1.length c3), (3, .int .i64 i24), (18, .bool (decide (t38 < 0)))] ?_
        rcases ite_cases H1 with ⟨h40, H1⟩ | ⟨h40, H1⟩
        · refine J.cond_true h40 ?_
          refine J.seq ?_
          refine J.region ?_
          refine JL.as (.int .i64 8) ?_
          refine JL.nil ?_
          refine JQ.then_normal ?_
          refine JQ.sub [(2, .int .i64 8)] ?_
          refine JQ.mask [] [false] ?_
          refine J.ret ?_
          refine JQ.blk_ret ?_
          refine JQ.then_ret ?_
          refine JQ.then_ret ?_
          refine JQ.blk_ret ?_
          refine JQ.met_ret ?_
          refine JQ.then_ret ?_
          rw [hr1 _ (Option.some.inj H1).symm, fin_ret] at H0
          obtain rfl := Option.some.inj H0
          exact JQ.done' (rs := [.tmp 2]) (vs := [.int .i64 8]) [] (.inr rfl) ⟨by kernel_rfl, trivial⟩ (fun _ h => Heap.to h) ⟨rfl, rfl⟩
        · refine J.cond_false h40 ?_
          refine J.skip ?_
          refine JQ.blk_normal ?_
          refine JQ.then_normal ?_
          refine JQ.sub [(0, .slice (some ⟨g36, o37, none⟩) s1.length c3), (3, .int .i64 i24)] ?_
          refine J.region ?_
          refine JL.mv (.int .i64 i24) ?_
          refine JL.pur (.int .i64 (w64 (i24 + 1))) (some 12) ?_
          refine JL.as (.int .i64 (w64 (i24 + 1))) ?_
          refine JL.nil ?_
          refine JQ.then_normal ?_
          exact JQ.again (w64 (i24 + 1)) () (Option.some.inj H1).symm (fun _ h => Heap.to h)
      · refine J.cond_false h33 ?_
        refine J.exit ?_
        refine JQ.then_exit ?_
        refine JQ.then_exit ?_
        refine JQ.blk_exit ?_
        rw [hb1 _ (Option.some.inj H1).symm, fin_brk] at H0
        exact JQ.met () () H0 (fun _ h => Heap.to (Heap.pick [] (by decide) h))
    · clear hit H0
      rintro ⟨⟩ ⟨⟩ H0
      replace H0 : ref13_Check.k2 = some r := H0
      unfold ref13_Check.k2 at H0
      refine JQ.sub [] ?_
      refine JQ.turn (Δ' := []) (fun _ h => h.to) ?_
      refine JQ.then_normal ?_
      refine J.seq ?_
      refine J.region ?_
      refine JL.as (.int .i64 0) ?_
      refine JL.nil ?_
      refine JQ.then_normal ?_
      refine J.ret ?_
      obtain rfl := Option.some.inj H0
      exact JQ.done' (rs := [.tmp 2]) (vs := [.int .i64 0]) [] (.inr rfl) ⟨by kernel_rfl, trivial⟩ (fun _ h => Heap.to h) ⟨rfl, rfl⟩

theorem ref13_count.ok (s1 : (List Int)) (A2 : Option Addr) (c3 : Nat) (d5 : Int) (r : Int) (H0 : ref13_count.f s1 d5 = some r) :
    Does Try.prog 32 [.slice A2 s1.length c3, .int .i64 d5].toArray [At.rd A2 c3 ((flInt .i64).kd) s1 true] [] false (fun v Δ => v = .int .i64 r ∧ Δ = []) := by
  refine Does.body (vs := [.slice A2 s1.length c3, .int .i64 d5]) Try.func32 rfl ⟨.inl rfl, trivial⟩ trivial fun w S => ?_
  unfold ref13_count.f at H0
  refine J.seq ?_
  refine J.region ?_
  refine JL.as (.int .i64 0) ?_
  refine JL.nil ?_
  refine JQ.then_normal ?_
  refine JQ.sub [(0, .slice A2 s1.length c3), (1, .int .i64 d5)] ?_
  refine J.seq ?_
  refine J.region ?_
  refine JL.as (.int .i64 0) ?_
  refine JL.nil ?_
  refine JQ.then_normal ?_
  refine J.seq ?_
  refine J.seq ?_
  refine J.region ?_
  refine JL.as (.int .i64 0) ?_
  refine JL.nil ?_
  refine JQ.then_normal ?_
  obtain ⟨o1, hit, H0⟩ := bind_some H0
  refine J.loop (σ := (Int × Int)) (τ := Int) (G := Unit) (G' := Unit) _ o1 (fun s g => [(0, .slice A2 s1.length c3), (1, .int .i64 d5), (5, .int .i64 s.1), (6, .int .i64 s.2)]) (fun s g => [At.rd A2 c3 ((flInt .i64).kd) s1 true]) (fun t => ref13_count.k5 t = some r) (fun t g => [(5, .int .i64 t)]) (fun t g => []) (0, 0) () hit (fun _ h => Heap.to h) ?_ ?_
  · clear hit
    rintro ⟨n42, i43⟩ ⟨⟩ st1 H1 hb1 hr1
    replace H1 : ref13_count.s4 s1 d5 n42 i43 = some st1 := H1
    unfold ref13_count.s4 at H1
    refine JQ.sub [(0, .slice A2 s1.length c3), (1, .int .i64 d5), (5, .int .i64 n42), (6, .int .i64 i43)] ?_
    refine JQ.turn (Δ' := [At.rd A2 c3 ((flInt .i64).kd) s1 true]) (fun _ h => h.to) ?_
    refine J.seq ?_
    refine J.seq ?_
    refine J.region ?_
    refine JL.mv (.int .i64 i43) ?_
    refine JL.mv (.slice A2 s1.length c3) ?_
    refine JL.pur (.int .i64 (s1.length : Int)) (some 9) ?_
    refine JL.pur (.bool (decide (i43 < (s1.length : Int)))) (some 10) ?_
    refine JL.nil ?_
    refine JQ.then_normal ?_
    refine JQ.sub [(0, .slice A2 s1.length c3), (1, .int .i64 d5), (5, .int .i64 n42), (6, .int .i64 i43), (10, .bool (decide (i43 < (s1.length : Int))))] ?_
    rcases ite_cases H1 with ⟨h61, H1⟩ | ⟨h61, H1⟩
    · refine J.cond_true h61 ?_
      refine J.skip ?_
      refine JQ.then_normal ?_
      refine JQ.sub [(0, .slice A2 s1.length c3), (1, .int .i64 d5), (5, .int .i64 n42), (6, .int .i64 i43)] ?_
      refine J.join (T := Int) (G := Unit) (fun t => ref13_count.k6 i43 t = some st1) (fun t g => [(0, .slice A2 s1.length c3), (1, .int .i64 d5), (5, .int .i64 t), (6, .int .i64 i43)]) (fun t g => [At.rd A2 c3 ((flInt .i64).kd) s1 true]) ?_ ?_
      · refine J.block ?_
        refine J.seq ?_
        refine J.region ?_
        refine JL.mv (.slice A2 s1.length c3) ?_
        refine JL.mv (.int .i64 i43) ?_
        obtain ⟨⟨h70, h71⟩, H1⟩ := ite_must H1
        refine JL.ixAddr 0 1 c3 .i64 (elems_rd A2 c3 ((flInt .i64).kd) s1 true) Try.underlying22 tySize_3 h70 h71 fun g72 o73 hA => ?_
        subst hA
        refine JL.val (.int .i64 (ix s1 i43)) (some 16) (gives_loadEl (f := (flInt .i64)) 0 0 i43 (elems_rd (some ⟨g72, o73, none⟩) c3 ((flInt .i64).kd) s1 true) h70 h71 tySize_3 (.inr ⟨tyAgg_3, rfl, rfl⟩)) ?_
        obtain ⟨t74, hc75, H1⟩ := bind_some H1
        refine JL.call [] [] [] (ref13_Digit.ok (ix s1 i43) _ hc75) trivial ?_
        rintro _ _ ⟨rfl, rfl⟩
        refine JL.mv (.int .i64 d5) ?_
        refine JL.pur (.bool (decide (t74 = d5))) (some 19) ?_
        refine JL.nil ?_
        refine JQ.then_normal ?_
        refine JQ.sub [(0, .slice (some ⟨g72, o73, none⟩) s1.length c3), (1, .int .i64 d5), (5, .int .i64 n42), (6, .int .i64 i43), (19, .bool (decide (t74 = d5)))] ?_
        rcases ite_cases H1 with ⟨h76, H1⟩ | ⟨h76, H1⟩
        · refine J.cond_true h76 ?_
          refine J.region ?_
          refine JL.mv (.int .i64 n42) ?_
          refine JL.pur (.int .i64 (w64 (n42 + 1))) (some 21) ?_
          refine JL.as (.int .i64 (w64 (n42 + 1))) ?_
          refine JL.nil ?_
          refine JQ.blk_normal ?_
          refine JQ.then_normal ?_
          exact JQ.meet (w64 (n42 + 1)) () H1 (fun _ h => Heap.to h)
        · refine J.cond_false h76 ?_
          refine J.skip ?_
          refine JQ.blk_normal ?_
          refine JQ.then_normal ?_
          exact JQ.meet n42 () H1 (fun _ h => Heap.to h)
      · clear H1
        rintro n69 ⟨⟩ H1
        replace H1 : ref13_count.k6 i43 n69 = some st1 := H1
        unfold ref13_count.k6 at H1
        refine JQ.sub [(0, .slice A2 s1.length c3), (1, .int .i64 d5), (5, .int .i64 n69), (6, .int .i64 i43)] ?_
        refine JQ.turn (Δ' := [At.rd A2 c3 ((flInt .i64).kd) s1 true]) (fun _ h => h.to) ?_
        refine J.region ?_
        refine JL.mv (.int .i64 i43) ?_
        refine JL.pur (.int .i64 (w64 (i43 + 1))) (some 12) ?_
        refine JL.as (.int .i64 (w64 (i43 + 1))) ?_
        refine JL.nil ?_
        refine JQ.then_normal ?_
        exact JQ.again (n69, w64 (i43 + 1)) () (Option.some.inj H1).symm (fun _ h => Heap.to h)
    · refine J.cond_false h61 ?_
      refine J.exit ?_
      refine JQ.then_exit ?_
      refine JQ.then_exit ?_
      refine JQ.blk_exit ?_
      rw [hb1 _ (Option.some.inj H1).symm, fin_brk] at H0
      exact JQ.met n42 () H0 (fun _ h => Heap.to (Heap.pick [] (by decide) h))
  · clear hit H0
    rintro n60 ⟨⟩ H0
    replace H0 : ref13_count.k5 n60 = some r := H0
    unfold ref13_count.k5 at H0
    refine JQ.sub [(5, .int .i64 n60)] ?_
    refine JQ.turn (Δ' := []) (fun _ h => h.to) ?_
    refine JQ.then_normal ?_
    refine J.seq ?_
    refine J.region ?_
    refine JL.mv (.int .i64 n60) ?_
    refine JL.as (.int .i64 n60) ?_
    refine JL.nil ?_
    refine JQ.then_normal ?_
    refine JQ.sub [(4, .int .i64 n60)] ?_
    refine J.ret ?_
    obtain rfl := Option.some.inj H0
    exact JQ.done' (rs := [.tmp 4]) (vs := [.int .i64 n60]) [] (.inr rfl) ⟨by kernel_rfl, trivial⟩ (fun _ h => Heap.to h) ⟨rfl, rfl⟩

theorem ref13_Bits.ok (s1 : (List Int)) (A2 : Option Addr) (c3 : Nat) (r : (Int × Int)) (H0 : ref13_Bits.f s1 = some r) :
    Does Try.prog 11 [.slice A2 s1.length c3].toArray [At.rd A2 c3 ((flInt .i64).kd) s1 true] [] false (fun v Δ => v = .tuple #[.int .i64 r.1, .int .i64 r.2] ∧ Δ = []) := by
  refine Does.body (vs := [.slice A2 s1.length c3]) Try.func11 rfl ⟨.inl rfl, trivial⟩ trivial fun w S => ?_
  unfold ref13_Bits.f at H0
  refine J.seq ?_
  refine J.region ?_
  refine JL.as (.int .i64 0) ?_
  refine JL.as (.int .i64 0) ?_
  refine JL.nil ?_
  refine JQ.then_normal ?_
  refine JQ.sub [(0, .slice A2 s1.length c3)] ?_
  refine J.seq ?_
  refine J.seq ?_
  refine J.region ?_
  refine JL.mv (.slice A2 s1.length c3) ?_
  obtain ⟨t5, hc6, H0⟩ := bind_some H0
  refine JL.call [] [] [] (ref13_Check.ok s1 A2 c3 _ hc6) ⟨pre_any 0 (view_rd A2 c3 ((flInt .i64).kd) s1 true true), trivial⟩ ?_
  rintro _ _ ⟨rfl, rfl⟩
  refine JL.pur (.bool (!decide (t5 = 0))) (some 6) ?_
  refine JL.nil ?_
  refine JQ.then_normal ?_
  refine JQ.sub [(0, .slice A2 s1.length c3), (6, .bool (!decide (t5 = 0)))] ?_
  rcases ite_cases H0 with ⟨h7, H0⟩ | ⟨h7, H0⟩
  · refine J.cond_true h7 ?_
    refine J.seq ?_
    refine J.region ?_
    refine JL.mv (.slice A2 s1.length c3) ?_
    obtain ⟨t8, hc9, H0⟩ := bind_some H0
    refine JL.call [] [] [] (ref13_Check.ok s1 A2 c3 _ hc9) ⟨pre_any 0 (view_rd A2 c3 ((flInt .i64).kd) s1 true true), trivial⟩ ?_
    rintro _ _ ⟨rfl, rfl⟩
    refine JL.as (.int .i64 0) ?_
    refine JL.as (.int .i64 t8) ?_
    refine JL.nil ?_
    refine JQ.then_normal ?_
    refine JQ.sub [(2, .int .i64 0), (3, .int .i64 t8)] ?_
    refine JQ.mask [] [false] ?_
    refine J.ret ?_
    refine JQ.then_ret ?_
    obtain rfl := Option.some.inj H0
    exact JQ.done' (rs := [.tmp 2, .tmp 3]) (vs := [.int .i64 0, .int .i64 t8]) [] (.inr rfl) ⟨by kernel_rfl, by kernel_rfl, trivial⟩ (fun _ h => Heap.to h) ⟨rfl, rfl⟩
  · refine J.cond_false h7 ?_
    refine J.skip ?_
    refine JQ.then_normal ?_
    refine JQ.sub [(0, .slice A2 s1.length c3)] ?_
    refine J.seq ?_
    refine J.seq ?_
    refine J.region ?_
    refine JL.mv (.slice A2 s1.length c3) ?_
    obtain ⟨t10, hc11, H0⟩ := bind_some H0
    refine JL.call [] [] [] (ref13_count.ok s1 A2 c3 1 _ hc11) ⟨pre_any 0 (view_rd A2 c3 ((flInt .i64).kd) s1 true true), trivial⟩ ?_
    rintro _ _ ⟨rfl, rfl⟩
    refine JL.mv (.slice A2 s1.length c3) ?_
    obtain ⟨t12, hc13, H0⟩ := bind_some H0
    refine JL.call [] [] [] (ref13_count.ok s1 A2 c3 4 _ hc13) ⟨pre_any 0 (view_rd A2 c3 ((flInt .i64).kd) s1 true true), trivial⟩ ?_
    rintro _ _ ⟨rfl, rfl⟩
    refine JL.pur (.int .i64 (w64 (t10 + t12))) (some 13) ?_
    refine JL.pur (.bool (decide (0 < w64 (t10 + t12)))) (some 14) ?_
    refine JL.nil ?_
    refine JQ.then_normal ?_
    refine JQ.sub [(0, .slice A2 s1.length c3), (14, .bool (decide (0 < w64 (t10 + t12))))] ?_
    rcases ite_cases H0 with ⟨h14, H0⟩ | ⟨h14, H0⟩
    · refine J.cond_true h14 ?_
      refine J.seq ?_
      refine J.region ?_
      refine JL.as (.int .i64 2) ?_
      refine JL.as (.int .i64 0) ?_
      refine JL.nil ?_
      refine JQ.then_normal ?_
      refine JQ.sub [(2, .int .i64 2), (3, .int .i64 0)] ?_
      refine JQ.mask [] [false] ?_
      refine J.ret ?_
      refine JQ.then_ret ?_
      obtain rfl := Option.some.inj H0
      exact JQ.done' (rs := [.tmp 2, .tmp 3]) (vs := [.int .i64 2, .int .i64 0]) [] (.inr rfl) ⟨by kernel_rfl, by kernel_rfl, trivial⟩ (fun _ h => Heap.to h) ⟨rfl, rfl⟩
    · refine J.cond_false h14 ?_
      refine J.skip ?_
      refine JQ.then_normal ?_
      refine JQ.sub [(0, .slice A2 s1.length c3)] ?_
      refine J.seq ?_
      refine J.seq ?_
      refine J.region ?_
      refine JL.mv (.slice A2 s1.length c3) ?_
      obtain ⟨t15, hc16, H0⟩ := bind_some H0
      refine JL.call [] [] [] (ref13_count.ok s1 A2 c3 0 _ hc16) ⟨pre_any 0 (view_rd A2 c3 ((flInt .i64).kd) s1 true true), trivial⟩ ?_
      rintro _ _ ⟨rfl, rfl⟩
      refine JL.mv (.slice A2 s1.length c3) ?_
      refine JL.pur (.int .i64 (s1.length : Int)) (some 18) ?_
      refine JL.pur (.bool (decide (t15 < (s1.length : Int)))) (some 19) ?_
      refine JL.nil ?_
      refine JQ.then_normal ?_
      refine JQ.sub [(19, .bool (decide (t15 < (s1.length : Int))))] ?_
      refine JQ.mask [] [false] ?_
      rcases ite_cases H0 with ⟨h17, H0⟩ | ⟨h17, H0⟩
      · refine J.cond_true h17 ?_
        refine J.seq ?_
        refine J.region ?_
        refine JL.as (.int .i64 1) ?_
        refine JL.as (.int .i64 0) ?_
        refine JL.nil ?_
        refine JQ.then_normal ?_
        refine JQ.sub [(2, .int .i64 1), (3, .int .i64 0)] ?_
        refine J.ret ?_
        refine JQ.then_ret ?_
        obtain rfl := Option.some.inj H0
        exact JQ.done' (rs := [.tmp 2, .tmp 3]) (vs := [.int .i64 1, .int .i64 0]) [] (.inr rfl) ⟨by kernel_rfl, by kernel_rfl, trivial⟩ (fun _ h => Heap.to h) ⟨rfl, rfl⟩
      · refine J.cond_false h17 ?_
        refine J.skip ?_
        refine JQ.then_normal ?_
        refine JQ.sub [] ?_
        refine J.seq ?_
        refine J.region ?_
        refine JL.as (.int .i64 0) ?_
        refine JL.as (.int .i64 0) ?_
        refine JL.nil ?_
        refine JQ.then_normal ?_
        refine J.ret ?_
        obtain rfl := Option.some.inj H0
        exact JQ.done' (rs := [.tmp 2, .tmp 3]) (vs := [.int .i64 0, .int .i64 0]) [] (.inr rfl) ⟨by kernel_rfl, by kernel_rfl, trivial⟩ (fun _ h => Heap.to h) ⟨rfl, rfl⟩

theorem sample_Counts.ok (s1 : (List Int)) (A2 : Option Addr) (c3 : Nat) (r : ((A5 Int) × Int)) (H0 : sample_Counts.f s1 = some r) :
    Does Try.prog 12 [.slice A2 s1.length c3].toArray [At.rd A2 c3 ((flInt .i64).kd) s1 true] [] false (fun v Δ => v = .tuple #[.agg #[.int .i64 r.1.e0, .int .i64 r.1.e1, .int .i64 r.1.e2, .int .i64 r.1.e3, .int .i64 r.1.e4], .int .i64 r.2] ∧ Δ = []) := by
  refine Does.body (vs := [.slice A2 s1.length c3]) Try.func12 rfl ⟨.inl rfl, trivial⟩ trivial fun w S => ?_
  unfold sample_Counts.f at H0
  refine J.seq ?_
  refine J.region ?_
  refine JL.alloc [.int .i64 0, .int .i64 0, .int .i64 0, .int .i64 0, .int .i64 0] fun b5 => ?_
  refine JL.as (.int .i64 0) ?_
  refine JL.nil ?_
  refine JQ.then_normal ?_
  refine JQ.sub [(0, .slice A2 s1.length c3), (2, .pointer (some ⟨b5, 0, none⟩))] ?_
  refine J.seq ?_
  refine J.seq ?_
  refine J.region ?_
  refine JL.mv (.slice A2 s1.length c3) ?_
  obtain ⟨t6, hc7, H0⟩ := bind_some H0
  refine JL.call [] [] [] (sample_Check.ok s1 A2 c3 _ hc7) ⟨pre_any 0 (view_rd A2 c3 ((flInt .i64).kd) s1 true true), trivial⟩ ?_
  rintro _ _ ⟨rfl, rfl⟩
  refine JL.as (.int .i64 t6) ?_
  refine JL.nil ?_
  refine JQ.then_normal ?_
  refine JQ.sub [(0, .slice A2 s1.length c3), (2, .pointer (some ⟨b5, 0, none⟩)), (4, .int .i64 t6)] ?_
  refine J.seq ?_
  refine J.region ?_
  refine JL.mv (.int .i64 t6) ?_
  refine JL.pur (.bool (!decide (t6 = 0))) (some 11) ?_
  refine JL.nil ?_
  refine JQ.then_normal ?_
  refine JQ.sub [(0, .slice A2 s1.length c3), (2, .pointer (some ⟨b5, 0, none⟩)), (4, .int .i64 t6), (11, .bool (!decide (t6 = 0)))] ?_
  rcases ite_cases H0 with ⟨h8, H0⟩ | ⟨h8, H0⟩
  · refine J.cond_true h8 ?_
    refine J.seq ?_
    refine J.region ?_
    refine JL.pur (.agg #[.int .i64 0, .int .i64 0, .int .i64 0, .int .i64 0, .int .i64 0]) (some 12) ?_
    refine JL.mv (.int .i64 t6) ?_
    refine JL.store 1 b5 0 29 [.int .i64 0, .int .i64 0, .int .i64 0, .int .i64 0, .int .i64 0] [.int .i64 0, .int .i64 0, .int .i64 0, .int .i64 0, .int .i64 0] tySize_29 ?_
    refine JL.as (.int .i64 t6) ?_
    refine JL.nil ?_
    refine JQ.then_normal ?_
    refine JQ.sub [(2, .pointer (some ⟨b5, 0, none⟩)), (3, .int .i64 t6)] ?_
    refine JQ.mask [At.box b5 29 [.int .i64 0, .int .i64 0, .int .i64 0, .int .i64 0, .int .i64 0]] [false, true] ?_
    refine J.ret ?_
    refine JQ.then_ret ?_
    obtain rfl := Option.some.inj H0
    exact JQ.done' (rs := [.cell 2 29, .tmp 3]) (vs := [.agg #[.int .i64 0, .int .i64 0, .int .i64 0, .int .i64 0, .int .i64 0], .int .i64 t6]) [] (.inr rfl) ⟨⟨b5, 0, _, _, by kernel_rfl, by kernel_rfl, holds_box b5 29 [.int .i64 0, .int .i64 0, .int .i64 0, .int .i64 0, .int .i64 0], .inl ⟨tyAgg_29, tySize_29, rfl⟩⟩, by kernel_rfl, trivial⟩ (fun _ h => Heap.to (Heap.pick [] (by decide) h)) ⟨rfl, rfl⟩
  · refine J.cond_false h8 ?_
    refine J.skip ?_
    refine JQ.then_normal ?_
    refine JQ.sub [(0, .slice A2 s1.length c3), (2, .pointer (some ⟨b5, 0, none⟩))] ?_
    refine J.seq ?_
    refine J.region ?_
    refine JL.alloc [.int .i64 0, .int .i64 0, .int .i64 0, .int .i64 0, .int .i64 0] fun b9 => ?_
    refine JL.nil ?_
    refine JQ.then_normal ?_
    refine J.seq ?_
    refine J.seq ?_
    refine J.region ?_
    refine JL.mv (.slice A2 s1.length c3) ?_
    refine JL.pur (.int .i64 (s1.length : Int)) (some 15) ?_
    refine JL.mv (.int .i64 0) ?_
    refine JL.nil ?_
    refine JQ.then_normal ?_
    refine JQ.sub [(2, .pointer (some ⟨b5, 0, none⟩)), (5, .pointer (some ⟨b9, 0, none⟩)), (14, .slice A2 s1.length c3), (15, .int .i64 (s1.length : Int)), (16, .int .i64 0)] ?_
    obtain ⟨o1, hit, H0⟩ := bind_some H0
    refine J.loop (σ := ((A5 Int) × Int)) (τ := (A5 Int)) (G := Unit) (G' := Unit) _ o1 (fun s g => [(2, .pointer (some ⟨b5, 0, none⟩)), (5, .pointer (some ⟨b9, 0, none⟩)), (14, .slice A2 s1.length c3), (15, .int .i64 (s1.length : Int)), (16, .int .i64 s.2)]) (fun s g => [At.box b5 29 [.int .i64 0, .int .i64 0, .int .i64 0, .int .i64 0, .int .i64 0], At.box b9 29 [.int .i64 s.1.e0, .int .i64 s.1.e1, .int .i64 s.1.e2, .int .i64 s.1.e3, .int .i64 s.1.e4], At.rd A2 c3 ((flInt .i64).kd) s1 true]) (fun t => sample_Counts.k2 t = some r) (fun t g => [(2, .pointer (some ⟨b5, 0, none⟩)), (5, .pointer (some ⟨b9, 0, none⟩))]) (fun t g => [At.box b5 29 [.int .i64 0, .int .i64 0, .int .i64 0, .int .i64 0, .int .i64 0], At.box b9 29 [.int .i64 t.e0, .int .i64 t.e1, .int .i64 t.e2, .int .i64 t.e3, .int .i64 t.e4]]) ((⟨0, 0, 0, 0, 0⟩ : (A5 Int)), 0) () hit (fun _ h => Heap.to (Heap.pick [1, 2, 0] (by decide) h)) ?_ ?_
    · clear hit
      rintro ⟨out60, x61⟩ ⟨⟩ st1 H1 hb1 hr1
      replace H1 : sample_Counts.s1 s1 out60 x61 = some st1 := H1
      unfold sample_Counts.s1 at H1
      refine JQ.sub [(2, .pointer (some ⟨b5, 0, none⟩)), (5, .pointer (some ⟨b9, 0, none⟩)), (14, .slice A2 s1.length c3), (15, .int .i64 (s1.length : Int)), (16, .int .i64 x61)] ?_
      refine JQ.turn (Δ' := [At.box b5 29 [.int .i64 0, .int .i64 0, .int .i64 0, .int .i64 0, .int .i64 0], At.box b9 29 [.int .i64 out60.e0, .int .i64 out60.e1, .int .i64 out60.e2, .int .i64 out60.e3, .int .i64 out60.e4], At.rd A2 c3 ((flInt .i64).kd) s1 true]) (fun _ h => h.to) ?_
      refine J.seq ?_
      refine J.region ?_
      refine JL.pur (.bool (decide (x61 < (s1.length : Int)))) (some 17) ?_
      refine JL.nil ?_
      refine JQ.then_normal ?_
      refine J.seq ?_
      rcases ite_cases H1 with ⟨h86, H1⟩ | ⟨h86, H1⟩
      · refine J.cond_true h86 ?_
        refine J.skip ?_
        refine JQ.then_normal ?_
        refine JQ.sub [(2, .pointer (some ⟨b5, 0, none⟩)), (5, .pointer (some ⟨b9, 0, none⟩)), (14, .slice A2 s1.length c3), (15, .int .i64 (s1.length : Int)), (16, .int .i64 x61)] ?_
        refine J.seq ?_
        refine J.block ?_
        refine J.seq ?_
        refine J.region ?_
        obtain ⟨⟨h87, h88⟩, H1⟩ := ite_must H1
        refine JL.ixAddr 2 1 c3 .i64 (elems_rd A2 c3 ((flInt .i64).kd) s1 true) Try.underlying22 tySize_3 h87 h88 fun g89 o90 hA => ?_
        subst hA
        refine JL.val (.int .i64 (ix s1 x61)) (some 19) (gives_loadEl (f := (flInt .i64)) 2 0 x61 (elems_rd (some ⟨g89, o90, none⟩) c3 ((flInt .i64).kd) s1 true) h87 h88 tySize_3 (.inr ⟨tyAgg_3, rfl, rfl⟩)) ?_
        refine JL.as (.int .i64 (ix s1 x61)) ?_
        refine JL.nil ?_
        refine JQ.then_normal ?_
        refine JQ.sub [(2, .pointer (some ⟨b5, 0, none⟩)), (5, .pointer (some ⟨b9, 0, none⟩)), (7, .int .i64 (ix s1 x61)), (14, .slice (some ⟨g89, o90, none⟩) s1.length c3), (15, .int .i64 (s1.length : Int)), (16, .int .i64 x61)] ?_
        refine J.region ?_
        refine JL.mv (.int .i64 (ix s1 x61)) ?_
        obtain ⟨t91, hc92, H1⟩ := bind_some H1
        refine JL.call [] [] [] (sample_digit.ok (ix s1 x61) _ hc92) trivial ?_
        rintro _ _ ⟨rfl, rfl⟩
        obtain ⟨⟨h93, h94⟩, H1⟩ := ite_must H1
        rcases ite_cases H1 with ⟨h95, H1⟩ | ⟨h95, H1⟩
        · refine JL.val (.pointer (some ⟨b9, 0, none⟩)) (some 22) (gives_ixArr (b := b9) (o := 0) (i := t91) 5 0 1 .i64 (of_decide_eq_true h95) Try.underlying29 tySize_3) ?_
          refine JL.val (.int .i64 out60.e0) (some 23) (yields_load_box 1 0 (holds_box b9 29 [.int .i64 out60.e0, .int .i64 out60.e1, .int .i64 out60.e2, .int .i64 out60.e3, .int .i64 out60.e4]) tyAgg_3) ?_
          refine JL.pur (.int .i64 (w64 (out60.e0 + 1))) (some 24) ?_
          obtain ⟨⟨h96, h97⟩, H1⟩ := ite_must H1
          refine JL.val (.pointer (some ⟨b9, 0, none⟩)) (some 25) (gives_ixArr (b := b9) (o := 0) (i := t91) 5 0 1 .i64 (of_decide_eq_true h95) Try.underlying29 tySize_3) ?_
          refine JL.store 1 b9 0 29 [.int .i64 out60.e0, .int .i64 out60.e1, .int .i64 out60.e2, .int .i64 out60.e3, .int .i64 out60.e4] [.int .i64 (w64 (out60.e0 + 1)), .int .i64 out60.e1, .int .i64 out60.e2, .int .i64 out60.e3, .int .i64 out60.e4] tySize_3 ?_
          refine JL.nil ?_
          refine JQ.blk_normal ?_
          refine JQ.then_normal ?_
          refine JQ.sub [(2, .pointer (some ⟨b5, 0, none⟩)), (5, .pointer (some ⟨b9, 0, none⟩)), (14, .slice (some ⟨g89, o90, none⟩) s1.length c3), (15, .int .i64 (s1.length : Int)), (16, .int .i64 x61)] ?_
          refine J.region ?_
          refine JL.pur (.int .i64 (w64 (x61 + 1))) (some 26) ?_
          refine JL.mv (.int .i64 (w64 (x61 + 1))) ?_
          refine JL.nil ?_
          refine JQ.then_normal ?_
          exact JQ.again ((⟨(w64 (out60.e0 + 1)), out60.e1, out60.e2, out60.e3, out60.e4⟩ : (A5 Int)), w64 (x61 + 1)) () (Option.some.inj H1).symm (fun _ h => Heap.to h)
        · rcases ite_cases H1 with ⟨h98, H1⟩ | ⟨h98, H1⟩
          · refine JL.val (.pointer (some ⟨b9, 1, none⟩)) (some 22) (gives_ixArr (b := b9) (o := 0) (i := t91) 5 1 1 .i64 (of_decide_eq_true h98) Try.underlying29 tySize_3) ?_
            refine JL.val (.int .i64 out60.e1) (some 23) (yields_load_box 1 1 (holds_box b9 29 [.int .i64 out60.e0, .int .i64 out60.e1, .int .i64 out60.e2, .int .i64 out60.e3, .int .i64 out60.e4]) tyAgg_3) ?_
            refine JL.pur (.int .i64 (w64 (out60.e1 + 1))) (some 24) ?_
            obtain ⟨⟨h99, h100⟩, H1⟩ := ite_must H1
            refine JL.val (.pointer (some ⟨b9, 1, none⟩)) (some 25) (gives_ixArr (b := b9) (o := 0) (i := t91) 5 1 1 .i64 (of_decide_eq_true h98) Try.underlying29 tySize_3) ?_
            refine JL.store 1 b9 1 29 [.int .i64 out60.e0, .int .i64 out60.e1, .int .i64 out60.e2, .int .i64 out60.e3, .int .i64 out60.e4] [.int .i64 out60.e0, .int .i64 (w64 (out60.e1 + 1)), .int .i64 out60.e2, .int .i64 out60.e3, .int .i64 out60.e4] tySize_3 ?_
            refine JL.nil ?_
            refine JQ.blk_normal ?_
            refine JQ.then_normal ?_
            refine JQ.sub [(2, .pointer (some ⟨b5, 0, none⟩)), (5, .pointer (some ⟨b9, 0, none⟩)), (14, .slice (some ⟨g89, o90, none⟩) s1.length c3), (15, .int .i64 (s1.length : Int)), (16, .int .i64 x61)] ?_
            refine J.region ?_
            refine JL.pur (.int .i64 (w64 (x61 + 1))) (some 26) ?_
            refine JL.mv (.int .i64 (w64 (x61 + 1))) ?_
            refine JL.nil ?_
            refine JQ.then_normal ?_
            exact JQ.again ((⟨out60.e0, (w64 (out60.e1 + 1)), out60.e2, out60.e3, out60.e4⟩ : (A5 Int)), w64 (x61 + 1)) () (Option.some.inj H1).symm (fun _ h => Heap.to h)
          · rcases ite_cases H1 with ⟨h101, H1⟩ | ⟨h101, H1⟩
            · refine JL.val (.pointer (some ⟨b9, 2, none⟩)) (some 22) (gives_ixArr (b := b9) (o := 0) (i := t91) 5 2 1 .i64 (of_decide_eq_true h101) Try.underlying29 tySize_3) ?_
              refine JL.val (.int .i64 out60.e2) (some 23) (yields_load_box 1 2 (holds_box b9 29 [.int .i64 out60.e0, .int .i64 out60.e1, .int .i64 out60.e2, .int .i64 out60.e3, .int .i64 out60.e4]) tyAgg_3) ?_
              refine JL.pur (.int .i64 (w64 (out60.e2 + 1))) (some 24) ?_
              obtain ⟨⟨h102, h103⟩, H1⟩ := ite_must H1
              refine JL.val (.pointer (some ⟨b9, 2, none⟩)) (some 25) (gives_ixArr (b := b9) (o := 0) (i := t91) 5 2 1 .i64 (of_decide_eq_true h101) Try.underlying29 tySize_3) ?_
              refine JL.store 1 b9 2 29 [.int .i64 out60.e0, .int .i64 out60.e1, .int .i64 out60.e2, .int .i64 out60.e3, .int .i64 out60.e4] [.int .i64 out60.e0, .int .i64 out60.e1, .int .i64 (w64 (out60.e2 + 1)), .int .i64 out60.e3, .int .i64 out60.e4] tySize_3 ?_
              refine JL.nil ?_
              refine JQ.blk_normal ?_
              refine JQ.then_normal ?_
              refine JQ.sub [(2, .pointer (some ⟨b5, 0, none⟩)), (5, .pointer (some ⟨b9, 0, none⟩)), (14, .slice (some ⟨g89, o90, none⟩) s1.length c3), (15, .int .i64 (s1.length : Int)), (16, .int .i64 x61)] ?_
              refine J.region ?_
              refine JL.pur (.int .i64 (w64 (x61 + 1))) (some 26) ?_
              refine JL.mv (.int .i64 (w64 (x61 + 1))) ?_
              refine JL.nil ?_
              refine JQ.then_normal ?_
              exact JQ.again ((⟨out60.e0, out60.e1, (w64 (out60.e2 + 1)), out60.e3, out60.e4⟩ : (A5 Int)), w64 (x61 + 1)) () (Option.some.inj H1).symm (fun _ h => Heap.to h)
            · rcases ite_cases H1 with ⟨h104, H1⟩ | ⟨h104, H1⟩
              · refine JL.val (.pointer (some ⟨b9, 3, none⟩)) (some 22) (gives_ixArr (b := b9) (o := 0) (i := t91) 5 3 1 .i64 (of_decide_eq_true h104) Try.underlying29 tySize_3) ?_
                refine JL.val (.int .i64 out60.e3) (some 23) (yields_load_box 1 3 (holds_box b9 29 [.int .i64 out60.e0, .int .i64 out60.e1, .int .i64 out60.e2, .int .i64 out60.e3, .int .i64 out60.e4]) tyAgg_3) ?_
                refine JL.pur (.int .i64 (w64 (out60.e3 + 1))) (some 24) ?_
                obtain ⟨⟨h105, h106⟩, H1⟩ := ite_must H1
                refine JL.val (.pointer (some ⟨b9, 3, none⟩)) (some 25) (gives_ixArr (b := b9) (o := 0) (i := t91) 5 3 1 .i64 (of_decide_eq_true h104) Try.underlying29 tySize_3) ?_
                refine JL.store 1 b9 3 29 [.int .i64 out60.e0, .int .i64 out60.e1, .int .i64 out60.e2, .int .i64 out60.e3, .int .i64 out60.e4] [.int .i64 out60.e0, .int .i64 out60.e1, .int .i64 out60.e2, .int .i64 (w64 (out60.e3 + 1)), .int .i64 out60.e4] tySize_3 ?_
                refine JL.nil ?_
                refine JQ.blk_normal ?_
                refine JQ.then_normal ?_
                refine JQ.sub [(2, .pointer (some ⟨b5, 0, none⟩)), (5, .pointer (some ⟨b9, 0, none⟩)), (14, .slice (some ⟨g89, o90, none⟩) s1.length c3), (15, .int .i64 (s1.length : Int)), (16, .int .i64 x61)] ?_
                refine J.region ?_
                refine JL.pur (.int .i64 (w64 (x61 + 1))) (some 26) ?_
                refine JL.mv (.int .i64 (w64 (x61 + 1))) ?_
                refine JL.nil ?_
                refine JQ.then_normal ?_
                exact JQ.again ((⟨out60.e0, out60.e1, out60.e2, (w64 (out60.e3 + 1)), out60.e4⟩ : (A5 Int)), w64 (x61 + 1)) () (Option.some.inj H1).symm (fun _ h => Heap.to h)
              · refine JL.val (.pointer (some ⟨b9, 4, none⟩)) (some 22) (gives_ixArr (b := b9) (o := 0) (i := t91) 5 4 1 .i64 (by have := of_decide_eq_false h95; have := of_decide_eq_false h98; have := of_decide_eq_false h101; have := of_decide_eq_false h104; omega) Try.underlying29 tySize_3) ?_
                refine JL.val (.int .i64 out60.e4) (some 23) (yields_load_box 1 4 (holds_box b9 29 [.int .i64 out60.e0, .int .i64 out60.e1, .int .i64 out60.e2, .int .i64 out60.e3, .int .i64 out60.e4]) tyAgg_3) ?_
                refine JL.pur (.int .i64 (w64 (out60.e4 + 1))) (some 24) ?_
                obtain ⟨⟨h107, h108⟩, H1⟩ := ite_must H1
                refine JL.val (.pointer (some ⟨b9, 4, none⟩)) (some 25) (gives_ixArr (b := b9) (o := 0) (i := t91) 5 4 1 .i64 (by have := of_decide_eq_false h95; have := of_decide_eq_false h98; have := of_decide_eq_false h101; have := of_decide_eq_false h104; omega) Try.underlying29 tySize_3) ?_
                refine JL.store 1 b9 4 29 [.int .i64 out60.e0, .int .i64 out60.e1, .int .i64 out60.e2, .int .i64 out60.e3, .int .i64 out60.e4] [.int .i64 out60.e0, .int .i64 out60.e1, .int .i64 out60.e2, .int .i64 out60.e3, .int .i64 (w64 (out60.e4 + 1))] tySize_3 ?_
                refine JL.nil ?_
                refine JQ.blk_normal ?_
                refine JQ.then_normal ?_
                refine JQ.sub [(2, .pointer (some ⟨b5, 0, none⟩)), (5, .pointer (some ⟨b9, 0, none⟩)), (14, .slice (some ⟨g89, o90, none⟩) s1.length c3), (15, .int .i64 (s1.length : Int)), (16, .int .i64 x61)] ?_
                refine J.region ?_
                refine JL.pur (.int .i64 (w64 (x61 + 1))) (some 26) ?_
                refine JL.mv (.int .i64 (w64 (x61 + 1))) ?_
                refine JL.nil ?_
                refine JQ.then_normal ?_
                exact JQ.again ((⟨out60.e0, out60.e1, out60.e2, out60.e3, (w64 (out60.e4 + 1))⟩ : (A5 Int)), w64 (x61 + 1)) () (Option.some.inj H1).symm (fun _ h => Heap.to h)
      · refine J.cond_false h86 ?_
        refine J.exit ?_
        refine JQ.then_exit ?_
        refine JQ.then_exit ?_
        refine JQ.blk_exit ?_
        rw [hb1 _ (Option.some.inj H1).symm, fin_brk] at H0
        exact JQ.met out60 () H0 (fun _ h => Heap.to (Heap.pick [0, 1] (by decide) h))
    · clear hit H0
      rintro out85 ⟨⟩ H0
      replace H0 : sample_Counts.k2 out85 = some r := H0
      unfold sample_Counts.k2 at H0
      refine JQ.sub [(2, .pointer (some ⟨b5, 0, none⟩)), (5, .pointer (some ⟨b9, 0, none⟩))] ?_
      refine JQ.turn (Δ' := [At.box b5 29 [.int .i64 0, .int .i64 0, .int .i64 0, .int .i64 0, .int .i64 0], At.box b9 29 [.int .i64 out85.e0, .int .i64 out85.e1, .int .i64 out85.e2, .int .i64 out85.e3, .int .i64 out85.e4]]) (fun _ h => h.to) ?_
      refine JQ.then_normal ?_
      refine J.seq ?_
      refine J.region ?_
      refine JL.val (.agg #[.int .i64 out85.e0, .int .i64 out85.e1, .int .i64 out85.e2, .int .i64 out85.e3, .int .i64 out85.e4]) (some 27) (yields_load_boxes 1 0 [.int .i64 out85.e0, .int .i64 out85.e1, .int .i64 out85.e2, .int .i64 out85.e3, .int .i64 out85.e4] (holds_box b9 29 [.int .i64 out85.e0, .int .i64 out85.e1, .int .i64 out85.e2, .int .i64 out85.e3, .int .i64 out85.e4]) tyAgg_29 tySize_29) ?_
      refine JL.store 0 b5 0 29 [.int .i64 0, .int .i64 0, .int .i64 0, .int .i64 0, .int .i64 0] [.int .i64 out85.e0, .int .i64 out85.e1, .int .i64 out85.e2, .int .i64 out85.e3, .int .i64 out85.e4] tySize_29 ?_
      refine JL.as (.int .i64 0) ?_
      refine JL.nil ?_
      refine JQ.then_normal ?_
      refine JQ.sub [(2, .pointer (some ⟨b5, 0, none⟩)), (3, .int .i64 0)] ?_
      refine JQ.mask [At.box b5 29 [.int .i64 out85.e0, .int .i64 out85.e1, .int .i64 out85.e2, .int .i64 out85.e3, .int .i64 out85.e4]] [true, false] ?_
      refine J.ret ?_
      obtain rfl := Option.some.inj H0
      exact JQ.done' (rs := [.cell 2 29, .tmp 3]) (vs := [.agg #[.int .i64 out85.e0, .int .i64 out85.e1, .int .i64 out85.e2, .int .i64 out85.e3, .int .i64 out85.e4], .int .i64 0]) [] (.inr rfl) ⟨⟨b5, 0, _, _, by kernel_rfl, by kernel_rfl, holds_box b5 29 [.int .i64 out85.e0, .int .i64 out85.e1, .int .i64 out85.e2, .int .i64 out85.e3, .int .i64 out85.e4], .inl ⟨tyAgg_29, tySize_29, rfl⟩⟩, by kernel_rfl, trivial⟩ (fun _ h => Heap.to (Heap.pick [] (by decide) h)) ⟨rfl, rfl⟩

theorem ref13_Counts.ok (s1 : (List Int)) (A2 : Option Addr) (c3 : Nat) (r : ((A5 Int) × Int)) (H0 : ref13_Counts.f s1 = some r) :
    Does Try.prog 13 [.slice A2 s1.length c3].toArray [At.rd A2 c3 ((flInt .i64).kd) s1 true] [] false (fun v Δ => v = .tuple #[.agg #[.int .i64 r.1.e0, .int .i64 r.1.e1, .int .i64 r.1.e2, .int .i64 r.1.e3, .int .i64 r.1.e4], .int .i64 r.2] ∧ Δ = []) := by
  refine Does.body (vs := [.slice A2 s1.length c3]) Try.func13 rfl ⟨.inl rfl, trivial⟩ trivial fun w S => ?_
  unfold ref13_Counts.f at H0
  refine J.seq ?_
  refine J.region ?_
  refine JL.alloc [.int .i64 0, .int .i64 0, .int .i64 0, .int .i64 0, .int .i64 0] fun b5 => ?_
  refine JL.as (.int .i64 0) ?_
  refine JL.nil ?_
  refine JQ.then_normal ?_
  refine JQ.sub [(0, .slice A2 s1.length c3), (2, .pointer (some ⟨b5, 0, none⟩))] ?_
  refine J.seq ?_
  refine J.region ?_
  refine JL.alloc [.int .i64 0, .int .i64 0, .int .i64 0, .int .i64 0, .int .i64 0] fun b6 => ?_
  refine JL.nil ?_
  refine JQ.then_normal ?_
  refine J.seq ?_
  refine J.seq ?_
  refine J.region ?_
  refine JL.mv (.slice A2 s1.length c3) ?_
  obtain ⟨t7, hc8, H0⟩ := bind_some H0
  refine JL.call [] [] [] (ref13_Check.ok s1 A2 c3 _ hc8) ⟨pre_any 0 (view_rd A2 c3 ((flInt .i64).kd) s1 true true), trivial⟩ ?_
  rintro _ _ ⟨rfl, rfl⟩
  refine JL.pur (.bool (!decide (t7 = 0))) (some 8) ?_
  refine JL.nil ?_
  refine JQ.then_normal ?_
  refine JQ.sub [(0, .slice A2 s1.length c3), (2, .pointer (some ⟨b5, 0, none⟩)), (4, .pointer (some ⟨b6, 0, none⟩)), (8, .bool (!decide (t7 = 0)))] ?_
  rcases ite_cases H0 with ⟨h9, H0⟩ | ⟨h9, H0⟩
  · refine J.cond_true h9 ?_
    refine J.seq ?_
    refine J.drawT 3 ?_
    refine QL.val (.agg #[.int .i64 0, .int .i64 0, .int .i64 0, .int .i64 0, .int .i64 0]) (some 9) (yields_load_boxes 2 0 [.int .i64 0, .int .i64 0, .int .i64 0, .int .i64 0, .int .i64 0] (holds_box b6 29 [.int .i64 0, .int .i64 0, .int .i64 0, .int .i64 0, .int .i64 0]) tyAgg_29 tySize_29) ?_
    refine QL.mv (.slice A2 s1.length c3) ?_
    obtain ⟨t10, hc11, H0⟩ := bind_some H0
    refine QL.call [] [] (ref13_Check.ok s1 A2 c3 _ hc11) ⟨pre_any 0 (view_rd A2 c3 ((flInt .i64).kd) s1 true true), trivial⟩ ?_
    refine QL.nil ?_
    refine JL.store 1 b5 0 29 [.int .i64 0, .int .i64 0, .int .i64 0, .int .i64 0, .int .i64 0] [.int .i64 0, .int .i64 0, .int .i64 0, .int .i64 0, .int .i64 0] tySize_29 ?_
    refine JL.as (.int .i64 t10) ?_
    refine JL.nil ?_
    refine JQ.then_normal ?_
    refine JQ.sub [(2, .pointer (some ⟨b5, 0, none⟩)), (3, .int .i64 t10)] ?_
    refine JQ.mask [At.box b5 29 [.int .i64 0, .int .i64 0, .int .i64 0, .int .i64 0, .int .i64 0]] [false, true, false] ?_
    refine J.ret ?_
    refine JQ.then_ret ?_
    obtain rfl := Option.some.inj H0
    exact JQ.done' (rs := [.cell 2 29, .tmp 3]) (vs := [.agg #[.int .i64 0, .int .i64 0, .int .i64 0, .int .i64 0, .int .i64 0], .int .i64 t10]) [] (.inr rfl) ⟨⟨b5, 0, _, _, by kernel_rfl, by kernel_rfl, holds_box b5 29 [.int .i64 0, .int .i64 0, .int .i64 0, .int .i64 0, .int .i64 0], .inl ⟨tyAgg_29, tySize_29, rfl⟩⟩, by kernel_rfl, trivial⟩ (fun _ h => Heap.to (Heap.pick [] (by decide) h)) ⟨rfl, rfl⟩
  · refine J.cond_false h9 ?_
    refine J.skip ?_
    refine JQ.then_normal ?_
    refine JQ.sub [(0, .slice A2 s1.length c3), (2, .pointer (some ⟨b5, 0, none⟩)), (4, .pointer (some ⟨b6, 0, none⟩))] ?_
    refine J.seq ?_
    refine J.seq ?_
    refine J.region ?_
    refine JL.as (.int .i64 0) ?_
    refine JL.nil ?_
    refine JQ.then_normal ?_
    obtain ⟨o1, hit, H0⟩ := bind_some H0
    refine J.loop (σ := ((A5 Int) × Int)) (τ := (A5 Int)) (G := Unit) (G' := Unit) _ o1 (fun s g => [(0, .slice A2 s1.length c3), (2, .pointer (some ⟨b5, 0, none⟩)), (4, .pointer (some ⟨b6, 0, none⟩)), (5, .int .i64 s.2)]) (fun s g => [At.rd A2 c3 ((flInt .i64).kd) s1 true, At.box b5 29 [.int .i64 0, .int .i64 0, .int .i64 0, .int .i64 0, .int .i64 0], At.box b6 29 [.int .i64 s.1.e0, .int .i64 s.1.e1, .int .i64 s.1.e2, .int .i64 s.1.e3, .int .i64 s.1.e4]]) (fun t => ref13_Counts.k2 t = some r) (fun t g => [(2, .pointer (some ⟨b5, 0, none⟩)), (4, .pointer (some ⟨b6, 0, none⟩))]) (fun t g => [At.box b5 29 [.int .i64 0, .int .i64 0, .int .i64 0, .int .i64 0, .int .i64 0], At.box b6 29 [.int .i64 t.e0, .int .i64 t.e1, .int .i64 t.e2, .int .i64 t.e3, .int .i64 t.e4]]) ((⟨0, 0, 0, 0, 0⟩ : (A5 Int)), 0) () hit (fun _ h => Heap.to h) ?_ ?_
    · clear hit
      rintro ⟨out27, d28⟩ ⟨⟩ st1 H1 hb1 hr1
      replace H1 : ref13_Counts.s1 s1 out27 d28 = some st1 := H1
      unfold ref13_Counts.s1 at H1
      refine JQ.sub [(0, .slice A2 s1.length c3), (2, .pointer (some ⟨b5, 0, none⟩)), (4, .pointer (some ⟨b6, 0, none⟩)), (5, .int .i64 d28)] ?_
      refine JQ.turn (Δ' := [At.rd A2 c3 ((flInt .i64).kd) s1 true, At.box b5 29 [.int .i64 0, .int .i64 0, .int .i64 0, .int .i64 0, .int .i64 0], At.box b6 29 [.int .i64 out27.e0, .int .i64 out27.e1, .int .i64 out27.e2, .int .i64 out27.e3, .int .i64 out27.e4]]) (fun _ h => h.to) ?_
      refine J.seq ?_
      refine J.seq ?_
      refine J.region ?_
      refine JL.mv (.int .i64 d28) ?_
      refine JL.pur (.bool (decide (d28 < 5))) (some 13) ?_
      refine JL.nil ?_
      refine JQ.then_normal ?_
      refine JQ.sub [(0, .slice A2 s1.length c3), (2, .pointer (some ⟨b5, 0, none⟩)), (4, .pointer (some ⟨b6, 0, none⟩)), (5, .int .i64 d28), (13, .bool (decide (d28 < 5)))] ?_
      rcases ite_cases H1 with ⟨h39, H1⟩ | ⟨h39, H1⟩
      · refine J.cond_true h39 ?_
        refine J.skip ?_
        refine JQ.then_normal ?_
        refine JQ.sub [(0, .slice A2 s1.length c3), (2, .pointer (some ⟨b5, 0, none⟩)), (4, .pointer (some ⟨b6, 0, none⟩)), (5, .int .i64 d28)] ?_
        refine J.seq ?_
        refine J.block ?_
        refine J.region ?_
        refine JL.mv (.int .i64 d28) ?_
        refine JL.mv (.slice A2 s1.length c3) ?_
        refine JL.mv (.int .i64 d28) ?_
        obtain ⟨t40, hc41, H1⟩ := bind_some H1
        refine JL.call [] [] [] (ref13_count.ok s1 A2 c3 d28 _ hc41) ⟨pre_any 0 (view_rd A2 c3 ((flInt .i64).kd) s1 true true), trivial⟩ ?_
        rintro _ _ ⟨rfl, rfl⟩
        obtain ⟨⟨h42, h43⟩, H1⟩ := ite_must H1
        rcases ite_cases H1 with ⟨h44, H1⟩ | ⟨h44, H1⟩
        · refine JL.val (.pointer (some ⟨b6, 0, none⟩)) (some 20) (gives_ixArr (b := b6) (o := 0) (i := d28) 5 0 1 .i64 (of_decide_eq_true h44) Try.underlying29 tySize_3) ?_
          refine JL.store 2 b6 0 29 [.int .i64 out27.e0, .int .i64 out27.e1, .int .i64 out27.e2, .int .i64 out27.e3, .int .i64 out27.e4] [.int .i64 t40, .int .i64 out27.e1, .int .i64 out27.e2, .int .i64 out27.e3, .int .i64 out27.e4] tySize_3 ?_
          refine JL.nil ?_
          refine JQ.blk_normal ?_
          refine JQ.then_normal ?_
          refine JQ.sub [(0, .slice A2 s1.length c3), (2, .pointer (some ⟨b5, 0, none⟩)), (4, .pointer (some ⟨b6, 0, none⟩)), (5, .int .i64 d28)] ?_
          refine J.region ?_
          refine JL.mv (.int .i64 d28) ?_
          refine JL.pur (.int .i64 (w64 (d28 + 1))) (some 15) ?_
          refine JL.as (.int .i64 (w64 (d28 + 1))) ?_
          refine JL.nil ?_
          refine JQ.then_normal ?_
          exact JQ.again ((⟨t40, out27.e1, out27.e2, out27.e3, out27.e4⟩ : (A5 Int)), w64 (d28 + 1)) () (Option.some.inj H1).symm (fun _ h => Heap.to h)
        · rcases ite_cases H1 with ⟨h45, H1⟩ | ⟨h45, H1⟩
          · refine JL.val (.pointer (some ⟨b6, 1, none⟩)) (some 20) (gives_ixArr (b := b6) (o := 0) (i := d28) 5 1 1 .i64 (of_decide_eq_true h45) Try.underlying29 tySize_3) ?_
            refine JL.store 2 b6 1 29 [.int .i64 out27.e0, .int .i64 out27.e1, .int .i64 out27.e2, .int .i64 out27.e3, .int .i64 out27.e4] [.int .i64 out27.e0, .int .i64 t40, .int .i64 out27.e2, .int .i64 out27.e3, .int .i64 out27.e4] tySize_3 ?_
            refine JL.nil ?_
            refine JQ.blk_normal ?_
            refine JQ.then_normal ?_
            refine JQ.sub [(0, .slice A2 s1.length c3), (2, .pointer (some ⟨b5, 0, none⟩)), (4, .pointer (some ⟨b6, 0, none⟩)), (5, .int .i64 d28)] ?_
            refine J.region ?_
            refine JL.mv (.int .i64 d28) ?_
            refine JL.pur (.int .i64 (w64 (d28 + 1))) (some 15) ?_
            refine JL.as (.int .i64 (w64 (d28 + 1))) ?_
            refine JL.nil ?_
            refine JQ.then_normal ?_
            exact JQ.again ((⟨out27.e0, t40, out27.e2, out27.e3, out27.e4⟩ : (A5 Int)), w64 (d28 + 1)) () (Option.some.inj H1).symm (fun _ h => Heap.to h)
          · rcases ite_cases H1 with ⟨h46, H1⟩ | ⟨h46, H1⟩
            · refine JL.val (.pointer (some ⟨b6, 2, none⟩)) (some 20) (gives_ixArr (b := b6) (o := 0) (i := d28) 5 2 1 .i64 (of_decide_eq_true h46) Try.underlying29 tySize_3) ?_
              refine JL.store 2 b6 2 29 [.int .i64 out27.e0, .int .i64 out27.e1, .int .i64 out27.e2, .int .i64 out27.e3, .int .i64 out27.e4] [.int .i64 out27.e0, .int .i64 out27.e1, .int .i64 t40, .int .i64 out27.e3, .int .i64 out27.e4] tySize_3 ?_
              refine JL.nil ?_
              refine JQ.blk_normal ?_
              refine JQ.then_normal ?_
              refine JQ.sub [(0, .slice A2 s1.length c3), (2, .pointer (some ⟨b5, 0, none⟩)), (4, .pointer (some ⟨b6, 0, none⟩)), (5, .int .i64 d28)] ?_
              refine J.region ?_
              refine JL.mv (.int .i64 d28) ?_
              refine JL.pur (.int .i64 (w64 (d28 + 1))) (some 15) ?_
              refine JL.as (.int .i64 (w64 (d28 + 1))) ?_
              refine JL.nil ?_
              refine JQ.then_normal ?_
              exact JQ.again ((⟨out27.e0, out27.e1, t40, out27.e3, out27.e4⟩ : (A5 Int)), w64 (d28 + 1)) () (Option.some.inj H1).symm (fun _ h => Heap.to h)
            · rcases ite_cases H1 with ⟨h47, H1⟩ | ⟨h47, H1⟩
              · refine JL.val (.pointer (some ⟨b6, 3, none⟩)) (some 20) (gives_ixArr (b := b6) (o := 0) (i := d28) 5 3 1 .i64 (of_decide_eq_true h47) Try.underlying29 tySize_3) ?_
                refine JL.store 2 b6 3 29 [.int .i64 out27.e0, .int .i64 out27.e1, .int .i64 out27.e2, .int .i64 out27.e3, .int .i64 out27.e4] [.int .i64 out27.e0, .int .i64 out27.e1, .int .i64 out27.e2, .int .i64 t40, .int .i64 out27.e4] tySize_3 ?_
                refine JL.nil ?_
                refine JQ.blk_normal ?_
                refine JQ.then_normal ?_
                refine JQ.sub [(0, .slice A2 s1.length c3), (2, .pointer (some ⟨b5, 0, none⟩)), (4, .pointer (some ⟨b6, 0, none⟩)), (5, .int .i64 d28)] ?_
                refine J.region ?_
                refine JL.mv (.int .i64 d28) ?_
                refine JL.pur (.int .i64 (w64 (d28 + 1))) (some 15) ?_
                refine JL.as (.int .i64 (w64 (d28 + 1))) ?_
                refine JL.nil ?_
                refine JQ.then_normal ?_
                exact JQ.again ((⟨out27.e0, out27.e1, out27.e2, t40, out27.e4⟩ : (A5 Int)), w64 (d28 + 1)) () (Option.some.inj H1).symm (fun _ h => Heap.to h)
              · refine JL.val (.pointer (some ⟨b6, 4, none⟩)) (some 20) (gives_ixArr (b := b6) (o := 0) (i := d28) 5 4 1 .i64 (by have := of_decide_eq_false h44; have := of_decide_eq_false h45; have := of_decide_eq_false h46; have := of_decide_eq_false h47; omega) Try.underlying29 tySize_3) ?_
                refine JL.store 2 b6 4 29 [.int .i64 out27.e0, .int .i64 out27.e1, .int .i64 out27.e2, .int .i64 out27.e3, .int .i64 out27.e4] [.int .i64 out27.e0, .int .i64 out27.e1, .int .i64 out27.e2, .int .i64 out27.e3, .int .i64 t40] tySize_3 ?_
                refine JL.nil ?_
                refine JQ.blk_normal ?_
                refine JQ.then_normal ?_
                refine JQ.sub [(0, .slice A2 s1.length c3), (2, .pointer (some ⟨b5, 0, none⟩)), (4, .pointer (some ⟨b6, 0, none⟩)), (5, .int .i64 d28)] ?_
                refine J.region ?_
                refine JL.mv (.int .i64 d28) ?_
                refine JL.pur (.int .i64 (w64 (d28 + 1))) (some 15) ?_
                refine JL.as (.int .i64 (w64 (d28 + 1))) ?_
                refine JL.nil ?_
                refine JQ.then_normal ?_
                exact JQ.again ((⟨out27.e0, out27.e1, out27.e2, out27.e3, t40⟩ : (A5 Int)), w64 (d28 + 1)) () (Option.some.inj H1).symm (fun _ h => Heap.to h)
      · refine J.cond_false h39 ?_
        refine J.exit ?_
        refine JQ.then_exit ?_
        refine JQ.then_exit ?_
        refine JQ.blk_exit ?_
        rw [hb1 _ (Option.some.inj H1).symm, fin_brk] at H0
        exact JQ.met out27 () H0 (fun _ h => Heap.to (Heap.pick [1, 2] (by decide) h))
    · clear hit H0
      rintro out38 ⟨⟩ H0
      replace H0 : ref13_Counts.k2 out38 = some r := H0
      unfold ref13_Counts.k2 at H0
      refine JQ.sub [(2, .pointer (some ⟨b5, 0, none⟩)), (4, .pointer (some ⟨b6, 0, none⟩))] ?_
      refine JQ.turn (Δ' := [At.box b5 29 [.int .i64 0, .int .i64 0, .int .i64 0, .int .i64 0, .int .i64 0], At.box b6 29 [.int .i64 out38.e0, .int .i64 out38.e1, .int .i64 out38.e2, .int .i64 out38.e3, .int .i64 out38.e4]]) (fun _ h => h.to) ?_
      refine JQ.then_normal ?_
      refine J.seq ?_
      refine J.region ?_
      refine JL.val (.agg #[.int .i64 out38.e0, .int .i64 out38.e1, .int .i64 out38.e2, .int .i64 out38.e3, .int .i64 out38.e4]) (some 21) (yields_load_boxes 1 0 [.int .i64 out38.e0, .int .i64 out38.e1, .int .i64 out38.e2, .int .i64 out38.e3, .int .i64 out38.e4] (holds_box b6 29 [.int .i64 out38.e0, .int .i64 out38.e1, .int .i64 out38.e2, .int .i64 out38.e3, .int .i64 out38.e4]) tyAgg_29 tySize_29) ?_
      refine JL.store 0 b5 0 29 [.int .i64 0, .int .i64 0, .int .i64 0, .int .i64 0, .int .i64 0] [.int .i64 out38.e0, .int .i64 out38.e1, .int .i64 out38.e2, .int .i64 out38.e3, .int .i64 out38.e4] tySize_29 ?_
      refine JL.as (.int .i64 0) ?_
      refine JL.nil ?_
      refine JQ.then_normal ?_
      refine JQ.sub [(2, .pointer (some ⟨b5, 0, none⟩)), (3, .int .i64 0)] ?_
      refine JQ.mask [At.box b5 29 [.int .i64 out38.e0, .int .i64 out38.e1, .int .i64 out38.e2, .int .i64 out38.e3, .int .i64 out38.e4]] [true, false] ?_
      refine J.ret ?_
      obtain rfl := Option.some.inj H0
      exact JQ.done' (rs := [.cell 2 29, .tmp 3]) (vs := [.agg #[.int .i64 out38.e0, .int .i64 out38.e1, .int .i64 out38.e2, .int .i64 out38.e3, .int .i64 out38.e4], .int .i64 0]) [] (.inr rfl) ⟨⟨b5, 0, _, _, by kernel_rfl, by kernel_rfl, holds_box b5 29 [.int .i64 out38.e0, .int .i64 out38.e1, .int .i64 out38.e2, .int .i64 out38.e3, .int .i64 out38.e4], .inl ⟨tyAgg_29, tySize_29, rfl⟩⟩, by kernel_rfl, trivial⟩ (fun _ h => Heap.to (Heap.pick [] (by decide) h)) ⟨rfl, rfl⟩

theorem sample_Sign.ok (s1 : (List Int)) (A2 : Option Addr) (c3 : Nat) (r : ((List Int) × Int)) (H0 : sample_Sign.f s1 = some r) :
    Does Try.prog 14 [.slice A2 s1.length c3].toArray [At.rd A2 c3 ((flInt .i64).kd) s1 true] [] false (fun v Δ => ∃ A1001 : Option Addr, ∃ c1001 : Nat, v = .tuple #[.slice A1001 r.1.length c1001, .int .i64 r.2] ∧ Δ = [At.row A1001 c1001 3 ((flInt .i64).kd) r.1 false]) := by
  refine Does.body (vs := [.slice A2 s1.length c3]) Try.func14 rfl ⟨.inl rfl, trivial⟩ trivial fun w S => ?_
  unfold sample_Sign.f at H0
  refine J.seq ?_
  refine J.region ?_
  refine JL.as (.slice none 0 0) ?_
  refine JL.as (.int .i64 0) ?_
  refine JL.nil ?_
  refine JQ.then_normal ?_
  refine JQ.sub [(0, .slice A2 s1.length c3)] ?_
  refine J.seq ?_
  refine J.seq ?_
  refine J.region ?_
  refine JL.mv (.slice A2 s1.length c3) ?_
  obtain ⟨t5, hc6, H0⟩ := bind_some H0
  refine JL.call [] [] [] (sample_Check.ok s1 A2 c3 _ hc6) ⟨pre_any 0 (view_rd A2 c3 ((flInt .i64).kd) s1 true true), trivial⟩ ?_
  rintro _ _ ⟨rfl, rfl⟩
  refine JL.as (.int .i64 t5) ?_
  refine JL.nil ?_
  refine JQ.then_normal ?_
  refine JQ.sub [(0, .slice A2 s1.length c3), (4, .int .i64 t5)] ?_
  refine J.seq ?_
  refine J.region ?_
  refine JL.mv (.int .i64 t5) ?_
  refine JL.pur (.bool (!decide (t5 = 0))) (some 11) ?_
  refine JL.nil ?_
  refine JQ.then_normal ?_
  refine JQ.sub [(0, .slice A2 s1.length c3), (4, .int .i64 t5), (11, .bool (!decide (t5 = 0)))] ?_
  rcases ite_cases H0 with ⟨h7, H0⟩ | ⟨h7, H0⟩
  · refine J.cond_true h7 ?_
    refine J.seq ?_
    refine J.region ?_
    refine JL.mv (.int .i64 t5) ?_
    refine JL.as (.slice none 0 0) ?_
    refine JL.as (.int .i64 t5) ?_
    refine JL.nil ?_
    refine JQ.then_normal ?_
    refine JQ.sub [(2, .slice none 0 0), (3, .int .i64 t5)] ?_
    refine JQ.mask [] [false] ?_
    refine J.ret ?_
    refine JQ.then_ret ?_
    obtain rfl := Option.some.inj H0
    exact JQ.done' (rs := [.tmp 2, .tmp 3]) (vs := [.slice none 0 0, .int .i64 t5]) [At.row none 0 3 ((flInt .i64).kd) ([] : List Int) false] (.inr rfl) ⟨by kernel_rfl, by kernel_rfl, trivial⟩ (fun _ h => Heap.to (Heap.addRow0 (α := Int) 3 ((flInt .i64).kd) false h)) ⟨none, 0, rfl, rfl⟩
  · refine J.cond_false h7 ?_
    refine J.skip ?_
    refine JQ.then_normal ?_
    refine JQ.sub [(0, .slice A2 s1.length c3)] ?_
    refine J.seq ?_
    refine J.region ?_
    refine JL.as (.slice none 0 0) ?_
    refine JL.nil ?_
    refine JQ.then_normal ?_
    refine J.seq ?_
    refine J.seq ?_
    refine J.region ?_
    refine JL.mv (.slice A2 s1.length c3) ?_
    refine JL.pur (.int .i64 (s1.length : Int)) (some 14) ?_
    refine JL.mv (.int .i64 0) ?_
    refine JL.nil ?_
    refine JQ.then_normal ?_
    refine JQ.sub [(5, .slice none 0 0), (13, .slice A2 s1.length c3), (14, .int .i64 (s1.length : Int)), (15, .int .i64 0)] ?_
    obtain ⟨o1, hit, H0⟩ := bind_some H0
    refine J.loop (σ := ((List Int) × Int)) (τ := List Int) (G := ((Option Addr) × Nat)) (G' := ((Option Addr) × Nat)) _ o1 (fun s g => [(5, .slice g.1 s.1.length g.2), (13, .slice A2 s1.length c3), (14, .int .i64 (s1.length : Int)), (15, .int .i64 s.2)]) (fun s g => [At.row g.1 g.2 3 ((flInt .i64).kd) s.1 false, At.rd A2 c3 ((flInt .i64).kd) s1 true]) (fun t => sample_Sign.k2 t = some r) (fun t g => [(5, .slice g.1 t.length g.2)]) (fun t g => [At.row g.1 g.2 3 ((flInt .i64).kd) t false]) ([], 0) (none, 0) hit (fun _ h => Heap.to (Heap.pick [1, 0] (by decide) (Heap.addRow0 (α := Int) 3 ((flInt .i64).kd) false h))) ?_ ?_
    · clear hit
      rintro ⟨out37, x41⟩ ⟨A38, c39⟩ st1 H1 hb1 hr1
      replace H1 : sample_Sign.s1 s1 out37 x41 = some st1 := H1
      unfold sample_Sign.s1 at H1
      refine JQ.sub [(5, .slice A38 out37.length c39), (13, .slice A2 s1.length c3), (14, .int .i64 (s1.length : Int)), (15, .int .i64 x41)] ?_
      refine JQ.turn (Δ' := [At.row A38 c39 3 ((flInt .i64).kd) out37 false, At.rd A2 c3 ((flInt .i64).kd) s1 true]) (fun _ h => h.to) ?_
      refine J.seq ?_
      refine J.region ?_
      refine JL.pur (.bool (decide (x41 < (s1.length : Int)))) (some 16) ?_
      refine JL.nil ?_
      refine JQ.then_normal ?_
      refine J.seq ?_
      rcases ite_cases H1 with ⟨h55, H1⟩ | ⟨h55, H1⟩
      · refine J.cond_true h55 ?_
        refine J.skip ?_
        refine JQ.then_normal ?_
        refine JQ.sub [(5, .slice A38 out37.length c39), (13, .slice A2 s1.length c3), (14, .int .i64 (s1.length : Int)), (15, .int .i64 x41)] ?_
        refine J.seq ?_
        refine J.block ?_
        refine J.seq ?_
        refine J.region ?_
        obtain ⟨⟨h56, h57⟩, H1⟩ := ite_must H1
        refine JL.ixAddr 1 1 c3 .i64 (elems_rd A2 c3 ((flInt .i64).kd) s1 true) Try.underlying22 tySize_3 h56 h57 fun g58 o59 hA => ?_
        subst hA
        refine JL.val (.int .i64 (ix s1 x41)) (some 18) (gives_loadEl (f := (flInt .i64)) 1 0 x41 (elems_rd (some ⟨g58, o59, none⟩) c3 ((flInt .i64).kd) s1 true) h56 h57 tySize_3 (.inr ⟨tyAgg_3, rfl, rfl⟩)) ?_
        refine JL.as (.int .i64 (ix s1 x41)) ?_
        refine JL.nil ?_
        refine JQ.then_normal ?_
        refine JQ.sub [(5, .slice A38 out37.length c39), (7, .int .i64 (ix s1 x41)), (13, .slice (some ⟨g58, o59, none⟩) s1.length c3), (14, .int .i64 (s1.length : Int)), (15, .int .i64 x41)] ?_
        refine J.region ?_
        refine JL.mv (.slice A38 out37.length c39) ?_
        refine JL.mv (.int .i64 (ix s1 x41)) ?_
        refine JL.pur (.int .i64 (gmin 1 (ix s1 x41))) (some 21) ?_
        refine JL.pur (.int .i64 (gmax (-1) (gmin 1 (ix s1 x41)))) (some 22) ?_
        refine JL.buildSl 3 ((flInt .i64).kd) (([(gmax (-1) (gmin 1 (ix s1 x41)))] : List Int) : List Int) [.int .i64 (gmax (-1) (gmin 1 (ix s1 x41)))] false (closes_fl rfl) fun b60 => ?_
        obtain ⟨h63, H1⟩ := ite_must H1
        refine JL.append false false 0 2 A38 c39 1 out37 (elems_row (some ⟨b60, 0, none⟩) 1 3 ((flInt .i64).kd) ([(gmax (-1) (gmin 1 (ix s1 x41)))] : List Int) false) Try.underlying22 info_3 (by omega) (by omega) (fun h => h) (.inr ⟨_, rfl⟩) fun A61 c62 => ?_
        refine JL.as (.slice A61 (out37 ++ ([(gmax (-1) (gmin 1 (ix s1 x41)))] : List Int)).length c62) ?_
        refine JL.nil ?_
        refine JQ.blk_normal ?_
        refine JQ.then_normal ?_
        refine JQ.sub [(5, .slice A61 (out37 ++ ([(gmax (-1) (gmin 1 (ix s1 x41)))] : List Int)).length c62), (13, .slice (some ⟨g58, o59, none⟩) s1.length c3), (14, .int .i64 (s1.length : Int)), (15, .int .i64 x41)] ?_
        refine JQ.mask [At.row A61 c62 3 ((flInt .i64).kd) (out37 ++ ([(gmax (-1) (gmin 1 (ix s1 x41)))] : List Int)) false, At.rd (some ⟨g58, o59, none⟩) c3 ((flInt .i64).kd) s1 true] [true, true, false] ?_
        refine J.region ?_
        refine JL.pur (.int .i64 (w64 (x41 + 1))) (some 25) ?_
        refine JL.mv (.int .i64 (w64 (x41 + 1))) ?_
        refine JL.nil ?_
        refine JQ.then_normal ?_
        exact JQ.again ((out37 ++ ([(gmax (-1) (gmin 1 (ix s1 x41)))] : List Int)), w64 (x41 + 1)) (A61, c62) (Option.some.inj H1).symm (fun _ h => Heap.to h)
      · refine J.cond_false h55 ?_
        refine J.exit ?_
        refine JQ.then_exit ?_
        refine JQ.then_exit ?_
        refine JQ.blk_exit ?_
        rw [hb1 _ (Option.some.inj H1).symm, fin_brk] at H0
        exact JQ.met out37 (A38, c39) H0 (fun _ h => Heap.to (Heap.pick [0] (by decide) h))
    · clear hit H0
      rintro out51 ⟨A52, c53⟩ H0
      replace H0 : sample_Sign.k2 out51 = some r := H0
      unfold sample_Sign.k2 at H0
      refine JQ.sub [(5, .slice A52 out51.length c53)] ?_
      refine JQ.turn (Δ' := [At.row A52 c53 3 ((flInt .i64).kd) out51 false]) (fun _ h => h.to) ?_
      refine JQ.then_normal ?_
      refine J.seq ?_
      refine J.region ?_
      refine JL.mv (.slice A52 out51.length c53) ?_
      refine JL.as (.slice A52 out51.length c53) ?_
      refine JL.as (.int .i64 0) ?_
      refine JL.nil ?_
      refine JQ.then_normal ?_
      refine JQ.sub [(2, .slice A52 out51.length c53), (3, .int .i64 0)] ?_
      refine J.ret ?_
      obtain rfl := Option.some.inj H0
      exact JQ.done' (rs := [.tmp 2, .tmp 3]) (vs := [.slice A52 out51.length c53, .int .i64 0]) [At.row A52 c53 3 ((flInt .i64).kd) out51 false] (.inr rfl) ⟨by kernel_rfl, by kernel_rfl, trivial⟩ (fun _ h => Heap.to h) ⟨A52, c53, rfl, rfl⟩

theorem ref13_Sign.ok (s1 : (List Int)) (A2 : Option Addr) (c3 : Nat) (r : ((List Int) × Int)) (H0 : ref13_Sign.f s1 = some r) :
    Does Try.prog 15 [.slice A2 s1.length c3].toArray [At.rd A2 c3 ((flInt .i64).kd) s1 true] [] false (fun v Δ => ∃ A1001 : Option Addr, ∃ c1001 : Nat, v = .tuple #[.slice A1001 r.1.length c1001, .int .i64 r.2] ∧ Δ = [At.row A1001 c1001 3 ((flInt .i64).kd) r.1 false]) := by
  refine Does.body (vs := [.slice A2 s1.length c3]) Try.func15 rfl ⟨.inl rfl, trivial⟩ trivial fun w S => ?_
  unfold ref13_Sign.f at H0
  refine J.seq ?_
  refine J.region ?_
  refine JL.as (.slice none 0 0) ?_
  refine JL.as (.int .i64 0) ?_
  refine JL.nil ?_
  refine JQ.then_normal ?_
  refine JQ.sub [(0, .slice A2 s1.length c3)] ?_
  refine J.seq ?_
  refine J.seq ?_
  refine J.region ?_
  refine JL.mv (.slice A2 s1.length c3) ?_
  obtain ⟨t5, hc6, H0⟩ := bind_some H0
  refine JL.call [] [] [] (ref13_Check.ok s1 A2 c3 _ hc6) ⟨pre_any 0 (view_rd A2 c3 ((flInt .i64).kd) s1 true true), trivial⟩ ?_
  rintro _ _ ⟨rfl, rfl⟩
  refine JL.pur (.bool (!decide (t5 = 0))) (some 8) ?_
  refine JL.nil ?_
  refine JQ.then_normal ?_
  refine JQ.sub [(0, .slice A2 s1.length c3), (8, .bool (!decide (t5 = 0)))] ?_
  rcases ite_cases H0 with ⟨h7, H0⟩ | ⟨h7, H0⟩
  · refine J.cond_true h7 ?_
    refine J.seq ?_
    refine J.region ?_
    refine JL.mv (.slice A2 s1.length c3) ?_
    obtain ⟨t8, hc9, H0⟩ := bind_some H0
    refine JL.call [] [] [] (ref13_Check.ok s1 A2 c3 _ hc9) ⟨pre_any 0 (view_rd A2 c3 ((flInt .i64).kd) s1 true true), trivial⟩ ?_
    rintro _ _ ⟨rfl, rfl⟩
    refine JL.as (.slice none 0 0) ?_
    refine JL.as (.int .i64 t8) ?_
    refine JL.nil ?_
    refine JQ.then_normal ?_
    refine JQ.sub [(2, .slice none 0 0), (3, .int .i64 t8)] ?_
    refine JQ.mask [] [false] ?_
    refine J.ret ?_
    refine JQ.then_ret ?_
    obtain rfl := Option.some.inj H0
    exact JQ.done' (rs := [.tmp 2, .tmp 3]) (vs := [.slice none 0 0, .int .i64 t8]) [At.row none 0 3 ((flInt .i64).kd) ([] : List Int) false] (.inr rfl) ⟨by kernel_rfl, by kernel_rfl, trivial⟩ (fun _ h => Heap.to (Heap.addRow0 (α := Int) 3 ((flInt .i64).kd) false h)) ⟨none, 0, rfl, rfl⟩
  · refine J.cond_false h7 ?_
    refine J.skip ?_
    refine JQ.then_normal ?_
    refine JQ.sub [(0, .slice A2 s1.length c3)] ?_
    refine J.seq ?_
    refine J.region ?_
    refine JL.as (.slice none 0 0) ?_
    refine JL.nil ?_
    refine JQ.then_normal ?_
    refine J.seq ?_
    refine J.seq ?_
    refine J.region ?_
    refine JL.as (.int .i64 0) ?_
    refine JL.nil ?_
    refine JQ.then_normal ?_
    obtain ⟨o1, hit, H0⟩ := bind_some H0
    refine J.loop (σ := ((List Int) × Int)) (τ := List Int) (G := ((Option Addr) × Nat)) (G' := ((Option Addr) × Nat)) _ o1 (fun s g => [(0, .slice A2 s1.length c3), (4, .slice g.1 s.1.length g.2), (5, .int .i64 s.2)]) (fun s g => [At.rd A2 c3 ((flInt .i64).kd) s1 true, At.row g.1 g.2 3 ((flInt .i64).kd) s.1 false]) (fun t => ref13_Sign.k5 t = some r) (fun t g => [(4, .slice g.1 t.length g.2)]) (fun t g => [At.row g.1 g.2 3 ((flInt .i64).kd) t false]) ([], 0) (none, 0) hit (fun _ h => Heap.to (Heap.addRow0 (α := Int) 3 ((flInt .i64).kd) false h)) ?_ ?_
    · clear hit
      rintro ⟨out124, i128⟩ ⟨A125, c126⟩ st1 H1 hb1 hr1
      replace H1 : ref13_Sign.s4 s1 out124 i128 = some st1 := H1
      unfold ref13_Sign.s4 at H1
      refine JQ.sub [(0, .slice A2 s1.length c3), (4, .slice A125 out124.length c126), (5, .int .i64 i128)] ?_
      refine JQ.turn (Δ' := [At.rd A2 c3 ((flInt .i64).kd) s1 true, At.row A125 c126 3 ((flInt .i64).kd) out124 false]) (fun _ h => h.to) ?_
      refine J.seq ?_
      refine J.seq ?_
      refine J.region ?_
      refine JL.mv (.int .i64 i128) ?_
      refine JL.mv (.slice A2 s1.length c3) ?_
      refine JL.pur (.int .i64 (s1.length : Int)) (some 13) ?_
      refine JL.pur (.bool (decide (i128 < (s1.length : Int)))) (some 14) ?_
      refine JL.nil ?_
      refine JQ.then_normal ?_
      refine JQ.sub [(0, .slice A2 s1.length c3), (4, .slice A125 out124.length c126), (5, .int .i64 i128), (14, .bool (decide (i128 < (s1.length : Int))))] ?_
      rcases ite_cases H1 with ⟨h182, H1⟩ | ⟨h182, H1⟩
      · refine J.cond_true h182 ?_
        refine J.skip ?_
        refine JQ.then_normal ?_
        refine JQ.sub [(0, .slice A2 s1.length c3), (4, .slice A125 out124.length c126), (5, .int .i64 i128)] ?_
        refine J.join (T := List Int) (G := ((Option Addr) × Nat)) (fun t => ref13_Sign.k6 i128 t = some st1) (fun t g => [(0, .slice A2 s1.length c3), (4, .slice g.1 t.length g.2), (5, .int .i64 i128)]) (fun t g => [At.rd A2 c3 ((flInt .i64).kd) s1 true, At.row g.1 g.2 3 ((flInt .i64).kd) t false]) ?_ ?_
        · refine J.block ?_
          refine J.block ?_
          refine J.seq ?_
          refine J.region ?_
          refine JL.mv (.slice A2 s1.length c3) ?_
          refine JL.mv (.int .i64 i128) ?_
          obtain ⟨⟨h209, h210⟩, H1⟩ := ite_must H1
          refine JL.ixAddr 0 1 c3 .i64 (elems_rd A2 c3 ((flInt .i64).kd) s1 true) Try.underlying22 tySize_3 h209 h210 fun g211 o212 hA => ?_
          subst hA
          refine JL.val (.int .i64 (ix s1 i128)) (some 24) (gives_loadEl (f := (flInt .i64)) 0 0 i128 (elems_rd (some ⟨g211, o212, none⟩) c3 ((flInt .i64).kd) s1 true) h209 h210 tySize_3 (.inr ⟨tyAgg_3, rfl, rfl⟩)) ?_
          refine JL.pur (.bool (decide ((ix s1 i128) < 0))) (some 25) ?_
          refine JL.as (.bool (decide ((ix s1 i128) < 0))) ?_
          refine JL.nil ?_
          refine JQ.then_normal ?_
          refine JQ.sub [(0, .slice (some ⟨g211, o212, none⟩) s1.length c3), (4, .slice A125 out124.length c126), (5, .int .i64 i128), (20, .bool (decide ((ix s1 i128) < 0)))] ?_
          rcases ite_cases H1 with ⟨h213, H1⟩ | ⟨h213, H1⟩
          · refine J.cond_true h213 ?_
            refine J.region ?_
            refine JL.mv (.slice A125 out124.length c126) ?_
            refine JL.buildSl 3 ((flInt .i64).kd) (([(-1)] : List Int) : List Int) [.int .i64 (-1)] false (closes_fl rfl) fun b214 => ?_
            obtain ⟨h217, H1⟩ := ite_must H1
            refine JL.append false false 1 2 A125 c126 1 out124 (elems_row (some ⟨b214, 0, none⟩) 1 3 ((flInt .i64).kd) ([(-1)] : List Int) false) Try.underlying22 info_3 (by omega) (by omega) (fun h => h) (.inr ⟨_, rfl⟩) fun A215 c216 => ?_
            refine JL.as (.slice A215 (out124 ++ ([(-1)] : List Int)).length c216) ?_
            refine JL.nil ?_
            refine JQ.blk_normal ?_
            refine JQ.blk_normal ?_
            refine JQ.then_normal ?_
            exact JQ.meet (out124 ++ ([(-1)] : List Int)) (A215, c216) H1 (fun _ h => Heap.to (Heap.pick [0, 1] (by decide) h))
          · refine J.cond_false h213 ?_
            refine J.seq ?_
            refine J.region ?_
            refine JL.mv (.slice (some ⟨g211, o212, none⟩) s1.length c3) ?_
            refine JL.mv (.int .i64 i128) ?_
            refine JL.ixAddr' 0 1 c3 .i64 (elems_rd (some ⟨g211, o212, none⟩) c3 ((flInt .i64).kd) s1 true) Try.underlying22 tySize_3 h209 h210 ?_
            refine JL.val (.int .i64 (ix s1 i128)) (some 33) (gives_loadEl (f := (flInt .i64)) 0 0 i128 (elems_rd (some ⟨g211, o212, none⟩) c3 ((flInt .i64).kd) s1 true) h209 h210 tySize_3 (.inr ⟨tyAgg_3, rfl, rfl⟩)) ?_
            refine JL.pur (.bool (decide (0 < (ix s1 i128)))) (some 34) ?_
            refine JL.as (.bool (decide (0 < (ix s1 i128)))) ?_
            refine JL.nil ?_
            refine JQ.then_normal ?_
            refine JQ.sub [(0, .slice (some ⟨g211, o212, none⟩) s1.length c3), (4, .slice A125 out124.length c126), (5, .int .i64 i128), (29, .bool (decide (0 < (ix s1 i128))))] ?_
            rcases ite_cases H1 with ⟨h222, H1⟩ | ⟨h222, H1⟩
            · refine J.cond_true h222 ?_
              refine J.region ?_
              refine JL.mv (.slice A125 out124.length c126) ?_
              refine JL.buildSl 3 ((flInt .i64).kd) (([1] : List Int) : List Int) [.int .i64 1] false (closes_fl rfl) fun b223 => ?_
              obtain ⟨h226, H1⟩ := ite_must H1
              refine JL.append false false 1 2 A125 c126 1 out124 (elems_row (some ⟨b223, 0, none⟩) 1 3 ((flInt .i64).kd) ([1] : List Int) false) Try.underlying22 info_3 (by omega) (by omega) (fun h => h) (.inr ⟨_, rfl⟩) fun A224 c225 => ?_
              refine JL.as (.slice A224 (out124 ++ ([1] : List Int)).length c225) ?_
              refine JL.nil ?_
              refine JQ.blk_normal ?_
              refine JQ.blk_normal ?_
              refine JQ.then_normal ?_
              exact JQ.meet (out124 ++ ([1] : List Int)) (A224, c225) H1 (fun _ h => Heap.to (Heap.pick [0, 1] (by decide) h))
            · refine J.cond_false h222 ?_
              refine J.region ?_
              refine JL.mv (.slice A125 out124.length c126) ?_
              refine JL.buildSl 3 ((flInt .i64).kd) (([0] : List Int) : List Int) [.int .i64 0] false (closes_fl rfl) fun b227 => ?_
              obtain ⟨h230, H1⟩ := ite_must H1
              refine JL.append false false 1 2 A125 c126 1 out124 (elems_row (some ⟨b227, 0, none⟩) 1 3 ((flInt .i64).kd) ([0] : List Int) false) Try.underlying22 info_3 (by omega) (by omega) (fun h => h) (.inr ⟨_, rfl⟩) fun A228 c229 => ?_
              refine JL.as (.slice A228 (out124 ++ ([0] : List Int)).length c229) ?_
              refine JL.nil ?_
              refine JQ.blk_normal ?_
              refine JQ.blk_normal ?_
              refine JQ.then_normal ?_
              exact JQ.meet (out124 ++ ([0] : List Int)) (A228, c229) H1 (fun _ h => Heap.to (Heap.pick [0, 1] (by decide) h))
        · clear H1
          rintro out205 ⟨A206, c207⟩ H1
          replace H1 : ref13_Sign.k6 i128 out205 = some st1 := H1
          unfold ref13_Sign.k6 at H1
          refine JQ.sub [(0, .slice A2 s1.length c3), (4, .slice A206 out205.length c207), (5, .int .i64 i128)] ?_
          refine JQ.turn (Δ' := [At.rd A2 c3 ((flInt .i64).kd) s1 true, At.row A206 c207 3 ((flInt .i64).kd) out205 false]) (fun _ h => h.to) ?_
          refine J.region ?_
          refine JL.mv (.int .i64 i128) ?_
          refine JL.pur (.int .i64 (w64 (i128 + 1))) (some 16) ?_
          refine JL.as (.int .i64 (w64 (i128 + 1))) ?_
          refine JL.nil ?_
          refine JQ.then_normal ?_
          exact JQ.again (out205, w64 (i128 + 1)) (A206, c207) (Option.some.inj H1).symm (fun _ h => Heap.to h)
      · refine J.cond_false h182 ?_
        refine J.exit ?_
        refine JQ.then_exit ?_
        refine JQ.then_exit ?_
        refine JQ.blk_exit ?_
        rw [hb1 _ (Option.some.inj H1).symm, fin_brk] at H0
        exact JQ.met out124 (A125, c126) H0 (fun _ h => Heap.to (Heap.pick [1] (by decide) h))
    · clear hit H0
      rintro out178 ⟨A179, c180⟩ H0
      replace H0 : ref13_Sign.k5 out178 = some r := H0
      unfold ref13_Sign.k5 at H0
      refine JQ.sub [(4, .slice A179 out178.length c180)] ?_
      refine JQ.turn (Δ' := [At.row A179 c180 3 ((flInt .i64).kd) out178 false]) (fun _ h => h.to) ?_
      refine JQ.then_normal ?_
      refine J.seq ?_
      refine J.region ?_
      refine JL.mv (.slice A179 out178.length c180) ?_
      refine JL.as (.slice A179 out178.length c180) ?_
      refine JL.as (.int .i64 0) ?_
      refine JL.nil ?_
      refine JQ.then_normal ?_
      refine JQ.sub [(2, .slice A179 out178.length c180), (3, .int .i64 0)] ?_
      refine J.ret ?_
      obtain rfl := Option.some.inj H0
      exact JQ.done' (rs := [.tmp 2, .tmp 3]) (vs := [.slice A179 out178.length c180, .int .i64 0]) [At.row A179 c180 3 ((flInt .i64).kd) out178 false] (.inr rfl) ⟨by kernel_rfl, by kernel_rfl, trivial⟩ (fun _ h => Heap.to h) ⟨A179, c180, rfl, rfl⟩

theorem ref13_Same.ok (a1 : (List Int)) (A2 : Option Addr) (c3 : Nat) (b5 : (List Int)) (A6 : Option Addr) (c7 : Nat) (r : Bool) (H0 : ref13_Same.f a1 b5 = some r) :
    Does Try.prog 18 [.slice A2 a1.length c3, .slice A6 b5.length c7].toArray [At.rd A2 c3 ((flInt .i64).kd) a1 true, At.rd A6 c7 ((flInt .i64).kd) b5 true] [] false (fun v Δ => v = .bool r ∧ Δ = []) := by
  refine Does.body (vs := [.slice A2 a1.length c3, .slice A6 b5.length c7]) Try.func18 rfl ⟨.inl rfl, .inl rfl, trivial⟩ trivial fun w S => ?_
  unfold ref13_Same.f at H0
  refine J.seq ?_
  refine J.region ?_
  refine JL.as (.bool false) ?_
  refine JL.nil ?_
  refine JQ.then_normal ?_
  refine JQ.sub [(0, .slice A2 a1.length c3), (1, .slice A6 b5.length c7)] ?_
  refine J.seq ?_
  refine J.seq ?_
  refine J.region ?_
  refine JL.mv (.slice A2 a1.length c3) ?_
  refine JL.pur (.int .i64 (a1.length : Int)) (some 7) ?_
  refine JL.mv (.slice A6 b5.length c7) ?_
  refine JL.pur (.int .i64 (b5.length : Int)) (some 9) ?_
  refine JL.pur (.bool (!decide ((a1.length : Int) = (b5.length : Int)))) (some 10) ?_
  refine JL.nil ?_
  refine JQ.then_normal ?_
  refine JQ.sub [(0, .slice A2 a1.length c3), (1, .slice A6 b5.length c7), (10, .bool (!decide ((a1.length : Int) = (b5.length : Int))))] ?_
  rcases ite_cases H0 with ⟨h9, H0⟩ | ⟨h9, H0⟩
  · refine J.cond_true h9 ?_
    refine J.seq ?_
    refine J.region ?_
    refine JL.as (.bool false) ?_
    refine JL.nil ?_
    refine JQ.then_normal ?_
    refine JQ.sub [(4, .bool false)] ?_
    refine JQ.mask [] [false, false] ?_
    refine J.ret ?_
    refine JQ.then_ret ?_
    obtain rfl := Option.some.inj H0
    exact JQ.done' (rs := [.tmp 4]) (vs := [.bool false]) [] (.inr rfl) ⟨by kernel_rfl, trivial⟩ (fun _ h => Heap.to h) ⟨rfl, rfl⟩
  · refine J.cond_false h9 ?_
    refine J.skip ?_
    refine JQ.then_normal ?_
    refine JQ.sub [(0, .slice A2 a1.length c3), (1, .slice A6 b5.length c7)] ?_
    refine J.seq ?_
    refine J.seq ?_
    refine J.region ?_
    refine JL.as (.int .i64 0) ?_
    refine JL.nil ?_
    refine JQ.then_normal ?_
    obtain ⟨o1, hit, H0⟩ := bind_some H0
    refine J.loop (σ := Int) (τ := Unit) (G := Unit) (G' := Unit) _ o1 (fun s g => [(0, .slice A2 a1.length c3), (1, .slice A6 b5.length c7), (5, .int .i64 s)]) (fun s g => [At.rd A2 c3 ((flInt .i64).kd) a1 true, At.rd A6 c7 ((flInt .i64).kd) b5 true]) (fun t => ref13_Same.k2 = some r) (fun t g => []) (fun t g => []) 0 () hit (fun _ h => Heap.to h) ?_ ?_
    · clear hit
      rintro i32 ⟨⟩ st1 H1 hb1 hr1
      replace H1 : ref13_Same.s1 a1 b5 i32 = some st1 := H1
      unfold ref13_Same.s1 at H1
      refine JQ.sub [(0, .slice A2 a1.length c3), (1, .slice A6 b5.length c7), (5, .int .i64 i32)] ?_
      refine JQ.turn (Δ' := [At.rd A2 c3 ((flInt .i64).kd) a1 true, At.rd A6 c7 ((flInt .i64).kd) b5 true]) (fun _ h => h.to) ?_
      refine J.seq ?_
      refine J.seq ?_
      refine J.region ?_
      refine JL.mv (.int .i64 i32) ?_
      refine JL.mv (.slice A2 a1.length c3) ?_
      refine JL.pur (.int .i64 (a1.length : Int)) (some 13) ?_
      refine JL.pur (.bool (decide (i32 < (a1.length : Int)))) (some 14) ?_
      refine JL.nil ?_
      refine JQ.then_normal ?_
      refine JQ.sub [(0, .slice A2 a1.length c3), (1, .slice A6 b5.length c7), (5, .int .i64 i32), (14, .bool (decide (i32 < (a1.length : Int))))] ?_
      rcases ite_cases H1 with ⟨h43, H1⟩ | ⟨h43, H1⟩
      · refine J.cond_true h43 ?_
        refine J.skip ?_
        refine JQ.then_normal ?_
        refine JQ.sub [(0, .slice A2 a1.length c3), (1, .slice A6 b5.length c7), (5, .int .i64 i32)] ?_
        refine J.seq ?_
        refine J.block ?_
        refine J.seq ?_
        refine J.draw ?_
        refine QL.mv (.slice A2 a1.length c3) ?_
        refine QL.mv (.int .i64 i32) ?_
        obtain ⟨⟨h44, h45⟩, H1⟩ := ite_must H1
        refine QL.ixAddr 0 1 c3 .i64 (elems_rd A2 c3 ((flInt .i64).kd) a1 true) Try.underlying22 tySize_3 h44 h45 fun g46 o47 hA => ?_
        subst hA
        refine QL.val (.int .i64 (ix a1 i32)) (some 20) (gives_loadEl (f := (flInt .i64)) 0 0 i32 (elems_rd (some ⟨g46, o47, none⟩) c3 ((flInt .i64).kd) a1 true) h44 h45 tySize_3 (.inr ⟨tyAgg_3, rfl, rfl⟩)) ?_
        refine QL.mv (.slice A6 b5.length c7) ?_
        refine QL.mv (.int .i64 i32) ?_
        obtain ⟨⟨h48, h49⟩, H1⟩ := ite_must H1
        refine QL.ixAddr 1 1 c7 .i64 (elems_rd A6 c7 ((flInt .i64).kd) b5 true) Try.underlying22 tySize_3 h48 h49 fun g50 o51 hA => ?_
        subst hA
        refine QL.val (.int .i64 (ix b5 i32)) (some 24) (gives_loadEl (f := (flInt .i64)) 1 0 i32 (elems_rd (some ⟨g50, o51, none⟩) c7 ((flInt .i64).kd) b5 true) h48 h49 tySize_3 (.inr ⟨tyAgg_3, rfl, rfl⟩)) ?_
        refine QL.pur (.bool (!decide ((ix a1 i32) = (ix b5 i32)))) (some 25) ?_
        refine QL.nil ?_
        refine JQ.then_normal ?_
        refine JQ.sub [(0, .slice (some ⟨g46, o47, none⟩) a1.length c3), (1, .slice (some ⟨g50, o51, none⟩) b5.length c7), (5, .int .i64 i32), (25, .bool (!decide ((ix a1 i32) = (ix b5 i32))))] ?_
        rcases ite_cases H1 with ⟨h52, H1⟩ | ⟨h52, H1⟩
        · refine J.cond_true h52 ?_
          refine J.seq ?_
          refine J.region ?_
          refine JL.as (.bool false) ?_
          refine JL.nil ?_
          refine JQ.then_normal ?_
          refine JQ.sub [(4, .bool false)] ?_
          refine JQ.mask [] [false, false] ?_
          refine J.ret ?_
          refine JQ.blk_ret ?_
          refine JQ.then_ret ?_
          refine JQ.then_ret ?_
          refine JQ.blk_ret ?_
          refine JQ.met_ret ?_
          refine JQ.then_ret ?_
          rw [hr1 _ (Option.some.inj H1).symm, fin_ret] at H0
          obtain rfl := Option.some.inj H0
          exact JQ.done' (rs := [.tmp 4]) (vs := [.bool false]) [] (.inr rfl) ⟨by kernel_rfl, trivial⟩ (fun _ h => Heap.to h) ⟨rfl, rfl⟩
        · refine J.cond_false h52 ?_
          refine J.skip ?_
          refine JQ.blk_normal ?_
          refine JQ.then_normal ?_
          refine JQ.sub [(0, .slice (some ⟨g46, o47, none⟩) a1.length c3), (1, .slice (some ⟨g50, o51, none⟩) b5.length c7), (5, .int .i64 i32)] ?_
          refine J.region ?_
          refine JL.mv (.int .i64 i32) ?_
          refine JL.pur (.int .i64 (w64 (i32 + 1))) (some 16) ?_
          refine JL.as (.int .i64 (w64 (i32 + 1))) ?_
          refine JL.nil ?_
          refine JQ.then_normal ?_
          exact JQ.again (w64 (i32 + 1)) () (Option.some.inj H1).symm (fun _ h => Heap.to h)
      · refine J.cond_false h43 ?_
        refine J.exit ?_
        refine JQ.then_exit ?_
        refine JQ.then_exit ?_
        refine JQ.blk_exit ?_
        rw [hb1 _ (Option.some.inj H1).symm, fin_brk] at H0
        exact JQ.met () () H0 (fun _ h => Heap.to (Heap.pick [] (by decide) h))
    · clear hit H0
      rintro ⟨⟩ ⟨⟩ H0
      replace H0 : ref13_Same.k2 = some r := H0
      unfold ref13_Same.k2 at H0
      refine JQ.sub [] ?_
      refine JQ.turn (Δ' := []) (fun _ h => h.to) ?_
      refine JQ.then_normal ?_
      refine J.seq ?_
      refine J.region ?_
      refine JL.as (.bool true) ?_
      refine JL.nil ?_
      refine JQ.then_normal ?_
      refine J.ret ?_
      obtain rfl := Option.some.inj H0
      exact JQ.done' (rs := [.tmp 4]) (vs := [.bool true]) [] (.inr rfl) ⟨by kernel_rfl, trivial⟩ (fun _ h => Heap.to h) ⟨rfl, rfl⟩

theorem law13_SampleTells.ok (s1 : (List Int)) (A2 : Option Addr) (c3 : Nat) (r : Bool) (H0 : law13_SampleTells.f s1 = some r) :
    Does Try.prog 3 [.slice A2 s1.length c3].toArray [At.rd A2 c3 ((flInt .i64).kd) s1 true] [] false (fun v Δ => v = .bool r ∧ Δ = []) := by
  refine Does.body (vs := [.slice A2 s1.length c3]) Try.func3 rfl ⟨.inl rfl, trivial⟩ trivial fun w S => ?_
  unfold law13_SampleTells.f at H0
  refine J.seq ?_
  refine J.region ?_
  refine JL.as (.bool false) ?_
  refine JL.nil ?_
  refine JQ.then_normal ?_
  refine JQ.sub [(0, .slice A2 s1.length c3)] ?_
  refine J.seq ?_
  refine J.seq ?_
  refine J.region ?_
  refine JL.mv (.slice A2 s1.length c3) ?_
  obtain ⟨t5, hc6, H0⟩ := bind_some H0
  refine JL.call [] [] [] (ref13_Long.ok s1 A2 c3 _ hc6) ⟨pre_any 0 (view_rd A2 c3 ((flInt .i64).kd) s1 true true), trivial⟩ ?_
  rintro _ _ ⟨rfl, rfl⟩
  refine JL.nil ?_
  refine JQ.then_normal ?_
  refine JQ.sub [(0, .slice A2 s1.length c3), (17, .bool t5)] ?_
  rcases ite_cases H0 with ⟨h7, H0⟩ | ⟨h7, H0⟩
  · refine J.cond_true h7 ?_
    refine J.seq ?_
    refine J.region ?_
    refine JL.as (.bool true) ?_
    refine JL.nil ?_
    refine JQ.then_normal ?_
    refine JQ.sub [(2, .bool true)] ?_
    refine JQ.mask [] [false] ?_
    refine J.ret ?_
    refine JQ.then_ret ?_
    obtain rfl := Option.some.inj H0
    exact JQ.done' (rs := [.tmp 2]) (vs := [.bool true]) [] (.inr rfl) ⟨by kernel_rfl, trivial⟩ (fun _ h => Heap.to h) ⟨rfl, rfl⟩
  · refine J.cond_false h7 ?_
    refine J.skip ?_
    refine JQ.then_normal ?_
    refine JQ.sub [(0, .slice A2 s1.length c3)] ?_
    refine J.seq ?_
    refine J.region ?_
    refine JL.buildSl 3 ((flInt .i64).kd) (([] : List Int) : List Int) [] false (closes_fl rfl) fun b8 => ?_
    refine JL.mv (.slice A2 s1.length c3) ?_
    obtain ⟨h11, H0⟩ := ite_must H0
    refine JL.append false false 1 0 (some ⟨b8, 0, none⟩) 0 c3 ([] : List Int) (elems_rd A2 c3 ((flInt .i64).kd) s1 true) Try.underlying22 info_3 (by omega) (by omega) (fun h => h) (.inr ⟨_, rfl⟩) fun A9 c10 => ?_
    refine JL.as (.slice A9 (([] : List Int) ++ s1).length c10) ?_
    refine JL.nil ?_
    refine JQ.then_normal ?_
    refine JQ.sub [(0, .slice A2 s1.length c3), (3, .slice A9 (([] : List Int) ++ s1).length c10)] ?_
    refine J.seq ?_
    refine J.region ?_
    refine JL.mv (.slice A9 (([] : List Int) ++ s1).length c10) ?_
    obtain ⟨t12, hc13, H0⟩ := bind_some H0
    refine JL.call [] [] [] (sample_Bits.ok (([] : List Int) ++ s1) A9 c10 _ hc13) ⟨pre_view 1 (view_row A9 c10 3 ((flInt .i64).kd) (([] : List Int) ++ s1) false true), trivial⟩ ?_
    rintro _ _ ⟨rfl, rfl⟩
    refine JL.mv (.tuple #[.int .i64 t12.1, .int .i64 t12.2]) ?_
    refine JL.pur (.int .i64 t12.1) (some 24) ?_
    refine JL.pur (.int .i64 t12.2) (some 25) ?_
    refine JL.as (.int .i64 t12.1) ?_
    refine JL.as (.int .i64 t12.2) ?_
    refine JL.nil ?_
    refine JQ.then_normal ?_
    refine JQ.sub [(0, .slice A2 s1.length c3), (3, .slice A9 (([] : List Int) ++ s1).length c10), (4, .int .i64 t12.1), (5, .int .i64 t12.2)] ?_
    refine J.seq ?_
    refine J.region ?_
    refine JL.mv (.slice A2 s1.length c3) ?_
    obtain ⟨t14, hc15, H0⟩ := bind_some H0
    refine JL.call [] [] [] (ref13_Bits.ok s1 A2 c3 _ hc15) ⟨pre_any 0 (view_rd A2 c3 ((flInt .i64).kd) s1 true true), trivial⟩ ?_
    rintro _ _ ⟨rfl, rfl⟩
    refine JL.mv (.tuple #[.int .i64 t14.1, .int .i64 t14.2]) ?_
    refine JL.pur (.int .i64 t14.1) (some 29) ?_
    refine JL.pur (.int .i64 t14.2) (some 30) ?_
    refine JL.as (.int .i64 t14.1) ?_
    refine JL.as (.int .i64 t14.2) ?_
    refine JL.nil ?_
    refine JQ.then_normal ?_
    refine JQ.sub [(0, .slice A2 s1.length c3), (3, .slice A9 (([] : List Int) ++ s1).length c10), (4, .int .i64 t12.1), (5, .int .i64 t12.2), (6, .int .i64 t14.1), (7, .int .i64 t14.2)] ?_
    refine J.seq ?_
    refine J.region ?_
    refine JL.mv (.slice A9 (([] : List Int) ++ s1).length c10) ?_
    obtain ⟨t16, hc17, H0⟩ := bind_some H0
    refine JL.call [] [] [] (sample_Counts.ok (([] : List Int) ++ s1) A9 c10 _ hc17) ⟨pre_view 1 (view_row A9 c10 3 ((flInt .i64).kd) (([] : List Int) ++ s1) false true), trivial⟩ ?_
    rintro _ _ ⟨rfl, rfl⟩
    refine JL.mv (.tuple #[.agg #[.int .i64 t16.1.e0, .int .i64 t16.1.e1, .int .i64 t16.1.e2, .int .i64 t16.1.e3, .int .i64 t16.1.e4], .int .i64 t16.2]) ?_
    refine JL.pur (.agg #[.int .i64 t16.1.e0, .int .i64 t16.1.e1, .int .i64 t16.1.e2, .int .i64 t16.1.e3, .int .i64 t16.1.e4]) (some 34) ?_
    refine JL.pur (.int .i64 t16.2) (some 35) ?_
    refine JL.alloc [.int .i64 0, .int .i64 0, .int .i64 0, .int .i64 0, .int .i64 0] fun b18 => ?_
    refine JL.store 2 b18 0 29 [.int .i64 0, .int .i64 0, .int .i64 0, .int .i64 0, .int .i64 0] [.int .i64 t16.1.e0, .int .i64 t16.1.e1, .int .i64 t16.1.e2, .int .i64 t16.1.e3, .int .i64 t16.1.e4] tySize_29 ?_
    refine JL.as (.int .i64 t16.2) ?_
    refine JL.nil ?_
    refine JQ.then_normal ?_
    refine JQ.sub [(0, .slice A2 s1.length c3), (3, .slice A9 (([] : List Int) ++ s1).length c10), (4, .int .i64 t12.1), (5, .int .i64 t12.2), (6, .int .i64 t14.1), (7, .int .i64 t14.2), (8, .pointer (some ⟨b18, 0, none⟩)), (9, .int .i64 t16.2)] ?_
    refine J.seq ?_
    refine J.region ?_
    refine JL.mv (.slice A2 s1.length c3) ?_
    obtain ⟨t19, hc20, H0⟩ := bind_some H0
    refine JL.call [] [] [] (ref13_Counts.ok s1 A2 c3 _ hc20) ⟨pre_any 0 (view_rd A2 c3 ((flInt .i64).kd) s1 true true), trivial⟩ ?_
    rintro _ _ ⟨rfl, rfl⟩
    refine JL.mv (.tuple #[.agg #[.int .i64 t19.1.e0, .int .i64 t19.1.e1, .int .i64 t19.1.e2, .int .i64 t19.1.e3, .int .i64 t19.1.e4], .int .i64 t19.2]) ?_
    refine JL.pur (.agg #[.int .i64 t19.1.e0, .int .i64 t19.1.e1, .int .i64 t19.1.e2, .int .i64 t19.1.e3, .int .i64 t19.1.e4]) (some 39) ?_
    refine JL.pur (.int .i64 t19.2) (some 40) ?_
    refine JL.alloc [.int .i64 0, .int .i64 0, .int .i64 0, .int .i64 0, .int .i64 0] fun b21 => ?_
    refine JL.store 3 b21 0 29 [.int .i64 0, .int .i64 0, .int .i64 0, .int .i64 0, .int .i64 0] [.int .i64 t19.1.e0, .int .i64 t19.1.e1, .int .i64 t19.1.e2, .int .i64 t19.1.e3, .int .i64 t19.1.e4] tySize_29 ?_
    refine JL.as (.int .i64 t19.2) ?_
    refine JL.nil ?_
    refine JQ.then_normal ?_
    refine JQ.sub [(0, .slice A2 s1.length c3), (3, .slice A9 (([] : List Int) ++ s1).length c10), (4, .int .i64 t12.1), (5, .int .i64 t12.2), (6, .int .i64 t14.1), (7, .int .i64 t14.2), (8, .pointer (some ⟨b18, 0, none⟩)), (9, .int .i64 t16.2), (10, .pointer (some ⟨b21, 0, none⟩)), (11, .int .i64 t19.2)] ?_
    refine J.seq ?_
    refine J.region ?_
    refine JL.mv (.slice A9 (([] : List Int) ++ s1).length c10) ?_
    obtain ⟨t22, hc23, H0⟩ := bind_some H0
    refine JL.call [] [] [] (sample_Sign.ok (([] : List Int) ++ s1) A9 c10 _ hc23) ⟨pre_view 1 (view_row A9 c10 3 ((flInt .i64).kd) (([] : List Int) ++ s1) false true), trivial⟩ ?_
    rintro _ _ ⟨A24, c25, rfl, rfl⟩
    refine JL.mv (.tuple #[.slice A24 t22.1.length c25, .int .i64 t22.2]) ?_
    refine JL.pur (.slice A24 t22.1.length c25) (some 44) ?_
    refine JL.pur (.int .i64 t22.2) (some 45) ?_
    refine JL.as (.slice A24 t22.1.length c25) ?_
    refine JL.as (.int .i64 t22.2) ?_
    refine JL.nil ?_
    refine JQ.then_normal ?_
    refine JQ.sub [(0, .slice A2 s1.length c3), (3, .slice A9 (([] : List Int) ++ s1).length c10), (4, .int .i64 t12.1), (5, .int .i64 t12.2), (6, .int .i64 t14.1), (7, .int .i64 t14.2), (8, .pointer (some ⟨b18, 0, none⟩)), (9, .int .i64 t16.2), (10, .pointer (some ⟨b21, 0, none⟩)), (11, .int .i64 t19.2), (12, .slice A24 t22.1.length c25), (13, .int .i64 t22.2)] ?_
    refine J.seq ?_
    refine J.region ?_
    refine JL.mv (.slice A2 s1.length c3) ?_
    obtain ⟨t27, hc28, H0⟩ := bind_some H0
    refine JL.call [] [] [] (ref13_Sign.ok s1 A2 c3 _ hc28) ⟨pre_any 0 (view_rd A2 c3 ((flInt .i64).kd) s1 true true), trivial⟩ ?_
    rintro _ _ ⟨A29, c30, rfl, rfl⟩
    refine JL.mv (.tuple #[.slice A29 t27.1.length c30, .int .i64 t27.2]) ?_
    refine JL.pur (.slice A29 t27.1.length c30) (some 49) ?_
    refine JL.pur (.int .i64 t27.2) (some 50) ?_
    refine JL.as (.slice A29 t27.1.length c30) ?_
    refine JL.as (.int .i64 t27.2) ?_
    refine JL.nil ?_
    refine JQ.then_normal ?_
    refine JQ.sub [(0, .slice A2 s1.length c3), (3, .slice A9 (([] : List Int) ++ s1).length c10), (4, .int .i64 t12.1), (5, .int .i64 t12.2), (6, .int .i64 t14.1), (7, .int .i64 t14.2), (8, .pointer (some ⟨b18, 0, none⟩)), (9, .int .i64 t16.2), (10, .pointer (some ⟨b21, 0, none⟩)), (11, .int .i64 t19.2), (12, .slice A24 t22.1.length c25), (13, .int .i64 t22.2), (14, .slice A29 t27.1.length c30), (15, .int .i64 t27.2)] ?_
    refine J.seq ?_
    refine J.region ?_
    refine JL.mv (.slice A9 (([] : List Int) ++ s1).length c10) ?_
    obtain ⟨t32, hc33, H0⟩ := bind_some H0
    refine JL.call [] [] [] (sample_Check.ok (([] : List Int) ++ s1) A9 c10 _ hc33) ⟨pre_view 1 (view_row A9 c10 3 ((flInt .i64).kd) (([] : List Int) ++ s1) false true), trivial⟩ ?_
    rintro _ _ ⟨rfl, rfl⟩
    refine JL.mv (.slice A2 s1.length c3) ?_
    obtain ⟨t34, hc35, H0⟩ := bind_some H0
    refine JL.call [] [] [] (ref13_Check.ok s1 A2 c3 _ hc35) ⟨pre_any 0 (view_rd A2 c3 ((flInt .i64).kd) s1 true true), trivial⟩ ?_
    rintro _ _ ⟨rfl, rfl⟩
    refine JL.pur (.bool (decide (t32 = t34))) (some 55) ?_
    refine JL.mv (.bool (decide (t32 = t34))) ?_
    rcases ite_cases H0 with ⟨h36, H0⟩ | ⟨h36, H0⟩
    · refine JL.on 5 56 h36 ?_
      refine JL.mv (.int .i64 t12.1) ?_
      refine JL.on 5 56 h36 ?_
      refine JL.mv (.int .i64 t14.1) ?_
      refine JL.on 5 56 h36 ?_
      refine JL.pur (.bool (decide (t12.1 = t14.1))) (some 59) ?_
      refine JL.val (.bool (decide (t12.1 = t14.1))) (some 60) (gives_pickT h36) ?_
      refine JL.mv (.bool (decide (t12.1 = t14.1))) ?_
      rcases ite_cases H0 with ⟨h37, H0⟩ | ⟨h37, H0⟩
      · refine JL.on 10 61 h37 ?_
        refine JL.mv (.int .i64 t12.2) ?_
        refine JL.on 10 61 h37 ?_
        refine JL.mv (.int .i64 t14.2) ?_
        refine JL.on 10 61 h37 ?_
        refine JL.pur (.bool (decide (t12.2 = t14.2))) (some 64) ?_
        refine JL.val (.bool (decide (t12.2 = t14.2))) (some 65) (gives_pickT h37) ?_
        refine JL.mv (.bool (decide (t12.2 = t14.2))) ?_
        rcases ite_cases H0 with ⟨h38, H0⟩ | ⟨h38, H0⟩
        · refine JL.on 15 66 h38 ?_
          refine JL.val (.agg #[.int .i64 t16.1.e0, .int .i64 t16.1.e1, .int .i64 t16.1.e2, .int .i64 t16.1.e3, .int .i64 t16.1.e4]) (some 67) (yields_load_boxes 2 0 [.int .i64 t16.1.e0, .int .i64 t16.1.e1, .int .i64 t16.1.e2, .int .i64 t16.1.e3, .int .i64 t16.1.e4] (holds_box b18 29 [.int .i64 t16.1.e0, .int .i64 t16.1.e1, .int .i64 t16.1.e2, .int .i64 t16.1.e3, .int .i64 t16.1.e4]) tyAgg_29 tySize_29) ?_
          refine JL.on 15 66 h38 ?_
          refine JL.val (.agg #[.int .i64 t19.1.e0, .int .i64 t19.1.e1, .int .i64 t19.1.e2, .int .i64 t19.1.e3, .int .i64 t19.1.e4]) (some 68) (yields_load_boxes 3 0 [.int .i64 t19.1.e0, .int .i64 t19.1.e1, .int .i64 t19.1.e2, .int .i64 t19.1.e3, .int .i64 t19.1.e4] (holds_box b21 29 [.int .i64 t19.1.e0, .int .i64 t19.1.e1, .int .i64 t19.1.e2, .int .i64 t19.1.e3, .int .i64 t19.1.e4]) tyAgg_29 tySize_29) ?_
          refine JL.on 15 66 h38 ?_
          refine JL.val (.bool (decide (t16.1 = t19.1))) (some 69) (gives_eql eqg_29 (fun w => eqt_29 t16.1 t19.1 w)) ?_
          refine JL.val (.bool (decide (t16.1 = t19.1))) (some 70) (gives_pickT h38) ?_
          refine JL.mv (.bool (decide (t16.1 = t19.1))) ?_
          rcases ite_cases H0 with ⟨h39, H0⟩ | ⟨h39, H0⟩
          · refine JL.on 20 71 h39 ?_
            refine JL.mv (.int .i64 t16.2) ?_
            refine JL.on 20 71 h39 ?_
            refine JL.mv (.int .i64 t19.2) ?_
            refine JL.on 20 71 h39 ?_
            refine JL.pur (.bool (decide (t16.2 = t19.2))) (some 74) ?_
            refine JL.val (.bool (decide (t16.2 = t19.2))) (some 75) (gives_pickT h39) ?_
            refine JL.mv (.bool (decide (t16.2 = t19.2))) ?_
            rcases ite_cases H0 with ⟨h40, H0⟩ | ⟨h40, H0⟩
            · refine JL.on 25 76 h40 ?_
              refine JL.mv (.slice A24 t22.1.length c25) ?_
              refine JL.on 25 76 h40 ?_
              refine JL.mv (.slice A29 t27.1.length c30) ?_
              refine JL.on 25 76 h40 ?_
              obtain ⟨t41, hc42, H0⟩ := bind_some H0
              refine JL.call [] [] [] (ref13_Same.ok t22.1 A24 c25 t27.1 A29 c30 _ hc42) ⟨pre_view 4 (view_row A24 c25 3 ((flInt .i64).kd) t22.1 false true), ⟨pre_view 5 (view_row A29 c30 3 ((flInt .i64).kd) t27.1 false true), trivial⟩⟩ ?_
              rintro _ _ ⟨rfl, rfl⟩
              refine JL.val (.bool t41) (some 80) (gives_pickT h40) ?_
              refine JL.mv (.bool t41) ?_
              rcases ite_cases H0 with ⟨h43, H0⟩ | ⟨h43, H0⟩
              · refine JL.on 30 81 h43 ?_
                refine JL.mv (.int .i64 t22.2) ?_
                refine JL.on 30 81 h43 ?_
                refine JL.mv (.int .i64 t27.2) ?_
                refine JL.on 30 81 h43 ?_
                refine JL.pur (.bool (decide (t22.2 = t27.2))) (some 84) ?_
                refine JL.val (.bool (decide (t22.2 = t27.2))) (some 85) (gives_pickT h43) ?_
                refine JL.mv (.bool (decide (t22.2 = t27.2))) ?_
                rcases ite_cases H0 with ⟨h44, H0⟩ | ⟨h44, H0⟩
                · refine JL.on 35 86 h44 ?_
                  refine JL.mv (.slice A9 (([] : List Int) ++ s1).length c10) ?_
                  refine JL.on 35 86 h44 ?_
                  refine JL.mv (.slice A2 s1.length c3) ?_
                  refine JL.on 35 86 h44 ?_
                  obtain ⟨t45, hc46, H0⟩ := bind_some H0
                  refine JL.call [] [] [] (ref13_Same.ok (([] : List Int) ++ s1) A9 c10 s1 A2 c3 _ hc46) ⟨pre_view 1 (view_row A9 c10 3 ((flInt .i64).kd) (([] : List Int) ++ s1) false true), ⟨pre_any 0 (view_rd A2 c3 ((flInt .i64).kd) s1 true true), trivial⟩⟩ ?_
                  rintro _ _ ⟨rfl, rfl⟩
                  refine JL.val (.bool t45) (some 90) (gives_pickT h44) ?_
                  refine JL.as (.bool t45) ?_
                  refine JL.nil ?_
                  refine JQ.then_normal ?_
                  refine JQ.sub [(2, .bool t45)] ?_
                  refine JQ.mask [] [false, false, false, false, false, false] ?_
                  refine J.ret ?_
                  obtain rfl := Option.some.inj H0
                  exact JQ.done' (rs := [.tmp 2]) (vs := [.bool t45]) [] (.inr rfl) ⟨by kernel_rfl, trivial⟩ (fun _ h => Heap.to h) ⟨rfl, rfl⟩
                · refine JL.off 35 86 true (some 87) h44 ?_
                  refine JL.off 35 86 true (some 88) h44 ?_
                  refine JL.off 35 86 true (some 89) h44 ?_
                  refine JL.val (.bool false) (some 90) (gives_pickF h44) ?_
                  refine JL.as (.bool false) ?_
                  refine JL.nil ?_
                  refine JQ.then_normal ?_
                  refine JQ.sub [(2, .bool false)] ?_
                  refine JQ.mask [] [false, false, false, false, false, false] ?_
                  refine J.ret ?_
                  obtain rfl := Option.some.inj H0
                  exact JQ.done' (rs := [.tmp 2]) (vs := [.bool false]) [] (.inr rfl) ⟨by kernel_rfl, trivial⟩ (fun _ h => Heap.to h) ⟨rfl, rfl⟩
              · refine JL.off 30 81 true (some 82) h43 ?_
                refine JL.off 30 81 true (some 83) h43 ?_
                refine JL.off 30 81 true (some 84) h43 ?_
                refine JL.val (.bool false) (some 85) (gives_pickF h43) ?_
                refine JL.mv (.bool false) ?_
                refine JL.off 35 86 true (some 87) rfl ?_
                refine JL.off 35 86 true (some 88) rfl ?_
                refine JL.off 35 86 true (some 89) rfl ?_
                refine JL.val (.bool false) (some 90) (gives_pickF rfl) ?_
                refine JL.as (.bool false) ?_
                refine JL.nil ?_
                refine JQ.then_normal ?_
                refine JQ.sub [(2, .bool false)] ?_
                refine JQ.mask [] [false, false, false, false, false, false] ?_
                refine J.ret ?_
                obtain rfl := Option.some.inj H0
                exact JQ.done' (rs := [.tmp 2]) (vs := [.bool false]) [] (.inr rfl) ⟨by kernel_rfl, trivial⟩ (fun _ h => Heap.to h) ⟨rfl, rfl⟩
            · refine JL.off 25 76 true (some 77) h40 ?_
              refine JL.off 25 76 true (some 78) h40 ?_
              refine JL.off 25 76 true (some 79) h40 ?_
              refine JL.val (.bool false) (some 80) (gives_pickF h40) ?_
              refine JL.mv (.bool false) ?_
              refine JL.off 30 81 true (some 82) rfl ?_
              refine JL.off 30 81 true (some 83) rfl ?_
              refine JL.off 30 81 true (some 84) rfl ?_
              refine JL.val (.bool false) (some 85) (gives_pickF rfl) ?_
              refine JL.mv (.bool false) ?_
              refine JL.off 35 86 true (some 87) rfl ?_
              refine JL.off 35 86 true (some 88) rfl ?_
              refine JL.off 35 86 true (some 89) rfl ?_
              refine JL.val (.bool false) (some 90) (gives_pickF rfl) ?_
              refine JL.as (.bool false) ?_
              refine JL.nil ?_
              refine JQ.then_normal ?_
              refine JQ.sub [(2, .bool false)] ?_
              refine JQ.mask [] [false, false, false, false, false, false] ?_
              refine J.ret ?_
              obtain rfl := Option.some.inj H0
              exact JQ.done' (rs := [.tmp 2]) (vs := [.bool false]) [] (.inr rfl) ⟨by kernel_rfl, trivial⟩ (fun _ h => Heap.to h) ⟨rfl, rfl⟩
          · refine JL.off 20 71 true (some 72) h39 ?_
            refine JL.off 20 71 true (some 73) h39 ?_
            refine JL.off 20 71 true (some 74) h39 ?_
            refine JL.val (.bool false) (some 75) (gives_pickF h39) ?_
            refine JL.mv (.bool false) ?_
            refine JL.off 25 76 true (some 77) rfl ?_
            refine JL.off 25 76 true (some 78) rfl ?_
            refine JL.off 25 76 true (some 79) rfl ?_
            refine JL.val (.bool false) (some 80) (gives_pickF rfl) ?_
            refine JL.mv (.bool false) ?_
            refine JL.off 30 81 true (some 82) rfl ?_
            refine JL.off 30 81 true (some 83) rfl ?_
            refine JL.off 30 81 true (some 84) rfl ?_
            refine JL.val (.bool false) (some 85) (gives_pickF rfl) ?_
            refine JL.mv (.bool false) ?_
            refine JL.off 35 86 true (some 87) rfl ?_
            refine JL.off 35 86 true (some 88) rfl ?_
            refine JL.off 35 86 true (some 89) rfl ?_
            refine JL.val (.bool false) (some 90) (gives_pickF rfl) ?_
            refine JL.as (.bool false) ?_
            refine JL.nil ?_
            refine JQ.then_normal ?_
            refine JQ.sub [(2, .bool false)] ?_
            refine JQ.mask [] [false, false, false, false, false, false] ?_
            refine J.ret ?_
            obtain rfl := Option.some.inj H0
            exact JQ.done' (rs := [.tmp 2]) (vs := [.bool false]) [] (.inr rfl) ⟨by kernel_rfl, trivial⟩ (fun _ h => Heap.to h) ⟨rfl, rfl⟩
        · refine JL.off 15 66 true (some 67) h38 ?_
          refine JL.off 15 66 true (some 68) h38 ?_
          refine JL.off 15 66 true (some 69) h38 ?_
          refine JL.val (.bool false) (some 70) (gives_pickF h38) ?_
          refine JL.mv (.bool false) ?_
          refine JL.off 20 71 true (some 72) rfl ?_
          refine JL.off 20 71 true (some 73) rfl ?_
          refine JL.off 20 71 true (some 74) rfl ?_
          refine JL.val (.bool false) (some 75) (gives_pickF rfl) ?_
          refine JL.mv (.bool false) ?_
          refine JL.off 25 76 true (some 77) rfl ?_
          refine JL.off 25 76 true (some 78) rfl ?_
          refine JL.off 25 76 true (some 79) rfl ?_
          refine JL.val (.bool false) (some 80) (gives_pickF rfl) ?_
          refine JL.mv (.bool false) ?_
          refine JL.off 30 81 true (some 82) rfl ?_
          refine JL.off 30 81 true (some 83) rfl ?_
          refine JL.off 30 81 true (some 84) rfl ?_
          refine JL.val (.bool false) (some 85) (gives_pickF rfl) ?_
          refine JL.mv (.bool false) ?_
          refine JL.off 35 86 true (some 87) rfl ?_
          refine JL.off 35 86 true (some 88) rfl ?_
          refine JL.off 35 86 true (some 89) rfl ?_
          refine JL.val (.bool false) (some 90) (gives_pickF rfl) ?_
          refine JL.as (.bool false) ?_
          refine JL.nil ?_
          refine JQ.then_normal ?_
          refine JQ.sub [(2, .bool false)] ?_
          refine JQ.mask [] [false, false, false, false, false, false] ?_
          refine J.ret ?_
          obtain rfl := Option.some.inj H0
          exact JQ.done' (rs := [.tmp 2]) (vs := [.bool false]) [] (.inr rfl) ⟨by kernel_rfl, trivial⟩ (fun _ h => Heap.to h) ⟨rfl, rfl⟩
      · refine JL.off 10 61 true (some 62) h37 ?_
        refine JL.off 10 61 true (some 63) h37 ?_
        refine JL.off 10 61 true (some 64) h37 ?_
        refine JL.val (.bool false) (some 65) (gives_pickF h37) ?_
        refine JL.mv (.bool false) ?_
        refine JL.off 15 66 true (some 67) rfl ?_
        refine JL.off 15 66 true (some 68) rfl ?_
        refine JL.off 15 66 true (some 69) rfl ?_
        refine JL.val (.bool false) (some 70) (gives_pickF rfl) ?_
        refine JL.mv (.bool false) ?_
        refine JL.off 20 71 true (some 72) rfl ?_
        refine JL.off 20 71 true (some 73) rfl ?_
        refine JL.off 20 71 true (some 74) rfl ?_
        refine JL.val (.bool false) (some 75) (gives_pickF rfl) ?_
        refine JL.mv (.bool false) ?_
        refine JL.off 25 76 true (some 77) rfl ?_
        refine JL.off 25 76 true (some 78) rfl ?_
        refine JL.off 25 76 true (some 79) rfl ?_
        refine JL.val (.bool false) (some 80) (gives_pickF rfl) ?_
        refine JL.mv (.bool false) ?_
        refine JL.off 30 81 true (some 82) rfl ?_
        refine JL.off 30 81 true (some 83) rfl ?_
        refine JL.off 30 81 true (some 84) rfl ?_
        refine JL.val (.bool false) (some 85) (gives_pickF rfl) ?_
        refine JL.mv (.bool false) ?_
        refine JL.off 35 86 true (some 87) rfl ?_
        refine JL.off 35 86 true (some 88) rfl ?_
        refine JL.off 35 86 true (some 89) rfl ?_
        refine JL.val (.bool false) (some 90) (gives_pickF rfl) ?_
        refine JL.as (.bool false) ?_
        refine JL.nil ?_
        refine JQ.then_normal ?_
        refine JQ.sub [(2, .bool false)] ?_
        refine JQ.mask [] [false, false, false, false, false, false] ?_
        refine J.ret ?_
        obtain rfl := Option.some.inj H0
        exact JQ.done' (rs := [.tmp 2]) (vs := [.bool false]) [] (.inr rfl) ⟨by kernel_rfl, trivial⟩ (fun _ h => Heap.to h) ⟨rfl, rfl⟩
    · refine JL.off 5 56 true (some 57) h36 ?_
      refine JL.off 5 56 true (some 58) h36 ?_
      refine JL.off 5 56 true (some 59) h36 ?_
      refine JL.val (.bool false) (some 60) (gives_pickF h36) ?_
      refine JL.mv (.bool false) ?_
      refine JL.off 10 61 true (some 62) rfl ?_
      refine JL.off 10 61 true (some 63) rfl ?_
      refine JL.off 10 61 true (some 64) rfl ?_
      refine JL.val (.bool false) (some 65) (gives_pickF rfl) ?_
      refine JL.mv (.bool false) ?_
      refine JL.off 15 66 true (some 67) rfl ?_
      refine JL.off 15 66 true (some 68) rfl ?_
      refine JL.off 15 66 true (some 69) rfl ?_
      refine JL.val (.bool false) (some 70) (gives_pickF rfl) ?_
      refine JL.mv (.bool false) ?_
      refine JL.off 20 71 true (some 72) rfl ?_
      refine JL.off 20 71 true (some 73) rfl ?_
      refine JL.off 20 71 true (some 74) rfl ?_
      refine JL.val (.bool false) (some 75) (gives_pickF rfl) ?_
      refine JL.mv (.bool false) ?_
      refine JL.off 25 76 true (some 77) rfl ?_
      refine JL.off 25 76 true (some 78) rfl ?_
      refine JL.off 25 76 true (some 79) rfl ?_
      refine JL.val (.bool false) (some 80) (gives_pickF rfl) ?_
      refine JL.mv (.bool false) ?_
      refine JL.off 30 81 true (some 82) rfl ?_
      refine JL.off 30 81 true (some 83) rfl ?_
      refine JL.off 30 81 true (some 84) rfl ?_
      refine JL.val (.bool false) (some 85) (gives_pickF rfl) ?_
      refine JL.mv (.bool false) ?_
      refine JL.off 35 86 true (some 87) rfl ?_
      refine JL.off 35 86 true (some 88) rfl ?_
      refine JL.off 35 86 true (some 89) rfl ?_
      refine JL.val (.bool false) (some 90) (gives_pickF rfl) ?_
      refine JL.as (.bool false) ?_
      refine JL.nil ?_
      refine JQ.then_normal ?_
      refine JQ.sub [(2, .bool false)] ?_
      refine JQ.mask [] [false, false, false, false, false, false] ?_
      refine J.ret ?_
      obtain rfl := Option.some.inj H0
      exact JQ.done' (rs := [.tmp 2]) (vs := [.bool false]) [] (.inr rfl) ⟨by kernel_rfl, trivial⟩ (fun _ h => Heap.to h) ⟨rfl, rfl⟩


end Go.Proofs.Ytlemaejpllhjnaa.M
