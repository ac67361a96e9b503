import Derived.Test.YtlemaejpllhjnaaGw20
import Derived.Test.YtlemaejpllhjnaaProg
import Derived.Test.YtlemaejpllhjnaaM0
set_option linter.unusedVariables false
set_option linter.unusedSimpArgs false
set_option maxRecDepth 100000
set_option maxHeartbeats 8000000
namespace Go.Proofs.Ytlemaejpllhjnaa.M
open Go.GW Go.Proofs

def zv_29 : (A5 Int) := (⟨0, 0, 0, 0, 0⟩ : (A5 Int))
def mv_29 (x : (A5 Int)) : Value := .agg #[.int .i64 x.e0, .int .i64 x.e1, .int .i64 x.e2, .int .i64 x.e3, .int .i64 x.e4]
def cl_29 (x : (A5 Int)) : List Value := [.int .i64 x.e0, .int .i64 x.e1, .int .i64 x.e2, .int .i64 x.e3, .int .i64 x.e4]
theorem info_3 : (Try.prog.info? 3).map (fun i => (i.zero, i.size, i.bytes)) = some (some (.int .i64 0), 1, 8) := by kernel_rfl
theorem info_5 : (Try.prog.info? 5).map (fun i => (i.zero, i.size, i.bytes)) = some (some (.int .u8 0), 1, 1) := by kernel_rfl
theorem tyAgg_3 : tyAgg Try.prog 3 = some false := by kernel_rfl
theorem tyAgg_5 : tyAgg Try.prog 5 = some false := by kernel_rfl
theorem tyAgg_22 : tyAgg Try.prog 22 = some false := by kernel_rfl
theorem tyAgg_41 : tyAgg Try.prog 41 = some false := by kernel_rfl
theorem tySize_3 : tySize Try.prog 3 = some 1 := by kernel_rfl
theorem tySize_5 : tySize Try.prog 5 = some 1 := by kernel_rfl
theorem tySize_29 : tySize Try.prog 29 = some 5 := by kernel_rfl
theorem tySize_41 : tySize Try.prog 41 = some 1 := by kernel_rfl
theorem ref13_Long.ok (l1 : (List Int)) (Aa2 : Option Addr) (c3 : Nat) (r : Bool) (H0 : ref13_Long.f l1 = some r) :
    Does Try.prog 9 [.slice Aa2 l1.length c3].toArray [At.rd Aa2 c3 ((flInt .i64).kd) l1 true] [] false (fun v Δ => v = .bool r ∧ Δ = []) := by
 refine Does.body (vs := [.slice Aa2 l1.length c3]) Try.func9 rfl ⟨.inl rfl, trivial⟩ trivial fun w S => ?_
 unfold ref13_Long.f at H0
 refine J.seq ?_
 refine J.region ?_
 refine JL.as (.bool false) ?_
 refine JL.end_ ?_
 refine JQ.then_normal ?_
 refine JQ.sub [(0, .slice Aa2 l1.length c3)] ?_
 refine J.seq ?_
 refine J.region ?_
 refine JL.mv (.slice Aa2 l1.length c3) ?_
 refine JL.pur (.int .i64 (l1.length : Int)) (some 4) ?_
 refine JL.pur (.bool (decide (300 < (l1.length : Int)))) (some 5) ?_
 refine JL.as (.bool (decide (300 < (l1.length : Int)))) ?_
 refine JL.end_ ?_
 refine JQ.then_normal ?_
 refine JQ.sub [(2, .bool (decide (300 < (l1.length : Int))))] ?_
 refine JQ.mask [] [false] ?_
 refine J.ret ?_
 obtain rfl := Option.some.inj H0
 exact JQ.done' (rs := [.tmp 2]) (vs := [.bool (decide (300 < (l1.length : Int)))]) [] (.inr rfl) ⟨by kernel_rfl, trivial⟩ (fun _ h => Heap.to h) ⟨rfl, rfl⟩

theorem slices_Index__int_int.ok (s1 : (List Int)) (Aa2 : Option Addr) (c3 : Nat) (v5 : Int) (r : Int) (H0 : slices_Index__int_int.f s1 v5 = some r) :
    Does Try.prog 50 [.slice Aa2 s1.length c3, .int .i64 v5].toArray [At.rd Aa2 c3 ((flInt .i64).kd) s1 true] [] false (fun v Δ => v = .int .i64 r ∧ Δ = []) := by
 refine Does.body (vs := [.slice Aa2 s1.length c3, .int .i64 v5]) Try.func50 rfl ⟨.inl rfl, trivial⟩ trivial fun w S => ?_
 unfold slices_Index__int_int.f at H0
 refine J.seq ?_
 refine J.region ?_
 refine JL.as (.int .i64 0) ?_
 refine JL.end_ ?_
 refine JQ.then_normal ?_
 refine JQ.sub [(0, .slice Aa2 s1.length c3), (1, .int .i64 v5)] ?_
 refine J.seq ?_
 refine J.seq ?_
 refine J.region ?_
 refine JL.mv (.slice Aa2 s1.length c3) ?_
 refine JL.pur (.int .i64 (s1.length : Int)) (some 7) ?_
 refine JL.mv (.int .i64 0) ?_
 refine JL.end_ ?_
 refine JQ.then_normal ?_
 refine JQ.sub [(0, .slice Aa2 s1.length c3), (1, .int .i64 v5), (7, .int .i64 (s1.length : Int)), (8, .int .i64 0)] ?_
 obtain ⟨o1, hit, H0⟩ := bind_some H0
 refine J.loop (σ := Int) (τ := Unit) (G := Unit) (G' := Unit) _ o1 (fun s g => [(0, .slice Aa2 s1.length c3), (1, .int .i64 v5), (7, .int .i64 (s1.length : Int)), (8, .int .i64 s)]) (fun s g => [At.rd Aa2 c3 ((flInt .i64).kd) s1 true]) (fun t => slices_Index__int_int.k2 = some r) (fun t g => []) (fun t g => []) 0 () hit (fun _ h => Heap.to h) ?_ ?_
 · clear hit
   rintro x20 ⟨⟩ st1 H1 hb1 hr1
   replace H1 : slices_Index__int_int.s1 s1 v5 x20 = some st1 := H1
   unfold slices_Index__int_int.s1 at H1
   refine JQ.sub [(0, .slice Aa2 s1.length c3), (1, .int .i64 v5), (7, .int .i64 (s1.length : Int)), (8, .int .i64 x20)] ?_
   refine JQ.turn (Δ' := [At.rd Aa2 c3 ((flInt .i64).kd) s1 true]) (fun _ h => h.to) ?_
   refine J.seq ?_
   refine J.region ?_
   refine JL.pur (.bool (decide (x20 < (s1.length : Int)))) (some 9) ?_
   refine JL.end_ ?_
   refine JQ.then_normal ?_
   refine J.seq ?_
   rcases ite_cases H1 with ⟨h27, H1⟩ | ⟨h27, H1⟩
   · refine J.cond_true h27 ?_
     refine J.skip ?_
     refine JQ.then_normal ?_
     refine JQ.sub [(0, .slice Aa2 s1.length c3), (1, .int .i64 v5), (7, .int .i64 (s1.length : Int)), (8, .int .i64 x20)] ?_
     refine J.seq ?_
     refine J.block ?_
     refine J.seq ?_
     refine J.region ?_
     refine JL.mv (.int .i64 x20) ?_
     refine JL.as (.int .i64 x20) ?_
     refine JL.end_ ?_
     refine JQ.then_normal ?_
     refine JQ.sub [(0, .slice Aa2 s1.length c3), (1, .int .i64 v5), (5, .int .i64 x20), (7, .int .i64 (s1.length : Int)), (8, .int .i64 x20)] ?_
     refine J.seq ?_
     refine J.region ?_
     refine JL.mv (.int .i64 v5) ?_
     refine JL.mv (.slice Aa2 s1.length c3) ?_
     refine JL.mv (.int .i64 x20) ?_
     obtain ⟨⟨h28, h29⟩, H1⟩ := ite_must H1
     refine JL.ixAddr 0 1 c3 .i64 (elems_rd Aa2 c3 ((flInt .i64).kd) s1 true) Try.underlying22 tySize_3 h28 h29 fun g30 o31 hA => ?_
     subst hA
     refine JL.val (.int .i64 (ix s1 x20)) (some 15) (gives_loadEl (f := (flInt .i64)) 0 0 x20 (elems_rd (some ⟨g30, o31, none⟩) c3 ((flInt .i64).kd) s1 true) h28 h29 tySize_3 (.inr ⟨tyAgg_3, rfl, rfl⟩)) ?_
     refine JL.pur (.bool (decide (v5 = (ix s1 x20)))) (some 16) ?_
     refine JL.end_ ?_
     refine JQ.then_normal ?_
     refine JQ.sub [(0, .slice (some ⟨g30, o31, none⟩) s1.length c3), (1, .int .i64 v5), (5, .int .i64 x20), (7, .int .i64 (s1.length : Int)), (8, .int .i64 x20), (16, .bool (decide (v5 = (ix s1 x20))))] ?_
     rcases ite_cases H1 with ⟨h32, H1⟩ | ⟨h32, H1⟩
     · refine J.cond_true h32 ?_
       refine J.seq ?_
       refine J.region ?_
       refine JL.mv (.int .i64 x20) ?_
       refine JL.as (.int .i64 x20) ?_
       refine JL.end_ ?_
       refine JQ.then_normal ?_
       refine JQ.sub [(4, .int .i64 x20)] ?_
       refine JQ.mask [] [false] ?_
       refine J.ret ?_
       refine JQ.blk_ret ?_
       refine JQ.then_ret ?_
       refine JQ.then_ret ?_
       refine JQ.blk_ret ?_
       refine JQ.met_ret ?_
       refine JQ.then_ret ?_
       rw [hr1 _ (Option.some.inj H1).symm, fin_ret] at H0
       obtain rfl := Option.some.inj H0
       exact JQ.done' (rs := [.tmp 4]) (vs := [.int .i64 x20]) [] (.inr rfl) ⟨by kernel_rfl, trivial⟩ (fun _ h => Heap.to h) ⟨rfl, rfl⟩
     · refine J.cond_false h32 ?_
       refine J.skip ?_
       refine JQ.blk_normal ?_
       refine JQ.then_normal ?_
       refine JQ.sub [(0, .slice (some ⟨g30, o31, none⟩) s1.length c3), (1, .int .i64 v5), (7, .int .i64 (s1.length : Int)), (8, .int .i64 x20)] ?_
       refine J.region ?_
       refine JL.pur (.int .i64 (w64 (x20 + 1))) (some 18) ?_
       refine JL.mv (.int .i64 (w64 (x20 + 1))) ?_
       refine JL.end_ ?_
       refine JQ.then_normal ?_
       exact JQ.again (w64 (x20 + 1)) () (Option.some.inj H1).symm (fun _ h => Heap.to h)
   · refine J.cond_false h27 ?_
     refine J.exit ?_
     refine JQ.then_exit ?_
     refine JQ.then_exit ?_
     refine JQ.blk_exit ?_
     rw [hb1 _ (Option.some.inj H1).symm, fin_brk] at H0
     exact JQ.met () () H0 (fun _ h => Heap.to (Heap.pick [] (by decide) h))
 · clear hit H0
   rintro ⟨⟩ ⟨⟩ H0
   replace H0 : slices_Index__int_int.k2 = some r := H0
   unfold slices_Index__int_int.k2 at H0
   refine JQ.sub [] ?_
   refine JQ.turn (Δ' := []) (fun _ h => h.to) ?_
   refine JQ.then_normal ?_
   refine J.seq ?_
   refine J.region ?_
   refine JL.as (.int .i64 (-1)) ?_
   refine JL.end_ ?_
   refine JQ.then_normal ?_
   refine J.ret ?_
   obtain rfl := Option.some.inj H0
   exact JQ.done' (rs := [.tmp 4]) (vs := [.int .i64 (-1)]) [] (.inr rfl) ⟨by kernel_rfl, trivial⟩ (fun _ h => Heap.to h) ⟨rfl, rfl⟩

theorem sample_digit.ok (x1 : Int) (r : Int) (H0 : sample_digit.f x1 = some r) :
    Does Try.prog 33 [.int .i64 x1].toArray [] [] false (fun v Δ => v = .int .i64 r ∧ Δ = []) := by
 refine Does.body (vs := [.int .i64 x1]) Try.func33 rfl trivial trivial fun w S => ?_
 unfold sample_digit.f at H0
 refine J.seq ?_
 refine J.region ?_
 refine JL.as (.int .i64 0) ?_
 refine JL.end_ ?_
 refine JQ.then_normal ?_
 refine JQ.sub [(0, .int .i64 x1)] ?_
 refine J.seq ?_
 refine J.region ?_
 refine JL.buildSl 3 ((flInt .i64).kd) (([0, (-3), (-1), 1, 3] : List Int) : List Int) [.int .i64 0, .int .i64 (-3), .int .i64 (-1), .int .i64 1, .int .i64 3] false (closes_fl rfl) fun b2 => ?_
 refine JL.mv (.int .i64 x1) ?_
 obtain ⟨t3, hc4, H0⟩ := bind_some H0
 refine JL.call [] [] [] (slices_Index__int_int.ok ([0, (-3), (-1), 1, 3] : List Int) (some ⟨b2, 0, none⟩) 5 x1 _ hc4) ⟨pre_view 0 (view_row (some ⟨b2, 0, none⟩) 5 3 ((flInt .i64).kd) ([0, (-3), (-1), 1, 3] : List Int) false true), trivial⟩ ?_
 rintro _ _ ⟨rfl, rfl⟩
 refine JL.as (.int .i64 t3) ?_
 refine JL.end_ ?_
 refine JQ.then_normal ?_
 refine JQ.sub [(2, .int .i64 t3)] ?_
 refine JQ.mask [] [false] ?_
 refine J.ret ?_
 obtain rfl := Option.some.inj H0
 exact JQ.done' (rs := [.tmp 2]) (vs := [.int .i64 t3]) [] (.inr rfl) ⟨by kernel_rfl, trivial⟩ (fun _ h => Heap.to h) ⟨rfl, rfl⟩

theorem sample_Check_1.ok (x1 : Int) (r : Bool) (H0 : sample_Check_1.f x1 = some r) :
    Does Try.prog 35 [.int .i64 x1].toArray [] [] false (fun v Δ => v = .bool r ∧ Δ = []) := by
 refine Does.body (vs := [.int .i64 x1]) Try.func35 rfl trivial trivial fun w S => ?_
 unfold sample_Check_1.f at H0
 refine J.seq ?_
 refine J.region ?_
 refine JL.as (.bool false) ?_
 refine JL.end_ ?_
 refine JQ.then_normal ?_
 refine JQ.sub [(0, .int .i64 x1)] ?_
 refine J.seq ?_
 refine J.region ?_
 refine JL.mv (.int .i64 x1) ?_
 obtain ⟨t2, hc3, H0⟩ := bind_some H0
 refine JL.call [] [] [] (sample_digit.ok x1 _ hc3) trivial ?_
 rintro _ _ ⟨rfl, rfl⟩
 refine JL.pur (.bool (decide (t2 < 0))) (some 5) ?_
 refine JL.as (.bool (decide (t2 < 0))) ?_
 refine JL.end_ ?_
 refine JQ.then_normal ?_
 refine JQ.sub [(2, .bool (decide (t2 < 0)))] ?_
 refine J.ret ?_
 obtain rfl := Option.some.inj H0
 exact JQ.done' (rs := [.tmp 2]) (vs := [.bool (decide (t2 < 0))]) [] (.inr rfl) ⟨by kernel_rfl, trivial⟩ (fun _ h => Heap.to h) ⟨rfl, rfl⟩

theorem slices_IndexFunc__int_int__sample_Check_1.ok (s1 : (List Int)) (Aa2 : Option Addr) (c3 : Nat) (r : Int) (H0 : slices_IndexFunc__int_int__sample_Check_1.f s1 = some r) :
    Does Try.prog 51 [.slice Aa2 s1.length c3, .func (.func 35) #[] #[]].toArray [At.rd Aa2 c3 ((flInt .i64).kd) s1 true] [] false (fun v Δ => v = .int .i64 r ∧ Δ = []) := by
 refine Does.body (vs := [.slice Aa2 s1.length c3, .func (.func 35) #[] #[]]) Try.func51 rfl ⟨.inl rfl, trivial⟩ trivial fun w S => ?_
 unfold slices_IndexFunc__int_int__sample_Check_1.f at H0
 refine J.seq ?_
 refine J.region ?_
 refine JL.as (.int .i64 0) ?_
 refine JL.end_ ?_
 refine JQ.then_normal ?_
 refine JQ.sub [(0, .slice Aa2 s1.length c3), (1, .func (.func 35) #[] #[])] ?_
 refine J.seq ?_
 refine J.seq ?_
 refine J.region ?_
 refine JL.mv (.slice Aa2 s1.length c3) ?_
 refine JL.pur (.int .i64 (s1.length : Int)) (some 7) ?_
 refine JL.mv (.int .i64 0) ?_
 refine JL.end_ ?_
 refine JQ.then_normal ?_
 refine JQ.sub [(0, .slice Aa2 s1.length c3), (1, .func (.func 35) #[] #[]), (7, .int .i64 (s1.length : Int)), (8, .int .i64 0)] ?_
 obtain ⟨o1, hit, H0⟩ := bind_some H0
 refine J.loop (σ := Int) (τ := Unit) (G := Unit) (G' := Unit) _ o1 (fun s g => [(0, .slice Aa2 s1.length c3), (1, .func (.func 35) #[] #[]), (7, .int .i64 (s1.length : Int)), (8, .int .i64 s)]) (fun s g => [At.rd Aa2 c3 ((flInt .i64).kd) s1 true]) (fun t => slices_IndexFunc__int_int__sample_Check_1.k2 = some r) (fun t g => []) (fun t g => []) 0 () hit (fun _ h => Heap.to h) ?_ ?_
 · clear hit
   rintro x23 ⟨⟩ st1 H1 hb1 hr1
   replace H1 : slices_IndexFunc__int_int__sample_Check_1.s1 s1 x23 = some st1 := H1
   unfold slices_IndexFunc__int_int__sample_Check_1.s1 at H1
   refine JQ.sub [(0, .slice Aa2 s1.length c3), (1, .func (.func 35) #[] #[]), (7, .int .i64 (s1.length : Int)), (8, .int .i64 x23)] ?_
   refine JQ.turn (Δ' := [At.rd Aa2 c3 ((flInt .i64).kd) s1 true]) (fun _ h => h.to) ?_
   refine J.seq ?_
   refine J.region ?_
   refine JL.pur (.bool (decide (x23 < (s1.length : Int)))) (some 9) ?_
   refine JL.end_ ?_
   refine JQ.then_normal ?_
   refine J.seq ?_
   rcases ite_cases H1 with ⟨h32, H1⟩ | ⟨h32, H1⟩
   · refine J.cond_true h32 ?_
     refine J.skip ?_
     refine JQ.then_normal ?_
     refine JQ.sub [(0, .slice Aa2 s1.length c3), (1, .func (.func 35) #[] #[]), (7, .int .i64 (s1.length : Int)), (8, .int .i64 x23)] ?_
     refine J.seq ?_
     refine J.block ?_
     refine J.seq ?_
     refine J.region ?_
     refine JL.mv (.int .i64 x23) ?_
     refine JL.as (.int .i64 x23) ?_
     refine JL.end_ ?_
     refine JQ.then_normal ?_
     refine JQ.sub [(0, .slice Aa2 s1.length c3), (1, .func (.func 35) #[] #[]), (5, .int .i64 x23), (7, .int .i64 (s1.length : Int)), (8, .int .i64 x23)] ?_
     refine J.seq ?_
     refine J.region ?_
     refine JL.mv (.func (.func 35) #[] #[]) ?_
     refine JL.mv (.slice Aa2 s1.length c3) ?_
     refine JL.mv (.int .i64 x23) ?_
     obtain ⟨⟨h33, h34⟩, H1⟩ := ite_must H1
     refine JL.ixAddr 0 1 c3 .i64 (elems_rd Aa2 c3 ((flInt .i64).kd) s1 true) Try.underlying22 tySize_3 h33 h34 fun g35 o36 hA => ?_
     subst hA
     refine JL.val (.int .i64 (ix s1 x23)) (some 15) (gives_loadEl (f := (flInt .i64)) 0 0 x23 (elems_rd (some ⟨g35, o36, none⟩) c3 ((flInt .i64).kd) s1 true) h33 h34 tySize_3 (.inr ⟨tyAgg_3, rfl, rfl⟩)) ?_
     obtain ⟨t37, hc38, H1⟩ := bind_some H1
     refine JL.call [] [] [] (sample_Check_1.ok (ix s1 x23) _ hc38) trivial ?_
     rintro _ _ ⟨rfl, rfl⟩
     refine JL.end_ ?_
     refine JQ.then_normal ?_
     refine JQ.sub [(0, .slice (some ⟨g35, o36, none⟩) s1.length c3), (1, .func (.func 35) #[] #[]), (5, .int .i64 x23), (7, .int .i64 (s1.length : Int)), (8, .int .i64 x23), (16, .bool t37)] ?_
     rcases ite_cases H1 with ⟨h39, H1⟩ | ⟨h39, H1⟩
     · refine J.cond_true h39 ?_
       refine J.seq ?_
       refine J.region ?_
       refine JL.mv (.int .i64 x23) ?_
       refine JL.as (.int .i64 x23) ?_
       refine JL.end_ ?_
       refine JQ.then_normal ?_
       refine JQ.sub [(4, .int .i64 x23)] ?_
       refine JQ.mask [] [false] ?_
       refine J.ret ?_
       refine JQ.blk_ret ?_
       refine JQ.then_ret ?_
       refine JQ.then_ret ?_
       refine JQ.blk_ret ?_
       refine JQ.met_ret ?_
       refine JQ.then_ret ?_
       rw [hr1 _ (Option.some.inj H1).symm, fin_ret] at H0
       obtain rfl := Option.some.inj H0
       exact JQ.done' (rs := [.tmp 4]) (vs := [.int .i64 x23]) [] (.inr rfl) ⟨by kernel_rfl, trivial⟩ (fun _ h => Heap.to h) ⟨rfl, rfl⟩
     · refine J.cond_false h39 ?_
       refine J.skip ?_
       refine JQ.blk_normal ?_
       refine JQ.then_normal ?_
       refine JQ.sub [(0, .slice (some ⟨g35, o36, none⟩) s1.length c3), (1, .func (.func 35) #[] #[]), (7, .int .i64 (s1.length : Int)), (8, .int .i64 x23)] ?_
       refine J.region ?_
       refine JL.pur (.int .i64 (w64 (x23 + 1))) (some 18) ?_
       refine JL.mv (.int .i64 (w64 (x23 + 1))) ?_
       refine JL.end_ ?_
       refine JQ.then_normal ?_
       exact JQ.again (w64 (x23 + 1)) () (Option.some.inj H1).symm (fun _ h => Heap.to h)
   · refine J.cond_false h32 ?_
     refine J.exit ?_
     refine JQ.then_exit ?_
     refine JQ.then_exit ?_
     refine JQ.blk_exit ?_
     rw [hb1 _ (Option.some.inj H1).symm, fin_brk] at H0
     exact JQ.met () () H0 (fun _ h => Heap.to (Heap.pick [] (by decide) h))
 · clear hit H0
   rintro ⟨⟩ ⟨⟩ H0
   replace H0 : slices_IndexFunc__int_int__sample_Check_1.k2 = some r := H0
   unfold slices_IndexFunc__int_int__sample_Check_1.k2 at H0
   refine JQ.sub [] ?_
   refine JQ.turn (Δ' := []) (fun _ h => h.to) ?_
   refine JQ.then_normal ?_
   refine J.seq ?_
   refine J.region ?_
   refine JL.as (.int .i64 (-1)) ?_
   refine JL.end_ ?_
   refine JQ.then_normal ?_
   refine J.ret ?_
   obtain rfl := Option.some.inj H0
   exact JQ.done' (rs := [.tmp 4]) (vs := [.int .i64 (-1)]) [] (.inr rfl) ⟨by kernel_rfl, trivial⟩ (fun _ h => Heap.to h) ⟨rfl, rfl⟩

theorem slices_ContainsFunc__int_int__sample_Check_1.ok (s1 : (List Int)) (Aa2 : Option Addr) (c3 : Nat) (r : Bool) (H0 : slices_ContainsFunc__int_int__sample_Check_1.f s1 = some r) :
    Does Try.prog 34 [.slice Aa2 s1.length c3, .func (.func 35) #[] #[]].toArray [At.rd Aa2 c3 ((flInt .i64).kd) s1 true] [] false (fun v Δ => v = .bool r ∧ Δ = []) := by
 refine Does.body (vs := [.slice Aa2 s1.length c3, .func (.func 35) #[] #[]]) Try.func34 rfl ⟨.inl rfl, trivial⟩ trivial fun w S => ?_
 unfold slices_ContainsFunc__int_int__sample_Check_1.f at H0
 refine J.seq ?_
 refine J.region ?_
 refine JL.as (.bool false) ?_
 refine JL.end_ ?_
 refine JQ.then_normal ?_
 refine JQ.sub [(0, .slice Aa2 s1.length c3), (1, .func (.func 35) #[] #[])] ?_
 refine J.seq ?_
 refine J.region ?_
 refine JL.mv (.slice Aa2 s1.length c3) ?_
 refine JL.mv (.func (.func 35) #[] #[]) ?_
 obtain ⟨t5, hc6, H0⟩ := bind_some H0
 refine JL.call [] [] [] (slices_IndexFunc__int_int__sample_Check_1.ok s1 Aa2 c3 _ hc6) ⟨pre_any 0 (view_rd Aa2 c3 ((flInt .i64).kd) s1 true true), trivial⟩ ?_
 rintro _ _ ⟨rfl, rfl⟩
 refine JL.pur (.bool (decide (0 ≤ t5))) (some 8) ?_
 refine JL.as (.bool (decide (0 ≤ t5))) ?_
 refine JL.end_ ?_
 refine JQ.then_normal ?_
 refine JQ.sub [(4, .bool (decide (0 ≤ t5)))] ?_
 refine JQ.mask [] [false] ?_
 refine J.ret ?_
 obtain rfl := Option.some.inj H0
 exact JQ.done' (rs := [.tmp 4]) (vs := [.bool (decide (0 ≤ t5))]) [] (.inr rfl) ⟨by kernel_rfl, trivial⟩ (fun _ h => Heap.to h) ⟨rfl, rfl⟩

theorem sample_Check.ok (s1 : (List Int)) (Aa2 : Option Addr) (c3 : Nat) (r : Int) (H0 : sample_Check.f s1 = some r) :
    Does Try.prog 16 [.slice Aa2 s1.length c3].toArray [At.rd Aa2 c3 ((flInt .i64).kd) s1 true] [] false (fun v Δ => v = .int .i64 r ∧ Δ = []) := by
 refine Does.body (vs := [.slice Aa2 s1.length c3]) Try.func16 rfl ⟨.inl rfl, trivial⟩ trivial fun w S => ?_
 unfold sample_Check.f at H0
 refine J.seq ?_
 refine J.region ?_
 refine JL.as (.int .i64 0) ?_
 refine JL.end_ ?_
 refine JQ.then_normal ?_
 refine JQ.sub [(0, .slice Aa2 s1.length c3)] ?_
 refine J.seq ?_
 refine J.seq ?_
 refine J.region ?_
 refine JL.mv (.slice Aa2 s1.length c3) ?_
 refine JL.pur (.int .i64 (s1.length : Int)) (some 4) ?_
 refine JL.pur (.bool (decide (256 < (s1.length : Int)))) (some 5) ?_
 refine JL.end_ ?_
 refine JQ.then_normal ?_
 refine JQ.sub [(0, .slice Aa2 s1.length c3), (5, .bool (decide (256 < (s1.length : Int))))] ?_
 rcases ite_cases H0 with ⟨h5, H0⟩ | ⟨h5, H0⟩
 · refine J.cond_true h5 ?_
   refine J.seq ?_
   refine J.region ?_
   refine JL.as (.int .i64 4) ?_
   refine JL.end_ ?_
   refine JQ.then_normal ?_
   refine JQ.sub [(2, .int .i64 4)] ?_
   refine JQ.mask [] [false] ?_
   refine J.ret ?_
   refine JQ.then_ret ?_
   obtain rfl := Option.some.inj H0
   exact JQ.done' (rs := [.tmp 2]) (vs := [.int .i64 4]) [] (.inr rfl) ⟨by kernel_rfl, trivial⟩ (fun _ h => Heap.to h) ⟨rfl, rfl⟩
 · refine J.cond_false h5 ?_
   refine J.skip ?_
   refine JQ.then_normal ?_
   refine JQ.sub [(0, .slice Aa2 s1.length c3)] ?_
   refine J.seq ?_
   refine J.seq ?_
   refine J.region ?_
   refine JL.mv (.slice Aa2 s1.length c3) ?_
   obtain ⟨t6, hc7, H0⟩ := bind_some H0
   refine JL.call [] [] [] (slices_ContainsFunc__int_int__sample_Check_1.ok s1 Aa2 c3 _ hc7) ⟨pre_any 0 (view_rd Aa2 c3 ((flInt .i64).kd) s1 true true), trivial⟩ ?_
   rintro _ _ ⟨rfl, rfl⟩
   refine JL.end_ ?_
   refine JQ.then_normal ?_
   refine JQ.sub [(7, .bool t6)] ?_
   refine JQ.mask [] [false] ?_
   rcases ite_cases H0 with ⟨h8, H0⟩ | ⟨h8, H0⟩
   · refine J.cond_true h8 ?_
     refine J.seq ?_
     refine J.region ?_
     refine JL.as (.int .i64 8) ?_
     refine JL.end_ ?_
     refine JQ.then_normal ?_
     refine JQ.sub [(2, .int .i64 8)] ?_
     refine J.ret ?_
     refine JQ.then_ret ?_
     obtain rfl := Option.some.inj H0
     exact JQ.done' (rs := [.tmp 2]) (vs := [.int .i64 8]) [] (.inr rfl) ⟨by kernel_rfl, trivial⟩ (fun _ h => Heap.to h) ⟨rfl, rfl⟩
   · refine J.cond_false h8 ?_
     refine J.skip ?_
     refine JQ.then_normal ?_
     refine JQ.sub [] ?_
     refine J.seq ?_
     refine J.region ?_
     refine JL.as (.int .i64 0) ?_
     refine JL.end_ ?_
     refine JQ.then_normal ?_
     refine J.ret ?_
     obtain rfl := Option.some.inj H0
     exact JQ.done' (rs := [.tmp 2]) (vs := [.int .i64 0]) [] (.inr rfl) ⟨by kernel_rfl, trivial⟩ (fun _ h => Heap.to h) ⟨rfl, rfl⟩

theorem slices_Chunk__int_int.ok (s1 : (List Int)) (Aa2 : Option Addr) (c3 : Nat) (n5 : Int) (r : ((List Int) × Int)) (H0 : slices_Chunk__int_int.f s1 n5 = some r) :
    Does Try.prog 37 [.slice Aa2 s1.length c3, .int .i64 n5].toArray [At.rd Aa2 c3 ((flInt .i64).kd) s1 true] [] true (fun v Δ => ∃ b2000 : Nat, ∃ A1001 : Option Addr, ∃ c1001 : Nat, ∃ b2003 : Nat, v = .func (.func 52) #[] #[.pointer (some ⟨b2000, 0, none⟩), .pointer (some ⟨b2003, 0, none⟩)] ∧ Δ = [At.box b2000 22 [.slice A1001 r.1.length c1001], At.rd A1001 c1001 ((flInt .i64).kd) r.1 true, At.box b2003 3 [.int .i64 r.2]]) := by
 refine Does.body (vs := [.slice Aa2 s1.length c3, .int .i64 n5]) Try.func37 rfl ⟨.inl rfl, trivial⟩ trivial fun w S => ?_
 unfold slices_Chunk__int_int.f at H0
 refine J.seq ?_
 refine J.region ?_
 refine JL.box [.slice Aa2 s1.length c3] fun b6 => ?_
 refine JL.box [.int .i64 n5] fun b7 => ?_
 refine JL.as (.nilFunc) ?_
 refine JL.end_ ?_
 refine JQ.then_normal ?_
 refine JQ.sub [(2, .pointer (some ⟨b6, 0, none⟩)), (3, .pointer (some ⟨b7, 0, none⟩))] ?_
 refine J.seq ?_
 refine J.seq ?_
 refine J.region ?_
 refine JL.val (.int .i64 n5) (some 5) (yields_load_box 2 0 (holds_box b7 3 [.int .i64 n5]) tyAgg_3) ?_
 refine JL.pur (.bool (decide (n5 < 1))) (some 6) ?_
 refine JL.end_ ?_
 refine JQ.then_normal ?_
 refine JQ.sub [(2, .pointer (some ⟨b6, 0, none⟩)), (3, .pointer (some ⟨b7, 0, none⟩)), (6, .bool (decide (n5 < 1)))] ?_
 rcases ite_cases H0 with ⟨h9, H0⟩ | ⟨h9, H0⟩
 · refine J.cond_true h9 ?_
   refine J.region ?_
   cases H0
 · refine J.cond_false h9 ?_
   refine J.skip ?_
   refine JQ.then_normal ?_
   refine JQ.sub [(2, .pointer (some ⟨b6, 0, none⟩)), (3, .pointer (some ⟨b7, 0, none⟩))] ?_
   refine J.seq ?_
   refine J.region ?_
   refine JL.pur (.func (.func 52) #[] #[.pointer (some ⟨b6, 0, none⟩), .pointer (some ⟨b7, 0, none⟩)]) (some 8) ?_
   refine JL.as (.func (.func 52) #[] #[.pointer (some ⟨b6, 0, none⟩), .pointer (some ⟨b7, 0, none⟩)]) ?_
   refine JL.end_ ?_
   refine JQ.then_normal ?_
   refine JQ.sub [(4, .func (.func 52) #[] #[.pointer (some ⟨b6, 0, none⟩), .pointer (some ⟨b7, 0, none⟩)])] ?_
   refine J.ret ?_
   obtain rfl := Option.some.inj H0
   exact JQ.done' (rs := [.tmp 4]) (vs := [.func (.func 52) #[] #[.pointer (some ⟨b6, 0, none⟩), .pointer (some ⟨b7, 0, none⟩)]]) [At.box b6 22 [.slice Aa2 s1.length c3], At.rd Aa2 c3 ((flInt .i64).kd) s1 true, At.box b7 3 [.int .i64 n5]] (.inr rfl) ⟨by kernel_rfl, trivial⟩ (fun _ h => Heap.to (Heap.pick [1, 0, 2] (by decide) h)) ⟨b6, Aa2, c3, b7, rfl, rfl⟩



theorem slices_Chunk__int_int_1__sample_Pack_y1.ok {ly ny : Nat} {ry : Env} {psy : Array Tmp} {asy boy : Code} (b65 : Nat) (out66 : List Int) (Aa67 : Option Addr) (c68 : Nat) (hY : ∀ (out66 : List Int) (Aa67 : Option Addr) (c68 : Nat) (x122 : (List Int)) (Aa123 : Option Addr) (c124 : Nat) (r : (Int × (List Int))), sample_Pack.y1 out66 x122 = some r → DoesY Try.prog ly [.slice Aa123 x122.length c124] [At.rd Aa123 c124 ((flInt .i64).kd) x122 true] [At.loop ly ny ry psy asy boy 0, At.box b65 41 [.slice Aa67 out66.length c68], At.row Aa67 c68 5 ((flInt .u8).kd) out66 false] true (fun v Δ => ∃ qA0 : Option Addr, ∃ qc0 : Nat, v = .bool (decide (r.1 = 0)) ∧ Δ = [At.loop ly ny ry psy asy boy r.1, At.box b65 41 [.slice qA0 r.2.length qc0], At.row qA0 qc0 5 ((flInt .u8).kd) r.2 false])) (v170 : (List Int)) (b171 : Nat) (Aa172 : Option Addr) (c173 : Nat) (v175 : Int) (b176 : Nat) (r : (Int × (List Int))) (H0 : slices_Chunk__int_int_1__sample_Pack_y1.f out66 v170 v175 = some r) :
    Does Try.prog 52 [.func (.yield ly) #[] #[], .pointer (some ⟨b171, 0, none⟩), .pointer (some ⟨b176, 0, none⟩)].toArray [At.rd Aa172 c173 ((flInt .i64).kd) v170 true] [At.loop ly ny ry psy asy boy 0, At.box b65 41 [.slice Aa67 out66.length c68], At.row Aa67 c68 5 ((flInt .u8).kd) out66 false, At.box b171 22 [.slice Aa172 v170.length c173], At.box b176 3 [.int .i64 v175]] true (fun v Δ => ∃ A3011 : Option Addr, ∃ c3011 : Nat, v = .tuple #[] ∧ Δ = [At.loop ly ny ry psy asy boy r.1, At.box b65 41 [.slice A3011 r.2.length c3011], At.row A3011 c3011 5 ((flInt .u8).kd) r.2 false, At.box b171 22 [.slice Aa172 v170.length c173], At.box b176 3 [.int .i64 v175]]) := by
 refine Does.bodyF (vs := [.func (.yield ly) #[] #[], .pointer (some ⟨b171, 0, none⟩), .pointer (some ⟨b176, 0, none⟩)]) Try.func52 rfl ⟨.inl rfl, trivial⟩ ⟨.inr (fun _ _ _ h => h), .inr (fun _ _ _ h => h), .inr (row_any _ _ _ _ _ _), .inr (fun _ _ _ h => h), .inr (fun _ _ _ h => h), trivial⟩ fun w S => ?_
 unfold slices_Chunk__int_int_1__sample_Pack_y1.f at H0
 refine J.seq ?_
 refine J.region ?_
 refine JL.as (.int .i64 0) ?_
 refine JL.end_ ?_
 refine JQ.then_normal ?_
 obtain ⟨o1, hit, H0⟩ := bind_some H0
 refine J.loop (σ := (Int × (List Int))) (τ := List Int) (G := ((Option Addr) × Nat)) (G' := ((Option Addr) × Nat)) _ o1 (fun s g => [(0, .func (.yield ly) #[] #[]), (1, .pointer (some ⟨b171, 0, none⟩)), (2, .pointer (some ⟨b176, 0, none⟩)), (4, .int .i64 s.1)]) (fun s g => [At.box b171 22 [.slice Aa172 v170.length c173], At.rd Aa172 c173 ((flInt .i64).kd) v170 true, At.box b176 3 [.int .i64 v175], At.loop ly ny ry psy asy boy 0, At.box b65 41 [.slice g.1 s.2.length g.2], At.row g.1 g.2 5 ((flInt .u8).kd) s.2 false]) (fun t => slices_Chunk__int_int_1__sample_Pack_y1.k2 t = some r) (fun t g => []) (fun t g => [At.loop ly ny ry psy asy boy 0, At.box b65 41 [.slice g.1 t.length g.2], At.row g.1 g.2 5 ((flInt .u8).kd) t false, At.box b171 22 [.slice Aa172 v170.length c173], At.rd Aa172 c173 ((flInt .i64).kd) v170 true, At.box b176 3 [.int .i64 v175]]) (0, out66) (Aa67, c68) hit (fun _ h => Heap.to (Heap.pick [4, 0, 5, 1, 2, 3] (by decide) h)) ?_ ?_
 · clear hit
   rintro ⟨i213, v214⟩ ⟨Aa215, c216⟩ st1 H1 hb1 hr1
   replace H1 : slices_Chunk__int_int_1__sample_Pack_y1.s1 v170 v175 i213 v214 = some st1 := H1
   unfold slices_Chunk__int_int_1__sample_Pack_y1.s1 at H1
   refine JQ.sub [(0, .func (.yield ly) #[] #[]), (1, .pointer (some ⟨b171, 0, none⟩)), (2, .pointer (some ⟨b176, 0, none⟩)), (4, .int .i64 i213)] ?_
   refine JQ.turn (Δ' := [At.box b171 22 [.slice Aa172 v170.length c173], At.rd Aa172 c173 ((flInt .i64).kd) v170 true, At.box b176 3 [.int .i64 v175], At.loop ly ny ry psy asy boy 0, At.box b65 41 [.slice Aa215 v214.length c216], At.row Aa215 c216 5 ((flInt .u8).kd) v214 false]) (fun _ h => h.to) ?_
   refine J.seq ?_
   refine J.seq ?_
   refine J.region ?_
   refine JL.mv (.int .i64 i213) ?_
   refine JL.val (.slice Aa172 v170.length c173) (some 7) (yields_load_box 0 0 (holds_box b171 22 [.slice Aa172 v170.length c173]) tyAgg_22) ?_
   refine JL.pur (.int .i64 (v170.length : Int)) (some 8) ?_
   refine JL.pur (.bool (decide (i213 < (v170.length : Int)))) (some 9) ?_
   refine JL.end_ ?_
   refine JQ.then_normal ?_
   refine JQ.sub [(0, .func (.yield ly) #[] #[]), (1, .pointer (some ⟨b171, 0, none⟩)), (2, .pointer (some ⟨b176, 0, none⟩)), (4, .int .i64 i213), (9, .bool (decide (i213 < (v170.length : Int))))] ?_
   rcases ite_cases H1 with ⟨h235, H1⟩ | ⟨h235, H1⟩
   · refine J.cond_true h235 ?_
     refine J.skip ?_
     refine JQ.then_normal ?_
     refine JQ.sub [(0, .func (.yield ly) #[] #[]), (1, .pointer (some ⟨b171, 0, none⟩)), (2, .pointer (some ⟨b176, 0, none⟩)), (4, .int .i64 i213)] ?_
     refine J.seq ?_
     refine J.block ?_
     refine J.seq ?_
     obtain ⟨⟨h240, h241⟩, H1⟩ := ite_must H1
     refine JY.start [] (ba 7 0) ?_
     refine JY.take (hi := rfl) 0 (ba 7 1) (.int .i64 v175) (some 13) [true, true, true, true, true, true] want (yields_load_box 2 0 (holds_box b176 3 [.int .i64 v175]) tyAgg_3) ?_
     refine JY.take (hi := rfl) 1 (ba 7 3) (.slice Aa172 v170.length c173) (some 14) [true, true, true, true, true, true] want (yields_load_box 0 0 (holds_box b171 22 [.slice Aa172 v170.length c173]) tyAgg_22) ?_
     refine JY.pur (hi := rfl) 2 (ba 7 7) (.int .i64 i213) (some 15) want ?_
     refine JY.all [3] ⟨⟨_, rfl, ?_⟩, trivial⟩
     obtain ⟨h246, h247⟩ : 0 ≤ i213 ∧ i213 ≤ (v170.length : Int) := ⟨h240, h241⟩
     refine JQ.capLe 1 Aa172 c173 ((flInt .i64).kd) v170 true fun h245 => ?_
     refine JL.cut i213.toNat v170.length c173 1 Aa172 c173 ((flInt .i64).kd) v170 true Try.underlying22 tySize_3 (.inl ⟨rfl, rfl⟩) (.inl ⟨rfl, rfl⟩) (.inr ⟨.i64, i213, by kernel_rfl, h246, rfl⟩) (.inl rfl) (by omega) (by omega) (by omega) (.inl (by omega)) fun Aa242 c243 => ?_
     refine JL.nil ?_
     refine JY.ran (ba 7 15) [true, true, true, true, true, true, false] ?_
     refine JY.pur (hi := rfl) 4 (ba 7 31) (.int .i64 (((v170.take v170.length).drop i213.toNat).length : Int)) (some 17) want ?_
     refine JY.pur (hi := rfl) 5 (ba 7 63) (.int .i64 (gmin v175 (((v170.take v170.length).drop i213.toNat).length : Int))) (some 18) want ?_
     refine JY.pur (hi := rfl) 6 (ba 7 127) (.int .i64 (gmin v175 (((v170.take v170.length).drop i213.toNat).length : Int))) (some 5) want ?_
     refine JY.done ?_
     refine JQ.then_normal ?_
     refine JQ.sub [(0, .func (.yield ly) #[] #[]), (1, .pointer (some ⟨b171, 0, none⟩)), (2, .pointer (some ⟨b176, 0, none⟩)), (4, .int .i64 i213), (5, .int .i64 (gmin v175 (((v170.take v170.length).drop i213.toNat).length : Int)))] ?_
     refine JQ.mask [At.box b171 22 [.slice Aa172 v170.length c173], At.rd Aa172 c173 ((flInt .i64).kd) v170 true, At.box b176 3 [.int .i64 v175], At.loop ly ny ry psy asy boy 0, At.box b65 41 [.slice Aa215 v214.length c216], At.row Aa215 c216 5 ((flInt .u8).kd) v214 false] [true, true, true, true, true, true, false] ?_
     refine J.seq ?_
     refine J.regionY 10 _ ?_
     refine JL.mv (.func (.yield ly) #[] #[]) ?_
     refine JL.val (.slice Aa172 v170.length c173) (some 20) (yields_load_box 0 0 (holds_box b171 22 [.slice Aa172 v170.length c173]) tyAgg_22) ?_
     refine JL.mv (.int .i64 i213) ?_
     refine JL.mv (.int .i64 i213) ?_
     refine JL.mv (.int .i64 (gmin v175 (((v170.take v170.length).drop i213.toNat).length : Int))) ?_
     refine JL.pur (.int .i64 (w64 (i213 + (gmin v175 (((v170.take v170.length).drop i213.toNat).length : Int))))) (some 24) ?_
     refine JL.mv (.int .i64 i213) ?_
     refine JL.mv (.int .i64 (gmin v175 (((v170.take v170.length).drop i213.toNat).length : Int))) ?_
     refine JL.pur (.int .i64 (w64 (i213 + (gmin v175 (((v170.take v170.length).drop i213.toNat).length : Int))))) (some 27) ?_
     obtain ⟨⟨h1246, h1247, h1248, h1249, h1250, h1251⟩, H1⟩ := ite_must H1
     refine JQ.capLe 1 Aa172 c173 ((flInt .i64).kd) v170 true fun h1245 => ?_
     refine JL.cut i213.toNat ((w64 (i213 + (gmin v175 (((v170.take v170.length).drop i213.toNat).length : Int)))).toNat) ((w64 (i213 + (gmin v175 (((v170.take v170.length).drop i213.toNat).length : Int)))).toNat) 1 Aa172 c173 ((flInt .i64).kd) v170 true Try.underlying22 tySize_3 (.inr ⟨.i64, (w64 (i213 + (gmin v175 (((v170.take v170.length).drop i213.toNat).length : Int)))), by kernel_rfl, h1246, rfl⟩) (.inr ⟨.i64, (w64 (i213 + (gmin v175 (((v170.take v170.length).drop i213.toNat).length : Int)))), by kernel_rfl, h1248, rfl⟩) (.inr ⟨.i64, i213, by kernel_rfl, h1250, rfl⟩) (.inr (by simp)) (by omega) (by omega) (by omega) (.inl (by omega)) fun Aa1242 c1243 => ?_
     obtain ⟨t1252, hc1253, H1⟩ := bind_some H1
     refine JL.nil ?_
     refine JL.callY [false, false, false, true, true, true] (hY v214 Aa215 c216 ((v170.take ((w64 (i213 + (gmin v175 (((v170.take v170.length).drop i213.toNat).length : Int)))).toNat)).drop i213.toNat) Aa1242 c1243 _ hc1253) ⟨pre_any 3 (view_rd Aa1242 c1243 ((flInt .i64).kd) ((v170.take ((w64 (i213 + (gmin v175 (((v170.take v170.length).drop i213.toNat).length : Int)))).toNat)).drop i213.toNat) true true), trivial⟩ rfl ?_
     rintro _ _ ⟨Aa1254, c1255, rfl, rfl⟩
     rcases ite_cases H1 with ⟨h1257, H1⟩ | ⟨h1257, H1⟩
     · rw [h1257]
       rw [of_decide_eq_true h1257]
       refine JL.pur (.bool false) (some 30) ?_
       refine JL.end_ ?_
       refine JQ.then_normal ?_
       refine JQ.sub [(0, .func (.yield ly) #[] #[]), (1, .pointer (some ⟨b171, 0, none⟩)), (2, .pointer (some ⟨b176, 0, none⟩)), (4, .int .i64 i213), (30, .bool false)] ?_
       refine JQ.mask [At.box b171 22 [.slice Aa172 v170.length c173], At.rd Aa172 c173 ((flInt .i64).kd) v170 true, At.box b176 3 [.int .i64 v175], At.loop ly ny ry psy asy boy 0, At.box b65 41 [.slice Aa1254 t1252.2.length c1255], At.row Aa1254 c1255 5 ((flInt .u8).kd) t1252.2 false] [true, true, true, false, true, true, true] ?_
       refine J.cond_false rfl ?_
       refine J.skip ?_
       refine JQ.blk_normal ?_
       refine JQ.then_normal ?_
       refine JQ.sub [(0, .func (.yield ly) #[] #[]), (1, .pointer (some ⟨b171, 0, none⟩)), (2, .pointer (some ⟨b176, 0, none⟩)), (4, .int .i64 i213)] ?_
       refine J.region ?_
       refine JL.mv (.int .i64 i213) ?_
       refine JL.val (.int .i64 v175) (some 11) (yields_load_box 2 0 (holds_box b176 3 [.int .i64 v175]) tyAgg_3) ?_
       refine JL.pur (.int .i64 (w64 (i213 + v175))) (some 12) ?_
       obtain ⟨i1258, ei1258, H1⟩ := lt_some H1
       refine JL.as' (k := .i64) i1258 ei1258 ?_
       refine JL.end_ ?_
       refine JQ.then_normal ?_
       exact JQ.again (i1258, t1252.2) (Aa1254, c1255) (Option.some.inj H1).symm (fun _ h => Heap.to h)
     · rw [h1257]
       refine JL.pur (.bool true) (some 30) ?_
       refine JL.end_ ?_
       refine JQ.then_normal ?_
       refine JQ.sub [(0, .func (.yield ly) #[] #[]), (1, .pointer (some ⟨b171, 0, none⟩)), (2, .pointer (some ⟨b176, 0, none⟩)), (4, .int .i64 i213), (30, .bool true)] ?_
       refine JQ.mask [At.box b171 22 [.slice Aa172 v170.length c173], At.rd Aa172 c173 ((flInt .i64).kd) v170 true, At.box b176 3 [.int .i64 v175], At.loop ly ny ry psy asy boy t1252.1, At.box b65 41 [.slice Aa1254 t1252.2.length c1255], At.row Aa1254 c1255 5 ((flInt .u8).kd) t1252.2 false] [true, true, true, false, true, true, true] ?_
       refine J.cond_true rfl ?_
       refine J.ret ?_
       refine JQ.blk_ret ?_
       refine JQ.then_ret ?_
       refine JQ.then_ret ?_
       refine JQ.blk_ret ?_
       refine JQ.met_ret ?_
       rw [hr1 _ (Option.some.inj H1).symm, fin_ret] at H0
       obtain rfl := Option.some.inj H0
       exact JQ.doneM (rs := []) (vs := []) [] [At.box b171 22 [.slice Aa172 v170.length c173], At.rd Aa172 c173 ((flInt .i64).kd) v170 true, At.box b176 3 [.int .i64 v175], At.loop ly ny ry psy asy boy t1252.1, At.box b65 41 [.slice Aa1254 t1252.2.length c1255], At.row Aa1254 c1255 5 ((flInt .u8).kd) t1252.2 false] [At.loop ly ny ry psy asy boy t1252.1, At.box b65 41 [.slice Aa1254 t1252.2.length c1255], At.row Aa1254 c1255 5 ((flInt .u8).kd) t1252.2 false, At.box b171 22 [.slice Aa172 v170.length c173], At.box b176 3 [.int .i64 v175]] (.inr rfl) trivial (fun _ h => h) (fun _ h => Heap.to (Heap.pick [3, 4, 5, 0, 2] (by decide) h)) ⟨Aa1254, c1255, rfl, rfl⟩
   · refine J.cond_false h235 ?_
     refine J.exit ?_
     refine JQ.then_exit ?_
     refine JQ.then_exit ?_
     refine JQ.blk_exit ?_
     rw [hb1 _ (Option.some.inj H1).symm, fin_brk] at H0
     exact JQ.met v214 (Aa215, c216) H0 (fun _ h => Heap.to (Heap.pick [3, 4, 5, 0, 1, 2] (by decide) h))
 · clear hit H0
   rintro v231 ⟨Aa232, c233⟩ H0
   replace H0 : slices_Chunk__int_int_1__sample_Pack_y1.k2 v231 = some r := H0
   unfold slices_Chunk__int_int_1__sample_Pack_y1.k2 at H0
   refine JQ.sub [] ?_
   refine JQ.turn (Δ' := [At.loop ly ny ry psy asy boy 0, At.box b65 41 [.slice Aa232 v231.length c233], At.row Aa232 c233 5 ((flInt .u8).kd) v231 false, At.box b171 22 [.slice Aa172 v170.length c173], At.rd Aa172 c173 ((flInt .i64).kd) v170 true, At.box b176 3 [.int .i64 v175]]) (fun _ h => h.to) ?_
   obtain rfl := Option.some.inj H0
   exact JQ.doneM (rs := []) (vs := []) [] [At.loop ly ny ry psy asy boy 0, At.box b65 41 [.slice Aa232 v231.length c233], At.row Aa232 c233 5 ((flInt .u8).kd) v231 false, At.box b171 22 [.slice Aa172 v170.length c173], At.rd Aa172 c173 ((flInt .i64).kd) v170 true, At.box b176 3 [.int .i64 v175]] [At.loop ly ny ry psy asy boy 0, At.box b65 41 [.slice Aa232 v231.length c233], At.row Aa232 c233 5 ((flInt .u8).kd) v231 false, At.box b171 22 [.slice Aa172 v170.length c173], At.box b176 3 [.int .i64 v175]] (.inl rfl) trivial (fun _ h => h) (fun _ h => Heap.to (Heap.pick [0, 1, 2, 3, 5] (by decide) h)) ⟨Aa232, c233, rfl, rfl⟩

theorem sample_Pack.ok (s1 : (List Int)) (Aa2 : Option Addr) (c3 : Nat) (r : ((List Int) × Int)) (H0 : sample_Pack.f s1 = some r) :
    Does Try.prog 19 [.slice Aa2 s1.length c3].toArray [At.rd Aa2 c3 ((flInt .i64).kd) s1 true] [] false (fun v Δ => ∃ A1001 : Option Addr, ∃ c1001 : Nat, v = .tuple #[.slice A1001 r.1.length c1001, .int .i64 r.2] ∧ Δ = [At.row A1001 c1001 5 ((flInt .u8).kd) r.1 false]) := by
 refine Does.bodyF (vs := [.slice Aa2 s1.length c3]) Try.func19 rfl ⟨.inl rfl, trivial⟩ trivial fun w S => ?_
 unfold sample_Pack.f at H0
 refine J.seq ?_
 refine J.region ?_
 refine JL.as (.slice none 0 0) ?_
 refine JL.as (.int .i64 0) ?_
 refine JL.end_ ?_
 refine JQ.then_normal ?_
 refine J.seq ?_
 refine J.seq ?_
 refine J.region ?_
 refine JL.mv (.slice Aa2 s1.length c3) ?_
 obtain ⟨t5, hc6, H0⟩ := bind_some H0
 refine JL.call [] [] [] (sample_Check.ok s1 Aa2 c3 _ hc6) ⟨pre_any 0 (view_rd Aa2 c3 ((flInt .i64).kd) s1 true true), trivial⟩ ?_
 rintro _ _ ⟨rfl, rfl⟩
 refine JL.as (.int .i64 t5) ?_
 refine JL.end_ ?_
 refine JQ.then_normal ?_
 refine JQ.sub [(0, .slice Aa2 s1.length c3), (2, .slice none 0 0), (3, .int .i64 0), (4, .int .i64 t5)] ?_
 refine J.seq ?_
 refine J.region ?_
 refine JL.mv (.int .i64 t5) ?_
 refine JL.pur (.bool (!decide (t5 = 0))) (some 12) ?_
 refine JL.end_ ?_
 refine JQ.then_normal ?_
 refine JQ.sub [(0, .slice Aa2 s1.length c3), (2, .slice none 0 0), (3, .int .i64 0), (4, .int .i64 t5), (12, .bool (!decide (t5 = 0)))] ?_
 rcases ite_cases H0 with ⟨h7, H0⟩ | ⟨h7, H0⟩
 · refine J.cond_true h7 ?_
   refine J.seq ?_
   refine J.region ?_
   refine JL.mv (.int .i64 t5) ?_
   refine JL.as (.slice none 0 0) ?_
   refine JL.as (.int .i64 t5) ?_
   refine JL.end_ ?_
   refine JQ.then_normal ?_
   refine JQ.sub [(2, .slice none 0 0), (3, .int .i64 t5)] ?_
   refine JQ.mask [] [false] ?_
   refine J.ret ?_
   refine JQ.then_ret ?_
   obtain rfl := Option.some.inj H0
   exact JQ.doneM (rs := [.tmp 2, .tmp 3]) (vs := [.slice none 0 0, .int .i64 t5]) [] [] [At.row none 0 5 ((flInt .u8).kd) ([] : List Int) false] (.inr rfl) ⟨by kernel_rfl, by kernel_rfl, trivial⟩ (fun _ h => h) (fun _ h => Heap.to (Heap.addRow0 (α := Int) 5 ((flInt .u8).kd) false h)) ⟨none, 0, rfl, rfl⟩
 · refine J.cond_false h7 ?_
   refine J.skip ?_
   refine JQ.then_normal ?_
   refine JQ.sub [(0, .slice Aa2 s1.length c3), (2, .slice none 0 0), (3, .int .i64 0)] ?_
   refine J.seq ?_
   refine J.region ?_
   refine JL.alloc [.slice none 0 0] fun b8 => ?_
   refine JL.end_ ?_
   refine JQ.then_normal ?_
   refine J.seq ?_
   refine J.seq ?_
   refine J.region ?_
   refine JL.mv (.slice Aa2 s1.length c3) ?_
   obtain ⟨t9, hc10, H0⟩ := bind_some H0
   refine JL.call [] [] [] (slices_Chunk__int_int.ok s1 Aa2 c3 3 _ hc10) ⟨pre_any 0 (view_rd Aa2 c3 ((flInt .i64).kd) s1 true true), trivial⟩ ?_
   rintro _ _ ⟨b11, Aa12, c13, b15, rfl, rfl⟩
   refine JL.end_ ?_
   refine JQ.then_normal ?_
   refine JQ.sub [(2, .slice none 0 0), (3, .int .i64 0), (5, .pointer (some ⟨b8, 0, none⟩)), (15, .func (.func 52) #[] #[.pointer (some ⟨b11, 0, none⟩), .pointer (some ⟨b15, 0, none⟩)])] ?_
   refine JQ.mask [At.box b8 41 [.slice none 0 0], At.box b11 22 [.slice Aa12 t9.1.length c13], At.rd Aa12 c13 ((flInt .i64).kd) t9.1 true, At.box b15 3 [.int .i64 t9.2]] [false, true, true, true, true] ?_
   refine J.block ?_
   refine JQ.turn (Δ' := [At.box b8 41 [.slice none ([] : List Int).length 0], At.row none 0 5 ((flInt .u8).kd) ([] : List Int) false, At.box b11 22 [.slice Aa12 t9.1.length c13], At.box b15 3 [.int .i64 t9.2], At.rd Aa12 c13 ((flInt .i64).kd) t9.1 true]) (fun _ h => Heap.to (Heap.pick [0, 4, 1, 3, 2] (by decide) (Heap.addRow0 (α := Int) 5 ((flInt .u8).kd) false h))) ?_
   obtain ⟨t170, hc171, H0⟩ := bind_some H0
   refine J.rangeFunc [true, true, true, true] [(5, .pointer (some ⟨b8, 0, none⟩))] (fun ly ny ry psy asy boy hny hry hpy hay hby => slices_Chunk__int_int_1__sample_Pack_y1.ok b8 ([] : List Int) none 0 ?_ t9.1 b11 Aa12 c13 t9.2 b15 _ hc171) ⟨pre_any 0 (view_rd Aa12 c13 ((flInt .i64).kd) t9.1 true true), trivial⟩ ?_
   · clear hc171
     suffices hkey : ∀ (b65 : Nat), [(5, .pointer (some ⟨b65, 0, none⟩))] = ry → ∀ (out66 : List Int) (Aa67 : Option Addr) (c68 : Nat) (x122 : (List Int)) (Aa123 : Option Addr) (c124 : Nat) (r : (Int × (List Int))), sample_Pack.y1 out66 x122 = some r → DoesY Try.prog ly [.slice Aa123 x122.length c124] [At.rd Aa123 c124 ((flInt .i64).kd) x122 true] [At.loop ly ny ry psy asy boy 0, At.box b65 41 [.slice Aa67 out66.length c68], At.row Aa67 c68 5 ((flInt .u8).kd) out66 false] true (fun v Δ => ∃ qA0 : Option Addr, ∃ qc0 : Nat, v = .bool (decide (r.1 = 0)) ∧ Δ = [At.loop ly ny ry psy asy boy r.1, At.box b65 41 [.slice qA0 r.2.length qc0], At.row qA0 qc0 5 ((flInt .u8).kd) r.2 false]) from hkey b8 hry
     intro b65 hry2 out66 Aa67 c68 x122 Aa123 c124 r H0
     refine DoesY.body' (ps0 := [16]) hny hry2 hpy hay hby ⟨.inl rfl, trivial⟩ ⟨.inr (fun _ _ _ h => h), .inr (row_any _ _ _ _ _ _), trivial⟩ fun w S => ?_
     unfold sample_Pack.y1 at H0
     refine JQ.sub [(5, .pointer (some ⟨b65, 0, none⟩)), (16, .slice Aa123 x122.length c124)] ?_
     refine JQ.turn (Δ' := [At.loop ly ny ry psy asy boy 0, At.rd Aa123 c124 ((flInt .i64).kd) x122 true, At.box b65 41 [.slice Aa67 out66.length c68], At.row Aa67 c68 5 ((flInt .u8).kd) out66 false]) (fun _ h => h.to) ?_
     refine J.region ?_
     refine JL.as (.slice Aa123 x122.length c124) ?_
     refine JL.end_ ?_
     refine JQ.then_normal ?_
     refine JQ.begin (n := ny) (ρl := ry) (ps := psy) (assign := asy) (body := boy) 0 ?_
     refine J.block ?_
     refine J.seq ?_
     refine J.region ?_
     refine JL.as (.int .i64 0) ?_
     refine JL.end_ ?_
     refine JQ.then_normal ?_
     refine JQ.sub [(5, .pointer (some ⟨b65, 0, none⟩)), (6, .slice Aa123 x122.length c124), (7, .int .i64 0)] ?_
     refine J.seq ?_
     refine J.seq ?_
     refine J.region ?_
     refine JL.mv (.slice Aa123 x122.length c124) ?_
     refine JL.pur (.int .i64 (x122.length : Int)) (some 18) ?_
     refine JL.pur (.int .i64 (w64 ((x122.length : Int) - 1))) (some 19) ?_
     obtain ⟨i126, ei126, H0⟩ := lt_some H0
     refine JL.as' (k := .i64) i126 ei126 ?_
     refine JL.end_ ?_
     refine JQ.then_normal ?_
     refine JQ.sub [(5, .pointer (some ⟨b65, 0, none⟩)), (6, .slice Aa123 x122.length c124), (7, .int .i64 0), (8, .int .i64 i126)] ?_
     obtain ⟨o1, hit, H0⟩ := bind_some H0
     refine J.loop (σ := (Int × Int)) (τ := Int) (G := Unit) (G' := Unit) _ o1 (fun s g => [(5, .pointer (some ⟨b65, 0, none⟩)), (6, .slice Aa123 x122.length c124), (7, .int .i64 s.1), (8, .int .i64 s.2)]) (fun s g => [At.box b65 41 [.slice Aa67 out66.length c68], At.row Aa67 c68 5 ((flInt .u8).kd) out66 false, At.rd Aa123 c124 ((flInt .i64).kd) x122 true, At.busy ly ny ry psy asy boy]) (fun t => sample_Pack.y1.k2 out66 t = some r) (fun t g => [(5, .pointer (some ⟨b65, 0, none⟩)), (7, .int .i64 t)]) (fun t g => [At.box b65 41 [.slice Aa67 out66.length c68], At.row Aa67 c68 5 ((flInt .u8).kd) out66 false, At.busy ly ny ry psy asy boy]) (0, i126) () hit (fun _ h => Heap.to (Heap.pick [2, 3, 1, 0] (by decide) h)) ?_ ?_
     · clear hit
       rintro ⟨b146, i147⟩ ⟨⟩ st1 H1 hb1 hr1
       replace H1 : sample_Pack.y1.s1 x122 b146 i147 = some st1 := H1
       unfold sample_Pack.y1.s1 at H1
       refine JQ.sub [(5, .pointer (some ⟨b65, 0, none⟩)), (6, .slice Aa123 x122.length c124), (7, .int .i64 b146), (8, .int .i64 i147)] ?_
       refine JQ.turn (Δ' := [At.box b65 41 [.slice Aa67 out66.length c68], At.row Aa67 c68 5 ((flInt .u8).kd) out66 false, At.rd Aa123 c124 ((flInt .i64).kd) x122 true, At.busy ly ny ry psy asy boy]) (fun _ h => h.to) ?_
       refine J.seq ?_
       refine J.seq ?_
       refine J.region ?_
       refine JL.mv (.int .i64 i147) ?_
       refine JL.pur (.bool (decide (0 ≤ i147))) (some 21) ?_
       refine JL.end_ ?_
       refine JQ.then_normal ?_
       refine JQ.sub [(5, .pointer (some ⟨b65, 0, none⟩)), (6, .slice Aa123 x122.length c124), (7, .int .i64 b146), (8, .int .i64 i147), (21, .bool (decide (0 ≤ i147)))] ?_
       rcases ite_cases H1 with ⟨h161, H1⟩ | ⟨h161, H1⟩
       · refine J.cond_true h161 ?_
         refine J.skip ?_
         refine JQ.then_normal ?_
         refine JQ.sub [(5, .pointer (some ⟨b65, 0, none⟩)), (6, .slice Aa123 x122.length c124), (7, .int .i64 b146), (8, .int .i64 i147)] ?_
         refine J.seq ?_
         refine J.block ?_
         refine J.region ?_
         refine JL.mv (.int .i64 b146) ?_
         refine JL.pur (.int .i64 (w64 (5 * b146))) (some 25) ?_
         refine JL.mv (.slice Aa123 x122.length c124) ?_
         refine JL.mv (.int .i64 i147) ?_
         obtain ⟨⟨h162, h163⟩, H1⟩ := ite_must H1
         refine JL.ixAddr 2 1 c124 .i64 (elems_rd Aa123 c124 ((flInt .i64).kd) x122 true) Try.underlying22 tySize_3 h162 h163 fun g164 o165 hA => ?_
         subst hA
         refine JL.val (.int .i64 (ix x122 i147)) (some 29) (gives_loadEl (f := (flInt .i64)) 2 0 i147 (elems_rd (some ⟨g164, o165, none⟩) c124 ((flInt .i64).kd) x122 true) h162 h163 tySize_3 (.inr ⟨tyAgg_3, rfl, rfl⟩)) ?_
         obtain ⟨t166, hc167, H1⟩ := bind_some H1
         refine JL.call [] [] [] (sample_digit.ok (ix x122 i147) _ hc167) trivial ?_
         rintro _ _ ⟨rfl, rfl⟩
         refine JL.pur (.int .i64 (w64 ((w64 (5 * b146)) + t166))) (some 31) ?_
         obtain ⟨b168, eb168, H1⟩ := lt_some H1
         refine JL.as' (k := .i64) b168 eb168 ?_
         refine JL.end_ ?_
         refine JQ.blk_normal ?_
         refine JQ.then_normal ?_
         refine JQ.sub [(5, .pointer (some ⟨b65, 0, none⟩)), (6, .slice (some ⟨g164, o165, none⟩) x122.length c124), (7, .int .i64 b168), (8, .int .i64 i147)] ?_
         refine J.region ?_
         refine JL.mv (.int .i64 i147) ?_
         refine JL.pur (.int .i64 (w64 (i147 - 1))) (some 23) ?_
         refine JL.as (.int .i64 (w64 (i147 - 1))) ?_
         refine JL.end_ ?_
         refine JQ.then_normal ?_
         exact JQ.again (b168, w64 (i147 - 1)) () (Option.some.inj H1).symm (fun _ h => Heap.to h)
       · refine J.cond_false h161 ?_
         refine J.exit ?_
         refine JQ.then_exit ?_
         refine JQ.then_exit ?_
         refine JQ.blk_exit ?_
         rw [hb1 _ (Option.some.inj H1).symm, fin_brk] at H0
         exact JQ.met b146 () H0 (fun _ h => Heap.to (Heap.pick [0, 1, 3] (by decide) h))
     · clear hit H0
       rintro b156 ⟨⟩ H0
       replace H0 : sample_Pack.y1.k2 out66 b156 = some r := H0
       unfold sample_Pack.y1.k2 at H0
       refine JQ.sub [(5, .pointer (some ⟨b65, 0, none⟩)), (7, .int .i64 b156)] ?_
       refine JQ.turn (Δ' := [At.box b65 41 [.slice Aa67 out66.length c68], At.row Aa67 c68 5 ((flInt .u8).kd) out66 false, At.busy ly ny ry psy asy boy]) (fun _ h => h.to) ?_
       refine JQ.then_normal ?_
       refine J.region ?_
       refine JL.val (.slice Aa67 out66.length c68) (some 32) (yields_load_box 0 0 (holds_box b65 41 [.slice Aa67 out66.length c68]) tyAgg_41) ?_
       refine JL.mv (.int .i64 b156) ?_
       refine JL.pur (.int .u8 (wu8 b156)) (some 34) ?_
       refine JL.buildSl 5 ((flInt .u8).kd) (([(wu8 b156)] : List Int) : List Int) [.int .u8 (wu8 b156)] false (closes_fl rfl) fun b157 => ?_
       obtain ⟨h160, H0⟩ := ite_must H0
       refine JL.append false false 1 3 Aa67 c68 1 out66 (elems_row (some ⟨b157, 0, none⟩) 1 5 ((flInt .u8).kd) ([(wu8 b156)] : List Int) false) Try.underlying41 info_5 (by omega) (by omega) (fun h => h) (.inr ⟨_, rfl⟩) fun Aa158 c159 => ?_
       refine JL.store 0 b65 0 41 [.slice Aa67 out66.length c68] [.slice Aa158 (out66 ++ ([(wu8 b156)] : List Int)).length c159] tySize_41 ?_
       refine JL.end_ ?_
       refine JQ.blk_normal ?_
       obtain rfl := Option.some.inj H0
       exact JQ.rdone (n' := ny) (ρl := ry) (ps := psy) (assign := asy) (body := boy) 0 2 [At.loop ly ny ry psy asy boy 0, At.box b65 41 [.slice Aa158 (out66 ++ ([(wu8 b156)] : List Int)).length c159], At.row Aa158 c159 5 ((flInt .u8).kd) (out66 ++ ([(wu8 b156)] : List Int)) false] (.inl ⟨rfl, rfl⟩) (fun _ h => Heap.to (Heap.pick [2, 0, 1] (by decide) h)) ⟨Aa158, c159, rfl, rfl⟩
   · rintro D172 ly _ _ ⟨Aa173, c174, rfl, rfl⟩
     refine ⟨_, _, rfl, ?_⟩
     obtain ⟨h176, H0⟩ := ite_must H0
     refine JQ.jump0 h176 ?_
     refine JQ.blk_normal ?_
     refine JQ.then_normal ?_
     refine JQ.reX ?_ rfl rfl
     refine JQ.sub [(5, .pointer (some ⟨b8, 0, none⟩))] ?_
     refine JQ.mask [At.mark D172, At.box b8 41 [.slice Aa173 t170.2.length c174], At.row Aa173 c174 5 ((flInt .u8).kd) t170.2 false] [false, true, true, true, false, false] ?_
     refine J.seq ?_
     refine J.region ?_
     refine JL.val (.slice Aa173 t170.2.length c174) (some 37) (yields_load_box 1 0 (holds_box b8 41 [.slice Aa173 t170.2.length c174]) tyAgg_41) ?_
     refine JL.as (.slice Aa173 t170.2.length c174) ?_
     refine JL.as (.int .i64 0) ?_
     refine JL.end_ ?_
     refine JQ.then_normal ?_
     refine JQ.reX ?_ rfl rfl
     refine JQ.sub [(2, .slice Aa173 t170.2.length c174), (3, .int .i64 0)] ?_
     refine JQ.mask [At.mark D172, At.row Aa173 c174 5 ((flInt .u8).kd) t170.2 false] [true, false, true] ?_
     refine J.ret ?_
     obtain rfl := Option.some.inj H0
     exact JQ.doneM (rs := [.tmp 2, .tmp 3]) (vs := [.slice Aa173 t170.2.length c174, .int .i64 0]) [D172] [At.row Aa173 c174 5 ((flInt .u8).kd) t170.2 false] [At.row Aa173 c174 5 ((flInt .u8).kd) t170.2 false] (.inr rfl) ⟨by kernel_rfl, by kernel_rfl, trivial⟩ (fun _ h => h) (fun _ h => Heap.to h) ⟨Aa173, c174, rfl, rfl⟩

theorem ref13_Digit.ok (x1 : Int) (r : Int) (H0 : ref13_Digit.f x1 = some r) :
    Does Try.prog 36 [.int .i64 x1].toArray [] [] false (fun v Δ => v = .int .i64 r ∧ Δ = []) := by
 refine Does.body (vs := [.int .i64 x1]) Try.func36 rfl trivial trivial fun w S => ?_
 unfold ref13_Digit.f at H0
 refine J.seq ?_
 refine J.region ?_
 refine JL.as (.int .i64 0) ?_
 refine JL.end_ ?_
 refine JQ.then_normal ?_
 refine JQ.sub [(0, .int .i64 x1)] ?_
 refine J.seq ?_
 refine J.seq ?_
 refine J.region ?_
 refine JL.mv (.int .i64 x1) ?_
 refine JL.end_ ?_
 refine JQ.then_normal ?_
 refine JQ.sub [(3, .int .i64 x1)] ?_
 refine J.block ?_
 refine J.seq ?_
 refine J.region ?_
 refine JL.pur (.bool (decide (x1 = 0))) (some 5) ?_
 refine JL.as (.bool (decide (x1 = 0))) ?_
 refine JL.end_ ?_
 refine JQ.then_normal ?_
 refine JQ.sub [(3, .int .i64 x1), (4, .bool (decide (x1 = 0)))] ?_
 rcases ite_cases H0 with ⟨h2, H0⟩ | ⟨h2, H0⟩
 · refine J.cond_true h2 ?_
   refine J.seq ?_
   refine J.region ?_
   refine JL.as (.int .i64 0) ?_
   refine JL.end_ ?_
   refine JQ.then_normal ?_
   refine JQ.sub [(2, .int .i64 0)] ?_
   refine J.ret ?_
   refine JQ.blk_ret ?_
   refine JQ.then_ret ?_
   obtain rfl := Option.some.inj H0
   exact JQ.done' (rs := [.tmp 2]) (vs := [.int .i64 0]) [] (.inr rfl) ⟨by kernel_rfl, trivial⟩ (fun _ h => Heap.to h) ⟨rfl, rfl⟩
 · refine J.cond_false h2 ?_
   refine J.seq ?_
   refine J.region ?_
   refine JL.pur (.bool (decide (x1 = (-3)))) (some 7) ?_
   refine JL.as (.bool (decide (x1 = (-3)))) ?_
   refine JL.end_ ?_
   refine JQ.then_normal ?_
   refine JQ.sub [(3, .int .i64 x1), (6, .bool (decide (x1 = (-3))))] ?_
   rcases ite_cases H0 with ⟨h3, H0⟩ | ⟨h3, H0⟩
   · refine J.cond_true h3 ?_
     refine J.seq ?_
     refine J.region ?_
     refine JL.as (.int .i64 1) ?_
     refine JL.end_ ?_
     refine JQ.then_normal ?_
     refine JQ.sub [(2, .int .i64 1)] ?_
     refine J.ret ?_
     refine JQ.blk_ret ?_
     refine JQ.then_ret ?_
     obtain rfl := Option.some.inj H0
     exact JQ.done' (rs := [.tmp 2]) (vs := [.int .i64 1]) [] (.inr rfl) ⟨by kernel_rfl, trivial⟩ (fun _ h => Heap.to h) ⟨rfl, rfl⟩
   · refine J.cond_false h3 ?_
     refine J.seq ?_
     refine J.region ?_
     refine JL.pur (.bool (decide (x1 = (-1)))) (some 9) ?_
     refine JL.as (.bool (decide (x1 = (-1)))) ?_
     refine JL.end_ ?_
     refine JQ.then_normal ?_
     refine JQ.sub [(3, .int .i64 x1), (8, .bool (decide (x1 = (-1))))] ?_
     rcases ite_cases H0 with ⟨h4, H0⟩ | ⟨h4, H0⟩
     · refine J.cond_true h4 ?_
       refine J.seq ?_
       refine J.region ?_
       refine JL.as (.int .i64 2) ?_
       refine JL.end_ ?_
       refine JQ.then_normal ?_
       refine JQ.sub [(2, .int .i64 2)] ?_
       refine J.ret ?_
       refine JQ.blk_ret ?_
       refine JQ.then_ret ?_
       obtain rfl := Option.some.inj H0
       exact JQ.done' (rs := [.tmp 2]) (vs := [.int .i64 2]) [] (.inr rfl) ⟨by kernel_rfl, trivial⟩ (fun _ h => Heap.to h) ⟨rfl, rfl⟩
     · refine J.cond_false h4 ?_
       refine J.seq ?_
       refine J.region ?_
       refine JL.pur (.bool (decide (x1 = 1))) (some 11) ?_
       refine JL.as (.bool (decide (x1 = 1))) ?_
       refine JL.end_ ?_
       refine JQ.then_normal ?_
       refine JQ.sub [(3, .int .i64 x1), (10, .bool (decide (x1 = 1)))] ?_
       rcases ite_cases H0 with ⟨h5, H0⟩ | ⟨h5, H0⟩
       · refine J.cond_true h5 ?_
         refine J.seq ?_
         refine J.region ?_
         refine JL.as (.int .i64 3) ?_
         refine JL.end_ ?_
         refine JQ.then_normal ?_
         refine JQ.sub [(2, .int .i64 3)] ?_
         refine J.ret ?_
         refine JQ.blk_ret ?_
         refine JQ.then_ret ?_
         obtain rfl := Option.some.inj H0
         exact JQ.done' (rs := [.tmp 2]) (vs := [.int .i64 3]) [] (.inr rfl) ⟨by kernel_rfl, trivial⟩ (fun _ h => Heap.to h) ⟨rfl, rfl⟩
       · refine J.cond_false h5 ?_
         refine J.seq ?_
         refine J.region ?_
         refine JL.pur (.bool (decide (x1 = 3))) (some 13) ?_
         refine JL.as (.bool (decide (x1 = 3))) ?_
         refine JL.end_ ?_
         refine JQ.then_normal ?_
         refine JQ.sub [(12, .bool (decide (x1 = 3)))] ?_
         rcases ite_cases H0 with ⟨h6, H0⟩ | ⟨h6, H0⟩
         · refine J.cond_true h6 ?_
           refine J.seq ?_
           refine J.region ?_
           refine JL.as (.int .i64 4) ?_
           refine JL.end_ ?_
           refine JQ.then_normal ?_
           refine JQ.sub [(2, .int .i64 4)] ?_
           refine J.ret ?_
           refine JQ.blk_ret ?_
           refine JQ.then_ret ?_
           obtain rfl := Option.some.inj H0
           exact JQ.done' (rs := [.tmp 2]) (vs := [.int .i64 4]) [] (.inr rfl) ⟨by kernel_rfl, trivial⟩ (fun _ h => Heap.to h) ⟨rfl, rfl⟩
         · refine J.cond_false h6 ?_
           refine J.skip ?_
           refine JQ.blk_normal ?_
           refine JQ.then_normal ?_
           refine JQ.sub [] ?_
           refine J.seq ?_
           refine J.region ?_
           refine JL.as (.int .i64 (-1)) ?_
           refine JL.end_ ?_
           refine JQ.then_normal ?_
           refine J.ret ?_
           obtain rfl := Option.some.inj H0
           exact JQ.done' (rs := [.tmp 2]) (vs := [.int .i64 (-1)]) [] (.inr rfl) ⟨by kernel_rfl, trivial⟩ (fun _ h => Heap.to h) ⟨rfl, rfl⟩

theorem ref13_Check.ok (s1 : (List Int)) (Aa2 : Option Addr) (c3 : Nat) (r : Int) (H0 : ref13_Check.f s1 = some r) :
    Does Try.prog 17 [.slice Aa2 s1.length c3].toArray [At.rd Aa2 c3 ((flInt .i64).kd) s1 true] [] false (fun v Δ => v = .int .i64 r ∧ Δ = []) := by
 refine Does.body (vs := [.slice Aa2 s1.length c3]) Try.func17 rfl ⟨.inl rfl, trivial⟩ trivial fun w S => ?_
 unfold ref13_Check.f at H0
 refine J.seq ?_
 refine J.region ?_
 refine JL.as (.int .i64 0) ?_
 refine JL.end_ ?_
 refine JQ.then_normal ?_
 refine JQ.sub [(0, .slice Aa2 s1.length c3)] ?_
 refine J.seq ?_
 refine J.seq ?_
 refine J.region ?_
 refine JL.mv (.slice Aa2 s1.length c3) ?_
 refine JL.pur (.int .i64 (s1.length : Int)) (some 5) ?_
 refine JL.pur (.bool (decide (256 < (s1.length : Int)))) (some 6) ?_
 refine JL.end_ ?_
 refine JQ.then_normal ?_
 refine JQ.sub [(0, .slice Aa2 s1.length c3), (6, .bool (decide (256 < (s1.length : Int))))] ?_
 rcases ite_cases H0 with ⟨h5, H0⟩ | ⟨h5, H0⟩
 · refine J.cond_true h5 ?_
   refine J.seq ?_
   refine J.region ?_
   refine JL.as (.int .i64 4) ?_
   refine JL.end_ ?_
   refine JQ.then_normal ?_
   refine JQ.sub [(2, .int .i64 4)] ?_
   refine JQ.mask [] [false] ?_
   refine J.ret ?_
   refine JQ.then_ret ?_
   obtain rfl := Option.some.inj H0
   exact JQ.done' (rs := [.tmp 2]) (vs := [.int .i64 4]) [] (.inr rfl) ⟨by kernel_rfl, trivial⟩ (fun _ h => Heap.to h) ⟨rfl, rfl⟩
 · refine J.cond_false h5 ?_
   refine J.skip ?_
   refine JQ.then_normal ?_
   refine JQ.sub [(0, .slice Aa2 s1.length c3)] ?_
   refine J.seq ?_
   refine J.seq ?_
   refine J.region ?_
   refine JL.as (.int .i64 0) ?_
   refine JL.end_ ?_
   refine JQ.then_normal ?_
   obtain ⟨o1, hit, H0⟩ := bind_some H0
   refine J.loop (σ := Int) (τ := Unit) (G := Unit) (G' := Unit) _ o1 (fun s g => [(0, .slice Aa2 s1.length c3), (3, .int .i64 s)]) (fun s g => [At.rd Aa2 c3 ((flInt .i64).kd) s1 true]) (fun t => ref13_Check.k2 = some r) (fun t g => []) (fun t g => []) 0 () hit (fun _ h => Heap.to h) ?_ ?_
   · clear hit
     rintro i24 ⟨⟩ st1 H1 hb1 hr1
     replace H1 : ref13_Check.s1 s1 i24 = some st1 := H1
     unfold ref13_Check.s1 at H1
     refine JQ.sub [(0, .slice Aa2 s1.length c3), (3, .int .i64 i24)] ?_
     refine JQ.turn (Δ' := [At.rd Aa2 c3 ((flInt .i64).kd) s1 true]) (fun _ h => h.to) ?_
     refine J.seq ?_
     refine J.seq ?_
     refine J.region ?_
     refine JL.mv (.int .i64 i24) ?_
     refine JL.mv (.slice Aa2 s1.length c3) ?_
     refine JL.pur (.int .i64 (s1.length : Int)) (some 9) ?_
     refine JL.pur (.bool (decide (i24 < (s1.length : Int)))) (some 10) ?_
     refine JL.end_ ?_
     refine JQ.then_normal ?_
     refine JQ.sub [(0, .slice Aa2 s1.length c3), (3, .int .i64 i24), (10, .bool (decide (i24 < (s1.length : Int))))] ?_
     rcases ite_cases H1 with ⟨h33, H1⟩ | ⟨h33, H1⟩
     · refine J.cond_true h33 ?_
       refine J.skip ?_
       refine JQ.then_normal ?_
       refine JQ.sub [(0, .slice Aa2 s1.length c3), (3, .int .i64 i24)] ?_
       refine J.seq ?_
       refine J.block ?_
       refine J.seq ?_
       refine J.region ?_
       refine JL.mv (.slice Aa2 s1.length c3) ?_
       refine JL.mv (.int .i64 i24) ?_
       obtain ⟨⟨h34, h35⟩, H1⟩ := ite_must H1
       refine JL.ixAddr 0 1 c3 .i64 (elems_rd Aa2 c3 ((flInt .i64).kd) s1 true) Try.underlying22 tySize_3 h34 h35 fun g36 o37 hA => ?_
       subst hA
       refine JL.val (.int .i64 (ix s1 i24)) (some 16) (gives_loadEl (f := (flInt .i64)) 0 0 i24 (elems_rd (some ⟨g36, o37, none⟩) c3 ((flInt .i64).kd) s1 true) h34 h35 tySize_3 (.inr ⟨tyAgg_3, rfl, rfl⟩)) ?_
       obtain ⟨t38, hc39, H1⟩ := bind_some H1
       refine JL.call [] [] [] (ref13_Digit.ok (ix s1 i24) _ hc39) trivial ?_
       rintro _ _ ⟨rfl, rfl⟩
       refine JL.pur (.bool (decide (t38 < 0))) (some 18) ?_
       refine JL.end_ ?_
       refine JQ.then_normal ?_
       refine JQ.sub [(0, .slice (some ⟨g36, o37, none⟩) s1.length c3), (3, .int .i64 i24), (18, .bool (decide (t38 < 0)))] ?_
       rcases ite_cases H1 with ⟨h40, H1⟩ | ⟨h40, H1⟩
       · refine J.cond_true h40 ?_
         refine J.seq ?_
         refine J.region ?_
         refine JL.as (.int .i64 8) ?_
         refine JL.end_ ?_
         refine JQ.then_normal ?_
         refine JQ.sub [(2, .int .i64 8)] ?_
         refine JQ.mask [] [false] ?_
         refine J.ret ?_
         refine JQ.blk_ret ?_
         refine JQ.then_ret ?_
         refine JQ.then_ret ?_
         refine JQ.blk_ret ?_
         refine JQ.met_ret ?_
         refine JQ.then_ret ?_
         rw [hr1 _ (Option.some.inj H1).symm, fin_ret] at H0
         obtain rfl := Option.some.inj H0
         exact JQ.done' (rs := [.tmp 2]) (vs := [.int .i64 8]) [] (.inr rfl) ⟨by kernel_rfl, trivial⟩ (fun _ h => Heap.to h) ⟨rfl, rfl⟩
       · refine J.cond_false h40 ?_
         refine J.skip ?_
         refine JQ.blk_normal ?_
         refine JQ.then_normal ?_
         refine JQ.sub [(0, .slice (some ⟨g36, o37, none⟩) s1.length c3), (3, .int .i64 i24)] ?_
         refine J.region ?_
         refine JL.mv (.int .i64 i24) ?_
         refine JL.pur (.int .i64 (w64 (i24 + 1))) (some 12) ?_
         refine JL.as (.int .i64 (w64 (i24 + 1))) ?_
         refine JL.end_ ?_
         refine JQ.then_normal ?_
         exact JQ.again (w64 (i24 + 1)) () (Option.some.inj H1).symm (fun _ h => Heap.to h)
     · refine J.cond_false h33 ?_
       refine J.exit ?_
       refine JQ.then_exit ?_
       refine JQ.then_exit ?_
       refine JQ.blk_exit ?_
       rw [hb1 _ (Option.some.inj H1).symm, fin_brk] at H0
       exact JQ.met () () H0 (fun _ h => Heap.to (Heap.pick [] (by decide) h))
   · clear hit H0
     rintro ⟨⟩ ⟨⟩ H0
     replace H0 : ref13_Check.k2 = some r := H0
     unfold ref13_Check.k2 at H0
     refine JQ.sub [] ?_
     refine JQ.turn (Δ' := []) (fun _ h => h.to) ?_
     refine JQ.then_normal ?_
     refine J.seq ?_
     refine J.region ?_
     refine JL.as (.int .i64 0) ?_
     refine JL.end_ ?_
     refine JQ.then_normal ?_
     refine J.ret ?_
     obtain rfl := Option.some.inj H0
     exact JQ.done' (rs := [.tmp 2]) (vs := [.int .i64 0]) [] (.inr rfl) ⟨by kernel_rfl, trivial⟩ (fun _ h => Heap.to h) ⟨rfl, rfl⟩

theorem ref13_Pack.ok (s1 : (List Int)) (Aa2 : Option Addr) (c3 : Nat) (r : ((List Int) × Int)) (H0 : ref13_Pack.f s1 = some r) :
    Does Try.prog 20 [.slice Aa2 s1.length c3].toArray [At.rd Aa2 c3 ((flInt .i64).kd) s1 true] [] false (fun v Δ => ∃ A1001 : Option Addr, ∃ c1001 : Nat, v = .tuple #[.slice A1001 r.1.length c1001, .int .i64 r.2] ∧ Δ = [At.row A1001 c1001 5 ((flInt .u8).kd) r.1 false]) := by
 refine Does.body (vs := [.slice Aa2 s1.length c3]) Try.func20 rfl ⟨.inl rfl, trivial⟩ trivial fun w S => ?_
 unfold ref13_Pack.f at H0
 refine J.seq ?_
 refine J.region ?_
 refine JL.as (.slice none 0 0) ?_
 refine JL.as (.int .i64 0) ?_
 refine JL.end_ ?_
 refine JQ.then_normal ?_
 refine JQ.sub [(0, .slice Aa2 s1.length c3)] ?_
 refine J.seq ?_
 refine J.seq ?_
 refine J.region ?_
 refine JL.mv (.slice Aa2 s1.length c3) ?_
 obtain ⟨t5, hc6, H0⟩ := bind_some H0
 refine JL.call [] [] [] (ref13_Check.ok s1 Aa2 c3 _ hc6) ⟨pre_any 0 (view_rd Aa2 c3 ((flInt .i64).kd) s1 true true), trivial⟩ ?_
 rintro _ _ ⟨rfl, rfl⟩
 refine JL.pur (.bool (!decide (t5 = 0))) (some 10) ?_
 refine JL.end_ ?_
 refine JQ.then_normal ?_
 refine JQ.sub [(0, .slice Aa2 s1.length c3), (10, .bool (!decide (t5 = 0)))] ?_
 rcases ite_cases H0 with ⟨h7, H0⟩ | ⟨h7, H0⟩
 · refine J.cond_true h7 ?_
   refine J.seq ?_
   refine J.region ?_
   refine JL.mv (.slice Aa2 s1.length c3) ?_
   obtain ⟨t8, hc9, H0⟩ := bind_some H0
   refine JL.call [] [] [] (ref13_Check.ok s1 Aa2 c3 _ hc9) ⟨pre_any 0 (view_rd Aa2 c3 ((flInt .i64).kd) s1 true true), trivial⟩ ?_
   rintro _ _ ⟨rfl, rfl⟩
   refine JL.as (.slice none 0 0) ?_
   refine JL.as (.int .i64 t8) ?_
   refine JL.end_ ?_
   refine JQ.then_normal ?_
   refine JQ.sub [(2, .slice none 0 0), (3, .int .i64 t8)] ?_
   refine JQ.mask [] [false] ?_
   refine J.ret ?_
   refine JQ.then_ret ?_
   obtain rfl := Option.some.inj H0
   exact JQ.done' (rs := [.tmp 2, .tmp 3]) (vs := [.slice none 0 0, .int .i64 t8]) [At.row none 0 5 ((flInt .u8).kd) ([] : List Int) false] (.inr rfl) ⟨by kernel_rfl, by kernel_rfl, trivial⟩ (fun _ h => Heap.to (Heap.addRow0 (α := Int) 5 ((flInt .u8).kd) false h)) ⟨none, 0, rfl, rfl⟩
 · refine J.cond_false h7 ?_
   refine J.skip ?_
   refine JQ.then_normal ?_
   refine JQ.sub [(0, .slice Aa2 s1.length c3)] ?_
   refine J.seq ?_
   refine J.region ?_
   refine JL.mv (.slice Aa2 s1.length c3) ?_
   refine JL.pur (.int .i64 (s1.length : Int)) (some 14) ?_
   refine JL.pur (.int .i64 (w64 ((s1.length : Int) + 2))) (some 15) ?_
   refine JL.pur (.int .i64 (w64 (Int.tdiv (w64 ((s1.length : Int) + 2)) 3))) (some 16) ?_
   obtain ⟨⟨h11, h12, h13⟩, H0⟩ := ite_must H0
   refine JL.makeSl 5 ((flInt .u8).kd) (0 : Int) Try.underlying41 info_5 (fun _ _ => rfl) h11 h12 (by omega) (by omega) fun b10 => ?_
   refine JL.as (.slice (some ⟨b10, 0, none⟩) (List.replicate (w64 (Int.tdiv (w64 ((s1.length : Int) + 2)) 3)).toNat (0 : Int)).length ((w64 (Int.tdiv (w64 ((s1.length : Int) + 2)) 3)).toNat)) ?_
   refine JL.end_ ?_
   refine JQ.then_normal ?_
   refine JQ.sub [(0, .slice Aa2 s1.length c3), (4, .slice (some ⟨b10, 0, none⟩) (List.replicate (w64 (Int.tdiv (w64 ((s1.length : Int) + 2)) 3)).toNat (0 : Int)).length ((w64 (Int.tdiv (w64 ((s1.length : Int) + 2)) 3)).toNat))] ?_
   refine J.seq ?_
   refine J.seq ?_
   refine J.region ?_
   refine JL.as (.int .i64 0) ?_
   refine JL.end_ ?_
   refine JQ.then_normal ?_
   obtain ⟨o1, hit, H0⟩ := bind_some H0
   refine J.loop (σ := ((List Int) × Int)) (τ := List Int) (G := ((Option Addr) × Nat × (Option Addr) × Nat)) (G' := ((Option Addr) × Nat)) _ o1 (fun s g => [(0, .slice g.1 s1.length g.2.1), (4, .slice g.2.2.1 s.1.length g.2.2.2), (5, .int .i64 s.2)]) (fun s g => [At.rd g.1 g.2.1 ((flInt .i64).kd) s1 true, At.row g.2.2.1 g.2.2.2 5 ((flInt .u8).kd) s.1 false]) (fun t => ref13_Pack.k8 t = some r) (fun t g => [(4, .slice g.1 t.length g.2)]) (fun t g => [At.row g.1 g.2 5 ((flInt .u8).kd) t false]) ((List.replicate (w64 (Int.tdiv (w64 ((s1.length : Int) + 2)) 3)).toNat (0 : Int)), 0) (Aa2, c3, (some ⟨b10, 0, none⟩), (w64 (Int.tdiv (w64 ((s1.length : Int) + 2)) 3)).toNat) hit (fun _ h => Heap.to h) ?_ ?_
   · clear hit
     rintro ⟨out76, i80⟩ ⟨Aa73, c74, Aa77, c78⟩ st1 H1 hb1 hr1
     replace H1 : ref13_Pack.s7 s1 out76 i80 = some st1 := H1
     unfold ref13_Pack.s7 at H1
     refine JQ.sub [(0, .slice Aa73 s1.length c74), (4, .slice Aa77 out76.length c78), (5, .int .i64 i80)] ?_
     refine JQ.turn (Δ' := [At.rd Aa73 c74 ((flInt .i64).kd) s1 true, At.row Aa77 c78 5 ((flInt .u8).kd) out76 false]) (fun _ h => h.to) ?_
     refine J.seq ?_
     refine J.seq ?_
     refine J.region ?_
     refine JL.mv (.int .i64 i80) ?_
     refine JL.mv (.slice Aa73 s1.length c74) ?_
     refine JL.pur (.int .i64 (s1.length : Int)) (some 20) ?_
     refine JL.pur (.bool (decide (i80 < (s1.length : Int)))) (some 21) ?_
     refine JL.end_ ?_
     refine JQ.then_normal ?_
     refine JQ.sub [(0, .slice Aa73 s1.length c74), (4, .slice Aa77 out76.length c78), (5, .int .i64 i80), (21, .bool (decide (i80 < (s1.length : Int))))] ?_
     rcases ite_cases H1 with ⟨h112, H1⟩ | ⟨h112, H1⟩
     · refine J.cond_true h112 ?_
       refine J.skip ?_
       refine JQ.then_normal ?_
       refine JQ.sub [(0, .slice Aa73 s1.length c74), (4, .slice Aa77 out76.length c78), (5, .int .i64 i80)] ?_
       refine J.seq ?_
       refine J.block ?_
       refine J.seq ?_
       refine J.region ?_
       refine JL.mv (.slice Aa73 s1.length c74) ?_
       refine JL.mv (.int .i64 i80) ?_
       obtain ⟨⟨h113, h114⟩, H1⟩ := ite_must H1
       refine JL.ixAddr 0 1 c74 .i64 (elems_rd Aa73 c74 ((flInt .i64).kd) s1 true) Try.underlying22 tySize_3 h113 h114 fun g115 o116 hA => ?_
       subst hA
       refine JL.val (.int .i64 (ix s1 i80)) (some 27) (gives_loadEl (f := (flInt .i64)) 0 0 i80 (elems_rd (some ⟨g115, o116, none⟩) c74 ((flInt .i64).kd) s1 true) h113 h114 tySize_3 (.inr ⟨tyAgg_3, rfl, rfl⟩)) ?_
       obtain ⟨t117, hc118, H1⟩ := bind_some H1
       refine JL.call [] [] [] (ref13_Digit.ok (ix s1 i80) _ hc118) trivial ?_
       rintro _ _ ⟨rfl, rfl⟩
       refine JL.as (.int .i64 t117) ?_
       refine JL.end_ ?_
       refine JQ.then_normal ?_
       refine JQ.sub [(0, .slice (some ⟨g115, o116, none⟩) s1.length c74), (4, .slice Aa77 out76.length c78), (5, .int .i64 i80), (6, .int .i64 t117)] ?_
       refine J.seq ?_
       refine J.seq ?_
       refine J.region ?_
       refine JL.as (.int .i64 0) ?_
       refine JL.end_ ?_
       refine JQ.then_normal ?_
       obtain ⟨o2, hit, H1⟩ := bind_some H1
       refine J.loop (σ := (Int × Int)) (τ := Int) (G := Unit) (G' := Unit) _ o2 (fun s g => [(0, .slice (some ⟨g115, o116, none⟩) s1.length c74), (4, .slice Aa77 out76.length c78), (5, .int .i64 i80), (6, .int .i64 s.1), (7, .int .i64 s.2)]) (fun s g => [At.rd (some ⟨g115, o116, none⟩) c74 ((flInt .i64).kd) s1 true, At.row Aa77 c78 5 ((flInt .u8).kd) out76 false]) (fun t => ref13_Pack.k10 out76 i80 t = some st1) (fun t g => [(0, .slice (some ⟨g115, o116, none⟩) s1.length c74), (4, .slice Aa77 out76.length c78), (5, .int .i64 i80), (6, .int .i64 t)]) (fun t g => [At.rd (some ⟨g115, o116, none⟩) c74 ((flInt .i64).kd) s1 true, At.row Aa77 c78 5 ((flInt .u8).kd) out76 false]) (t117, 0) () hit (fun _ h => Heap.to h) ?_ ?_
       · clear hit
         rintro ⟨d125, k126⟩ ⟨⟩ st2 H2 hb2 hr2
         replace H2 : ref13_Pack.s9 i80 d125 k126 = some st2 := H2
         unfold ref13_Pack.s9 at H2
         refine JQ.sub [(0, .slice (some ⟨g115, o116, none⟩) s1.length c74), (4, .slice Aa77 out76.length c78), (5, .int .i64 i80), (6, .int .i64 d125), (7, .int .i64 k126)] ?_
         refine JQ.turn (Δ' := [At.rd (some ⟨g115, o116, none⟩) c74 ((flInt .i64).kd) s1 true, At.row Aa77 c78 5 ((flInt .u8).kd) out76 false]) (fun _ h => h.to) ?_
         refine J.seq ?_
         refine J.seq ?_
         refine J.region ?_
         refine JL.mv (.int .i64 k126) ?_
         refine JL.mv (.int .i64 i80) ?_
         refine JL.pur (.int .i64 (Int.tmod i80 3)) (some 31) ?_
         refine JL.pur (.bool (decide (k126 < Int.tmod i80 3))) (some 32) ?_
         refine JL.end_ ?_
         refine JQ.then_normal ?_
         refine JQ.sub [(0, .slice (some ⟨g115, o116, none⟩) s1.length c74), (4, .slice Aa77 out76.length c78), (5, .int .i64 i80), (6, .int .i64 d125), (7, .int .i64 k126), (32, .bool (decide (k126 < Int.tmod i80 3)))] ?_
         rcases ite_cases H2 with ⟨h138, H2⟩ | ⟨h138, H2⟩
         · refine J.cond_true h138 ?_
           refine J.skip ?_
           refine JQ.then_normal ?_
           refine JQ.sub [(0, .slice (some ⟨g115, o116, none⟩) s1.length c74), (4, .slice Aa77 out76.length c78), (5, .int .i64 i80), (6, .int .i64 d125), (7, .int .i64 k126)] ?_
           refine J.seq ?_
           refine J.block ?_
           refine J.region ?_
           refine JL.mv (.int .i64 d125) ?_
           refine JL.pur (.int .i64 (w64 (5 * d125))) (some 36) ?_
           refine JL.as (.int .i64 (w64 (5 * d125))) ?_
           refine JL.end_ ?_
           refine JQ.blk_normal ?_
           refine JQ.then_normal ?_
           refine JQ.sub [(0, .slice (some ⟨g115, o116, none⟩) s1.length c74), (4, .slice Aa77 out76.length c78), (5, .int .i64 i80), (6, .int .i64 (w64 (5 * d125))), (7, .int .i64 k126)] ?_
           refine J.region ?_
           refine JL.mv (.int .i64 k126) ?_
           refine JL.pur (.int .i64 (w64 (k126 + 1))) (some 34) ?_
           refine JL.as (.int .i64 (w64 (k126 + 1))) ?_
           refine JL.end_ ?_
           refine JQ.then_normal ?_
           exact JQ.again (w64 (5 * d125), w64 (k126 + 1)) () (Option.some.inj H2).symm (fun _ h => Heap.to h)
         · refine J.cond_false h138 ?_
           refine J.exit ?_
           refine JQ.then_exit ?_
           refine JQ.then_exit ?_
           refine JQ.blk_exit ?_
           rw [hb2 _ (Option.some.inj H2).symm, fin_brk] at H1
           exact JQ.met d125 () H1 (fun _ h => Heap.to h)
       · clear hit H1
         rintro d128 ⟨⟩ H1
         replace H1 : ref13_Pack.k10 out76 i80 d128 = some st1 := H1
         unfold ref13_Pack.k10 at H1
         refine JQ.sub [(0, .slice (some ⟨g115, o116, none⟩) s1.length c74), (4, .slice Aa77 out76.length c78), (5, .int .i64 i80), (6, .int .i64 d128)] ?_
         refine JQ.turn (Δ' := [At.rd (some ⟨g115, o116, none⟩) c74 ((flInt .i64).kd) s1 true, At.row Aa77 c78 5 ((flInt .u8).kd) out76 false]) (fun _ h => h.to) ?_
         refine JQ.then_normal ?_
         refine J.region ?_
         refine JL.mv (.slice Aa77 out76.length c78) ?_
         refine JL.mv (.int .i64 i80) ?_
         refine JL.pur (.int .i64 (w64 (Int.tdiv i80 3))) (some 39) ?_
         obtain ⟨⟨h129, h130⟩, H1⟩ := ite_must H1
         refine JL.ixAddr 1 1 c78 .i64 (elems_row Aa77 c78 5 ((flInt .u8).kd) out76 false) Try.underlying41 tySize_5 h129 h130 fun g131 o132 hA => ?_
         subst hA
         refine JL.val (.int .u8 (ix out76 (w64 (Int.tdiv i80 3)))) (some 41) (gives_loadEl (f := (flInt .u8)) 1 0 (w64 (Int.tdiv i80 3)) (elems_row (some ⟨g131, o132, none⟩) c78 5 ((flInt .u8).kd) out76 false) h129 h130 tySize_5 (.inr ⟨tyAgg_5, rfl, rfl⟩)) ?_
         refine JL.mv (.int .i64 d128) ?_
         refine JL.pur (.int .u8 (wu8 d128)) (some 43) ?_
         refine JL.pur (.int .u8 (wu8 ((ix out76 (w64 (Int.tdiv i80 3))) + (wu8 d128)))) (some 44) ?_
         refine JL.ixAddr' 1 1 c78 .i64 (elems_row (some ⟨g131, o132, none⟩) c78 5 ((flInt .u8).kd) out76 false) Try.underlying41 tySize_5 h129 h130 ?_
         refine JL.storeEl (E := 5) g131 o132 0 c78 1 (flInt .u8) out76 (w64 (Int.tdiv i80 3)) false (wu8 ((ix out76 (w64 (Int.tdiv i80 3))) + (wu8 d128))) h129 h130 tySize_5 ?_
         obtain ⟨l137, el137, H1⟩ := lt_some H1
         have nl137 : out76.length = l137.length := by rw [← el137, List.length_set]
         rw [el137]
         refine JQ.len (fun n : Nat => [(0, .slice (some ⟨g115, o116, none⟩) s1.length c74), (4, .slice (some ⟨g131, o132, none⟩) n c78), (5, .int .i64 i80), (6, .int .i64 d128), (37, .slice (some ⟨g131, o132, none⟩) n c78), (38, .int .i64 i80), (39, .int .i64 (w64 (Int.tdiv i80 3))), (41, .int .u8 (ix out76 (w64 (Int.tdiv i80 3)))), (42, .int .i64 d128), (43, .int .u8 (wu8 d128)), (44, .int .u8 (wu8 ((ix out76 (w64 (Int.tdiv i80 3))) + (wu8 d128))))]) nl137 ?_
         refine JQ.sub [(0, .slice (some ⟨g115, o116, none⟩) s1.length c74), (4, .slice (some ⟨g131, o132, none⟩) l137.length c78), (5, .int .i64 i80), (6, .int .i64 d128), (37, .slice (some ⟨g131, o132, none⟩) l137.length c78), (38, .int .i64 i80), (39, .int .i64 (w64 (Int.tdiv i80 3))), (41, .int .u8 (ix out76 (w64 (Int.tdiv i80 3)))), (42, .int .i64 d128), (43, .int .u8 (wu8 d128)), (44, .int .u8 (wu8 ((ix out76 (w64 (Int.tdiv i80 3))) + (wu8 d128))))] ?_
         refine JL.end_ ?_
         refine JQ.blk_normal ?_
         refine JQ.then_normal ?_
         refine JQ.sub [(0, .slice (some ⟨g115, o116, none⟩) s1.length c74), (4, .slice (some ⟨g131, o132, none⟩) l137.length c78), (5, .int .i64 i80)] ?_
         refine J.region ?_
         refine JL.mv (.int .i64 i80) ?_
         refine JL.pur (.int .i64 (w64 (i80 + 1))) (some 23) ?_
         refine JL.as (.int .i64 (w64 (i80 + 1))) ?_
         refine JL.end_ ?_
         refine JQ.then_normal ?_
         exact JQ.again (l137, w64 (i80 + 1)) ((some ⟨g115, o116, none⟩), c74, (some ⟨g131, o132, none⟩), c78) (Option.some.inj H1).symm (fun _ h => Heap.to h)
     · refine J.cond_false h112 ?_
       refine J.exit ?_
       refine JQ.then_exit ?_
       refine JQ.then_exit ?_
       refine JQ.blk_exit ?_
       rw [hb1 _ (Option.some.inj H1).symm, fin_brk] at H0
       exact JQ.met out76 (Aa77, c78) H0 (fun _ h => Heap.to (Heap.pick [1] (by decide) h))
   · clear hit H0
     rintro out108 ⟨Aa109, c110⟩ H0
     replace H0 : ref13_Pack.k8 out108 = some r := H0
     unfold ref13_Pack.k8 at H0
     refine JQ.sub [(4, .slice Aa109 out108.length c110)] ?_
     refine JQ.turn (Δ' := [At.row Aa109 c110 5 ((flInt .u8).kd) out108 false]) (fun _ h => h.to) ?_
     refine JQ.then_normal ?_
     refine J.seq ?_
     refine J.region ?_
     refine JL.mv (.slice Aa109 out108.length c110) ?_
     refine JL.as (.slice Aa109 out108.length c110) ?_
     refine JL.as (.int .i64 0) ?_
     refine JL.end_ ?_
     refine JQ.then_normal ?_
     refine JQ.sub [(2, .slice Aa109 out108.length c110), (3, .int .i64 0)] ?_
     refine J.ret ?_
     obtain rfl := Option.some.inj H0
     exact JQ.done' (rs := [.tmp 2, .tmp 3]) (vs := [.slice Aa109 out108.length c110, .int .i64 0]) [At.row Aa109 c110 5 ((flInt .u8).kd) out108 false] (.inr rfl) ⟨by kernel_rfl, by kernel_rfl, trivial⟩ (fun _ h => Heap.to h) ⟨Aa109, c110, rfl, rfl⟩

theorem sample_Unpack_1.ok (x1 : Int) (r : Bool) (H0 : sample_Unpack_1.f x1 = some r) :
    Does Try.prog 38 [.int .i64 x1].toArray [] [] false (fun v Δ => v = .bool r ∧ Δ = []) := by
 refine Does.body (vs := [.int .i64 x1]) Try.func38 rfl trivial trivial fun w S => ?_
 unfold sample_Unpack_1.f at H0
 refine J.seq ?_
 refine J.region ?_
 refine JL.as (.bool false) ?_
 refine JL.end_ ?_
 refine JQ.then_normal ?_
 refine JQ.sub [(0, .int .i64 x1)] ?_
 refine J.seq ?_
 refine J.region ?_
 refine JL.mv (.int .i64 x1) ?_
 refine JL.pur (.bool (!decide (x1 = 0))) (some 4) ?_
 refine JL.as (.bool (!decide (x1 = 0))) ?_
 refine JL.end_ ?_
 refine JQ.then_normal ?_
 refine JQ.sub [(2, .bool (!decide (x1 = 0)))] ?_
 refine J.ret ?_
 obtain rfl := Option.some.inj H0
 exact JQ.done' (rs := [.tmp 2]) (vs := [.bool (!decide (x1 = 0))]) [] (.inr rfl) ⟨by kernel_rfl, trivial⟩ (fun _ h => Heap.to h) ⟨rfl, rfl⟩

theorem slices_IndexFunc__int_int__sample_Unpack_1.ok (s1 : (List Int)) (Aa2 : Option Addr) (c3 : Nat) (r : Int) (H0 : slices_IndexFunc__int_int__sample_Unpack_1.f s1 = some r) :
    Does Try.prog 51 [.slice Aa2 s1.length c3, .func (.func 38) #[] #[]].toArray [At.rd Aa2 c3 ((flInt .i64).kd) s1 true] [] false (fun v Δ => v = .int .i64 r ∧ Δ = []) := by
 refine Does.body (vs := [.slice Aa2 s1.length c3, .func (.func 38) #[] #[]]) Try.func51 rfl ⟨.inl rfl, trivial⟩ trivial fun w S => ?_
 unfold slices_IndexFunc__int_int__sample_Unpack_1.f at H0
 refine J.seq ?_
 refine J.region ?_
 refine JL.as (.int .i64 0) ?_
 refine JL.end_ ?_
 refine JQ.then_normal ?_
 refine JQ.sub [(0, .slice Aa2 s1.length c3), (1, .func (.func 38) #[] #[])] ?_
 refine J.seq ?_
 refine J.seq ?_
 refine J.region ?_
 refine JL.mv (.slice Aa2 s1.length c3) ?_
 refine JL.pur (.int .i64 (s1.length : Int)) (some 7) ?_
 refine JL.mv (.int .i64 0) ?_
 refine JL.end_ ?_
 refine JQ.then_normal ?_
 refine JQ.sub [(0, .slice Aa2 s1.length c3), (1, .func (.func 38) #[] #[]), (7, .int .i64 (s1.length : Int)), (8, .int .i64 0)] ?_
 obtain ⟨o1, hit, H0⟩ := bind_some H0
 refine J.loop (σ := Int) (τ := Unit) (G := Unit) (G' := Unit) _ o1 (fun s g => [(0, .slice Aa2 s1.length c3), (1, .func (.func 38) #[] #[]), (7, .int .i64 (s1.length : Int)), (8, .int .i64 s)]) (fun s g => [At.rd Aa2 c3 ((flInt .i64).kd) s1 true]) (fun t => slices_IndexFunc__int_int__sample_Unpack_1.k2 = some r) (fun t g => []) (fun t g => []) 0 () hit (fun _ h => Heap.to h) ?_ ?_
 · clear hit
   rintro x23 ⟨⟩ st1 H1 hb1 hr1
   replace H1 : slices_IndexFunc__int_int__sample_Unpack_1.s1 s1 x23 = some st1 := H1
   unfold slices_IndexFunc__int_int__sample_Unpack_1.s1 at H1
   refine JQ.sub [(0, .slice Aa2 s1.length c3), (1, .func (.func 38) #[] #[]), (7, .int .i64 (s1.length : Int)), (8, .int .i64 x23)] ?_
   refine JQ.turn (Δ' := [At.rd Aa2 c3 ((flInt .i64).kd) s1 true]) (fun _ h => h.to) ?_
   refine J.seq ?_
   refine J.region ?_
   refine JL.pur (.bool (decide (x23 < (s1.length : Int)))) (some 9) ?_
   refine JL.end_ ?_
   refine JQ.then_normal ?_
   refine J.seq ?_
   rcases ite_cases H1 with ⟨h32, H1⟩ | ⟨h32, H1⟩
   · refine J.cond_true h32 ?_
     refine J.skip ?_
     refine JQ.then_normal ?_
     refine JQ.sub [(0, .slice Aa2 s1.length c3), (1, .func (.func 38) #[] #[]), (7, .int .i64 (s1.length : Int)), (8, .int .i64 x23)] ?_
     refine J.seq ?_
     refine J.block ?_
     refine J.seq ?_
     refine J.region ?_
     refine JL.mv (.int .i64 x23) ?_
     refine JL.as (.int .i64 x23) ?_
     refine JL.end_ ?_
     refine JQ.then_normal ?_
     refine JQ.sub [(0, .slice Aa2 s1.length c3), (1, .func (.func 38) #[] #[]), (5, .int .i64 x23), (7, .int .i64 (s1.length : Int)), (8, .int .i64 x23)] ?_
     refine J.seq ?_
     refine J.region ?_
     refine JL.mv (.func (.func 38) #[] #[]) ?_
     refine JL.mv (.slice Aa2 s1.length c3) ?_
     refine JL.mv (.int .i64 x23) ?_
     obtain ⟨⟨h33, h34⟩, H1⟩ := ite_must H1
     refine JL.ixAddr 0 1 c3 .i64 (elems_rd Aa2 c3 ((flInt .i64).kd) s1 true) Try.underlying22 tySize_3 h33 h34 fun g35 o36 hA => ?_
     subst hA
     refine JL.val (.int .i64 (ix s1 x23)) (some 15) (gives_loadEl (f := (flInt .i64)) 0 0 x23 (elems_rd (some ⟨g35, o36, none⟩) c3 ((flInt .i64).kd) s1 true) h33 h34 tySize_3 (.inr ⟨tyAgg_3, rfl, rfl⟩)) ?_
     obtain ⟨t37, hc38, H1⟩ := bind_some H1
     refine JL.call [] [] [] (sample_Unpack_1.ok (ix s1 x23) _ hc38) trivial ?_
     rintro _ _ ⟨rfl, rfl⟩
     refine JL.end_ ?_
     refine JQ.then_normal ?_
     refine JQ.sub [(0, .slice (some ⟨g35, o36, none⟩) s1.length c3), (1, .func (.func 38) #[] #[]), (5, .int .i64 x23), (7, .int .i64 (s1.length : Int)), (8, .int .i64 x23), (16, .bool t37)] ?_
     rcases ite_cases H1 with ⟨h39, H1⟩ | ⟨h39, H1⟩
     · refine J.cond_true h39 ?_
       refine J.seq ?_
       refine J.region ?_
       refine JL.mv (.int .i64 x23) ?_
       refine JL.as (.int .i64 x23) ?_
       refine JL.end_ ?_
       refine JQ.then_normal ?_
       refine JQ.sub [(4, .int .i64 x23)] ?_
       refine JQ.mask [] [false] ?_
       refine J.ret ?_
       refine JQ.blk_ret ?_
       refine JQ.then_ret ?_
       refine JQ.then_ret ?_
       refine JQ.blk_ret ?_
       refine JQ.met_ret ?_
       refine JQ.then_ret ?_
       rw [hr1 _ (Option.some.inj H1).symm, fin_ret] at H0
       obtain rfl := Option.some.inj H0
       exact JQ.done' (rs := [.tmp 4]) (vs := [.int .i64 x23]) [] (.inr rfl) ⟨by kernel_rfl, trivial⟩ (fun _ h => Heap.to h) ⟨rfl, rfl⟩
     · refine J.cond_false h39 ?_
       refine J.skip ?_
       refine JQ.blk_normal ?_
       refine JQ.then_normal ?_
       refine JQ.sub [(0, .slice (some ⟨g35, o36, none⟩) s1.length c3), (1, .func (.func 38) #[] #[]), (7, .int .i64 (s1.length : Int)), (8, .int .i64 x23)] ?_
       refine J.region ?_
       refine JL.pur (.int .i64 (w64 (x23 + 1))) (some 18) ?_
       refine JL.mv (.int .i64 (w64 (x23 + 1))) ?_
       refine JL.end_ ?_
       refine JQ.then_normal ?_
       exact JQ.again (w64 (x23 + 1)) () (Option.some.inj H1).symm (fun _ h => Heap.to h)
   · refine J.cond_false h32 ?_
     refine J.exit ?_
     refine JQ.then_exit ?_
     refine JQ.then_exit ?_
     refine JQ.blk_exit ?_
     rw [hb1 _ (Option.some.inj H1).symm, fin_brk] at H0
     exact JQ.met () () H0 (fun _ h => Heap.to (Heap.pick [] (by decide) h))
 · clear hit H0
   rintro ⟨⟩ ⟨⟩ H0
   replace H0 : slices_IndexFunc__int_int__sample_Unpack_1.k2 = some r := H0
   unfold slices_IndexFunc__int_int__sample_Unpack_1.k2 at H0
   refine JQ.sub [] ?_
   refine JQ.turn (Δ' := []) (fun _ h => h.to) ?_
   refine JQ.then_normal ?_
   refine J.seq ?_
   refine J.region ?_
   refine JL.as (.int .i64 (-1)) ?_
   refine JL.end_ ?_
   refine JQ.then_normal ?_
   refine J.ret ?_
   obtain rfl := Option.some.inj H0
   exact JQ.done' (rs := [.tmp 4]) (vs := [.int .i64 (-1)]) [] (.inr rfl) ⟨by kernel_rfl, trivial⟩ (fun _ h => Heap.to h) ⟨rfl, rfl⟩

theorem slices_ContainsFunc__int_int__sample_Unpack_1.ok (s1 : (List Int)) (Aa2 : Option Addr) (c3 : Nat) (r : Bool) (H0 : slices_ContainsFunc__int_int__sample_Unpack_1.f s1 = some r) :
    Does Try.prog 34 [.slice Aa2 s1.length c3, .func (.func 38) #[] #[]].toArray [At.rd Aa2 c3 ((flInt .i64).kd) s1 true] [] false (fun v Δ => v = .bool r ∧ Δ = []) := by
 refine Does.body (vs := [.slice Aa2 s1.length c3, .func (.func 38) #[] #[]]) Try.func34 rfl ⟨.inl rfl, trivial⟩ trivial fun w S => ?_
 unfold slices_ContainsFunc__int_int__sample_Unpack_1.f at H0
 refine J.seq ?_
 refine J.region ?_
 refine JL.as (.bool false) ?_
 refine JL.end_ ?_
 refine JQ.then_normal ?_
 refine JQ.sub [(0, .slice Aa2 s1.length c3), (1, .func (.func 38) #[] #[])] ?_
 refine J.seq ?_
 refine J.region ?_
 refine JL.mv (.slice Aa2 s1.length c3) ?_
 refine JL.mv (.func (.func 38) #[] #[]) ?_
 obtain ⟨t5, hc6, H0⟩ := bind_some H0
 refine JL.call [] [] [] (slices_IndexFunc__int_int__sample_Unpack_1.ok s1 Aa2 c3 _ hc6) ⟨pre_any 0 (view_rd Aa2 c3 ((flInt .i64).kd) s1 true true), trivial⟩ ?_
 rintro _ _ ⟨rfl, rfl⟩
 refine JL.pur (.bool (decide (0 ≤ t5))) (some 8) ?_
 refine JL.as (.bool (decide (0 ≤ t5))) ?_
 refine JL.end_ ?_
 refine JQ.then_normal ?_
 refine JQ.sub [(4, .bool (decide (0 ≤ t5)))] ?_
 refine JQ.mask [] [false] ?_
 refine J.ret ?_
 obtain rfl := Option.some.inj H0
 exact JQ.done' (rs := [.tmp 4]) (vs := [.bool (decide (0 ≤ t5))]) [] (.inr rfl) ⟨by kernel_rfl, trivial⟩ (fun _ h => Heap.to h) ⟨rfl, rfl⟩

theorem slices_Clip__int_int.ok (s1 : (List Int)) (Aa2 : Option Addr) (c3 : Nat) (r : (List Int)) (H0 : slices_Clip__int_int.f s1 = some r) :
    Does Try.prog 39 [.slice Aa2 s1.length c3].toArray [At.rd Aa2 c3 ((flInt .i64).kd) s1 true] [] true (fun v Δ => ∃ A1001 : Option Addr, ∃ c1001 : Nat, v = .slice A1001 r.length c1001 ∧ Δ = [At.rd A1001 c1001 ((flInt .i64).kd) r true]) := by
 refine Does.body (vs := [.slice Aa2 s1.length c3]) Try.func39 rfl ⟨.inl rfl, trivial⟩ trivial fun w S => ?_
 unfold slices_Clip__int_int.f at H0
 refine J.seq ?_
 refine J.region ?_
 refine JL.as (.slice none 0 0) ?_
 refine JL.end_ ?_
 refine JQ.then_normal ?_
 refine JQ.sub [(0, .slice Aa2 s1.length c3)] ?_
 refine J.seq ?_
 refine J.region ?_
 refine JL.mv (.slice Aa2 s1.length c3) ?_
 refine JL.mv (.slice Aa2 s1.length c3) ?_
 refine JL.pur (.int .i64 (s1.length : Int)) (some 5) ?_
 refine JL.mv (.slice Aa2 s1.length c3) ?_
 refine JL.pur (.int .i64 (s1.length : Int)) (some 7) ?_
 obtain ⟨⟨h9, h10, h11, h12⟩, H0⟩ := ite_must H0
 refine JQ.capLe 0 Aa2 c3 ((flInt .i64).kd) s1 true fun h8 => ?_
 refine JL.cut 0 ((s1.length : Int).toNat) ((s1.length : Int).toNat) 0 Aa2 c3 ((flInt .i64).kd) s1 true Try.underlying22 tySize_3 (.inr ⟨.i64, (s1.length : Int), by kernel_rfl, h9, rfl⟩) (.inr ⟨.i64, (s1.length : Int), by kernel_rfl, h11, rfl⟩) (.inl ⟨rfl, rfl⟩) (.inr (by simp)) (by omega) (by omega) (by omega) (.inl (by omega)) fun Aa5 c6 => ?_
 refine JL.as (.slice Aa5 ((s1.take ((s1.length : Int).toNat)).drop 0).length c6) ?_
 refine JL.end_ ?_
 refine JQ.then_normal ?_
 refine JQ.sub [(2, .slice Aa5 ((s1.take ((s1.length : Int).toNat)).drop 0).length c6)] ?_
 refine JQ.mask [At.rd Aa5 c6 ((flInt .i64).kd) ((s1.take ((s1.length : Int).toNat)).drop 0) true] [false, true] ?_
 refine J.ret ?_
 obtain rfl := Option.some.inj H0
 exact JQ.done' (rs := [.tmp 2]) (vs := [.slice Aa5 ((s1.take ((s1.length : Int).toNat)).drop 0).length c6]) [At.rd Aa5 c6 ((flInt .i64).kd) ((s1.take ((s1.length : Int).toNat)).drop 0) true] (.inr rfl) ⟨by kernel_rfl, trivial⟩ (fun _ h => Heap.to h) ⟨Aa5, c6, rfl, rfl⟩

theorem sample_Unpack.ok (b1 : (List Int)) (Aa2 : Option Addr) (c3 : Nat) (n5 : Int) (r : ((List Int) × Int)) (H0 : sample_Unpack.f b1 n5 = some r) :
    Does Try.prog 21 [.slice Aa2 b1.length c3, .int .i64 n5].toArray [At.rd Aa2 c3 ((flInt .u8).kd) b1 true] [] true (fun v Δ => ∃ A1001 : Option Addr, ∃ c1001 : Nat, v = .tuple #[.slice A1001 r.1.length c1001, .int .i64 r.2] ∧ Δ = [At.rd A1001 c1001 ((flInt .i64).kd) r.1 true]) := by
 refine Does.body (vs := [.slice Aa2 b1.length c3, .int .i64 n5]) Try.func21 rfl ⟨.inl rfl, trivial⟩ trivial fun w S => ?_
 unfold sample_Unpack.f at H0
 refine J.seq ?_
 refine J.region ?_
 refine JL.as (.slice none 0 0) ?_
 refine JL.as (.int .i64 0) ?_
 refine JL.end_ ?_
 refine JQ.then_normal ?_
 refine JQ.sub [(0, .slice Aa2 b1.length c3), (1, .int .i64 n5)] ?_
 refine J.seq ?_
 refine J.join (T := Bool) (G := Unit) (fun t => sample_Unpack.k1 b1 n5 t = some r) (fun t g => [(0, .slice Aa2 b1.length c3), (1, .int .i64 n5), (15, .bool t)]) (fun t g => [At.rd Aa2 c3 ((flInt .u8).kd) b1 true]) ?_ ?_
 · refine J.region ?_
   refine JL.mv (.int .i64 n5) ?_
   refine JL.pur (.bool (decide (n5 < 0))) (some 11) ?_
   refine JL.mv (.bool (decide (n5 < 0))) ?_
   rcases ite_cases H0 with ⟨h296, H0⟩ | ⟨h296, H0⟩
   · refine JL.off 2 12 false (some 13) h296 ?_
     refine JL.off 2 12 false (some 14) h296 ?_
     refine JL.val (.bool true) (some 15) (gives_pickT h296) ?_
     refine JL.end_ ?_
     refine JQ.then_normal ?_
     exact JQ.meet true () H0 (fun _ h => Heap.to h)
   · refine JL.on 2 12 h296 ?_
     refine JL.mv (.int .i64 n5) ?_
     refine JL.on 2 12 h296 ?_
     refine JL.pur (.bool (decide (256 < n5))) (some 14) ?_
     refine JL.val (.bool (decide (256 < n5))) (some 15) (gives_pickF h296) ?_
     refine JL.end_ ?_
     refine JQ.then_normal ?_
     exact JQ.meet (decide (256 < n5)) () H0 (fun _ h => Heap.to h)
 · clear H0
   rintro x7 ⟨⟩ H0
   replace H0 : sample_Unpack.k1 b1 n5 x7 = some r := H0
   unfold sample_Unpack.k1 at H0
   refine JQ.sub [(0, .slice Aa2 b1.length c3), (1, .int .i64 n5), (15, .bool x7)] ?_
   refine JQ.turn (Δ' := [At.rd Aa2 c3 ((flInt .u8).kd) b1 true]) (fun _ h => h.to) ?_
   rcases ite_cases H0 with ⟨h8, H0⟩ | ⟨h8, H0⟩
   · refine J.cond_true h8 ?_
     refine J.seq ?_
     refine J.region ?_
     refine JL.as (.slice none 0 0) ?_
     refine JL.as (.int .i64 2) ?_
     refine JL.end_ ?_
     refine JQ.then_normal ?_
     refine JQ.sub [(4, .slice none 0 0), (5, .int .i64 2)] ?_
     refine JQ.mask [] [false] ?_
     refine J.ret ?_
     refine JQ.then_ret ?_
     obtain rfl := Option.some.inj H0
     exact JQ.done' (rs := [.tmp 4, .tmp 5]) (vs := [.slice none 0 0, .int .i64 2]) [At.rd none 0 ((flInt .i64).kd) ([] : List Int) true] (.inr rfl) ⟨by kernel_rfl, by kernel_rfl, trivial⟩ (fun _ h => Heap.to (Heap.addRd0 (α := Int) ((flInt .i64).kd) true h)) ⟨none, 0, rfl, rfl⟩
   · refine J.cond_false h8 ?_
     refine J.skip ?_
     refine JQ.then_normal ?_
     refine JQ.sub [(0, .slice Aa2 b1.length c3), (1, .int .i64 n5)] ?_
     refine J.seq ?_
     refine J.seq ?_
     refine J.region ?_
     refine JL.mv (.slice Aa2 b1.length c3) ?_
     refine JL.pur (.int .i64 (b1.length : Int)) (some 17) ?_
     refine JL.mv (.int .i64 n5) ?_
     refine JL.pur (.int .i64 (w64 (n5 + 2))) (some 19) ?_
     refine JL.pur (.int .i64 (w64 (Int.tdiv (w64 (n5 + 2)) 3))) (some 20) ?_
     refine JL.pur (.bool (!decide ((b1.length : Int) = w64 (Int.tdiv (w64 (n5 + 2)) 3)))) (some 21) ?_
     refine JL.end_ ?_
     refine JQ.then_normal ?_
     refine JQ.sub [(0, .slice Aa2 b1.length c3), (1, .int .i64 n5), (21, .bool (!decide ((b1.length : Int) = w64 (Int.tdiv (w64 (n5 + 2)) 3))))] ?_
     rcases ite_cases H0 with ⟨h9, H0⟩ | ⟨h9, H0⟩
     · refine J.cond_true h9 ?_
       refine J.seq ?_
       refine J.region ?_
       refine JL.as (.slice none 0 0) ?_
       refine JL.as (.int .i64 12) ?_
       refine JL.end_ ?_
       refine JQ.then_normal ?_
       refine JQ.sub [(4, .slice none 0 0), (5, .int .i64 12)] ?_
       refine JQ.mask [] [false] ?_
       refine J.ret ?_
       refine JQ.then_ret ?_
       obtain rfl := Option.some.inj H0
       exact JQ.done' (rs := [.tmp 4, .tmp 5]) (vs := [.slice none 0 0, .int .i64 12]) [At.rd none 0 ((flInt .i64).kd) ([] : List Int) true] (.inr rfl) ⟨by kernel_rfl, by kernel_rfl, trivial⟩ (fun _ h => Heap.to (Heap.addRd0 (α := Int) ((flInt .i64).kd) true h)) ⟨none, 0, rfl, rfl⟩
     · refine J.cond_false h9 ?_
       refine J.skip ?_
       refine JQ.then_normal ?_
       refine JQ.sub [(0, .slice Aa2 b1.length c3), (1, .int .i64 n5)] ?_
       refine J.seq ?_
       refine J.region ?_
       refine JL.pur (.agg #[.int .i64 0, .int .i64 (-3), .int .i64 (-1), .int .i64 1, .int .i64 3]) (some 22) ?_
       refine JL.alloc (cl_29 zv_29) fun b10 => ?_
       refine JL.store 1 b10 0 29 (cl_29 zv_29) [.int .i64 0, .int .i64 (-3), .int .i64 (-1), .int .i64 1, .int .i64 3] tySize_29 ?_
       refine JL.end_ ?_
       refine JQ.then_normal ?_
       refine JQ.sub [(0, .slice Aa2 b1.length c3), (1, .int .i64 n5), (6, .pointer (some ⟨b10, 0, none⟩))] ?_
       refine J.seq ?_
       refine J.region ?_
       refine JL.as (.slice none 0 0) ?_
       refine JL.end_ ?_
       refine JQ.then_normal ?_
       refine J.seq ?_
       refine J.seq ?_
       refine J.region ?_
       refine JL.mv (.slice Aa2 b1.length c3) ?_
       refine JL.pur (.int .i64 (b1.length : Int)) (some 24) ?_
       refine JL.mv (.int .i64 0) ?_
       refine JL.end_ ?_
       refine JQ.then_normal ?_
       refine JQ.sub [(1, .int .i64 n5), (6, .pointer (some ⟨b10, 0, none⟩)), (7, .slice none 0 0), (23, .slice Aa2 b1.length c3), (24, .int .i64 (b1.length : Int)), (25, .int .i64 0)] ?_
       obtain ⟨o1, hit, H0⟩ := bind_some H0
       refine J.loop (σ := ((List Int) × Int)) (τ := List Int) (G := ((Option Addr) × Nat × (Option Addr) × Nat)) (G' := ((Option Addr) × Nat)) _ o1 (fun s g => [(1, .int .i64 n5), (6, .pointer (some ⟨b10, 0, none⟩)), (7, .slice g.1 s.1.length g.2.1), (23, .slice g.2.2.1 b1.length g.2.2.2), (24, .int .i64 (b1.length : Int)), (25, .int .i64 s.2)]) (fun s g => [At.box b10 29 [.int .i64 0, .int .i64 (-3), .int .i64 (-1), .int .i64 1, .int .i64 3], At.row g.1 g.2.1 3 ((flInt .i64).kd) s.1 false, At.rd g.2.2.1 g.2.2.2 ((flInt .u8).kd) b1 true]) (fun t => sample_Unpack.k9 n5 t = some r) (fun t g => [(1, .int .i64 n5), (7, .slice g.1 t.length g.2)]) (fun t g => [At.row g.1 g.2 3 ((flInt .i64).kd) t false]) ([], 0) (none, 0, Aa2, c3) hit (fun _ h => Heap.to (Heap.pick [1, 2, 0] (by decide) (Heap.addRow0 (α := Int) 3 ((flInt .i64).kd) false h))) ?_ ?_
       · clear hit
         rintro ⟨out146, x153⟩ ⟨Aa147, c148, Aa150, c151⟩ st1 H1 hb1 hr1
         replace H1 : sample_Unpack.s8 b1 out146 x153 = some st1 := H1
         unfold sample_Unpack.s8 at H1
         refine JQ.sub [(1, .int .i64 n5), (6, .pointer (some ⟨b10, 0, none⟩)), (7, .slice Aa147 out146.length c148), (23, .slice Aa150 b1.length c151), (24, .int .i64 (b1.length : Int)), (25, .int .i64 x153)] ?_
         refine JQ.turn (Δ' := [At.box b10 29 [.int .i64 0, .int .i64 (-3), .int .i64 (-1), .int .i64 1, .int .i64 3], At.row Aa147 c148 3 ((flInt .i64).kd) out146 false, At.rd Aa150 c151 ((flInt .u8).kd) b1 true]) (fun _ h => h.to) ?_
         refine J.seq ?_
         refine J.region ?_
         refine JL.pur (.bool (decide (x153 < (b1.length : Int)))) (some 26) ?_
         refine JL.end_ ?_
         refine JQ.then_normal ?_
         refine J.seq ?_
         rcases ite_cases H1 with ⟨h237, H1⟩ | ⟨h237, H1⟩
         · refine J.cond_true h237 ?_
           refine J.skip ?_
           refine JQ.then_normal ?_
           refine JQ.sub [(1, .int .i64 n5), (6, .pointer (some ⟨b10, 0, none⟩)), (7, .slice Aa147 out146.length c148), (23, .slice Aa150 b1.length c151), (24, .int .i64 (b1.length : Int)), (25, .int .i64 x153)] ?_
           refine J.seq ?_
           refine J.block ?_
           refine J.seq ?_
           refine J.region ?_
           obtain ⟨⟨h238, h239⟩, H1⟩ := ite_must H1
           refine JL.ixAddr 2 1 c151 .i64 (elems_rd Aa150 c151 ((flInt .u8).kd) b1 true) Try.underlying41 tySize_5 h238 h239 fun g240 o241 hA => ?_
           subst hA
           refine JL.val (.int .u8 (ix b1 x153)) (some 28) (gives_loadEl (f := (flInt .u8)) 2 0 x153 (elems_rd (some ⟨g240, o241, none⟩) c151 ((flInt .u8).kd) b1 true) h238 h239 tySize_5 (.inr ⟨tyAgg_5, rfl, rfl⟩)) ?_
           refine JL.as (.int .u8 (ix b1 x153)) ?_
           refine JL.end_ ?_
           refine JQ.then_normal ?_
           refine JQ.sub [(1, .int .i64 n5), (6, .pointer (some ⟨b10, 0, none⟩)), (7, .slice Aa147 out146.length c148), (9, .int .u8 (ix b1 x153)), (23, .slice (some ⟨g240, o241, none⟩) b1.length c151), (24, .int .i64 (b1.length : Int)), (25, .int .i64 x153)] ?_
           refine J.seq ?_
           refine J.seq ?_
           refine J.region ?_
           refine JL.mv (.int .u8 (ix b1 x153)) ?_
           refine JL.pur (.bool (decide (125 ≤ (ix b1 x153)))) (some 30) ?_
           refine JL.end_ ?_
           refine JQ.then_normal ?_
           refine JQ.sub [(1, .int .i64 n5), (6, .pointer (some ⟨b10, 0, none⟩)), (7, .slice Aa147 out146.length c148), (9, .int .u8 (ix b1 x153)), (23, .slice (some ⟨g240, o241, none⟩) b1.length c151), (24, .int .i64 (b1.length : Int)), (25, .int .i64 x153), (30, .bool (decide (125 ≤ (ix b1 x153))))] ?_
           rcases ite_cases H1 with ⟨h242, H1⟩ | ⟨h242, H1⟩
           · refine J.cond_true h242 ?_
             refine J.seq ?_
             refine J.region ?_
             refine JL.as (.slice none 0 0) ?_
             refine JL.as (.int .i64 12) ?_
             refine JL.end_ ?_
             refine JQ.then_normal ?_
             refine JQ.sub [(4, .slice none 0 0), (5, .int .i64 12)] ?_
             refine JQ.mask [] [false, false, false] ?_
             refine J.ret ?_
             refine JQ.then_ret ?_
             refine JQ.blk_ret ?_
             refine JQ.then_ret ?_
             refine JQ.then_ret ?_
             refine JQ.blk_ret ?_
             refine JQ.met_ret ?_
             refine JQ.then_ret ?_
             rw [hr1 _ (Option.some.inj H1).symm, fin_ret] at H0
             obtain rfl := Option.some.inj H0
             exact JQ.done' (rs := [.tmp 4, .tmp 5]) (vs := [.slice none 0 0, .int .i64 12]) [At.rd none 0 ((flInt .i64).kd) ([] : List Int) true] (.inr rfl) ⟨by kernel_rfl, by kernel_rfl, trivial⟩ (fun _ h => Heap.to (Heap.addRd0 (α := Int) ((flInt .i64).kd) true h)) ⟨none, 0, rfl, rfl⟩
           · refine J.cond_false h242 ?_
             refine J.skip ?_
             refine JQ.then_normal ?_
             refine JQ.sub [(1, .int .i64 n5), (6, .pointer (some ⟨b10, 0, none⟩)), (7, .slice Aa147 out146.length c148), (9, .int .u8 (ix b1 x153)), (23, .slice (some ⟨g240, o241, none⟩) b1.length c151), (24, .int .i64 (b1.length : Int)), (25, .int .i64 x153)] ?_
             refine J.seq ?_
             refine J.region ?_
             refine JL.mv (.int .i64 0) ?_
             refine JL.end_ ?_
             refine JQ.then_normal ?_
             obtain ⟨o2, hit, H1⟩ := bind_some H1
             refine J.loop (σ := ((List Int) × Int × Int)) (τ := List Int) (G := ((Option Addr) × Nat)) (G' := ((Option Addr) × Nat)) _ o2 (fun s g => [(1, .int .i64 n5), (6, .pointer (some ⟨b10, 0, none⟩)), (7, .slice g.1 s.1.length g.2), (9, .int .u8 s.2.1), (23, .slice (some ⟨g240, o241, none⟩) b1.length c151), (24, .int .i64 (b1.length : Int)), (25, .int .i64 x153), (31, .int .i64 s.2.2)]) (fun s g => [At.box b10 29 [.int .i64 0, .int .i64 (-3), .int .i64 (-1), .int .i64 1, .int .i64 3], At.row g.1 g.2 3 ((flInt .i64).kd) s.1 false, At.rd (some ⟨g240, o241, none⟩) c151 ((flInt .u8).kd) b1 true]) (fun t => sample_Unpack.k11 x153 t = some st1) (fun t g => [(1, .int .i64 n5), (6, .pointer (some ⟨b10, 0, none⟩)), (7, .slice g.1 t.length g.2), (23, .slice (some ⟨g240, o241, none⟩) b1.length c151), (24, .int .i64 (b1.length : Int)), (25, .int .i64 x153)]) (fun t g => [At.box b10 29 [.int .i64 0, .int .i64 (-3), .int .i64 (-1), .int .i64 1, .int .i64 3], At.row g.1 g.2 3 ((flInt .i64).kd) t false, At.rd (some ⟨g240, o241, none⟩) c151 ((flInt .u8).kd) b1 true]) (out146, (ix b1 x153), 0) (Aa147, c148) hit (fun _ h => Heap.to h) ?_ ?_
             · clear hit
               rintro ⟨out270, x274, x275⟩ ⟨Aa271, c272⟩ st2 H2 hb2 hr2
               replace H2 : sample_Unpack.s10 out270 x274 x275 = some st2 := H2
               unfold sample_Unpack.s10 at H2
               refine JQ.sub [(1, .int .i64 n5), (6, .pointer (some ⟨b10, 0, none⟩)), (7, .slice Aa271 out270.length c272), (9, .int .u8 x274), (23, .slice (some ⟨g240, o241, none⟩) b1.length c151), (24, .int .i64 (b1.length : Int)), (25, .int .i64 x153), (31, .int .i64 x275)] ?_
               refine JQ.turn (Δ' := [At.box b10 29 [.int .i64 0, .int .i64 (-3), .int .i64 (-1), .int .i64 1, .int .i64 3], At.row Aa271 c272 3 ((flInt .i64).kd) out270 false, At.rd (some ⟨g240, o241, none⟩) c151 ((flInt .u8).kd) b1 true]) (fun _ h => h.to) ?_
               refine J.seq ?_
               refine J.region ?_
               refine JL.pur (.bool (decide (x275 < 3))) (some 32) ?_
               refine JL.end_ ?_
               refine JQ.then_normal ?_
               refine J.seq ?_
               rcases ite_cases H2 with ⟨h288, H2⟩ | ⟨h288, H2⟩
               · refine J.cond_true h288 ?_
                 refine J.skip ?_
                 refine JQ.then_normal ?_
                 refine JQ.sub [(1, .int .i64 n5), (6, .pointer (some ⟨b10, 0, none⟩)), (7, .slice Aa271 out270.length c272), (9, .int .u8 x274), (23, .slice (some ⟨g240, o241, none⟩) b1.length c151), (24, .int .i64 (b1.length : Int)), (25, .int .i64 x153), (31, .int .i64 x275)] ?_
                 refine J.seq ?_
                 refine J.block ?_
                 refine J.seq ?_
                 refine J.region ?_
                 refine JL.mv (.slice Aa271 out270.length c272) ?_
                 refine JL.mv (.int .u8 x274) ?_
                 refine JL.pur (.int .u8 (Int.tmod x274 5)) (some 35) ?_
                 obtain ⟨⟨h289, h290⟩, H2⟩ := ite_must H2
                 refine JL.val (.pointer (some ⟨b10, 0 + (Int.tmod x274 5).toNat * 1, none⟩)) (some 36) (gives_ixArrD (b := b10) (o := 0) (i := Int.tmod x274 5) 5 1 .u8 h289 h290 Try.underlying29 tySize_3) ?_
                 refine JL.val (.int .i64 (ix ([0, (-3), (-1), 1, 3] : List Int) (Int.tmod x274 5))) (some 37) (gives_loadEl (f := (flInt .i64)) 0 0 (Int.tmod x274 5) (elems_arr b10 29 [.int .i64 0, .int .i64 (-3), .int .i64 (-1), .int .i64 1, .int .i64 3] (flInt .i64) ([0, (-3), (-1), 1, 3] : List Int) 0) h289 h290 tySize_3 (.inr ⟨tyAgg_3, rfl, rfl⟩)) ?_
                 refine JL.buildSl 3 ((flInt .i64).kd) (([(ix ([0, (-3), (-1), 1, 3] : List Int) (Int.tmod x274 5))] : List Int) : List Int) [.int .i64 (ix ([0, (-3), (-1), 1, 3] : List Int) (Int.tmod x274 5))] false (closes_fl rfl) fun b291 => ?_
                 obtain ⟨h294, H2⟩ := ite_must H2
                 refine JL.append false false 1 3 Aa271 c272 1 out270 (elems_row (some ⟨b291, 0, none⟩) 1 3 ((flInt .i64).kd) ([(ix ([0, (-3), (-1), 1, 3] : List Int) (Int.tmod x274 5))] : List Int) false) Try.underlying22 info_3 (by omega) (by omega) (fun h => h) (.inr ⟨_, rfl⟩) fun Aa292 c293 => ?_
                 refine JL.as (.slice Aa292 (out270 ++ ([(ix ([0, (-3), (-1), 1, 3] : List Int) (Int.tmod x274 5))] : List Int)).length c293) ?_
                 refine JL.end_ ?_
                 refine JQ.then_normal ?_
                 refine JQ.sub [(1, .int .i64 n5), (6, .pointer (some ⟨b10, 0, none⟩)), (7, .slice Aa292 (out270 ++ ([(ix ([0, (-3), (-1), 1, 3] : List Int) (Int.tmod x274 5))] : List Int)).length c293), (9, .int .u8 x274), (23, .slice (some ⟨g240, o241, none⟩) b1.length c151), (24, .int .i64 (b1.length : Int)), (25, .int .i64 x153), (31, .int .i64 x275)] ?_
                 refine JQ.mask [At.box b10 29 [.int .i64 0, .int .i64 (-3), .int .i64 (-1), .int .i64 1, .int .i64 3], At.row Aa292 c293 3 ((flInt .i64).kd) (out270 ++ ([(ix ([0, (-3), (-1), 1, 3] : List Int) (Int.tmod x274 5))] : List Int)) false, At.rd (some ⟨g240, o241, none⟩) c151 ((flInt .u8).kd) b1 true] [true, true, true, false] ?_
                 refine J.region ?_
                 refine JL.mv (.int .u8 x274) ?_
                 refine JL.pur (.int .u8 (wu8 (Int.tdiv x274 5))) (some 41) ?_
                 obtain ⟨x295, ex295, H2⟩ := lt_some H2
                 refine JL.as' (k := .u8) x295 ex295 ?_
                 refine JL.end_ ?_
                 refine JQ.blk_normal ?_
                 refine JQ.then_normal ?_
                 refine JQ.sub [(1, .int .i64 n5), (6, .pointer (some ⟨b10, 0, none⟩)), (7, .slice Aa292 (out270 ++ ([(ix ([0, (-3), (-1), 1, 3] : List Int) (Int.tmod x274 5))] : List Int)).length c293), (9, .int .u8 x295), (23, .slice (some ⟨g240, o241, none⟩) b1.length c151), (24, .int .i64 (b1.length : Int)), (25, .int .i64 x153), (31, .int .i64 x275)] ?_
                 refine J.region ?_
                 refine JL.pur (.int .i64 (w64 (x275 + 1))) (some 42) ?_
                 refine JL.mv (.int .i64 (w64 (x275 + 1))) ?_
                 refine JL.end_ ?_
                 refine JQ.then_normal ?_
                 exact JQ.again ((out270 ++ ([(ix ([0, (-3), (-1), 1, 3] : List Int) (Int.tmod x274 5))] : List Int)), x295, w64 (x275 + 1)) (Aa292, c293) (Option.some.inj H2).symm (fun _ h => Heap.to h)
               · refine J.cond_false h288 ?_
                 refine J.exit ?_
                 refine JQ.then_exit ?_
                 refine JQ.then_exit ?_
                 refine JQ.blk_exit ?_
                 rw [hb2 _ (Option.some.inj H2).symm, fin_brk] at H1
                 exact JQ.met out270 (Aa271, c272) H1 (fun _ h => Heap.to h)
             · clear hit H1
               rintro out284 ⟨Aa285, c286⟩ H1
               replace H1 : sample_Unpack.k11 x153 out284 = some st1 := H1
               unfold sample_Unpack.k11 at H1
               refine JQ.sub [(1, .int .i64 n5), (6, .pointer (some ⟨b10, 0, none⟩)), (7, .slice Aa285 out284.length c286), (23, .slice (some ⟨g240, o241, none⟩) b1.length c151), (24, .int .i64 (b1.length : Int)), (25, .int .i64 x153)] ?_
               refine JQ.turn (Δ' := [At.box b10 29 [.int .i64 0, .int .i64 (-3), .int .i64 (-1), .int .i64 1, .int .i64 3], At.row Aa285 c286 3 ((flInt .i64).kd) out284 false, At.rd (some ⟨g240, o241, none⟩) c151 ((flInt .u8).kd) b1 true]) (fun _ h => h.to) ?_
               refine JQ.blk_normal ?_
               refine JQ.then_normal ?_
               refine J.region ?_
               refine JL.pur (.int .i64 (w64 (x153 + 1))) (some 43) ?_
               refine JL.mv (.int .i64 (w64 (x153 + 1))) ?_
               refine JL.end_ ?_
               refine JQ.then_normal ?_
               exact JQ.again (out284, w64 (x153 + 1)) (Aa285, c286, (some ⟨g240, o241, none⟩), c151) (Option.some.inj H1).symm (fun _ h => Heap.to h)
         · refine J.cond_false h237 ?_
           refine J.exit ?_
           refine JQ.then_exit ?_
           refine JQ.then_exit ?_
           refine JQ.blk_exit ?_
           rw [hb1 _ (Option.some.inj H1).symm, fin_brk] at H0
           exact JQ.met out146 (Aa147, c148) H0 (fun _ h => Heap.to (Heap.pick [1] (by decide) h))
       · clear hit H0
         rintro out213 ⟨Aa214, c215⟩ H0
         replace H0 : sample_Unpack.k9 n5 out213 = some r := H0
         unfold sample_Unpack.k9 at H0
         refine JQ.sub [(1, .int .i64 n5), (7, .slice Aa214 out213.length c215)] ?_
         refine JQ.turn (Δ' := [At.row Aa214 c215 3 ((flInt .i64).kd) out213 false]) (fun _ h => h.to) ?_
         refine JQ.then_normal ?_
         refine J.seq ?_
         refine J.seq ?_
         refine J.region ?_
         refine JL.mv (.slice Aa214 out213.length c215) ?_
         refine JL.mv (.int .i64 n5) ?_
         refine JQ.turn (fun _ h => freeze_row 0 Aa214 c215 3 ((flInt .i64).kd) out213 false h) ?_
         obtain ⟨⟨h221, h222⟩, H0⟩ := ite_must H0
         refine JQ.capLe 0 Aa214 c215 ((flInt .i64).kd) out213 false fun h220 => ?_
         refine JL.cut n5.toNat out213.length c215 0 Aa214 c215 ((flInt .i64).kd) out213 false Try.underlying22 tySize_3 (.inl ⟨rfl, rfl⟩) (.inl ⟨rfl, rfl⟩) (.inr ⟨.i64, n5, by kernel_rfl, h221, rfl⟩) (.inl rfl) (by omega) (by omega) (by omega) (.inl (by omega)) fun Aa217 c218 => ?_
         obtain ⟨t223, hc224, H0⟩ := bind_some H0
         refine JL.call [] [] [] (slices_ContainsFunc__int_int__sample_Unpack_1.ok ((out213.take out213.length).drop n5.toNat) Aa217 c218 _ hc224) ⟨pre_any 1 (view_rd Aa217 c218 ((flInt .i64).kd) ((out213.take out213.length).drop n5.toNat) false true), trivial⟩ ?_
         rintro _ _ ⟨rfl, rfl⟩
         refine JL.end_ ?_
         refine JQ.then_normal ?_
         refine JQ.sub [(1, .int .i64 n5), (7, .slice Aa214 out213.length c215), (47, .bool t223)] ?_
         refine JQ.mask [At.rd Aa214 c215 ((flInt .i64).kd) out213 false] [true, false] ?_
         rcases ite_cases H0 with ⟨h225, H0⟩ | ⟨h225, H0⟩
         · refine J.cond_true h225 ?_
           refine J.seq ?_
           refine J.region ?_
           refine JL.as (.slice none 0 0) ?_
           refine JL.as (.int .i64 12) ?_
           refine JL.end_ ?_
           refine JQ.then_normal ?_
           refine JQ.sub [(4, .slice none 0 0), (5, .int .i64 12)] ?_
           refine JQ.mask [] [false] ?_
           refine J.ret ?_
           refine JQ.then_ret ?_
           obtain rfl := Option.some.inj H0
           exact JQ.done' (rs := [.tmp 4, .tmp 5]) (vs := [.slice none 0 0, .int .i64 12]) [At.rd none 0 ((flInt .i64).kd) ([] : List Int) true] (.inr rfl) ⟨by kernel_rfl, by kernel_rfl, trivial⟩ (fun _ h => Heap.to (Heap.addRd0 (α := Int) ((flInt .i64).kd) true h)) ⟨none, 0, rfl, rfl⟩
         · refine J.cond_false h225 ?_
           refine J.skip ?_
           refine JQ.then_normal ?_
           refine JQ.sub [(1, .int .i64 n5), (7, .slice Aa214 out213.length c215)] ?_
           refine J.seq ?_
           refine J.region ?_
           refine JL.mv (.slice Aa214 out213.length c215) ?_
           refine JL.mv (.int .i64 n5) ?_
           obtain ⟨⟨h230, h231⟩, H0⟩ := ite_must H0
           refine JQ.capLe 0 Aa214 c215 ((flInt .i64).kd) out213 false fun h229 => ?_
           refine JL.cut 0 n5.toNat c215 0 Aa214 c215 ((flInt .i64).kd) out213 false Try.underlying22 tySize_3 (.inl ⟨rfl, rfl⟩) (.inr ⟨.i64, n5, by kernel_rfl, h230, rfl⟩) (.inl ⟨rfl, rfl⟩) (.inl rfl) (by omega) (by omega) (by omega) (.inl (by omega)) fun Aa226 c227 => ?_
           obtain ⟨t232, hc233, H0⟩ := bind_some H0
           refine JL.call [] [] [] (slices_Clip__int_int.ok ((out213.take n5.toNat).drop 0) Aa226 c227 _ hc233) ⟨pre_any 1 (view_rd Aa226 c227 ((flInt .i64).kd) ((out213.take n5.toNat).drop 0) false true), trivial⟩ ?_
           rintro _ _ ⟨Aa234, c235, rfl, rfl⟩
           refine JL.as (.slice Aa234 t232.length c235) ?_
           refine JL.as (.int .i64 0) ?_
           refine JL.end_ ?_
           refine JQ.then_normal ?_
           refine JQ.sub [(4, .slice Aa234 t232.length c235), (5, .int .i64 0)] ?_
           refine JQ.mask [At.rd Aa234 c235 ((flInt .i64).kd) t232 true] [false, false, true] ?_
           refine J.ret ?_
           obtain rfl := Option.some.inj H0
           exact JQ.done' (rs := [.tmp 4, .tmp 5]) (vs := [.slice Aa234 t232.length c235, .int .i64 0]) [At.rd Aa234 c235 ((flInt .i64).kd) t232 true] (.inr rfl) ⟨by kernel_rfl, by kernel_rfl, trivial⟩ (fun _ h => Heap.to h) ⟨Aa234, c235, rfl, rfl⟩

theorem ref13_Unpack.ok (b1 : (List Int)) (Aa2 : Option Addr) (c3 : Nat) (n5 : Int) (r : ((List Int) × Int)) (H0 : ref13_Unpack.f b1 n5 = some r) :
    Does Try.prog 22 [.slice Aa2 b1.length c3, .int .i64 n5].toArray [At.rd Aa2 c3 ((flInt .u8).kd) b1 true] [] false (fun v Δ => ∃ A1001 : Option Addr, ∃ c1001 : Nat, v = .tuple #[.slice A1001 r.1.length c1001, .int .i64 r.2] ∧ Δ = [At.row A1001 c1001 3 ((flInt .i64).kd) r.1 false]) := by
 refine Does.body (vs := [.slice Aa2 b1.length c3, .int .i64 n5]) Try.func22 rfl ⟨.inl rfl, trivial⟩ trivial fun w S => ?_
 unfold ref13_Unpack.f at H0
 refine J.seq ?_
 refine J.region ?_
 refine JL.as (.slice none 0 0) ?_
 refine JL.as (.int .i64 0) ?_
 refine JL.end_ ?_
 refine JQ.then_normal ?_
 refine JQ.sub [(0, .slice Aa2 b1.length c3), (1, .int .i64 n5)] ?_
 refine J.seq ?_
 refine J.join (T := Bool) (G := Unit) (fun t => ref13_Unpack.k1 b1 n5 t = some r) (fun t g => [(0, .slice Aa2 b1.length c3), (1, .int .i64 n5), (19, .bool t)]) (fun t g => [At.rd Aa2 c3 ((flInt .u8).kd) b1 true]) ?_ ?_
 · refine J.region ?_
   refine JL.mv (.int .i64 n5) ?_
   refine JL.pur (.bool (decide (n5 < 0))) (some 15) ?_
   refine JL.mv (.bool (decide (n5 < 0))) ?_
   rcases ite_cases H0 with ⟨h535, H0⟩ | ⟨h535, H0⟩
   · refine JL.off 2 16 false (some 17) h535 ?_
     refine JL.off 2 16 false (some 18) h535 ?_
     refine JL.val (.bool true) (some 19) (gives_pickT h535) ?_
     refine JL.end_ ?_
     refine JQ.then_normal ?_
     exact JQ.meet true () H0 (fun _ h => Heap.to h)
   · refine JL.on 2 16 h535 ?_
     refine JL.mv (.int .i64 n5) ?_
     refine JL.on 2 16 h535 ?_
     refine JL.pur (.bool (decide (256 < n5))) (some 18) ?_
     refine JL.val (.bool (decide (256 < n5))) (some 19) (gives_pickF h535) ?_
     refine JL.end_ ?_
     refine JQ.then_normal ?_
     exact JQ.meet (decide (256 < n5)) () H0 (fun _ h => Heap.to h)
 · clear H0
   rintro x7 ⟨⟩ H0
   replace H0 : ref13_Unpack.k1 b1 n5 x7 = some r := H0
   unfold ref13_Unpack.k1 at H0
   refine JQ.sub [(0, .slice Aa2 b1.length c3), (1, .int .i64 n5), (19, .bool x7)] ?_
   refine JQ.turn (Δ' := [At.rd Aa2 c3 ((flInt .u8).kd) b1 true]) (fun _ h => h.to) ?_
   rcases ite_cases H0 with ⟨h8, H0⟩ | ⟨h8, H0⟩
   · refine J.cond_true h8 ?_
     refine J.seq ?_
     refine J.region ?_
     refine JL.as (.slice none 0 0) ?_
     refine JL.as (.int .i64 2) ?_
     refine JL.end_ ?_
     refine JQ.then_normal ?_
     refine JQ.sub [(4, .slice none 0 0), (5, .int .i64 2)] ?_
     refine JQ.mask [] [false] ?_
     refine J.ret ?_
     refine JQ.then_ret ?_
     obtain rfl := Option.some.inj H0
     exact JQ.done' (rs := [.tmp 4, .tmp 5]) (vs := [.slice none 0 0, .int .i64 2]) [At.row none 0 3 ((flInt .i64).kd) ([] : List Int) false] (.inr rfl) ⟨by kernel_rfl, by kernel_rfl, trivial⟩ (fun _ h => Heap.to (Heap.addRow0 (α := Int) 3 ((flInt .i64).kd) false h)) ⟨none, 0, rfl, rfl⟩
   · refine J.cond_false h8 ?_
     refine J.skip ?_
     refine JQ.then_normal ?_
     refine JQ.sub [(0, .slice Aa2 b1.length c3), (1, .int .i64 n5)] ?_
     refine J.seq ?_
     refine J.seq ?_
     refine J.region ?_
     refine JL.mv (.slice Aa2 b1.length c3) ?_
     refine JL.pur (.int .i64 (b1.length : Int)) (some 21) ?_
     refine JL.mv (.int .i64 n5) ?_
     refine JL.pur (.int .i64 (w64 (n5 + 2))) (some 23) ?_
     refine JL.pur (.int .i64 (w64 (Int.tdiv (w64 (n5 + 2)) 3))) (some 24) ?_
     refine JL.pur (.bool (!decide ((b1.length : Int) = w64 (Int.tdiv (w64 (n5 + 2)) 3)))) (some 25) ?_
     refine JL.end_ ?_
     refine JQ.then_normal ?_
     refine JQ.sub [(0, .slice Aa2 b1.length c3), (1, .int .i64 n5), (25, .bool (!decide ((b1.length : Int) = w64 (Int.tdiv (w64 (n5 + 2)) 3))))] ?_
     rcases ite_cases H0 with ⟨h9, H0⟩ | ⟨h9, H0⟩
     · refine J.cond_true h9 ?_
       refine J.seq ?_
       refine J.region ?_
       refine JL.as (.slice none 0 0) ?_
       refine JL.as (.int .i64 12) ?_
       refine JL.end_ ?_
       refine JQ.then_normal ?_
       refine JQ.sub [(4, .slice none 0 0), (5, .int .i64 12)] ?_
       refine JQ.mask [] [false] ?_
       refine J.ret ?_
       refine JQ.then_ret ?_
       obtain rfl := Option.some.inj H0
       exact JQ.done' (rs := [.tmp 4, .tmp 5]) (vs := [.slice none 0 0, .int .i64 12]) [At.row none 0 3 ((flInt .i64).kd) ([] : List Int) false] (.inr rfl) ⟨by kernel_rfl, by kernel_rfl, trivial⟩ (fun _ h => Heap.to (Heap.addRow0 (α := Int) 3 ((flInt .i64).kd) false h)) ⟨none, 0, rfl, rfl⟩
     · refine J.cond_false h9 ?_
       refine J.skip ?_
       refine JQ.then_normal ?_
       refine JQ.sub [(0, .slice Aa2 b1.length c3), (1, .int .i64 n5)] ?_
       refine J.seq ?_
       refine J.region ?_
       refine JL.as (.slice none 0 0) ?_
       refine JL.end_ ?_
       refine JQ.then_normal ?_
       refine J.seq ?_
       refine J.seq ?_
       refine J.region ?_
       refine JL.as (.int .i64 0) ?_
       refine JL.end_ ?_
       refine JQ.then_normal ?_
       obtain ⟨o1, hit, H0⟩ := bind_some H0
       refine J.loop (σ := ((List Int) × Int)) (τ := List Int) (G := ((Option Addr) × Nat × (Option Addr) × Nat)) (G' := ((Option Addr) × Nat × (Option Addr) × Nat)) _ o1 (fun s g => [(0, .slice g.1 b1.length g.2.1), (1, .int .i64 n5), (6, .slice g.2.2.1 s.1.length g.2.2.2), (7, .int .i64 s.2)]) (fun s g => [At.rd g.1 g.2.1 ((flInt .u8).kd) b1 true, At.row g.2.2.1 g.2.2.2 3 ((flInt .i64).kd) s.1 false]) (fun t => ref13_Unpack.k27 b1 t = some r) (fun t g => [(0, .slice g.1 b1.length g.2.1), (6, .slice g.2.2.1 t.length g.2.2.2)]) (fun t g => [At.rd g.1 g.2.1 ((flInt .u8).kd) b1 true, At.row g.2.2.1 g.2.2.2 3 ((flInt .i64).kd) t false]) ([], 0) (Aa2, c3, none, 0) hit (fun _ h => Heap.to (Heap.addRow0 (α := Int) 3 ((flInt .i64).kd) false h)) ?_ ?_
       · clear hit
         rintro ⟨out245, i249⟩ ⟨Aa242, c243, Aa246, c247⟩ st1 H1 hb1 hr1
         replace H1 : ref13_Unpack.s26 b1 n5 out245 i249 = some st1 := H1
         unfold ref13_Unpack.s26 at H1
         refine JQ.sub [(0, .slice Aa242 b1.length c243), (1, .int .i64 n5), (6, .slice Aa246 out245.length c247), (7, .int .i64 i249)] ?_
         refine JQ.turn (Δ' := [At.rd Aa242 c243 ((flInt .u8).kd) b1 true, At.row Aa246 c247 3 ((flInt .i64).kd) out245 false]) (fun _ h => h.to) ?_
         refine J.seq ?_
         refine J.seq ?_
         refine J.region ?_
         refine JL.mv (.int .i64 i249) ?_
         refine JL.mv (.int .i64 n5) ?_
         refine JL.pur (.bool (decide (i249 < n5))) (some 28) ?_
         refine JL.end_ ?_
         refine JQ.then_normal ?_
         refine JQ.sub [(0, .slice Aa242 b1.length c243), (1, .int .i64 n5), (6, .slice Aa246 out245.length c247), (7, .int .i64 i249), (28, .bool (decide (i249 < n5)))] ?_
         rcases ite_cases H1 with ⟨h420, H1⟩ | ⟨h420, H1⟩
         · refine J.cond_true h420 ?_
           refine J.skip ?_
           refine JQ.then_normal ?_
           refine JQ.sub [(0, .slice Aa242 b1.length c243), (1, .int .i64 n5), (6, .slice Aa246 out245.length c247), (7, .int .i64 i249)] ?_
           refine J.seq ?_
           refine J.block ?_
           refine J.seq ?_
           refine J.region ?_
           refine JL.mv (.slice Aa242 b1.length c243) ?_
           refine JL.mv (.int .i64 i249) ?_
           refine JL.pur (.int .i64 (w64 (Int.tdiv i249 3))) (some 33) ?_
           obtain ⟨⟨h421, h422⟩, H1⟩ := ite_must H1
           refine JL.ixAddr 0 1 c243 .i64 (elems_rd Aa242 c243 ((flInt .u8).kd) b1 true) Try.underlying41 tySize_5 h421 h422 fun g423 o424 hA => ?_
           subst hA
           refine JL.val (.int .u8 (ix b1 (w64 (Int.tdiv i249 3)))) (some 35) (gives_loadEl (f := (flInt .u8)) 0 0 (w64 (Int.tdiv i249 3)) (elems_rd (some ⟨g423, o424, none⟩) c243 ((flInt .u8).kd) b1 true) h421 h422 tySize_5 (.inr ⟨tyAgg_5, rfl, rfl⟩)) ?_
           refine JL.pur (.int .i64 (w64 (ix b1 (w64 (Int.tdiv i249 3))))) (some 36) ?_
           obtain ⟨d425, ed425, H1⟩ := lt_some H1
           refine JL.as' (k := .i64) d425 ed425 ?_
           refine JL.end_ ?_
           refine JQ.then_normal ?_
           refine JQ.sub [(0, .slice (some ⟨g423, o424, none⟩) b1.length c243), (1, .int .i64 n5), (6, .slice Aa246 out245.length c247), (7, .int .i64 i249), (8, .int .i64 d425)] ?_
           refine J.seq ?_
           refine J.seq ?_
           refine J.region ?_
           refine JL.as (.int .i64 0) ?_
           refine JL.end_ ?_
           refine JQ.then_normal ?_
           obtain ⟨o2, hit, H1⟩ := bind_some H1
           refine J.loop (σ := (Int × Int)) (τ := Int) (G := Unit) (G' := Unit) _ o2 (fun s g => [(0, .slice (some ⟨g423, o424, none⟩) b1.length c243), (1, .int .i64 n5), (6, .slice Aa246 out245.length c247), (7, .int .i64 i249), (8, .int .i64 s.1), (9, .int .i64 s.2)]) (fun s g => [At.rd (some ⟨g423, o424, none⟩) c243 ((flInt .u8).kd) b1 true, At.row Aa246 c247 3 ((flInt .i64).kd) out245 false]) (fun t => ref13_Unpack.k31 out245 i249 t = some st1) (fun t g => [(0, .slice (some ⟨g423, o424, none⟩) b1.length c243), (1, .int .i64 n5), (6, .slice Aa246 out245.length c247), (7, .int .i64 i249), (8, .int .i64 t)]) (fun t g => [At.rd (some ⟨g423, o424, none⟩) c243 ((flInt .u8).kd) b1 true, At.row Aa246 c247 3 ((flInt .i64).kd) out245 false]) (d425, 0) () hit (fun _ h => Heap.to h) ?_ ?_
           · clear hit
             rintro ⟨d434, k435⟩ ⟨⟩ st2 H2 hb2 hr2
             replace H2 : ref13_Unpack.s30 i249 d434 k435 = some st2 := H2
             unfold ref13_Unpack.s30 at H2
             refine JQ.sub [(0, .slice (some ⟨g423, o424, none⟩) b1.length c243), (1, .int .i64 n5), (6, .slice Aa246 out245.length c247), (7, .int .i64 i249), (8, .int .i64 d434), (9, .int .i64 k435)] ?_
             refine JQ.turn (Δ' := [At.rd (some ⟨g423, o424, none⟩) c243 ((flInt .u8).kd) b1 true, At.row Aa246 c247 3 ((flInt .i64).kd) out245 false]) (fun _ h => h.to) ?_
             refine J.seq ?_
             refine J.seq ?_
             refine J.region ?_
             refine JL.mv (.int .i64 k435) ?_
             refine JL.mv (.int .i64 i249) ?_
             refine JL.pur (.int .i64 (Int.tmod i249 3)) (some 39) ?_
             refine JL.pur (.bool (decide (k435 < Int.tmod i249 3))) (some 40) ?_
             refine JL.end_ ?_
             refine JQ.then_normal ?_
             refine JQ.sub [(0, .slice (some ⟨g423, o424, none⟩) b1.length c243), (1, .int .i64 n5), (6, .slice Aa246 out245.length c247), (7, .int .i64 i249), (8, .int .i64 d434), (9, .int .i64 k435), (40, .bool (decide (k435 < Int.tmod i249 3)))] ?_
             rcases ite_cases H2 with ⟨h533, H2⟩ | ⟨h533, H2⟩
             · refine J.cond_true h533 ?_
               refine J.skip ?_
               refine JQ.then_normal ?_
               refine JQ.sub [(0, .slice (some ⟨g423, o424, none⟩) b1.length c243), (1, .int .i64 n5), (6, .slice Aa246 out245.length c247), (7, .int .i64 i249), (8, .int .i64 d434), (9, .int .i64 k435)] ?_
               refine J.seq ?_
               refine J.block ?_
               refine J.region ?_
               refine JL.mv (.int .i64 d434) ?_
               refine JL.pur (.int .i64 (w64 (Int.tdiv d434 5))) (some 44) ?_
               obtain ⟨d534, ed534, H2⟩ := lt_some H2
               refine JL.as' (k := .i64) d534 ed534 ?_
               refine JL.end_ ?_
               refine JQ.blk_normal ?_
               refine JQ.then_normal ?_
               refine JQ.sub [(0, .slice (some ⟨g423, o424, none⟩) b1.length c243), (1, .int .i64 n5), (6, .slice Aa246 out245.length c247), (7, .int .i64 i249), (8, .int .i64 d534), (9, .int .i64 k435)] ?_
               refine J.region ?_
               refine JL.mv (.int .i64 k435) ?_
               refine JL.pur (.int .i64 (w64 (k435 + 1))) (some 42) ?_
               refine JL.as (.int .i64 (w64 (k435 + 1))) ?_
               refine JL.end_ ?_
               refine JQ.then_normal ?_
               exact JQ.again (d534, w64 (k435 + 1)) () (Option.some.inj H2).symm (fun _ h => Heap.to h)
             · refine J.cond_false h533 ?_
               refine J.exit ?_
               refine JQ.then_exit ?_
               refine JQ.then_exit ?_
               refine JQ.blk_exit ?_
               rw [hb2 _ (Option.some.inj H2).symm, fin_brk] at H1
               exact JQ.met d434 () H1 (fun _ h => Heap.to h)
           · clear hit H1
             rintro d438 ⟨⟩ H1
             replace H1 : ref13_Unpack.k31 out245 i249 d438 = some st1 := H1
             unfold ref13_Unpack.k31 at H1
             refine JQ.sub [(0, .slice (some ⟨g423, o424, none⟩) b1.length c243), (1, .int .i64 n5), (6, .slice Aa246 out245.length c247), (7, .int .i64 i249), (8, .int .i64 d438)] ?_
             refine JQ.turn (Δ' := [At.rd (some ⟨g423, o424, none⟩) c243 ((flInt .u8).kd) b1 true, At.row Aa246 c247 3 ((flInt .i64).kd) out245 false]) (fun _ h => h.to) ?_
             refine JQ.then_normal ?_
             refine J.seq ?_
             refine J.region ?_
             refine JL.as (.int .i64 (-3)) ?_
             refine JL.end_ ?_
             refine JQ.then_normal ?_
             obtain ⟨o2, hit, H1⟩ := bind_some H1
             refine J.loop (σ := ((List Int) × Int)) (τ := List Int) (G := ((Option Addr) × Nat)) (G' := ((Option Addr) × Nat)) _ o2 (fun s g => [(0, .slice (some ⟨g423, o424, none⟩) b1.length c243), (1, .int .i64 n5), (6, .slice g.1 s.1.length g.2), (7, .int .i64 i249), (8, .int .i64 d438), (10, .int .i64 s.2)]) (fun s g => [At.rd (some ⟨g423, o424, none⟩) c243 ((flInt .u8).kd) b1 true, At.row g.1 g.2 3 ((flInt .i64).kd) s.1 false]) (fun t => ref13_Unpack.k36 i249 t = some st1) (fun t g => [(0, .slice (some ⟨g423, o424, none⟩) b1.length c243), (1, .int .i64 n5), (6, .slice g.1 t.length g.2), (7, .int .i64 i249)]) (fun t g => [At.rd (some ⟨g423, o424, none⟩) c243 ((flInt .u8).kd) b1 true, At.row g.1 g.2 3 ((flInt .i64).kd) t false]) (out245, (-3)) (Aa246, c247) hit (fun _ h => Heap.to h) ?_ ?_
             · clear hit
               rintro ⟨out486, x490⟩ ⟨Aa487, c488⟩ st2 H2 hb2 hr2
               replace H2 : ref13_Unpack.s35 d438 out486 x490 = some st2 := H2
               unfold ref13_Unpack.s35 at H2
               refine JQ.sub [(0, .slice (some ⟨g423, o424, none⟩) b1.length c243), (1, .int .i64 n5), (6, .slice Aa487 out486.length c488), (7, .int .i64 i249), (8, .int .i64 d438), (10, .int .i64 x490)] ?_
               refine JQ.turn (Δ' := [At.rd (some ⟨g423, o424, none⟩) c243 ((flInt .u8).kd) b1 true, At.row Aa487 c488 3 ((flInt .i64).kd) out486 false]) (fun _ h => h.to) ?_
               refine J.seq ?_
               refine J.seq ?_
               refine J.region ?_
               refine JL.mv (.int .i64 x490) ?_
               refine JL.pur (.bool (decide (x490 ≤ 3))) (some 46) ?_
               refine JL.end_ ?_
               refine JQ.then_normal ?_
               refine JQ.sub [(0, .slice (some ⟨g423, o424, none⟩) b1.length c243), (1, .int .i64 n5), (6, .slice Aa487 out486.length c488), (7, .int .i64 i249), (8, .int .i64 d438), (10, .int .i64 x490), (46, .bool (decide (x490 ≤ 3)))] ?_
               rcases ite_cases H2 with ⟨h514, H2⟩ | ⟨h514, H2⟩
               · refine J.cond_true h514 ?_
                 refine J.skip ?_
                 refine JQ.then_normal ?_
                 refine JQ.sub [(0, .slice (some ⟨g423, o424, none⟩) b1.length c243), (1, .int .i64 n5), (6, .slice Aa487 out486.length c488), (7, .int .i64 i249), (8, .int .i64 d438), (10, .int .i64 x490)] ?_
                 refine J.join (T := List Int) (G := ((Option Addr) × Nat)) (fun t => ref13_Unpack.k37 x490 t = some st2) (fun t g => [(0, .slice (some ⟨g423, o424, none⟩) b1.length c243), (1, .int .i64 n5), (6, .slice g.1 t.length g.2), (7, .int .i64 i249), (8, .int .i64 d438), (10, .int .i64 x490)]) (fun t g => [At.rd (some ⟨g423, o424, none⟩) c243 ((flInt .u8).kd) b1 true, At.row g.1 g.2 3 ((flInt .i64).kd) t false]) ?_ ?_
                 · refine J.block ?_
                   refine J.seq ?_
                   refine J.region ?_
                   refine JL.mv (.int .i64 x490) ?_
                   obtain ⟨t526, hc527, H2⟩ := bind_some H2
                   refine JL.call [] [] [] (ref13_Digit.ok x490 _ hc527) trivial ?_
                   rintro _ _ ⟨rfl, rfl⟩
                   refine JL.mv (.int .i64 d438) ?_
                   refine JL.pur (.int .i64 (Int.tmod d438 5)) (some 52) ?_
                   refine JL.pur (.bool (decide (t526 = Int.tmod d438 5))) (some 53) ?_
                   refine JL.end_ ?_
                   refine JQ.then_normal ?_
                   refine JQ.sub [(0, .slice (some ⟨g423, o424, none⟩) b1.length c243), (1, .int .i64 n5), (6, .slice Aa487 out486.length c488), (7, .int .i64 i249), (8, .int .i64 d438), (10, .int .i64 x490), (53, .bool (decide (t526 = Int.tmod d438 5)))] ?_
                   rcases ite_cases H2 with ⟨h528, H2⟩ | ⟨h528, H2⟩
                   · refine J.cond_true h528 ?_
                     refine J.region ?_
                     refine JL.mv (.slice Aa487 out486.length c488) ?_
                     refine JL.mv (.int .i64 x490) ?_
                     refine JL.buildSl 3 ((flInt .i64).kd) (([x490] : List Int) : List Int) [.int .i64 x490] false (closes_fl rfl) fun b529 => ?_
                     obtain ⟨h532, H2⟩ := ite_must H2
                     refine JL.append false false 1 2 Aa487 c488 1 out486 (elems_row (some ⟨b529, 0, none⟩) 1 3 ((flInt .i64).kd) ([x490] : List Int) false) Try.underlying22 info_3 (by omega) (by omega) (fun h => h) (.inr ⟨_, rfl⟩) fun Aa530 c531 => ?_
                     refine JL.as (.slice Aa530 (out486 ++ ([x490] : List Int)).length c531) ?_
                     refine JL.end_ ?_
                     refine JQ.blk_normal ?_
                     refine JQ.then_normal ?_
                     exact JQ.meet (out486 ++ ([x490] : List Int)) (Aa530, c531) H2 (fun _ h => Heap.to (Heap.pick [0, 1] (by decide) h))
                   · refine J.cond_false h528 ?_
                     refine J.skip ?_
                     refine JQ.blk_normal ?_
                     refine JQ.then_normal ?_
                     exact JQ.meet out486 (Aa487, c488) H2 (fun _ h => Heap.to h)
                 · clear H2
                   rintro out522 ⟨Aa523, c524⟩ H2
                   replace H2 : ref13_Unpack.k37 x490 out522 = some st2 := H2
                   unfold ref13_Unpack.k37 at H2
                   refine JQ.sub [(0, .slice (some ⟨g423, o424, none⟩) b1.length c243), (1, .int .i64 n5), (6, .slice Aa523 out522.length c524), (7, .int .i64 i249), (8, .int .i64 d438), (10, .int .i64 x490)] ?_
                   refine JQ.turn (Δ' := [At.rd (some ⟨g423, o424, none⟩) c243 ((flInt .u8).kd) b1 true, At.row Aa523 c524 3 ((flInt .i64).kd) out522 false]) (fun _ h => h.to) ?_
                   refine J.region ?_
                   refine JL.mv (.int .i64 x490) ?_
                   refine JL.pur (.int .i64 (w64 (x490 + 1))) (some 48) ?_
                   refine JL.as (.int .i64 (w64 (x490 + 1))) ?_
                   refine JL.end_ ?_
                   refine JQ.then_normal ?_
                   exact JQ.again (out522, w64 (x490 + 1)) (Aa523, c524) (Option.some.inj H2).symm (fun _ h => Heap.to h)
               · refine J.cond_false h514 ?_
                 refine J.exit ?_
                 refine JQ.then_exit ?_
                 refine JQ.then_exit ?_
                 refine JQ.blk_exit ?_
                 rw [hb2 _ (Option.some.inj H2).symm, fin_brk] at H1
                 exact JQ.met out486 (Aa487, c488) H1 (fun _ h => Heap.to h)
             · clear hit H1
               rintro out510 ⟨Aa511, c512⟩ H1
               replace H1 : ref13_Unpack.k36 i249 out510 = some st1 := H1
               unfold ref13_Unpack.k36 at H1
               refine JQ.sub [(0, .slice (some ⟨g423, o424, none⟩) b1.length c243), (1, .int .i64 n5), (6, .slice Aa511 out510.length c512), (7, .int .i64 i249)] ?_
               refine JQ.turn (Δ' := [At.rd (some ⟨g423, o424, none⟩) c243 ((flInt .u8).kd) b1 true, At.row Aa511 c512 3 ((flInt .i64).kd) out510 false]) (fun _ h => h.to) ?_
               refine JQ.blk_normal ?_
               refine JQ.then_normal ?_
               refine J.region ?_
               refine JL.mv (.int .i64 i249) ?_
               refine JL.pur (.int .i64 (w64 (i249 + 1))) (some 30) ?_
               refine JL.as (.int .i64 (w64 (i249 + 1))) ?_
               refine JL.end_ ?_
               refine JQ.then_normal ?_
               exact JQ.again (out510, w64 (i249 + 1)) ((some ⟨g423, o424, none⟩), c243, Aa511, c512) (Option.some.inj H1).symm (fun _ h => Heap.to h)
         · refine J.cond_false h420 ?_
           refine J.exit ?_
           refine JQ.then_exit ?_
           refine JQ.then_exit ?_
           refine JQ.blk_exit ?_
           rw [hb1 _ (Option.some.inj H1).symm, fin_brk] at H0
           exact JQ.met out245 (Aa242, c243, Aa246, c247) H0 (fun _ h => Heap.to h)
       · clear hit H0
         rintro out368 ⟨Aa365, c366, Aa369, c370⟩ H0
         replace H0 : ref13_Unpack.k27 b1 out368 = some r := H0
         unfold ref13_Unpack.k27 at H0
         refine JQ.sub [(0, .slice Aa365 b1.length c366), (6, .slice Aa369 out368.length c370)] ?_
         refine JQ.turn (Δ' := [At.rd Aa365 c366 ((flInt .u8).kd) b1 true, At.row Aa369 c370 3 ((flInt .i64).kd) out368 false]) (fun _ h => h.to) ?_
         refine JQ.then_normal ?_
         refine J.seq ?_
         refine J.region ?_
         refine JL.mv (.slice Aa369 out368.length c370) ?_
         obtain ⟨t372, hc373, H0⟩ := bind_some H0
         refine JL.call [] [] [] (ref13_Pack.ok out368 Aa369 c370 _ hc373) ⟨pre_view 1 (view_row Aa369 c370 3 ((flInt .i64).kd) out368 false true), trivial⟩ ?_
         rintro _ _ ⟨Aa374, c375, rfl, rfl⟩
         refine JL.mv (.tuple #[.slice Aa374 t372.1.length c375, .int .i64 t372.2]) ?_
         refine JL.pur (.slice Aa374 t372.1.length c375) (some 61) ?_
         refine JL.pur (.int .i64 t372.2) (some 62) ?_
         refine JL.as (.slice Aa374 t372.1.length c375) ?_
         refine JL.as (.int .i64 t372.2) ?_
         refine JL.end_ ?_
         refine JQ.then_normal ?_
         refine JQ.sub [(0, .slice Aa365 b1.length c366), (6, .slice Aa369 out368.length c370), (11, .slice Aa374 t372.1.length c375)] ?_
         refine J.seq ?_
         refine J.seq ?_
         refine J.region ?_
         refine JL.as (.int .i64 0) ?_
         refine JL.end_ ?_
         refine JQ.then_normal ?_
         obtain ⟨o1, hit, H0⟩ := bind_some H0
         refine J.loop (σ := Int) (τ := Unit) (G := Unit) (G' := Unit) _ o1 (fun s g => [(0, .slice Aa365 b1.length c366), (6, .slice Aa369 out368.length c370), (11, .slice Aa374 t372.1.length c375), (13, .int .i64 s)]) (fun s g => [At.rd Aa365 c366 ((flInt .u8).kd) b1 true, At.row Aa369 c370 3 ((flInt .i64).kd) out368 false, At.row Aa374 c375 5 ((flInt .u8).kd) t372.1 false]) (fun t => ref13_Unpack.k29 out368 = some r) (fun t g => [(6, .slice Aa369 out368.length c370)]) (fun t g => [At.row Aa369 c370 3 ((flInt .i64).kd) out368 false]) 0 () hit (fun _ h => Heap.to h) ?_ ?_
         · clear hit
           rintro i399 ⟨⟩ st1 H1 hb1 hr1
           replace H1 : ref13_Unpack.s28 b1 t372 i399 = some st1 := H1
           unfold ref13_Unpack.s28 at H1
           refine JQ.sub [(0, .slice Aa365 b1.length c366), (6, .slice Aa369 out368.length c370), (11, .slice Aa374 t372.1.length c375), (13, .int .i64 i399)] ?_
           refine JQ.turn (Δ' := [At.rd Aa365 c366 ((flInt .u8).kd) b1 true, At.row Aa369 c370 3 ((flInt .i64).kd) out368 false, At.row Aa374 c375 5 ((flInt .u8).kd) t372.1 false]) (fun _ h => h.to) ?_
           refine J.seq ?_
           refine J.seq ?_
           refine J.region ?_
           refine JL.mv (.int .i64 i399) ?_
           refine JL.mv (.slice Aa365 b1.length c366) ?_
           refine JL.pur (.int .i64 (b1.length : Int)) (some 65) ?_
           refine JL.pur (.bool (decide (i399 < (b1.length : Int)))) (some 66) ?_
           refine JL.end_ ?_
           refine JQ.then_normal ?_
           refine JQ.sub [(0, .slice Aa365 b1.length c366), (6, .slice Aa369 out368.length c370), (11, .slice Aa374 t372.1.length c375), (13, .int .i64 i399), (66, .bool (decide (i399 < (b1.length : Int))))] ?_
           rcases ite_cases H1 with ⟨h410, H1⟩ | ⟨h410, H1⟩
           · refine J.cond_true h410 ?_
             refine J.skip ?_
             refine JQ.then_normal ?_
             refine JQ.sub [(0, .slice Aa365 b1.length c366), (6, .slice Aa369 out368.length c370), (11, .slice Aa374 t372.1.length c375), (13, .int .i64 i399)] ?_
             refine J.seq ?_
             refine J.block ?_
             refine J.seq ?_
             refine J.draw ?_
             refine QL.mv (.slice Aa374 t372.1.length c375) ?_
             refine QL.mv (.int .i64 i399) ?_
             obtain ⟨⟨h411, h412⟩, H1⟩ := ite_must H1
             refine QL.ixAddr 2 1 c375 .i64 (elems_row Aa374 c375 5 ((flInt .u8).kd) t372.1 false) Try.underlying41 tySize_5 h411 h412 fun g413 o414 hA => ?_
             subst hA
             refine QL.val (.int .u8 (ix t372.1 i399)) (some 72) (gives_loadEl (f := (flInt .u8)) 2 0 i399 (elems_row (some ⟨g413, o414, none⟩) c375 5 ((flInt .u8).kd) t372.1 false) h411 h412 tySize_5 (.inr ⟨tyAgg_5, rfl, rfl⟩)) ?_
             refine QL.mv (.slice Aa365 b1.length c366) ?_
             refine QL.mv (.int .i64 i399) ?_
             obtain ⟨⟨h415, h416⟩, H1⟩ := ite_must H1
             refine QL.ixAddr 0 1 c366 .i64 (elems_rd Aa365 c366 ((flInt .u8).kd) b1 true) Try.underlying41 tySize_5 h415 h416 fun g417 o418 hA => ?_
             subst hA
             refine QL.val (.int .u8 (ix b1 i399)) (some 76) (gives_loadEl (f := (flInt .u8)) 0 0 i399 (elems_rd (some ⟨g417, o418, none⟩) c366 ((flInt .u8).kd) b1 true) h415 h416 tySize_5 (.inr ⟨tyAgg_5, rfl, rfl⟩)) ?_
             refine QL.pur (.bool (!decide ((ix t372.1 i399) = (ix b1 i399)))) (some 77) ?_
             refine QL.nil ?_
             refine JA.nil ?_
             refine JQ.then_normal ?_
             refine JQ.sub [(0, .slice (some ⟨g417, o418, none⟩) b1.length c366), (6, .slice Aa369 out368.length c370), (11, .slice (some ⟨g413, o414, none⟩) t372.1.length c375), (13, .int .i64 i399), (77, .bool (!decide ((ix t372.1 i399) = (ix b1 i399))))] ?_
             rcases ite_cases H1 with ⟨h419, H1⟩ | ⟨h419, H1⟩
             · refine J.cond_true h419 ?_
               refine J.seq ?_
               refine J.region ?_
               refine JL.as (.slice none 0 0) ?_
               refine JL.as (.int .i64 12) ?_
               refine JL.end_ ?_
               refine JQ.then_normal ?_
               refine JQ.sub [(4, .slice none 0 0), (5, .int .i64 12)] ?_
               refine JQ.mask [] [false, false, false] ?_
               refine J.ret ?_
               refine JQ.blk_ret ?_
               refine JQ.then_ret ?_
               refine JQ.then_ret ?_
               refine JQ.blk_ret ?_
               refine JQ.met_ret ?_
               refine JQ.then_ret ?_
               rw [hr1 _ (Option.some.inj H1).symm, fin_ret] at H0
               obtain rfl := Option.some.inj H0
               exact JQ.done' (rs := [.tmp 4, .tmp 5]) (vs := [.slice none 0 0, .int .i64 12]) [At.row none 0 3 ((flInt .i64).kd) ([] : List Int) false] (.inr rfl) ⟨by kernel_rfl, by kernel_rfl, trivial⟩ (fun _ h => Heap.to (Heap.addRow0 (α := Int) 3 ((flInt .i64).kd) false h)) ⟨none, 0, rfl, rfl⟩
             · refine J.cond_false h419 ?_
               refine J.skip ?_
               refine JQ.blk_normal ?_
               refine JQ.then_normal ?_
               refine JQ.sub [(0, .slice (some ⟨g417, o418, none⟩) b1.length c366), (6, .slice Aa369 out368.length c370), (11, .slice (some ⟨g413, o414, none⟩) t372.1.length c375), (13, .int .i64 i399)] ?_
               refine J.region ?_
               refine JL.mv (.int .i64 i399) ?_
               refine JL.pur (.int .i64 (w64 (i399 + 1))) (some 68) ?_
               refine JL.as (.int .i64 (w64 (i399 + 1))) ?_
               refine JL.end_ ?_
               refine JQ.then_normal ?_
               exact JQ.again (w64 (i399 + 1)) () (Option.some.inj H1).symm (fun _ h => Heap.to h)
           · refine J.cond_false h410 ?_
             refine J.exit ?_
             refine JQ.then_exit ?_
             refine JQ.then_exit ?_
             refine JQ.blk_exit ?_
             rw [hb1 _ (Option.some.inj H1).symm, fin_brk] at H0
             exact JQ.met () () H0 (fun _ h => Heap.to (Heap.pick [1] (by decide) h))
         · clear hit H0
           rintro ⟨⟩ ⟨⟩ H0
           replace H0 : ref13_Unpack.k29 out368 = some r := H0
           unfold ref13_Unpack.k29 at H0
           refine JQ.sub [(6, .slice Aa369 out368.length c370)] ?_
           refine JQ.turn (Δ' := [At.row Aa369 c370 3 ((flInt .i64).kd) out368 false]) (fun _ h => h.to) ?_
           refine JQ.then_normal ?_
           refine J.seq ?_
           refine J.region ?_
           refine JL.mv (.slice Aa369 out368.length c370) ?_
           refine JL.as (.slice Aa369 out368.length c370) ?_
           refine JL.as (.int .i64 0) ?_
           refine JL.end_ ?_
           refine JQ.then_normal ?_
           refine JQ.sub [(4, .slice Aa369 out368.length c370), (5, .int .i64 0)] ?_
           refine J.ret ?_
           obtain rfl := Option.some.inj H0
           exact JQ.done' (rs := [.tmp 4, .tmp 5]) (vs := [.slice Aa369 out368.length c370, .int .i64 0]) [At.row Aa369 c370 3 ((flInt .i64).kd) out368 false] (.inr rfl) ⟨by kernel_rfl, by kernel_rfl, trivial⟩ (fun _ h => Heap.to h) ⟨Aa369, c370, rfl, rfl⟩

theorem ref13_SameBytes.ok (a1 : (List Int)) (Aa2 : Option Addr) (c3 : Nat) (b5 : (List Int)) (Aa6 : Option Addr) (c7 : Nat) (r : Bool) (H0 : ref13_SameBytes.f a1 b5 = some r) :
    Does Try.prog 23 [.slice Aa2 a1.length c3, .slice Aa6 b5.length c7].toArray [At.rd Aa2 c3 ((flInt .u8).kd) a1 true, At.rd Aa6 c7 ((flInt .u8).kd) b5 true] [] false (fun v Δ => v = .bool r ∧ Δ = []) := by
 refine Does.body (vs := [.slice Aa2 a1.length c3, .slice Aa6 b5.length c7]) Try.func23 rfl ⟨.inl rfl, .inl rfl, trivial⟩ trivial fun w S => ?_
 unfold ref13_SameBytes.f at H0
 refine J.seq ?_
 refine J.region ?_
 refine JL.as (.bool false) ?_
 refine JL.end_ ?_
 refine JQ.then_normal ?_
 refine JQ.sub [(0, .slice Aa2 a1.length c3), (1, .slice Aa6 b5.length c7)] ?_
 refine J.seq ?_
 refine J.seq ?_
 refine J.region ?_
 refine JL.mv (.slice Aa2 a1.length c3) ?_
 refine JL.pur (.int .i64 (a1.length : Int)) (some 7) ?_
 refine JL.mv (.slice Aa6 b5.length c7) ?_
 refine JL.pur (.int .i64 (b5.length : Int)) (some 9) ?_
 refine JL.pur (.bool (!decide ((a1.length : Int) = (b5.length : Int)))) (some 10) ?_
 refine JL.end_ ?_
 refine JQ.then_normal ?_
 refine JQ.sub [(0, .slice Aa2 a1.length c3), (1, .slice Aa6 b5.length c7), (10, .bool (!decide ((a1.length : Int) = (b5.length : Int))))] ?_
 rcases ite_cases H0 with ⟨h9, H0⟩ | ⟨h9, H0⟩
 · refine J.cond_true h9 ?_
   refine J.seq ?_
   refine J.region ?_
   refine JL.as (.bool false) ?_
   refine JL.end_ ?_
   refine JQ.then_normal ?_
   refine JQ.sub [(4, .bool false)] ?_
   refine JQ.mask [] [false, false] ?_
   refine J.ret ?_
   refine JQ.then_ret ?_
   obtain rfl := Option.some.inj H0
   exact JQ.done' (rs := [.tmp 4]) (vs := [.bool false]) [] (.inr rfl) ⟨by kernel_rfl, trivial⟩ (fun _ h => Heap.to h) ⟨rfl, rfl⟩
 · refine J.cond_false h9 ?_
   refine J.skip ?_
   refine JQ.then_normal ?_
   refine JQ.sub [(0, .slice Aa2 a1.length c3), (1, .slice Aa6 b5.length c7)] ?_
   refine J.seq ?_
   refine J.seq ?_
   refine J.region ?_
   refine JL.as (.int .i64 0) ?_
   refine JL.end_ ?_
   refine JQ.then_normal ?_
   obtain ⟨o1, hit, H0⟩ := bind_some H0
   refine J.loop (σ := Int) (τ := Unit) (G := Unit) (G' := Unit) _ o1 (fun s g => [(0, .slice Aa2 a1.length c3), (1, .slice Aa6 b5.length c7), (5, .int .i64 s)]) (fun s g => [At.rd Aa2 c3 ((flInt .u8).kd) a1 true, At.rd Aa6 c7 ((flInt .u8).kd) b5 true]) (fun t => ref13_SameBytes.k2 = some r) (fun t g => []) (fun t g => []) 0 () hit (fun _ h => Heap.to h) ?_ ?_
   · clear hit
     rintro i32 ⟨⟩ st1 H1 hb1 hr1
     replace H1 : ref13_SameBytes.s1 a1 b5 i32 = some st1 := H1
     unfold ref13_SameBytes.s1 at H1
     refine JQ.sub [(0, .slice Aa2 a1.length c3), (1, .slice Aa6 b5.length c7), (5, .int .i64 i32)] ?_
     refine JQ.turn (Δ' := [At.rd Aa2 c3 ((flInt .u8).kd) a1 true, At.rd Aa6 c7 ((flInt .u8).kd) b5 true]) (fun _ h => h.to) ?_
     refine J.seq ?_
     refine J.seq ?_
     refine J.region ?_
     refine JL.mv (.int .i64 i32) ?_
     refine JL.mv (.slice Aa2 a1.length c3) ?_
     refine JL.pur (.int .i64 (a1.length : Int)) (some 13) ?_
     refine JL.pur (.bool (decide (i32 < (a1.length : Int)))) (some 14) ?_
     refine JL.end_ ?_
     refine JQ.then_normal ?_
     refine JQ.sub [(0, .slice Aa2 a1.length c3), (1, .slice Aa6 b5.length c7), (5, .int .i64 i32), (14, .bool (decide (i32 < (a1.length : Int))))] ?_
     rcases ite_cases H1 with ⟨h43, H1⟩ | ⟨h43, H1⟩
     · refine J.cond_true h43 ?_
       refine J.skip ?_
       refine JQ.then_normal ?_
       refine JQ.sub [(0, .slice Aa2 a1.length c3), (1, .slice Aa6 b5.length c7), (5, .int .i64 i32)] ?_
       refine J.seq ?_
       refine J.block ?_
       refine J.seq ?_
       refine J.draw ?_
       refine QL.mv (.slice Aa2 a1.length c3) ?_
       refine QL.mv (.int .i64 i32) ?_
       obtain ⟨⟨h44, h45⟩, H1⟩ := ite_must H1
       refine QL.ixAddr 0 1 c3 .i64 (elems_rd Aa2 c3 ((flInt .u8).kd) a1 true) Try.underlying41 tySize_5 h44 h45 fun g46 o47 hA => ?_
       subst hA
       refine QL.val (.int .u8 (ix a1 i32)) (some 20) (gives_loadEl (f := (flInt .u8)) 0 0 i32 (elems_rd (some ⟨g46, o47, none⟩) c3 ((flInt .u8).kd) a1 true) h44 h45 tySize_5 (.inr ⟨tyAgg_5, rfl, rfl⟩)) ?_
       refine QL.mv (.slice Aa6 b5.length c7) ?_
       refine QL.mv (.int .i64 i32) ?_
       obtain ⟨⟨h48, h49⟩, H1⟩ := ite_must H1
       refine QL.ixAddr 1 1 c7 .i64 (elems_rd Aa6 c7 ((flInt .u8).kd) b5 true) Try.underlying41 tySize_5 h48 h49 fun g50 o51 hA => ?_
       subst hA
       refine QL.val (.int .u8 (ix b5 i32)) (some 24) (gives_loadEl (f := (flInt .u8)) 1 0 i32 (elems_rd (some ⟨g50, o51, none⟩) c7 ((flInt .u8).kd) b5 true) h48 h49 tySize_5 (.inr ⟨tyAgg_5, rfl, rfl⟩)) ?_
       refine QL.pur (.bool (!decide ((ix a1 i32) = (ix b5 i32)))) (some 25) ?_
       refine QL.nil ?_
       refine JA.nil ?_
       refine JQ.then_normal ?_
       refine JQ.sub [(0, .slice (some ⟨g46, o47, none⟩) a1.length c3), (1, .slice (some ⟨g50, o51, none⟩) b5.length c7), (5, .int .i64 i32), (25, .bool (!decide ((ix a1 i32) = (ix b5 i32))))] ?_
       rcases ite_cases H1 with ⟨h52, H1⟩ | ⟨h52, H1⟩
       · refine J.cond_true h52 ?_
         refine J.seq ?_
         refine J.region ?_
         refine JL.as (.bool false) ?_
         refine JL.end_ ?_
         refine JQ.then_normal ?_
         refine JQ.sub [(4, .bool false)] ?_
         refine JQ.mask [] [false, false] ?_
         refine J.ret ?_
         refine JQ.blk_ret ?_
         refine JQ.then_ret ?_
         refine JQ.then_ret ?_
         refine JQ.blk_ret ?_
         refine JQ.met_ret ?_
         refine JQ.then_ret ?_
         rw [hr1 _ (Option.some.inj H1).symm, fin_ret] at H0
         obtain rfl := Option.some.inj H0
         exact JQ.done' (rs := [.tmp 4]) (vs := [.bool false]) [] (.inr rfl) ⟨by kernel_rfl, trivial⟩ (fun _ h => Heap.to h) ⟨rfl, rfl⟩
       · refine J.cond_false h52 ?_
         refine J.skip ?_
         refine JQ.blk_normal ?_
         refine JQ.then_normal ?_
         refine JQ.sub [(0, .slice (some ⟨g46, o47, none⟩) a1.length c3), (1, .slice (some ⟨g50, o51, none⟩) b5.length c7), (5, .int .i64 i32)] ?_
         refine J.region ?_
         refine JL.mv (.int .i64 i32) ?_
         refine JL.pur (.int .i64 (w64 (i32 + 1))) (some 16) ?_
         refine JL.as (.int .i64 (w64 (i32 + 1))) ?_
         refine JL.end_ ?_
         refine JQ.then_normal ?_
         exact JQ.again (w64 (i32 + 1)) () (Option.some.inj H1).symm (fun _ h => Heap.to h)
     · refine J.cond_false h43 ?_
       refine J.exit ?_
       refine JQ.then_exit ?_
       refine JQ.then_exit ?_
       refine JQ.blk_exit ?_
       rw [hb1 _ (Option.some.inj H1).symm, fin_brk] at H0
       exact JQ.met () () H0 (fun _ h => Heap.to (Heap.pick [] (by decide) h))
   · clear hit H0
     rintro ⟨⟩ ⟨⟩ H0
     replace H0 : ref13_SameBytes.k2 = some r := H0
     unfold ref13_SameBytes.k2 at H0
     refine JQ.sub [] ?_
     refine JQ.turn (Δ' := []) (fun _ h => h.to) ?_
     refine JQ.then_normal ?_
     refine J.seq ?_
     refine J.region ?_
     refine JL.as (.bool true) ?_
     refine JL.end_ ?_
     refine JQ.then_normal ?_
     refine J.ret ?_
     obtain rfl := Option.some.inj H0
     exact JQ.done' (rs := [.tmp 4]) (vs := [.bool true]) [] (.inr rfl) ⟨by kernel_rfl, trivial⟩ (fun _ h => Heap.to h) ⟨rfl, rfl⟩

theorem ref13_Same.ok (a1 : (List Int)) (Aa2 : Option Addr) (c3 : Nat) (b5 : (List Int)) (Aa6 : Option Addr) (c7 : Nat) (r : Bool) (H0 : ref13_Same.f a1 b5 = some r) :
    Does Try.prog 18 [.slice Aa2 a1.length c3, .slice Aa6 b5.length c7].toArray [At.rd Aa2 c3 ((flInt .i64).kd) a1 true, At.rd Aa6 c7 ((flInt .i64).kd) b5 true] [] false (fun v Δ => v = .bool r ∧ Δ = []) := by
 refine Does.body (vs := [.slice Aa2 a1.length c3, .slice Aa6 b5.length c7]) Try.func18 rfl ⟨.inl rfl, .inl rfl, trivial⟩ trivial fun w S => ?_
 unfold ref13_Same.f at H0
 refine J.seq ?_
 refine J.region ?_
 refine JL.as (.bool false) ?_
 refine JL.end_ ?_
 refine JQ.then_normal ?_
 refine JQ.sub [(0, .slice Aa2 a1.length c3), (1, .slice Aa6 b5.length c7)] ?_
 refine J.seq ?_
 refine J.seq ?_
 refine J.region ?_
 refine JL.mv (.slice Aa2 a1.length c3) ?_
 refine JL.pur (.int .i64 (a1.length : Int)) (some 7) ?_
 refine JL.mv (.slice Aa6 b5.length c7) ?_
 refine JL.pur (.int .i64 (b5.length : Int)) (some 9) ?_
 refine JL.pur (.bool (!decide ((a1.length : Int) = (b5.length : Int)))) (some 10) ?_
 refine JL.end_ ?_
 refine JQ.then_normal ?_
 refine JQ.sub [(0, .slice Aa2 a1.length c3), (1, .slice Aa6 b5.length c7), (10, .bool (!decide ((a1.length : Int) = (b5.length : Int))))] ?_
 rcases ite_cases H0 with ⟨h9, H0⟩ | ⟨h9, H0⟩
 · refine J.cond_true h9 ?_
   refine J.seq ?_
   refine J.region ?_
   refine JL.as (.bool false) ?_
   refine JL.end_ ?_
   refine JQ.then_normal ?_
   refine JQ.sub [(4, .bool false)] ?_
   refine JQ.mask [] [false, false] ?_
   refine J.ret ?_
   refine JQ.then_ret ?_
   obtain rfl := Option.some.inj H0
   exact JQ.done' (rs := [.tmp 4]) (vs := [.bool false]) [] (.inr rfl) ⟨by kernel_rfl, trivial⟩ (fun _ h => Heap.to h) ⟨rfl, rfl⟩
 · refine J.cond_false h9 ?_
   refine J.skip ?_
   refine JQ.then_normal ?_
   refine JQ.sub [(0, .slice Aa2 a1.length c3), (1, .slice Aa6 b5.length c7)] ?_
   refine J.seq ?_
   refine J.seq ?_
   refine J.region ?_
   refine JL.as (.int .i64 0) ?_
   refine JL.end_ ?_
   refine JQ.then_normal ?_
   obtain ⟨o1, hit, H0⟩ := bind_some H0
   refine J.loop (σ := Int) (τ := Unit) (G := Unit) (G' := Unit) _ o1 (fun s g => [(0, .slice Aa2 a1.length c3), (1, .slice Aa6 b5.length c7), (5, .int .i64 s)]) (fun s g => [At.rd Aa2 c3 ((flInt .i64).kd) a1 true, At.rd Aa6 c7 ((flInt .i64).kd) b5 true]) (fun t => ref13_Same.k2 = some r) (fun t g => []) (fun t g => []) 0 () hit (fun _ h => Heap.to h) ?_ ?_
   · clear hit
     rintro i32 ⟨⟩ st1 H1 hb1 hr1
     replace H1 : ref13_Same.s1 a1 b5 i32 = some st1 := H1
     unfold ref13_Same.s1 at H1
     refine JQ.sub [(0, .slice Aa2 a1.length c3), (1, .slice Aa6 b5.length c7), (5, .int .i64 i32)] ?_
     refine JQ.turn (Δ' := [At.rd Aa2 c3 ((flInt .i64).kd) a1 true, At.rd Aa6 c7 ((flInt .i64).kd) b5 true]) (fun _ h => h.to) ?_
     refine J.seq ?_
     refine J.seq ?_
     refine J.region ?_
     refine JL.mv (.int .i64 i32) ?_
     refine JL.mv (.slice Aa2 a1.length c3) ?_
     refine JL.pur (.int .i64 (a1.length : Int)) (some 13) ?_
     refine JL.pur (.bool (decide (i32 < (a1.length : Int)))) (some 14) ?_
     refine JL.end_ ?_
     refine JQ.then_normal ?_
     refine JQ.sub [(0, .slice Aa2 a1.length c3), (1, .slice Aa6 b5.length c7), (5, .int .i64 i32), (14, .bool (decide (i32 < (a1.length : Int))))] ?_
     rcases ite_cases H1 with ⟨h43, H1⟩ | ⟨h43, H1⟩
     · refine J.cond_true h43 ?_
       refine J.skip ?_
       refine JQ.then_normal ?_
       refine JQ.sub [(0, .slice Aa2 a1.length c3), (1, .slice Aa6 b5.length c7), (5, .int .i64 i32)] ?_
       refine J.seq ?_
       refine J.block ?_
       refine J.seq ?_
       refine J.draw ?_
       refine QL.mv (.slice Aa2 a1.length c3) ?_
       refine QL.mv (.int .i64 i32) ?_
       obtain ⟨⟨h44, h45⟩, H1⟩ := ite_must H1
       refine QL.ixAddr 0 1 c3 .i64 (elems_rd Aa2 c3 ((flInt .i64).kd) a1 true) Try.underlying22 tySize_3 h44 h45 fun g46 o47 hA => ?_
       subst hA
       refine QL.val (.int .i64 (ix a1 i32)) (some 20) (gives_loadEl (f := (flInt .i64)) 0 0 i32 (elems_rd (some ⟨g46, o47, none⟩) c3 ((flInt .i64).kd) a1 true) h44 h45 tySize_3 (.inr ⟨tyAgg_3, rfl, rfl⟩)) ?_
       refine QL.mv (.slice Aa6 b5.length c7) ?_
       refine QL.mv (.int .i64 i32) ?_
       obtain ⟨⟨h48, h49⟩, H1⟩ := ite_must H1
       refine QL.ixAddr 1 1 c7 .i64 (elems_rd Aa6 c7 ((flInt .i64).kd) b5 true) Try.underlying22 tySize_3 h48 h49 fun g50 o51 hA => ?_
       subst hA
       refine QL.val (.int .i64 (ix b5 i32)) (some 24) (gives_loadEl (f := (flInt .i64)) 1 0 i32 (elems_rd (some ⟨g50, o51, none⟩) c7 ((flInt .i64).kd) b5 true) h48 h49 tySize_3 (.inr ⟨tyAgg_3, rfl, rfl⟩)) ?_
       refine QL.pur (.bool (!decide ((ix a1 i32) = (ix b5 i32)))) (some 25) ?_
       refine QL.nil ?_
       refine JA.nil ?_
       refine JQ.then_normal ?_
       refine JQ.sub [(0, .slice (some ⟨g46, o47, none⟩) a1.length c3), (1, .slice (some ⟨g50, o51, none⟩) b5.length c7), (5, .int .i64 i32), (25, .bool (!decide ((ix a1 i32) = (ix b5 i32))))] ?_
       rcases ite_cases H1 with ⟨h52, H1⟩ | ⟨h52, H1⟩
       · refine J.cond_true h52 ?_
         refine J.seq ?_
         refine J.region ?_
         refine JL.as (.bool false) ?_
         refine JL.end_ ?_
         refine JQ.then_normal ?_
         refine JQ.sub [(4, .bool false)] ?_
         refine JQ.mask [] [false, false] ?_
         refine J.ret ?_
         refine JQ.blk_ret ?_
         refine JQ.then_ret ?_
         refine JQ.then_ret ?_
         refine JQ.blk_ret ?_
         refine JQ.met_ret ?_
         refine JQ.then_ret ?_
         rw [hr1 _ (Option.some.inj H1).symm, fin_ret] at H0
         obtain rfl := Option.some.inj H0
         exact JQ.done' (rs := [.tmp 4]) (vs := [.bool false]) [] (.inr rfl) ⟨by kernel_rfl, trivial⟩ (fun _ h => Heap.to h) ⟨rfl, rfl⟩
       · refine J.cond_false h52 ?_
         refine J.skip ?_
         refine JQ.blk_normal ?_
         refine JQ.then_normal ?_
         refine JQ.sub [(0, .slice (some ⟨g46, o47, none⟩) a1.length c3), (1, .slice (some ⟨g50, o51, none⟩) b5.length c7), (5, .int .i64 i32)] ?_
         refine J.region ?_
         refine JL.mv (.int .i64 i32) ?_
         refine JL.pur (.int .i64 (w64 (i32 + 1))) (some 16) ?_
         refine JL.as (.int .i64 (w64 (i32 + 1))) ?_
         refine JL.end_ ?_
         refine JQ.then_normal ?_
         exact JQ.again (w64 (i32 + 1)) () (Option.some.inj H1).symm (fun _ h => Heap.to h)
     · refine J.cond_false h43 ?_
       refine J.exit ?_
       refine JQ.then_exit ?_
       refine JQ.then_exit ?_
       refine JQ.blk_exit ?_
       rw [hb1 _ (Option.some.inj H1).symm, fin_brk] at H0
       exact JQ.met () () H0 (fun _ h => Heap.to (Heap.pick [] (by decide) h))
   · clear hit H0
     rintro ⟨⟩ ⟨⟩ H0
     replace H0 : ref13_Same.k2 = some r := H0
     unfold ref13_Same.k2 at H0
     refine JQ.sub [] ?_
     refine JQ.turn (Δ' := []) (fun _ h => h.to) ?_
     refine JQ.then_normal ?_
     refine J.seq ?_
     refine J.region ?_
     refine JL.as (.bool true) ?_
     refine JL.end_ ?_
     refine JQ.then_normal ?_
     refine J.ret ?_
     obtain rfl := Option.some.inj H0
     exact JQ.done' (rs := [.tmp 4]) (vs := [.bool true]) [] (.inr rfl) ⟨by kernel_rfl, trivial⟩ (fun _ h => Heap.to h) ⟨rfl, rfl⟩

theorem law13_SamplePacks.ok (s1 : (List Int)) (Aa2 : Option Addr) (c3 : Nat) (b5 : (List Int)) (Aa6 : Option Addr) (c7 : Nat) (n9 : Int) (r : Bool) (H0 : law13_SamplePacks.f s1 b5 n9 = some r) :
    Does Try.prog 4 [.slice Aa2 s1.length c3, .slice Aa6 b5.length c7, .int .i64 n9].toArray [At.rd Aa2 c3 ((flInt .i64).kd) s1 true, At.rd Aa6 c7 ((flInt .u8).kd) b5 true] [] false (fun v Δ => v = .bool r ∧ Δ = []) := by
 refine Does.body (vs := [.slice Aa2 s1.length c3, .slice Aa6 b5.length c7, .int .i64 n9]) Try.func4 rfl ⟨.inl rfl, .inl rfl, trivial⟩ trivial fun w S => ?_
 unfold law13_SamplePacks.f at H0
 refine J.seq ?_
 refine J.region ?_
 refine JL.as (.bool false) ?_
 refine JL.end_ ?_
 refine JQ.then_normal ?_
 refine JQ.sub [(0, .slice Aa2 s1.length c3), (1, .slice Aa6 b5.length c7), (2, .int .i64 n9)] ?_
 refine J.seq ?_
 refine J.join (T := Bool) (G := Unit) (fun t => law13_SamplePacks.k1 s1 b5 n9 t = some r) (fun t g => [(0, .slice Aa2 s1.length c3), (1, .slice Aa6 b5.length c7), (2, .int .i64 n9), (21, .bool t)]) (fun t g => [At.rd Aa2 c3 ((flInt .i64).kd) s1 true, At.rd Aa6 c7 ((flInt .u8).kd) b5 true]) ?_ ?_
 · refine J.region ?_
   refine JL.mv (.slice Aa2 s1.length c3) ?_
   obtain ⟨t42, hc43, H0⟩ := bind_some H0
   refine JL.call [] [] [] (ref13_Long.ok s1 Aa2 c3 _ hc43) ⟨pre_any 0 (view_rd Aa2 c3 ((flInt .i64).kd) s1 true true), trivial⟩ ?_
   rintro _ _ ⟨rfl, rfl⟩
   refine JL.mv (.bool t42) ?_
   rcases ite_cases H0 with ⟨h44, H0⟩ | ⟨h44, H0⟩
   · refine JL.off 2 17 false (some 18) h44 ?_
     refine JL.off 2 17 false (some 19) h44 ?_
     refine JL.off 2 17 false (some 20) h44 ?_
     refine JL.val (.bool true) (some 21) (gives_pickT h44) ?_
     refine JL.end_ ?_
     refine JQ.then_normal ?_
     exact JQ.meet true () H0 (fun _ h => Heap.to h)
   · refine JL.on 2 17 h44 ?_
     refine JL.mv (.slice Aa6 b5.length c7) ?_
     refine JL.on 2 17 h44 ?_
     refine JL.pur (.int .i64 (b5.length : Int)) (some 19) ?_
     refine JL.on 2 17 h44 ?_
     refine JL.pur (.bool (decide (300 < (b5.length : Int)))) (some 20) ?_
     refine JL.val (.bool (decide (300 < (b5.length : Int)))) (some 21) (gives_pickF h44) ?_
     refine JL.end_ ?_
     refine JQ.then_normal ?_
     exact JQ.meet (decide (300 < (b5.length : Int))) () H0 (fun _ h => Heap.to h)
 · clear H0
   rintro x13 ⟨⟩ H0
   replace H0 : law13_SamplePacks.k1 s1 b5 n9 x13 = some r := H0
   unfold law13_SamplePacks.k1 at H0
   refine JQ.sub [(0, .slice Aa2 s1.length c3), (1, .slice Aa6 b5.length c7), (2, .int .i64 n9), (21, .bool x13)] ?_
   refine JQ.turn (Δ' := [At.rd Aa2 c3 ((flInt .i64).kd) s1 true, At.rd Aa6 c7 ((flInt .u8).kd) b5 true]) (fun _ h => h.to) ?_
   rcases ite_cases H0 with ⟨h14, H0⟩ | ⟨h14, H0⟩
   · refine J.cond_true h14 ?_
     refine J.seq ?_
     refine J.region ?_
     refine JL.as (.bool true) ?_
     refine JL.end_ ?_
     refine JQ.then_normal ?_
     refine JQ.sub [(6, .bool true)] ?_
     refine JQ.mask [] [false, false] ?_
     refine J.ret ?_
     refine JQ.then_ret ?_
     obtain rfl := Option.some.inj H0
     exact JQ.done' (rs := [.tmp 6]) (vs := [.bool true]) [] (.inr rfl) ⟨by kernel_rfl, trivial⟩ (fun _ h => Heap.to h) ⟨rfl, rfl⟩
   · refine J.cond_false h14 ?_
     refine J.skip ?_
     refine JQ.then_normal ?_
     refine JQ.sub [(0, .slice Aa2 s1.length c3), (1, .slice Aa6 b5.length c7), (2, .int .i64 n9)] ?_
     refine J.seq ?_
     refine J.region ?_
     refine JL.mv (.slice Aa2 s1.length c3) ?_
     obtain ⟨t15, hc16, H0⟩ := bind_some H0
     refine JL.call [] [] [] (sample_Pack.ok s1 Aa2 c3 _ hc16) ⟨pre_any 0 (view_rd Aa2 c3 ((flInt .i64).kd) s1 true true), trivial⟩ ?_
     rintro _ _ ⟨Aa17, c18, rfl, rfl⟩
     refine JL.mv (.tuple #[.slice Aa17 t15.1.length c18, .int .i64 t15.2]) ?_
     refine JL.pur (.slice Aa17 t15.1.length c18) (some 25) ?_
     refine JL.pur (.int .i64 t15.2) (some 26) ?_
     refine JL.as (.slice Aa17 t15.1.length c18) ?_
     refine JL.as (.int .i64 t15.2) ?_
     refine JL.end_ ?_
     refine JQ.then_normal ?_
     refine JQ.sub [(0, .slice Aa2 s1.length c3), (1, .slice Aa6 b5.length c7), (2, .int .i64 n9), (7, .slice Aa17 t15.1.length c18), (8, .int .i64 t15.2)] ?_
     refine J.seq ?_
     refine J.region ?_
     refine JL.mv (.slice Aa2 s1.length c3) ?_
     obtain ⟨t20, hc21, H0⟩ := bind_some H0
     refine JL.call [] [] [] (ref13_Pack.ok s1 Aa2 c3 _ hc21) ⟨pre_any 0 (view_rd Aa2 c3 ((flInt .i64).kd) s1 true true), trivial⟩ ?_
     rintro _ _ ⟨Aa22, c23, rfl, rfl⟩
     refine JL.mv (.tuple #[.slice Aa22 t20.1.length c23, .int .i64 t20.2]) ?_
     refine JL.pur (.slice Aa22 t20.1.length c23) (some 30) ?_
     refine JL.pur (.int .i64 t20.2) (some 31) ?_
     refine JL.as (.slice Aa22 t20.1.length c23) ?_
     refine JL.as (.int .i64 t20.2) ?_
     refine JL.end_ ?_
     refine JQ.then_normal ?_
     refine JQ.sub [(1, .slice Aa6 b5.length c7), (2, .int .i64 n9), (7, .slice Aa17 t15.1.length c18), (8, .int .i64 t15.2), (9, .slice Aa22 t20.1.length c23), (10, .int .i64 t20.2)] ?_
     refine JQ.mask [At.rd Aa6 c7 ((flInt .u8).kd) b5 true, At.row Aa17 c18 5 ((flInt .u8).kd) t15.1 false, At.row Aa22 c23 5 ((flInt .u8).kd) t20.1 false] [false, true, true, true] ?_
     refine J.seq ?_
     refine J.region ?_
     refine JL.mv (.slice Aa6 b5.length c7) ?_
     refine JL.mv (.int .i64 n9) ?_
     obtain ⟨t25, hc26, H0⟩ := bind_some H0
     refine JL.call [] [] [] (sample_Unpack.ok b5 Aa6 c7 n9 _ hc26) ⟨pre_any 0 (view_rd Aa6 c7 ((flInt .u8).kd) b5 true true), trivial⟩ ?_
     rintro _ _ ⟨Aa27, c28, rfl, rfl⟩
     refine JL.mv (.tuple #[.slice Aa27 t25.1.length c28, .int .i64 t25.2]) ?_
     refine JL.pur (.slice Aa27 t25.1.length c28) (some 36) ?_
     refine JL.pur (.int .i64 t25.2) (some 37) ?_
     refine JL.as (.slice Aa27 t25.1.length c28) ?_
     refine JL.as (.int .i64 t25.2) ?_
     refine JL.end_ ?_
     refine JQ.then_normal ?_
     refine JQ.sub [(1, .slice Aa6 b5.length c7), (2, .int .i64 n9), (7, .slice Aa17 t15.1.length c18), (8, .int .i64 t15.2), (9, .slice Aa22 t20.1.length c23), (10, .int .i64 t20.2), (11, .slice Aa27 t25.1.length c28), (12, .int .i64 t25.2)] ?_
     refine J.seq ?_
     refine J.region ?_
     refine JL.mv (.slice Aa6 b5.length c7) ?_
     refine JL.mv (.int .i64 n9) ?_
     obtain ⟨t30, hc31, H0⟩ := bind_some H0
     refine JL.call [] [] [] (ref13_Unpack.ok b5 Aa6 c7 n9 _ hc31) ⟨pre_any 0 (view_rd Aa6 c7 ((flInt .u8).kd) b5 true true), trivial⟩ ?_
     rintro _ _ ⟨Aa32, c33, rfl, rfl⟩
     refine JL.mv (.tuple #[.slice Aa32 t30.1.length c33, .int .i64 t30.2]) ?_
     refine JL.pur (.slice Aa32 t30.1.length c33) (some 42) ?_
     refine JL.pur (.int .i64 t30.2) (some 43) ?_
     refine JL.as (.slice Aa32 t30.1.length c33) ?_
     refine JL.as (.int .i64 t30.2) ?_
     refine JL.end_ ?_
     refine JQ.then_normal ?_
     refine JQ.sub [(7, .slice Aa17 t15.1.length c18), (8, .int .i64 t15.2), (9, .slice Aa22 t20.1.length c23), (10, .int .i64 t20.2), (11, .slice Aa27 t25.1.length c28), (12, .int .i64 t25.2), (13, .slice Aa32 t30.1.length c33), (14, .int .i64 t30.2)] ?_
     refine JQ.mask [At.row Aa17 c18 5 ((flInt .u8).kd) t15.1 false, At.row Aa22 c23 5 ((flInt .u8).kd) t20.1 false, At.rd Aa27 c28 ((flInt .i64).kd) t25.1 true, At.row Aa32 c33 3 ((flInt .i64).kd) t30.1 false] [false, true, true, true, true] ?_
     refine J.seq ?_
     refine J.region ?_
     refine JL.mv (.slice Aa17 t15.1.length c18) ?_
     refine JL.mv (.slice Aa22 t20.1.length c23) ?_
     obtain ⟨t35, hc36, H0⟩ := bind_some H0
     refine JL.call [] [] [] (ref13_SameBytes.ok t15.1 Aa17 c18 t20.1 Aa22 c23 _ hc36) ⟨pre_view 0 (view_row Aa17 c18 5 ((flInt .u8).kd) t15.1 false true), ⟨pre_view 1 (view_row Aa22 c23 5 ((flInt .u8).kd) t20.1 false true), trivial⟩⟩ ?_
     rintro _ _ ⟨rfl, rfl⟩
     refine JL.mv (.bool t35) ?_
     rcases ite_cases H0 with ⟨h37, H0⟩ | ⟨h37, H0⟩
     · refine JL.on 3 47 h37 ?_
       refine JL.mv (.int .i64 t15.2) ?_
       refine JL.on 3 47 h37 ?_
       refine JL.mv (.int .i64 t20.2) ?_
       refine JL.on 3 47 h37 ?_
       refine JL.pur (.bool (decide (t15.2 = t20.2))) (some 50) ?_
       refine JL.val (.bool (decide (t15.2 = t20.2))) (some 51) (gives_pickT h37) ?_
       refine JL.mv (.bool (decide (t15.2 = t20.2))) ?_
       rcases ite_cases H0 with ⟨h38, H0⟩ | ⟨h38, H0⟩
       · refine JL.on 8 52 h38 ?_
         refine JL.mv (.slice Aa27 t25.1.length c28) ?_
         refine JL.on 8 52 h38 ?_
         refine JL.mv (.slice Aa32 t30.1.length c33) ?_
         refine JL.on 8 52 h38 ?_
         obtain ⟨t39, hc40, H0⟩ := bind_some H0
         refine JL.call [] [] [] (ref13_Same.ok t25.1 Aa27 c28 t30.1 Aa32 c33 _ hc40) ⟨pre_any 2 (view_rd Aa27 c28 ((flInt .i64).kd) t25.1 true true), ⟨pre_view 3 (view_row Aa32 c33 3 ((flInt .i64).kd) t30.1 false true), trivial⟩⟩ ?_
         rintro _ _ ⟨rfl, rfl⟩
         refine JL.val (.bool t39) (some 56) (gives_pickT h38) ?_
         refine JL.mv (.bool t39) ?_
         rcases ite_cases H0 with ⟨h41, H0⟩ | ⟨h41, H0⟩
         · refine JL.on 13 57 h41 ?_
           refine JL.mv (.int .i64 t25.2) ?_
           refine JL.on 13 57 h41 ?_
           refine JL.mv (.int .i64 t30.2) ?_
           refine JL.on 13 57 h41 ?_
           refine JL.pur (.bool (decide (t25.2 = t30.2))) (some 60) ?_
           refine JL.val (.bool (decide (t25.2 = t30.2))) (some 61) (gives_pickT h41) ?_
           refine JL.as (.bool (decide (t25.2 = t30.2))) ?_
           refine JL.end_ ?_
           refine JQ.then_normal ?_
           refine JQ.sub [(6, .bool (decide (t25.2 = t30.2)))] ?_
           refine JQ.mask [] [false, false, false, false] ?_
           refine J.ret ?_
           obtain rfl := Option.some.inj H0
           exact JQ.done' (rs := [.tmp 6]) (vs := [.bool (decide (t25.2 = t30.2))]) [] (.inr rfl) ⟨by kernel_rfl, trivial⟩ (fun _ h => Heap.to h) ⟨rfl, rfl⟩
         · refine JL.off 13 57 true (some 58) h41 ?_
           refine JL.off 13 57 true (some 59) h41 ?_
           refine JL.off 13 57 true (some 60) h41 ?_
           refine JL.val (.bool false) (some 61) (gives_pickF h41) ?_
           refine JL.as (.bool false) ?_
           refine JL.end_ ?_
           refine JQ.then_normal ?_
           refine JQ.sub [(6, .bool false)] ?_
           refine JQ.mask [] [false, false, false, false] ?_
           refine J.ret ?_
           obtain rfl := Option.some.inj H0
           exact JQ.done' (rs := [.tmp 6]) (vs := [.bool false]) [] (.inr rfl) ⟨by kernel_rfl, trivial⟩ (fun _ h => Heap.to h) ⟨rfl, rfl⟩
       · refine JL.off 8 52 true (some 53) h38 ?_
         refine JL.off 8 52 true (some 54) h38 ?_
         refine JL.off 8 52 true (some 55) h38 ?_
         refine JL.val (.bool false) (some 56) (gives_pickF h38) ?_
         refine JL.mv (.bool false) ?_
         refine JL.off 13 57 true (some 58) rfl ?_
         refine JL.off 13 57 true (some 59) rfl ?_
         refine JL.off 13 57 true (some 60) rfl ?_
         refine JL.val (.bool false) (some 61) (gives_pickF rfl) ?_
         refine JL.as (.bool false) ?_
         refine JL.end_ ?_
         refine JQ.then_normal ?_
         refine JQ.sub [(6, .bool false)] ?_
         refine JQ.mask [] [false, false, false, false] ?_
         refine J.ret ?_
         obtain rfl := Option.some.inj H0
         exact JQ.done' (rs := [.tmp 6]) (vs := [.bool false]) [] (.inr rfl) ⟨by kernel_rfl, trivial⟩ (fun _ h => Heap.to h) ⟨rfl, rfl⟩
     · refine JL.off 3 47 true (some 48) h37 ?_
       refine JL.off 3 47 true (some 49) h37 ?_
       refine JL.off 3 47 true (some 50) h37 ?_
       refine JL.val (.bool false) (some 51) (gives_pickF h37) ?_
       refine JL.mv (.bool false) ?_
       refine JL.off 8 52 true (some 53) rfl ?_
       refine JL.off 8 52 true (some 54) rfl ?_
       refine JL.off 8 52 true (some 55) rfl ?_
       refine JL.val (.bool false) (some 56) (gives_pickF rfl) ?_
       refine JL.mv (.bool false) ?_
       refine JL.off 13 57 true (some 58) rfl ?_
       refine JL.off 13 57 true (some 59) rfl ?_
       refine JL.off 13 57 true (some 60) rfl ?_
       refine JL.val (.bool false) (some 61) (gives_pickF rfl) ?_
       refine JL.as (.bool false) ?_
       refine JL.end_ ?_
       refine JQ.then_normal ?_
       refine JQ.sub [(6, .bool false)] ?_
       refine JQ.mask [] [false, false, false, false] ?_
       refine J.ret ?_
       obtain rfl := Option.some.inj H0
       exact JQ.done' (rs := [.tmp 6]) (vs := [.bool false]) [] (.inr rfl) ⟨by kernel_rfl, trivial⟩ (fun _ h => Heap.to h) ⟨rfl, rfl⟩


end Go.Proofs.Ytlemaejpllhjnaa.M
