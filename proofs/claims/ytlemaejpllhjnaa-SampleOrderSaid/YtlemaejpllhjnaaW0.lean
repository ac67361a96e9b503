import Derived.Test.YtlemaejpllhjnaaX
import Derived.Test.YtlemaejpllhjnaaProg
import Derived.Test.YtlemaejpllhjnaaM0
set_option linter.unusedVariables false
set_option linter.unusedSimpArgs false
set_option maxRecDepth 100000
set_option maxHeartbeats 8000000
namespace Go.Proofs.Ytlemaejpllhjnaa.M
open Go.GW Go.Proofs

def zv_104 : Wide := (⟨0, 0⟩ : Wide)
def zv_51 : Frac := (⟨0, 0⟩ : Frac)
def mv_104 (x : Wide) : Value := .agg #[.int .u64 x.hi, .int .u64 x.lo]
def cl_104 (x : Wide) : List Value := [.int .u64 x.hi, .int .u64 x.lo]
def mv_51 (x : Frac) : Value := .agg #[.int .i64 x.Num, .int .i64 x.Den]
def cl_51 (x : Frac) : List Value := [.int .i64 x.Num, .int .i64 x.Den]
theorem info_3 : (Try.prog.info? 3).map (fun i => (i.zero, i.size, i.bytes)) = some (some (.int .i64 0), 1, 8) := by kernel_rfl
theorem info_5 : (Try.prog.info? 5).map (fun i => (i.zero, i.size, i.bytes)) = some (some (.int .u8 0), 1, 1) := by kernel_rfl
theorem tyAgg_2 : tyAgg Try.prog 2 = some false := by kernel_rfl
theorem tyAgg_3 : tyAgg Try.prog 3 = some false := by kernel_rfl
theorem tyAgg_5 : tyAgg Try.prog 5 = some false := by kernel_rfl
theorem tyAgg_22 : tyAgg Try.prog 22 = some false := by kernel_rfl
theorem tyAgg_24 : tyAgg Try.prog 24 = some false := by kernel_rfl
theorem tyAgg_41 : tyAgg Try.prog 41 = some false := by kernel_rfl
theorem tyAgg_51 : tyAgg Try.prog 51 = some true := by kernel_rfl
theorem tyAgg_68 : tyAgg Try.prog 68 = some false := by kernel_rfl
theorem tyAgg_104 : tyAgg Try.prog 104 = some true := by kernel_rfl
theorem tySize_2 : tySize Try.prog 2 = some 1 := by kernel_rfl
theorem tySize_3 : tySize Try.prog 3 = some 1 := by kernel_rfl
theorem tySize_5 : tySize Try.prog 5 = some 1 := by kernel_rfl
theorem tySize_24 : tySize Try.prog 24 = some 1 := by kernel_rfl
theorem tySize_41 : tySize Try.prog 41 = some 1 := by kernel_rfl
theorem tySize_51 : tySize Try.prog 51 = some 2 := by kernel_rfl
theorem tySize_104 : tySize Try.prog 104 = some 2 := by kernel_rfl
theorem law13_given.ok  (r : (List Int)) (H0 : law13_given.f = some r) :
    Does Try.prog 31 [].toArray [] [] false (fun v Δ => ∃ A1001 : Option Addr, ∃ c1001 : Nat, v = .slice A1001 r.length c1001 ∧ Δ = [At.row A1001 c1001 3 ((flInt .i64).kd) r false]) := by
 refine Does.body (vs := []) Try.func31 rfl trivial trivial fun w S => ?_
 unfold law13_given.f at H0
 refine J.seq ?_
 refine J.region ?_
 refine JL.as (.slice none 0 0) ?_
 refine JL.end_ ?_
 refine JQ.then_normal ?_
 refine JQ.sub [] ?_
 refine J.seq ?_
 refine J.region ?_
 refine JL.buildSl 3 ((flInt .i64).kd) (([5, (-20), 0, 9] : List Int) : List Int) [.int .i64 5, .int .i64 (-20), .int .i64 0, .int .i64 9] false (closes_fl rfl) fun b1 => ?_
 refine JL.as (.slice (some ⟨b1, 0, none⟩) ([5, (-20), 0, 9] : List Int).length 4) ?_
 refine JL.end_ ?_
 refine JQ.then_normal ?_
 refine JQ.sub [(0, .slice (some ⟨b1, 0, none⟩) ([5, (-20), 0, 9] : List Int).length 4)] ?_
 refine J.ret ?_
 obtain rfl := Option.some.inj H0
 exact JQ.done' (rs := [.tmp 0]) (vs := [.slice (some ⟨b1, 0, none⟩) ([5, (-20), 0, 9] : List Int).length 4]) [At.row (some ⟨b1, 0, none⟩) 4 3 ((flInt .i64).kd) ([5, (-20), 0, 9] : List Int) false] (.inr rfl) ⟨by kernel_rfl, trivial⟩ (fun _ h => Heap.to h) ⟨(some ⟨b1, 0, none⟩), 4, rfl, rfl⟩

theorem sample_check_1.ok (x1 : Int) (r : Bool) (H0 : sample_check_1.f x1 = some r) :
    Does Try.prog 53 [.int .i64 x1].toArray [] [] false (fun v Δ => v = .bool r ∧ Δ = []) := by
 refine Does.body (vs := [.int .i64 x1]) Try.func53 rfl trivial trivial fun w S => ?_
 unfold sample_check_1.f at H0
 refine J.seq ?_
 refine J.region ?_
 refine JL.as (.bool false) ?_
 refine JL.end_ ?_
 refine JQ.then_normal ?_
 refine JQ.sub [(0, .int .i64 x1)] ?_
 refine J.seq ?_
 refine J.region ?_
 refine JL.mv (.int .i64 x1) ?_
 refine JL.pur (.bool (decide (x1 < (-1000000)))) (some 4) ?_
 refine JL.mv (.bool (decide (x1 < (-1000000)))) ?_
 rcases ite_cases H0 with ⟨h2, H0⟩ | ⟨h2, H0⟩
 · refine JL.off 2 5 false (some 6) h2 ?_
   refine JL.off 2 5 false (some 7) h2 ?_
   refine JL.val (.bool true) (some 8) (gives_pickT h2) ?_
   refine JL.as (.bool true) ?_
   refine JL.end_ ?_
   refine JQ.then_normal ?_
   refine JQ.sub [(2, .bool true)] ?_
   refine J.ret ?_
   obtain rfl := Option.some.inj H0
   exact JQ.done' (rs := [.tmp 2]) (vs := [.bool true]) [] (.inr rfl) ⟨by kernel_rfl, trivial⟩ (fun _ h => Heap.to h) ⟨rfl, rfl⟩
 · refine JL.on 2 5 h2 ?_
   refine JL.mv (.int .i64 x1) ?_
   refine JL.on 2 5 h2 ?_
   refine JL.pur (.bool (decide (1000000 < x1))) (some 7) ?_
   refine JL.val (.bool (decide (1000000 < x1))) (some 8) (gives_pickF h2) ?_
   refine JL.as (.bool (decide (1000000 < x1))) ?_
   refine JL.end_ ?_
   refine JQ.then_normal ?_
   refine JQ.sub [(2, .bool (decide (1000000 < x1)))] ?_
   refine J.ret ?_
   obtain rfl := Option.some.inj H0
   exact JQ.done' (rs := [.tmp 2]) (vs := [.bool (decide (1000000 < x1))]) [] (.inr rfl) ⟨by kernel_rfl, trivial⟩ (fun _ h => Heap.to h) ⟨rfl, rfl⟩

theorem slices_IndexFunc__int_int__sample_check_1.ok (s1 : (List Int)) (Aa2 : Option Addr) (c3 : Nat) (r : Int) (H0 : slices_IndexFunc__int_int__sample_check_1.f s1 = some r) :
    Does Try.prog 51 [.slice Aa2 s1.length c3, .func (.func 53) #[] #[]].toArray [At.rd Aa2 c3 ((flInt .i64).kd) s1 true] [] false (fun v Δ => v = .int .i64 r ∧ Δ = []) := by
 refine Does.body (vs := [.slice Aa2 s1.length c3, .func (.func 53) #[] #[]]) Try.func51 rfl ⟨.inl rfl, trivial⟩ trivial fun w S => ?_
 unfold slices_IndexFunc__int_int__sample_check_1.f at H0
 refine J.seq ?_
 refine J.region ?_
 refine JL.as (.int .i64 0) ?_
 refine JL.end_ ?_
 refine JQ.then_normal ?_
 refine JQ.sub [(0, .slice Aa2 s1.length c3), (1, .func (.func 53) #[] #[])] ?_
 refine J.seq ?_
 refine J.seq ?_
 refine J.region ?_
 refine JL.mv (.slice Aa2 s1.length c3) ?_
 refine JL.pur (.int .i64 (s1.length : Int)) (some 7) ?_
 refine JL.mv (.int .i64 0) ?_
 refine JL.end_ ?_
 refine JQ.then_normal ?_
 refine JQ.sub [(0, .slice Aa2 s1.length c3), (1, .func (.func 53) #[] #[]), (7, .int .i64 (s1.length : Int)), (8, .int .i64 0)] ?_
 obtain ⟨o1, hit, H0⟩ := bind_some H0
 refine J.loop (σ := Int) (τ := Unit) (G := Unit) (G' := Unit) _ o1 (fun s g => [(0, .slice Aa2 s1.length c3), (1, .func (.func 53) #[] #[]), (7, .int .i64 (s1.length : Int)), (8, .int .i64 s)]) (fun s g => [At.rd Aa2 c3 ((flInt .i64).kd) s1 true]) (fun t => slices_IndexFunc__int_int__sample_check_1.k2 = some r) (fun t g => []) (fun t g => []) 0 () hit (fun _ h => Heap.to h) ?_ ?_
 · clear hit
   rintro x23 ⟨⟩ st1 H1 hb1 hr1
   replace H1 : slices_IndexFunc__int_int__sample_check_1.s1 s1 x23 = some st1 := H1
   unfold slices_IndexFunc__int_int__sample_check_1.s1 at H1
   refine JQ.sub [(0, .slice Aa2 s1.length c3), (1, .func (.func 53) #[] #[]), (7, .int .i64 (s1.length : Int)), (8, .int .i64 x23)] ?_
   refine JQ.turn (Δ' := [At.rd Aa2 c3 ((flInt .i64).kd) s1 true]) (fun _ h => h.to) ?_
   refine J.seq ?_
   refine J.region ?_
   refine JL.pur (.bool (decide (x23 < (s1.length : Int)))) (some 9) ?_
   refine JL.end_ ?_
   refine JQ.then_normal ?_
   refine J.seq ?_
   rcases ite_cases H1 with ⟨h32, H1⟩ | ⟨h32, H1⟩
   · refine J.cond_true h32 ?_
     refine J.skip ?_
     refine JQ.then_normal ?_
     refine JQ.sub [(0, .slice Aa2 s1.length c3), (1, .func (.func 53) #[] #[]), (7, .int .i64 (s1.length : Int)), (8, .int .i64 x23)] ?_
     refine J.seq ?_
     refine J.block ?_
     refine J.seq ?_
     refine J.region ?_
     refine JL.mv (.int .i64 x23) ?_
     refine JL.as (.int .i64 x23) ?_
     refine JL.end_ ?_
     refine JQ.then_normal ?_
     refine JQ.sub [(0, .slice Aa2 s1.length c3), (1, .func (.func 53) #[] #[]), (5, .int .i64 x23), (7, .int .i64 (s1.length : Int)), (8, .int .i64 x23)] ?_
     refine J.seq ?_
     refine J.region ?_
     refine JL.mv (.func (.func 53) #[] #[]) ?_
     refine JL.mv (.slice Aa2 s1.length c3) ?_
     refine JL.mv (.int .i64 x23) ?_
     obtain ⟨⟨h33, h34⟩, H1⟩ := ite_must H1
     refine JL.ixAddr 0 1 c3 .i64 (elems_rd Aa2 c3 ((flInt .i64).kd) s1 true) Try.underlying22 tySize_3 h33 h34 fun g35 o36 hA => ?_
     subst hA
     refine JL.val (.int .i64 (ix s1 x23)) (some 15) (gives_loadEl (f := (flInt .i64)) 0 0 x23 (elems_rd (some ⟨g35, o36, none⟩) c3 ((flInt .i64).kd) s1 true) h33 h34 tySize_3 (.inr ⟨tyAgg_3, rfl, rfl⟩)) ?_
     obtain ⟨t37, hc38, H1⟩ := bind_some H1
     refine JL.call [] [] [] (sample_check_1.ok (ix s1 x23) _ hc38) trivial ?_
     rintro _ _ ⟨rfl, rfl⟩
     refine JL.end_ ?_
     refine JQ.then_normal ?_
     refine JQ.sub [(0, .slice (some ⟨g35, o36, none⟩) s1.length c3), (1, .func (.func 53) #[] #[]), (5, .int .i64 x23), (7, .int .i64 (s1.length : Int)), (8, .int .i64 x23), (16, .bool t37)] ?_
     rcases ite_cases H1 with ⟨h39, H1⟩ | ⟨h39, H1⟩
     · refine J.cond_true h39 ?_
       refine J.seq ?_
       refine J.region ?_
       refine JL.mv (.int .i64 x23) ?_
       refine JL.as (.int .i64 x23) ?_
       refine JL.end_ ?_
       refine JQ.then_normal ?_
       refine JQ.sub [(4, .int .i64 x23)] ?_
       refine JQ.mask [] [false] ?_
       refine J.ret ?_
       refine JQ.blk_ret ?_
       refine JQ.then_ret ?_
       refine JQ.then_ret ?_
       refine JQ.blk_ret ?_
       refine JQ.met_ret ?_
       refine JQ.then_ret ?_
       rw [hr1 _ (Option.some.inj H1).symm, fin_ret] at H0
       obtain rfl := Option.some.inj H0
       exact JQ.done' (rs := [.tmp 4]) (vs := [.int .i64 x23]) [] (.inr rfl) ⟨by kernel_rfl, trivial⟩ (fun _ h => Heap.to h) ⟨rfl, rfl⟩
     · refine J.cond_false h39 ?_
       refine J.skip ?_
       refine JQ.blk_normal ?_
       refine JQ.then_normal ?_
       refine JQ.sub [(0, .slice (some ⟨g35, o36, none⟩) s1.length c3), (1, .func (.func 53) #[] #[]), (7, .int .i64 (s1.length : Int)), (8, .int .i64 x23)] ?_
       refine J.region ?_
       refine JL.pur (.int .i64 (w64 (x23 + 1))) (some 18) ?_
       refine JL.mv (.int .i64 (w64 (x23 + 1))) ?_
       refine JL.end_ ?_
       refine JQ.then_normal ?_
       exact JQ.again (w64 (x23 + 1)) () (Option.some.inj H1).symm (fun _ h => Heap.to h)
   · refine J.cond_false h32 ?_
     refine J.exit ?_
     refine JQ.then_exit ?_
     refine JQ.then_exit ?_
     refine JQ.blk_exit ?_
     rw [hb1 _ (Option.some.inj H1).symm, fin_brk] at H0
     exact JQ.met () () H0 (fun _ h => Heap.to (Heap.pick [] (by decide) h))
 · clear hit H0
   rintro ⟨⟩ ⟨⟩ H0
   replace H0 : slices_IndexFunc__int_int__sample_check_1.k2 = some r := H0
   unfold slices_IndexFunc__int_int__sample_check_1.k2 at H0
   refine JQ.sub [] ?_
   refine JQ.turn (Δ' := []) (fun _ h => h.to) ?_
   refine JQ.then_normal ?_
   refine J.seq ?_
   refine J.region ?_
   refine JL.as (.int .i64 (-1)) ?_
   refine JL.end_ ?_
   refine JQ.then_normal ?_
   refine J.ret ?_
   obtain rfl := Option.some.inj H0
   exact JQ.done' (rs := [.tmp 4]) (vs := [.int .i64 (-1)]) [] (.inr rfl) ⟨by kernel_rfl, trivial⟩ (fun _ h => Heap.to h) ⟨rfl, rfl⟩

theorem slices_ContainsFunc__int_int__sample_check_1.ok (s1 : (List Int)) (Aa2 : Option Addr) (c3 : Nat) (r : Bool) (H0 : slices_ContainsFunc__int_int__sample_check_1.f s1 = some r) :
    Does Try.prog 34 [.slice Aa2 s1.length c3, .func (.func 53) #[] #[]].toArray [At.rd Aa2 c3 ((flInt .i64).kd) s1 true] [] false (fun v Δ => v = .bool r ∧ Δ = []) := by
 refine Does.body (vs := [.slice Aa2 s1.length c3, .func (.func 53) #[] #[]]) Try.func34 rfl ⟨.inl rfl, trivial⟩ trivial fun w S => ?_
 unfold slices_ContainsFunc__int_int__sample_check_1.f at H0
 refine J.seq ?_
 refine J.region ?_
 refine JL.as (.bool false) ?_
 refine JL.end_ ?_
 refine JQ.then_normal ?_
 refine JQ.sub [(0, .slice Aa2 s1.length c3), (1, .func (.func 53) #[] #[])] ?_
 refine J.seq ?_
 refine J.region ?_
 refine JL.mv (.slice Aa2 s1.length c3) ?_
 refine JL.mv (.func (.func 53) #[] #[]) ?_
 obtain ⟨t5, hc6, H0⟩ := bind_some H0
 refine JL.call [] [] [] (slices_IndexFunc__int_int__sample_check_1.ok s1 Aa2 c3 _ hc6) ⟨pre_any 0 (view_rd Aa2 c3 ((flInt .i64).kd) s1 true true), trivial⟩ ?_
 rintro _ _ ⟨rfl, rfl⟩
 refine JL.pur (.bool (decide (0 ≤ t5))) (some 8) ?_
 refine JL.as (.bool (decide (0 ≤ t5))) ?_
 refine JL.end_ ?_
 refine JQ.then_normal ?_
 refine JQ.sub [(4, .bool (decide (0 ≤ t5)))] ?_
 refine JQ.mask [] [false] ?_
 refine J.ret ?_
 obtain rfl := Option.some.inj H0
 exact JQ.done' (rs := [.tmp 4]) (vs := [.bool (decide (0 ≤ t5))]) [] (.inr rfl) ⟨by kernel_rfl, trivial⟩ (fun _ h => Heap.to h) ⟨rfl, rfl⟩

theorem sample_check.ok (levels1 : (List Int)) (Aa2 : Option Addr) (c3 : Nat) (r : Int) (H0 : sample_check.f levels1 = some r) :
    Does Try.prog 42 [.slice Aa2 levels1.length c3].toArray [At.rd Aa2 c3 ((flInt .i64).kd) levels1 true] [] false (fun v Δ => v = .int .i64 r ∧ Δ = []) := by
 refine Does.body (vs := [.slice Aa2 levels1.length c3]) Try.func42 rfl ⟨.inl rfl, trivial⟩ trivial fun w S => ?_
 unfold sample_check.f at H0
 refine J.seq ?_
 refine J.region ?_
 refine JL.as (.int .i64 0) ?_
 refine JL.end_ ?_
 refine JQ.then_normal ?_
 refine JQ.sub [(0, .slice Aa2 levels1.length c3)] ?_
 refine J.seq ?_
 refine J.seq ?_
 refine J.region ?_
 refine JL.mv (.slice Aa2 levels1.length c3) ?_
 refine JL.pur (.int .i64 (levels1.length : Int)) (some 4) ?_
 refine JL.pur (.bool (decide (256 < (levels1.length : Int)))) (some 5) ?_
 refine JL.end_ ?_
 refine JQ.then_normal ?_
 refine JQ.sub [(0, .slice Aa2 levels1.length c3), (5, .bool (decide (256 < (levels1.length : Int))))] ?_
 rcases ite_cases H0 with ⟨h5, H0⟩ | ⟨h5, H0⟩
 · refine J.cond_true h5 ?_
   refine J.seq ?_
   refine J.region ?_
   refine JL.as (.int .i64 4) ?_
   refine JL.end_ ?_
   refine JQ.then_normal ?_
   refine JQ.sub [(2, .int .i64 4)] ?_
   refine JQ.mask [] [false] ?_
   refine J.ret ?_
   refine JQ.then_ret ?_
   obtain rfl := Option.some.inj H0
   exact JQ.done' (rs := [.tmp 2]) (vs := [.int .i64 4]) [] (.inr rfl) ⟨by kernel_rfl, trivial⟩ (fun _ h => Heap.to h) ⟨rfl, rfl⟩
 · refine J.cond_false h5 ?_
   refine J.skip ?_
   refine JQ.then_normal ?_
   refine JQ.sub [(0, .slice Aa2 levels1.length c3)] ?_
   refine J.seq ?_
   refine J.seq ?_
   refine J.region ?_
   refine JL.mv (.slice Aa2 levels1.length c3) ?_
   obtain ⟨t6, hc7, H0⟩ := bind_some H0
   refine JL.call [] [] [] (slices_ContainsFunc__int_int__sample_check_1.ok levels1 Aa2 c3 _ hc7) ⟨pre_any 0 (view_rd Aa2 c3 ((flInt .i64).kd) levels1 true true), trivial⟩ ?_
   rintro _ _ ⟨rfl, rfl⟩
   refine JL.end_ ?_
   refine JQ.then_normal ?_
   refine JQ.sub [(7, .bool t6)] ?_
   refine JQ.mask [] [false] ?_
   rcases ite_cases H0 with ⟨h8, H0⟩ | ⟨h8, H0⟩
   · refine J.cond_true h8 ?_
     refine J.seq ?_
     refine J.region ?_
     refine JL.as (.int .i64 8) ?_
     refine JL.end_ ?_
     refine JQ.then_normal ?_
     refine JQ.sub [(2, .int .i64 8)] ?_
     refine J.ret ?_
     refine JQ.then_ret ?_
     obtain rfl := Option.some.inj H0
     exact JQ.done' (rs := [.tmp 2]) (vs := [.int .i64 8]) [] (.inr rfl) ⟨by kernel_rfl, trivial⟩ (fun _ h => Heap.to h) ⟨rfl, rfl⟩
   · refine J.cond_false h8 ?_
     refine J.skip ?_
     refine JQ.then_normal ?_
     refine JQ.sub [] ?_
     refine J.seq ?_
     refine J.region ?_
     refine JL.as (.int .i64 0) ?_
     refine JL.end_ ?_
     refine JQ.then_normal ?_
     refine J.ret ?_
     obtain rfl := Option.some.inj H0
     exact JQ.done' (rs := [.tmp 2]) (vs := [.int .i64 0]) [] (.inr rfl) ⟨by kernel_rfl, trivial⟩ (fun _ h => Heap.to h) ⟨rfl, rfl⟩

theorem sample_Take.ok (levels1 : (List Int)) (Aa2 : Option Addr) (c3 : Nat) (threshold5 : Int) (r : ((List Int) × Int)) (H0 : sample_Take.f levels1 threshold5 = some r) :
    Does Try.prog 30 [.slice Aa2 levels1.length c3, .int .i64 threshold5].toArray [At.rd Aa2 c3 ((flInt .i64).kd) levels1 true] [] false (fun v Δ => ∃ A1001 : Option Addr, ∃ c1001 : Nat, v = .tuple #[.slice A1001 r.1.length c1001, .int .i64 r.2] ∧ Δ = [At.row A1001 c1001 3 ((flInt .i64).kd) r.1 false]) := by
 refine Does.body (vs := [.slice Aa2 levels1.length c3, .int .i64 threshold5]) Try.func30 rfl ⟨.inl rfl, trivial⟩ trivial fun w S => ?_
 unfold sample_Take.f at H0
 refine J.seq ?_
 refine J.region ?_
 refine JL.as (.slice none 0 0) ?_
 refine JL.as (.int .i64 0) ?_
 refine JL.end_ ?_
 refine JQ.then_normal ?_
 refine JQ.sub [(0, .slice Aa2 levels1.length c3), (1, .int .i64 threshold5)] ?_
 refine J.seq ?_
 refine J.seq ?_
 refine J.region ?_
 refine JL.mv (.slice Aa2 levels1.length c3) ?_
 obtain ⟨t6, hc7, H0⟩ := bind_some H0
 refine JL.call [] [] [] (sample_check.ok levels1 Aa2 c3 _ hc7) ⟨pre_any 0 (view_rd Aa2 c3 ((flInt .i64).kd) levels1 true true), trivial⟩ ?_
 rintro _ _ ⟨rfl, rfl⟩
 refine JL.as (.int .i64 t6) ?_
 refine JL.end_ ?_
 refine JQ.then_normal ?_
 refine JQ.sub [(0, .slice Aa2 levels1.length c3), (1, .int .i64 threshold5), (6, .int .i64 t6)] ?_
 refine J.seq ?_
 refine J.region ?_
 refine JL.mv (.int .i64 t6) ?_
 refine JL.pur (.bool (!decide (t6 = 0))) (some 14) ?_
 refine JL.end_ ?_
 refine JQ.then_normal ?_
 refine JQ.sub [(0, .slice Aa2 levels1.length c3), (1, .int .i64 threshold5), (6, .int .i64 t6), (14, .bool (!decide (t6 = 0)))] ?_
 rcases ite_cases H0 with ⟨h8, H0⟩ | ⟨h8, H0⟩
 · refine J.cond_true h8 ?_
   refine J.seq ?_
   refine J.region ?_
   refine JL.mv (.int .i64 t6) ?_
   refine JL.as (.slice none 0 0) ?_
   refine JL.as (.int .i64 t6) ?_
   refine JL.end_ ?_
   refine JQ.then_normal ?_
   refine JQ.sub [(4, .slice none 0 0), (5, .int .i64 t6)] ?_
   refine JQ.mask [] [false] ?_
   refine J.ret ?_
   refine JQ.then_ret ?_
   obtain rfl := Option.some.inj H0
   exact JQ.done' (rs := [.tmp 4, .tmp 5]) (vs := [.slice none 0 0, .int .i64 t6]) [At.row none 0 3 ((flInt .i64).kd) ([] : List Int) false] (.inr rfl) ⟨by kernel_rfl, by kernel_rfl, trivial⟩ (fun _ h => Heap.to (Heap.addRow0 (α := Int) 3 ((flInt .i64).kd) false h)) ⟨none, 0, rfl, rfl⟩
 · refine J.cond_false h8 ?_
   refine J.skip ?_
   refine JQ.then_normal ?_
   refine JQ.sub [(0, .slice Aa2 levels1.length c3), (1, .int .i64 threshold5)] ?_
   refine J.seq ?_
   refine J.join (T := Bool) (G := Unit) (fun t => sample_Take.k1 levels1 threshold5 t = some r) (fun t g => [(0, .slice Aa2 levels1.length c3), (1, .int .i64 threshold5), (21, .bool t)]) (fun t g => [At.rd Aa2 c3 ((flInt .i64).kd) levels1 true]) ?_ ?_
   · refine J.region ?_
     refine JL.mv (.int .i64 threshold5) ?_
     refine JL.pur (.bool (decide (threshold5 < 1))) (some 17) ?_
     refine JL.mv (.bool (decide (threshold5 < 1))) ?_
     rcases ite_cases H0 with ⟨h104, H0⟩ | ⟨h104, H0⟩
     · refine JL.off 2 18 false (some 19) h104 ?_
       refine JL.off 2 18 false (some 20) h104 ?_
       refine JL.val (.bool true) (some 21) (gives_pickT h104) ?_
       refine JL.end_ ?_
       refine JQ.then_normal ?_
       exact JQ.meet true () H0 (fun _ h => Heap.to h)
     · refine JL.on 2 18 h104 ?_
       refine JL.mv (.int .i64 threshold5) ?_
       refine JL.on 2 18 h104 ?_
       refine JL.pur (.bool (decide (1000000 < threshold5))) (some 20) ?_
       refine JL.val (.bool (decide (1000000 < threshold5))) (some 21) (gives_pickF h104) ?_
       refine JL.end_ ?_
       refine JQ.then_normal ?_
       exact JQ.meet (decide (1000000 < threshold5)) () H0 (fun _ h => Heap.to h)
   · clear H0
     rintro x10 ⟨⟩ H0
     replace H0 : sample_Take.k1 levels1 threshold5 x10 = some r := H0
     unfold sample_Take.k1 at H0
     refine JQ.sub [(0, .slice Aa2 levels1.length c3), (1, .int .i64 threshold5), (21, .bool x10)] ?_
     refine JQ.turn (Δ' := [At.rd Aa2 c3 ((flInt .i64).kd) levels1 true]) (fun _ h => h.to) ?_
     rcases ite_cases H0 with ⟨h11, H0⟩ | ⟨h11, H0⟩
     · refine J.cond_true h11 ?_
       refine J.seq ?_
       refine J.region ?_
       refine JL.as (.slice none 0 0) ?_
       refine JL.as (.int .i64 2) ?_
       refine JL.end_ ?_
       refine JQ.then_normal ?_
       refine JQ.sub [(4, .slice none 0 0), (5, .int .i64 2)] ?_
       refine JQ.mask [] [false] ?_
       refine J.ret ?_
       refine JQ.then_ret ?_
       obtain rfl := Option.some.inj H0
       exact JQ.done' (rs := [.tmp 4, .tmp 5]) (vs := [.slice none 0 0, .int .i64 2]) [At.row none 0 3 ((flInt .i64).kd) ([] : List Int) false] (.inr rfl) ⟨by kernel_rfl, by kernel_rfl, trivial⟩ (fun _ h => Heap.to (Heap.addRow0 (α := Int) 3 ((flInt .i64).kd) false h)) ⟨none, 0, rfl, rfl⟩
     · refine J.cond_false h11 ?_
       refine J.skip ?_
       refine JQ.then_normal ?_
       refine JQ.sub [(0, .slice Aa2 levels1.length c3), (1, .int .i64 threshold5)] ?_
       refine J.seq ?_
       refine J.region ?_
       refine JL.as (.slice none 0 0) ?_
       refine JL.end_ ?_
       refine JQ.then_normal ?_
       refine J.seq ?_
       refine J.seq ?_
       refine J.region ?_
       refine JL.mv (.slice Aa2 levels1.length c3) ?_
       refine JL.pur (.int .i64 (levels1.length : Int)) (some 23) ?_
       refine JL.mv (.int .i64 0) ?_
       refine JL.end_ ?_
       refine JQ.then_normal ?_
       refine JQ.sub [(1, .int .i64 threshold5), (7, .slice none 0 0), (22, .slice Aa2 levels1.length c3), (23, .int .i64 (levels1.length : Int)), (24, .int .i64 0)] ?_
       obtain ⟨o1, hit, H0⟩ := bind_some H0
       refine J.loop (σ := ((List Int) × Int)) (τ := List Int) (G := ((Option Addr) × Nat × (Option Addr) × Nat)) (G' := ((Option Addr) × Nat)) _ o1 (fun s g => [(1, .int .i64 threshold5), (7, .slice g.1 s.1.length g.2.1), (22, .slice g.2.2.1 levels1.length g.2.2.2), (23, .int .i64 (levels1.length : Int)), (24, .int .i64 s.2)]) (fun s g => [At.row g.1 g.2.1 3 ((flInt .i64).kd) s.1 false, At.rd g.2.2.1 g.2.2.2 ((flInt .i64).kd) levels1 true]) (fun t => sample_Take.k9 t = some r) (fun t g => [(7, .slice g.1 t.length g.2)]) (fun t g => [At.row g.1 g.2 3 ((flInt .i64).kd) t false]) ([], 0) (none, 0, Aa2, c3) hit (fun _ h => Heap.to (Heap.pick [1, 0] (by decide) (Heap.addRow0 (α := Int) 3 ((flInt .i64).kd) false h))) ?_ ?_
       · clear hit
         rintro ⟨out60, x67⟩ ⟨Aa61, c62, Aa64, c65⟩ st1 H1 hb1 hr1
         replace H1 : sample_Take.s8 levels1 threshold5 out60 x67 = some st1 := H1
         unfold sample_Take.s8 at H1
         refine JQ.sub [(1, .int .i64 threshold5), (7, .slice Aa61 out60.length c62), (22, .slice Aa64 levels1.length c65), (23, .int .i64 (levels1.length : Int)), (24, .int .i64 x67)] ?_
         refine JQ.turn (Δ' := [At.row Aa61 c62 3 ((flInt .i64).kd) out60 false, At.rd Aa64 c65 ((flInt .i64).kd) levels1 true]) (fun _ h => h.to) ?_
         refine J.seq ?_
         refine J.region ?_
         refine JL.pur (.bool (decide (x67 < (levels1.length : Int)))) (some 25) ?_
         refine JL.end_ ?_
         refine JQ.then_normal ?_
         refine J.seq ?_
         rcases ite_cases H1 with ⟨h88, H1⟩ | ⟨h88, H1⟩
         · refine J.cond_true h88 ?_
           refine J.skip ?_
           refine JQ.then_normal ?_
           refine JQ.sub [(1, .int .i64 threshold5), (7, .slice Aa61 out60.length c62), (22, .slice Aa64 levels1.length c65), (23, .int .i64 (levels1.length : Int)), (24, .int .i64 x67)] ?_
           refine J.seq ?_
           refine J.block ?_
           refine J.seq ?_
           refine J.region ?_
           obtain ⟨⟨h89, h90⟩, H1⟩ := ite_must H1
           refine JL.ixAddr 1 1 c65 .i64 (elems_rd Aa64 c65 ((flInt .i64).kd) levels1 true) Try.underlying22 tySize_3 h89 h90 fun g91 o92 hA => ?_
           subst hA
           refine JL.val (.int .i64 (ix levels1 x67)) (some 27) (gives_loadEl (f := (flInt .i64)) 1 0 x67 (elems_rd (some ⟨g91, o92, none⟩) c65 ((flInt .i64).kd) levels1 true) h89 h90 tySize_3 (.inr ⟨tyAgg_3, rfl, rfl⟩)) ?_
           obtain ⟨x93, ex93, H1⟩ := lt_some H1
           refine JL.as' (k := .i64) x93 ex93 ?_
           refine JL.end_ ?_
           refine JQ.then_normal ?_
           refine JQ.sub [(1, .int .i64 threshold5), (7, .slice Aa61 out60.length c62), (9, .int .i64 x93), (22, .slice (some ⟨g91, o92, none⟩) levels1.length c65), (23, .int .i64 (levels1.length : Int)), (24, .int .i64 x67)] ?_
           refine J.seq ?_
           refine J.region ?_
           refine JL.as (.int .i64 3) ?_
           refine JL.end_ ?_
           refine JQ.then_normal ?_
           refine J.join (T := Int) (G := Unit) (fun t => sample_Take.k10 out60 x67 x93 t = some st1) (fun t g => [(1, .int .i64 threshold5), (7, .slice Aa61 out60.length c62), (9, .int .i64 x93), (10, .int .i64 t), (22, .slice (some ⟨g91, o92, none⟩) levels1.length c65), (23, .int .i64 (levels1.length : Int)), (24, .int .i64 x67)]) (fun t g => [At.row Aa61 c62 3 ((flInt .i64).kd) out60 false, At.rd (some ⟨g91, o92, none⟩) c65 ((flInt .i64).kd) levels1 true]) ?_ ?_
           · refine J.seq ?_
             refine J.region ?_
             refine JL.mv (.int .i64 x93) ?_
             refine JL.mv (.int .i64 x93) ?_
             refine JL.pur (.int .i64 (w64 (0 - x93))) (some 30) ?_
             refine JL.pur (.int .i64 (gmax x93 (w64 (0 - x93)))) (some 31) ?_
             refine JL.mv (.int .i64 threshold5) ?_
             refine JL.pur (.bool (decide (gmax x93 (w64 (0 - x93)) < threshold5))) (some 33) ?_
             refine JL.end_ ?_
             refine JQ.then_normal ?_
             refine JQ.sub [(1, .int .i64 threshold5), (7, .slice Aa61 out60.length c62), (9, .int .i64 x93), (10, .int .i64 3), (22, .slice (some ⟨g91, o92, none⟩) levels1.length c65), (23, .int .i64 (levels1.length : Int)), (24, .int .i64 x67), (33, .bool (decide (gmax x93 (w64 (0 - x93)) < threshold5)))] ?_
             rcases ite_cases H1 with ⟨h103, H1⟩ | ⟨h103, H1⟩
             · refine J.cond_true h103 ?_
               refine J.region ?_
               refine JL.as (.int .i64 1) ?_
               refine JL.end_ ?_
               refine JQ.then_normal ?_
               exact JQ.meet 1 () H1 (fun _ h => Heap.to h)
             · refine J.cond_false h103 ?_
               refine J.skip ?_
               refine JQ.then_normal ?_
               exact JQ.meet 3 () H1 (fun _ h => Heap.to h)
           · clear H1
             rintro y95 ⟨⟩ H1
             replace H1 : sample_Take.k10 out60 x67 x93 y95 = some st1 := H1
             unfold sample_Take.k10 at H1
             refine JQ.sub [(1, .int .i64 threshold5), (7, .slice Aa61 out60.length c62), (9, .int .i64 x93), (10, .int .i64 y95), (22, .slice (some ⟨g91, o92, none⟩) levels1.length c65), (23, .int .i64 (levels1.length : Int)), (24, .int .i64 x67)] ?_
             refine JQ.turn (Δ' := [At.row Aa61 c62 3 ((flInt .i64).kd) out60 false, At.rd (some ⟨g91, o92, none⟩) c65 ((flInt .i64).kd) levels1 true]) (fun _ h => h.to) ?_
             refine J.join (T := Int) (G := Unit) (fun t => sample_Take.k11 out60 x67 t = some st1) (fun t g => [(1, .int .i64 threshold5), (7, .slice Aa61 out60.length c62), (10, .int .i64 t), (22, .slice (some ⟨g91, o92, none⟩) levels1.length c65), (23, .int .i64 (levels1.length : Int)), (24, .int .i64 x67)]) (fun t g => [At.row Aa61 c62 3 ((flInt .i64).kd) out60 false, At.rd (some ⟨g91, o92, none⟩) c65 ((flInt .i64).kd) levels1 true]) ?_ ?_
             · refine J.seq ?_
               refine J.region ?_
               refine JL.mv (.int .i64 x93) ?_
               refine JL.pur (.bool (decide (x93 < 0))) (some 35) ?_
               refine JL.end_ ?_
               refine JQ.then_normal ?_
               refine JQ.sub [(1, .int .i64 threshold5), (7, .slice Aa61 out60.length c62), (10, .int .i64 y95), (22, .slice (some ⟨g91, o92, none⟩) levels1.length c65), (23, .int .i64 (levels1.length : Int)), (24, .int .i64 x67), (35, .bool (decide (x93 < 0)))] ?_
               rcases ite_cases H1 with ⟨h102, H1⟩ | ⟨h102, H1⟩
               · refine J.cond_true h102 ?_
                 refine J.region ?_
                 refine JL.mv (.int .i64 y95) ?_
                 refine JL.pur (.int .i64 (w64 (0 - y95))) (some 37) ?_
                 refine JL.as (.int .i64 (w64 (0 - y95))) ?_
                 refine JL.end_ ?_
                 refine JQ.then_normal ?_
                 exact JQ.meet (w64 (0 - y95)) () H1 (fun _ h => Heap.to h)
               · refine J.cond_false h102 ?_
                 refine J.skip ?_
                 refine JQ.then_normal ?_
                 exact JQ.meet y95 () H1 (fun _ h => Heap.to h)
             · clear H1
               rintro y97 ⟨⟩ H1
               replace H1 : sample_Take.k11 out60 x67 y97 = some st1 := H1
               unfold sample_Take.k11 at H1
               refine JQ.sub [(1, .int .i64 threshold5), (7, .slice Aa61 out60.length c62), (10, .int .i64 y97), (22, .slice (some ⟨g91, o92, none⟩) levels1.length c65), (23, .int .i64 (levels1.length : Int)), (24, .int .i64 x67)] ?_
               refine JQ.turn (Δ' := [At.row Aa61 c62 3 ((flInt .i64).kd) out60 false, At.rd (some ⟨g91, o92, none⟩) c65 ((flInt .i64).kd) levels1 true]) (fun _ h => h.to) ?_
               refine J.region ?_
               refine JL.mv (.slice Aa61 out60.length c62) ?_
               refine JL.mv (.int .i64 y97) ?_
               refine JL.buildSl 3 ((flInt .i64).kd) (([y97] : List Int) : List Int) [.int .i64 y97] false (closes_fl rfl) fun b98 => ?_
               obtain ⟨h101, H1⟩ := ite_must H1
               refine JL.append false false 0 2 Aa61 c62 1 out60 (elems_row (some ⟨b98, 0, none⟩) 1 3 ((flInt .i64).kd) ([y97] : List Int) false) Try.underlying22 info_3 (by omega) (by omega) (fun h => h) (.inr ⟨_, rfl⟩) fun Aa99 c100 => ?_
               refine JL.as (.slice Aa99 (out60 ++ ([y97] : List Int)).length c100) ?_
               refine JL.end_ ?_
               refine JQ.blk_normal ?_
               refine JQ.then_normal ?_
               refine JQ.sub [(1, .int .i64 threshold5), (7, .slice Aa99 (out60 ++ ([y97] : List Int)).length c100), (22, .slice (some ⟨g91, o92, none⟩) levels1.length c65), (23, .int .i64 (levels1.length : Int)), (24, .int .i64 x67)] ?_
               refine JQ.mask [At.row Aa99 c100 3 ((flInt .i64).kd) (out60 ++ ([y97] : List Int)) false, At.rd (some ⟨g91, o92, none⟩) c65 ((flInt .i64).kd) levels1 true] [true, true, false] ?_
               refine J.region ?_
               refine JL.pur (.int .i64 (w64 (x67 + 1))) (some 42) ?_
               refine JL.mv (.int .i64 (w64 (x67 + 1))) ?_
               refine JL.end_ ?_
               refine JQ.then_normal ?_
               exact JQ.again ((out60 ++ ([y97] : List Int)), w64 (x67 + 1)) (Aa99, c100, (some ⟨g91, o92, none⟩), c65) (Option.some.inj H1).symm (fun _ h => Heap.to h)
         · refine J.cond_false h88 ?_
           refine J.exit ?_
           refine JQ.then_exit ?_
           refine JQ.then_exit ?_
           refine JQ.blk_exit ?_
           rw [hb1 _ (Option.some.inj H1).symm, fin_brk] at H0
           exact JQ.met out60 (Aa61, c62) H0 (fun _ h => Heap.to (Heap.pick [0] (by decide) h))
       · clear hit H0
         rintro out84 ⟨Aa85, c86⟩ H0
         replace H0 : sample_Take.k9 out84 = some r := H0
         unfold sample_Take.k9 at H0
         refine JQ.sub [(7, .slice Aa85 out84.length c86)] ?_
         refine JQ.turn (Δ' := [At.row Aa85 c86 3 ((flInt .i64).kd) out84 false]) (fun _ h => h.to) ?_
         refine JQ.then_normal ?_
         refine J.seq ?_
         refine J.region ?_
         refine JL.mv (.slice Aa85 out84.length c86) ?_
         refine JL.as (.slice Aa85 out84.length c86) ?_
         refine JL.as (.int .i64 0) ?_
         refine JL.end_ ?_
         refine JQ.then_normal ?_
         refine JQ.sub [(4, .slice Aa85 out84.length c86), (5, .int .i64 0)] ?_
         refine J.ret ?_
         obtain rfl := Option.some.inj H0
         exact JQ.done' (rs := [.tmp 4, .tmp 5]) (vs := [.slice Aa85 out84.length c86, .int .i64 0]) [At.row Aa85 c86 3 ((flInt .i64).kd) out84 false] (.inr rfl) ⟨by kernel_rfl, by kernel_rfl, trivial⟩ (fun _ h => Heap.to h) ⟨Aa85, c86, rfl, rfl⟩

theorem slices_Index__int_int.ok (s1 : (List Int)) (Aa2 : Option Addr) (c3 : Nat) (v5 : Int) (r : Int) (H0 : slices_Index__int_int.f s1 v5 = some r) :
    Does Try.prog 50 [.slice Aa2 s1.length c3, .int .i64 v5].toArray [At.rd Aa2 c3 ((flInt .i64).kd) s1 true] [] false (fun v Δ => v = .int .i64 r ∧ Δ = []) := by
 refine Does.body (vs := [.slice Aa2 s1.length c3, .int .i64 v5]) Try.func50 rfl ⟨.inl rfl, trivial⟩ trivial fun w S => ?_
 unfold slices_Index__int_int.f at H0
 refine J.seq ?_
 refine J.region ?_
 refine JL.as (.int .i64 0) ?_
 refine JL.end_ ?_
 refine JQ.then_normal ?_
 refine JQ.sub [(0, .slice Aa2 s1.length c3), (1, .int .i64 v5)] ?_
 refine J.seq ?_
 refine J.seq ?_
 refine J.region ?_
 refine JL.mv (.slice Aa2 s1.length c3) ?_
 refine JL.pur (.int .i64 (s1.length : Int)) (some 7) ?_
 refine JL.mv (.int .i64 0) ?_
 refine JL.end_ ?_
 refine JQ.then_normal ?_
 refine JQ.sub [(0, .slice Aa2 s1.length c3), (1, .int .i64 v5), (7, .int .i64 (s1.length : Int)), (8, .int .i64 0)] ?_
 obtain ⟨o1, hit, H0⟩ := bind_some H0
 refine J.loop (σ := Int) (τ := Unit) (G := Unit) (G' := Unit) _ o1 (fun s g => [(0, .slice Aa2 s1.length c3), (1, .int .i64 v5), (7, .int .i64 (s1.length : Int)), (8, .int .i64 s)]) (fun s g => [At.rd Aa2 c3 ((flInt .i64).kd) s1 true]) (fun t => slices_Index__int_int.k2 = some r) (fun t g => []) (fun t g => []) 0 () hit (fun _ h => Heap.to h) ?_ ?_
 · clear hit
   rintro x20 ⟨⟩ st1 H1 hb1 hr1
   replace H1 : slices_Index__int_int.s1 s1 v5 x20 = some st1 := H1
   unfold slices_Index__int_int.s1 at H1
   refine JQ.sub [(0, .slice Aa2 s1.length c3), (1, .int .i64 v5), (7, .int .i64 (s1.length : Int)), (8, .int .i64 x20)] ?_
   refine JQ.turn (Δ' := [At.rd Aa2 c3 ((flInt .i64).kd) s1 true]) (fun _ h => h.to) ?_
   refine J.seq ?_
   refine J.region ?_
   refine JL.pur (.bool (decide (x20 < (s1.length : Int)))) (some 9) ?_
   refine JL.end_ ?_
   refine JQ.then_normal ?_
   refine J.seq ?_
   rcases ite_cases H1 with ⟨h27, H1⟩ | ⟨h27, H1⟩
   · refine J.cond_true h27 ?_
     refine J.skip ?_
     refine JQ.then_normal ?_
     refine JQ.sub [(0, .slice Aa2 s1.length c3), (1, .int .i64 v5), (7, .int .i64 (s1.length : Int)), (8, .int .i64 x20)] ?_
     refine J.seq ?_
     refine J.block ?_
     refine J.seq ?_
     refine J.region ?_
     refine JL.mv (.int .i64 x20) ?_
     refine JL.as (.int .i64 x20) ?_
     refine JL.end_ ?_
     refine JQ.then_normal ?_
     refine JQ.sub [(0, .slice Aa2 s1.length c3), (1, .int .i64 v5), (5, .int .i64 x20), (7, .int .i64 (s1.length : Int)), (8, .int .i64 x20)] ?_
     refine J.seq ?_
     refine J.region ?_
     refine JL.mv (.int .i64 v5) ?_
     refine JL.mv (.slice Aa2 s1.length c3) ?_
     refine JL.mv (.int .i64 x20) ?_
     obtain ⟨⟨h28, h29⟩, H1⟩ := ite_must H1
     refine JL.ixAddr 0 1 c3 .i64 (elems_rd Aa2 c3 ((flInt .i64).kd) s1 true) Try.underlying22 tySize_3 h28 h29 fun g30 o31 hA => ?_
     subst hA
     refine JL.val (.int .i64 (ix s1 x20)) (some 15) (gives_loadEl (f := (flInt .i64)) 0 0 x20 (elems_rd (some ⟨g30, o31, none⟩) c3 ((flInt .i64).kd) s1 true) h28 h29 tySize_3 (.inr ⟨tyAgg_3, rfl, rfl⟩)) ?_
     refine JL.pur (.bool (decide (v5 = (ix s1 x20)))) (some 16) ?_
     refine JL.end_ ?_
     refine JQ.then_normal ?_
     refine JQ.sub [(0, .slice (some ⟨g30, o31, none⟩) s1.length c3), (1, .int .i64 v5), (5, .int .i64 x20), (7, .int .i64 (s1.length : Int)), (8, .int .i64 x20), (16, .bool (decide (v5 = (ix s1 x20))))] ?_
     rcases ite_cases H1 with ⟨h32, H1⟩ | ⟨h32, H1⟩
     · refine J.cond_true h32 ?_
       refine J.seq ?_
       refine J.region ?_
       refine JL.mv (.int .i64 x20) ?_
       refine JL.as (.int .i64 x20) ?_
       refine JL.end_ ?_
       refine JQ.then_normal ?_
       refine JQ.sub [(4, .int .i64 x20)] ?_
       refine JQ.mask [] [false] ?_
       refine J.ret ?_
       refine JQ.blk_ret ?_
       refine JQ.then_ret ?_
       refine JQ.then_ret ?_
       refine JQ.blk_ret ?_
       refine JQ.met_ret ?_
       refine JQ.then_ret ?_
       rw [hr1 _ (Option.some.inj H1).symm, fin_ret] at H0
       obtain rfl := Option.some.inj H0
       exact JQ.done' (rs := [.tmp 4]) (vs := [.int .i64 x20]) [] (.inr rfl) ⟨by kernel_rfl, trivial⟩ (fun _ h => Heap.to h) ⟨rfl, rfl⟩
     · refine J.cond_false h32 ?_
       refine J.skip ?_
       refine JQ.blk_normal ?_
       refine JQ.then_normal ?_
       refine JQ.sub [(0, .slice (some ⟨g30, o31, none⟩) s1.length c3), (1, .int .i64 v5), (7, .int .i64 (s1.length : Int)), (8, .int .i64 x20)] ?_
       refine J.region ?_
       refine JL.pur (.int .i64 (w64 (x20 + 1))) (some 18) ?_
       refine JL.mv (.int .i64 (w64 (x20 + 1))) ?_
       refine JL.end_ ?_
       refine JQ.then_normal ?_
       exact JQ.again (w64 (x20 + 1)) () (Option.some.inj H1).symm (fun _ h => Heap.to h)
   · refine J.cond_false h27 ?_
     refine J.exit ?_
     refine JQ.then_exit ?_
     refine JQ.then_exit ?_
     refine JQ.blk_exit ?_
     rw [hb1 _ (Option.some.inj H1).symm, fin_brk] at H0
     exact JQ.met () () H0 (fun _ h => Heap.to (Heap.pick [] (by decide) h))
 · clear hit H0
   rintro ⟨⟩ ⟨⟩ H0
   replace H0 : slices_Index__int_int.k2 = some r := H0
   unfold slices_Index__int_int.k2 at H0
   refine JQ.sub [] ?_
   refine JQ.turn (Δ' := []) (fun _ h => h.to) ?_
   refine JQ.then_normal ?_
   refine J.seq ?_
   refine J.region ?_
   refine JL.as (.int .i64 (-1)) ?_
   refine JL.end_ ?_
   refine JQ.then_normal ?_
   refine J.ret ?_
   obtain rfl := Option.some.inj H0
   exact JQ.done' (rs := [.tmp 4]) (vs := [.int .i64 (-1)]) [] (.inr rfl) ⟨by kernel_rfl, trivial⟩ (fun _ h => Heap.to h) ⟨rfl, rfl⟩

theorem sample_digit.ok (x1 : Int) (r : Int) (H0 : sample_digit.f x1 = some r) :
    Does Try.prog 33 [.int .i64 x1].toArray [] [] false (fun v Δ => v = .int .i64 r ∧ Δ = []) := by
 refine Does.body (vs := [.int .i64 x1]) Try.func33 rfl trivial trivial fun w S => ?_
 unfold sample_digit.f at H0
 refine J.seq ?_
 refine J.region ?_
 refine JL.as (.int .i64 0) ?_
 refine JL.end_ ?_
 refine JQ.then_normal ?_
 refine JQ.sub [(0, .int .i64 x1)] ?_
 refine J.seq ?_
 refine J.region ?_
 refine JL.buildSl 3 ((flInt .i64).kd) (([0, (-3), (-1), 1, 3] : List Int) : List Int) [.int .i64 0, .int .i64 (-3), .int .i64 (-1), .int .i64 1, .int .i64 3] false (closes_fl rfl) fun b2 => ?_
 refine JL.mv (.int .i64 x1) ?_
 obtain ⟨t3, hc4, H0⟩ := bind_some H0
 refine JL.call [] [] [] (slices_Index__int_int.ok ([0, (-3), (-1), 1, 3] : List Int) (some ⟨b2, 0, none⟩) 5 x1 _ hc4) ⟨pre_view 0 (view_row (some ⟨b2, 0, none⟩) 5 3 ((flInt .i64).kd) ([0, (-3), (-1), 1, 3] : List Int) false true), trivial⟩ ?_
 rintro _ _ ⟨rfl, rfl⟩
 refine JL.as (.int .i64 t3) ?_
 refine JL.end_ ?_
 refine JQ.then_normal ?_
 refine JQ.sub [(2, .int .i64 t3)] ?_
 refine JQ.mask [] [false] ?_
 refine J.ret ?_
 obtain rfl := Option.some.inj H0
 exact JQ.done' (rs := [.tmp 2]) (vs := [.int .i64 t3]) [] (.inr rfl) ⟨by kernel_rfl, trivial⟩ (fun _ h => Heap.to h) ⟨rfl, rfl⟩

theorem sample_Check_1.ok (x1 : Int) (r : Bool) (H0 : sample_Check_1.f x1 = some r) :
    Does Try.prog 35 [.int .i64 x1].toArray [] [] false (fun v Δ => v = .bool r ∧ Δ = []) := by
 refine Does.body (vs := [.int .i64 x1]) Try.func35 rfl trivial trivial fun w S => ?_
 unfold sample_Check_1.f at H0
 refine J.seq ?_
 refine J.region ?_
 refine JL.as (.bool false) ?_
 refine JL.end_ ?_
 refine JQ.then_normal ?_
 refine JQ.sub [(0, .int .i64 x1)] ?_
 refine J.seq ?_
 refine J.region ?_
 refine JL.mv (.int .i64 x1) ?_
 obtain ⟨t2, hc3, H0⟩ := bind_some H0
 refine JL.call [] [] [] (sample_digit.ok x1 _ hc3) trivial ?_
 rintro _ _ ⟨rfl, rfl⟩
 refine JL.pur (.bool (decide (t2 < 0))) (some 5) ?_
 refine JL.as (.bool (decide (t2 < 0))) ?_
 refine JL.end_ ?_
 refine JQ.then_normal ?_
 refine JQ.sub [(2, .bool (decide (t2 < 0)))] ?_
 refine J.ret ?_
 obtain rfl := Option.some.inj H0
 exact JQ.done' (rs := [.tmp 2]) (vs := [.bool (decide (t2 < 0))]) [] (.inr rfl) ⟨by kernel_rfl, trivial⟩ (fun _ h => Heap.to h) ⟨rfl, rfl⟩

theorem slices_IndexFunc__int_int__sample_Check_1.ok (s1 : (List Int)) (Aa2 : Option Addr) (c3 : Nat) (r : Int) (H0 : slices_IndexFunc__int_int__sample_Check_1.f s1 = some r) :
    Does Try.prog 51 [.slice Aa2 s1.length c3, .func (.func 35) #[] #[]].toArray [At.rd Aa2 c3 ((flInt .i64).kd) s1 true] [] false (fun v Δ => v = .int .i64 r ∧ Δ = []) := by
 refine Does.body (vs := [.slice Aa2 s1.length c3, .func (.func 35) #[] #[]]) Try.func51 rfl ⟨.inl rfl, trivial⟩ trivial fun w S => ?_
 unfold slices_IndexFunc__int_int__sample_Check_1.f at H0
 refine J.seq ?_
 refine J.region ?_
 refine JL.as (.int .i64 0) ?_
 refine JL.end_ ?_
 refine JQ.then_normal ?_
 refine JQ.sub [(0, .slice Aa2 s1.length c3), (1, .func (.func 35) #[] #[])] ?_
 refine J.seq ?_
 refine J.seq ?_
 refine J.region ?_
 refine JL.mv (.slice Aa2 s1.length c3) ?_
 refine JL.pur (.int .i64 (s1.length : Int)) (some 7) ?_
 refine JL.mv (.int .i64 0) ?_
 refine JL.end_ ?_
 refine JQ.then_normal ?_
 refine JQ.sub [(0, .slice Aa2 s1.length c3), (1, .func (.func 35) #[] #[]), (7, .int .i64 (s1.length : Int)), (8, .int .i64 0)] ?_
 obtain ⟨o1, hit, H0⟩ := bind_some H0
 refine J.loop (σ := Int) (τ := Unit) (G := Unit) (G' := Unit) _ o1 (fun s g => [(0, .slice Aa2 s1.length c3), (1, .func (.func 35) #[] #[]), (7, .int .i64 (s1.length : Int)), (8, .int .i64 s)]) (fun s g => [At.rd Aa2 c3 ((flInt .i64).kd) s1 true]) (fun t => slices_IndexFunc__int_int__sample_Check_1.k2 = some r) (fun t g => []) (fun t g => []) 0 () hit (fun _ h => Heap.to h) ?_ ?_
 · clear hit
   rintro x23 ⟨⟩ st1 H1 hb1 hr1
   replace H1 : slices_IndexFunc__int_int__sample_Check_1.s1 s1 x23 = some st1 := H1
   unfold slices_IndexFunc__int_int__sample_Check_1.s1 at H1
   refine JQ.sub [(0, .slice Aa2 s1.length c3), (1, .func (.func 35) #[] #[]), (7, .int .i64 (s1.length : Int)), (8, .int .i64 x23)] ?_
   refine JQ.turn (Δ' := [At.rd Aa2 c3 ((flInt .i64).kd) s1 true]) (fun _ h => h.to) ?_
   refine J.seq ?_
   refine J.region ?_
   refine JL.pur (.bool (decide (x23 < (s1.length : Int)))) (some 9) ?_
   refine JL.end_ ?_
   refine JQ.then_normal ?_
   refine J.seq ?_
   rcases ite_cases H1 with ⟨h32, H1⟩ | ⟨h32, H1⟩
   · refine J.cond_true h32 ?_
     refine J.skip ?_
     refine JQ.then_normal ?_
     refine JQ.sub [(0, .slice Aa2 s1.length c3), (1, .func (.func 35) #[] #[]), (7, .int .i64 (s1.length : Int)), (8, .int .i64 x23)] ?_
     refine J.seq ?_
     refine J.block ?_
     refine J.seq ?_
     refine J.region ?_
     refine JL.mv (.int .i64 x23) ?_
     refine JL.as (.int .i64 x23) ?_
     refine JL.end_ ?_
     refine JQ.then_normal ?_
     refine JQ.sub [(0, .slice Aa2 s1.length c3), (1, .func (.func 35) #[] #[]), (5, .int .i64 x23), (7, .int .i64 (s1.length : Int)), (8, .int .i64 x23)] ?_
     refine J.seq ?_
     refine J.region ?_
     refine JL.mv (.func (.func 35) #[] #[]) ?_
     refine JL.mv (.slice Aa2 s1.length c3) ?_
     refine JL.mv (.int .i64 x23) ?_
     obtain ⟨⟨h33, h34⟩, H1⟩ := ite_must H1
     refine JL.ixAddr 0 1 c3 .i64 (elems_rd Aa2 c3 ((flInt .i64).kd) s1 true) Try.underlying22 tySize_3 h33 h34 fun g35 o36 hA => ?_
     subst hA
     refine JL.val (.int .i64 (ix s1 x23)) (some 15) (gives_loadEl (f := (flInt .i64)) 0 0 x23 (elems_rd (some ⟨g35, o36, none⟩) c3 ((flInt .i64).kd) s1 true) h33 h34 tySize_3 (.inr ⟨tyAgg_3, rfl, rfl⟩)) ?_
     obtain ⟨t37, hc38, H1⟩ := bind_some H1
     refine JL.call [] [] [] (sample_Check_1.ok (ix s1 x23) _ hc38) trivial ?_
     rintro _ _ ⟨rfl, rfl⟩
     refine JL.end_ ?_
     refine JQ.then_normal ?_
     refine JQ.sub [(0, .slice (some ⟨g35, o36, none⟩) s1.length c3), (1, .func (.func 35) #[] #[]), (5, .int .i64 x23), (7, .int .i64 (s1.length : Int)), (8, .int .i64 x23), (16, .bool t37)] ?_
     rcases ite_cases H1 with ⟨h39, H1⟩ | ⟨h39, H1⟩
     · refine J.cond_true h39 ?_
       refine J.seq ?_
       refine J.region ?_
       refine JL.mv (.int .i64 x23) ?_
       refine JL.as (.int .i64 x23) ?_
       refine JL.end_ ?_
       refine JQ.then_normal ?_
       refine JQ.sub [(4, .int .i64 x23)] ?_
       refine JQ.mask [] [false] ?_
       refine J.ret ?_
       refine JQ.blk_ret ?_
       refine JQ.then_ret ?_
       refine JQ.then_ret ?_
       refine JQ.blk_ret ?_
       refine JQ.met_ret ?_
       refine JQ.then_ret ?_
       rw [hr1 _ (Option.some.inj H1).symm, fin_ret] at H0
       obtain rfl := Option.some.inj H0
       exact JQ.done' (rs := [.tmp 4]) (vs := [.int .i64 x23]) [] (.inr rfl) ⟨by kernel_rfl, trivial⟩ (fun _ h => Heap.to h) ⟨rfl, rfl⟩
     · refine J.cond_false h39 ?_
       refine J.skip ?_
       refine JQ.blk_normal ?_
       refine JQ.then_normal ?_
       refine JQ.sub [(0, .slice (some ⟨g35, o36, none⟩) s1.length c3), (1, .func (.func 35) #[] #[]), (7, .int .i64 (s1.length : Int)), (8, .int .i64 x23)] ?_
       refine J.region ?_
       refine JL.pur (.int .i64 (w64 (x23 + 1))) (some 18) ?_
       refine JL.mv (.int .i64 (w64 (x23 + 1))) ?_
       refine JL.end_ ?_
       refine JQ.then_normal ?_
       exact JQ.again (w64 (x23 + 1)) () (Option.some.inj H1).symm (fun _ h => Heap.to h)
   · refine J.cond_false h32 ?_
     refine J.exit ?_
     refine JQ.then_exit ?_
     refine JQ.then_exit ?_
     refine JQ.blk_exit ?_
     rw [hb1 _ (Option.some.inj H1).symm, fin_brk] at H0
     exact JQ.met () () H0 (fun _ h => Heap.to (Heap.pick [] (by decide) h))
 · clear hit H0
   rintro ⟨⟩ ⟨⟩ H0
   replace H0 : slices_IndexFunc__int_int__sample_Check_1.k2 = some r := H0
   unfold slices_IndexFunc__int_int__sample_Check_1.k2 at H0
   refine JQ.sub [] ?_
   refine JQ.turn (Δ' := []) (fun _ h => h.to) ?_
   refine JQ.then_normal ?_
   refine J.seq ?_
   refine J.region ?_
   refine JL.as (.int .i64 (-1)) ?_
   refine JL.end_ ?_
   refine JQ.then_normal ?_
   refine J.ret ?_
   obtain rfl := Option.some.inj H0
   exact JQ.done' (rs := [.tmp 4]) (vs := [.int .i64 (-1)]) [] (.inr rfl) ⟨by kernel_rfl, trivial⟩ (fun _ h => Heap.to h) ⟨rfl, rfl⟩

theorem slices_ContainsFunc__int_int__sample_Check_1.ok (s1 : (List Int)) (Aa2 : Option Addr) (c3 : Nat) (r : Bool) (H0 : slices_ContainsFunc__int_int__sample_Check_1.f s1 = some r) :
    Does Try.prog 34 [.slice Aa2 s1.length c3, .func (.func 35) #[] #[]].toArray [At.rd Aa2 c3 ((flInt .i64).kd) s1 true] [] false (fun v Δ => v = .bool r ∧ Δ = []) := by
 refine Does.body (vs := [.slice Aa2 s1.length c3, .func (.func 35) #[] #[]]) Try.func34 rfl ⟨.inl rfl, trivial⟩ trivial fun w S => ?_
 unfold slices_ContainsFunc__int_int__sample_Check_1.f at H0
 refine J.seq ?_
 refine J.region ?_
 refine JL.as (.bool false) ?_
 refine JL.end_ ?_
 refine JQ.then_normal ?_
 refine JQ.sub [(0, .slice Aa2 s1.length c3), (1, .func (.func 35) #[] #[])] ?_
 refine J.seq ?_
 refine J.region ?_
 refine JL.mv (.slice Aa2 s1.length c3) ?_
 refine JL.mv (.func (.func 35) #[] #[]) ?_
 obtain ⟨t5, hc6, H0⟩ := bind_some H0
 refine JL.call [] [] [] (slices_IndexFunc__int_int__sample_Check_1.ok s1 Aa2 c3 _ hc6) ⟨pre_any 0 (view_rd Aa2 c3 ((flInt .i64).kd) s1 true true), trivial⟩ ?_
 rintro _ _ ⟨rfl, rfl⟩
 refine JL.pur (.bool (decide (0 ≤ t5))) (some 8) ?_
 refine JL.as (.bool (decide (0 ≤ t5))) ?_
 refine JL.end_ ?_
 refine JQ.then_normal ?_
 refine JQ.sub [(4, .bool (decide (0 ≤ t5)))] ?_
 refine JQ.mask [] [false] ?_
 refine J.ret ?_
 obtain rfl := Option.some.inj H0
 exact JQ.done' (rs := [.tmp 4]) (vs := [.bool (decide (0 ≤ t5))]) [] (.inr rfl) ⟨by kernel_rfl, trivial⟩ (fun _ h => Heap.to h) ⟨rfl, rfl⟩

theorem sample_Check.ok (s1 : (List Int)) (Aa2 : Option Addr) (c3 : Nat) (r : Int) (H0 : sample_Check.f s1 = some r) :
    Does Try.prog 16 [.slice Aa2 s1.length c3].toArray [At.rd Aa2 c3 ((flInt .i64).kd) s1 true] [] false (fun v Δ => v = .int .i64 r ∧ Δ = []) := by
 refine Does.body (vs := [.slice Aa2 s1.length c3]) Try.func16 rfl ⟨.inl rfl, trivial⟩ trivial fun w S => ?_
 unfold sample_Check.f at H0
 refine J.seq ?_
 refine J.region ?_
 refine JL.as (.int .i64 0) ?_
 refine JL.end_ ?_
 refine JQ.then_normal ?_
 refine JQ.sub [(0, .slice Aa2 s1.length c3)] ?_
 refine J.seq ?_
 refine J.seq ?_
 refine J.region ?_
 refine JL.mv (.slice Aa2 s1.length c3) ?_
 refine JL.pur (.int .i64 (s1.length : Int)) (some 4) ?_
 refine JL.pur (.bool (decide (256 < (s1.length : Int)))) (some 5) ?_
 refine JL.end_ ?_
 refine JQ.then_normal ?_
 refine JQ.sub [(0, .slice Aa2 s1.length c3), (5, .bool (decide (256 < (s1.length : Int))))] ?_
 rcases ite_cases H0 with ⟨h5, H0⟩ | ⟨h5, H0⟩
 · refine J.cond_true h5 ?_
   refine J.seq ?_
   refine J.region ?_
   refine JL.as (.int .i64 4) ?_
   refine JL.end_ ?_
   refine JQ.then_normal ?_
   refine JQ.sub [(2, .int .i64 4)] ?_
   refine JQ.mask [] [false] ?_
   refine J.ret ?_
   refine JQ.then_ret ?_
   obtain rfl := Option.some.inj H0
   exact JQ.done' (rs := [.tmp 2]) (vs := [.int .i64 4]) [] (.inr rfl) ⟨by kernel_rfl, trivial⟩ (fun _ h => Heap.to h) ⟨rfl, rfl⟩
 · refine J.cond_false h5 ?_
   refine J.skip ?_
   refine JQ.then_normal ?_
   refine JQ.sub [(0, .slice Aa2 s1.length c3)] ?_
   refine J.seq ?_
   refine J.seq ?_
   refine J.region ?_
   refine JL.mv (.slice Aa2 s1.length c3) ?_
   obtain ⟨t6, hc7, H0⟩ := bind_some H0
   refine JL.call [] [] [] (slices_ContainsFunc__int_int__sample_Check_1.ok s1 Aa2 c3 _ hc7) ⟨pre_any 0 (view_rd Aa2 c3 ((flInt .i64).kd) s1 true true), trivial⟩ ?_
   rintro _ _ ⟨rfl, rfl⟩
   refine JL.end_ ?_
   refine JQ.then_normal ?_
   refine JQ.sub [(7, .bool t6)] ?_
   refine JQ.mask [] [false] ?_
   rcases ite_cases H0 with ⟨h8, H0⟩ | ⟨h8, H0⟩
   · refine J.cond_true h8 ?_
     refine J.seq ?_
     refine J.region ?_
     refine JL.as (.int .i64 8) ?_
     refine JL.end_ ?_
     refine JQ.then_normal ?_
     refine JQ.sub [(2, .int .i64 8)] ?_
     refine J.ret ?_
     refine JQ.then_ret ?_
     obtain rfl := Option.some.inj H0
     exact JQ.done' (rs := [.tmp 2]) (vs := [.int .i64 8]) [] (.inr rfl) ⟨by kernel_rfl, trivial⟩ (fun _ h => Heap.to h) ⟨rfl, rfl⟩
   · refine J.cond_false h8 ?_
     refine J.skip ?_
     refine JQ.then_normal ?_
     refine JQ.sub [] ?_
     refine J.seq ?_
     refine J.region ?_
     refine JL.as (.int .i64 0) ?_
     refine JL.end_ ?_
     refine JQ.then_normal ?_
     refine J.ret ?_
     obtain rfl := Option.some.inj H0
     exact JQ.done' (rs := [.tmp 2]) (vs := [.int .i64 0]) [] (.inr rfl) ⟨by kernel_rfl, trivial⟩ (fun _ h => Heap.to h) ⟨rfl, rfl⟩

theorem slices_Chunk__int_int.ok (s1 : (List Int)) (Aa2 : Option Addr) (c3 : Nat) (n5 : Int) (r : ((List Int) × Int)) (H0 : slices_Chunk__int_int.f s1 n5 = some r) :
    Does Try.prog 37 [.slice Aa2 s1.length c3, .int .i64 n5].toArray [At.rd Aa2 c3 ((flInt .i64).kd) s1 true] [] true (fun v Δ => ∃ b2000 : Nat, ∃ A1001 : Option Addr, ∃ c1001 : Nat, ∃ b2003 : Nat, v = .func (.func 52) #[] #[.pointer (some ⟨b2000, 0, none⟩), .pointer (some ⟨b2003, 0, none⟩)] ∧ Δ = [At.box b2000 22 [.slice A1001 r.1.length c1001], At.rd A1001 c1001 ((flInt .i64).kd) r.1 true, At.box b2003 3 [.int .i64 r.2]]) := by
 refine Does.body (vs := [.slice Aa2 s1.length c3, .int .i64 n5]) Try.func37 rfl ⟨.inl rfl, trivial⟩ trivial fun w S => ?_
 unfold slices_Chunk__int_int.f at H0
 refine J.seq ?_
 refine J.region ?_
 refine JL.box [.slice Aa2 s1.length c3] fun b6 => ?_
 refine JL.box [.int .i64 n5] fun b7 => ?_
 refine JL.as (.nilFunc) ?_
 refine JL.end_ ?_
 refine JQ.then_normal ?_
 refine JQ.sub [(2, .pointer (some ⟨b6, 0, none⟩)), (3, .pointer (some ⟨b7, 0, none⟩))] ?_
 refine J.seq ?_
 refine J.seq ?_
 refine J.region ?_
 refine JL.val (.int .i64 n5) (some 5) (yields_load_box 2 0 (holds_box b7 3 [.int .i64 n5]) tyAgg_3) ?_
 refine JL.pur (.bool (decide (n5 < 1))) (some 6) ?_
 refine JL.end_ ?_
 refine JQ.then_normal ?_
 refine JQ.sub [(2, .pointer (some ⟨b6, 0, none⟩)), (3, .pointer (some ⟨b7, 0, none⟩)), (6, .bool (decide (n5 < 1)))] ?_
 rcases ite_cases H0 with ⟨h9, H0⟩ | ⟨h9, H0⟩
 · refine J.cond_true h9 ?_
   refine J.region ?_
   cases H0
 · refine J.cond_false h9 ?_
   refine J.skip ?_
   refine JQ.then_normal ?_
   refine JQ.sub [(2, .pointer (some ⟨b6, 0, none⟩)), (3, .pointer (some ⟨b7, 0, none⟩))] ?_
   refine J.seq ?_
   refine J.region ?_
   refine JL.pur (.func (.func 52) #[] #[.pointer (some ⟨b6, 0, none⟩), .pointer (some ⟨b7, 0, none⟩)]) (some 8) ?_
   refine JL.as (.func (.func 52) #[] #[.pointer (some ⟨b6, 0, none⟩), .pointer (some ⟨b7, 0, none⟩)]) ?_
   refine JL.end_ ?_
   refine JQ.then_normal ?_
   refine JQ.sub [(4, .func (.func 52) #[] #[.pointer (some ⟨b6, 0, none⟩), .pointer (some ⟨b7, 0, none⟩)])] ?_
   refine J.ret ?_
   obtain rfl := Option.some.inj H0
   exact JQ.done' (rs := [.tmp 4]) (vs := [.func (.func 52) #[] #[.pointer (some ⟨b6, 0, none⟩), .pointer (some ⟨b7, 0, none⟩)]]) [At.box b6 22 [.slice Aa2 s1.length c3], At.rd Aa2 c3 ((flInt .i64).kd) s1 true, At.box b7 3 [.int .i64 n5]] (.inr rfl) ⟨by kernel_rfl, trivial⟩ (fun _ h => Heap.to (Heap.pick [1, 0, 2] (by decide) h)) ⟨b6, Aa2, c3, b7, rfl, rfl⟩



theorem slices_Chunk__int_int_1__sample_Pack_y1.ok {ly ny : Nat} {ry : Env} {psy : Array Tmp} {asy boy : Code} (b65 : Nat) (out66 : List Int) (Aa67 : Option Addr) (c68 : Nat) (hY : ∀ (out66 : List Int) (Aa67 : Option Addr) (c68 : Nat) (x122 : (List Int)) (Aa123 : Option Addr) (c124 : Nat) (r : (Int × (List Int))), sample_Pack.y1 out66 x122 = some r → DoesY Try.prog ly [.slice Aa123 x122.length c124] [At.rd Aa123 c124 ((flInt .i64).kd) x122 true] [At.loop ly ny ry psy asy boy 0, At.box b65 41 [.slice Aa67 out66.length c68], At.row Aa67 c68 5 ((flInt .u8).kd) out66 false] true (fun v Δ => ∃ qA0 : Option Addr, ∃ qc0 : Nat, v = .bool (decide (r.1 = 0)) ∧ Δ = [At.loop ly ny ry psy asy boy r.1, At.box b65 41 [.slice qA0 r.2.length qc0], At.row qA0 qc0 5 ((flInt .u8).kd) r.2 false])) (v170 : (List Int)) (b171 : Nat) (Aa172 : Option Addr) (c173 : Nat) (v175 : Int) (b176 : Nat) (r : (Int × (List Int))) (H0 : slices_Chunk__int_int_1__sample_Pack_y1.f out66 v170 v175 = some r) :
    Does Try.prog 52 [.func (.yield ly) #[] #[], .pointer (some ⟨b171, 0, none⟩), .pointer (some ⟨b176, 0, none⟩)].toArray [At.rd Aa172 c173 ((flInt .i64).kd) v170 true] [At.loop ly ny ry psy asy boy 0, At.box b65 41 [.slice Aa67 out66.length c68], At.row Aa67 c68 5 ((flInt .u8).kd) out66 false, At.box b171 22 [.slice Aa172 v170.length c173], At.box b176 3 [.int .i64 v175]] true (fun v Δ => ∃ A3011 : Option Addr, ∃ c3011 : Nat, v = .tuple #[] ∧ Δ = [At.loop ly ny ry psy asy boy r.1, At.box b65 41 [.slice A3011 r.2.length c3011], At.row A3011 c3011 5 ((flInt .u8).kd) r.2 false, At.box b171 22 [.slice Aa172 v170.length c173], At.box b176 3 [.int .i64 v175]]) := by
 refine Does.bodyF (vs := [.func (.yield ly) #[] #[], .pointer (some ⟨b171, 0, none⟩), .pointer (some ⟨b176, 0, none⟩)]) Try.func52 rfl ⟨.inl rfl, trivial⟩ ⟨.inr (fun _ _ _ h => h), .inr (fun _ _ _ h => h), .inr (row_any _ _ _ _ _ _), .inr (fun _ _ _ h => h), .inr (fun _ _ _ h => h), trivial⟩ fun w S => ?_
 unfold slices_Chunk__int_int_1__sample_Pack_y1.f at H0
 refine J.seq ?_
 refine J.region ?_
 refine JL.as (.int .i64 0) ?_
 refine JL.end_ ?_
 refine JQ.then_normal ?_
 obtain ⟨o1, hit, H0⟩ := bind_some H0
 refine J.loop (σ := (Int × (List Int))) (τ := List Int) (G := ((Option Addr) × Nat)) (G' := ((Option Addr) × Nat)) _ o1 (fun s g => [(0, .func (.yield ly) #[] #[]), (1, .pointer (some ⟨b171, 0, none⟩)), (2, .pointer (some ⟨b176, 0, none⟩)), (4, .int .i64 s.1)]) (fun s g => [At.box b171 22 [.slice Aa172 v170.length c173], At.rd Aa172 c173 ((flInt .i64).kd) v170 true, At.box b176 3 [.int .i64 v175], At.loop ly ny ry psy asy boy 0, At.box b65 41 [.slice g.1 s.2.length g.2], At.row g.1 g.2 5 ((flInt .u8).kd) s.2 false]) (fun t => slices_Chunk__int_int_1__sample_Pack_y1.k2 t = some r) (fun t g => []) (fun t g => [At.loop ly ny ry psy asy boy 0, At.box b65 41 [.slice g.1 t.length g.2], At.row g.1 g.2 5 ((flInt .u8).kd) t false, At.box b171 22 [.slice Aa172 v170.length c173], At.rd Aa172 c173 ((flInt .i64).kd) v170 true, At.box b176 3 [.int .i64 v175]]) (0, out66) (Aa67, c68) hit (fun _ h => Heap.to (Heap.pick [4, 0, 5, 1, 2, 3] (by decide) h)) ?_ ?_
 · clear hit
   rintro ⟨i213, v214⟩ ⟨Aa215, c216⟩ st1 H1 hb1 hr1
   replace H1 : slices_Chunk__int_int_1__sample_Pack_y1.s1 v170 v175 i213 v214 = some st1 := H1
   unfold slices_Chunk__int_int_1__sample_Pack_y1.s1 at H1
   refine JQ.sub [(0, .func (.yield ly) #[] #[]), (1, .pointer (some ⟨b171, 0, none⟩)), (2, .pointer (some ⟨b176, 0, none⟩)), (4, .int .i64 i213)] ?_
   refine JQ.turn (Δ' := [At.box b171 22 [.slice Aa172 v170.length c173], At.rd Aa172 c173 ((flInt .i64).kd) v170 true, At.box b176 3 [.int .i64 v175], At.loop ly ny ry psy asy boy 0, At.box b65 41 [.slice Aa215 v214.length c216], At.row Aa215 c216 5 ((flInt .u8).kd) v214 false]) (fun _ h => h.to) ?_
   refine J.seq ?_
   refine J.seq ?_
   refine J.region ?_
   refine JL.mv (.int .i64 i213) ?_
   refine JL.val (.slice Aa172 v170.length c173) (some 7) (yields_load_box 0 0 (holds_box b171 22 [.slice Aa172 v170.length c173]) tyAgg_22) ?_
   refine JL.pur (.int .i64 (v170.length : Int)) (some 8) ?_
   refine JL.pur (.bool (decide (i213 < (v170.length : Int)))) (some 9) ?_
   refine JL.end_ ?_
   refine JQ.then_normal ?_
   refine JQ.sub [(0, .func (.yield ly) #[] #[]), (1, .pointer (some ⟨b171, 0, none⟩)), (2, .pointer (some ⟨b176, 0, none⟩)), (4, .int .i64 i213), (9, .bool (decide (i213 < (v170.length : Int))))] ?_
   rcases ite_cases H1 with ⟨h235, H1⟩ | ⟨h235, H1⟩
   · refine J.cond_true h235 ?_
     refine J.skip ?_
     refine JQ.then_normal ?_
     refine JQ.sub [(0, .func (.yield ly) #[] #[]), (1, .pointer (some ⟨b171, 0, none⟩)), (2, .pointer (some ⟨b176, 0, none⟩)), (4, .int .i64 i213)] ?_
     refine J.seq ?_
     refine J.block ?_
     refine J.seq ?_
     obtain ⟨⟨h240, h241⟩, H1⟩ := ite_must H1
     refine JY.start [] (ba 7 0) ?_
     refine JY.take (hi := rfl) 0 (ba 7 1) (.int .i64 v175) (some 13) [true, true, true, true, true, true] want (yields_load_box 2 0 (holds_box b176 3 [.int .i64 v175]) tyAgg_3) ?_
     refine JY.take (hi := rfl) 1 (ba 7 3) (.slice Aa172 v170.length c173) (some 14) [true, true, true, true, true, true] want (yields_load_box 0 0 (holds_box b171 22 [.slice Aa172 v170.length c173]) tyAgg_22) ?_
     refine JY.pur (hi := rfl) 2 (ba 7 7) (.int .i64 i213) (some 15) want ?_
     refine JY.all [3] ⟨⟨_, rfl, ?_⟩, trivial⟩
     obtain ⟨h246, h247⟩ : 0 ≤ i213 ∧ i213 ≤ (v170.length : Int) := ⟨h240, h241⟩
     refine JQ.capLe 1 Aa172 c173 ((flInt .i64).kd) v170 true fun h245 => ?_
     refine JL.cut i213.toNat v170.length c173 1 Aa172 c173 ((flInt .i64).kd) v170 true Try.underlying22 tySize_3 (.inl ⟨rfl, rfl⟩) (.inl ⟨rfl, rfl⟩) (.inr ⟨.i64, i213, by kernel_rfl, h246, rfl⟩) (.inl rfl) (by omega) (by omega) (by omega) (.inl (by omega)) fun Aa242 c243 => ?_
     refine JL.nil ?_
     refine JY.ran (ba 7 15) [true, true, true, true, true, true, false] ?_
     refine JY.pur (hi := rfl) 4 (ba 7 31) (.int .i64 (((v170.take v170.length).drop i213.toNat).length : Int)) (some 17) want ?_
     refine JY.pur (hi := rfl) 5 (ba 7 63) (.int .i64 (gmin v175 (((v170.take v170.length).drop i213.toNat).length : Int))) (some 18) want ?_
     refine JY.pur (hi := rfl) 6 (ba 7 127) (.int .i64 (gmin v175 (((v170.take v170.length).drop i213.toNat).length : Int))) (some 5) want ?_
     refine JY.done ?_
     refine JQ.then_normal ?_
     refine JQ.sub [(0, .func (.yield ly) #[] #[]), (1, .pointer (some ⟨b171, 0, none⟩)), (2, .pointer (some ⟨b176, 0, none⟩)), (4, .int .i64 i213), (5, .int .i64 (gmin v175 (((v170.take v170.length).drop i213.toNat).length : Int)))] ?_
     refine JQ.mask [At.box b171 22 [.slice Aa172 v170.length c173], At.rd Aa172 c173 ((flInt .i64).kd) v170 true, At.box b176 3 [.int .i64 v175], At.loop ly ny ry psy asy boy 0, At.box b65 41 [.slice Aa215 v214.length c216], At.row Aa215 c216 5 ((flInt .u8).kd) v214 false] [true, true, true, true, true, true, false] ?_
     refine J.seq ?_
     refine J.regionY 10 _ ?_
     refine JL.mv (.func (.yield ly) #[] #[]) ?_
     refine JL.val (.slice Aa172 v170.length c173) (some 20) (yields_load_box 0 0 (holds_box b171 22 [.slice Aa172 v170.length c173]) tyAgg_22) ?_
     refine JL.mv (.int .i64 i213) ?_
     refine JL.mv (.int .i64 i213) ?_
     refine JL.mv (.int .i64 (gmin v175 (((v170.take v170.length).drop i213.toNat).length : Int))) ?_
     refine JL.pur (.int .i64 (w64 (i213 + (gmin v175 (((v170.take v170.length).drop i213.toNat).length : Int))))) (some 24) ?_
     refine JL.mv (.int .i64 i213) ?_
     refine JL.mv (.int .i64 (gmin v175 (((v170.take v170.length).drop i213.toNat).length : Int))) ?_
     refine JL.pur (.int .i64 (w64 (i213 + (gmin v175 (((v170.take v170.length).drop i213.toNat).length : Int))))) (some 27) ?_
     obtain ⟨⟨h1246, h1247, h1248, h1249, h1250, h1251⟩, H1⟩ := ite_must H1
     refine JQ.capLe 1 Aa172 c173 ((flInt .i64).kd) v170 true fun h1245 => ?_
     refine JL.cut i213.toNat ((w64 (i213 + (gmin v175 (((v170.take v170.length).drop i213.toNat).length : Int)))).toNat) ((w64 (i213 + (gmin v175 (((v170.take v170.length).drop i213.toNat).length : Int)))).toNat) 1 Aa172 c173 ((flInt .i64).kd) v170 true Try.underlying22 tySize_3 (.inr ⟨.i64, (w64 (i213 + (gmin v175 (((v170.take v170.length).drop i213.toNat).length : Int)))), by kernel_rfl, h1246, rfl⟩) (.inr ⟨.i64, (w64 (i213 + (gmin v175 (((v170.take v170.length).drop i213.toNat).length : Int)))), by kernel_rfl, h1248, rfl⟩) (.inr ⟨.i64, i213, by kernel_rfl, h1250, rfl⟩) (.inr (by simp)) (by omega) (by omega) (by omega) (.inl (by omega)) fun Aa1242 c1243 => ?_
     obtain ⟨t1252, hc1253, H1⟩ := bind_some H1
     refine JL.nil ?_
     refine JL.callY [false, false, false, true, true, true] (hY v214 Aa215 c216 ((v170.take ((w64 (i213 + (gmin v175 (((v170.take v170.length).drop i213.toNat).length : Int)))).toNat)).drop i213.toNat) Aa1242 c1243 _ hc1253) ⟨pre_any 3 (view_rd Aa1242 c1243 ((flInt .i64).kd) ((v170.take ((w64 (i213 + (gmin v175 (((v170.take v170.length).drop i213.toNat).length : Int)))).toNat)).drop i213.toNat) true true), trivial⟩ rfl ?_
     rintro _ _ ⟨Aa1254, c1255, rfl, rfl⟩
     rcases ite_cases H1 with ⟨h1257, H1⟩ | ⟨h1257, H1⟩
     · rw [h1257]
       rw [of_decide_eq_true h1257]
       refine JL.pur (.bool false) (some 30) ?_
       refine JL.end_ ?_
       refine JQ.then_normal ?_
       refine JQ.sub [(0, .func (.yield ly) #[] #[]), (1, .pointer (some ⟨b171, 0, none⟩)), (2, .pointer (some ⟨b176, 0, none⟩)), (4, .int .i64 i213), (30, .bool false)] ?_
       refine JQ.mask [At.box b171 22 [.slice Aa172 v170.length c173], At.rd Aa172 c173 ((flInt .i64).kd) v170 true, At.box b176 3 [.int .i64 v175], At.loop ly ny ry psy asy boy 0, At.box b65 41 [.slice Aa1254 t1252.2.length c1255], At.row Aa1254 c1255 5 ((flInt .u8).kd) t1252.2 false] [true, true, true, false, true, true, true] ?_
       refine J.cond_false rfl ?_
       refine J.skip ?_
       refine JQ.blk_normal ?_
       refine JQ.then_normal ?_
       refine JQ.sub [(0, .func (.yield ly) #[] #[]), (1, .pointer (some ⟨b171, 0, none⟩)), (2, .pointer (some ⟨b176, 0, none⟩)), (4, .int .i64 i213)] ?_
       refine J.region ?_
       refine JL.mv (.int .i64 i213) ?_
       refine JL.val (.int .i64 v175) (some 11) (yields_load_box 2 0 (holds_box b176 3 [.int .i64 v175]) tyAgg_3) ?_
       refine JL.pur (.int .i64 (w64 (i213 + v175))) (some 12) ?_
       obtain ⟨i1258, ei1258, H1⟩ := lt_some H1
       refine JL.as' (k := .i64) i1258 ei1258 ?_
       refine JL.end_ ?_
       refine JQ.then_normal ?_
       exact JQ.again (i1258, t1252.2) (Aa1254, c1255) (Option.some.inj H1).symm (fun _ h => Heap.to h)
     · rw [h1257]
       refine JL.pur (.bool true) (some 30) ?_
       refine JL.end_ ?_
       refine JQ.then_normal ?_
       refine JQ.sub [(0, .func (.yield ly) #[] #[]), (1, .pointer (some ⟨b171, 0, none⟩)), (2, .pointer (some ⟨b176, 0, none⟩)), (4, .int .i64 i213), (30, .bool true)] ?_
       refine JQ.mask [At.box b171 22 [.slice Aa172 v170.length c173], At.rd Aa172 c173 ((flInt .i64).kd) v170 true, At.box b176 3 [.int .i64 v175], At.loop ly ny ry psy asy boy t1252.1, At.box b65 41 [.slice Aa1254 t1252.2.length c1255], At.row Aa1254 c1255 5 ((flInt .u8).kd) t1252.2 false] [true, true, true, false, true, true, true] ?_
       refine J.cond_true rfl ?_
       refine J.ret ?_
       refine JQ.blk_ret ?_
       refine JQ.then_ret ?_
       refine JQ.then_ret ?_
       refine JQ.blk_ret ?_
       refine JQ.met_ret ?_
       rw [hr1 _ (Option.some.inj H1).symm, fin_ret] at H0
       obtain rfl := Option.some.inj H0
       exact JQ.doneM (rs := []) (vs := []) [] [At.box b171 22 [.slice Aa172 v170.length c173], At.rd Aa172 c173 ((flInt .i64).kd) v170 true, At.box b176 3 [.int .i64 v175], At.loop ly ny ry psy asy boy t1252.1, At.box b65 41 [.slice Aa1254 t1252.2.length c1255], At.row Aa1254 c1255 5 ((flInt .u8).kd) t1252.2 false] [At.loop ly ny ry psy asy boy t1252.1, At.box b65 41 [.slice Aa1254 t1252.2.length c1255], At.row Aa1254 c1255 5 ((flInt .u8).kd) t1252.2 false, At.box b171 22 [.slice Aa172 v170.length c173], At.box b176 3 [.int .i64 v175]] (.inr rfl) trivial (fun _ h => h) (fun _ h => Heap.to (Heap.pick [3, 4, 5, 0, 2] (by decide) h)) ⟨Aa1254, c1255, rfl, rfl⟩
   · refine J.cond_false h235 ?_
     refine J.exit ?_
     refine JQ.then_exit ?_
     refine JQ.then_exit ?_
     refine JQ.blk_exit ?_
     rw [hb1 _ (Option.some.inj H1).symm, fin_brk] at H0
     exact JQ.met v214 (Aa215, c216) H0 (fun _ h => Heap.to (Heap.pick [3, 4, 5, 0, 1, 2] (by decide) h))
 · clear hit H0
   rintro v231 ⟨Aa232, c233⟩ H0
   replace H0 : slices_Chunk__int_int_1__sample_Pack_y1.k2 v231 = some r := H0
   unfold slices_Chunk__int_int_1__sample_Pack_y1.k2 at H0
   refine JQ.sub [] ?_
   refine JQ.turn (Δ' := [At.loop ly ny ry psy asy boy 0, At.box b65 41 [.slice Aa232 v231.length c233], At.row Aa232 c233 5 ((flInt .u8).kd) v231 false, At.box b171 22 [.slice Aa172 v170.length c173], At.rd Aa172 c173 ((flInt .i64).kd) v170 true, At.box b176 3 [.int .i64 v175]]) (fun _ h => h.to) ?_
   obtain rfl := Option.some.inj H0
   exact JQ.doneM (rs := []) (vs := []) [] [At.loop ly ny ry psy asy boy 0, At.box b65 41 [.slice Aa232 v231.length c233], At.row Aa232 c233 5 ((flInt .u8).kd) v231 false, At.box b171 22 [.slice Aa172 v170.length c173], At.rd Aa172 c173 ((flInt .i64).kd) v170 true, At.box b176 3 [.int .i64 v175]] [At.loop ly ny ry psy asy boy 0, At.box b65 41 [.slice Aa232 v231.length c233], At.row Aa232 c233 5 ((flInt .u8).kd) v231 false, At.box b171 22 [.slice Aa172 v170.length c173], At.box b176 3 [.int .i64 v175]] (.inl rfl) trivial (fun _ h => h) (fun _ h => Heap.to (Heap.pick [0, 1, 2, 3, 5] (by decide) h)) ⟨Aa232, c233, rfl, rfl⟩

theorem sample_Pack.ok (s1 : (List Int)) (Aa2 : Option Addr) (c3 : Nat) (r : ((List Int) × Int)) (H0 : sample_Pack.f s1 = some r) :
    Does Try.prog 19 [.slice Aa2 s1.length c3].toArray [At.rd Aa2 c3 ((flInt .i64).kd) s1 true] [] false (fun v Δ => ∃ A1001 : Option Addr, ∃ c1001 : Nat, v = .tuple #[.slice A1001 r.1.length c1001, .int .i64 r.2] ∧ Δ = [At.row A1001 c1001 5 ((flInt .u8).kd) r.1 false]) := by
 refine Does.bodyF (vs := [.slice Aa2 s1.length c3]) Try.func19 rfl ⟨.inl rfl, trivial⟩ trivial fun w S => ?_
 unfold sample_Pack.f at H0
 refine J.seq ?_
 refine J.region ?_
 refine JL.as (.slice none 0 0) ?_
 refine JL.as (.int .i64 0) ?_
 refine JL.end_ ?_
 refine JQ.then_normal ?_
 refine J.seq ?_
 refine J.seq ?_
 refine J.region ?_
 refine JL.mv (.slice Aa2 s1.length c3) ?_
 obtain ⟨t5, hc6, H0⟩ := bind_some H0
 refine JL.call [] [] [] (sample_Check.ok s1 Aa2 c3 _ hc6) ⟨pre_any 0 (view_rd Aa2 c3 ((flInt .i64).kd) s1 true true), trivial⟩ ?_
 rintro _ _ ⟨rfl, rfl⟩
 refine JL.as (.int .i64 t5) ?_
 refine JL.end_ ?_
 refine JQ.then_normal ?_
 refine JQ.sub [(0, .slice Aa2 s1.length c3), (2, .slice none 0 0), (3, .int .i64 0), (4, .int .i64 t5)] ?_
 refine J.seq ?_
 refine J.region ?_
 refine JL.mv (.int .i64 t5) ?_
 refine JL.pur (.bool (!decide (t5 = 0))) (some 12) ?_
 refine JL.end_ ?_
 refine JQ.then_normal ?_
 refine JQ.sub [(0, .slice Aa2 s1.length c3), (2, .slice none 0 0), (3, .int .i64 0), (4, .int .i64 t5), (12, .bool (!decide (t5 = 0)))] ?_
 rcases ite_cases H0 with ⟨h7, H0⟩ | ⟨h7, H0⟩
 · refine J.cond_true h7 ?_
   refine J.seq ?_
   refine J.region ?_
   refine JL.mv (.int .i64 t5) ?_
   refine JL.as (.slice none 0 0) ?_
   refine JL.as (.int .i64 t5) ?_
   refine JL.end_ ?_
   refine JQ.then_normal ?_
   refine JQ.sub [(2, .slice none 0 0), (3, .int .i64 t5)] ?_
   refine JQ.mask [] [false] ?_
   refine J.ret ?_
   refine JQ.then_ret ?_
   obtain rfl := Option.some.inj H0
   exact JQ.doneM (rs := [.tmp 2, .tmp 3]) (vs := [.slice none 0 0, .int .i64 t5]) [] [] [At.row none 0 5 ((flInt .u8).kd) ([] : List Int) false] (.inr rfl) ⟨by kernel_rfl, by kernel_rfl, trivial⟩ (fun _ h => h) (fun _ h => Heap.to (Heap.addRow0 (α := Int) 5 ((flInt .u8).kd) false h)) ⟨none, 0, rfl, rfl⟩
 · refine J.cond_false h7 ?_
   refine J.skip ?_
   refine JQ.then_normal ?_
   refine JQ.sub [(0, .slice Aa2 s1.length c3), (2, .slice none 0 0), (3, .int .i64 0)] ?_
   refine J.seq ?_
   refine J.region ?_
   refine JL.alloc [.slice none 0 0] fun b8 => ?_
   refine JL.end_ ?_
   refine JQ.then_normal ?_
   refine J.seq ?_
   refine J.seq ?_
   refine J.region ?_
   refine JL.mv (.slice Aa2 s1.length c3) ?_
   obtain ⟨t9, hc10, H0⟩ := bind_some H0
   refine JL.call [] [] [] (slices_Chunk__int_int.ok s1 Aa2 c3 3 _ hc10) ⟨pre_any 0 (view_rd Aa2 c3 ((flInt .i64).kd) s1 true true), trivial⟩ ?_
   rintro _ _ ⟨b11, Aa12, c13, b15, rfl, rfl⟩
   refine JL.end_ ?_
   refine JQ.then_normal ?_
   refine JQ.sub [(2, .slice none 0 0), (3, .int .i64 0), (5, .pointer (some ⟨b8, 0, none⟩)), (15, .func (.func 52) #[] #[.pointer (some ⟨b11, 0, none⟩), .pointer (some ⟨b15, 0, none⟩)])] ?_
   refine JQ.mask [At.box b8 41 [.slice none 0 0], At.box b11 22 [.slice Aa12 t9.1.length c13], At.rd Aa12 c13 ((flInt .i64).kd) t9.1 true, At.box b15 3 [.int .i64 t9.2]] [false, true, true, true, true] ?_
   refine J.block ?_
   refine JQ.turn (Δ' := [At.box b8 41 [.slice none ([] : List Int).length 0], At.row none 0 5 ((flInt .u8).kd) ([] : List Int) false, At.box b11 22 [.slice Aa12 t9.1.length c13], At.box b15 3 [.int .i64 t9.2], At.rd Aa12 c13 ((flInt .i64).kd) t9.1 true]) (fun _ h => Heap.to (Heap.pick [0, 4, 1, 3, 2] (by decide) (Heap.addRow0 (α := Int) 5 ((flInt .u8).kd) false h))) ?_
   obtain ⟨t170, hc171, H0⟩ := bind_some H0
   refine J.rangeFunc [true, true, true, true] [(5, .pointer (some ⟨b8, 0, none⟩))] (fun ly ny ry psy asy boy hny hry hpy hay hby => slices_Chunk__int_int_1__sample_Pack_y1.ok b8 ([] : List Int) none 0 ?_ t9.1 b11 Aa12 c13 t9.2 b15 _ hc171) ⟨pre_any 0 (view_rd Aa12 c13 ((flInt .i64).kd) t9.1 true true), trivial⟩ ?_
   · clear hc171
     suffices hkey : ∀ (b65 : Nat), [(5, .pointer (some ⟨b65, 0, none⟩))] = ry → ∀ (out66 : List Int) (Aa67 : Option Addr) (c68 : Nat) (x122 : (List Int)) (Aa123 : Option Addr) (c124 : Nat) (r : (Int × (List Int))), sample_Pack.y1 out66 x122 = some r → DoesY Try.prog ly [.slice Aa123 x122.length c124] [At.rd Aa123 c124 ((flInt .i64).kd) x122 true] [At.loop ly ny ry psy asy boy 0, At.box b65 41 [.slice Aa67 out66.length c68], At.row Aa67 c68 5 ((flInt .u8).kd) out66 false] true (fun v Δ => ∃ qA0 : Option Addr, ∃ qc0 : Nat, v = .bool (decide (r.1 = 0)) ∧ Δ = [At.loop ly ny ry psy asy boy r.1, At.box b65 41 [.slice qA0 r.2.length qc0], At.row qA0 qc0 5 ((flInt .u8).kd) r.2 false]) from hkey b8 hry
     intro b65 hry2 out66 Aa67 c68 x122 Aa123 c124 r H0
     refine DoesY.body' (ps0 := [16]) hny hry2 hpy hay hby ⟨.inl rfl, trivial⟩ ⟨.inr (fun _ _ _ h => h), .inr (row_any _ _ _ _ _ _), trivial⟩ fun w S => ?_
     unfold sample_Pack.y1 at H0
     refine JQ.sub [(5, .pointer (some ⟨b65, 0, none⟩)), (16, .slice Aa123 x122.length c124)] ?_
     refine JQ.turn (Δ' := [At.loop ly ny ry psy asy boy 0, At.rd Aa123 c124 ((flInt .i64).kd) x122 true, At.box b65 41 [.slice Aa67 out66.length c68], At.row Aa67 c68 5 ((flInt .u8).kd) out66 false]) (fun _ h => h.to) ?_
     refine J.region ?_
     refine JL.as (.slice Aa123 x122.length c124) ?_
     refine JL.end_ ?_
     refine JQ.then_normal ?_
     refine JQ.begin (n := ny) (ρl := ry) (ps := psy) (assign := asy) (body := boy) 0 ?_
     refine J.block ?_
     refine J.seq ?_
     refine J.region ?_
     refine JL.as (.int .i64 0) ?_
     refine JL.end_ ?_
     refine JQ.then_normal ?_
     refine JQ.sub [(5, .pointer (some ⟨b65, 0, none⟩)), (6, .slice Aa123 x122.length c124), (7, .int .i64 0)] ?_
     refine J.seq ?_
     refine J.seq ?_
     refine J.region ?_
     refine JL.mv (.slice Aa123 x122.length c124) ?_
     refine JL.pur (.int .i64 (x122.length : Int)) (some 18) ?_
     refine JL.pur (.int .i64 (w64 ((x122.length : Int) - 1))) (some 19) ?_
     obtain ⟨i126, ei126, H0⟩ := lt_some H0
     refine JL.as' (k := .i64) i126 ei126 ?_
     refine JL.end_ ?_
     refine JQ.then_normal ?_
     refine JQ.sub [(5, .pointer (some ⟨b65, 0, none⟩)), (6, .slice Aa123 x122.length c124), (7, .int .i64 0), (8, .int .i64 i126)] ?_
     obtain ⟨o1, hit, H0⟩ := bind_some H0
     refine J.loop (σ := (Int × Int)) (τ := Int) (G := Unit) (G' := Unit) _ o1 (fun s g => [(5, .pointer (some ⟨b65, 0, none⟩)), (6, .slice Aa123 x122.length c124), (7, .int .i64 s.1), (8, .int .i64 s.2)]) (fun s g => [At.box b65 41 [.slice Aa67 out66.length c68], At.row Aa67 c68 5 ((flInt .u8).kd) out66 false, At.rd Aa123 c124 ((flInt .i64).kd) x122 true, At.busy ly ny ry psy asy boy]) (fun t => sample_Pack.y1.k2 out66 t = some r) (fun t g => [(5, .pointer (some ⟨b65, 0, none⟩)), (7, .int .i64 t)]) (fun t g => [At.box b65 41 [.slice Aa67 out66.length c68], At.row Aa67 c68 5 ((flInt .u8).kd) out66 false, At.busy ly ny ry psy asy boy]) (0, i126) () hit (fun _ h => Heap.to (Heap.pick [2, 3, 1, 0] (by decide) h)) ?_ ?_
     · clear hit
       rintro ⟨b146, i147⟩ ⟨⟩ st1 H1 hb1 hr1
       replace H1 : sample_Pack.y1.s1 x122 b146 i147 = some st1 := H1
       unfold sample_Pack.y1.s1 at H1
       refine JQ.sub [(5, .pointer (some ⟨b65, 0, none⟩)), (6, .slice Aa123 x122.length c124), (7, .int .i64 b146), (8, .int .i64 i147)] ?_
       refine JQ.turn (Δ' := [At.box b65 41 [.slice Aa67 out66.length c68], At.row Aa67 c68 5 ((flInt .u8).kd) out66 false, At.rd Aa123 c124 ((flInt .i64).kd) x122 true, At.busy ly ny ry psy asy boy]) (fun _ h => h.to) ?_
       refine J.seq ?_
       refine J.seq ?_
       refine J.region ?_
       refine JL.mv (.int .i64 i147) ?_
       refine JL.pur (.bool (decide (0 ≤ i147))) (some 21) ?_
       refine JL.end_ ?_
       refine JQ.then_normal ?_
       refine JQ.sub [(5, .pointer (some ⟨b65, 0, none⟩)), (6, .slice Aa123 x122.length c124), (7, .int .i64 b146), (8, .int .i64 i147), (21, .bool (decide (0 ≤ i147)))] ?_
       rcases ite_cases H1 with ⟨h161, H1⟩ | ⟨h161, H1⟩
       · refine J.cond_true h161 ?_
         refine J.skip ?_
         refine JQ.then_normal ?_
         refine JQ.sub [(5, .pointer (some ⟨b65, 0, none⟩)), (6, .slice Aa123 x122.length c124), (7, .int .i64 b146), (8, .int .i64 i147)] ?_
         refine J.seq ?_
         refine J.block ?_
         refine J.region ?_
         refine JL.mv (.int .i64 b146) ?_
         refine JL.pur (.int .i64 (w64 (5 * b146))) (some 25) ?_
         refine JL.mv (.slice Aa123 x122.length c124) ?_
         refine JL.mv (.int .i64 i147) ?_
         obtain ⟨⟨h162, h163⟩, H1⟩ := ite_must H1
         refine JL.ixAddr 2 1 c124 .i64 (elems_rd Aa123 c124 ((flInt .i64).kd) x122 true) Try.underlying22 tySize_3 h162 h163 fun g164 o165 hA => ?_
         subst hA
         refine JL.val (.int .i64 (ix x122 i147)) (some 29) (gives_loadEl (f := (flInt .i64)) 2 0 i147 (elems_rd (some ⟨g164, o165, none⟩) c124 ((flInt .i64).kd) x122 true) h162 h163 tySize_3 (.inr ⟨tyAgg_3, rfl, rfl⟩)) ?_
         obtain ⟨t166, hc167, H1⟩ := bind_some H1
         refine JL.call [] [] [] (sample_digit.ok (ix x122 i147) _ hc167) trivial ?_
         rintro _ _ ⟨rfl, rfl⟩
         refine JL.pur (.int .i64 (w64 ((w64 (5 * b146)) + t166))) (some 31) ?_
         obtain ⟨b168, eb168, H1⟩ := lt_some H1
         refine JL.as' (k := .i64) b168 eb168 ?_
         refine JL.end_ ?_
         refine JQ.blk_normal ?_
         refine JQ.then_normal ?_
         refine JQ.sub [(5, .pointer (some ⟨b65, 0, none⟩)), (6, .slice (some ⟨g164, o165, none⟩) x122.length c124), (7, .int .i64 b168), (8, .int .i64 i147)] ?_
         refine J.region ?_
         refine JL.mv (.int .i64 i147) ?_
         refine JL.pur (.int .i64 (w64 (i147 - 1))) (some 23) ?_
         refine JL.as (.int .i64 (w64 (i147 - 1))) ?_
         refine JL.end_ ?_
         refine JQ.then_normal ?_
         exact JQ.again (b168, w64 (i147 - 1)) () (Option.some.inj H1).symm (fun _ h => Heap.to h)
       · refine J.cond_false h161 ?_
         refine J.exit ?_
         refine JQ.then_exit ?_
         refine JQ.then_exit ?_
         refine JQ.blk_exit ?_
         rw [hb1 _ (Option.some.inj H1).symm, fin_brk] at H0
         exact JQ.met b146 () H0 (fun _ h => Heap.to (Heap.pick [0, 1, 3] (by decide) h))
     · clear hit H0
       rintro b156 ⟨⟩ H0
       replace H0 : sample_Pack.y1.k2 out66 b156 = some r := H0
       unfold sample_Pack.y1.k2 at H0
       refine JQ.sub [(5, .pointer (some ⟨b65, 0, none⟩)), (7, .int .i64 b156)] ?_
       refine JQ.turn (Δ' := [At.box b65 41 [.slice Aa67 out66.length c68], At.row Aa67 c68 5 ((flInt .u8).kd) out66 false, At.busy ly ny ry psy asy boy]) (fun _ h => h.to) ?_
       refine JQ.then_normal ?_
       refine J.region ?_
       refine JL.val (.slice Aa67 out66.length c68) (some 32) (yields_load_box 0 0 (holds_box b65 41 [.slice Aa67 out66.length c68]) tyAgg_41) ?_
       refine JL.mv (.int .i64 b156) ?_
       refine JL.pur (.int .u8 (wu8 b156)) (some 34) ?_
       refine JL.buildSl 5 ((flInt .u8).kd) (([(wu8 b156)] : List Int) : List Int) [.int .u8 (wu8 b156)] false (closes_fl rfl) fun b157 => ?_
       obtain ⟨h160, H0⟩ := ite_must H0
       refine JL.append false false 1 3 Aa67 c68 1 out66 (elems_row (some ⟨b157, 0, none⟩) 1 5 ((flInt .u8).kd) ([(wu8 b156)] : List Int) false) Try.underlying41 info_5 (by omega) (by omega) (fun h => h) (.inr ⟨_, rfl⟩) fun Aa158 c159 => ?_
       refine JL.store 0 b65 0 41 [.slice Aa67 out66.length c68] [.slice Aa158 (out66 ++ ([(wu8 b156)] : List Int)).length c159] tySize_41 ?_
       refine JL.end_ ?_
       refine JQ.blk_normal ?_
       obtain rfl := Option.some.inj H0
       exact JQ.rdone (n' := ny) (ρl := ry) (ps := psy) (assign := asy) (body := boy) 0 2 [At.loop ly ny ry psy asy boy 0, At.box b65 41 [.slice Aa158 (out66 ++ ([(wu8 b156)] : List Int)).length c159], At.row Aa158 c159 5 ((flInt .u8).kd) (out66 ++ ([(wu8 b156)] : List Int)) false] (.inl ⟨rfl, rfl⟩) (fun _ h => Heap.to (Heap.pick [2, 0, 1] (by decide) h)) ⟨Aa158, c159, rfl, rfl⟩
   · rintro D172 ly _ _ ⟨Aa173, c174, rfl, rfl⟩
     refine ⟨_, _, rfl, ?_⟩
     obtain ⟨h176, H0⟩ := ite_must H0
     refine JQ.jump0 h176 ?_
     refine JQ.blk_normal ?_
     refine JQ.then_normal ?_
     refine JQ.reX ?_ rfl rfl
     refine JQ.sub [(5, .pointer (some ⟨b8, 0, none⟩))] ?_
     refine JQ.mask [At.mark D172, At.box b8 41 [.slice Aa173 t170.2.length c174], At.row Aa173 c174 5 ((flInt .u8).kd) t170.2 false] [false, true, true, true, false, false] ?_
     refine J.seq ?_
     refine J.region ?_
     refine JL.val (.slice Aa173 t170.2.length c174) (some 37) (yields_load_box 1 0 (holds_box b8 41 [.slice Aa173 t170.2.length c174]) tyAgg_41) ?_
     refine JL.as (.slice Aa173 t170.2.length c174) ?_
     refine JL.as (.int .i64 0) ?_
     refine JL.end_ ?_
     refine JQ.then_normal ?_
     refine JQ.reX ?_ rfl rfl
     refine JQ.sub [(2, .slice Aa173 t170.2.length c174), (3, .int .i64 0)] ?_
     refine JQ.mask [At.mark D172, At.row Aa173 c174 5 ((flInt .u8).kd) t170.2 false] [true, false, true] ?_
     refine J.ret ?_
     obtain rfl := Option.some.inj H0
     exact JQ.doneM (rs := [.tmp 2, .tmp 3]) (vs := [.slice Aa173 t170.2.length c174, .int .i64 0]) [D172] [At.row Aa173 c174 5 ((flInt .u8).kd) t170.2 false] [At.row Aa173 c174 5 ((flInt .u8).kd) t170.2 false] (.inr rfl) ⟨by kernel_rfl, by kernel_rfl, trivial⟩ (fun _ h => h) (fun _ h => Heap.to h) ⟨Aa173, c174, rfl, rfl⟩

theorem frac_abs.ok (n1 : Int) (r : Int) (H0 : frac_abs.f n1 = some r) :
    Does Try.prog 54 [.int .i64 n1].toArray [] [] false (fun v Δ => v = .int .u64 r ∧ Δ = []) := by
 refine Does.body (vs := [.int .i64 n1]) Try.func54 rfl trivial trivial fun w S => ?_
 unfold frac_abs.f at H0
 refine J.seq ?_
 refine J.region ?_
 refine JL.as (.int .u64 0) ?_
 refine JL.end_ ?_
 refine JQ.then_normal ?_
 refine JQ.sub [(0, .int .i64 n1)] ?_
 refine J.seq ?_
 refine J.seq ?_
 refine J.region ?_
 refine JL.mv (.int .i64 n1) ?_
 refine JL.pur (.bool (decide (n1 < 0))) (some 4) ?_
 refine JL.end_ ?_
 refine JQ.then_normal ?_
 refine JQ.sub [(0, .int .i64 n1), (4, .bool (decide (n1 < 0)))] ?_
 rcases ite_cases H0 with ⟨h2, H0⟩ | ⟨h2, H0⟩
 · refine J.cond_true h2 ?_
   refine J.seq ?_
   refine J.region ?_
   refine JL.mv (.int .i64 n1) ?_
   refine JL.pur (.int .u64 (wu64 n1)) (some 6) ?_
   refine JL.pur (.int .u64 (wu64 (0 - wu64 n1))) (some 7) ?_
   refine JL.as (.int .u64 (wu64 (0 - wu64 n1))) ?_
   refine JL.end_ ?_
   refine JQ.then_normal ?_
   refine JQ.sub [(2, .int .u64 (wu64 (0 - wu64 n1)))] ?_
   refine J.ret ?_
   refine JQ.then_ret ?_
   obtain rfl := Option.some.inj H0
   exact JQ.done' (rs := [.tmp 2]) (vs := [.int .u64 (wu64 (0 - wu64 n1))]) [] (.inr rfl) ⟨by kernel_rfl, trivial⟩ (fun _ h => Heap.to h) ⟨rfl, rfl⟩
 · refine J.cond_false h2 ?_
   refine J.skip ?_
   refine JQ.then_normal ?_
   refine JQ.sub [(0, .int .i64 n1)] ?_
   refine J.seq ?_
   refine J.region ?_
   refine JL.mv (.int .i64 n1) ?_
   refine JL.pur (.int .u64 (wu64 n1)) (some 9) ?_
   refine JL.as (.int .u64 (wu64 n1)) ?_
   refine JL.end_ ?_
   refine JQ.then_normal ?_
   refine JQ.sub [(2, .int .u64 (wu64 n1))] ?_
   refine J.ret ?_
   obtain rfl := Option.some.inj H0
   exact JQ.done' (rs := [.tmp 2]) (vs := [.int .u64 (wu64 n1)]) [] (.inr rfl) ⟨by kernel_rfl, trivial⟩ (fun _ h => Heap.to h) ⟨rfl, rfl⟩

theorem frac_gcd.ok (a1 : Int) (b2 : Int) (r : Int) (H0 : frac_gcd.f a1 b2 = some r) :
    Does Try.prog 55 [.int .u64 a1, .int .u64 b2].toArray [] [] false (fun v Δ => v = .int .u64 r ∧ Δ = []) := by
 refine Does.body (vs := [.int .u64 a1, .int .u64 b2]) Try.func55 rfl trivial trivial fun w S => ?_
 unfold frac_gcd.f at H0
 refine J.seq ?_
 refine J.region ?_
 refine JL.as (.int .u64 0) ?_
 refine JL.end_ ?_
 refine JQ.then_normal ?_
 refine JQ.sub [(0, .int .u64 a1), (1, .int .u64 b2)] ?_
 refine J.seq ?_
 obtain ⟨o1, hit, H0⟩ := bind_some H0
 refine J.loop (σ := (Int × Int)) (τ := Int) (G := Unit) (G' := Unit) _ o1 (fun s g => [(0, .int .u64 s.1), (1, .int .u64 s.2)]) (fun s g => []) (fun t => frac_gcd.k2 t = some r) (fun t g => [(0, .int .u64 t)]) (fun t g => []) (a1, b2) () hit (fun _ h => Heap.to h) ?_ ?_
 · clear hit
   rintro ⟨a11, b12⟩ ⟨⟩ st1 H1 hb1 hr1
   replace H1 : frac_gcd.s1 a11 b12 = some st1 := H1
   unfold frac_gcd.s1 at H1
   refine JQ.sub [(0, .int .u64 a11), (1, .int .u64 b12)] ?_
   refine JQ.turn (Δ' := []) (fun _ h => h.to) ?_
   refine J.seq ?_
   refine J.seq ?_
   refine J.region ?_
   refine JL.mv (.int .u64 b12) ?_
   refine JL.pur (.bool (decide (0 < b12))) (some 6) ?_
   refine JL.end_ ?_
   refine JQ.then_normal ?_
   refine JQ.sub [(0, .int .u64 a11), (1, .int .u64 b12), (6, .bool (decide (0 < b12)))] ?_
   rcases ite_cases H1 with ⟨h17, H1⟩ | ⟨h17, H1⟩
   · refine J.cond_true h17 ?_
     refine J.skip ?_
     refine JQ.then_normal ?_
     refine JQ.sub [(0, .int .u64 a11), (1, .int .u64 b12)] ?_
     refine J.block ?_
     refine J.draw ?_
     refine QL.mv (.int .u64 b12) ?_
     refine QL.mv (.int .u64 a11) ?_
     refine QL.mv (.int .u64 b12) ?_
     obtain ⟨h18, H1⟩ := ite_must H1
     refine QL.val (.int .u64 (Int.tmod a11 b12)) (some 10) (gives_rem .u64 a11 b12 h18) ?_
     refine QL.as (.int .u64 b12) ?_
     obtain ⟨b19, eb19, H1⟩ := lt_some H1
     refine QL.as' (k := .u64) b19 eb19 ?_
     refine QL.nil ?_
     refine JA.nil ?_
     refine JQ.blk_normal ?_
     refine JQ.then_normal ?_
     exact JQ.again (b12, b19) () (Option.some.inj H1).symm (fun _ h => Heap.to h)
   · refine J.cond_false h17 ?_
     refine J.exit ?_
     refine JQ.then_exit ?_
     refine JQ.then_exit ?_
     refine JQ.blk_exit ?_
     rw [hb1 _ (Option.some.inj H1).symm, fin_brk] at H0
     exact JQ.met a11 () H0 (fun _ h => Heap.to h)
 · clear hit H0
   rintro a16 ⟨⟩ H0
   replace H0 : frac_gcd.k2 a16 = some r := H0
   unfold frac_gcd.k2 at H0
   refine JQ.sub [(0, .int .u64 a16)] ?_
   refine JQ.turn (Δ' := []) (fun _ h => h.to) ?_
   refine JQ.then_normal ?_
   refine J.seq ?_
   refine J.region ?_
   refine JL.mv (.int .u64 a16) ?_
   refine JL.as (.int .u64 a16) ?_
   refine JL.end_ ?_
   refine JQ.then_normal ?_
   refine JQ.sub [(4, .int .u64 a16)] ?_
   refine J.ret ?_
   obtain rfl := Option.some.inj H0
   exact JQ.done' (rs := [.tmp 4]) (vs := [.int .u64 a16]) [] (.inr rfl) ⟨by kernel_rfl, trivial⟩ (fun _ h => Heap.to h) ⟨rfl, rfl⟩

theorem frac_Check.ok (a1 : Frac) (r : Int) (H0 : frac_Check.f a1 = some r) :
    Does Try.prog 43 [mv_51 a1].toArray [] [] false (fun v Δ => v = .int .i64 r ∧ Δ = []) := by
 refine Does.body (vs := [mv_51 a1]) Try.func43 rfl trivial trivial fun w S => ?_
 unfold frac_Check.f at H0
 refine J.seq ?_
 refine J.region ?_
 refine JL.box (cl_51 a1) fun b2 => ?_
 refine JL.as (.int .i64 0) ?_
 refine JL.end_ ?_
 refine JQ.then_normal ?_
 refine JQ.sub [(1, .pointer (some ⟨b2, 0, none⟩))] ?_
 refine J.seq ?_
 refine J.join (T := Bool) (G := Unit) (fun t => frac_Check.k1 t = some r) (fun t g => [(27, .bool t)]) (fun t g => []) ?_ ?_
 · refine J.draw ?_
   refine QL.pur (.pointer (some ⟨b2, 1, none⟩)) (some 3) ?_
   refine QL.val (.int .i64 a1.Den) (some 4) (yields_load_box 0 1 (holds_box b2 51 (cl_51 a1)) tyAgg_2) ?_
   refine QL.pur (.bool (decide (a1.Den < 1))) (some 5) ?_
   refine QL.mv (.bool (decide (a1.Den < 1))) ?_
   rcases ite_cases H0 with ⟨h14, H0⟩ | ⟨h14, H0⟩
   · refine QL.off 3 6 false (some 7) h14 ?_
     refine QL.off 3 6 false (some 8) h14 ?_
     refine QL.off 3 6 false (some 9) h14 ?_
     refine QL.off 3 6 false (some 10) h14 ?_
     refine QL.val (.bool true) (some 11) (gives_pickT h14) ?_
     refine QL.mv (.bool true) ?_
     refine QL.off 9 12 false (some 13) rfl ?_
     refine QL.off 9 12 false (some 14) rfl ?_
     refine QL.off 9 12 false (some 15) rfl ?_
     refine QL.off 9 12 false (some 16) rfl ?_
     refine QL.val (.bool true) (some 17) (gives_pickT rfl) ?_
     refine QL.mv (.bool true) ?_
     refine QL.off 15 18 false (some 19) rfl ?_
     refine QL.off 15 18 false (some 20) rfl ?_
     refine QL.off 15 18 false (some 21) rfl ?_
     refine QL.off 15 18 false (some 22) rfl ?_
     refine QL.off 15 18 false (some 23) rfl ?_
     refine QL.off 15 18 false (some 24) rfl ?_
     refine QL.off 15 18 false (some 25) rfl ?_
     refine QL.off 15 18 false (some 26) rfl ?_
     refine QL.val (.bool true) (some 27) (gives_pickT rfl) ?_
     refine QL.nil ?_
     refine JA.nil ?_
     refine JQ.then_normal ?_
     exact JQ.meet true () H0 (fun _ h => Heap.to (Heap.pick [] (by decide) h))
   · refine QL.on 3 6 h14 ?_
     refine QL.pur (.pointer (some ⟨b2, 1, none⟩)) (some 7) ?_
     refine QL.on 3 6 h14 ?_
     refine QL.val (.int .i64 a1.Den) (some 8) (yields_load_box 0 1 (holds_box b2 51 (cl_51 a1)) tyAgg_2) ?_
     refine QL.on 3 6 h14 ?_
     refine QL.pur (.int .u64 (wu64 a1.Den)) (some 9) ?_
     refine QL.on 3 6 h14 ?_
     refine QL.pur (.bool (decide (1000000000000000000 < wu64 a1.Den))) (some 10) ?_
     refine QL.val (.bool (decide (1000000000000000000 < wu64 a1.Den))) (some 11) (gives_pickF h14) ?_
     refine QL.mv (.bool (decide (1000000000000000000 < wu64 a1.Den))) ?_
     rcases ite_cases H0 with ⟨h15, H0⟩ | ⟨h15, H0⟩
     · refine QL.off 9 12 false (some 13) h15 ?_
       refine QL.off 9 12 false (some 14) h15 ?_
       refine QL.off 9 12 false (some 15) h15 ?_
       refine QL.off 9 12 false (some 16) h15 ?_
       refine QL.val (.bool true) (some 17) (gives_pickT h15) ?_
       refine QL.mv (.bool true) ?_
       refine QL.off 15 18 false (some 19) rfl ?_
       refine QL.off 15 18 false (some 20) rfl ?_
       refine QL.off 15 18 false (some 21) rfl ?_
       refine QL.off 15 18 false (some 22) rfl ?_
       refine QL.off 15 18 false (some 23) rfl ?_
       refine QL.off 15 18 false (some 24) rfl ?_
       refine QL.off 15 18 false (some 25) rfl ?_
       refine QL.off 15 18 false (some 26) rfl ?_
       refine QL.val (.bool true) (some 27) (gives_pickT rfl) ?_
       refine QL.nil ?_
       refine JA.nil ?_
       refine JQ.then_normal ?_
       exact JQ.meet true () H0 (fun _ h => Heap.to (Heap.pick [] (by decide) h))
     · refine QL.on 9 12 h15 ?_
       refine QL.pur (.pointer (some ⟨b2, 0, none⟩)) (some 13) ?_
       refine QL.on 9 12 h15 ?_
       refine QL.val (.int .i64 a1.Num) (some 14) (yields_load_box 0 0 (holds_box b2 51 (cl_51 a1)) tyAgg_2) ?_
       refine QL.on 9 12 h15 ?_
       obtain ⟨t16, hc17, H0⟩ := bind_some H0
       refine QL.call [] [] (frac_abs.ok a1.Num _ hc17) trivial ?_
       refine QL.on 9 12 h15 ?_
       refine QL.pur (.bool (decide (1000000000000000000 < t16))) (some 16) ?_
       refine QL.val (.bool (decide (1000000000000000000 < t16))) (some 17) (gives_pickF h15) ?_
       refine QL.mv (.bool (decide (1000000000000000000 < t16))) ?_
       rcases ite_cases H0 with ⟨h18, H0⟩ | ⟨h18, H0⟩
       · refine QL.off 15 18 false (some 19) h18 ?_
         refine QL.off 15 18 false (some 20) h18 ?_
         refine QL.off 15 18 false (some 21) h18 ?_
         refine QL.off 15 18 false (some 22) h18 ?_
         refine QL.off 15 18 false (some 23) h18 ?_
         refine QL.off 15 18 false (some 24) h18 ?_
         refine QL.off 15 18 false (some 25) h18 ?_
         refine QL.off 15 18 false (some 26) h18 ?_
         refine QL.val (.bool true) (some 27) (gives_pickT h18) ?_
         refine QL.nil ?_
         refine JA.nil ?_
         refine JQ.then_normal ?_
         exact JQ.meet true () H0 (fun _ h => Heap.to (Heap.pick [] (by decide) h))
       · refine QL.on 15 18 h18 ?_
         refine QL.pur (.pointer (some ⟨b2, 0, none⟩)) (some 19) ?_
         refine QL.on 15 18 h18 ?_
         refine QL.val (.int .i64 a1.Num) (some 20) (yields_load_box 0 0 (holds_box b2 51 (cl_51 a1)) tyAgg_2) ?_
         refine QL.on 15 18 h18 ?_
         obtain ⟨t19, hc20, H0⟩ := bind_some H0
         refine QL.call [] [] (frac_abs.ok a1.Num _ hc20) trivial ?_
         refine QL.on 15 18 h18 ?_
         refine QL.pur (.pointer (some ⟨b2, 1, none⟩)) (some 22) ?_
         refine QL.on 15 18 h18 ?_
         refine QL.val (.int .i64 a1.Den) (some 23) (yields_load_box 0 1 (holds_box b2 51 (cl_51 a1)) tyAgg_2) ?_
         refine QL.on 15 18 h18 ?_
         refine QL.pur (.int .u64 (wu64 a1.Den)) (some 24) ?_
         refine QL.on 15 18 h18 ?_
         obtain ⟨t21, hc22, H0⟩ := bind_some H0
         refine QL.call [] [] (frac_gcd.ok t19 (wu64 a1.Den) _ hc22) trivial ?_
         refine QL.on 15 18 h18 ?_
         refine QL.pur (.bool (decide (1 < t21))) (some 26) ?_
         refine QL.val (.bool (decide (1 < t21))) (some 27) (gives_pickF h18) ?_
         refine QL.nil ?_
         refine JA.nil ?_
         refine JQ.then_normal ?_
         exact JQ.meet (decide (1 < t21)) () H0 (fun _ h => Heap.to (Heap.pick [] (by decide) h))
 · clear H0
   rintro x12 ⟨⟩ H0
   replace H0 : frac_Check.k1 x12 = some r := H0
   unfold frac_Check.k1 at H0
   refine JQ.sub [(27, .bool x12)] ?_
   refine JQ.turn (Δ' := []) (fun _ h => h.to) ?_
   rcases ite_cases H0 with ⟨h13, H0⟩ | ⟨h13, H0⟩
   · refine J.cond_true h13 ?_
     refine J.seq ?_
     refine J.region ?_
     refine JL.as (.int .i64 8) ?_
     refine JL.end_ ?_
     refine JQ.then_normal ?_
     refine JQ.sub [(2, .int .i64 8)] ?_
     refine J.ret ?_
     refine JQ.then_ret ?_
     obtain rfl := Option.some.inj H0
     exact JQ.done' (rs := [.tmp 2]) (vs := [.int .i64 8]) [] (.inr rfl) ⟨by kernel_rfl, trivial⟩ (fun _ h => Heap.to h) ⟨rfl, rfl⟩
   · refine J.cond_false h13 ?_
     refine J.skip ?_
     refine JQ.then_normal ?_
     refine JQ.sub [] ?_
     refine J.seq ?_
     refine J.region ?_
     refine JL.as (.int .i64 0) ?_
     refine JL.end_ ?_
     refine JQ.then_normal ?_
     refine J.ret ?_
     obtain rfl := Option.some.inj H0
     exact JQ.done' (rs := [.tmp 2]) (vs := [.int .i64 0]) [] (.inr rfl) ⟨by kernel_rfl, trivial⟩ (fun _ h => Heap.to h) ⟨rfl, rfl⟩

theorem frac_made.ok (minus1 : Bool) (num2 : Int) (den3 : Int) (r : (Frac × Int)) (H0 : frac_made.f minus1 num2 den3 = some r) :
    Does Try.prog 58 [.bool minus1, .int .u64 num2, .int .u64 den3].toArray [] [] false (fun v Δ => v = .tuple #[mv_51 r.1, .int .i64 r.2] ∧ Δ = []) := by
 refine Does.body (vs := [.bool minus1, .int .u64 num2, .int .u64 den3]) Try.func58 rfl trivial trivial fun w S => ?_
 unfold frac_made.f at H0
 refine J.seq ?_
 refine J.region ?_
 refine JL.alloc (cl_51 zv_51) fun b4 => ?_
 refine JL.as (.int .i64 0) ?_
 refine JL.end_ ?_
 refine JQ.then_normal ?_
 refine JQ.sub [(0, .bool minus1), (1, .int .u64 num2), (2, .int .u64 den3), (6, .pointer (some ⟨b4, 0, none⟩))] ?_
 refine J.seq ?_
 refine J.join (T := Bool) (G := Unit) (fun t => frac_made.k1 minus1 num2 den3 t = some r) (fun t g => [(0, .bool minus1), (1, .int .u64 num2), (2, .int .u64 den3), (6, .pointer (some ⟨b4, 0, none⟩)), (14, .bool t)]) (fun t g => [At.box b4 51 (cl_51 zv_51)]) ?_ ?_
 · refine J.region ?_
   refine JL.mv (.int .u64 num2) ?_
   refine JL.pur (.bool (decide (1000000000000000000 < num2))) (some 10) ?_
   refine JL.mv (.bool (decide (1000000000000000000 < num2))) ?_
   rcases ite_cases H0 with ⟨h12, H0⟩ | ⟨h12, H0⟩
   · refine JL.off 2 11 false (some 12) h12 ?_
     refine JL.off 2 11 false (some 13) h12 ?_
     refine JL.val (.bool true) (some 14) (gives_pickT h12) ?_
     refine JL.end_ ?_
     refine JQ.then_normal ?_
     exact JQ.meet true () H0 (fun _ h => Heap.to h)
   · refine JL.on 2 11 h12 ?_
     refine JL.mv (.int .u64 den3) ?_
     refine JL.on 2 11 h12 ?_
     refine JL.pur (.bool (decide (1000000000000000000 < den3))) (some 13) ?_
     refine JL.val (.bool (decide (1000000000000000000 < den3))) (some 14) (gives_pickF h12) ?_
     refine JL.end_ ?_
     refine JQ.then_normal ?_
     exact JQ.meet (decide (1000000000000000000 < den3)) () H0 (fun _ h => Heap.to h)
 · clear H0
   rintro x6 ⟨⟩ H0
   replace H0 : frac_made.k1 minus1 num2 den3 x6 = some r := H0
   unfold frac_made.k1 at H0
   refine JQ.sub [(0, .bool minus1), (1, .int .u64 num2), (2, .int .u64 den3), (6, .pointer (some ⟨b4, 0, none⟩)), (14, .bool x6)] ?_
   refine JQ.turn (Δ' := [At.box b4 51 (cl_51 zv_51)]) (fun _ h => h.to) ?_
   rcases ite_cases H0 with ⟨h7, H0⟩ | ⟨h7, H0⟩
   · refine J.cond_true h7 ?_
     refine J.seq ?_
     refine J.region ?_
     refine JL.pur (mv_51 zv_51) (some 15) ?_
     refine JL.store 0 b4 0 51 (cl_51 zv_51) (cl_51 zv_51) tySize_51 ?_
     refine JL.as (.int .i64 16) ?_
     refine JL.end_ ?_
     refine JQ.then_normal ?_
     refine JQ.sub [(6, .pointer (some ⟨b4, 0, none⟩)), (7, .int .i64 16)] ?_
     refine J.ret ?_
     refine JQ.then_ret ?_
     obtain rfl := Option.some.inj H0
     exact JQ.done' (rs := [.cell 6 51, .tmp 7]) (vs := [.agg #[.int .i64 0, .int .i64 0], .int .i64 16]) [] (.inr rfl) ⟨⟨b4, 0, _, _, by kernel_rfl, by kernel_rfl, holds_box b4 51 (cl_51 zv_51), .inl ⟨tyAgg_51, tySize_51, rfl⟩⟩, by kernel_rfl, trivial⟩ (fun _ h => Heap.to (Heap.pick [] (by decide) h)) ⟨rfl, rfl⟩
   · refine J.cond_false h7 ?_
     refine J.skip ?_
     refine JQ.then_normal ?_
     refine JQ.sub [(0, .bool minus1), (1, .int .u64 num2), (2, .int .u64 den3), (6, .pointer (some ⟨b4, 0, none⟩))] ?_
     refine J.seq ?_
     refine J.region ?_
     refine JL.mv (.int .u64 num2) ?_
     refine JL.pur (.int .i64 (w64 num2)) (some 17) ?_
     refine JL.mv (.int .u64 den3) ?_
     refine JL.pur (.int .i64 (w64 den3)) (some 19) ?_
     refine JL.pur (.agg #[.int .i64 (w64 num2), .int .i64 (w64 den3)]) (some 20) ?_
     refine JL.alloc (cl_51 zv_51) fun b8 => ?_
     refine JL.store 1 b8 0 51 (cl_51 zv_51) [.int .i64 (w64 num2), .int .i64 (w64 den3)] tySize_51 ?_
     refine JL.end_ ?_
     refine JQ.then_normal ?_
     refine JQ.sub [(0, .bool minus1), (6, .pointer (some ⟨b4, 0, none⟩)), (8, .pointer (some ⟨b8, 0, none⟩))] ?_
     refine J.join (T := Frac) (G := Unit) (fun t => frac_made.k2 t = some r) (fun t g => [(6, .pointer (some ⟨b4, 0, none⟩)), (8, .pointer (some ⟨b8, 0, none⟩))]) (fun t g => [At.box b4 51 (cl_51 zv_51), At.box b8 51 (cl_51 t)]) ?_ ?_
     · refine J.seq ?_
       refine J.region ?_
       refine JL.mv (.bool minus1) ?_
       refine JL.end_ ?_
       refine JQ.then_normal ?_
       refine JQ.sub [(6, .pointer (some ⟨b4, 0, none⟩)), (8, .pointer (some ⟨b8, 0, none⟩)), (21, .bool minus1)] ?_
       rcases ite_cases H0 with ⟨h11, H0⟩ | ⟨h11, H0⟩
       · refine J.cond_true h11 ?_
         refine J.region ?_
         refine JL.pur (.pointer (some ⟨b8, 0, none⟩)) (some 22) ?_
         refine JL.val (.int .i64 (w64 num2)) (some 23) (yields_load_box 1 0 (holds_box b8 51 [.int .i64 (w64 num2), .int .i64 (w64 den3)]) tyAgg_2) ?_
         refine JL.pur (.int .i64 (w64 (0 - w64 num2))) (some 24) ?_
         refine JL.pur (.pointer (some ⟨b8, 0, none⟩)) (some 25) ?_
         refine JL.store 1 b8 0 51 [.int .i64 (w64 num2), .int .i64 (w64 den3)] [.int .i64 (w64 (0 - w64 num2)), .int .i64 (w64 den3)] tySize_2 ?_
         refine JL.end_ ?_
         refine JQ.then_normal ?_
         exact JQ.meet (⟨(w64 (0 - w64 num2)), (w64 den3)⟩ : Frac) () H0 (fun _ h => Heap.to h)
       · refine J.cond_false h11 ?_
         refine J.skip ?_
         refine JQ.then_normal ?_
         exact JQ.meet (⟨(w64 num2), (w64 den3)⟩ : Frac) () H0 (fun _ h => Heap.to h)
     · clear H0
       rintro a10 ⟨⟩ H0
       replace H0 : frac_made.k2 a10 = some r := H0
       unfold frac_made.k2 at H0
       refine JQ.sub [(6, .pointer (some ⟨b4, 0, none⟩)), (8, .pointer (some ⟨b8, 0, none⟩))] ?_
       refine JQ.turn (Δ' := [At.box b4 51 (cl_51 zv_51), At.box b8 51 (cl_51 a10)]) (fun _ h => h.to) ?_
       refine J.seq ?_
       refine J.region ?_
       refine JL.val (mv_51 a10) (some 26) (yields_load_boxes 1 0 (cl_51 a10) (holds_box b8 51 (cl_51 a10)) tyAgg_51 tySize_51) ?_
       refine JL.store 0 b4 0 51 (cl_51 zv_51) (cl_51 a10) tySize_51 ?_
       refine JL.as (.int .i64 0) ?_
       refine JL.end_ ?_
       refine JQ.then_normal ?_
       refine JQ.sub [(6, .pointer (some ⟨b4, 0, none⟩)), (7, .int .i64 0)] ?_
       refine JQ.mask [At.box b4 51 (cl_51 a10)] [true, false] ?_
       refine J.ret ?_
       obtain rfl := Option.some.inj H0
       exact JQ.done' (rs := [.cell 6 51, .tmp 7]) (vs := [.agg #[.int .i64 a10.Num, .int .i64 a10.Den], .int .i64 0]) [] (.inr rfl) ⟨⟨b4, 0, _, _, by kernel_rfl, by kernel_rfl, holds_box b4 51 (cl_51 a10), .inl ⟨tyAgg_51, tySize_51, rfl⟩⟩, by kernel_rfl, trivial⟩ (fun _ h => Heap.to (Heap.pick [] (by decide) h)) ⟨rfl, rfl⟩

theorem frac_Make.ok (num1 : Int) (den2 : Int) (r : (Frac × Int)) (H0 : frac_Make.f num1 den2 = some r) :
    Does Try.prog 45 [.int .i64 num1, .int .i64 den2].toArray [] [] false (fun v Δ => v = .tuple #[mv_51 r.1, .int .i64 r.2] ∧ Δ = []) := by
 refine Does.body (vs := [.int .i64 num1, .int .i64 den2]) Try.func45 rfl trivial trivial fun w S => ?_
 unfold frac_Make.f at H0
 refine J.seq ?_
 refine J.region ?_
 refine JL.alloc (cl_51 zv_51) fun b3 => ?_
 refine JL.as (.int .i64 0) ?_
 refine JL.end_ ?_
 refine JQ.then_normal ?_
 refine JQ.sub [(0, .int .i64 num1), (1, .int .i64 den2), (4, .pointer (some ⟨b3, 0, none⟩))] ?_
 refine J.seq ?_
 refine J.seq ?_
 refine J.region ?_
 refine JL.mv (.int .i64 den2) ?_
 refine JL.pur (.bool (decide (den2 = 0))) (some 10) ?_
 refine JL.end_ ?_
 refine JQ.then_normal ?_
 refine JQ.sub [(0, .int .i64 num1), (1, .int .i64 den2), (4, .pointer (some ⟨b3, 0, none⟩)), (10, .bool (decide (den2 = 0)))] ?_
 rcases ite_cases H0 with ⟨h4, H0⟩ | ⟨h4, H0⟩
 · refine J.cond_true h4 ?_
   refine J.seq ?_
   refine J.region ?_
   refine JL.pur (mv_51 zv_51) (some 11) ?_
   refine JL.store 0 b3 0 51 (cl_51 zv_51) (cl_51 zv_51) tySize_51 ?_
   refine JL.as (.int .i64 18) ?_
   refine JL.end_ ?_
   refine JQ.then_normal ?_
   refine JQ.sub [(4, .pointer (some ⟨b3, 0, none⟩)), (5, .int .i64 18)] ?_
   refine J.ret ?_
   refine JQ.then_ret ?_
   obtain rfl := Option.some.inj H0
   exact JQ.done' (rs := [.cell 4 51, .tmp 5]) (vs := [.agg #[.int .i64 0, .int .i64 0], .int .i64 18]) [] (.inr rfl) ⟨⟨b3, 0, _, _, by kernel_rfl, by kernel_rfl, holds_box b3 51 (cl_51 zv_51), .inl ⟨tyAgg_51, tySize_51, rfl⟩⟩, by kernel_rfl, trivial⟩ (fun _ h => Heap.to (Heap.pick [] (by decide) h)) ⟨rfl, rfl⟩
 · refine J.cond_false h4 ?_
   refine J.skip ?_
   refine JQ.then_normal ?_
   refine JQ.sub [(0, .int .i64 num1), (1, .int .i64 den2), (4, .pointer (some ⟨b3, 0, none⟩))] ?_
   refine J.seq ?_
   refine J.region ?_
   refine JL.mv (.int .i64 num1) ?_
   obtain ⟨t5, hc6, H0⟩ := bind_some H0
   refine JL.call [] [] [] (frac_abs.ok num1 _ hc6) trivial ?_
   rintro _ _ ⟨rfl, rfl⟩
   refine JL.mv (.int .i64 den2) ?_
   obtain ⟨t7, hc8, H0⟩ := bind_some H0
   refine JL.call [] [] [] (frac_abs.ok den2 _ hc8) trivial ?_
   rintro _ _ ⟨rfl, rfl⟩
   refine JL.as (.int .u64 t5) ?_
   refine JL.as (.int .u64 t7) ?_
   refine JL.end_ ?_
   refine JQ.then_normal ?_
   refine JQ.sub [(0, .int .i64 num1), (1, .int .i64 den2), (4, .pointer (some ⟨b3, 0, none⟩)), (6, .int .u64 t5), (7, .int .u64 t7)] ?_
   refine J.seq ?_
   refine J.region ?_
   refine JL.mv (.int .u64 t5) ?_
   refine JL.mv (.int .u64 t7) ?_
   obtain ⟨t9, hc10, H0⟩ := bind_some H0
   refine JL.call [] [] [] (frac_gcd.ok t5 t7 _ hc10) trivial ?_
   rintro _ _ ⟨rfl, rfl⟩
   refine JL.as (.int .u64 t9) ?_
   refine JL.end_ ?_
   refine JQ.then_normal ?_
   refine JQ.sub [(0, .int .i64 num1), (1, .int .i64 den2), (4, .pointer (some ⟨b3, 0, none⟩)), (6, .int .u64 t5), (7, .int .u64 t7), (8, .int .u64 t9)] ?_
   refine J.seq ?_
   refine J.drawT 14 ?_
   refine QL.mv (.int .i64 num1) ?_
   refine QL.pur (.bool (decide (num1 < 0))) (some 20) ?_
   refine QL.mv (.int .i64 den2) ?_
   refine QL.pur (.bool (decide (den2 < 0))) (some 22) ?_
   refine QL.pur (.bool (!((decide (num1 < 0)) == (decide (den2 < 0))))) (some 23) ?_
   refine QL.mv (.int .u64 t5) ?_
   refine QL.mv (.int .u64 t9) ?_
   obtain ⟨h11, H0⟩ := ite_must H0
   refine QL.val (.int .u64 (wu64 (Int.tdiv t5 t9))) (some 26) (gives_quo .u64 t5 t9 h11) ?_
   refine QL.mv (.int .u64 t7) ?_
   refine QL.mv (.int .u64 t9) ?_
   obtain ⟨h12, H0⟩ := ite_must H0
   refine QL.val (.int .u64 (wu64 (Int.tdiv t7 t9))) (some 29) (gives_quo .u64 t7 t9 h12) ?_
   obtain ⟨t13, hc14, H0⟩ := bind_some H0
   refine QL.call [] [] (frac_made.ok (!((decide (num1 < 0)) == (decide (den2 < 0)))) (wu64 (Int.tdiv t5 t9)) (wu64 (Int.tdiv t7 t9)) _ hc14) trivial ?_
   refine QL.pur (mv_51 t13.1) (some 31) ?_
   refine QL.pur (.int .i64 t13.2) (some 32) ?_
   refine QL.nil ?_
   refine JA.nil ?_
   refine JL.store 0 b3 0 51 (cl_51 zv_51) (cl_51 t13.1) tySize_51 ?_
   refine JL.as (.int .i64 t13.2) ?_
   refine JL.end_ ?_
   refine JQ.then_normal ?_
   refine JQ.sub [(4, .pointer (some ⟨b3, 0, none⟩)), (5, .int .i64 t13.2)] ?_
   refine J.ret ?_
   obtain rfl := Option.some.inj H0
   exact JQ.done' (rs := [.cell 4 51, .tmp 5]) (vs := [.agg #[.int .i64 t13.1.Num, .int .i64 t13.1.Den], .int .i64 t13.2]) [] (.inr rfl) ⟨⟨b3, 0, _, _, by kernel_rfl, by kernel_rfl, holds_box b3 51 (cl_51 t13.1), .inl ⟨tyAgg_51, tySize_51, rfl⟩⟩, by kernel_rfl, trivial⟩ (fun _ h => Heap.to (Heap.pick [] (by decide) h)) ⟨rfl, rfl⟩

theorem cmp_Or__api_Errno.ok (vals1 : (List Int)) (Aa2 : Option Addr) (c3 : Nat) (r : Int) (H0 : cmp_Or__api_Errno.f vals1 = some r) :
    Does Try.prog 89 [.slice Aa2 vals1.length c3].toArray [At.rd Aa2 c3 ((flInt .i64).kd) vals1 true] [] false (fun v Δ => v = .int .i64 r ∧ Δ = []) := by
 refine Does.body (vs := [.slice Aa2 vals1.length c3]) Try.func89 rfl ⟨.inl rfl, trivial⟩ trivial fun w S => ?_
 unfold cmp_Or__api_Errno.f at H0
 refine J.seq ?_
 refine J.region ?_
 refine JL.as (.int .i64 0) ?_
 refine JL.end_ ?_
 refine JQ.then_normal ?_
 refine JQ.sub [(0, .slice Aa2 vals1.length c3)] ?_
 refine J.seq ?_
 refine J.region ?_
 refine JL.as (.int .i64 0) ?_
 refine JL.end_ ?_
 refine JQ.then_normal ?_
 refine J.seq ?_
 refine J.seq ?_
 refine J.region ?_
 refine JL.mv (.slice Aa2 vals1.length c3) ?_
 refine JL.pur (.int .i64 (vals1.length : Int)) (some 7) ?_
 refine JL.mv (.int .i64 0) ?_
 refine JL.end_ ?_
 refine JQ.then_normal ?_
 refine JQ.sub [(3, .int .i64 0), (6, .slice Aa2 vals1.length c3), (7, .int .i64 (vals1.length : Int)), (8, .int .i64 0)] ?_
 obtain ⟨o1, hit, H0⟩ := bind_some H0
 refine J.loop (σ := Int) (τ := Unit) (G := Unit) (G' := Unit) _ o1 (fun s g => [(3, .int .i64 0), (6, .slice Aa2 vals1.length c3), (7, .int .i64 (vals1.length : Int)), (8, .int .i64 s)]) (fun s g => [At.rd Aa2 c3 ((flInt .i64).kd) vals1 true]) (fun t => cmp_Or__api_Errno.k2 = some r) (fun t g => [(3, .int .i64 0)]) (fun t g => []) 0 () hit (fun _ h => Heap.to h) ?_ ?_
 · clear hit
   rintro x19 ⟨⟩ st1 H1 hb1 hr1
   replace H1 : cmp_Or__api_Errno.s1 vals1 x19 = some st1 := H1
   unfold cmp_Or__api_Errno.s1 at H1
   refine JQ.sub [(3, .int .i64 0), (6, .slice Aa2 vals1.length c3), (7, .int .i64 (vals1.length : Int)), (8, .int .i64 x19)] ?_
   refine JQ.turn (Δ' := [At.rd Aa2 c3 ((flInt .i64).kd) vals1 true]) (fun _ h => h.to) ?_
   refine J.seq ?_
   refine J.region ?_
   refine JL.pur (.bool (decide (x19 < (vals1.length : Int)))) (some 9) ?_
   refine JL.end_ ?_
   refine JQ.then_normal ?_
   refine J.seq ?_
   rcases ite_cases H1 with ⟨h26, H1⟩ | ⟨h26, H1⟩
   · refine J.cond_true h26 ?_
     refine J.skip ?_
     refine JQ.then_normal ?_
     refine JQ.sub [(3, .int .i64 0), (6, .slice Aa2 vals1.length c3), (7, .int .i64 (vals1.length : Int)), (8, .int .i64 x19)] ?_
     refine J.seq ?_
     refine J.block ?_
     refine J.seq ?_
     refine J.region ?_
     obtain ⟨⟨h27, h28⟩, H1⟩ := ite_must H1
     refine JL.ixAddr 0 1 c3 .i64 (elems_rd Aa2 c3 ((flInt .i64).kd) vals1 true) Try.underlying126 tySize_24 h27 h28 fun g29 o30 hA => ?_
     subst hA
     refine JL.val (.int .i64 (ix vals1 x19)) (some 11) (gives_loadEl (f := (flInt .i64)) 0 0 x19 (elems_rd (some ⟨g29, o30, none⟩) c3 ((flInt .i64).kd) vals1 true) h27 h28 tySize_24 (.inr ⟨tyAgg_24, rfl, rfl⟩)) ?_
     refine JL.as (.int .i64 (ix vals1 x19)) ?_
     refine JL.end_ ?_
     refine JQ.then_normal ?_
     refine JQ.sub [(3, .int .i64 0), (5, .int .i64 (ix vals1 x19)), (6, .slice (some ⟨g29, o30, none⟩) vals1.length c3), (7, .int .i64 (vals1.length : Int)), (8, .int .i64 x19)] ?_
     refine J.seq ?_
     refine J.region ?_
     refine JL.mv (.int .i64 (ix vals1 x19)) ?_
     refine JL.mv (.int .i64 0) ?_
     refine JL.pur (.bool (!decide ((ix vals1 x19) = 0))) (some 14) ?_
     refine JL.end_ ?_
     refine JQ.then_normal ?_
     refine JQ.sub [(3, .int .i64 0), (5, .int .i64 (ix vals1 x19)), (6, .slice (some ⟨g29, o30, none⟩) vals1.length c3), (7, .int .i64 (vals1.length : Int)), (8, .int .i64 x19), (14, .bool (!decide ((ix vals1 x19) = 0)))] ?_
     rcases ite_cases H1 with ⟨h31, H1⟩ | ⟨h31, H1⟩
     · refine J.cond_true h31 ?_
       refine J.seq ?_
       refine J.region ?_
       refine JL.mv (.int .i64 (ix vals1 x19)) ?_
       refine JL.as (.int .i64 (ix vals1 x19)) ?_
       refine JL.end_ ?_
       refine JQ.then_normal ?_
       refine JQ.sub [(2, .int .i64 (ix vals1 x19))] ?_
       refine JQ.mask [] [false] ?_
       refine J.ret ?_
       refine JQ.blk_ret ?_
       refine JQ.then_ret ?_
       refine JQ.then_ret ?_
       refine JQ.blk_ret ?_
       refine JQ.met_ret ?_
       refine JQ.then_ret ?_
       rw [hr1 _ (Option.some.inj H1).symm, fin_ret] at H0
       obtain rfl := Option.some.inj H0
       exact JQ.done' (rs := [.tmp 2]) (vs := [.int .i64 (ix vals1 x19)]) [] (.inr rfl) ⟨by kernel_rfl, trivial⟩ (fun _ h => Heap.to h) ⟨rfl, rfl⟩
     · refine J.cond_false h31 ?_
       refine J.skip ?_
       refine JQ.blk_normal ?_
       refine JQ.then_normal ?_
       refine JQ.sub [(3, .int .i64 0), (6, .slice (some ⟨g29, o30, none⟩) vals1.length c3), (7, .int .i64 (vals1.length : Int)), (8, .int .i64 x19)] ?_
       refine J.region ?_
       refine JL.pur (.int .i64 (w64 (x19 + 1))) (some 16) ?_
       refine JL.mv (.int .i64 (w64 (x19 + 1))) ?_
       refine JL.end_ ?_
       refine JQ.then_normal ?_
       exact JQ.again (w64 (x19 + 1)) () (Option.some.inj H1).symm (fun _ h => Heap.to h)
   · refine J.cond_false h26 ?_
     refine J.exit ?_
     refine JQ.then_exit ?_
     refine JQ.then_exit ?_
     refine JQ.blk_exit ?_
     rw [hb1 _ (Option.some.inj H1).symm, fin_brk] at H0
     exact JQ.met () () H0 (fun _ h => Heap.to (Heap.pick [] (by decide) h))
 · clear hit H0
   rintro ⟨⟩ ⟨⟩ H0
   replace H0 : cmp_Or__api_Errno.k2 = some r := H0
   unfold cmp_Or__api_Errno.k2 at H0
   refine JQ.sub [(3, .int .i64 0)] ?_
   refine JQ.turn (Δ' := []) (fun _ h => h.to) ?_
   refine JQ.then_normal ?_
   refine J.seq ?_
   refine J.region ?_
   refine JL.mv (.int .i64 0) ?_
   refine JL.as (.int .i64 0) ?_
   refine JL.end_ ?_
   refine JQ.then_normal ?_
   refine JQ.sub [(2, .int .i64 0)] ?_
   refine J.ret ?_
   obtain rfl := Option.some.inj H0
   exact JQ.done' (rs := [.tmp 2]) (vs := [.int .i64 0]) [] (.inr rfl) ⟨by kernel_rfl, trivial⟩ (fun _ h => Heap.to h) ⟨rfl, rfl⟩

theorem frac_both.ok (a1 : Frac) (b2 : Frac) (r : Int) (H0 : frac_both.f a1 b2 = some r) :
    Does Try.prog 76 [mv_51 a1, mv_51 b2].toArray [] [] false (fun v Δ => v = .int .i64 r ∧ Δ = []) := by
 refine Does.body (vs := [mv_51 a1, mv_51 b2]) Try.func76 rfl trivial trivial fun w S => ?_
 unfold frac_both.f at H0
 refine J.seq ?_
 refine J.region ?_
 refine JL.box (cl_51 a1) fun b3 => ?_
 refine JL.box (cl_51 b2) fun b4 => ?_
 refine JL.as (.int .i64 0) ?_
 refine JL.end_ ?_
 refine JQ.then_normal ?_
 refine JQ.sub [(2, .pointer (some ⟨b3, 0, none⟩)), (3, .pointer (some ⟨b4, 0, none⟩))] ?_
 refine J.seq ?_
 refine J.drawT 4 ?_
 refine QL.val (mv_51 a1) (some 5) (yields_load_boxes 0 0 (cl_51 a1) (holds_box b3 51 (cl_51 a1)) tyAgg_51 tySize_51) ?_
 obtain ⟨t5, hc6, H0⟩ := bind_some H0
 refine QL.call [] [] (frac_Check.ok a1 _ hc6) trivial ?_
 refine QL.val (mv_51 b2) (some 7) (yields_load_boxes 1 0 (cl_51 b2) (holds_box b4 51 (cl_51 b2)) tyAgg_51 tySize_51) ?_
 obtain ⟨t7, hc8, H0⟩ := bind_some H0
 refine QL.call [] [] (frac_Check.ok b2 _ hc8) trivial ?_
 refine QL.nil ?_
 refine JA.nil ?_
 refine JL.buildSl 24 ((flInt .i64).kd) (([t5, t7] : List Int) : List Int) [.int .i64 t5, .int .i64 t7] false (closes_fl rfl) fun b9 => ?_
 obtain ⟨t10, hc11, H0⟩ := bind_some H0
 refine JL.call [] [] [] (cmp_Or__api_Errno.ok ([t5, t7] : List Int) (some ⟨b9, 0, none⟩) 2 _ hc11) ⟨pre_view 2 (view_row (some ⟨b9, 0, none⟩) 2 24 ((flInt .i64).kd) ([t5, t7] : List Int) false true), trivial⟩ ?_
 rintro _ _ ⟨rfl, rfl⟩
 refine JL.as (.int .i64 t10) ?_
 refine JL.end_ ?_
 refine JQ.then_normal ?_
 refine JQ.sub [(4, .int .i64 t10)] ?_
 refine JQ.mask [] [false, false, false] ?_
 refine J.ret ?_
 obtain rfl := Option.some.inj H0
 exact JQ.done' (rs := [.tmp 4]) (vs := [.int .i64 t10]) [] (.inr rfl) ⟨by kernel_rfl, trivial⟩ (fun _ h => Heap.to h) ⟨rfl, rfl⟩

theorem math_bits_Mul64.ok (x1 : Int) (y2 : Int) (r : (Int × Int)) (H0 : math_bits_Mul64.f x1 y2 = some r) :
    Does Try.prog 90 [.int .u64 x1, .int .u64 y2].toArray [] [] false (fun v Δ => v = .tuple #[.int .u64 r.1, .int .u64 r.2] ∧ Δ = []) := by
 refine Does.body (vs := [.int .u64 x1, .int .u64 y2]) Try.func90 rfl trivial trivial fun w S => ?_
 unfold math_bits_Mul64.f at H0
 refine J.seq ?_
 refine J.region ?_
 refine JL.as (.int .u64 0) ?_
 refine JL.as (.int .u64 0) ?_
 refine JL.end_ ?_
 refine JQ.then_normal ?_
 refine JQ.sub [(0, .int .u64 x1), (1, .int .u64 y2)] ?_
 refine J.seq ?_
 refine J.region ?_
 refine JL.mv (.int .u64 x1) ?_
 refine JL.pur (.int .u64 (gand .u64 x1 4294967295)) (some 15) ?_
 obtain ⟨x3, ex3, H0⟩ := lt_some H0
 refine JL.as' (k := .u64) x3 ex3 ?_
 refine JL.end_ ?_
 refine JQ.then_normal ?_
 refine JQ.sub [(0, .int .u64 x1), (1, .int .u64 y2), (6, .int .u64 x3)] ?_
 refine J.seq ?_
 refine J.region ?_
 refine JL.mv (.int .u64 x1) ?_
 refine JL.pur (.int .u64 (gshr .u64 x1 32)) (some 17) ?_
 obtain ⟨x4, ex4, H0⟩ := lt_some H0
 refine JL.as' (k := .u64) x4 ex4 ?_
 refine JL.end_ ?_
 refine JQ.then_normal ?_
 refine JQ.sub [(0, .int .u64 x1), (1, .int .u64 y2), (6, .int .u64 x3), (7, .int .u64 x4)] ?_
 refine J.seq ?_
 refine J.region ?_
 refine JL.mv (.int .u64 y2) ?_
 refine JL.pur (.int .u64 (gand .u64 y2 4294967295)) (some 19) ?_
 obtain ⟨y5, ey5, H0⟩ := lt_some H0
 refine JL.as' (k := .u64) y5 ey5 ?_
 refine JL.end_ ?_
 refine JQ.then_normal ?_
 refine JQ.sub [(0, .int .u64 x1), (1, .int .u64 y2), (6, .int .u64 x3), (7, .int .u64 x4), (8, .int .u64 y5)] ?_
 refine J.seq ?_
 refine J.region ?_
 refine JL.mv (.int .u64 y2) ?_
 refine JL.pur (.int .u64 (gshr .u64 y2 32)) (some 21) ?_
 obtain ⟨y6, ey6, H0⟩ := lt_some H0
 refine JL.as' (k := .u64) y6 ey6 ?_
 refine JL.end_ ?_
 refine JQ.then_normal ?_
 refine JQ.sub [(0, .int .u64 x1), (1, .int .u64 y2), (6, .int .u64 x3), (7, .int .u64 x4), (8, .int .u64 y5), (9, .int .u64 y6)] ?_
 refine J.seq ?_
 refine J.region ?_
 refine JL.mv (.int .u64 x3) ?_
 refine JL.mv (.int .u64 y5) ?_
 refine JL.pur (.int .u64 (wu64 (x3 * y5))) (some 24) ?_
 refine JL.as (.int .u64 (wu64 (x3 * y5))) ?_
 refine JL.end_ ?_
 refine JQ.then_normal ?_
 refine JQ.sub [(0, .int .u64 x1), (1, .int .u64 y2), (6, .int .u64 x3), (7, .int .u64 x4), (8, .int .u64 y5), (9, .int .u64 y6), (10, .int .u64 (wu64 (x3 * y5)))] ?_
 refine J.seq ?_
 refine J.region ?_
 refine JL.mv (.int .u64 x4) ?_
 refine JL.mv (.int .u64 y5) ?_
 refine JL.pur (.int .u64 (wu64 (x4 * y5))) (some 27) ?_
 refine JL.mv (.int .u64 (wu64 (x3 * y5))) ?_
 refine JL.pur (.int .u64 (gshr .u64 (wu64 (x3 * y5)) 32)) (some 29) ?_
 refine JL.pur (.int .u64 (wu64 ((wu64 (x4 * y5)) + (gshr .u64 (wu64 (x3 * y5)) 32)))) (some 30) ?_
 obtain ⟨t7, et7, H0⟩ := lt_some H0
 refine JL.as' (k := .u64) t7 et7 ?_
 refine JL.end_ ?_
 refine JQ.then_normal ?_
 refine JQ.sub [(0, .int .u64 x1), (1, .int .u64 y2), (6, .int .u64 x3), (7, .int .u64 x4), (9, .int .u64 y6), (11, .int .u64 t7)] ?_
 refine J.seq ?_
 refine J.region ?_
 refine JL.mv (.int .u64 t7) ?_
 refine JL.pur (.int .u64 (gand .u64 t7 4294967295)) (some 32) ?_
 obtain ⟨w8, ew8, H0⟩ := lt_some H0
 refine JL.as' (k := .u64) w8 ew8 ?_
 refine JL.end_ ?_
 refine JQ.then_normal ?_
 refine JQ.sub [(0, .int .u64 x1), (1, .int .u64 y2), (6, .int .u64 x3), (7, .int .u64 x4), (9, .int .u64 y6), (11, .int .u64 t7), (12, .int .u64 w8)] ?_
 refine J.seq ?_
 refine J.region ?_
 refine JL.mv (.int .u64 t7) ?_
 refine JL.pur (.int .u64 (gshr .u64 t7 32)) (some 34) ?_
 obtain ⟨w9, ew9, H0⟩ := lt_some H0
 refine JL.as' (k := .u64) w9 ew9 ?_
 refine JL.end_ ?_
 refine JQ.then_normal ?_
 refine JQ.sub [(0, .int .u64 x1), (1, .int .u64 y2), (6, .int .u64 x3), (7, .int .u64 x4), (9, .int .u64 y6), (12, .int .u64 w8), (13, .int .u64 w9)] ?_
 refine J.seq ?_
 refine J.region ?_
 refine JL.mv (.int .u64 w8) ?_
 refine JL.mv (.int .u64 x3) ?_
 refine JL.mv (.int .u64 y6) ?_
 refine JL.pur (.int .u64 (wu64 (x3 * y6))) (some 38) ?_
 refine JL.pur (.int .u64 (wu64 (w8 + (wu64 (x3 * y6))))) (some 39) ?_
 obtain ⟨w10, ew10, H0⟩ := lt_some H0
 refine JL.as' (k := .u64) w10 ew10 ?_
 refine JL.end_ ?_
 refine JQ.then_normal ?_
 refine JQ.sub [(0, .int .u64 x1), (1, .int .u64 y2), (7, .int .u64 x4), (9, .int .u64 y6), (12, .int .u64 w10), (13, .int .u64 w9)] ?_
 refine J.seq ?_
 refine J.region ?_
 refine JL.mv (.int .u64 x4) ?_
 refine JL.mv (.int .u64 y6) ?_
 refine JL.pur (.int .u64 (wu64 (x4 * y6))) (some 42) ?_
 refine JL.mv (.int .u64 w9) ?_
 refine JL.pur (.int .u64 (wu64 ((wu64 (x4 * y6)) + w9))) (some 44) ?_
 refine JL.mv (.int .u64 w10) ?_
 refine JL.pur (.int .u64 (gshr .u64 w10 32)) (some 46) ?_
 refine JL.pur (.int .u64 (wu64 ((wu64 ((wu64 (x4 * y6)) + w9)) + (gshr .u64 w10 32)))) (some 47) ?_
 obtain ⟨hi11, ehi11, H0⟩ := lt_some H0
 refine JL.as' (k := .u64) hi11 ehi11 ?_
 refine JL.end_ ?_
 refine JQ.then_normal ?_
 refine JQ.sub [(0, .int .u64 x1), (1, .int .u64 y2), (4, .int .u64 hi11)] ?_
 refine J.seq ?_
 refine J.region ?_
 refine JL.mv (.int .u64 x1) ?_
 refine JL.mv (.int .u64 y2) ?_
 refine JL.pur (.int .u64 (wu64 (x1 * y2))) (some 50) ?_
 refine JL.as (.int .u64 (wu64 (x1 * y2))) ?_
 refine JL.end_ ?_
 refine JQ.then_normal ?_
 refine JQ.sub [(4, .int .u64 hi11), (5, .int .u64 (wu64 (x1 * y2)))] ?_
 refine J.ret ?_
 obtain rfl := Option.some.inj H0
 exact JQ.done' (rs := [.tmp 4, .tmp 5]) (vs := [.int .u64 hi11, .int .u64 (wu64 (x1 * y2))]) [] (.inr rfl) ⟨by kernel_rfl, by kernel_rfl, trivial⟩ (fun _ h => Heap.to h) ⟨rfl, rfl⟩

theorem frac_mul.ok (a1 : Int) (b2 : Int) (r : Wide) (H0 : frac_mul.f a1 b2 = some r) :
    Does Try.prog 77 [.int .u64 a1, .int .u64 b2].toArray [] [] false (fun v Δ => v = mv_104 r ∧ Δ = []) := by
 refine Does.body (vs := [.int .u64 a1, .int .u64 b2]) Try.func77 rfl trivial trivial fun w S => ?_
 unfold frac_mul.f at H0
 refine J.seq ?_
 refine J.region ?_
 refine JL.alloc (cl_104 zv_104) fun b3 => ?_
 refine JL.end_ ?_
 refine JQ.then_normal ?_
 refine J.seq ?_
 refine J.region ?_
 refine JL.mv (.int .u64 a1) ?_
 refine JL.mv (.int .u64 b2) ?_
 obtain ⟨t4, hc5, H0⟩ := bind_some H0
 refine JL.call [] [] [] (math_bits_Mul64.ok a1 b2 _ hc5) trivial ?_
 rintro _ _ ⟨rfl, rfl⟩
 refine JL.mv (.tuple #[.int .u64 t4.1, .int .u64 t4.2]) ?_
 refine JL.pur (.int .u64 t4.1) (some 11) ?_
 refine JL.pur (.int .u64 t4.2) (some 12) ?_
 refine JL.as (.int .u64 t4.1) ?_
 refine JL.as (.int .u64 t4.2) ?_
 refine JL.end_ ?_
 refine JQ.then_normal ?_
 refine JQ.sub [(4, .pointer (some ⟨b3, 0, none⟩)), (5, .int .u64 t4.1), (6, .int .u64 t4.2)] ?_
 refine J.seq ?_
 refine J.region ?_
 refine JL.mv (.int .u64 t4.1) ?_
 refine JL.mv (.int .u64 t4.2) ?_
 refine JL.pur (.agg #[.int .u64 t4.1, .int .u64 t4.2]) (some 15) ?_
 refine JL.store 0 b3 0 104 (cl_104 zv_104) [.int .u64 t4.1, .int .u64 t4.2] tySize_104 ?_
 refine JL.end_ ?_
 refine JQ.then_normal ?_
 refine JQ.sub [(4, .pointer (some ⟨b3, 0, none⟩))] ?_
 refine J.ret ?_
 obtain rfl := Option.some.inj H0
 exact JQ.done' (rs := [.cell 4 104]) (vs := [.agg #[.int .u64 t4.1, .int .u64 t4.2]]) [] (.inr rfl) ⟨⟨b3, 0, _, _, by kernel_rfl, by kernel_rfl, holds_box b3 104 [.int .u64 t4.1, .int .u64 t4.2], .inl ⟨tyAgg_104, tySize_104, rfl⟩⟩, trivial⟩ (fun _ h => Heap.to (Heap.pick [] (by decide) h)) ⟨rfl, rfl⟩

theorem cmp_isNaN__uint64.ok (x1 : Int) (r : Bool) (H0 : cmp_isNaN__uint64.f x1 = some r) :
    Does Try.prog 95 [.int .u64 x1].toArray [] [] false (fun v Δ => v = .bool r ∧ Δ = []) := by
 refine Does.body (vs := [.int .u64 x1]) Try.func95 rfl trivial trivial fun w S => ?_
 unfold cmp_isNaN__uint64.f at H0
 refine J.seq ?_
 refine J.region ?_
 refine JL.as (.bool false) ?_
 refine JL.end_ ?_
 refine JQ.then_normal ?_
 refine JQ.sub [(0, .int .u64 x1)] ?_
 refine J.seq ?_
 refine J.region ?_
 refine JL.mv (.int .u64 x1) ?_
 refine JL.mv (.int .u64 x1) ?_
 refine JL.pur (.bool (!decide (x1 = x1))) (some 5) ?_
 refine JL.as (.bool (!decide (x1 = x1))) ?_
 refine JL.end_ ?_
 refine JQ.then_normal ?_
 refine JQ.sub [(2, .bool (!decide (x1 = x1)))] ?_
 refine J.ret ?_
 obtain rfl := Option.some.inj H0
 exact JQ.done' (rs := [.tmp 2]) (vs := [.bool (!decide (x1 = x1))]) [] (.inr rfl) ⟨by kernel_rfl, trivial⟩ (fun _ h => Heap.to h) ⟨rfl, rfl⟩

theorem cmp_Compare__uint64.ok (x1 : Int) (y2 : Int) (r : Int) (H0 : cmp_Compare__uint64.f x1 y2 = some r) :
    Does Try.prog 92 [.int .u64 x1, .int .u64 y2].toArray [] [] false (fun v Δ => v = .int .i64 r ∧ Δ = []) := by
 refine Does.body (vs := [.int .u64 x1, .int .u64 y2]) Try.func92 rfl trivial trivial fun w S => ?_
 unfold cmp_Compare__uint64.f at H0
 refine J.seq ?_
 refine J.region ?_
 refine JL.as (.int .i64 0) ?_
 refine JL.end_ ?_
 refine JQ.then_normal ?_
 refine JQ.sub [(0, .int .u64 x1), (1, .int .u64 y2)] ?_
 refine J.seq ?_
 refine J.region ?_
 refine JL.mv (.int .u64 x1) ?_
 obtain ⟨t3, hc4, H0⟩ := bind_some H0
 refine JL.call [] [] [] (cmp_isNaN__uint64.ok x1 _ hc4) trivial ?_
 rintro _ _ ⟨rfl, rfl⟩
 refine JL.as (.bool t3) ?_
 refine JL.end_ ?_
 refine JQ.then_normal ?_
 refine JQ.sub [(0, .int .u64 x1), (1, .int .u64 y2), (5, .bool t3)] ?_
 refine J.seq ?_
 refine J.region ?_
 refine JL.mv (.int .u64 y2) ?_
 obtain ⟨t5, hc6, H0⟩ := bind_some H0
 refine JL.call [] [] [] (cmp_isNaN__uint64.ok y2 _ hc6) trivial ?_
 rintro _ _ ⟨rfl, rfl⟩
 refine JL.as (.bool t5) ?_
 refine JL.end_ ?_
 refine JQ.then_normal ?_
 refine JQ.sub [(0, .int .u64 x1), (1, .int .u64 y2), (5, .bool t3), (6, .bool t5)] ?_
 refine J.seq ?_
 refine J.seq ?_
 refine J.region ?_
 refine JL.mv (.bool t3) ?_
 refine JL.end_ ?_
 refine JQ.then_normal ?_
 refine JQ.sub [(0, .int .u64 x1), (1, .int .u64 y2), (6, .bool t5), (11, .bool t3)] ?_
 rcases ite_cases H0 with ⟨h7, H0⟩ | ⟨h7, H0⟩
 · refine J.cond_true h7 ?_
   refine J.seq ?_
   refine J.seq ?_
   refine J.region ?_
   refine JL.mv (.bool t5) ?_
   refine JL.end_ ?_
   refine JQ.then_normal ?_
   refine JQ.sub [(12, .bool t5)] ?_
   rcases ite_cases H0 with ⟨h8, H0⟩ | ⟨h8, H0⟩
   · refine J.cond_true h8 ?_
     refine J.seq ?_
     refine J.region ?_
     refine JL.as (.int .i64 0) ?_
     refine JL.end_ ?_
     refine JQ.then_normal ?_
     refine JQ.sub [(4, .int .i64 0)] ?_
     refine J.ret ?_
     refine JQ.then_ret ?_
     refine JQ.then_ret ?_
     obtain rfl := Option.some.inj H0
     exact JQ.done' (rs := [.tmp 4]) (vs := [.int .i64 0]) [] (.inr rfl) ⟨by kernel_rfl, trivial⟩ (fun _ h => Heap.to h) ⟨rfl, rfl⟩
   · refine J.cond_false h8 ?_
     refine J.skip ?_
     refine JQ.then_normal ?_
     refine JQ.sub [] ?_
     refine J.seq ?_
     refine J.region ?_
     refine JL.as (.int .i64 (-1)) ?_
     refine JL.end_ ?_
     refine JQ.then_normal ?_
     refine J.ret ?_
     refine JQ.then_ret ?_
     obtain rfl := Option.some.inj H0
     exact JQ.done' (rs := [.tmp 4]) (vs := [.int .i64 (-1)]) [] (.inr rfl) ⟨by kernel_rfl, trivial⟩ (fun _ h => Heap.to h) ⟨rfl, rfl⟩
 · refine J.cond_false h7 ?_
   refine J.skip ?_
   refine JQ.then_normal ?_
   refine JQ.sub [(0, .int .u64 x1), (1, .int .u64 y2), (6, .bool t5)] ?_
   refine J.seq ?_
   refine J.seq ?_
   refine J.region ?_
   refine JL.mv (.bool t5) ?_
   refine JL.end_ ?_
   refine JQ.then_normal ?_
   refine JQ.sub [(0, .int .u64 x1), (1, .int .u64 y2), (13, .bool t5)] ?_
   rcases ite_cases H0 with ⟨h9, H0⟩ | ⟨h9, H0⟩
   · refine J.cond_true h9 ?_
     refine J.seq ?_
     refine J.region ?_
     refine JL.as (.int .i64 1) ?_
     refine JL.end_ ?_
     refine JQ.then_normal ?_
     refine JQ.sub [(4, .int .i64 1)] ?_
     refine J.ret ?_
     refine JQ.then_ret ?_
     obtain rfl := Option.some.inj H0
     exact JQ.done' (rs := [.tmp 4]) (vs := [.int .i64 1]) [] (.inr rfl) ⟨by kernel_rfl, trivial⟩ (fun _ h => Heap.to h) ⟨rfl, rfl⟩
   · refine J.cond_false h9 ?_
     refine J.skip ?_
     refine JQ.then_normal ?_
     refine JQ.sub [(0, .int .u64 x1), (1, .int .u64 y2)] ?_
     refine J.seq ?_
     refine J.seq ?_
     refine J.region ?_
     refine JL.mv (.int .u64 x1) ?_
     refine JL.mv (.int .u64 y2) ?_
     refine JL.pur (.bool (decide (x1 < y2))) (some 16) ?_
     refine JL.end_ ?_
     refine JQ.then_normal ?_
     refine JQ.sub [(0, .int .u64 x1), (1, .int .u64 y2), (16, .bool (decide (x1 < y2)))] ?_
     rcases ite_cases H0 with ⟨h10, H0⟩ | ⟨h10, H0⟩
     · refine J.cond_true h10 ?_
       refine J.seq ?_
       refine J.region ?_
       refine JL.as (.int .i64 (-1)) ?_
       refine JL.end_ ?_
       refine JQ.then_normal ?_
       refine JQ.sub [(4, .int .i64 (-1))] ?_
       refine J.ret ?_
       refine JQ.then_ret ?_
       obtain rfl := Option.some.inj H0
       exact JQ.done' (rs := [.tmp 4]) (vs := [.int .i64 (-1)]) [] (.inr rfl) ⟨by kernel_rfl, trivial⟩ (fun _ h => Heap.to h) ⟨rfl, rfl⟩
     · refine J.cond_false h10 ?_
       refine J.skip ?_
       refine JQ.then_normal ?_
       refine JQ.sub [(0, .int .u64 x1), (1, .int .u64 y2)] ?_
       refine J.seq ?_
       refine J.seq ?_
       refine J.region ?_
       refine JL.mv (.int .u64 x1) ?_
       refine JL.mv (.int .u64 y2) ?_
       refine JL.pur (.bool (decide (y2 < x1))) (some 19) ?_
       refine JL.end_ ?_
       refine JQ.then_normal ?_
       refine JQ.sub [(19, .bool (decide (y2 < x1)))] ?_
       rcases ite_cases H0 with ⟨h11, H0⟩ | ⟨h11, H0⟩
       · refine J.cond_true h11 ?_
         refine J.seq ?_
         refine J.region ?_
         refine JL.as (.int .i64 1) ?_
         refine JL.end_ ?_
         refine JQ.then_normal ?_
         refine JQ.sub [(4, .int .i64 1)] ?_
         refine J.ret ?_
         refine JQ.then_ret ?_
         obtain rfl := Option.some.inj H0
         exact JQ.done' (rs := [.tmp 4]) (vs := [.int .i64 1]) [] (.inr rfl) ⟨by kernel_rfl, trivial⟩ (fun _ h => Heap.to h) ⟨rfl, rfl⟩
       · refine J.cond_false h11 ?_
         refine J.skip ?_
         refine JQ.then_normal ?_
         refine JQ.sub [] ?_
         refine J.seq ?_
         refine J.region ?_
         refine JL.as (.int .i64 0) ?_
         refine JL.end_ ?_
         refine JQ.then_normal ?_
         refine J.ret ?_
         obtain rfl := Option.some.inj H0
         exact JQ.done' (rs := [.tmp 4]) (vs := [.int .i64 0]) [] (.inr rfl) ⟨by kernel_rfl, trivial⟩ (fun _ h => Heap.to h) ⟨rfl, rfl⟩

theorem cmp_Or__int.ok (vals1 : (List Int)) (Aa2 : Option Addr) (c3 : Nat) (r : Int) (H0 : cmp_Or__int.f vals1 = some r) :
    Does Try.prog 91 [.slice Aa2 vals1.length c3].toArray [At.rd Aa2 c3 ((flInt .i64).kd) vals1 true] [] false (fun v Δ => v = .int .i64 r ∧ Δ = []) := by
 refine Does.body (vs := [.slice Aa2 vals1.length c3]) Try.func91 rfl ⟨.inl rfl, trivial⟩ trivial fun w S => ?_
 unfold cmp_Or__int.f at H0
 refine J.seq ?_
 refine J.region ?_
 refine JL.as (.int .i64 0) ?_
 refine JL.end_ ?_
 refine JQ.then_normal ?_
 refine JQ.sub [(0, .slice Aa2 vals1.length c3)] ?_
 refine J.seq ?_
 refine J.region ?_
 refine JL.as (.int .i64 0) ?_
 refine JL.end_ ?_
 refine JQ.then_normal ?_
 refine J.seq ?_
 refine J.seq ?_
 refine J.region ?_
 refine JL.mv (.slice Aa2 vals1.length c3) ?_
 refine JL.pur (.int .i64 (vals1.length : Int)) (some 7) ?_
 refine JL.mv (.int .i64 0) ?_
 refine JL.end_ ?_
 refine JQ.then_normal ?_
 refine JQ.sub [(3, .int .i64 0), (6, .slice Aa2 vals1.length c3), (7, .int .i64 (vals1.length : Int)), (8, .int .i64 0)] ?_
 obtain ⟨o1, hit, H0⟩ := bind_some H0
 refine J.loop (σ := Int) (τ := Unit) (G := Unit) (G' := Unit) _ o1 (fun s g => [(3, .int .i64 0), (6, .slice Aa2 vals1.length c3), (7, .int .i64 (vals1.length : Int)), (8, .int .i64 s)]) (fun s g => [At.rd Aa2 c3 ((flInt .i64).kd) vals1 true]) (fun t => cmp_Or__int.k2 = some r) (fun t g => [(3, .int .i64 0)]) (fun t g => []) 0 () hit (fun _ h => Heap.to h) ?_ ?_
 · clear hit
   rintro x19 ⟨⟩ st1 H1 hb1 hr1
   replace H1 : cmp_Or__int.s1 vals1 x19 = some st1 := H1
   unfold cmp_Or__int.s1 at H1
   refine JQ.sub [(3, .int .i64 0), (6, .slice Aa2 vals1.length c3), (7, .int .i64 (vals1.length : Int)), (8, .int .i64 x19)] ?_
   refine JQ.turn (Δ' := [At.rd Aa2 c3 ((flInt .i64).kd) vals1 true]) (fun _ h => h.to) ?_
   refine J.seq ?_
   refine J.region ?_
   refine JL.pur (.bool (decide (x19 < (vals1.length : Int)))) (some 9) ?_
   refine JL.end_ ?_
   refine JQ.then_normal ?_
   refine J.seq ?_
   rcases ite_cases H1 with ⟨h26, H1⟩ | ⟨h26, H1⟩
   · refine J.cond_true h26 ?_
     refine J.skip ?_
     refine JQ.then_normal ?_
     refine JQ.sub [(3, .int .i64 0), (6, .slice Aa2 vals1.length c3), (7, .int .i64 (vals1.length : Int)), (8, .int .i64 x19)] ?_
     refine J.seq ?_
     refine J.block ?_
     refine J.seq ?_
     refine J.region ?_
     obtain ⟨⟨h27, h28⟩, H1⟩ := ite_must H1
     refine JL.ixAddr 0 1 c3 .i64 (elems_rd Aa2 c3 ((flInt .i64).kd) vals1 true) Try.underlying22 tySize_3 h27 h28 fun g29 o30 hA => ?_
     subst hA
     refine JL.val (.int .i64 (ix vals1 x19)) (some 11) (gives_loadEl (f := (flInt .i64)) 0 0 x19 (elems_rd (some ⟨g29, o30, none⟩) c3 ((flInt .i64).kd) vals1 true) h27 h28 tySize_3 (.inr ⟨tyAgg_3, rfl, rfl⟩)) ?_
     refine JL.as (.int .i64 (ix vals1 x19)) ?_
     refine JL.end_ ?_
     refine JQ.then_normal ?_
     refine JQ.sub [(3, .int .i64 0), (5, .int .i64 (ix vals1 x19)), (6, .slice (some ⟨g29, o30, none⟩) vals1.length c3), (7, .int .i64 (vals1.length : Int)), (8, .int .i64 x19)] ?_
     refine J.seq ?_
     refine J.region ?_
     refine JL.mv (.int .i64 (ix vals1 x19)) ?_
     refine JL.mv (.int .i64 0) ?_
     refine JL.pur (.bool (!decide ((ix vals1 x19) = 0))) (some 14) ?_
     refine JL.end_ ?_
     refine JQ.then_normal ?_
     refine JQ.sub [(3, .int .i64 0), (5, .int .i64 (ix vals1 x19)), (6, .slice (some ⟨g29, o30, none⟩) vals1.length c3), (7, .int .i64 (vals1.length : Int)), (8, .int .i64 x19), (14, .bool (!decide ((ix vals1 x19) = 0)))] ?_
     rcases ite_cases H1 with ⟨h31, H1⟩ | ⟨h31, H1⟩
     · refine J.cond_true h31 ?_
       refine J.seq ?_
       refine J.region ?_
       refine JL.mv (.int .i64 (ix vals1 x19)) ?_
       refine JL.as (.int .i64 (ix vals1 x19)) ?_
       refine JL.end_ ?_
       refine JQ.then_normal ?_
       refine JQ.sub [(2, .int .i64 (ix vals1 x19))] ?_
       refine JQ.mask [] [false] ?_
       refine J.ret ?_
       refine JQ.blk_ret ?_
       refine JQ.then_ret ?_
       refine JQ.then_ret ?_
       refine JQ.blk_ret ?_
       refine JQ.met_ret ?_
       refine JQ.then_ret ?_
       rw [hr1 _ (Option.some.inj H1).symm, fin_ret] at H0
       obtain rfl := Option.some.inj H0
       exact JQ.done' (rs := [.tmp 2]) (vs := [.int .i64 (ix vals1 x19)]) [] (.inr rfl) ⟨by kernel_rfl, trivial⟩ (fun _ h => Heap.to h) ⟨rfl, rfl⟩
     · refine J.cond_false h31 ?_
       refine J.skip ?_
       refine JQ.blk_normal ?_
       refine JQ.then_normal ?_
       refine JQ.sub [(3, .int .i64 0), (6, .slice (some ⟨g29, o30, none⟩) vals1.length c3), (7, .int .i64 (vals1.length : Int)), (8, .int .i64 x19)] ?_
       refine J.region ?_
       refine JL.pur (.int .i64 (w64 (x19 + 1))) (some 16) ?_
       refine JL.mv (.int .i64 (w64 (x19 + 1))) ?_
       refine JL.end_ ?_
       refine JQ.then_normal ?_
       exact JQ.again (w64 (x19 + 1)) () (Option.some.inj H1).symm (fun _ h => Heap.to h)
   · refine J.cond_false h26 ?_
     refine J.exit ?_
     refine JQ.then_exit ?_
     refine JQ.then_exit ?_
     refine JQ.blk_exit ?_
     rw [hb1 _ (Option.some.inj H1).symm, fin_brk] at H0
     exact JQ.met () () H0 (fun _ h => Heap.to (Heap.pick [] (by decide) h))
 · clear hit H0
   rintro ⟨⟩ ⟨⟩ H0
   replace H0 : cmp_Or__int.k2 = some r := H0
   unfold cmp_Or__int.k2 at H0
   refine JQ.sub [(3, .int .i64 0)] ?_
   refine JQ.turn (Δ' := []) (fun _ h => h.to) ?_
   refine JQ.then_normal ?_
   refine J.seq ?_
   refine J.region ?_
   refine JL.mv (.int .i64 0) ?_
   refine JL.as (.int .i64 0) ?_
   refine JL.end_ ?_
   refine JQ.then_normal ?_
   refine JQ.sub [(2, .int .i64 0)] ?_
   refine J.ret ?_
   obtain rfl := Option.some.inj H0
   exact JQ.done' (rs := [.tmp 2]) (vs := [.int .i64 0]) [] (.inr rfl) ⟨by kernel_rfl, trivial⟩ (fun _ h => Heap.to h) ⟨rfl, rfl⟩

theorem frac_wide_cmp.ok (w1 : Wide) (v2 : Wide) (r : Int) (H0 : frac_wide_cmp.f w1 v2 = some r) :
    Does Try.prog 78 [mv_104 w1, mv_104 v2].toArray [] [] false (fun v Δ => v = .int .i64 r ∧ Δ = []) := by
 refine Does.body (vs := [mv_104 w1, mv_104 v2]) Try.func78 rfl trivial trivial fun w S => ?_
 unfold frac_wide_cmp.f at H0
 refine J.seq ?_
 refine J.region ?_
 refine JL.box (cl_104 w1) fun b3 => ?_
 refine JL.box (cl_104 v2) fun b4 => ?_
 refine JL.as (.int .i64 0) ?_
 refine JL.end_ ?_
 refine JQ.then_normal ?_
 refine JQ.sub [(2, .pointer (some ⟨b3, 0, none⟩)), (3, .pointer (some ⟨b4, 0, none⟩))] ?_
 refine J.seq ?_
 refine J.drawT 10 ?_
 refine QL.pur (.pointer (some ⟨b3, 0, none⟩)) (some 5) ?_
 refine QL.val (.int .u64 w1.hi) (some 6) (yields_load_box 0 0 (holds_box b3 104 (cl_104 w1)) tyAgg_68) ?_
 refine QL.pur (.pointer (some ⟨b4, 0, none⟩)) (some 7) ?_
 refine QL.val (.int .u64 v2.hi) (some 8) (yields_load_box 1 0 (holds_box b4 104 (cl_104 v2)) tyAgg_68) ?_
 obtain ⟨t5, hc6, H0⟩ := bind_some H0
 refine QL.call [] [] (cmp_Compare__uint64.ok w1.hi v2.hi _ hc6) trivial ?_
 refine QL.pur (.pointer (some ⟨b3, 1, none⟩)) (some 10) ?_
 refine QL.val (.int .u64 w1.lo) (some 11) (yields_load_box 0 1 (holds_box b3 104 (cl_104 w1)) tyAgg_68) ?_
 refine QL.pur (.pointer (some ⟨b4, 1, none⟩)) (some 12) ?_
 refine QL.val (.int .u64 v2.lo) (some 13) (yields_load_box 1 1 (holds_box b4 104 (cl_104 v2)) tyAgg_68) ?_
 obtain ⟨t7, hc8, H0⟩ := bind_some H0
 refine QL.call [] [] (cmp_Compare__uint64.ok w1.lo v2.lo _ hc8) trivial ?_
 refine QL.nil ?_
 refine JA.nil ?_
 refine JL.buildSl 3 ((flInt .i64).kd) (([t5, t7] : List Int) : List Int) [.int .i64 t5, .int .i64 t7] false (closes_fl rfl) fun b9 => ?_
 obtain ⟨t10, hc11, H0⟩ := bind_some H0
 refine JL.call [] [] [] (cmp_Or__int.ok ([t5, t7] : List Int) (some ⟨b9, 0, none⟩) 2 _ hc11) ⟨pre_view 2 (view_row (some ⟨b9, 0, none⟩) 2 3 ((flInt .i64).kd) ([t5, t7] : List Int) false true), trivial⟩ ?_
 rintro _ _ ⟨rfl, rfl⟩
 refine JL.as (.int .i64 t10) ?_
 refine JL.end_ ?_
 refine JQ.then_normal ?_
 refine JQ.sub [(4, .int .i64 t10)] ?_
 refine JQ.mask [] [false, false, false] ?_
 refine J.ret ?_
 obtain rfl := Option.some.inj H0
 exact JQ.done' (rs := [.tmp 4]) (vs := [.int .i64 t10]) [] (.inr rfl) ⟨by kernel_rfl, trivial⟩ (fun _ h => Heap.to h) ⟨rfl, rfl⟩

theorem cmp_isNaN__int64.ok (x1 : Int) (r : Bool) (H0 : cmp_isNaN__int64.f x1 = some r) :
    Does Try.prog 93 [.int .i64 x1].toArray [] [] false (fun v Δ => v = .bool r ∧ Δ = []) := by
 refine Does.body (vs := [.int .i64 x1]) Try.func93 rfl trivial trivial fun w S => ?_
 unfold cmp_isNaN__int64.f at H0
 refine J.seq ?_
 refine J.region ?_
 refine JL.as (.bool false) ?_
 refine JL.end_ ?_
 refine JQ.then_normal ?_
 refine JQ.sub [(0, .int .i64 x1)] ?_
 refine J.seq ?_
 refine J.region ?_
 refine JL.mv (.int .i64 x1) ?_
 refine JL.mv (.int .i64 x1) ?_
 refine JL.pur (.bool (!decide (x1 = x1))) (some 5) ?_
 refine JL.as (.bool (!decide (x1 = x1))) ?_
 refine JL.end_ ?_
 refine JQ.then_normal ?_
 refine JQ.sub [(2, .bool (!decide (x1 = x1)))] ?_
 refine J.ret ?_
 obtain rfl := Option.some.inj H0
 exact JQ.done' (rs := [.tmp 2]) (vs := [.bool (!decide (x1 = x1))]) [] (.inr rfl) ⟨by kernel_rfl, trivial⟩ (fun _ h => Heap.to h) ⟨rfl, rfl⟩

theorem cmp_Compare__int64.ok (x1 : Int) (y2 : Int) (r : Int) (H0 : cmp_Compare__int64.f x1 y2 = some r) :
    Does Try.prog 79 [.int .i64 x1, .int .i64 y2].toArray [] [] false (fun v Δ => v = .int .i64 r ∧ Δ = []) := by
 refine Does.body (vs := [.int .i64 x1, .int .i64 y2]) Try.func79 rfl trivial trivial fun w S => ?_
 unfold cmp_Compare__int64.f at H0
 refine J.seq ?_
 refine J.region ?_
 refine JL.as (.int .i64 0) ?_
 refine JL.end_ ?_
 refine JQ.then_normal ?_
 refine JQ.sub [(0, .int .i64 x1), (1, .int .i64 y2)] ?_
 refine J.seq ?_
 refine J.region ?_
 refine JL.mv (.int .i64 x1) ?_
 obtain ⟨t3, hc4, H0⟩ := bind_some H0
 refine JL.call [] [] [] (cmp_isNaN__int64.ok x1 _ hc4) trivial ?_
 rintro _ _ ⟨rfl, rfl⟩
 refine JL.as (.bool t3) ?_
 refine JL.end_ ?_
 refine JQ.then_normal ?_
 refine JQ.sub [(0, .int .i64 x1), (1, .int .i64 y2), (5, .bool t3)] ?_
 refine J.seq ?_
 refine J.region ?_
 refine JL.mv (.int .i64 y2) ?_
 obtain ⟨t5, hc6, H0⟩ := bind_some H0
 refine JL.call [] [] [] (cmp_isNaN__int64.ok y2 _ hc6) trivial ?_
 rintro _ _ ⟨rfl, rfl⟩
 refine JL.as (.bool t5) ?_
 refine JL.end_ ?_
 refine JQ.then_normal ?_
 refine JQ.sub [(0, .int .i64 x1), (1, .int .i64 y2), (5, .bool t3), (6, .bool t5)] ?_
 refine J.seq ?_
 refine J.seq ?_
 refine J.region ?_
 refine JL.mv (.bool t3) ?_
 refine JL.end_ ?_
 refine JQ.then_normal ?_
 refine JQ.sub [(0, .int .i64 x1), (1, .int .i64 y2), (6, .bool t5), (11, .bool t3)] ?_
 rcases ite_cases H0 with ⟨h7, H0⟩ | ⟨h7, H0⟩
 · refine J.cond_true h7 ?_
   refine J.seq ?_
   refine J.seq ?_
   refine J.region ?_
   refine JL.mv (.bool t5) ?_
   refine JL.end_ ?_
   refine JQ.then_normal ?_
   refine JQ.sub [(12, .bool t5)] ?_
   rcases ite_cases H0 with ⟨h8, H0⟩ | ⟨h8, H0⟩
   · refine J.cond_true h8 ?_
     refine J.seq ?_
     refine J.region ?_
     refine JL.as (.int .i64 0) ?_
     refine JL.end_ ?_
     refine JQ.then_normal ?_
     refine JQ.sub [(4, .int .i64 0)] ?_
     refine J.ret ?_
     refine JQ.then_ret ?_
     refine JQ.then_ret ?_
     obtain rfl := Option.some.inj H0
     exact JQ.done' (rs := [.tmp 4]) (vs := [.int .i64 0]) [] (.inr rfl) ⟨by kernel_rfl, trivial⟩ (fun _ h => Heap.to h) ⟨rfl, rfl⟩
   · refine J.cond_false h8 ?_
     refine J.skip ?_
     refine JQ.then_normal ?_
     refine JQ.sub [] ?_
     refine J.seq ?_
     refine J.region ?_
     refine JL.as (.int .i64 (-1)) ?_
     refine JL.end_ ?_
     refine JQ.then_normal ?_
     refine J.ret ?_
     refine JQ.then_ret ?_
     obtain rfl := Option.some.inj H0
     exact JQ.done' (rs := [.tmp 4]) (vs := [.int .i64 (-1)]) [] (.inr rfl) ⟨by kernel_rfl, trivial⟩ (fun _ h => Heap.to h) ⟨rfl, rfl⟩
 · refine J.cond_false h7 ?_
   refine J.skip ?_
   refine JQ.then_normal ?_
   refine JQ.sub [(0, .int .i64 x1), (1, .int .i64 y2), (6, .bool t5)] ?_
   refine J.seq ?_
   refine J.seq ?_
   refine J.region ?_
   refine JL.mv (.bool t5) ?_
   refine JL.end_ ?_
   refine JQ.then_normal ?_
   refine JQ.sub [(0, .int .i64 x1), (1, .int .i64 y2), (13, .bool t5)] ?_
   rcases ite_cases H0 with ⟨h9, H0⟩ | ⟨h9, H0⟩
   · refine J.cond_true h9 ?_
     refine J.seq ?_
     refine J.region ?_
     refine JL.as (.int .i64 1) ?_
     refine JL.end_ ?_
     refine JQ.then_normal ?_
     refine JQ.sub [(4, .int .i64 1)] ?_
     refine J.ret ?_
     refine JQ.then_ret ?_
     obtain rfl := Option.some.inj H0
     exact JQ.done' (rs := [.tmp 4]) (vs := [.int .i64 1]) [] (.inr rfl) ⟨by kernel_rfl, trivial⟩ (fun _ h => Heap.to h) ⟨rfl, rfl⟩
   · refine J.cond_false h9 ?_
     refine J.skip ?_
     refine JQ.then_normal ?_
     refine JQ.sub [(0, .int .i64 x1), (1, .int .i64 y2)] ?_
     refine J.seq ?_
     refine J.seq ?_
     refine J.region ?_
     refine JL.mv (.int .i64 x1) ?_
     refine JL.mv (.int .i64 y2) ?_
     refine JL.pur (.bool (decide (x1 < y2))) (some 16) ?_
     refine JL.end_ ?_
     refine JQ.then_normal ?_
     refine JQ.sub [(0, .int .i64 x1), (1, .int .i64 y2), (16, .bool (decide (x1 < y2)))] ?_
     rcases ite_cases H0 with ⟨h10, H0⟩ | ⟨h10, H0⟩
     · refine J.cond_true h10 ?_
       refine J.seq ?_
       refine J.region ?_
       refine JL.as (.int .i64 (-1)) ?_
       refine JL.end_ ?_
       refine JQ.then_normal ?_
       refine JQ.sub [(4, .int .i64 (-1))] ?_
       refine J.ret ?_
       refine JQ.then_ret ?_
       obtain rfl := Option.some.inj H0
       exact JQ.done' (rs := [.tmp 4]) (vs := [.int .i64 (-1)]) [] (.inr rfl) ⟨by kernel_rfl, trivial⟩ (fun _ h => Heap.to h) ⟨rfl, rfl⟩
     · refine J.cond_false h10 ?_
       refine J.skip ?_
       refine JQ.then_normal ?_
       refine JQ.sub [(0, .int .i64 x1), (1, .int .i64 y2)] ?_
       refine J.seq ?_
       refine J.seq ?_
       refine J.region ?_
       refine JL.mv (.int .i64 x1) ?_
       refine JL.mv (.int .i64 y2) ?_
       refine JL.pur (.bool (decide (y2 < x1))) (some 19) ?_
       refine JL.end_ ?_
       refine JQ.then_normal ?_
       refine JQ.sub [(19, .bool (decide (y2 < x1)))] ?_
       rcases ite_cases H0 with ⟨h11, H0⟩ | ⟨h11, H0⟩
       · refine J.cond_true h11 ?_
         refine J.seq ?_
         refine J.region ?_
         refine JL.as (.int .i64 1) ?_
         refine JL.end_ ?_
         refine JQ.then_normal ?_
         refine JQ.sub [(4, .int .i64 1)] ?_
         refine J.ret ?_
         refine JQ.then_ret ?_
         obtain rfl := Option.some.inj H0
         exact JQ.done' (rs := [.tmp 4]) (vs := [.int .i64 1]) [] (.inr rfl) ⟨by kernel_rfl, trivial⟩ (fun _ h => Heap.to h) ⟨rfl, rfl⟩
       · refine J.cond_false h11 ?_
         refine J.skip ?_
         refine JQ.then_normal ?_
         refine JQ.sub [] ?_
         refine J.seq ?_
         refine J.region ?_
         refine JL.as (.int .i64 0) ?_
         refine JL.end_ ?_
         refine JQ.then_normal ?_
         refine J.ret ?_
         obtain rfl := Option.some.inj H0
         exact JQ.done' (rs := [.tmp 4]) (vs := [.int .i64 0]) [] (.inr rfl) ⟨by kernel_rfl, trivial⟩ (fun _ h => Heap.to h) ⟨rfl, rfl⟩

theorem frac_Cmp.ok (a1 : Frac) (b2 : Frac) (r : (Int × Int)) (H0 : frac_Cmp.f a1 b2 = some r) :
    Does Try.prog 59 [mv_51 a1, mv_51 b2].toArray [] [] false (fun v Δ => v = .tuple #[.int .i64 r.1, .int .i64 r.2] ∧ Δ = []) := by
 refine Does.body (vs := [mv_51 a1, mv_51 b2]) Try.func59 rfl trivial trivial fun w S => ?_
 unfold frac_Cmp.f at H0
 refine J.seq ?_
 refine J.region ?_
 refine JL.box (cl_51 a1) fun b3 => ?_
 refine JL.box (cl_51 b2) fun b4 => ?_
 refine JL.as (.int .i64 0) ?_
 refine JL.as (.int .i64 0) ?_
 refine JL.end_ ?_
 refine JQ.then_normal ?_
 refine JQ.sub [(2, .pointer (some ⟨b3, 0, none⟩)), (3, .pointer (some ⟨b4, 0, none⟩))] ?_
 refine J.seq ?_
 refine J.seq ?_
 refine J.region ?_
 refine JL.val (mv_51 a1) (some 8) (yields_load_boxes 0 0 (cl_51 a1) (holds_box b3 51 (cl_51 a1)) tyAgg_51 tySize_51) ?_
 refine JL.val (mv_51 b2) (some 9) (yields_load_boxes 1 0 (cl_51 b2) (holds_box b4 51 (cl_51 b2)) tyAgg_51 tySize_51) ?_
 obtain ⟨t5, hc6, H0⟩ := bind_some H0
 refine JL.call [] [] [] (frac_both.ok a1 b2 _ hc6) trivial ?_
 rintro _ _ ⟨rfl, rfl⟩
 refine JL.as (.int .i64 t5) ?_
 refine JL.end_ ?_
 refine JQ.then_normal ?_
 refine JQ.sub [(2, .pointer (some ⟨b3, 0, none⟩)), (3, .pointer (some ⟨b4, 0, none⟩)), (6, .int .i64 t5)] ?_
 refine J.seq ?_
 refine J.region ?_
 refine JL.mv (.int .i64 t5) ?_
 refine JL.pur (.bool (!decide (t5 = 0))) (some 12) ?_
 refine JL.end_ ?_
 refine JQ.then_normal ?_
 refine JQ.sub [(2, .pointer (some ⟨b3, 0, none⟩)), (3, .pointer (some ⟨b4, 0, none⟩)), (6, .int .i64 t5), (12, .bool (!decide (t5 = 0)))] ?_
 rcases ite_cases H0 with ⟨h7, H0⟩ | ⟨h7, H0⟩
 · refine J.cond_true h7 ?_
   refine J.seq ?_
   refine J.region ?_
   refine JL.mv (.int .i64 t5) ?_
   refine JL.as (.int .i64 0) ?_
   refine JL.as (.int .i64 t5) ?_
   refine JL.end_ ?_
   refine JQ.then_normal ?_
   refine JQ.sub [(4, .int .i64 0), (5, .int .i64 t5)] ?_
   refine JQ.mask [] [false, false] ?_
   refine J.ret ?_
   refine JQ.then_ret ?_
   obtain rfl := Option.some.inj H0
   exact JQ.done' (rs := [.tmp 4, .tmp 5]) (vs := [.int .i64 0, .int .i64 t5]) [] (.inr rfl) ⟨by kernel_rfl, by kernel_rfl, trivial⟩ (fun _ h => Heap.to h) ⟨rfl, rfl⟩
 · refine J.cond_false h7 ?_
   refine J.skip ?_
   refine JQ.then_normal ?_
   refine JQ.sub [(2, .pointer (some ⟨b3, 0, none⟩)), (3, .pointer (some ⟨b4, 0, none⟩))] ?_
   refine J.seq ?_
   refine J.draw ?_
   refine QL.pur (.pointer (some ⟨b3, 0, none⟩)) (some 14) ?_
   refine QL.val (.int .i64 a1.Num) (some 15) (yields_load_box 0 0 (holds_box b3 51 (cl_51 a1)) tyAgg_2) ?_
   obtain ⟨t8, hc9, H0⟩ := bind_some H0
   refine QL.call [] [] (frac_abs.ok a1.Num _ hc9) trivial ?_
   refine QL.pur (.pointer (some ⟨b4, 1, none⟩)) (some 17) ?_
   refine QL.val (.int .i64 b2.Den) (some 18) (yields_load_box 1 1 (holds_box b4 51 (cl_51 b2)) tyAgg_2) ?_
   refine QL.pur (.int .u64 (wu64 b2.Den)) (some 19) ?_
   obtain ⟨t10, hc11, H0⟩ := bind_some H0
   refine QL.call [] [] (frac_mul.ok t8 (wu64 b2.Den) _ hc11) trivial ?_
   refine QL.pur (.pointer (some ⟨b4, 0, none⟩)) (some 21) ?_
   refine QL.val (.int .i64 b2.Num) (some 22) (yields_load_box 1 0 (holds_box b4 51 (cl_51 b2)) tyAgg_2) ?_
   obtain ⟨t12, hc13, H0⟩ := bind_some H0
   refine QL.call [] [] (frac_abs.ok b2.Num _ hc13) trivial ?_
   refine QL.pur (.pointer (some ⟨b3, 1, none⟩)) (some 24) ?_
   refine QL.val (.int .i64 a1.Den) (some 25) (yields_load_box 0 1 (holds_box b3 51 (cl_51 a1)) tyAgg_2) ?_
   refine QL.pur (.int .u64 (wu64 a1.Den)) (some 26) ?_
   obtain ⟨t14, hc15, H0⟩ := bind_some H0
   refine QL.call [] [] (frac_mul.ok t12 (wu64 a1.Den) _ hc15) trivial ?_
   obtain ⟨t16, hc17, H0⟩ := bind_some H0
   refine QL.call [] [] (frac_wide_cmp.ok t10 t14 _ hc17) trivial ?_
   refine QL.as (.int .i64 t16) ?_
   refine QL.nil ?_
   refine JA.nil ?_
   refine JQ.then_normal ?_
   refine JQ.sub [(2, .pointer (some ⟨b3, 0, none⟩)), (3, .pointer (some ⟨b4, 0, none⟩)), (7, .int .i64 t16)] ?_
   refine J.seq ?_
   refine J.block ?_
   refine J.join (T := Bool) (G := Unit) (fun t => frac_Cmp.k1 a1 b2 t16 t = some r) (fun t g => [(2, .pointer (some ⟨b3, 0, none⟩)), (3, .pointer (some ⟨b4, 0, none⟩)), (7, .int .i64 t16), (29, .bool t)]) (fun t g => [At.box b3 51 (cl_51 a1), At.box b4 51 (cl_51 b2)]) ?_ ?_
   · refine J.region ?_
     refine JL.pur (.pointer (some ⟨b3, 0, none⟩)) (some 30) ?_
     refine JL.val (.int .i64 a1.Num) (some 31) (yields_load_box 0 0 (holds_box b3 51 (cl_51 a1)) tyAgg_2) ?_
     refine JL.pur (.bool (decide (a1.Num < 0))) (some 32) ?_
     refine JL.mv (.bool (decide (a1.Num < 0))) ?_
     rcases ite_cases H0 with ⟨h27, H0⟩ | ⟨h27, H0⟩
     · refine JL.on 3 33 h27 ?_
       refine JL.pur (.pointer (some ⟨b4, 0, none⟩)) (some 34) ?_
       refine JL.on 3 33 h27 ?_
       refine JL.val (.int .i64 b2.Num) (some 35) (yields_load_box 1 0 (holds_box b4 51 (cl_51 b2)) tyAgg_2) ?_
       refine JL.on 3 33 h27 ?_
       refine JL.pur (.bool (decide (b2.Num < 0))) (some 36) ?_
       refine JL.val (.bool (decide (b2.Num < 0))) (some 37) (gives_pickT h27) ?_
       refine JL.as (.bool (decide (b2.Num < 0))) ?_
       refine JL.end_ ?_
       refine JQ.then_normal ?_
       exact JQ.meet (decide (b2.Num < 0)) () H0 (fun _ h => Heap.to h)
     · refine JL.off 3 33 true (some 34) h27 ?_
       refine JL.off 3 33 true (some 35) h27 ?_
       refine JL.off 3 33 true (some 36) h27 ?_
       refine JL.val (.bool false) (some 37) (gives_pickF h27) ?_
       refine JL.as (.bool false) ?_
       refine JL.end_ ?_
       refine JQ.then_normal ?_
       exact JQ.meet false () H0 (fun _ h => Heap.to h)
   · clear H0
     rintro x19 ⟨⟩ H0
     replace H0 : frac_Cmp.k1 a1 b2 t16 x19 = some r := H0
     unfold frac_Cmp.k1 at H0
     refine JQ.sub [(2, .pointer (some ⟨b3, 0, none⟩)), (3, .pointer (some ⟨b4, 0, none⟩)), (7, .int .i64 t16), (29, .bool x19)] ?_
     refine JQ.turn (Δ' := [At.box b3 51 (cl_51 a1), At.box b4 51 (cl_51 b2)]) (fun _ h => h.to) ?_
     rcases ite_cases H0 with ⟨h20, H0⟩ | ⟨h20, H0⟩
     · refine J.cond_true h20 ?_
       refine J.seq ?_
       refine J.region ?_
       refine JL.mv (.int .i64 t16) ?_
       refine JL.pur (.int .i64 (w64 (0 - t16))) (some 39) ?_
       refine JL.as (.int .i64 (w64 (0 - t16))) ?_
       refine JL.as (.int .i64 0) ?_
       refine JL.end_ ?_
       refine JQ.then_normal ?_
       refine JQ.sub [(4, .int .i64 (w64 (0 - t16))), (5, .int .i64 0)] ?_
       refine JQ.mask [] [false, false] ?_
       refine J.ret ?_
       refine JQ.blk_ret ?_
       refine JQ.then_ret ?_
       obtain rfl := Option.some.inj H0
       exact JQ.done' (rs := [.tmp 4, .tmp 5]) (vs := [.int .i64 (w64 (0 - t16)), .int .i64 0]) [] (.inr rfl) ⟨by kernel_rfl, by kernel_rfl, trivial⟩ (fun _ h => Heap.to h) ⟨rfl, rfl⟩
     · refine J.cond_false h20 ?_
       refine J.join (T := Bool) (G := Unit) (fun t => frac_Cmp.k2 a1 b2 t16 t = some r) (fun t g => [(2, .pointer (some ⟨b3, 0, none⟩)), (3, .pointer (some ⟨b4, 0, none⟩)), (7, .int .i64 t16), (40, .bool t)]) (fun t g => [At.box b3 51 (cl_51 a1), At.box b4 51 (cl_51 b2)]) ?_ ?_
       · refine J.region ?_
         refine JL.pur (.pointer (some ⟨b3, 0, none⟩)) (some 41) ?_
         refine JL.val (.int .i64 a1.Num) (some 42) (yields_load_box 0 0 (holds_box b3 51 (cl_51 a1)) tyAgg_2) ?_
         refine JL.pur (.bool (decide (a1.Num < 0))) (some 43) ?_
         refine JL.mv (.bool (decide (a1.Num < 0))) ?_
         rcases ite_cases H0 with ⟨h26, H0⟩ | ⟨h26, H0⟩
         · refine JL.off 3 44 false (some 45) h26 ?_
           refine JL.off 3 44 false (some 46) h26 ?_
           refine JL.off 3 44 false (some 47) h26 ?_
           refine JL.val (.bool true) (some 48) (gives_pickT h26) ?_
           refine JL.as (.bool true) ?_
           refine JL.end_ ?_
           refine JQ.then_normal ?_
           exact JQ.meet true () H0 (fun _ h => Heap.to h)
         · refine JL.on 3 44 h26 ?_
           refine JL.pur (.pointer (some ⟨b4, 0, none⟩)) (some 45) ?_
           refine JL.on 3 44 h26 ?_
           refine JL.val (.int .i64 b2.Num) (some 46) (yields_load_box 1 0 (holds_box b4 51 (cl_51 b2)) tyAgg_2) ?_
           refine JL.on 3 44 h26 ?_
           refine JL.pur (.bool (decide (b2.Num < 0))) (some 47) ?_
           refine JL.val (.bool (decide (b2.Num < 0))) (some 48) (gives_pickF h26) ?_
           refine JL.as (.bool (decide (b2.Num < 0))) ?_
           refine JL.end_ ?_
           refine JQ.then_normal ?_
           exact JQ.meet (decide (b2.Num < 0)) () H0 (fun _ h => Heap.to h)
       · clear H0
         rintro x22 ⟨⟩ H0
         replace H0 : frac_Cmp.k2 a1 b2 t16 x22 = some r := H0
         unfold frac_Cmp.k2 at H0
         refine JQ.sub [(2, .pointer (some ⟨b3, 0, none⟩)), (3, .pointer (some ⟨b4, 0, none⟩)), (7, .int .i64 t16), (40, .bool x22)] ?_
         refine JQ.turn (Δ' := [At.box b3 51 (cl_51 a1), At.box b4 51 (cl_51 b2)]) (fun _ h => h.to) ?_
         rcases ite_cases H0 with ⟨h23, H0⟩ | ⟨h23, H0⟩
         · refine J.cond_true h23 ?_
           refine J.seq ?_
           refine J.region ?_
           refine JL.pur (.pointer (some ⟨b3, 0, none⟩)) (some 49) ?_
           refine JL.val (.int .i64 a1.Num) (some 50) (yields_load_box 0 0 (holds_box b3 51 (cl_51 a1)) tyAgg_2) ?_
           refine JL.pur (.pointer (some ⟨b4, 0, none⟩)) (some 51) ?_
           refine JL.val (.int .i64 b2.Num) (some 52) (yields_load_box 1 0 (holds_box b4 51 (cl_51 b2)) tyAgg_2) ?_
           obtain ⟨t24, hc25, H0⟩ := bind_some H0
           refine JL.call [] [] [] (cmp_Compare__int64.ok a1.Num b2.Num _ hc25) trivial ?_
           rintro _ _ ⟨rfl, rfl⟩
           refine JL.as (.int .i64 t24) ?_
           refine JL.as (.int .i64 0) ?_
           refine JL.end_ ?_
           refine JQ.then_normal ?_
           refine JQ.sub [(4, .int .i64 t24), (5, .int .i64 0)] ?_
           refine JQ.mask [] [false, false] ?_
           refine J.ret ?_
           refine JQ.blk_ret ?_
           refine JQ.then_ret ?_
           obtain rfl := Option.some.inj H0
           exact JQ.done' (rs := [.tmp 4, .tmp 5]) (vs := [.int .i64 t24, .int .i64 0]) [] (.inr rfl) ⟨by kernel_rfl, by kernel_rfl, trivial⟩ (fun _ h => Heap.to h) ⟨rfl, rfl⟩
         · refine J.cond_false h23 ?_
           refine J.skip ?_
           refine JQ.blk_normal ?_
           refine JQ.then_normal ?_
           refine JQ.sub [(7, .int .i64 t16)] ?_
           refine JQ.mask [] [false, false] ?_
           refine J.seq ?_
           refine J.region ?_
           refine JL.mv (.int .i64 t16) ?_
           refine JL.as (.int .i64 t16) ?_
           refine JL.as (.int .i64 0) ?_
           refine JL.end_ ?_
           refine JQ.then_normal ?_
           refine JQ.sub [(4, .int .i64 t16), (5, .int .i64 0)] ?_
           refine J.ret ?_
           obtain rfl := Option.some.inj H0
           exact JQ.done' (rs := [.tmp 4, .tmp 5]) (vs := [.int .i64 t16, .int .i64 0]) [] (.inr rfl) ⟨by kernel_rfl, by kernel_rfl, trivial⟩ (fun _ h => Heap.to h) ⟨rfl, rfl⟩

theorem sample_less.ok (a1 : Frac) (b2 : Frac) (r : Bool) (H0 : sample_less.f a1 b2 = some r) :
    Does Try.prog 46 [mv_51 a1, mv_51 b2].toArray [] [] false (fun v Δ => v = .bool r ∧ Δ = []) := by
 refine Does.body (vs := [mv_51 a1, mv_51 b2]) Try.func46 rfl trivial trivial fun w S => ?_
 unfold sample_less.f at H0
 refine J.seq ?_
 refine J.region ?_
 refine JL.box (cl_51 a1) fun b3 => ?_
 refine JL.box (cl_51 b2) fun b4 => ?_
 refine JL.as (.bool false) ?_
 refine JL.end_ ?_
 refine JQ.then_normal ?_
 refine JQ.sub [(2, .pointer (some ⟨b3, 0, none⟩)), (3, .pointer (some ⟨b4, 0, none⟩))] ?_
 refine J.seq ?_
 refine J.region ?_
 refine JL.val (mv_51 a1) (some 8) (yields_load_boxes 0 0 (cl_51 a1) (holds_box b3 51 (cl_51 a1)) tyAgg_51 tySize_51) ?_
 refine JL.val (mv_51 b2) (some 9) (yields_load_boxes 1 0 (cl_51 b2) (holds_box b4 51 (cl_51 b2)) tyAgg_51 tySize_51) ?_
 obtain ⟨t5, hc6, H0⟩ := bind_some H0
 refine JL.call [] [] [] (frac_Cmp.ok a1 b2 _ hc6) trivial ?_
 rintro _ _ ⟨rfl, rfl⟩
 refine JL.mv (.tuple #[.int .i64 t5.1, .int .i64 t5.2]) ?_
 refine JL.pur (.int .i64 t5.1) (some 11) ?_
 refine JL.pur (.int .i64 t5.2) (some 12) ?_
 refine JL.as (.int .i64 t5.1) ?_
 refine JL.as (.int .i64 t5.2) ?_
 refine JL.end_ ?_
 refine JQ.then_normal ?_
 refine JQ.sub [(5, .int .i64 t5.1)] ?_
 refine JQ.mask [] [false, false] ?_
 refine J.seq ?_
 refine J.region ?_
 refine JL.mv (.int .i64 t5.1) ?_
 refine JL.pur (.bool (decide (t5.1 < 0))) (some 14) ?_
 refine JL.as (.bool (decide (t5.1 < 0))) ?_
 refine JL.end_ ?_
 refine JQ.then_normal ?_
 refine JQ.sub [(4, .bool (decide (t5.1 < 0)))] ?_
 refine J.ret ?_
 obtain rfl := Option.some.inj H0
 exact JQ.done' (rs := [.tmp 4]) (vs := [.bool (decide (t5.1 < 0))]) [] (.inr rfl) ⟨by kernel_rfl, trivial⟩ (fun _ h => Heap.to h) ⟨rfl, rfl⟩

theorem sample_Threshold.ok (levels1 : (List Int)) (Aa2 : Option Addr) (c3 : Nat) (part5 : Frac) (r : (Int × Int)) (H0 : sample_Threshold.f levels1 part5 = some r) :
    Does Try.prog 27 [.slice Aa2 levels1.length c3, mv_51 part5].toArray [At.rd Aa2 c3 ((flInt .i64).kd) levels1 true] [] false (fun v Δ => v = .tuple #[.int .i64 r.1, .int .i64 r.2] ∧ Δ = []) := by
 refine Does.body (vs := [.slice Aa2 levels1.length c3, mv_51 part5]) Try.func27 rfl ⟨.inl rfl, trivial⟩ trivial fun w S => ?_
 unfold sample_Threshold.f at H0
 refine J.seq ?_
 refine J.region ?_
 refine JL.box (cl_51 part5) fun b6 => ?_
 refine JL.as (.int .i64 0) ?_
 refine JL.as (.int .i64 0) ?_
 refine JL.end_ ?_
 refine JQ.then_normal ?_
 refine JQ.sub [(0, .slice Aa2 levels1.length c3), (3, .pointer (some ⟨b6, 0, none⟩))] ?_
 refine J.seq ?_
 refine J.seq ?_
 refine J.region ?_
 refine JL.mv (.slice Aa2 levels1.length c3) ?_
 obtain ⟨t7, hc8, H0⟩ := bind_some H0
 refine JL.call [] [] [] (sample_check.ok levels1 Aa2 c3 _ hc8) ⟨pre_any 0 (view_rd Aa2 c3 ((flInt .i64).kd) levels1 true true), trivial⟩ ?_
 rintro _ _ ⟨rfl, rfl⟩
 refine JL.as (.int .i64 t7) ?_
 refine JL.end_ ?_
 refine JQ.then_normal ?_
 refine JQ.sub [(0, .slice Aa2 levels1.length c3), (3, .pointer (some ⟨b6, 0, none⟩)), (6, .int .i64 t7)] ?_
 refine J.seq ?_
 refine J.region ?_
 refine JL.mv (.int .i64 t7) ?_
 refine JL.pur (.bool (!decide (t7 = 0))) (some 18) ?_
 refine JL.end_ ?_
 refine JQ.then_normal ?_
 refine JQ.sub [(0, .slice Aa2 levels1.length c3), (3, .pointer (some ⟨b6, 0, none⟩)), (6, .int .i64 t7), (18, .bool (!decide (t7 = 0)))] ?_
 rcases ite_cases H0 with ⟨h9, H0⟩ | ⟨h9, H0⟩
 · refine J.cond_true h9 ?_
   refine J.seq ?_
   refine J.region ?_
   refine JL.mv (.int .i64 t7) ?_
   refine JL.as (.int .i64 0) ?_
   refine JL.as (.int .i64 t7) ?_
   refine JL.end_ ?_
   refine JQ.then_normal ?_
   refine JQ.sub [(4, .int .i64 0), (5, .int .i64 t7)] ?_
   refine JQ.mask [] [false, false] ?_
   refine J.ret ?_
   refine JQ.then_ret ?_
   obtain rfl := Option.some.inj H0
   exact JQ.done' (rs := [.tmp 4, .tmp 5]) (vs := [.int .i64 0, .int .i64 t7]) [] (.inr rfl) ⟨by kernel_rfl, by kernel_rfl, trivial⟩ (fun _ h => Heap.to h) ⟨rfl, rfl⟩
 · refine J.cond_false h9 ?_
   refine J.skip ?_
   refine JQ.then_normal ?_
   refine JQ.sub [(0, .slice Aa2 levels1.length c3), (3, .pointer (some ⟨b6, 0, none⟩))] ?_
   refine J.seq ?_
   refine J.join (T := Bool) (G := Unit) (fun t => sample_Threshold.k1 levels1 part5 t = some r) (fun t g => [(0, .slice Aa2 levels1.length c3), (3, .pointer (some ⟨b6, 0, none⟩)), (34, .bool t)]) (fun t g => [At.rd Aa2 c3 ((flInt .i64).kd) levels1 true, At.box b6 51 (cl_51 part5)]) ?_ ?_
   · refine J.region ?_
     refine JL.val (mv_51 part5) (some 20) (yields_load_boxes 1 0 (cl_51 part5) (holds_box b6 51 (cl_51 part5)) tyAgg_51 tySize_51) ?_
     obtain ⟨t120, hc121, H0⟩ := bind_some H0
     refine JL.call [] [] [] (frac_Check.ok part5 _ hc121) trivial ?_
     rintro _ _ ⟨rfl, rfl⟩
     refine JL.pur (.bool (!decide (t120 = 0))) (some 22) ?_
     refine JL.mv (.bool (!decide (t120 = 0))) ?_
     rcases ite_cases H0 with ⟨h122, H0⟩ | ⟨h122, H0⟩
     · refine JL.off 3 23 false (some 24) h122 ?_
       refine JL.off 3 23 false (some 25) h122 ?_
       refine JL.off 3 23 false (some 26) h122 ?_
       refine JL.val (.bool true) (some 27) (gives_pickT h122) ?_
       refine JL.mv (.bool true) ?_
       refine JL.off 8 28 false (some 29) rfl ?_
       refine JL.off 8 28 false (some 30) rfl ?_
       refine JL.off 8 28 false (some 31) rfl ?_
       refine JL.off 8 28 false (some 32) rfl ?_
       refine JL.off 8 28 false (some 33) rfl ?_
       refine JL.val (.bool true) (some 34) (gives_pickT rfl) ?_
       refine JL.end_ ?_
       refine JQ.then_normal ?_
       exact JQ.meet true () H0 (fun _ h => Heap.to h)
     · refine JL.on 3 23 h122 ?_
       refine JL.pur (.pointer (some ⟨b6, 0, none⟩)) (some 24) ?_
       refine JL.on 3 23 h122 ?_
       refine JL.val (.int .i64 part5.Num) (some 25) (yields_load_box 1 0 (holds_box b6 51 (cl_51 part5)) tyAgg_2) ?_
       refine JL.on 3 23 h122 ?_
       refine JL.pur (.bool (decide (part5.Num < 0))) (some 26) ?_
       refine JL.val (.bool (decide (part5.Num < 0))) (some 27) (gives_pickF h122) ?_
       refine JL.mv (.bool (decide (part5.Num < 0))) ?_
       rcases ite_cases H0 with ⟨h123, H0⟩ | ⟨h123, H0⟩
       · refine JL.off 8 28 false (some 29) h123 ?_
         refine JL.off 8 28 false (some 30) h123 ?_
         refine JL.off 8 28 false (some 31) h123 ?_
         refine JL.off 8 28 false (some 32) h123 ?_
         refine JL.off 8 28 false (some 33) h123 ?_
         refine JL.val (.bool true) (some 34) (gives_pickT h123) ?_
         refine JL.end_ ?_
         refine JQ.then_normal ?_
         exact JQ.meet true () H0 (fun _ h => Heap.to h)
       · refine JL.on 8 28 h123 ?_
         refine JL.pur (.pointer (some ⟨b6, 0, none⟩)) (some 29) ?_
         refine JL.on 8 28 h123 ?_
         refine JL.val (.int .i64 part5.Num) (some 30) (yields_load_box 1 0 (holds_box b6 51 (cl_51 part5)) tyAgg_2) ?_
         refine JL.on 8 28 h123 ?_
         refine JL.pur (.pointer (some ⟨b6, 1, none⟩)) (some 31) ?_
         refine JL.on 8 28 h123 ?_
         refine JL.val (.int .i64 part5.Den) (some 32) (yields_load_box 1 1 (holds_box b6 51 (cl_51 part5)) tyAgg_2) ?_
         refine JL.on 8 28 h123 ?_
         refine JL.pur (.bool (decide (part5.Den < part5.Num))) (some 33) ?_
         refine JL.val (.bool (decide (part5.Den < part5.Num))) (some 34) (gives_pickF h123) ?_
         refine JL.end_ ?_
         refine JQ.then_normal ?_
         exact JQ.meet (decide (part5.Den < part5.Num)) () H0 (fun _ h => Heap.to h)
   · clear H0
     rintro x14 ⟨⟩ H0
     replace H0 : sample_Threshold.k1 levels1 part5 x14 = some r := H0
     unfold sample_Threshold.k1 at H0
     refine JQ.sub [(0, .slice Aa2 levels1.length c3), (3, .pointer (some ⟨b6, 0, none⟩)), (34, .bool x14)] ?_
     refine JQ.turn (Δ' := [At.rd Aa2 c3 ((flInt .i64).kd) levels1 true, At.box b6 51 (cl_51 part5)]) (fun _ h => h.to) ?_
     rcases ite_cases H0 with ⟨h15, H0⟩ | ⟨h15, H0⟩
     · refine J.cond_true h15 ?_
       refine J.seq ?_
       refine J.region ?_
       refine JL.as (.int .i64 0) ?_
       refine JL.as (.int .i64 8) ?_
       refine JL.end_ ?_
       refine JQ.then_normal ?_
       refine JQ.sub [(4, .int .i64 0), (5, .int .i64 8)] ?_
       refine JQ.mask [] [false, false] ?_
       refine J.ret ?_
       refine JQ.then_ret ?_
       obtain rfl := Option.some.inj H0
       exact JQ.done' (rs := [.tmp 4, .tmp 5]) (vs := [.int .i64 0, .int .i64 8]) [] (.inr rfl) ⟨by kernel_rfl, by kernel_rfl, trivial⟩ (fun _ h => Heap.to h) ⟨rfl, rfl⟩
     · refine J.cond_false h15 ?_
       refine J.skip ?_
       refine JQ.then_normal ?_
       refine JQ.sub [(0, .slice Aa2 levels1.length c3), (3, .pointer (some ⟨b6, 0, none⟩))] ?_
       refine J.seq ?_
       refine J.region ?_
       refine JL.as (.slice none 0 0) ?_
       refine JL.end_ ?_
       refine JQ.then_normal ?_
       refine J.seq ?_
       refine J.seq ?_
       refine J.region ?_
       refine JL.mv (.slice Aa2 levels1.length c3) ?_
       refine JL.pur (.int .i64 (levels1.length : Int)) (some 36) ?_
       refine JL.mv (.int .i64 0) ?_
       refine JL.end_ ?_
       refine JQ.then_normal ?_
       refine JQ.sub [(3, .pointer (some ⟨b6, 0, none⟩)), (7, .slice none 0 0), (35, .slice Aa2 levels1.length c3), (36, .int .i64 (levels1.length : Int)), (37, .int .i64 0)] ?_
       obtain ⟨o1, hit, H0⟩ := bind_some H0
       refine J.loop (σ := ((List Int) × Int)) (τ := List Int) (G := ((Option Addr) × Nat)) (G' := ((Option Addr) × Nat)) _ o1 (fun s g => [(3, .pointer (some ⟨b6, 0, none⟩)), (7, .slice g.1 s.1.length g.2), (35, .slice Aa2 levels1.length c3), (36, .int .i64 (levels1.length : Int)), (37, .int .i64 s.2)]) (fun s g => [At.box b6 51 (cl_51 part5), At.row g.1 g.2 3 ((flInt .i64).kd) s.1 false, At.rd Aa2 c3 ((flInt .i64).kd) levels1 true]) (fun t => sample_Threshold.k3 part5 t = some r) (fun t g => [(3, .pointer (some ⟨b6, 0, none⟩)), (7, .slice g.1 t.length g.2)]) (fun t g => [At.box b6 51 (cl_51 part5), At.row g.1 g.2 3 ((flInt .i64).kd) t false]) ([], 0) (none, 0) hit (fun _ h => Heap.to (Heap.pick [1, 2, 0] (by decide) (Heap.addRow0 (α := Int) 3 ((flInt .i64).kd) false h))) ?_ ?_
       · clear hit
         rintro ⟨sizes46, x50⟩ ⟨Aa47, c48⟩ st1 H1 hb1 hr1
         replace H1 : sample_Threshold.s2 levels1 sizes46 x50 = some st1 := H1
         unfold sample_Threshold.s2 at H1
         refine JQ.sub [(3, .pointer (some ⟨b6, 0, none⟩)), (7, .slice Aa47 sizes46.length c48), (35, .slice Aa2 levels1.length c3), (36, .int .i64 (levels1.length : Int)), (37, .int .i64 x50)] ?_
         refine JQ.turn (Δ' := [At.box b6 51 (cl_51 part5), At.row Aa47 c48 3 ((flInt .i64).kd) sizes46 false, At.rd Aa2 c3 ((flInt .i64).kd) levels1 true]) (fun _ h => h.to) ?_
         refine J.seq ?_
         refine J.region ?_
         refine JL.pur (.bool (decide (x50 < (levels1.length : Int)))) (some 38) ?_
         refine JL.end_ ?_
         refine JQ.then_normal ?_
         refine J.seq ?_
         rcases ite_cases H1 with ⟨h110, H1⟩ | ⟨h110, H1⟩
         · refine J.cond_true h110 ?_
           refine J.skip ?_
           refine JQ.then_normal ?_
           refine JQ.sub [(3, .pointer (some ⟨b6, 0, none⟩)), (7, .slice Aa47 sizes46.length c48), (35, .slice Aa2 levels1.length c3), (36, .int .i64 (levels1.length : Int)), (37, .int .i64 x50)] ?_
           refine J.seq ?_
           refine J.block ?_
           refine J.seq ?_
           refine J.region ?_
           obtain ⟨⟨h111, h112⟩, H1⟩ := ite_must H1
           refine JL.ixAddr 2 1 c3 .i64 (elems_rd Aa2 c3 ((flInt .i64).kd) levels1 true) Try.underlying22 tySize_3 h111 h112 fun g113 o114 hA => ?_
           subst hA
           refine JL.val (.int .i64 (ix levels1 x50)) (some 40) (gives_loadEl (f := (flInt .i64)) 2 0 x50 (elems_rd (some ⟨g113, o114, none⟩) c3 ((flInt .i64).kd) levels1 true) h111 h112 tySize_3 (.inr ⟨tyAgg_3, rfl, rfl⟩)) ?_
           obtain ⟨x115, ex115, H1⟩ := lt_some H1
           refine JL.as' (k := .i64) x115 ex115 ?_
           refine JL.end_ ?_
           refine JQ.then_normal ?_
           refine JQ.sub [(3, .pointer (some ⟨b6, 0, none⟩)), (7, .slice Aa47 sizes46.length c48), (9, .int .i64 x115), (35, .slice (some ⟨g113, o114, none⟩) levels1.length c3), (36, .int .i64 (levels1.length : Int)), (37, .int .i64 x50)] ?_
           refine J.region ?_
           refine JL.mv (.slice Aa47 sizes46.length c48) ?_
           refine JL.mv (.int .i64 x115) ?_
           refine JL.mv (.int .i64 x115) ?_
           refine JL.pur (.int .i64 (w64 (0 - x115))) (some 44) ?_
           refine JL.pur (.int .i64 (gmax x115 (w64 (0 - x115)))) (some 45) ?_
           refine JL.buildSl 3 ((flInt .i64).kd) (([(gmax x115 (w64 (0 - x115)))] : List Int) : List Int) [.int .i64 (gmax x115 (w64 (0 - x115)))] false (closes_fl rfl) fun b116 => ?_
           obtain ⟨h119, H1⟩ := ite_must H1
           refine JL.append false false 1 3 Aa47 c48 1 sizes46 (elems_row (some ⟨b116, 0, none⟩) 1 3 ((flInt .i64).kd) ([(gmax x115 (w64 (0 - x115)))] : List Int) false) Try.underlying22 info_3 (by omega) (by omega) (fun h => h) (.inr ⟨_, rfl⟩) fun Aa117 c118 => ?_
           refine JL.as (.slice Aa117 (sizes46 ++ ([(gmax x115 (w64 (0 - x115)))] : List Int)).length c118) ?_
           refine JL.end_ ?_
           refine JQ.blk_normal ?_
           refine JQ.then_normal ?_
           refine JQ.sub [(3, .pointer (some ⟨b6, 0, none⟩)), (7, .slice Aa117 (sizes46 ++ ([(gmax x115 (w64 (0 - x115)))] : List Int)).length c118), (35, .slice (some ⟨g113, o114, none⟩) levels1.length c3), (36, .int .i64 (levels1.length : Int)), (37, .int .i64 x50)] ?_
           refine JQ.mask [At.box b6 51 (cl_51 part5), At.row Aa117 c118 3 ((flInt .i64).kd) (sizes46 ++ ([(gmax x115 (w64 (0 - x115)))] : List Int)) false, At.rd (some ⟨g113, o114, none⟩) c3 ((flInt .i64).kd) levels1 true] [true, true, true, false] ?_
           refine J.region ?_
           refine JL.pur (.int .i64 (w64 (x50 + 1))) (some 48) ?_
           refine JL.mv (.int .i64 (w64 (x50 + 1))) ?_
           refine JL.end_ ?_
           refine JQ.then_normal ?_
           exact JQ.again ((sizes46 ++ ([(gmax x115 (w64 (0 - x115)))] : List Int)), w64 (x50 + 1)) (Aa117, c118) (Option.some.inj H1).symm (fun _ h => Heap.to h)
         · refine J.cond_false h110 ?_
           refine J.exit ?_
           refine JQ.then_exit ?_
           refine JQ.then_exit ?_
           refine JQ.blk_exit ?_
           rw [hb1 _ (Option.some.inj H1).symm, fin_brk] at H0
           exact JQ.met sizes46 (Aa47, c48) H0 (fun _ h => Heap.to (Heap.pick [0, 1] (by decide) h))
       · clear hit H0
         rintro sizes61 ⟨Aa62, c63⟩ H0
         replace H0 : sample_Threshold.k3 part5 sizes61 = some r := H0
         unfold sample_Threshold.k3 at H0
         refine JQ.sub [(3, .pointer (some ⟨b6, 0, none⟩)), (7, .slice Aa62 sizes61.length c63)] ?_
         refine JQ.turn (Δ' := [At.box b6 51 (cl_51 part5), At.row Aa62 c63 3 ((flInt .i64).kd) sizes61 false]) (fun _ h => h.to) ?_
         refine JQ.then_normal ?_
         refine J.seq ?_
         refine J.region ?_
         refine JL.mv (.slice Aa62 sizes61.length c63) ?_
         obtain ⟨h66, H0⟩ := ite_must H0
         refine JL.call [] [] [false, true] (does_ext_44 sizes61 Aa62 c63 3 h66) trivial ?_
         rintro _ _ ⟨rfl, rfl⟩
         obtain ⟨l65, el65, H0⟩ := lt_some H0
         rw [el65]
         have nl65 : sizes61.length = l65.length := by rw [← el65]; exact (length_sortI _).symm
         refine JQ.len (fun n : Nat => [(3, .pointer (some ⟨b6, 0, none⟩)), (7, .slice Aa62 n c63), (49, .slice Aa62 n c63), (50, .tuple #[])]) nl65 ?_
         refine JQ.sub [(3, .pointer (some ⟨b6, 0, none⟩)), (7, .slice Aa62 l65.length c63), (49, .slice Aa62 l65.length c63), (50, .tuple #[])] ?_
         refine JL.end_ ?_
         refine JQ.then_normal ?_
         refine JQ.sub [(3, .pointer (some ⟨b6, 0, none⟩)), (7, .slice Aa62 l65.length c63)] ?_
         refine J.seq ?_
         refine J.region ?_
         refine JL.as (.int .i64 0) ?_
         refine JL.end_ ?_
         refine JQ.then_normal ?_
         refine J.seq ?_
         refine J.seq ?_
         refine J.region ?_
         refine JL.mv (.slice Aa62 l65.length c63) ?_
         refine JL.pur (.int .i64 (l65.length : Int)) (some 52) ?_
         obtain ⟨n67, en67, H0⟩ := lt_some H0
         refine JL.as' (k := .i64) n67 en67 ?_
         refine JL.end_ ?_
         refine JQ.then_normal ?_
         refine JQ.sub [(3, .pointer (some ⟨b6, 0, none⟩)), (7, .slice Aa62 l65.length c63), (10, .int .i64 0), (11, .int .i64 n67)] ?_
         obtain ⟨o1, hit, H0⟩ := bind_some H0
         refine J.loop (σ := Int) (τ := Int) (G := Unit) (G' := Unit) _ o1 (fun s g => [(3, .pointer (some ⟨b6, 0, none⟩)), (7, .slice Aa62 l65.length c63), (10, .int .i64 s), (11, .int .i64 n67)]) (fun s g => [At.box b6 51 (cl_51 part5), At.row Aa62 c63 3 ((flInt .i64).kd) l65 false]) (fun t => sample_Threshold.k5 l65 t = some r) (fun t g => [(7, .slice Aa62 l65.length c63), (10, .int .i64 t)]) (fun t g => [At.row Aa62 c63 3 ((flInt .i64).kd) l65 false]) 0 () hit (fun _ h => Heap.to h) ?_ ?_
         · clear hit
           rintro need85 ⟨⟩ st1 H1 hb1 hr1
           replace H1 : sample_Threshold.s4 part5 n67 need85 = some st1 := H1
           unfold sample_Threshold.s4 at H1
           refine JQ.sub [(3, .pointer (some ⟨b6, 0, none⟩)), (7, .slice Aa62 l65.length c63), (10, .int .i64 need85), (11, .int .i64 n67)] ?_
           refine JQ.turn (Δ' := [At.box b6 51 (cl_51 part5), At.row Aa62 c63 3 ((flInt .i64).kd) l65 false]) (fun _ h => h.to) ?_
           refine J.seq ?_
           refine J.seq ?_
           refine J.region ?_
           refine JL.mv (.int .i64 need85) ?_
           refine JL.mv (.int .i64 n67) ?_
           refine JL.pur (.bool (decide (need85 < n67))) (some 55) ?_
           refine JL.end_ ?_
           refine JQ.then_normal ?_
           refine JQ.sub [(3, .pointer (some ⟨b6, 0, none⟩)), (7, .slice Aa62 l65.length c63), (10, .int .i64 need85), (11, .int .i64 n67), (55, .bool (decide (need85 < n67)))] ?_
           rcases ite_cases H1 with ⟨h102, H1⟩ | ⟨h102, H1⟩
           · refine J.cond_true h102 ?_
             refine J.skip ?_
             refine JQ.then_normal ?_
             refine JQ.sub [(3, .pointer (some ⟨b6, 0, none⟩)), (7, .slice Aa62 l65.length c63), (10, .int .i64 need85), (11, .int .i64 n67)] ?_
             refine J.seq ?_
             refine J.block ?_
             refine J.seq ?_
             refine J.region ?_
             refine JL.mv (.int .i64 need85) ?_
             refine JL.mv (.int .i64 n67) ?_
             obtain ⟨t103, hc104, H1⟩ := bind_some H1
             refine JL.call [] [] [] (frac_Make.ok need85 n67 _ hc104) trivial ?_
             rintro _ _ ⟨rfl, rfl⟩
             refine JL.mv (.tuple #[mv_51 t103.1, .int .i64 t103.2]) ?_
             refine JL.pur (mv_51 t103.1) (some 62) ?_
             refine JL.pur (.int .i64 t103.2) (some 63) ?_
             refine JL.alloc (cl_51 zv_51) fun b105 => ?_
             refine JL.store 2 b105 0 51 (cl_51 zv_51) (cl_51 t103.1) tySize_51 ?_
             refine JL.as (.int .i64 t103.2) ?_
             refine JL.end_ ?_
             refine JQ.then_normal ?_
             refine JQ.sub [(3, .pointer (some ⟨b6, 0, none⟩)), (7, .slice Aa62 l65.length c63), (10, .int .i64 need85), (11, .int .i64 n67), (12, .pointer (some ⟨b105, 0, none⟩))] ?_
             refine J.seq ?_
             refine J.region ?_
             refine JL.val (mv_51 t103.1) (some 64) (yields_load_boxes 2 0 (cl_51 t103.1) (holds_box b105 51 (cl_51 t103.1)) tyAgg_51 tySize_51) ?_
             refine JL.val (mv_51 part5) (some 65) (yields_load_boxes 0 0 (cl_51 part5) (holds_box b6 51 (cl_51 part5)) tyAgg_51 tySize_51) ?_
             obtain ⟨t106, hc107, H1⟩ := bind_some H1
             refine JL.call [] [] [] (sample_less.ok t103.1 part5 _ hc107) trivial ?_
             rintro _ _ ⟨rfl, rfl⟩
             refine JL.pur (.bool (!t106)) (some 67) ?_
             refine JL.end_ ?_
             refine JQ.then_normal ?_
             refine JQ.sub [(3, .pointer (some ⟨b6, 0, none⟩)), (7, .slice Aa62 l65.length c63), (10, .int .i64 need85), (11, .int .i64 n67), (67, .bool (!t106))] ?_
             refine JQ.mask [At.box b6 51 (cl_51 part5), At.row Aa62 c63 3 ((flInt .i64).kd) l65 false] [true, true, false] ?_
             rcases ite_cases H1 with ⟨h108, H1⟩ | ⟨h108, H1⟩
             · refine J.cond_true h108 ?_
               refine J.exit ?_
               refine JQ.blk_other ?_
               refine JQ.then_exit ?_
               refine JQ.then_exit ?_
               refine JQ.blk_exit ?_
               rw [hb1 _ (Option.some.inj H1).symm, fin_brk] at H0
               exact JQ.met need85 () H0 (fun _ h => Heap.to (Heap.pick [1] (by decide) h))
             · refine J.cond_false h108 ?_
               refine J.skip ?_
               refine JQ.blk_normal ?_
               refine JQ.then_normal ?_
               refine JQ.sub [(3, .pointer (some ⟨b6, 0, none⟩)), (7, .slice Aa62 l65.length c63), (10, .int .i64 need85), (11, .int .i64 n67)] ?_
               refine J.region ?_
               refine JL.mv (.int .i64 need85) ?_
               refine JL.pur (.int .i64 (w64 (need85 + 1))) (some 57) ?_
               obtain ⟨need109, eneed109, H1⟩ := lt_some H1
               refine JL.as' (k := .i64) need109 eneed109 ?_
               refine JL.end_ ?_
               refine JQ.then_normal ?_
               exact JQ.again need109 () (Option.some.inj H1).symm (fun _ h => Heap.to h)
           · refine J.cond_false h102 ?_
             refine J.exit ?_
             refine JQ.then_exit ?_
             refine JQ.then_exit ?_
             refine JQ.blk_exit ?_
             rw [hb1 _ (Option.some.inj H1).symm, fin_brk] at H0
             exact JQ.met need85 () H0 (fun _ h => Heap.to (Heap.pick [1] (by decide) h))
         · clear hit H0
           rintro need94 ⟨⟩ H0
           replace H0 : sample_Threshold.k5 l65 need94 = some r := H0
           unfold sample_Threshold.k5 at H0
           refine JQ.sub [(7, .slice Aa62 l65.length c63), (10, .int .i64 need94)] ?_
           refine JQ.turn (Δ' := [At.row Aa62 c63 3 ((flInt .i64).kd) l65 false]) (fun _ h => h.to) ?_
           refine JQ.then_normal ?_
           refine J.seq ?_
           refine J.seq ?_
           refine J.region ?_
           refine JL.mv (.int .i64 need94) ?_
           refine JL.pur (.bool (decide (need94 = 0))) (some 69) ?_
           refine JL.end_ ?_
           refine JQ.then_normal ?_
           refine JQ.sub [(7, .slice Aa62 l65.length c63), (10, .int .i64 need94), (69, .bool (decide (need94 = 0)))] ?_
           rcases ite_cases H0 with ⟨h95, H0⟩ | ⟨h95, H0⟩
           · refine J.cond_true h95 ?_
             refine J.seq ?_
             refine J.region ?_
             refine JL.as (.int .i64 1) ?_
             refine JL.as (.int .i64 0) ?_
             refine JL.end_ ?_
             refine JQ.then_normal ?_
             refine JQ.sub [(4, .int .i64 1), (5, .int .i64 0)] ?_
             refine JQ.mask [] [false] ?_
             refine J.ret ?_
             refine JQ.then_ret ?_
             obtain rfl := Option.some.inj H0
             exact JQ.done' (rs := [.tmp 4, .tmp 5]) (vs := [.int .i64 1, .int .i64 0]) [] (.inr rfl) ⟨by kernel_rfl, by kernel_rfl, trivial⟩ (fun _ h => Heap.to h) ⟨rfl, rfl⟩
           · refine J.cond_false h95 ?_
             refine J.skip ?_
             refine JQ.then_normal ?_
             refine JQ.sub [(7, .slice Aa62 l65.length c63), (10, .int .i64 need94)] ?_
             refine J.seq ?_
             refine J.seq ?_
             refine J.region ?_
             refine JL.mv (.slice Aa62 l65.length c63) ?_
             refine JL.mv (.int .i64 need94) ?_
             refine JL.pur (.int .i64 (w64 (need94 - 1))) (some 72) ?_
             obtain ⟨⟨h96, h97⟩, H0⟩ := ite_must H0
             refine JL.ixAddr 0 1 c63 .i64 (elems_row Aa62 c63 3 ((flInt .i64).kd) l65 false) Try.underlying22 tySize_3 h96 h97 fun g98 o99 hA => ?_
             subst hA
             refine JL.val (.int .i64 (ix l65 (w64 (need94 - 1)))) (some 74) (gives_loadEl (f := (flInt .i64)) 0 0 (w64 (need94 - 1)) (elems_row (some ⟨g98, o99, none⟩) c63 3 ((flInt .i64).kd) l65 false) h96 h97 tySize_3 (.inr ⟨tyAgg_3, rfl, rfl⟩)) ?_
             refine JL.pur (.int .i64 (w64 ((ix l65 (w64 (need94 - 1))) + 1))) (some 75) ?_
             obtain ⟨t100, et100, H0⟩ := lt_some H0
             refine JL.as' (k := .i64) t100 et100 ?_
             refine JL.end_ ?_
             refine JQ.then_normal ?_
             refine JQ.sub [(14, .int .i64 t100)] ?_
             refine JQ.mask [] [false] ?_
             refine J.seq ?_
             refine J.region ?_
             refine JL.mv (.int .i64 t100) ?_
             refine JL.pur (.bool (decide (t100 ≤ 1000000))) (some 77) ?_
             refine JL.end_ ?_
             refine JQ.then_normal ?_
             refine JQ.sub [(14, .int .i64 t100), (77, .bool (decide (t100 ≤ 1000000)))] ?_
             rcases ite_cases H0 with ⟨h101, H0⟩ | ⟨h101, H0⟩
             · refine J.cond_true h101 ?_
               refine J.seq ?_
               refine J.region ?_
               refine JL.mv (.int .i64 t100) ?_
               refine JL.as (.int .i64 t100) ?_
               refine JL.as (.int .i64 0) ?_
               refine JL.end_ ?_
               refine JQ.then_normal ?_
               refine JQ.sub [(4, .int .i64 t100), (5, .int .i64 0)] ?_
               refine J.ret ?_
               refine JQ.then_ret ?_
               obtain rfl := Option.some.inj H0
               exact JQ.done' (rs := [.tmp 4, .tmp 5]) (vs := [.int .i64 t100, .int .i64 0]) [] (.inr rfl) ⟨by kernel_rfl, by kernel_rfl, trivial⟩ (fun _ h => Heap.to h) ⟨rfl, rfl⟩
             · refine J.cond_false h101 ?_
               refine J.skip ?_
               refine JQ.then_normal ?_
               refine JQ.sub [] ?_
               refine J.seq ?_
               refine J.region ?_
               refine JL.as (.int .i64 0) ?_
               refine JL.as (.int .i64 6) ?_
               refine JL.end_ ?_
               refine JQ.then_normal ?_
               refine J.ret ?_
               obtain rfl := Option.some.inj H0
               exact JQ.done' (rs := [.tmp 4, .tmp 5]) (vs := [.int .i64 0, .int .i64 6]) [] (.inr rfl) ⟨by kernel_rfl, by kernel_rfl, trivial⟩ (fun _ h => Heap.to h) ⟨rfl, rfl⟩

theorem ref13_Same.ok (a1 : (List Int)) (Aa2 : Option Addr) (c3 : Nat) (b5 : (List Int)) (Aa6 : Option Addr) (c7 : Nat) (r : Bool) (H0 : ref13_Same.f a1 b5 = some r) :
    Does Try.prog 18 [.slice Aa2 a1.length c3, .slice Aa6 b5.length c7].toArray [At.rd Aa2 c3 ((flInt .i64).kd) a1 true, At.rd Aa6 c7 ((flInt .i64).kd) b5 true] [] false (fun v Δ => v = .bool r ∧ Δ = []) := by
 refine Does.body (vs := [.slice Aa2 a1.length c3, .slice Aa6 b5.length c7]) Try.func18 rfl ⟨.inl rfl, .inl rfl, trivial⟩ trivial fun w S => ?_
 unfold ref13_Same.f at H0
 refine J.seq ?_
 refine J.region ?_
 refine JL.as (.bool false) ?_
 refine JL.end_ ?_
 refine JQ.then_normal ?_
 refine JQ.sub [(0, .slice Aa2 a1.length c3), (1, .slice Aa6 b5.length c7)] ?_
 refine J.seq ?_
 refine J.seq ?_
 refine J.region ?_
 refine JL.mv (.slice Aa2 a1.length c3) ?_
 refine JL.pur (.int .i64 (a1.length : Int)) (some 7) ?_
 refine JL.mv (.slice Aa6 b5.length c7) ?_
 refine JL.pur (.int .i64 (b5.length : Int)) (some 9) ?_
 refine JL.pur (.bool (!decide ((a1.length : Int) = (b5.length : Int)))) (some 10) ?_
 refine JL.end_ ?_
 refine JQ.then_normal ?_
 refine JQ.sub [(0, .slice Aa2 a1.length c3), (1, .slice Aa6 b5.length c7), (10, .bool (!decide ((a1.length : Int) = (b5.length : Int))))] ?_
 rcases ite_cases H0 with ⟨h9, H0⟩ | ⟨h9, H0⟩
 · refine J.cond_true h9 ?_
   refine J.seq ?_
   refine J.region ?_
   refine JL.as (.bool false) ?_
   refine JL.end_ ?_
   refine JQ.then_normal ?_
   refine JQ.sub [(4, .bool false)] ?_
   refine JQ.mask [] [false, false] ?_
   refine J.ret ?_
   refine JQ.then_ret ?_
   obtain rfl := Option.some.inj H0
   exact JQ.done' (rs := [.tmp 4]) (vs := [.bool false]) [] (.inr rfl) ⟨by kernel_rfl, trivial⟩ (fun _ h => Heap.to h) ⟨rfl, rfl⟩
 · refine J.cond_false h9 ?_
   refine J.skip ?_
   refine JQ.then_normal ?_
   refine JQ.sub [(0, .slice Aa2 a1.length c3), (1, .slice Aa6 b5.length c7)] ?_
   refine J.seq ?_
   refine J.seq ?_
   refine J.region ?_
   refine JL.as (.int .i64 0) ?_
   refine JL.end_ ?_
   refine JQ.then_normal ?_
   obtain ⟨o1, hit, H0⟩ := bind_some H0
   refine J.loop (σ := Int) (τ := Unit) (G := Unit) (G' := Unit) _ o1 (fun s g => [(0, .slice Aa2 a1.length c3), (1, .slice Aa6 b5.length c7), (5, .int .i64 s)]) (fun s g => [At.rd Aa2 c3 ((flInt .i64).kd) a1 true, At.rd Aa6 c7 ((flInt .i64).kd) b5 true]) (fun t => ref13_Same.k2 = some r) (fun t g => []) (fun t g => []) 0 () hit (fun _ h => Heap.to h) ?_ ?_
   · clear hit
     rintro i32 ⟨⟩ st1 H1 hb1 hr1
     replace H1 : ref13_Same.s1 a1 b5 i32 = some st1 := H1
     unfold ref13_Same.s1 at H1
     refine JQ.sub [(0, .slice Aa2 a1.length c3), (1, .slice Aa6 b5.length c7), (5, .int .i64 i32)] ?_
     refine JQ.turn (Δ' := [At.rd Aa2 c3 ((flInt .i64).kd) a1 true, At.rd Aa6 c7 ((flInt .i64).kd) b5 true]) (fun _ h => h.to) ?_
     refine J.seq ?_
     refine J.seq ?_
     refine J.region ?_
     refine JL.mv (.int .i64 i32) ?_
     refine JL.mv (.slice Aa2 a1.length c3) ?_
     refine JL.pur (.int .i64 (a1.length : Int)) (some 13) ?_
     refine JL.pur (.bool (decide (i32 < (a1.length : Int)))) (some 14) ?_
     refine JL.end_ ?_
     refine JQ.then_normal ?_
     refine JQ.sub [(0, .slice Aa2 a1.length c3), (1, .slice Aa6 b5.length c7), (5, .int .i64 i32), (14, .bool (decide (i32 < (a1.length : Int))))] ?_
     rcases ite_cases H1 with ⟨h43, H1⟩ | ⟨h43, H1⟩
     · refine J.cond_true h43 ?_
       refine J.skip ?_
       refine JQ.then_normal ?_
       refine JQ.sub [(0, .slice Aa2 a1.length c3), (1, .slice Aa6 b5.length c7), (5, .int .i64 i32)] ?_
       refine J.seq ?_
       refine J.block ?_
       refine J.seq ?_
       refine J.draw ?_
       refine QL.mv (.slice Aa2 a1.length c3) ?_
       refine QL.mv (.int .i64 i32) ?_
       obtain ⟨⟨h44, h45⟩, H1⟩ := ite_must H1
       refine QL.ixAddr 0 1 c3 .i64 (elems_rd Aa2 c3 ((flInt .i64).kd) a1 true) Try.underlying22 tySize_3 h44 h45 fun g46 o47 hA => ?_
       subst hA
       refine QL.val (.int .i64 (ix a1 i32)) (some 20) (gives_loadEl (f := (flInt .i64)) 0 0 i32 (elems_rd (some ⟨g46, o47, none⟩) c3 ((flInt .i64).kd) a1 true) h44 h45 tySize_3 (.inr ⟨tyAgg_3, rfl, rfl⟩)) ?_
       refine QL.mv (.slice Aa6 b5.length c7) ?_
       refine QL.mv (.int .i64 i32) ?_
       obtain ⟨⟨h48, h49⟩, H1⟩ := ite_must H1
       refine QL.ixAddr 1 1 c7 .i64 (elems_rd Aa6 c7 ((flInt .i64).kd) b5 true) Try.underlying22 tySize_3 h48 h49 fun g50 o51 hA => ?_
       subst hA
       refine QL.val (.int .i64 (ix b5 i32)) (some 24) (gives_loadEl (f := (flInt .i64)) 1 0 i32 (elems_rd (some ⟨g50, o51, none⟩) c7 ((flInt .i64).kd) b5 true) h48 h49 tySize_3 (.inr ⟨tyAgg_3, rfl, rfl⟩)) ?_
       refine QL.pur (.bool (!decide ((ix a1 i32) = (ix b5 i32)))) (some 25) ?_
       refine QL.nil ?_
       refine JA.nil ?_
       refine JQ.then_normal ?_
       refine JQ.sub [(0, .slice (some ⟨g46, o47, none⟩) a1.length c3), (1, .slice (some ⟨g50, o51, none⟩) b5.length c7), (5, .int .i64 i32), (25, .bool (!decide ((ix a1 i32) = (ix b5 i32))))] ?_
       rcases ite_cases H1 with ⟨h52, H1⟩ | ⟨h52, H1⟩
       · refine J.cond_true h52 ?_
         refine J.seq ?_
         refine J.region ?_
         refine JL.as (.bool false) ?_
         refine JL.end_ ?_
         refine JQ.then_normal ?_
         refine JQ.sub [(4, .bool false)] ?_
         refine JQ.mask [] [false, false] ?_
         refine J.ret ?_
         refine JQ.blk_ret ?_
         refine JQ.then_ret ?_
         refine JQ.then_ret ?_
         refine JQ.blk_ret ?_
         refine JQ.met_ret ?_
         refine JQ.then_ret ?_
         rw [hr1 _ (Option.some.inj H1).symm, fin_ret] at H0
         obtain rfl := Option.some.inj H0
         exact JQ.done' (rs := [.tmp 4]) (vs := [.bool false]) [] (.inr rfl) ⟨by kernel_rfl, trivial⟩ (fun _ h => Heap.to h) ⟨rfl, rfl⟩
       · refine J.cond_false h52 ?_
         refine J.skip ?_
         refine JQ.blk_normal ?_
         refine JQ.then_normal ?_
         refine JQ.sub [(0, .slice (some ⟨g46, o47, none⟩) a1.length c3), (1, .slice (some ⟨g50, o51, none⟩) b5.length c7), (5, .int .i64 i32)] ?_
         refine J.region ?_
         refine JL.mv (.int .i64 i32) ?_
         refine JL.pur (.int .i64 (w64 (i32 + 1))) (some 16) ?_
         refine JL.as (.int .i64 (w64 (i32 + 1))) ?_
         refine JL.end_ ?_
         refine JQ.then_normal ?_
         exact JQ.again (w64 (i32 + 1)) () (Option.some.inj H1).symm (fun _ h => Heap.to h)
     · refine J.cond_false h43 ?_
       refine J.exit ?_
       refine JQ.then_exit ?_
       refine JQ.then_exit ?_
       refine JQ.blk_exit ?_
       rw [hb1 _ (Option.some.inj H1).symm, fin_brk] at H0
       exact JQ.met () () H0 (fun _ h => Heap.to (Heap.pick [] (by decide) h))
   · clear hit H0
     rintro ⟨⟩ ⟨⟩ H0
     replace H0 : ref13_Same.k2 = some r := H0
     unfold ref13_Same.k2 at H0
     refine JQ.sub [] ?_
     refine JQ.turn (Δ' := []) (fun _ h => h.to) ?_
     refine JQ.then_normal ?_
     refine J.seq ?_
     refine J.region ?_
     refine JL.as (.bool true) ?_
     refine JL.end_ ?_
     refine JQ.then_normal ?_
     refine J.ret ?_
     obtain rfl := Option.some.inj H0
     exact JQ.done' (rs := [.tmp 4]) (vs := [.bool true]) [] (.inr rfl) ⟨by kernel_rfl, trivial⟩ (fun _ h => Heap.to h) ⟨rfl, rfl⟩

theorem ref13_SameBytes.ok (a1 : (List Int)) (Aa2 : Option Addr) (c3 : Nat) (b5 : (List Int)) (Aa6 : Option Addr) (c7 : Nat) (r : Bool) (H0 : ref13_SameBytes.f a1 b5 = some r) :
    Does Try.prog 23 [.slice Aa2 a1.length c3, .slice Aa6 b5.length c7].toArray [At.rd Aa2 c3 ((flInt .u8).kd) a1 true, At.rd Aa6 c7 ((flInt .u8).kd) b5 true] [] false (fun v Δ => v = .bool r ∧ Δ = []) := by
 refine Does.body (vs := [.slice Aa2 a1.length c3, .slice Aa6 b5.length c7]) Try.func23 rfl ⟨.inl rfl, .inl rfl, trivial⟩ trivial fun w S => ?_
 unfold ref13_SameBytes.f at H0
 refine J.seq ?_
 refine J.region ?_
 refine JL.as (.bool false) ?_
 refine JL.end_ ?_
 refine JQ.then_normal ?_
 refine JQ.sub [(0, .slice Aa2 a1.length c3), (1, .slice Aa6 b5.length c7)] ?_
 refine J.seq ?_
 refine J.seq ?_
 refine J.region ?_
 refine JL.mv (.slice Aa2 a1.length c3) ?_
 refine JL.pur (.int .i64 (a1.length : Int)) (some 7) ?_
 refine JL.mv (.slice Aa6 b5.length c7) ?_
 refine JL.pur (.int .i64 (b5.length : Int)) (some 9) ?_
 refine JL.pur (.bool (!decide ((a1.length : Int) = (b5.length : Int)))) (some 10) ?_
 refine JL.end_ ?_
 refine JQ.then_normal ?_
 refine JQ.sub [(0, .slice Aa2 a1.length c3), (1, .slice Aa6 b5.length c7), (10, .bool (!decide ((a1.length : Int) = (b5.length : Int))))] ?_
 rcases ite_cases H0 with ⟨h9, H0⟩ | ⟨h9, H0⟩
 · refine J.cond_true h9 ?_
   refine J.seq ?_
   refine J.region ?_
   refine JL.as (.bool false) ?_
   refine JL.end_ ?_
   refine JQ.then_normal ?_
   refine JQ.sub [(4, .bool false)] ?_
   refine JQ.mask [] [false, false] ?_
   refine J.ret ?_
   refine JQ.then_ret ?_
   obtain rfl := Option.some.inj H0
   exact JQ.done' (rs := [.tmp 4]) (vs := [.bool false]) [] (.inr rfl) ⟨by kernel_rfl, trivial⟩ (fun _ h => Heap.to h) ⟨rfl, rfl⟩
 · refine J.cond_false h9 ?_
   refine J.skip ?_
   refine JQ.then_normal ?_
   refine JQ.sub [(0, .slice Aa2 a1.length c3), (1, .slice Aa6 b5.length c7)] ?_
   refine J.seq ?_
   refine J.seq ?_
   refine J.region ?_
   refine JL.as (.int .i64 0) ?_
   refine JL.end_ ?_
   refine JQ.then_normal ?_
   obtain ⟨o1, hit, H0⟩ := bind_some H0
   refine J.loop (σ := Int) (τ := Unit) (G := Unit) (G' := Unit) _ o1 (fun s g => [(0, .slice Aa2 a1.length c3), (1, .slice Aa6 b5.length c7), (5, .int .i64 s)]) (fun s g => [At.rd Aa2 c3 ((flInt .u8).kd) a1 true, At.rd Aa6 c7 ((flInt .u8).kd) b5 true]) (fun t => ref13_SameBytes.k2 = some r) (fun t g => []) (fun t g => []) 0 () hit (fun _ h => Heap.to h) ?_ ?_
   · clear hit
     rintro i32 ⟨⟩ st1 H1 hb1 hr1
     replace H1 : ref13_SameBytes.s1 a1 b5 i32 = some st1 := H1
     unfold ref13_SameBytes.s1 at H1
     refine JQ.sub [(0, .slice Aa2 a1.length c3), (1, .slice Aa6 b5.length c7), (5, .int .i64 i32)] ?_
     refine JQ.turn (Δ' := [At.rd Aa2 c3 ((flInt .u8).kd) a1 true, At.rd Aa6 c7 ((flInt .u8).kd) b5 true]) (fun _ h => h.to) ?_
     refine J.seq ?_
     refine J.seq ?_
     refine J.region ?_
     refine JL.mv (.int .i64 i32) ?_
     refine JL.mv (.slice Aa2 a1.length c3) ?_
     refine JL.pur (.int .i64 (a1.length : Int)) (some 13) ?_
     refine JL.pur (.bool (decide (i32 < (a1.length : Int)))) (some 14) ?_
     refine JL.end_ ?_
     refine JQ.then_normal ?_
     refine JQ.sub [(0, .slice Aa2 a1.length c3), (1, .slice Aa6 b5.length c7), (5, .int .i64 i32), (14, .bool (decide (i32 < (a1.length : Int))))] ?_
     rcases ite_cases H1 with ⟨h43, H1⟩ | ⟨h43, H1⟩
     · refine J.cond_true h43 ?_
       refine J.skip ?_
       refine JQ.then_normal ?_
       refine JQ.sub [(0, .slice Aa2 a1.length c3), (1, .slice Aa6 b5.length c7), (5, .int .i64 i32)] ?_
       refine J.seq ?_
       refine J.block ?_
       refine J.seq ?_
       refine J.draw ?_
       refine QL.mv (.slice Aa2 a1.length c3) ?_
       refine QL.mv (.int .i64 i32) ?_
       obtain ⟨⟨h44, h45⟩, H1⟩ := ite_must H1
       refine QL.ixAddr 0 1 c3 .i64 (elems_rd Aa2 c3 ((flInt .u8).kd) a1 true) Try.underlying41 tySize_5 h44 h45 fun g46 o47 hA => ?_
       subst hA
       refine QL.val (.int .u8 (ix a1 i32)) (some 20) (gives_loadEl (f := (flInt .u8)) 0 0 i32 (elems_rd (some ⟨g46, o47, none⟩) c3 ((flInt .u8).kd) a1 true) h44 h45 tySize_5 (.inr ⟨tyAgg_5, rfl, rfl⟩)) ?_
       refine QL.mv (.slice Aa6 b5.length c7) ?_
       refine QL.mv (.int .i64 i32) ?_
       obtain ⟨⟨h48, h49⟩, H1⟩ := ite_must H1
       refine QL.ixAddr 1 1 c7 .i64 (elems_rd Aa6 c7 ((flInt .u8).kd) b5 true) Try.underlying41 tySize_5 h48 h49 fun g50 o51 hA => ?_
       subst hA
       refine QL.val (.int .u8 (ix b5 i32)) (some 24) (gives_loadEl (f := (flInt .u8)) 1 0 i32 (elems_rd (some ⟨g50, o51, none⟩) c7 ((flInt .u8).kd) b5 true) h48 h49 tySize_5 (.inr ⟨tyAgg_5, rfl, rfl⟩)) ?_
       refine QL.pur (.bool (!decide ((ix a1 i32) = (ix b5 i32)))) (some 25) ?_
       refine QL.nil ?_
       refine JA.nil ?_
       refine JQ.then_normal ?_
       refine JQ.sub [(0, .slice (some ⟨g46, o47, none⟩) a1.length c3), (1, .slice (some ⟨g50, o51, none⟩) b5.length c7), (5, .int .i64 i32), (25, .bool (!decide ((ix a1 i32) = (ix b5 i32))))] ?_
       rcases ite_cases H1 with ⟨h52, H1⟩ | ⟨h52, H1⟩
       · refine J.cond_true h52 ?_
         refine J.seq ?_
         refine J.region ?_
         refine JL.as (.bool false) ?_
         refine JL.end_ ?_
         refine JQ.then_normal ?_
         refine JQ.sub [(4, .bool false)] ?_
         refine JQ.mask [] [false, false] ?_
         refine J.ret ?_
         refine JQ.blk_ret ?_
         refine JQ.then_ret ?_
         refine JQ.then_ret ?_
         refine JQ.blk_ret ?_
         refine JQ.met_ret ?_
         refine JQ.then_ret ?_
         rw [hr1 _ (Option.some.inj H1).symm, fin_ret] at H0
         obtain rfl := Option.some.inj H0
         exact JQ.done' (rs := [.tmp 4]) (vs := [.bool false]) [] (.inr rfl) ⟨by kernel_rfl, trivial⟩ (fun _ h => Heap.to h) ⟨rfl, rfl⟩
       · refine J.cond_false h52 ?_
         refine J.skip ?_
         refine JQ.blk_normal ?_
         refine JQ.then_normal ?_
         refine JQ.sub [(0, .slice (some ⟨g46, o47, none⟩) a1.length c3), (1, .slice (some ⟨g50, o51, none⟩) b5.length c7), (5, .int .i64 i32)] ?_
         refine J.region ?_
         refine JL.mv (.int .i64 i32) ?_
         refine JL.pur (.int .i64 (w64 (i32 + 1))) (some 16) ?_
         refine JL.as (.int .i64 (w64 (i32 + 1))) ?_
         refine JL.end_ ?_
         refine JQ.then_normal ?_
         exact JQ.again (w64 (i32 + 1)) () (Option.some.inj H1).symm (fun _ h => Heap.to h)
     · refine J.cond_false h43 ?_
       refine J.exit ?_
       refine JQ.then_exit ?_
       refine JQ.then_exit ?_
       refine JQ.blk_exit ?_
       rw [hb1 _ (Option.some.inj H1).symm, fin_brk] at H0
       exact JQ.met () () H0 (fun _ h => Heap.to (Heap.pick [] (by decide) h))
   · clear hit H0
     rintro ⟨⟩ ⟨⟩ H0
     replace H0 : ref13_SameBytes.k2 = some r := H0
     unfold ref13_SameBytes.k2 at H0
     refine JQ.sub [] ?_
     refine JQ.turn (Δ' := []) (fun _ h => h.to) ?_
     refine JQ.then_normal ?_
     refine J.seq ?_
     refine J.region ?_
     refine JL.as (.bool true) ?_
     refine JL.end_ ?_
     refine JQ.then_normal ?_
     refine J.ret ?_
     obtain rfl := Option.some.inj H0
     exact JQ.done' (rs := [.tmp 4]) (vs := [.bool true]) [] (.inr rfl) ⟨by kernel_rfl, trivial⟩ (fun _ h => Heap.to h) ⟨rfl, rfl⟩

theorem law13_alive.ok  (r : Bool) (H0 : law13_alive.f = some r) :
    Does Try.prog 24 [].toArray [] [] false (fun v Δ => v = .bool r ∧ Δ = []) := by
 refine Does.body (vs := []) Try.func24 rfl trivial trivial fun w S => ?_
 unfold law13_alive.f at H0
 refine J.seq ?_
 refine J.region ?_
 refine JL.as (.bool false) ?_
 refine JL.end_ ?_
 refine JQ.then_normal ?_
 refine JQ.sub [] ?_
 refine J.seq ?_
 refine J.region ?_
 obtain ⟨t1, hc2, H0⟩ := bind_some H0
 refine JL.call [] [] [] (law13_given.ok _ hc2) trivial ?_
 rintro _ _ ⟨Aa3, c4, rfl, rfl⟩
 obtain ⟨t6, hc7, H0⟩ := bind_some H0
 refine JL.call [] [] [] (sample_Take.ok t1 Aa3 c4 10 _ hc7) ⟨pre_view 0 (view_row Aa3 c4 3 ((flInt .i64).kd) t1 false true), trivial⟩ ?_
 rintro _ _ ⟨Aa8, c9, rfl, rfl⟩
 refine JL.mv (.tuple #[.slice Aa8 t6.1.length c9, .int .i64 t6.2]) ?_
 refine JL.pur (.slice Aa8 t6.1.length c9) (some 12) ?_
 refine JL.pur (.int .i64 t6.2) (some 13) ?_
 refine JL.as (.slice Aa8 t6.1.length c9) ?_
 refine JL.as (.int .i64 t6.2) ?_
 refine JL.end_ ?_
 refine JQ.then_normal ?_
 refine JQ.sub [(1, .slice Aa8 t6.1.length c9), (2, .int .i64 t6.2)] ?_
 refine JQ.mask [At.row Aa8 c9 3 ((flInt .i64).kd) t6.1 false] [false, true] ?_
 refine J.seq ?_
 refine J.region ?_
 refine JL.mv (.slice Aa8 t6.1.length c9) ?_
 obtain ⟨t11, hc12, H0⟩ := bind_some H0
 refine JL.call [] [] [] (sample_Pack.ok t6.1 Aa8 c9 _ hc12) ⟨pre_view 0 (view_row Aa8 c9 3 ((flInt .i64).kd) t6.1 false true), trivial⟩ ?_
 rintro _ _ ⟨Aa13, c14, rfl, rfl⟩
 refine JL.mv (.tuple #[.slice Aa13 t11.1.length c14, .int .i64 t11.2]) ?_
 refine JL.pur (.slice Aa13 t11.1.length c14) (some 17) ?_
 refine JL.pur (.int .i64 t11.2) (some 18) ?_
 refine JL.as (.slice Aa13 t11.1.length c14) ?_
 refine JL.as (.int .i64 t11.2) ?_
 refine JL.end_ ?_
 refine JQ.then_normal ?_
 refine JQ.sub [(1, .slice Aa8 t6.1.length c9), (2, .int .i64 t6.2), (3, .slice Aa13 t11.1.length c14), (4, .int .i64 t11.2)] ?_
 refine J.seq ?_
 refine J.region ?_
 obtain ⟨t16, hc17, H0⟩ := bind_some H0
 refine JL.call [] [] [] (law13_given.ok _ hc17) trivial ?_
 rintro _ _ ⟨Aa18, c19, rfl, rfl⟩
 refine JL.pur (.agg #[.int .i64 1, .int .i64 2]) (some 21) ?_
 obtain ⟨t21, hc22, H0⟩ := bind_some H0
 refine JL.call [] [] [] (sample_Threshold.ok t16 Aa18 c19 (⟨1, 2⟩ : Frac) _ hc22) ⟨pre_view 2 (view_row Aa18 c19 3 ((flInt .i64).kd) t16 false true), trivial⟩ ?_
 rintro _ _ ⟨rfl, rfl⟩
 refine JL.mv (.tuple #[.int .i64 t21.1, .int .i64 t21.2]) ?_
 refine JL.pur (.int .i64 t21.1) (some 23) ?_
 refine JL.pur (.int .i64 t21.2) (some 24) ?_
 refine JL.as (.int .i64 t21.1) ?_
 refine JL.as (.int .i64 t21.2) ?_
 refine JL.end_ ?_
 refine JQ.then_normal ?_
 refine JQ.sub [(1, .slice Aa8 t6.1.length c9), (2, .int .i64 t6.2), (3, .slice Aa13 t11.1.length c14), (4, .int .i64 t11.2), (5, .int .i64 t21.1), (6, .int .i64 t21.2)] ?_
 refine JQ.mask [At.row Aa8 c9 3 ((flInt .i64).kd) t6.1 false, At.row Aa13 c14 5 ((flInt .u8).kd) t11.1 false] [true, true, false] ?_
 refine J.seq ?_
 refine J.region ?_
 obtain ⟨t23, hc24, H0⟩ := bind_some H0
 refine JL.call [] [] [] (law13_given.ok _ hc24) trivial ?_
 rintro _ _ ⟨Aa25, c26, rfl, rfl⟩
 refine JL.pur (.agg #[.int .i64 3, .int .i64 4]) (some 27) ?_
 obtain ⟨t28, hc29, H0⟩ := bind_some H0
 refine JL.call [] [] [] (sample_Threshold.ok t23 Aa25 c26 (⟨3, 4⟩ : Frac) _ hc29) ⟨pre_view 2 (view_row Aa25 c26 3 ((flInt .i64).kd) t23 false true), trivial⟩ ?_
 rintro _ _ ⟨rfl, rfl⟩
 refine JL.mv (.tuple #[.int .i64 t28.1, .int .i64 t28.2]) ?_
 refine JL.pur (.int .i64 t28.1) (some 29) ?_
 refine JL.pur (.int .i64 t28.2) (some 30) ?_
 refine JL.as (.int .i64 t28.1) ?_
 refine JL.as (.int .i64 t28.2) ?_
 refine JL.end_ ?_
 refine JQ.then_normal ?_
 refine JQ.sub [(1, .slice Aa8 t6.1.length c9), (2, .int .i64 t6.2), (3, .slice Aa13 t11.1.length c14), (4, .int .i64 t11.2), (5, .int .i64 t21.1), (6, .int .i64 t21.2), (7, .int .i64 t28.1), (8, .int .i64 t28.2)] ?_
 refine JQ.mask [At.row Aa8 c9 3 ((flInt .i64).kd) t6.1 false, At.row Aa13 c14 5 ((flInt .u8).kd) t11.1 false] [true, true, false] ?_
 refine J.seq ?_
 refine J.region ?_
 refine JL.mv (.int .i64 t6.2) ?_
 refine JL.pur (.bool (decide (t6.2 = 0))) (some 32) ?_
 refine JL.mv (.bool (decide (t6.2 = 0))) ?_
 rcases ite_cases H0 with ⟨h30, H0⟩ | ⟨h30, H0⟩
 · refine JL.on 2 33 h30 ?_
   refine JL.mv (.slice Aa8 t6.1.length c9) ?_
   refine JL.on 2 33 h30 ?_
   refine JL.buildSl 3 ((flInt .i64).kd) (([1, (-3), 1, 1] : List Int) : List Int) [.int .i64 1, .int .i64 (-3), .int .i64 1, .int .i64 1] false (closes_fl rfl) fun b31 => ?_
   refine JL.on 2 33 h30 ?_
   obtain ⟨t32, hc33, H0⟩ := bind_some H0
   refine JL.call [] [] [] (ref13_Same.ok t6.1 Aa8 c9 ([1, (-3), 1, 1] : List Int) (some ⟨b31, 0, none⟩) 4 _ hc33) ⟨pre_view 0 (view_row Aa8 c9 3 ((flInt .i64).kd) t6.1 false true), ⟨pre_view 2 (view_row (some ⟨b31, 0, none⟩) 4 3 ((flInt .i64).kd) ([1, (-3), 1, 1] : List Int) false true), trivial⟩⟩ ?_
   rintro _ _ ⟨rfl, rfl⟩
   refine JL.val (.bool t32) (some 37) (gives_pickT h30) ?_
   refine JL.mv (.bool t32) ?_
   rcases ite_cases H0 with ⟨h34, H0⟩ | ⟨h34, H0⟩
   · refine JL.on 7 38 h34 ?_
     refine JL.mv (.int .i64 t11.2) ?_
     refine JL.on 7 38 h34 ?_
     refine JL.pur (.bool (decide (t11.2 = 0))) (some 40) ?_
     refine JL.val (.bool (decide (t11.2 = 0))) (some 41) (gives_pickT h34) ?_
     refine JL.mv (.bool (decide (t11.2 = 0))) ?_
     rcases ite_cases H0 with ⟨h35, H0⟩ | ⟨h35, H0⟩
     · refine JL.on 11 42 h35 ?_
       refine JL.mv (.slice Aa13 t11.1.length c14) ?_
       refine JL.on 11 42 h35 ?_
       refine JL.buildSl 5 ((flInt .u8).kd) (([83, 3] : List Int) : List Int) [.int .u8 83, .int .u8 3] false (closes_fl rfl) fun b36 => ?_
       refine JL.on 11 42 h35 ?_
       obtain ⟨t37, hc38, H0⟩ := bind_some H0
       refine JL.call [] [] [] (ref13_SameBytes.ok t11.1 Aa13 c14 ([83, 3] : List Int) (some ⟨b36, 0, none⟩) 2 _ hc38) ⟨pre_view 1 (view_row Aa13 c14 5 ((flInt .u8).kd) t11.1 false true), ⟨pre_view 3 (view_row (some ⟨b36, 0, none⟩) 2 5 ((flInt .u8).kd) ([83, 3] : List Int) false true), trivial⟩⟩ ?_
       rintro _ _ ⟨rfl, rfl⟩
       refine JL.val (.bool t37) (some 46) (gives_pickT h35) ?_
       refine JL.mv (.bool t37) ?_
       rcases ite_cases H0 with ⟨h39, H0⟩ | ⟨h39, H0⟩
       · refine JL.on 16 47 h39 ?_
         refine JL.mv (.int .i64 t21.2) ?_
         refine JL.on 16 47 h39 ?_
         refine JL.pur (.bool (decide (t21.2 = 0))) (some 49) ?_
         refine JL.val (.bool (decide (t21.2 = 0))) (some 50) (gives_pickT h39) ?_
         refine JL.mv (.bool (decide (t21.2 = 0))) ?_
         rcases ite_cases H0 with ⟨h40, H0⟩ | ⟨h40, H0⟩
         · refine JL.on 20 51 h40 ?_
           refine JL.mv (.int .i64 t21.1) ?_
           refine JL.on 20 51 h40 ?_
           refine JL.pur (.bool (decide (t21.1 = 6))) (some 53) ?_
           refine JL.val (.bool (decide (t21.1 = 6))) (some 54) (gives_pickT h40) ?_
           refine JL.mv (.bool (decide (t21.1 = 6))) ?_
           rcases ite_cases H0 with ⟨h41, H0⟩ | ⟨h41, H0⟩
           · refine JL.on 24 55 h41 ?_
             refine JL.mv (.int .i64 t28.2) ?_
             refine JL.on 24 55 h41 ?_
             refine JL.pur (.bool (decide (t28.2 = 0))) (some 57) ?_
             refine JL.val (.bool (decide (t28.2 = 0))) (some 58) (gives_pickT h41) ?_
             refine JL.mv (.bool (decide (t28.2 = 0))) ?_
             rcases ite_cases H0 with ⟨h42, H0⟩ | ⟨h42, H0⟩
             · refine JL.on 28 59 h42 ?_
               refine JL.mv (.int .i64 t28.1) ?_
               refine JL.on 28 59 h42 ?_
               refine JL.pur (.bool (decide (t28.1 = 10))) (some 61) ?_
               refine JL.val (.bool (decide (t28.1 = 10))) (some 62) (gives_pickT h42) ?_
               refine JL.as (.bool (decide (t28.1 = 10))) ?_
               refine JL.end_ ?_
               refine JQ.then_normal ?_
               refine JQ.sub [(0, .bool (decide (t28.1 = 10)))] ?_
               refine JQ.mask [] [false, false, false, false] ?_
               refine J.ret ?_
               obtain rfl := Option.some.inj H0
               exact JQ.done' (rs := [.tmp 0]) (vs := [.bool (decide (t28.1 = 10))]) [] (.inr rfl) ⟨by kernel_rfl, trivial⟩ (fun _ h => Heap.to h) ⟨rfl, rfl⟩
             · refine JL.off 28 59 true (some 60) h42 ?_
               refine JL.off 28 59 true (some 61) h42 ?_
               refine JL.val (.bool false) (some 62) (gives_pickF h42) ?_
               refine JL.as (.bool false) ?_
               refine JL.end_ ?_
               refine JQ.then_normal ?_
               refine JQ.sub [(0, .bool false)] ?_
               refine JQ.mask [] [false, false, false, false] ?_
               refine J.ret ?_
               obtain rfl := Option.some.inj H0
               exact JQ.done' (rs := [.tmp 0]) (vs := [.bool false]) [] (.inr rfl) ⟨by kernel_rfl, trivial⟩ (fun _ h => Heap.to h) ⟨rfl, rfl⟩
           · refine JL.off 24 55 true (some 56) h41 ?_
             refine JL.off 24 55 true (some 57) h41 ?_
             refine JL.val (.bool false) (some 58) (gives_pickF h41) ?_
             refine JL.mv (.bool false) ?_
             refine JL.off 28 59 true (some 60) rfl ?_
             refine JL.off 28 59 true (some 61) rfl ?_
             refine JL.val (.bool false) (some 62) (gives_pickF rfl) ?_
             refine JL.as (.bool false) ?_
             refine JL.end_ ?_
             refine JQ.then_normal ?_
             refine JQ.sub [(0, .bool false)] ?_
             refine JQ.mask [] [false, false, false, false] ?_
             refine J.ret ?_
             obtain rfl := Option.some.inj H0
             exact JQ.done' (rs := [.tmp 0]) (vs := [.bool false]) [] (.inr rfl) ⟨by kernel_rfl, trivial⟩ (fun _ h => Heap.to h) ⟨rfl, rfl⟩
         · refine JL.off 20 51 true (some 52) h40 ?_
           refine JL.off 20 51 true (some 53) h40 ?_
           refine JL.val (.bool false) (some 54) (gives_pickF h40) ?_
           refine JL.mv (.bool false) ?_
           refine JL.off 24 55 true (some 56) rfl ?_
           refine JL.off 24 55 true (some 57) rfl ?_
           refine JL.val (.bool false) (some 58) (gives_pickF rfl) ?_
           refine JL.mv (.bool false) ?_
           refine JL.off 28 59 true (some 60) rfl ?_
           refine JL.off 28 59 true (some 61) rfl ?_
           refine JL.val (.bool false) (some 62) (gives_pickF rfl) ?_
           refine JL.as (.bool false) ?_
           refine JL.end_ ?_
           refine JQ.then_normal ?_
           refine JQ.sub [(0, .bool false)] ?_
           refine JQ.mask [] [false, false, false, false] ?_
           refine J.ret ?_
           obtain rfl := Option.some.inj H0
           exact JQ.done' (rs := [.tmp 0]) (vs := [.bool false]) [] (.inr rfl) ⟨by kernel_rfl, trivial⟩ (fun _ h => Heap.to h) ⟨rfl, rfl⟩
       · refine JL.off 16 47 true (some 48) h39 ?_
         refine JL.off 16 47 true (some 49) h39 ?_
         refine JL.val (.bool false) (some 50) (gives_pickF h39) ?_
         refine JL.mv (.bool false) ?_
         refine JL.off 20 51 true (some 52) rfl ?_
         refine JL.off 20 51 true (some 53) rfl ?_
         refine JL.val (.bool false) (some 54) (gives_pickF rfl) ?_
         refine JL.mv (.bool false) ?_
         refine JL.off 24 55 true (some 56) rfl ?_
         refine JL.off 24 55 true (some 57) rfl ?_
         refine JL.val (.bool false) (some 58) (gives_pickF rfl) ?_
         refine JL.mv (.bool false) ?_
         refine JL.off 28 59 true (some 60) rfl ?_
         refine JL.off 28 59 true (some 61) rfl ?_
         refine JL.val (.bool false) (some 62) (gives_pickF rfl) ?_
         refine JL.as (.bool false) ?_
         refine JL.end_ ?_
         refine JQ.then_normal ?_
         refine JQ.sub [(0, .bool false)] ?_
         refine JQ.mask [] [false, false, false, false] ?_
         refine J.ret ?_
         obtain rfl := Option.some.inj H0
         exact JQ.done' (rs := [.tmp 0]) (vs := [.bool false]) [] (.inr rfl) ⟨by kernel_rfl, trivial⟩ (fun _ h => Heap.to h) ⟨rfl, rfl⟩
     · refine JL.off 11 42 true (some 43) h35 ?_
       refine JL.off 11 42 true (some 44) h35 ?_
       refine JL.off 11 42 true (some 45) h35 ?_
       refine JL.val (.bool false) (some 46) (gives_pickF h35) ?_
       refine JL.mv (.bool false) ?_
       refine JL.off 16 47 true (some 48) rfl ?_
       refine JL.off 16 47 true (some 49) rfl ?_
       refine JL.val (.bool false) (some 50) (gives_pickF rfl) ?_
       refine JL.mv (.bool false) ?_
       refine JL.off 20 51 true (some 52) rfl ?_
       refine JL.off 20 51 true (some 53) rfl ?_
       refine JL.val (.bool false) (some 54) (gives_pickF rfl) ?_
       refine JL.mv (.bool false) ?_
       refine JL.off 24 55 true (some 56) rfl ?_
       refine JL.off 24 55 true (some 57) rfl ?_
       refine JL.val (.bool false) (some 58) (gives_pickF rfl) ?_
       refine JL.mv (.bool false) ?_
       refine JL.off 28 59 true (some 60) rfl ?_
       refine JL.off 28 59 true (some 61) rfl ?_
       refine JL.val (.bool false) (some 62) (gives_pickF rfl) ?_
       refine JL.as (.bool false) ?_
       refine JL.end_ ?_
       refine JQ.then_normal ?_
       refine JQ.sub [(0, .bool false)] ?_
       refine JQ.mask [] [false, false, false] ?_
       refine J.ret ?_
       obtain rfl := Option.some.inj H0
       exact JQ.done' (rs := [.tmp 0]) (vs := [.bool false]) [] (.inr rfl) ⟨by kernel_rfl, trivial⟩ (fun _ h => Heap.to h) ⟨rfl, rfl⟩
   · refine JL.off 7 38 true (some 39) h34 ?_
     refine JL.off 7 38 true (some 40) h34 ?_
     refine JL.val (.bool false) (some 41) (gives_pickF h34) ?_
     refine JL.mv (.bool false) ?_
     refine JL.off 11 42 true (some 43) rfl ?_
     refine JL.off 11 42 true (some 44) rfl ?_
     refine JL.off 11 42 true (some 45) rfl ?_
     refine JL.val (.bool false) (some 46) (gives_pickF rfl) ?_
     refine JL.mv (.bool false) ?_
     refine JL.off 16 47 true (some 48) rfl ?_
     refine JL.off 16 47 true (some 49) rfl ?_
     refine JL.val (.bool false) (some 50) (gives_pickF rfl) ?_
     refine JL.mv (.bool false) ?_
     refine JL.off 20 51 true (some 52) rfl ?_
     refine JL.off 20 51 true (some 53) rfl ?_
     refine JL.val (.bool false) (some 54) (gives_pickF rfl) ?_
     refine JL.mv (.bool false) ?_
     refine JL.off 24 55 true (some 56) rfl ?_
     refine JL.off 24 55 true (some 57) rfl ?_
     refine JL.val (.bool false) (some 58) (gives_pickF rfl) ?_
     refine JL.mv (.bool false) ?_
     refine JL.off 28 59 true (some 60) rfl ?_
     refine JL.off 28 59 true (some 61) rfl ?_
     refine JL.val (.bool false) (some 62) (gives_pickF rfl) ?_
     refine JL.as (.bool false) ?_
     refine JL.end_ ?_
     refine JQ.then_normal ?_
     refine JQ.sub [(0, .bool false)] ?_
     refine JQ.mask [] [false, false, false] ?_
     refine J.ret ?_
     obtain rfl := Option.some.inj H0
     exact JQ.done' (rs := [.tmp 0]) (vs := [.bool false]) [] (.inr rfl) ⟨by kernel_rfl, trivial⟩ (fun _ h => Heap.to h) ⟨rfl, rfl⟩
 · refine JL.off 2 33 true (some 34) h30 ?_
   refine JL.off 2 33 true (some 35) h30 ?_
   refine JL.off 2 33 true (some 36) h30 ?_
   refine JL.val (.bool false) (some 37) (gives_pickF h30) ?_
   refine JL.mv (.bool false) ?_
   refine JL.off 7 38 true (some 39) rfl ?_
   refine JL.off 7 38 true (some 40) rfl ?_
   refine JL.val (.bool false) (some 41) (gives_pickF rfl) ?_
   refine JL.mv (.bool false) ?_
   refine JL.off 11 42 true (some 43) rfl ?_
   refine JL.off 11 42 true (some 44) rfl ?_
   refine JL.off 11 42 true (some 45) rfl ?_
   refine JL.val (.bool false) (some 46) (gives_pickF rfl) ?_
   refine JL.mv (.bool false) ?_
   refine JL.off 16 47 true (some 48) rfl ?_
   refine JL.off 16 47 true (some 49) rfl ?_
   refine JL.val (.bool false) (some 50) (gives_pickF rfl) ?_
   refine JL.mv (.bool false) ?_
   refine JL.off 20 51 true (some 52) rfl ?_
   refine JL.off 20 51 true (some 53) rfl ?_
   refine JL.val (.bool false) (some 54) (gives_pickF rfl) ?_
   refine JL.mv (.bool false) ?_
   refine JL.off 24 55 true (some 56) rfl ?_
   refine JL.off 24 55 true (some 57) rfl ?_
   refine JL.val (.bool false) (some 58) (gives_pickF rfl) ?_
   refine JL.mv (.bool false) ?_
   refine JL.off 28 59 true (some 60) rfl ?_
   refine JL.off 28 59 true (some 61) rfl ?_
   refine JL.val (.bool false) (some 62) (gives_pickF rfl) ?_
   refine JL.as (.bool false) ?_
   refine JL.end_ ?_
   refine JQ.then_normal ?_
   refine JQ.sub [(0, .bool false)] ?_
   refine JQ.mask [] [false, false] ?_
   refine J.ret ?_
   obtain rfl := Option.some.inj H0
   exact JQ.done' (rs := [.tmp 0]) (vs := [.bool false]) [] (.inr rfl) ⟨by kernel_rfl, trivial⟩ (fun _ h => Heap.to h) ⟨rfl, rfl⟩

theorem ref13_Long.ok (l1 : (List Int)) (Aa2 : Option Addr) (c3 : Nat) (r : Bool) (H0 : ref13_Long.f l1 = some r) :
    Does Try.prog 9 [.slice Aa2 l1.length c3].toArray [At.rd Aa2 c3 ((flInt .i64).kd) l1 true] [] false (fun v Δ => v = .bool r ∧ Δ = []) := by
 refine Does.body (vs := [.slice Aa2 l1.length c3]) Try.func9 rfl ⟨.inl rfl, trivial⟩ trivial fun w S => ?_
 unfold ref13_Long.f at H0
 refine J.seq ?_
 refine J.region ?_
 refine JL.as (.bool false) ?_
 refine JL.end_ ?_
 refine JQ.then_normal ?_
 refine JQ.sub [(0, .slice Aa2 l1.length c3)] ?_
 refine J.seq ?_
 refine J.region ?_
 refine JL.mv (.slice Aa2 l1.length c3) ?_
 refine JL.pur (.int .i64 (l1.length : Int)) (some 4) ?_
 refine JL.pur (.bool (decide (300 < (l1.length : Int)))) (some 5) ?_
 refine JL.as (.bool (decide (300 < (l1.length : Int)))) ?_
 refine JL.end_ ?_
 refine JQ.then_normal ?_
 refine JQ.sub [(2, .bool (decide (300 < (l1.length : Int))))] ?_
 refine JQ.mask [] [false] ?_
 refine J.ret ?_
 obtain rfl := Option.some.inj H0
 exact JQ.done' (rs := [.tmp 2]) (vs := [.bool (decide (300 < (l1.length : Int)))]) [] (.inr rfl) ⟨by kernel_rfl, trivial⟩ (fun _ h => Heap.to h) ⟨rfl, rfl⟩

theorem ref13_Levels.ok (l1 : (List Int)) (Aa2 : Option Addr) (c3 : Nat) (r : Int) (H0 : ref13_Levels.f l1 = some r) :
    Does Try.prog 25 [.slice Aa2 l1.length c3].toArray [At.rd Aa2 c3 ((flInt .i64).kd) l1 true] [] false (fun v Δ => v = .int .i64 r ∧ Δ = []) := by
 refine Does.body (vs := [.slice Aa2 l1.length c3]) Try.func25 rfl ⟨.inl rfl, trivial⟩ trivial fun w S => ?_
 unfold ref13_Levels.f at H0
 refine J.seq ?_
 refine J.region ?_
 refine JL.as (.int .i64 0) ?_
 refine JL.end_ ?_
 refine JQ.then_normal ?_
 refine JQ.sub [(0, .slice Aa2 l1.length c3)] ?_
 refine J.seq ?_
 refine J.seq ?_
 refine J.region ?_
 refine JL.mv (.slice Aa2 l1.length c3) ?_
 refine JL.pur (.int .i64 (l1.length : Int)) (some 5) ?_
 refine JL.pur (.bool (decide (256 < (l1.length : Int)))) (some 6) ?_
 refine JL.end_ ?_
 refine JQ.then_normal ?_
 refine JQ.sub [(0, .slice Aa2 l1.length c3), (6, .bool (decide (256 < (l1.length : Int))))] ?_
 rcases ite_cases H0 with ⟨h5, H0⟩ | ⟨h5, H0⟩
 · refine J.cond_true h5 ?_
   refine J.seq ?_
   refine J.region ?_
   refine JL.as (.int .i64 4) ?_
   refine JL.end_ ?_
   refine JQ.then_normal ?_
   refine JQ.sub [(2, .int .i64 4)] ?_
   refine JQ.mask [] [false] ?_
   refine J.ret ?_
   refine JQ.then_ret ?_
   obtain rfl := Option.some.inj H0
   exact JQ.done' (rs := [.tmp 2]) (vs := [.int .i64 4]) [] (.inr rfl) ⟨by kernel_rfl, trivial⟩ (fun _ h => Heap.to h) ⟨rfl, rfl⟩
 · refine J.cond_false h5 ?_
   refine J.skip ?_
   refine JQ.then_normal ?_
   refine JQ.sub [(0, .slice Aa2 l1.length c3)] ?_
   refine J.seq ?_
   refine J.seq ?_
   refine J.region ?_
   refine JL.as (.int .i64 0) ?_
   refine JL.end_ ?_
   refine JQ.then_normal ?_
   obtain ⟨o1, hit, H0⟩ := bind_some H0
   refine J.loop (σ := Int) (τ := Unit) (G := Unit) (G' := Unit) _ o1 (fun s g => [(0, .slice Aa2 l1.length c3), (3, .int .i64 s)]) (fun s g => [At.rd Aa2 c3 ((flInt .i64).kd) l1 true]) (fun t => ref13_Levels.k5 = some r) (fun t g => []) (fun t g => []) 0 () hit (fun _ h => Heap.to h) ?_ ?_
   · clear hit
     rintro i50 ⟨⟩ st1 H1 hb1 hr1
     replace H1 : ref13_Levels.s4 l1 i50 = some st1 := H1
     unfold ref13_Levels.s4 at H1
     refine JQ.sub [(0, .slice Aa2 l1.length c3), (3, .int .i64 i50)] ?_
     refine JQ.turn (Δ' := [At.rd Aa2 c3 ((flInt .i64).kd) l1 true]) (fun _ h => h.to) ?_
     refine J.seq ?_
     refine J.seq ?_
     refine J.region ?_
     refine JL.mv (.int .i64 i50) ?_
     refine JL.mv (.slice Aa2 l1.length c3) ?_
     refine JL.pur (.int .i64 (l1.length : Int)) (some 9) ?_
     refine JL.pur (.bool (decide (i50 < (l1.length : Int)))) (some 10) ?_
     refine JL.end_ ?_
     refine JQ.then_normal ?_
     refine JQ.sub [(0, .slice Aa2 l1.length c3), (3, .int .i64 i50), (10, .bool (decide (i50 < (l1.length : Int))))] ?_
     rcases ite_cases H1 with ⟨h72, H1⟩ | ⟨h72, H1⟩
     · refine J.cond_true h72 ?_
       refine J.skip ?_
       refine JQ.then_normal ?_
       refine JQ.sub [(0, .slice Aa2 l1.length c3), (3, .int .i64 i50)] ?_
       refine J.seq ?_
       refine J.block ?_
       refine J.join (T := Bool) (G := Unit) (fun t => ref13_Levels.k6 i50 t = some st1) (fun t g => [(0, .slice Aa2 l1.length c3), (3, .int .i64 i50), (24, .bool t)]) (fun t g => [At.rd Aa2 c3 ((flInt .i64).kd) l1 true]) ?_ ?_
       · refine J.region ?_
         refine JL.mv (.slice Aa2 l1.length c3) ?_
         refine JL.mv (.int .i64 i50) ?_
         obtain ⟨⟨h84, h85⟩, H1⟩ := ite_must H1
         refine JL.ixAddr 0 1 c3 .i64 (elems_rd Aa2 c3 ((flInt .i64).kd) l1 true) Try.underlying22 tySize_3 h84 h85 fun g86 o87 hA => ?_
         subst hA
         refine JL.val (.int .i64 (ix l1 i50)) (some 16) (gives_loadEl (f := (flInt .i64)) 0 0 i50 (elems_rd (some ⟨g86, o87, none⟩) c3 ((flInt .i64).kd) l1 true) h84 h85 tySize_3 (.inr ⟨tyAgg_3, rfl, rfl⟩)) ?_
         refine JL.pur (.bool (decide ((ix l1 i50) < (-1000000)))) (some 17) ?_
         refine JL.mv (.bool (decide ((ix l1 i50) < (-1000000)))) ?_
         rcases ite_cases H1 with ⟨h88, H1⟩ | ⟨h88, H1⟩
         · refine JL.off 5 18 false (some 19) h88 ?_
           refine JL.off 5 18 false (some 20) h88 ?_
           refine JL.off 5 18 false (some 21) h88 ?_
           refine JL.off 5 18 false (some 22) h88 ?_
           refine JL.off 5 18 false (some 23) h88 ?_
           refine JL.val (.bool true) (some 24) (gives_pickT h88) ?_
           refine JL.end_ ?_
           refine JQ.then_normal ?_
           exact JQ.meet true () H1 (fun _ h => Heap.to h)
         · refine JL.on 5 18 h88 ?_
           refine JL.mv (.slice (some ⟨g86, o87, none⟩) l1.length c3) ?_
           refine JL.on 5 18 h88 ?_
           refine JL.mv (.int .i64 i50) ?_
           refine JL.on 5 18 h88 ?_
           refine JL.ixAddr' 0 1 c3 .i64 (elems_rd (some ⟨g86, o87, none⟩) c3 ((flInt .i64).kd) l1 true) Try.underlying22 tySize_3 h84 h85 ?_
           refine JL.on 5 18 h88 ?_
           refine JL.val (.int .i64 (ix l1 i50)) (some 22) (gives_loadEl (f := (flInt .i64)) 0 0 i50 (elems_rd (some ⟨g86, o87, none⟩) c3 ((flInt .i64).kd) l1 true) h84 h85 tySize_3 (.inr ⟨tyAgg_3, rfl, rfl⟩)) ?_
           refine JL.on 5 18 h88 ?_
           refine JL.pur (.bool (decide (1000000 < (ix l1 i50)))) (some 23) ?_
           refine JL.val (.bool (decide (1000000 < (ix l1 i50)))) (some 24) (gives_pickF h88) ?_
           refine JL.end_ ?_
           refine JQ.then_normal ?_
           exact JQ.meet (decide (1000000 < (ix l1 i50))) () H1 (fun _ h => Heap.to h)
       · clear H1
         rintro x82 ⟨⟩ H1
         replace H1 : ref13_Levels.k6 i50 x82 = some st1 := H1
         unfold ref13_Levels.k6 at H1
         refine JQ.sub [(0, .slice Aa2 l1.length c3), (3, .int .i64 i50), (24, .bool x82)] ?_
         refine JQ.turn (Δ' := [At.rd Aa2 c3 ((flInt .i64).kd) l1 true]) (fun _ h => h.to) ?_
         rcases ite_cases H1 with ⟨h83, H1⟩ | ⟨h83, H1⟩
         · refine J.cond_true h83 ?_
           refine J.seq ?_
           refine J.region ?_
           refine JL.as (.int .i64 8) ?_
           refine JL.end_ ?_
           refine JQ.then_normal ?_
           refine JQ.sub [(2, .int .i64 8)] ?_
           refine JQ.mask [] [false] ?_
           refine J.ret ?_
           refine JQ.blk_ret ?_
           refine JQ.then_ret ?_
           refine JQ.then_ret ?_
           refine JQ.blk_ret ?_
           refine JQ.met_ret ?_
           refine JQ.then_ret ?_
           rw [hr1 _ (Option.some.inj H1).symm, fin_ret] at H0
           obtain rfl := Option.some.inj H0
           exact JQ.done' (rs := [.tmp 2]) (vs := [.int .i64 8]) [] (.inr rfl) ⟨by kernel_rfl, trivial⟩ (fun _ h => Heap.to h) ⟨rfl, rfl⟩
         · refine J.cond_false h83 ?_
           refine J.skip ?_
           refine JQ.blk_normal ?_
           refine JQ.then_normal ?_
           refine JQ.sub [(0, .slice Aa2 l1.length c3), (3, .int .i64 i50)] ?_
           refine J.region ?_
           refine JL.mv (.int .i64 i50) ?_
           refine JL.pur (.int .i64 (w64 (i50 + 1))) (some 12) ?_
           refine JL.as (.int .i64 (w64 (i50 + 1))) ?_
           refine JL.end_ ?_
           refine JQ.then_normal ?_
           exact JQ.again (w64 (i50 + 1)) () (Option.some.inj H1).symm (fun _ h => Heap.to h)
     · refine J.cond_false h72 ?_
       refine J.exit ?_
       refine JQ.then_exit ?_
       refine JQ.then_exit ?_
       refine JQ.blk_exit ?_
       rw [hb1 _ (Option.some.inj H1).symm, fin_brk] at H0
       exact JQ.met () () H0 (fun _ h => Heap.to (Heap.pick [] (by decide) h))
   · clear hit H0
     rintro ⟨⟩ ⟨⟩ H0
     replace H0 : ref13_Levels.k5 = some r := H0
     unfold ref13_Levels.k5 at H0
     refine JQ.sub [] ?_
     refine JQ.turn (Δ' := []) (fun _ h => h.to) ?_
     refine JQ.then_normal ?_
     refine J.seq ?_
     refine J.region ?_
     refine JL.as (.int .i64 0) ?_
     refine JL.end_ ?_
     refine JQ.then_normal ?_
     refine J.ret ?_
     obtain rfl := Option.some.inj H0
     exact JQ.done' (rs := [.tmp 2]) (vs := [.int .i64 0]) [] (.inr rfl) ⟨by kernel_rfl, trivial⟩ (fun _ h => Heap.to h) ⟨rfl, rfl⟩

theorem sample_Sign.ok (s1 : (List Int)) (Aa2 : Option Addr) (c3 : Nat) (r : ((List Int) × Int)) (H0 : sample_Sign.f s1 = some r) :
    Does Try.prog 14 [.slice Aa2 s1.length c3].toArray [At.rd Aa2 c3 ((flInt .i64).kd) s1 true] [] false (fun v Δ => ∃ A1001 : Option Addr, ∃ c1001 : Nat, v = .tuple #[.slice A1001 r.1.length c1001, .int .i64 r.2] ∧ Δ = [At.row A1001 c1001 3 ((flInt .i64).kd) r.1 false]) := by
 refine Does.body (vs := [.slice Aa2 s1.length c3]) Try.func14 rfl ⟨.inl rfl, trivial⟩ trivial fun w S => ?_
 unfold sample_Sign.f at H0
 refine J.seq ?_
 refine J.region ?_
 refine JL.as (.slice none 0 0) ?_
 refine JL.as (.int .i64 0) ?_
 refine JL.end_ ?_
 refine JQ.then_normal ?_
 refine JQ.sub [(0, .slice Aa2 s1.length c3)] ?_
 refine J.seq ?_
 refine J.seq ?_
 refine J.region ?_
 refine JL.mv (.slice Aa2 s1.length c3) ?_
 obtain ⟨t5, hc6, H0⟩ := bind_some H0
 refine JL.call [] [] [] (sample_Check.ok s1 Aa2 c3 _ hc6) ⟨pre_any 0 (view_rd Aa2 c3 ((flInt .i64).kd) s1 true true), trivial⟩ ?_
 rintro _ _ ⟨rfl, rfl⟩
 refine JL.as (.int .i64 t5) ?_
 refine JL.end_ ?_
 refine JQ.then_normal ?_
 refine JQ.sub [(0, .slice Aa2 s1.length c3), (4, .int .i64 t5)] ?_
 refine J.seq ?_
 refine J.region ?_
 refine JL.mv (.int .i64 t5) ?_
 refine JL.pur (.bool (!decide (t5 = 0))) (some 11) ?_
 refine JL.end_ ?_
 refine JQ.then_normal ?_
 refine JQ.sub [(0, .slice Aa2 s1.length c3), (4, .int .i64 t5), (11, .bool (!decide (t5 = 0)))] ?_
 rcases ite_cases H0 with ⟨h7, H0⟩ | ⟨h7, H0⟩
 · refine J.cond_true h7 ?_
   refine J.seq ?_
   refine J.region ?_
   refine JL.mv (.int .i64 t5) ?_
   refine JL.as (.slice none 0 0) ?_
   refine JL.as (.int .i64 t5) ?_
   refine JL.end_ ?_
   refine JQ.then_normal ?_
   refine JQ.sub [(2, .slice none 0 0), (3, .int .i64 t5)] ?_
   refine JQ.mask [] [false] ?_
   refine J.ret ?_
   refine JQ.then_ret ?_
   obtain rfl := Option.some.inj H0
   exact JQ.done' (rs := [.tmp 2, .tmp 3]) (vs := [.slice none 0 0, .int .i64 t5]) [At.row none 0 3 ((flInt .i64).kd) ([] : List Int) false] (.inr rfl) ⟨by kernel_rfl, by kernel_rfl, trivial⟩ (fun _ h => Heap.to (Heap.addRow0 (α := Int) 3 ((flInt .i64).kd) false h)) ⟨none, 0, rfl, rfl⟩
 · refine J.cond_false h7 ?_
   refine J.skip ?_
   refine JQ.then_normal ?_
   refine JQ.sub [(0, .slice Aa2 s1.length c3)] ?_
   refine J.seq ?_
   refine J.region ?_
   refine JL.as (.slice none 0 0) ?_
   refine JL.end_ ?_
   refine JQ.then_normal ?_
   refine J.seq ?_
   refine J.seq ?_
   refine J.region ?_
   refine JL.mv (.slice Aa2 s1.length c3) ?_
   refine JL.pur (.int .i64 (s1.length : Int)) (some 14) ?_
   refine JL.mv (.int .i64 0) ?_
   refine JL.end_ ?_
   refine JQ.then_normal ?_
   refine JQ.sub [(5, .slice none 0 0), (13, .slice Aa2 s1.length c3), (14, .int .i64 (s1.length : Int)), (15, .int .i64 0)] ?_
   obtain ⟨o1, hit, H0⟩ := bind_some H0
   refine J.loop (σ := ((List Int) × Int)) (τ := List Int) (G := ((Option Addr) × Nat)) (G' := ((Option Addr) × Nat)) _ o1 (fun s g => [(5, .slice g.1 s.1.length g.2), (13, .slice Aa2 s1.length c3), (14, .int .i64 (s1.length : Int)), (15, .int .i64 s.2)]) (fun s g => [At.row g.1 g.2 3 ((flInt .i64).kd) s.1 false, At.rd Aa2 c3 ((flInt .i64).kd) s1 true]) (fun t => sample_Sign.k2 t = some r) (fun t g => [(5, .slice g.1 t.length g.2)]) (fun t g => [At.row g.1 g.2 3 ((flInt .i64).kd) t false]) ([], 0) (none, 0) hit (fun _ h => Heap.to (Heap.pick [1, 0] (by decide) (Heap.addRow0 (α := Int) 3 ((flInt .i64).kd) false h))) ?_ ?_
   · clear hit
     rintro ⟨out37, x41⟩ ⟨Aa38, c39⟩ st1 H1 hb1 hr1
     replace H1 : sample_Sign.s1 s1 out37 x41 = some st1 := H1
     unfold sample_Sign.s1 at H1
     refine JQ.sub [(5, .slice Aa38 out37.length c39), (13, .slice Aa2 s1.length c3), (14, .int .i64 (s1.length : Int)), (15, .int .i64 x41)] ?_
     refine JQ.turn (Δ' := [At.row Aa38 c39 3 ((flInt .i64).kd) out37 false, At.rd Aa2 c3 ((flInt .i64).kd) s1 true]) (fun _ h => h.to) ?_
     refine J.seq ?_
     refine J.region ?_
     refine JL.pur (.bool (decide (x41 < (s1.length : Int)))) (some 16) ?_
     refine JL.end_ ?_
     refine JQ.then_normal ?_
     refine J.seq ?_
     rcases ite_cases H1 with ⟨h55, H1⟩ | ⟨h55, H1⟩
     · refine J.cond_true h55 ?_
       refine J.skip ?_
       refine JQ.then_normal ?_
       refine JQ.sub [(5, .slice Aa38 out37.length c39), (13, .slice Aa2 s1.length c3), (14, .int .i64 (s1.length : Int)), (15, .int .i64 x41)] ?_
       refine J.seq ?_
       refine J.block ?_
       refine J.seq ?_
       refine J.region ?_
       obtain ⟨⟨h56, h57⟩, H1⟩ := ite_must H1
       refine JL.ixAddr 1 1 c3 .i64 (elems_rd Aa2 c3 ((flInt .i64).kd) s1 true) Try.underlying22 tySize_3 h56 h57 fun g58 o59 hA => ?_
       subst hA
       refine JL.val (.int .i64 (ix s1 x41)) (some 18) (gives_loadEl (f := (flInt .i64)) 1 0 x41 (elems_rd (some ⟨g58, o59, none⟩) c3 ((flInt .i64).kd) s1 true) h56 h57 tySize_3 (.inr ⟨tyAgg_3, rfl, rfl⟩)) ?_
       refine JL.as (.int .i64 (ix s1 x41)) ?_
       refine JL.end_ ?_
       refine JQ.then_normal ?_
       refine JQ.sub [(5, .slice Aa38 out37.length c39), (7, .int .i64 (ix s1 x41)), (13, .slice (some ⟨g58, o59, none⟩) s1.length c3), (14, .int .i64 (s1.length : Int)), (15, .int .i64 x41)] ?_
       refine J.region ?_
       refine JL.mv (.slice Aa38 out37.length c39) ?_
       refine JL.mv (.int .i64 (ix s1 x41)) ?_
       refine JL.pur (.int .i64 (gmin 1 (ix s1 x41))) (some 21) ?_
       refine JL.pur (.int .i64 (gmax (-1) (gmin 1 (ix s1 x41)))) (some 22) ?_
       refine JL.buildSl 3 ((flInt .i64).kd) (([(gmax (-1) (gmin 1 (ix s1 x41)))] : List Int) : List Int) [.int .i64 (gmax (-1) (gmin 1 (ix s1 x41)))] false (closes_fl rfl) fun b60 => ?_
       obtain ⟨h63, H1⟩ := ite_must H1
       refine JL.append false false 0 2 Aa38 c39 1 out37 (elems_row (some ⟨b60, 0, none⟩) 1 3 ((flInt .i64).kd) ([(gmax (-1) (gmin 1 (ix s1 x41)))] : List Int) false) Try.underlying22 info_3 (by omega) (by omega) (fun h => h) (.inr ⟨_, rfl⟩) fun Aa61 c62 => ?_
       refine JL.as (.slice Aa61 (out37 ++ ([(gmax (-1) (gmin 1 (ix s1 x41)))] : List Int)).length c62) ?_
       refine JL.end_ ?_
       refine JQ.blk_normal ?_
       refine JQ.then_normal ?_
       refine JQ.sub [(5, .slice Aa61 (out37 ++ ([(gmax (-1) (gmin 1 (ix s1 x41)))] : List Int)).length c62), (13, .slice (some ⟨g58, o59, none⟩) s1.length c3), (14, .int .i64 (s1.length : Int)), (15, .int .i64 x41)] ?_
       refine JQ.mask [At.row Aa61 c62 3 ((flInt .i64).kd) (out37 ++ ([(gmax (-1) (gmin 1 (ix s1 x41)))] : List Int)) false, At.rd (some ⟨g58, o59, none⟩) c3 ((flInt .i64).kd) s1 true] [true, true, false] ?_
       refine J.region ?_
       refine JL.pur (.int .i64 (w64 (x41 + 1))) (some 25) ?_
       refine JL.mv (.int .i64 (w64 (x41 + 1))) ?_
       refine JL.end_ ?_
       refine JQ.then_normal ?_
       exact JQ.again ((out37 ++ ([(gmax (-1) (gmin 1 (ix s1 x41)))] : List Int)), w64 (x41 + 1)) (Aa61, c62) (Option.some.inj H1).symm (fun _ h => Heap.to h)
     · refine J.cond_false h55 ?_
       refine J.exit ?_
       refine JQ.then_exit ?_
       refine JQ.then_exit ?_
       refine JQ.blk_exit ?_
       rw [hb1 _ (Option.some.inj H1).symm, fin_brk] at H0
       exact JQ.met out37 (Aa38, c39) H0 (fun _ h => Heap.to (Heap.pick [0] (by decide) h))
   · clear hit H0
     rintro out51 ⟨Aa52, c53⟩ H0
     replace H0 : sample_Sign.k2 out51 = some r := H0
     unfold sample_Sign.k2 at H0
     refine JQ.sub [(5, .slice Aa52 out51.length c53)] ?_
     refine JQ.turn (Δ' := [At.row Aa52 c53 3 ((flInt .i64).kd) out51 false]) (fun _ h => h.to) ?_
     refine JQ.then_normal ?_
     refine J.seq ?_
     refine J.region ?_
     refine JL.mv (.slice Aa52 out51.length c53) ?_
     refine JL.as (.slice Aa52 out51.length c53) ?_
     refine JL.as (.int .i64 0) ?_
     refine JL.end_ ?_
     refine JQ.then_normal ?_
     refine JQ.sub [(2, .slice Aa52 out51.length c53), (3, .int .i64 0)] ?_
     refine J.ret ?_
     obtain rfl := Option.some.inj H0
     exact JQ.done' (rs := [.tmp 2, .tmp 3]) (vs := [.slice Aa52 out51.length c53, .int .i64 0]) [At.row Aa52 c53 3 ((flInt .i64).kd) out51 false] (.inr rfl) ⟨by kernel_rfl, by kernel_rfl, trivial⟩ (fun _ h => Heap.to h) ⟨Aa52, c53, rfl, rfl⟩


end Go.Proofs.Ytlemaejpllhjnaa.M
