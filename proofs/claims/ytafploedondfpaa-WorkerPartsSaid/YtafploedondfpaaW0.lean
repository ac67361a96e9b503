import Derived.Test.YtafploedondfpaaGw18
import Derived.Test.YtafploedondfpaaProg
import Derived.Test.YtafploedondfpaaM0
set_option linter.unusedVariables false
set_option linter.unusedSimpArgs false
set_option maxRecDepth 100000
set_option maxHeartbeats 8000000
namespace Go.Proofs.Ytafploedondfpaa.M
open Go.GW Go.Proofs

def zv_74 : Count := (⟨0, 0⟩ : Count)
def mv_79 (x : Gap) : Value := .agg #[.int .i64 x.At, .int .i64 x.Many]
def cl_79 (x : Gap) : List Value := [.int .i64 x.At, .int .i64 x.Many]
def mv_74 (x : Count) : Value := .agg #[.int .i64 x.Hi, .int .i64 x.Lo]
def cl_74 (x : Count) : List Value := [.int .i64 x.Hi, .int .i64 x.Lo]
def mv_65 (x : Lag) : Value := .agg #[.int .i64 x.Sum, .int .i64 x.N]
def cl_65 (x : Lag) : List Value := [.int .i64 x.Sum, .int .i64 x.N]
theorem eqg_65 : Try.prog.eqGuardType Try.prog.depth 65 = false := by kernel_rfl
theorem eqd_65 (d : Nat) (x y : Lag) (w : World) : (Op.equalIn (d + 2) 65 (.agg #[.int .i64 x.Sum, .int .i64 x.N]) (.agg #[.int .i64 y.Sum, .int .i64 y.N])).run Try.prog w = .ok (decide (x = y)) w := by
  have h : decide (x = y) = (decide (x.Sum = y.Sum) && (decide (x.N = y.N) && true)) := by cases x; cases y; simp
  rw [h]
  exact eqs_of Try.underlying65 (eqf_cons (eq_int d 3 .i64 x.Sum y.Sum w Try.underlying3) (eqf_cons (eq_int d 3 .i64 x.N y.N w Try.underlying3) eqf_nil))
theorem eqt_65 (x y : Lag) (w : World) : (Op.equal 65 (.agg #[.int .i64 x.Sum, .int .i64 x.N]) (.agg #[.int .i64 y.Sum, .int .i64 y.N])).run Try.prog w = .ok (decide (x = y)) w := eqd_65 9998 x y w
theorem eqg_74 : Try.prog.eqGuardType Try.prog.depth 74 = false := by kernel_rfl
theorem eqd_74 (d : Nat) (x y : Count) (w : World) : (Op.equalIn (d + 2) 74 (.agg #[.int .i64 x.Hi, .int .i64 x.Lo]) (.agg #[.int .i64 y.Hi, .int .i64 y.Lo])).run Try.prog w = .ok (decide (x = y)) w := by
  have h : decide (x = y) = (decide (x.Hi = y.Hi) && (decide (x.Lo = y.Lo) && true)) := by cases x; cases y; simp
  rw [h]
  exact eqs_of Try.underlying74 (eqf_cons (eq_int d 2 .i64 x.Hi y.Hi w Try.underlying2) (eqf_cons (eq_int d 2 .i64 x.Lo y.Lo w Try.underlying2) eqf_nil))
theorem eqt_74 (x y : Count) (w : World) : (Op.equal 74 (.agg #[.int .i64 x.Hi, .int .i64 x.Lo]) (.agg #[.int .i64 y.Hi, .int .i64 y.Lo])).run Try.prog w = .ok (decide (x = y)) w := eqd_74 9998 x y w
theorem eqg_79 : Try.prog.eqGuardType Try.prog.depth 79 = false := by kernel_rfl
theorem eqd_79 (d : Nat) (x y : Gap) (w : World) : (Op.equalIn (d + 2) 79 (.agg #[.int .i64 x.At, .int .i64 x.Many]) (.agg #[.int .i64 y.At, .int .i64 y.Many])).run Try.prog w = .ok (decide (x = y)) w := by
  have h : decide (x = y) = (decide (x.At = y.At) && (decide (x.Many = y.Many) && true)) := by cases x; cases y; simp
  rw [h]
  exact eqs_of Try.underlying79 (eqf_cons (eq_int d 3 .i64 x.At y.At w Try.underlying3) (eqf_cons (eq_int d 3 .i64 x.Many y.Many w Try.underlying3) eqf_nil))
theorem eqt_79 (x y : Gap) (w : World) : (Op.equal 79 (.agg #[.int .i64 x.At, .int .i64 x.Many]) (.agg #[.int .i64 y.At, .int .i64 y.Many])).run Try.prog w = .ok (decide (x = y)) w := eqd_79 9998 x y w
theorem info_3 : (Try.prog.info? 3).map (fun i => (i.zero, i.size, i.bytes)) = some (some (.int .i64 0), 1, 8) := by kernel_rfl
theorem info_4 : (Try.prog.info? 4).map (fun i => (i.zero, i.size, i.bytes)) = some (some (.bool false), 1, 1) := by kernel_rfl
theorem info_65 : (Try.prog.info? 65).map (fun i => (i.zero, i.size, i.bytes)) = some (some (.agg #[.int .i64 0, .int .i64 0]), 2, 16) := by kernel_rfl
theorem info_74 : (Try.prog.info? 74).map (fun i => (i.zero, i.size, i.bytes)) = some (some (.agg #[.int .i64 0, .int .i64 0]), 2, 16) := by kernel_rfl
theorem tyAgg_3 : tyAgg Try.prog 3 = some false := by kernel_rfl
theorem tyAgg_4 : tyAgg Try.prog 4 = some false := by kernel_rfl
theorem tyAgg_22 : tyAgg Try.prog 22 = some false := by kernel_rfl
theorem tyAgg_24 : tyAgg Try.prog 24 = some true := by kernel_rfl
theorem tyAgg_36 : tyAgg Try.prog 36 = some false := by kernel_rfl
theorem tyAgg_37 : tyAgg Try.prog 37 = some false := by kernel_rfl
theorem tyAgg_39 : tyAgg Try.prog 39 = some true := by kernel_rfl
theorem tyAgg_40 : tyAgg Try.prog 40 = some false := by kernel_rfl
theorem tyAgg_42 : tyAgg Try.prog 42 = some true := by kernel_rfl
theorem tyAgg_65 : tyAgg Try.prog 65 = some true := by kernel_rfl
theorem tyAgg_74 : tyAgg Try.prog 74 = some true := by kernel_rfl
theorem tyAgg_79 : tyAgg Try.prog 79 = some true := by kernel_rfl
theorem tySize_3 : tySize Try.prog 3 = some 1 := by kernel_rfl
theorem tySize_4 : tySize Try.prog 4 = some 1 := by kernel_rfl
theorem tySize_22 : tySize Try.prog 22 = some 1 := by kernel_rfl
theorem tySize_24 : tySize Try.prog 24 = some 4 := by kernel_rfl
theorem tySize_36 : tySize Try.prog 36 = some 1 := by kernel_rfl
theorem tySize_39 : tySize Try.prog 39 = some 3 := by kernel_rfl
theorem tySize_42 : tySize Try.prog 42 = some 5 := by kernel_rfl
theorem tySize_65 : tySize Try.prog 65 = some 2 := by kernel_rfl
theorem tySize_74 : tySize Try.prog 74 = some 2 := by kernel_rfl
theorem tySize_79 : tySize Try.prog 79 = some 2 := by kernel_rfl
theorem ref13_Long.ok (l1 : (List Int)) (Aa2 : Option Addr) (c3 : Nat) (r : Bool) (H0 : ref13_Long.f l1 = some r) :
    Does Try.prog 16 [.slice Aa2 l1.length c3].toArray [At.rd Aa2 c3 ((flInt .i64).kd) l1 true] [] false (fun v Δ => v = .bool r ∧ Δ = []) := by
 refine Does.body (vs := [.slice Aa2 l1.length c3]) Try.func16 rfl ⟨.inl rfl, trivial⟩ trivial fun w S => ?_
 unfold ref13_Long.f at H0
 refine J.seq ?_
 refine J.region ?_
 refine JL.as (.bool false) ?_
 refine JL.nil ?_
 refine JQ.then_normal ?_
 refine JQ.sub [(0, .slice Aa2 l1.length c3)] ?_
 refine J.seq ?_
 refine J.region ?_
 refine JL.mv (.slice Aa2 l1.length c3) ?_
 refine JL.pur (.int .i64 (l1.length : Int)) (some 4) ?_
 refine JL.pur (.bool (decide (300 < (l1.length : Int)))) (some 5) ?_
 refine JL.as (.bool (decide (300 < (l1.length : Int)))) ?_
 refine JL.nil ?_
 refine JQ.then_normal ?_
 refine JQ.sub [(2, .bool (decide (300 < (l1.length : Int))))] ?_
 refine JQ.mask [] [false] ?_
 refine J.ret ?_
 obtain rfl := Option.some.inj H0
 exact JQ.done' (rs := [.tmp 2]) (vs := [.bool (decide (300 < (l1.length : Int)))]) [] (.inr rfl) ⟨by kernel_rfl, trivial⟩ (fun _ h => Heap.to h) ⟨rfl, rfl⟩

theorem ref13_Digit.ok (x1 : Int) (r : Int) (H0 : ref13_Digit.f x1 = some r) :
    Does Try.prog 34 [.int .i64 x1].toArray [] [] false (fun v Δ => v = .int .i64 r ∧ Δ = []) := by
 refine Does.body (vs := [.int .i64 x1]) Try.func34 rfl trivial trivial fun w S => ?_
 unfold ref13_Digit.f at H0
 refine J.seq ?_
 refine J.region ?_
 refine JL.as (.int .i64 0) ?_
 refine JL.nil ?_
 refine JQ.then_normal ?_
 refine JQ.sub [(0, .int .i64 x1)] ?_
 refine J.seq ?_
 refine J.seq ?_
 refine J.region ?_
 refine JL.mv (.int .i64 x1) ?_
 refine JL.nil ?_
 refine JQ.then_normal ?_
 refine JQ.sub [(3, .int .i64 x1)] ?_
 refine J.block ?_
 refine J.seq ?_
 refine J.region ?_
 refine JL.pur (.bool (decide (x1 = 0))) (some 5) ?_
 refine JL.as (.bool (decide (x1 = 0))) ?_
 refine JL.nil ?_
 refine JQ.then_normal ?_
 refine JQ.sub [(3, .int .i64 x1), (4, .bool (decide (x1 = 0)))] ?_
 rcases ite_cases H0 with ⟨h2, H0⟩ | ⟨h2, H0⟩
 · refine J.cond_true h2 ?_
   refine J.seq ?_
   refine J.region ?_
   refine JL.as (.int .i64 0) ?_
   refine JL.nil ?_
   refine JQ.then_normal ?_
   refine JQ.sub [(2, .int .i64 0)] ?_
   refine J.ret ?_
   refine JQ.blk_ret ?_
   refine JQ.then_ret ?_
   obtain rfl := Option.some.inj H0
   exact JQ.done' (rs := [.tmp 2]) (vs := [.int .i64 0]) [] (.inr rfl) ⟨by kernel_rfl, trivial⟩ (fun _ h => Heap.to h) ⟨rfl, rfl⟩
 · refine J.cond_false h2 ?_
   refine J.seq ?_
   refine J.region ?_
   refine JL.pur (.bool (decide (x1 = (-3)))) (some 7) ?_
   refine JL.as (.bool (decide (x1 = (-3)))) ?_
   refine JL.nil ?_
   refine JQ.then_normal ?_
   refine JQ.sub [(3, .int .i64 x1), (6, .bool (decide (x1 = (-3))))] ?_
   rcases ite_cases H0 with ⟨h3, H0⟩ | ⟨h3, H0⟩
   · refine J.cond_true h3 ?_
     refine J.seq ?_
     refine J.region ?_
     refine JL.as (.int .i64 1) ?_
     refine JL.nil ?_
     refine JQ.then_normal ?_
     refine JQ.sub [(2, .int .i64 1)] ?_
     refine J.ret ?_
     refine JQ.blk_ret ?_
     refine JQ.then_ret ?_
     obtain rfl := Option.some.inj H0
     exact JQ.done' (rs := [.tmp 2]) (vs := [.int .i64 1]) [] (.inr rfl) ⟨by kernel_rfl, trivial⟩ (fun _ h => Heap.to h) ⟨rfl, rfl⟩
   · refine J.cond_false h3 ?_
     refine J.seq ?_
     refine J.region ?_
     refine JL.pur (.bool (decide (x1 = (-1)))) (some 9) ?_
     refine JL.as (.bool (decide (x1 = (-1)))) ?_
     refine JL.nil ?_
     refine JQ.then_normal ?_
     refine JQ.sub [(3, .int .i64 x1), (8, .bool (decide (x1 = (-1))))] ?_
     rcases ite_cases H0 with ⟨h4, H0⟩ | ⟨h4, H0⟩
     · refine J.cond_true h4 ?_
       refine J.seq ?_
       refine J.region ?_
       refine JL.as (.int .i64 2) ?_
       refine JL.nil ?_
       refine JQ.then_normal ?_
       refine JQ.sub [(2, .int .i64 2)] ?_
       refine J.ret ?_
       refine JQ.blk_ret ?_
       refine JQ.then_ret ?_
       obtain rfl := Option.some.inj H0
       exact JQ.done' (rs := [.tmp 2]) (vs := [.int .i64 2]) [] (.inr rfl) ⟨by kernel_rfl, trivial⟩ (fun _ h => Heap.to h) ⟨rfl, rfl⟩
     · refine J.cond_false h4 ?_
       refine J.seq ?_
       refine J.region ?_
       refine JL.pur (.bool (decide (x1 = 1))) (some 11) ?_
       refine JL.as (.bool (decide (x1 = 1))) ?_
       refine JL.nil ?_
       refine JQ.then_normal ?_
       refine JQ.sub [(3, .int .i64 x1), (10, .bool (decide (x1 = 1)))] ?_
       rcases ite_cases H0 with ⟨h5, H0⟩ | ⟨h5, H0⟩
       · refine J.cond_true h5 ?_
         refine J.seq ?_
         refine J.region ?_
         refine JL.as (.int .i64 3) ?_
         refine JL.nil ?_
         refine JQ.then_normal ?_
         refine JQ.sub [(2, .int .i64 3)] ?_
         refine J.ret ?_
         refine JQ.blk_ret ?_
         refine JQ.then_ret ?_
         obtain rfl := Option.some.inj H0
         exact JQ.done' (rs := [.tmp 2]) (vs := [.int .i64 3]) [] (.inr rfl) ⟨by kernel_rfl, trivial⟩ (fun _ h => Heap.to h) ⟨rfl, rfl⟩
       · refine J.cond_false h5 ?_
         refine J.seq ?_
         refine J.region ?_
         refine JL.pur (.bool (decide (x1 = 3))) (some 13) ?_
         refine JL.as (.bool (decide (x1 = 3))) ?_
         refine JL.nil ?_
         refine JQ.then_normal ?_
         refine JQ.sub [(12, .bool (decide (x1 = 3)))] ?_
         rcases ite_cases H0 with ⟨h6, H0⟩ | ⟨h6, H0⟩
         · refine J.cond_true h6 ?_
           refine J.seq ?_
           refine J.region ?_
           refine JL.as (.int .i64 4) ?_
           refine JL.nil ?_
           refine JQ.then_normal ?_
           refine JQ.sub [(2, .int .i64 4)] ?_
           refine J.ret ?_
           refine JQ.blk_ret ?_
           refine JQ.then_ret ?_
           obtain rfl := Option.some.inj H0
           exact JQ.done' (rs := [.tmp 2]) (vs := [.int .i64 4]) [] (.inr rfl) ⟨by kernel_rfl, trivial⟩ (fun _ h => Heap.to h) ⟨rfl, rfl⟩
         · refine J.cond_false h6 ?_
           refine J.skip ?_
           refine JQ.blk_normal ?_
           refine JQ.then_normal ?_
           refine JQ.sub [] ?_
           refine J.seq ?_
           refine J.region ?_
           refine JL.as (.int .i64 (-1)) ?_
           refine JL.nil ?_
           refine JQ.then_normal ?_
           refine J.ret ?_
           obtain rfl := Option.some.inj H0
           exact JQ.done' (rs := [.tmp 2]) (vs := [.int .i64 (-1)]) [] (.inr rfl) ⟨by kernel_rfl, trivial⟩ (fun _ h => Heap.to h) ⟨rfl, rfl⟩

theorem ref13_Check.ok (s1 : (List Int)) (Aa2 : Option Addr) (c3 : Nat) (r : Int) (H0 : ref13_Check.f s1 = some r) :
    Does Try.prog 26 [.slice Aa2 s1.length c3].toArray [At.rd Aa2 c3 ((flInt .i64).kd) s1 true] [] false (fun v Δ => v = .int .i64 r ∧ Δ = []) := by
 refine Does.body (vs := [.slice Aa2 s1.length c3]) Try.func26 rfl ⟨.inl rfl, trivial⟩ trivial fun w S => ?_
 unfold ref13_Check.f at H0
 refine J.seq ?_
 refine J.region ?_
 refine JL.as (.int .i64 0) ?_
 refine JL.nil ?_
 refine JQ.then_normal ?_
 refine JQ.sub [(0, .slice Aa2 s1.length c3)] ?_
 refine J.seq ?_
 refine J.seq ?_
 refine J.region ?_
 refine JL.mv (.slice Aa2 s1.length c3) ?_
 refine JL.pur (.int .i64 (s1.length : Int)) (some 5) ?_
 refine JL.pur (.bool (decide (256 < (s1.length : Int)))) (some 6) ?_
 refine JL.nil ?_
 refine JQ.then_normal ?_
 refine JQ.sub [(0, .slice Aa2 s1.length c3), (6, .bool (decide (256 < (s1.length : Int))))] ?_
 rcases ite_cases H0 with ⟨h5, H0⟩ | ⟨h5, H0⟩
 · refine J.cond_true h5 ?_
   refine J.seq ?_
   refine J.region ?_
   refine JL.as (.int .i64 4) ?_
   refine JL.nil ?_
   refine JQ.then_normal ?_
   refine JQ.sub [(2, .int .i64 4)] ?_
   refine JQ.mask [] [false] ?_
   refine J.ret ?_
   refine JQ.then_ret ?_
   obtain rfl := Option.some.inj H0
   exact JQ.done' (rs := [.tmp 2]) (vs := [.int .i64 4]) [] (.inr rfl) ⟨by kernel_rfl, trivial⟩ (fun _ h => Heap.to h) ⟨rfl, rfl⟩
 · refine J.cond_false h5 ?_
   refine J.skip ?_
   refine JQ.then_normal ?_
   refine JQ.sub [(0, .slice Aa2 s1.length c3)] ?_
   refine J.seq ?_
   refine J.seq ?_
   refine J.region ?_
   refine JL.as (.int .i64 0) ?_
   refine JL.nil ?_
   refine JQ.then_normal ?_
   obtain ⟨o1, hit, H0⟩ := bind_some H0
   refine J.loop (σ := Int) (τ := Unit) (G := Unit) (G' := Unit) _ o1 (fun s g => [(0, .slice Aa2 s1.length c3), (3, .int .i64 s)]) (fun s g => [At.rd Aa2 c3 ((flInt .i64).kd) s1 true]) (fun t => ref13_Check.k2 = some r) (fun t g => []) (fun t g => []) 0 () hit (fun _ h => Heap.to h) ?_ ?_
   · clear hit
     rintro i24 ⟨⟩ st1 H1 hb1 hr1
     replace H1 : ref13_Check.s1 s1 i24 = some st1 := H1
     unfold ref13_Check.s1 at H1
     refine JQ.sub [(0, .slice Aa2 s1.length c3), (3, .int .i64 i24)] ?_
     refine JQ.turn (Δ' := [At.rd Aa2 c3 ((flInt .i64).kd) s1 true]) (fun _ h => h.to) ?_
     refine J.seq ?_
     refine J.seq ?_
     refine J.region ?_
     refine JL.mv (.int .i64 i24) ?_
     refine JL.mv (.slice Aa2 s1.length c3) ?_
     refine JL.pur (.int .i64 (s1.length : Int)) (some 9) ?_
     refine JL.pur (.bool (decide (i24 < (s1.length : Int)))) (some 10) ?_
     refine JL.nil ?_
     refine JQ.then_normal ?_
     refine JQ.sub [(0, .slice Aa2 s1.length c3), (3, .int .i64 i24), (10, .bool (decide (i24 < (s1.length : Int))))] ?_
     rcases ite_cases H1 with ⟨h33, H1⟩ | ⟨h33, H1⟩
     · refine J.cond_true h33 ?_
       refine J.skip ?_
       refine JQ.then_normal ?_
       refine JQ.sub [(0, .slice Aa2 s1.length c3), (3, .int .i64 i24)] ?_
       refine J.seq ?_
       refine J.block ?_
       refine J.seq ?_
       refine J.region ?_
       refine JL.mv (.slice Aa2 s1.length c3) ?_
       refine JL.mv (.int .i64 i24) ?_
       obtain ⟨⟨h34, h35⟩, H1⟩ := ite_must H1
       refine JL.ixAddr 0 1 c3 .i64 (elems_rd Aa2 c3 ((flInt .i64).kd) s1 true) Try.underlying22 tySize_3 h34 h35 fun g36 o37 hA => ?_
       subst hA
       refine JL.val (.int .i64 (ix s1 i24)) (some 16) (gives_loadEl (f := (flInt .i64)) 0 0 i24 (elems_rd (some ⟨g36, o37, none⟩) c3 ((flInt .i64).kd) s1 true) h34 h35 tySize_3 (.inr ⟨tyAgg_3, rfl, rfl⟩)) ?_
       obtain ⟨t38, hc39, H1⟩ := bind_some H1
       refine JL.call [] [] [] (ref13_Digit.ok (ix s1 i24) _ hc39) trivial ?_
       rintro _ _ ⟨rfl, rfl⟩
       refine JL.pur (.bool (decide (t38 < 0))) (some 18) ?_
       refine JL.nil ?_
       refine JQ.then_normal ?_
       refine JQ.sub [(0, .slice (some ⟨g36, o37, none⟩) s1.length c3), (3, .int .i64 i24), (18, .bool (decide (t38 < 0)))] ?_
       rcases ite_cases H1 with ⟨h40, H1⟩ | ⟨h40, H1⟩
       · refine J.cond_true h40 ?_
         refine J.seq ?_
         refine J.region ?_
         refine JL.as (.int .i64 8) ?_
         refine JL.nil ?_
         refine JQ.then_normal ?_
         refine JQ.sub [(2, .int .i64 8)] ?_
         refine JQ.mask [] [false] ?_
         refine J.ret ?_
         refine JQ.blk_ret ?_
         refine JQ.then_ret ?_
         refine JQ.then_ret ?_
         refine JQ.blk_ret ?_
         refine JQ.met_ret ?_
         refine JQ.then_ret ?_
         rw [hr1 _ (Option.some.inj H1).symm, fin_ret] at H0
         obtain rfl := Option.some.inj H0
         exact JQ.done' (rs := [.tmp 2]) (vs := [.int .i64 8]) [] (.inr rfl) ⟨by kernel_rfl, trivial⟩ (fun _ h => Heap.to h) ⟨rfl, rfl⟩
       · refine J.cond_false h40 ?_
         refine J.skip ?_
         refine JQ.blk_normal ?_
         refine JQ.then_normal ?_
         refine JQ.sub [(0, .slice (some ⟨g36, o37, none⟩) s1.length c3), (3, .int .i64 i24)] ?_
         refine J.region ?_
         refine JL.mv (.int .i64 i24) ?_
         refine JL.pur (.int .i64 (w64 (i24 + 1))) (some 12) ?_
         refine JL.as (.int .i64 (w64 (i24 + 1))) ?_
         refine JL.nil ?_
         refine JQ.then_normal ?_
         exact JQ.again (w64 (i24 + 1)) () (Option.some.inj H1).symm (fun _ h => Heap.to h)
     · refine J.cond_false h33 ?_
       refine J.exit ?_
       refine JQ.then_exit ?_
       refine JQ.then_exit ?_
       refine JQ.blk_exit ?_
       rw [hb1 _ (Option.some.inj H1).symm, fin_brk] at H0
       exact JQ.met () () H0 (fun _ h => Heap.to (Heap.pick [] (by decide) h))
   · clear hit H0
     rintro ⟨⟩ ⟨⟩ H0
     replace H0 : ref13_Check.k2 = some r := H0
     unfold ref13_Check.k2 at H0
     refine JQ.sub [] ?_
     refine JQ.turn (Δ' := []) (fun _ h => h.to) ?_
     refine JQ.then_normal ?_
     refine J.seq ?_
     refine J.region ?_
     refine JL.as (.int .i64 0) ?_
     refine JL.nil ?_
     refine JQ.then_normal ?_
     refine J.ret ?_
     obtain rfl := Option.some.inj H0
     exact JQ.done' (rs := [.tmp 2]) (vs := [.int .i64 0]) [] (.inr rfl) ⟨by kernel_rfl, trivial⟩ (fun _ h => Heap.to h) ⟨rfl, rfl⟩

theorem ref19_Count.ok (j1 : Job) (Aa2 : Option Addr) (c3 : Nat) (Aa5 : Option Addr) (c6 : Nat) (r : Int) (H0 : ref19_Count.f j1 = some r) :
    Does Try.prog 17 [.agg #[.slice Aa2 j1.X_.length c3, .slice Aa5 j1.Y.length c6, .int .i64 j1.Most, .int .i64 j1.Size]].toArray [At.rd Aa2 c3 ((flInt .i64).kd) j1.X_ true, At.rd Aa5 c6 ((flInt .i64).kd) j1.Y true] [] false (fun v Δ => v = .int .i64 r ∧ Δ = []) := by
 refine Does.body (vs := [.agg #[.slice Aa2 j1.X_.length c3, .slice Aa5 j1.Y.length c6, .int .i64 j1.Most, .int .i64 j1.Size]]) Try.func17 rfl ⟨.inl rfl, .inl rfl, trivial⟩ trivial fun w S => ?_
 unfold ref19_Count.f at H0
 refine J.seq ?_
 refine J.region ?_
 refine JL.box [.slice Aa2 j1.X_.length c3, .slice Aa5 j1.Y.length c6, .int .i64 j1.Most, .int .i64 j1.Size] fun b8 => ?_
 refine JL.as (.int .i64 0) ?_
 refine JL.nil ?_
 refine JQ.then_normal ?_
 refine JQ.sub [(1, .pointer (some ⟨b8, 0, none⟩))] ?_
 refine J.seq ?_
 refine J.region ?_
 refine JL.as (.int .i64 0) ?_
 refine JL.nil ?_
 refine JQ.then_normal ?_
 refine J.seq ?_
 obtain ⟨o1, hit, H0⟩ := bind_some H0
 refine J.loop (σ := Int) (τ := Int) (G := Unit) (G' := Unit) _ o1 (fun s g => [(1, .pointer (some ⟨b8, 0, none⟩)), (3, .int .i64 s)]) (fun s g => [At.box b8 24 [.slice Aa2 j1.X_.length c3, .slice Aa5 j1.Y.length c6, .int .i64 j1.Most, .int .i64 j1.Size], At.rd Aa2 c3 ((flInt .i64).kd) j1.X_ true, At.rd Aa5 c6 ((flInt .i64).kd) j1.Y true]) (fun t => ref19_Count.k2 t = some r) (fun t g => [(3, .int .i64 t)]) (fun t g => []) 0 () hit (fun _ h => Heap.to (Heap.pick [2, 0, 1] (by decide) h)) ?_ ?_
 · clear hit
   rintro n13 ⟨⟩ st1 H1 hb1 hr1
   replace H1 : ref19_Count.s1 j1 n13 = some st1 := H1
   unfold ref19_Count.s1 at H1
   refine JQ.sub [(1, .pointer (some ⟨b8, 0, none⟩)), (3, .int .i64 n13)] ?_
   refine JQ.turn (Δ' := [At.box b8 24 [.slice Aa2 j1.X_.length c3, .slice Aa5 j1.Y.length c6, .int .i64 j1.Most, .int .i64 j1.Size], At.rd Aa2 c3 ((flInt .i64).kd) j1.X_ true, At.rd Aa5 c6 ((flInt .i64).kd) j1.Y true]) (fun _ h => h.to) ?_
   refine J.seq ?_
   refine J.seq ?_
   refine J.region ?_
   refine JL.mv (.int .i64 n13) ?_
   refine JL.pur (.pointer (some ⟨b8, 3, none⟩)) (some 5) ?_
   refine JL.val (.int .i64 j1.Size) (some 6) (yields_load_box 0 3 (holds_box b8 24 [.slice Aa2 j1.X_.length c3, .slice Aa5 j1.Y.length c6, .int .i64 j1.Most, .int .i64 j1.Size]) tyAgg_3) ?_
   refine JL.pur (.int .i64 (w64 (n13 * j1.Size))) (some 7) ?_
   refine JL.pur (.pointer (some ⟨b8, 0, none⟩)) (some 8) ?_
   refine JL.val (.slice Aa2 j1.X_.length c3) (some 9) (yields_load_box 0 0 (holds_box b8 24 [.slice Aa2 j1.X_.length c3, .slice Aa5 j1.Y.length c6, .int .i64 j1.Most, .int .i64 j1.Size]) tyAgg_22) ?_
   refine JL.pur (.int .i64 (j1.X_.length : Int)) (some 10) ?_
   refine JL.pur (.bool (decide (w64 (n13 * j1.Size) < (j1.X_.length : Int)))) (some 11) ?_
   refine JL.nil ?_
   refine JQ.then_normal ?_
   refine JQ.sub [(1, .pointer (some ⟨b8, 0, none⟩)), (3, .int .i64 n13), (11, .bool (decide (w64 (n13 * j1.Size) < (j1.X_.length : Int))))] ?_
   rcases ite_cases H1 with ⟨h16, H1⟩ | ⟨h16, H1⟩
   · refine J.cond_true h16 ?_
     refine J.skip ?_
     refine JQ.then_normal ?_
     refine JQ.sub [(1, .pointer (some ⟨b8, 0, none⟩)), (3, .int .i64 n13)] ?_
     refine J.block ?_
     refine J.region ?_
     refine JL.mv (.int .i64 n13) ?_
     refine JL.pur (.int .i64 (w64 (n13 + 1))) (some 13) ?_
     refine JL.as (.int .i64 (w64 (n13 + 1))) ?_
     refine JL.nil ?_
     refine JQ.blk_normal ?_
     refine JQ.then_normal ?_
     exact JQ.again (w64 (n13 + 1)) () (Option.some.inj H1).symm (fun _ h => Heap.to h)
   · refine J.cond_false h16 ?_
     refine J.exit ?_
     refine JQ.then_exit ?_
     refine JQ.then_exit ?_
     refine JQ.blk_exit ?_
     rw [hb1 _ (Option.some.inj H1).symm, fin_brk] at H0
     exact JQ.met n13 () H0 (fun _ h => Heap.to (Heap.pick [] (by decide) h))
 · clear hit H0
   rintro n15 ⟨⟩ H0
   replace H0 : ref19_Count.k2 n15 = some r := H0
   unfold ref19_Count.k2 at H0
   refine JQ.sub [(3, .int .i64 n15)] ?_
   refine JQ.turn (Δ' := []) (fun _ h => h.to) ?_
   refine JQ.then_normal ?_
   refine J.seq ?_
   refine J.region ?_
   refine JL.mv (.int .i64 n15) ?_
   refine JL.as (.int .i64 n15) ?_
   refine JL.nil ?_
   refine JQ.then_normal ?_
   refine JQ.sub [(2, .int .i64 n15)] ?_
   refine J.ret ?_
   obtain rfl := Option.some.inj H0
   exact JQ.done' (rs := [.tmp 2]) (vs := [.int .i64 n15]) [] (.inr rfl) ⟨by kernel_rfl, trivial⟩ (fun _ h => Heap.to h) ⟨rfl, rfl⟩

theorem ref19_Check.ok (j1 : Job) (Aa2 : Option Addr) (c3 : Nat) (Aa5 : Option Addr) (c6 : Nat) (r : Int) (H0 : ref19_Check.f j1 = some r) :
    Does Try.prog 12 [.agg #[.slice Aa2 j1.X_.length c3, .slice Aa5 j1.Y.length c6, .int .i64 j1.Most, .int .i64 j1.Size]].toArray [At.rd Aa2 c3 ((flInt .i64).kd) j1.X_ true, At.rd Aa5 c6 ((flInt .i64).kd) j1.Y true] [] false (fun v Δ => v = .int .i64 r ∧ Δ = []) := by
 refine Does.body (vs := [.agg #[.slice Aa2 j1.X_.length c3, .slice Aa5 j1.Y.length c6, .int .i64 j1.Most, .int .i64 j1.Size]]) Try.func12 rfl ⟨.inl rfl, .inl rfl, trivial⟩ trivial fun w S => ?_
 unfold ref19_Check.f at H0
 refine J.seq ?_
 refine J.region ?_
 refine JL.box [.slice Aa2 j1.X_.length c3, .slice Aa5 j1.Y.length c6, .int .i64 j1.Most, .int .i64 j1.Size] fun b8 => ?_
 refine JL.as (.int .i64 0) ?_
 refine JL.nil ?_
 refine JQ.then_normal ?_
 refine JQ.sub [(1, .pointer (some ⟨b8, 0, none⟩))] ?_
 refine J.seq ?_
 refine J.seq ?_
 refine J.region ?_
 refine JL.pur (.pointer (some ⟨b8, 0, none⟩)) (some 3) ?_
 refine JL.val (.slice Aa2 j1.X_.length c3) (some 4) (yields_load_box 2 0 (holds_box b8 24 [.slice Aa2 j1.X_.length c3, .slice Aa5 j1.Y.length c6, .int .i64 j1.Most, .int .i64 j1.Size]) tyAgg_22) ?_
 obtain ⟨t9, hc10, H0⟩ := bind_some H0
 refine JL.call [] [] [] (ref13_Check.ok j1.X_ Aa2 c3 _ hc10) ⟨pre_any 0 (view_rd Aa2 c3 ((flInt .i64).kd) j1.X_ true true), trivial⟩ ?_
 rintro _ _ ⟨rfl, rfl⟩
 refine JL.pur (.bool (!decide (t9 = 0))) (some 6) ?_
 refine JL.nil ?_
 refine JQ.then_normal ?_
 refine JQ.sub [(1, .pointer (some ⟨b8, 0, none⟩)), (6, .bool (!decide (t9 = 0)))] ?_
 rcases ite_cases H0 with ⟨h11, H0⟩ | ⟨h11, H0⟩
 · refine J.cond_true h11 ?_
   refine J.seq ?_
   refine J.region ?_
   refine JL.pur (.pointer (some ⟨b8, 0, none⟩)) (some 7) ?_
   refine JL.val (.slice Aa2 j1.X_.length c3) (some 8) (yields_load_box 2 0 (holds_box b8 24 [.slice Aa2 j1.X_.length c3, .slice Aa5 j1.Y.length c6, .int .i64 j1.Most, .int .i64 j1.Size]) tyAgg_22) ?_
   obtain ⟨t12, hc13, H0⟩ := bind_some H0
   refine JL.call [] [] [] (ref13_Check.ok j1.X_ Aa2 c3 _ hc13) ⟨pre_any 0 (view_rd Aa2 c3 ((flInt .i64).kd) j1.X_ true true), trivial⟩ ?_
   rintro _ _ ⟨rfl, rfl⟩
   refine JL.as (.int .i64 t12) ?_
   refine JL.nil ?_
   refine JQ.then_normal ?_
   refine JQ.sub [(2, .int .i64 t12)] ?_
   refine JQ.mask [] [false, false, false] ?_
   refine J.ret ?_
   refine JQ.then_ret ?_
   obtain rfl := Option.some.inj H0
   exact JQ.done' (rs := [.tmp 2]) (vs := [.int .i64 t12]) [] (.inr rfl) ⟨by kernel_rfl, trivial⟩ (fun _ h => Heap.to h) ⟨rfl, rfl⟩
 · refine J.cond_false h11 ?_
   refine J.skip ?_
   refine JQ.then_normal ?_
   refine JQ.sub [(1, .pointer (some ⟨b8, 0, none⟩))] ?_
   refine J.seq ?_
   refine J.seq ?_
   refine J.region ?_
   refine JL.pur (.pointer (some ⟨b8, 1, none⟩)) (some 10) ?_
   refine JL.val (.slice Aa5 j1.Y.length c6) (some 11) (yields_load_box 2 1 (holds_box b8 24 [.slice Aa2 j1.X_.length c3, .slice Aa5 j1.Y.length c6, .int .i64 j1.Most, .int .i64 j1.Size]) tyAgg_22) ?_
   obtain ⟨t14, hc15, H0⟩ := bind_some H0
   refine JL.call [] [] [] (ref13_Check.ok j1.Y Aa5 c6 _ hc15) ⟨pre_any 1 (view_rd Aa5 c6 ((flInt .i64).kd) j1.Y true true), trivial⟩ ?_
   rintro _ _ ⟨rfl, rfl⟩
   refine JL.pur (.bool (!decide (t14 = 0))) (some 13) ?_
   refine JL.nil ?_
   refine JQ.then_normal ?_
   refine JQ.sub [(1, .pointer (some ⟨b8, 0, none⟩)), (13, .bool (!decide (t14 = 0)))] ?_
   rcases ite_cases H0 with ⟨h16, H0⟩ | ⟨h16, H0⟩
   · refine J.cond_true h16 ?_
     refine J.seq ?_
     refine J.region ?_
     refine JL.pur (.pointer (some ⟨b8, 1, none⟩)) (some 14) ?_
     refine JL.val (.slice Aa5 j1.Y.length c6) (some 15) (yields_load_box 2 1 (holds_box b8 24 [.slice Aa2 j1.X_.length c3, .slice Aa5 j1.Y.length c6, .int .i64 j1.Most, .int .i64 j1.Size]) tyAgg_22) ?_
     obtain ⟨t17, hc18, H0⟩ := bind_some H0
     refine JL.call [] [] [] (ref13_Check.ok j1.Y Aa5 c6 _ hc18) ⟨pre_any 1 (view_rd Aa5 c6 ((flInt .i64).kd) j1.Y true true), trivial⟩ ?_
     rintro _ _ ⟨rfl, rfl⟩
     refine JL.as (.int .i64 t17) ?_
     refine JL.nil ?_
     refine JQ.then_normal ?_
     refine JQ.sub [(2, .int .i64 t17)] ?_
     refine JQ.mask [] [false, false, false] ?_
     refine J.ret ?_
     refine JQ.then_ret ?_
     obtain rfl := Option.some.inj H0
     exact JQ.done' (rs := [.tmp 2]) (vs := [.int .i64 t17]) [] (.inr rfl) ⟨by kernel_rfl, trivial⟩ (fun _ h => Heap.to h) ⟨rfl, rfl⟩
   · refine J.cond_false h16 ?_
     refine J.skip ?_
     refine JQ.then_normal ?_
     refine JQ.sub [(1, .pointer (some ⟨b8, 0, none⟩))] ?_
     refine J.seq ?_
     refine J.join (T := Bool) (G := Unit) (fun t => ref19_Check.k1 t = some r) (fun t g => [(39, .bool t)]) (fun t g => []) ?_ ?_
     · refine J.region ?_
       refine JL.pur (.pointer (some ⟨b8, 2, none⟩)) (some 17) ?_
       refine JL.val (.int .i64 j1.Most) (some 18) (yields_load_box 2 2 (holds_box b8 24 [.slice Aa2 j1.X_.length c3, .slice Aa5 j1.Y.length c6, .int .i64 j1.Most, .int .i64 j1.Size]) tyAgg_3) ?_
       refine JL.pur (.bool (decide (j1.Most < 0))) (some 19) ?_
       refine JL.mv (.bool (decide (j1.Most < 0))) ?_
       rcases ite_cases H0 with ⟨h27, H0⟩ | ⟨h27, H0⟩
       · refine JL.off 3 20 false (some 21) h27 ?_
         refine JL.off 3 20 false (some 22) h27 ?_
         refine JL.off 3 20 false (some 23) h27 ?_
         refine JL.val (.bool true) (some 24) (gives_pickT h27) ?_
         refine JL.mv (.bool true) ?_
         refine JL.off 8 25 false (some 26) rfl ?_
         refine JL.off 8 25 false (some 27) rfl ?_
         refine JL.off 8 25 false (some 28) rfl ?_
         refine JL.val (.bool true) (some 29) (gives_pickT rfl) ?_
         refine JL.mv (.bool true) ?_
         refine JL.off 13 30 false (some 31) rfl ?_
         refine JL.off 13 30 false (some 32) rfl ?_
         refine JL.off 13 30 false (some 33) rfl ?_
         refine JL.val (.bool true) (some 34) (gives_pickT rfl) ?_
         refine JL.mv (.bool true) ?_
         refine JL.off 18 35 false (some 36) rfl ?_
         refine JL.off 18 35 false (some 37) rfl ?_
         refine JL.off 18 35 false (some 38) rfl ?_
         refine JL.val (.bool true) (some 39) (gives_pickT rfl) ?_
         refine JL.nil ?_
         refine JQ.then_normal ?_
         exact JQ.meet true () H0 (fun _ h => Heap.to (Heap.pick [] (by decide) h))
       · refine JL.on 3 20 h27 ?_
         refine JL.pur (.pointer (some ⟨b8, 2, none⟩)) (some 21) ?_
         refine JL.on 3 20 h27 ?_
         refine JL.val (.int .i64 j1.Most) (some 22) (yields_load_box 2 2 (holds_box b8 24 [.slice Aa2 j1.X_.length c3, .slice Aa5 j1.Y.length c6, .int .i64 j1.Most, .int .i64 j1.Size]) tyAgg_3) ?_
         refine JL.on 3 20 h27 ?_
         refine JL.pur (.bool (decide (255 < j1.Most))) (some 23) ?_
         refine JL.val (.bool (decide (255 < j1.Most))) (some 24) (gives_pickF h27) ?_
         refine JL.mv (.bool (decide (255 < j1.Most))) ?_
         rcases ite_cases H0 with ⟨h28, H0⟩ | ⟨h28, H0⟩
         · refine JL.off 8 25 false (some 26) h28 ?_
           refine JL.off 8 25 false (some 27) h28 ?_
           refine JL.off 8 25 false (some 28) h28 ?_
           refine JL.val (.bool true) (some 29) (gives_pickT h28) ?_
           refine JL.mv (.bool true) ?_
           refine JL.off 13 30 false (some 31) rfl ?_
           refine JL.off 13 30 false (some 32) rfl ?_
           refine JL.off 13 30 false (some 33) rfl ?_
           refine JL.val (.bool true) (some 34) (gives_pickT rfl) ?_
           refine JL.mv (.bool true) ?_
           refine JL.off 18 35 false (some 36) rfl ?_
           refine JL.off 18 35 false (some 37) rfl ?_
           refine JL.off 18 35 false (some 38) rfl ?_
           refine JL.val (.bool true) (some 39) (gives_pickT rfl) ?_
           refine JL.nil ?_
           refine JQ.then_normal ?_
           exact JQ.meet true () H0 (fun _ h => Heap.to (Heap.pick [] (by decide) h))
         · refine JL.on 8 25 h28 ?_
           refine JL.pur (.pointer (some ⟨b8, 3, none⟩)) (some 26) ?_
           refine JL.on 8 25 h28 ?_
           refine JL.val (.int .i64 j1.Size) (some 27) (yields_load_box 2 3 (holds_box b8 24 [.slice Aa2 j1.X_.length c3, .slice Aa5 j1.Y.length c6, .int .i64 j1.Most, .int .i64 j1.Size]) tyAgg_3) ?_
           refine JL.on 8 25 h28 ?_
           refine JL.pur (.bool (decide (j1.Size < 1))) (some 28) ?_
           refine JL.val (.bool (decide (j1.Size < 1))) (some 29) (gives_pickF h28) ?_
           refine JL.mv (.bool (decide (j1.Size < 1))) ?_
           rcases ite_cases H0 with ⟨h29, H0⟩ | ⟨h29, H0⟩
           · refine JL.off 13 30 false (some 31) h29 ?_
             refine JL.off 13 30 false (some 32) h29 ?_
             refine JL.off 13 30 false (some 33) h29 ?_
             refine JL.val (.bool true) (some 34) (gives_pickT h29) ?_
             refine JL.mv (.bool true) ?_
             refine JL.off 18 35 false (some 36) rfl ?_
             refine JL.off 18 35 false (some 37) rfl ?_
             refine JL.off 18 35 false (some 38) rfl ?_
             refine JL.val (.bool true) (some 39) (gives_pickT rfl) ?_
             refine JL.nil ?_
             refine JQ.then_normal ?_
             exact JQ.meet true () H0 (fun _ h => Heap.to (Heap.pick [] (by decide) h))
           · refine JL.on 13 30 h29 ?_
             refine JL.pur (.pointer (some ⟨b8, 3, none⟩)) (some 31) ?_
             refine JL.on 13 30 h29 ?_
             refine JL.val (.int .i64 j1.Size) (some 32) (yields_load_box 2 3 (holds_box b8 24 [.slice Aa2 j1.X_.length c3, .slice Aa5 j1.Y.length c6, .int .i64 j1.Most, .int .i64 j1.Size]) tyAgg_3) ?_
             refine JL.on 13 30 h29 ?_
             refine JL.pur (.bool (decide (256 < j1.Size))) (some 33) ?_
             refine JL.val (.bool (decide (256 < j1.Size))) (some 34) (gives_pickF h29) ?_
             refine JL.mv (.bool (decide (256 < j1.Size))) ?_
             rcases ite_cases H0 with ⟨h30, H0⟩ | ⟨h30, H0⟩
             · refine JL.off 18 35 false (some 36) h30 ?_
               refine JL.off 18 35 false (some 37) h30 ?_
               refine JL.off 18 35 false (some 38) h30 ?_
               refine JL.val (.bool true) (some 39) (gives_pickT h30) ?_
               refine JL.nil ?_
               refine JQ.then_normal ?_
               exact JQ.meet true () H0 (fun _ h => Heap.to (Heap.pick [] (by decide) h))
             · refine JL.on 18 35 h30 ?_
               refine JL.val (.agg #[.slice Aa2 j1.X_.length c3, .slice Aa5 j1.Y.length c6, .int .i64 j1.Most, .int .i64 j1.Size]) (some 36) (yields_load_boxes 2 0 [.slice Aa2 j1.X_.length c3, .slice Aa5 j1.Y.length c6, .int .i64 j1.Most, .int .i64 j1.Size] (holds_box b8 24 [.slice Aa2 j1.X_.length c3, .slice Aa5 j1.Y.length c6, .int .i64 j1.Most, .int .i64 j1.Size]) tyAgg_24 tySize_24) ?_
               refine JL.on 18 35 h30 ?_
               obtain ⟨t31, hc32, H0⟩ := bind_some H0
               refine JL.call [] [] [] (ref19_Count.ok j1 Aa2 c3 Aa5 c6 _ hc32) ⟨pre_any 0 (view_rd Aa2 c3 ((flInt .i64).kd) j1.X_ true true), ⟨pre_any 1 (view_rd Aa5 c6 ((flInt .i64).kd) j1.Y true true), trivial⟩⟩ ?_
               rintro _ _ ⟨rfl, rfl⟩
               refine JL.on 18 35 h30 ?_
               refine JL.pur (.bool (decide (64 < t31))) (some 38) ?_
               refine JL.val (.bool (decide (64 < t31))) (some 39) (gives_pickF h30) ?_
               refine JL.nil ?_
               refine JQ.then_normal ?_
               exact JQ.meet (decide (64 < t31)) () H0 (fun _ h => Heap.to (Heap.pick [] (by decide) h))
     · clear H0
       rintro x25 ⟨⟩ H0
       replace H0 : ref19_Check.k1 x25 = some r := H0
       unfold ref19_Check.k1 at H0
       refine JQ.sub [(39, .bool x25)] ?_
       refine JQ.turn (Δ' := []) (fun _ h => h.to) ?_
       rcases ite_cases H0 with ⟨h26, H0⟩ | ⟨h26, H0⟩
       · refine J.cond_true h26 ?_
         refine J.seq ?_
         refine J.region ?_
         refine JL.as (.int .i64 8) ?_
         refine JL.nil ?_
         refine JQ.then_normal ?_
         refine JQ.sub [(2, .int .i64 8)] ?_
         refine J.ret ?_
         refine JQ.then_ret ?_
         obtain rfl := Option.some.inj H0
         exact JQ.done' (rs := [.tmp 2]) (vs := [.int .i64 8]) [] (.inr rfl) ⟨by kernel_rfl, trivial⟩ (fun _ h => Heap.to h) ⟨rfl, rfl⟩
       · refine J.cond_false h26 ?_
         refine J.skip ?_
         refine JQ.then_normal ?_
         refine JQ.sub [] ?_
         refine J.seq ?_
         refine J.region ?_
         refine JL.as (.int .i64 0) ?_
         refine JL.nil ?_
         refine JQ.then_normal ?_
         refine J.ret ?_
         obtain rfl := Option.some.inj H0
         exact JQ.done' (rs := [.tmp 2]) (vs := [.int .i64 0]) [] (.inr rfl) ⟨by kernel_rfl, trivial⟩ (fun _ h => Heap.to h) ⟨rfl, rfl⟩

theorem ref19_Great.ok (j1 : Job) (Aa2 : Option Addr) (c3 : Nat) (Aa5 : Option Addr) (c6 : Nat) (r : Bool) (H0 : ref19_Great.f j1 = some r) :
    Does Try.prog 4 [.agg #[.slice Aa2 j1.X_.length c3, .slice Aa5 j1.Y.length c6, .int .i64 j1.Most, .int .i64 j1.Size]].toArray [At.rd Aa2 c3 ((flInt .i64).kd) j1.X_ true, At.rd Aa5 c6 ((flInt .i64).kd) j1.Y true] [] false (fun v Δ => v = .bool r ∧ Δ = []) := by
 refine Does.body (vs := [.agg #[.slice Aa2 j1.X_.length c3, .slice Aa5 j1.Y.length c6, .int .i64 j1.Most, .int .i64 j1.Size]]) Try.func4 rfl ⟨.inl rfl, .inl rfl, trivial⟩ trivial fun w S => ?_
 unfold ref19_Great.f at H0
 refine J.seq ?_
 refine J.region ?_
 refine JL.box [.slice Aa2 j1.X_.length c3, .slice Aa5 j1.Y.length c6, .int .i64 j1.Most, .int .i64 j1.Size] fun b8 => ?_
 refine JL.as (.bool false) ?_
 refine JL.nil ?_
 refine JQ.then_normal ?_
 refine JQ.sub [(1, .pointer (some ⟨b8, 0, none⟩))] ?_
 refine J.seq ?_
 refine J.join (T := Bool) (G := Unit) (fun t => ref19_Great.k1 j1 t = some r) (fun t g => [(1, .pointer (some ⟨b8, 0, none⟩)), (44, .bool t)]) (fun t g => [At.box b8 24 [.slice Aa2 j1.X_.length c3, .slice Aa5 j1.Y.length c6, .int .i64 j1.Most, .int .i64 j1.Size], At.rd Aa2 c3 ((flInt .i64).kd) j1.X_ true, At.rd Aa5 c6 ((flInt .i64).kd) j1.Y true]) ?_ ?_
 · refine J.region ?_
   refine JL.pur (.pointer (some ⟨b8, 0, none⟩)) (some 3) ?_
   refine JL.val (.slice Aa2 j1.X_.length c3) (some 4) (yields_load_box 2 0 (holds_box b8 24 [.slice Aa2 j1.X_.length c3, .slice Aa5 j1.Y.length c6, .int .i64 j1.Most, .int .i64 j1.Size]) tyAgg_22) ?_
   obtain ⟨t32, hc33, H0⟩ := bind_some H0
   refine JL.call [] [] [] (ref13_Long.ok j1.X_ Aa2 c3 _ hc33) ⟨pre_any 0 (view_rd Aa2 c3 ((flInt .i64).kd) j1.X_ true true), trivial⟩ ?_
   rintro _ _ ⟨rfl, rfl⟩
   refine JL.mv (.bool t32) ?_
   rcases ite_cases H0 with ⟨h34, H0⟩ | ⟨h34, H0⟩
   · refine JL.off 3 6 false (some 7) h34 ?_
     refine JL.off 3 6 false (some 8) h34 ?_
     refine JL.off 3 6 false (some 9) h34 ?_
     refine JL.val (.bool true) (some 10) (gives_pickT h34) ?_
     refine JL.mv (.bool true) ?_
     refine JL.off 8 11 false (some 12) rfl ?_
     refine JL.off 8 11 false (some 13) rfl ?_
     refine JL.off 8 11 false (some 14) rfl ?_
     refine JL.off 8 11 false (some 15) rfl ?_
     refine JL.off 8 11 false (some 16) rfl ?_
     refine JL.off' 13 16 true (some 17) ?_
     refine JL.off' 13 16 true (some 18) ?_
     refine JL.off' 13 16 true (some 19) ?_
     refine JL.off' 13 16 true (some 20) ?_
     refine JL.off 8 11 false (some 21) rfl ?_
     refine JL.val (.bool true) (some 22) (gives_pickT rfl) ?_
     refine JL.mv (.bool true) ?_
     refine JL.off 20 23 false (some 24) rfl ?_
     refine JL.off 20 23 false (some 25) rfl ?_
     refine JL.off 20 23 false (some 26) rfl ?_
     refine JL.off 20 23 false (some 27) rfl ?_
     refine JL.off 20 23 false (some 28) rfl ?_
     refine JL.off' 25 28 true (some 29) ?_
     refine JL.off' 25 28 true (some 30) ?_
     refine JL.off' 25 28 true (some 31) ?_
     refine JL.off' 25 28 true (some 32) ?_
     refine JL.off 20 23 false (some 33) rfl ?_
     refine JL.val (.bool true) (some 34) (gives_pickT rfl) ?_
     refine JL.mv (.bool true) ?_
     refine JL.off 32 35 false (some 36) rfl ?_
     refine JL.off 32 35 false (some 37) rfl ?_
     refine JL.off 32 35 false (some 38) rfl ?_
     refine JL.off 32 35 false (some 39) rfl ?_
     refine JL.off' 36 39 true (some 40) ?_
     refine JL.off' 36 39 true (some 41) ?_
     refine JL.off' 36 39 true (some 42) ?_
     refine JL.off 32 35 false (some 43) rfl ?_
     refine JL.val (.bool true) (some 44) (gives_pickT rfl) ?_
     refine JL.nil ?_
     refine JQ.then_normal ?_
     exact JQ.meet true () H0 (fun _ h => Heap.to (Heap.pick [2, 0, 1] (by decide) h))
   · refine JL.on 3 6 h34 ?_
     refine JL.pur (.pointer (some ⟨b8, 1, none⟩)) (some 7) ?_
     refine JL.on 3 6 h34 ?_
     refine JL.val (.slice Aa5 j1.Y.length c6) (some 8) (yields_load_box 2 1 (holds_box b8 24 [.slice Aa2 j1.X_.length c3, .slice Aa5 j1.Y.length c6, .int .i64 j1.Most, .int .i64 j1.Size]) tyAgg_22) ?_
     refine JL.on 3 6 h34 ?_
     obtain ⟨t35, hc36, H0⟩ := bind_some H0
     refine JL.call [] [] [] (ref13_Long.ok j1.Y Aa5 c6 _ hc36) ⟨pre_any 1 (view_rd Aa5 c6 ((flInt .i64).kd) j1.Y true true), trivial⟩ ?_
     rintro _ _ ⟨rfl, rfl⟩
     refine JL.val (.bool t35) (some 10) (gives_pickF h34) ?_
     refine JL.mv (.bool t35) ?_
     rcases ite_cases H0 with ⟨h37, H0⟩ | ⟨h37, H0⟩
     · refine JL.off 8 11 false (some 12) h37 ?_
       refine JL.off 8 11 false (some 13) h37 ?_
       refine JL.off 8 11 false (some 14) h37 ?_
       refine JL.off 8 11 false (some 15) h37 ?_
       refine JL.off 8 11 false (some 16) h37 ?_
       refine JL.off' 13 16 true (some 17) ?_
       refine JL.off' 13 16 true (some 18) ?_
       refine JL.off' 13 16 true (some 19) ?_
       refine JL.off' 13 16 true (some 20) ?_
       refine JL.off 8 11 false (some 21) h37 ?_
       refine JL.val (.bool true) (some 22) (gives_pickT h37) ?_
       refine JL.mv (.bool true) ?_
       refine JL.off 20 23 false (some 24) rfl ?_
       refine JL.off 20 23 false (some 25) rfl ?_
       refine JL.off 20 23 false (some 26) rfl ?_
       refine JL.off 20 23 false (some 27) rfl ?_
       refine JL.off 20 23 false (some 28) rfl ?_
       refine JL.off' 25 28 true (some 29) ?_
       refine JL.off' 25 28 true (some 30) ?_
       refine JL.off' 25 28 true (some 31) ?_
       refine JL.off' 25 28 true (some 32) ?_
       refine JL.off 20 23 false (some 33) rfl ?_
       refine JL.val (.bool true) (some 34) (gives_pickT rfl) ?_
       refine JL.mv (.bool true) ?_
       refine JL.off 32 35 false (some 36) rfl ?_
       refine JL.off 32 35 false (some 37) rfl ?_
       refine JL.off 32 35 false (some 38) rfl ?_
       refine JL.off 32 35 false (some 39) rfl ?_
       refine JL.off' 36 39 true (some 40) ?_
       refine JL.off' 36 39 true (some 41) ?_
       refine JL.off' 36 39 true (some 42) ?_
       refine JL.off 32 35 false (some 43) rfl ?_
       refine JL.val (.bool true) (some 44) (gives_pickT rfl) ?_
       refine JL.nil ?_
       refine JQ.then_normal ?_
       exact JQ.meet true () H0 (fun _ h => Heap.to (Heap.pick [2, 0, 1] (by decide) h))
     · refine JL.on 8 11 h37 ?_
       refine JL.pur (.pointer (some ⟨b8, 0, none⟩)) (some 12) ?_
       refine JL.on 8 11 h37 ?_
       refine JL.val (.slice Aa2 j1.X_.length c3) (some 13) (yields_load_box 2 0 (holds_box b8 24 [.slice Aa2 j1.X_.length c3, .slice Aa5 j1.Y.length c6, .int .i64 j1.Most, .int .i64 j1.Size]) tyAgg_22) ?_
       refine JL.on 8 11 h37 ?_
       refine JL.pur (.int .i64 (j1.X_.length : Int)) (some 14) ?_
       refine JL.on 8 11 h37 ?_
       refine JL.pur (.bool (decide (40 < (j1.X_.length : Int)))) (some 15) ?_
       refine JL.on 8 11 h37 ?_
       refine JL.mv (.bool (decide (40 < (j1.X_.length : Int)))) ?_
       rcases ite_cases H0 with ⟨h38, H0⟩ | ⟨h38, H0⟩
       · refine JL.on 13 16 h38 ?_
         refine JL.pur (.pointer (some ⟨b8, 0, none⟩)) (some 17) ?_
         refine JL.on 13 16 h38 ?_
         refine JL.val (.slice Aa2 j1.X_.length c3) (some 18) (yields_load_box 2 0 (holds_box b8 24 [.slice Aa2 j1.X_.length c3, .slice Aa5 j1.Y.length c6, .int .i64 j1.Most, .int .i64 j1.Size]) tyAgg_22) ?_
         refine JL.on 13 16 h38 ?_
         refine JL.pur (.int .i64 (j1.X_.length : Int)) (some 19) ?_
         refine JL.on 13 16 h38 ?_
         refine JL.pur (.bool (decide ((j1.X_.length : Int) ≤ 256))) (some 20) ?_
         refine JL.on 8 11 h37 ?_
         refine JL.val (.bool (decide ((j1.X_.length : Int) ≤ 256))) (some 21) (gives_pickT h38) ?_
         refine JL.val (.bool (decide ((j1.X_.length : Int) ≤ 256))) (some 22) (gives_pickF h37) ?_
         refine JL.mv (.bool (decide ((j1.X_.length : Int) ≤ 256))) ?_
         rcases ite_cases H0 with ⟨h39, H0⟩ | ⟨h39, H0⟩
         · refine JL.off 20 23 false (some 24) h39 ?_
           refine JL.off 20 23 false (some 25) h39 ?_
           refine JL.off 20 23 false (some 26) h39 ?_
           refine JL.off 20 23 false (some 27) h39 ?_
           refine JL.off 20 23 false (some 28) h39 ?_
           refine JL.off' 25 28 true (some 29) ?_
           refine JL.off' 25 28 true (some 30) ?_
           refine JL.off' 25 28 true (some 31) ?_
           refine JL.off' 25 28 true (some 32) ?_
           refine JL.off 20 23 false (some 33) h39 ?_
           refine JL.val (.bool true) (some 34) (gives_pickT h39) ?_
           refine JL.mv (.bool true) ?_
           refine JL.off 32 35 false (some 36) rfl ?_
           refine JL.off 32 35 false (some 37) rfl ?_
           refine JL.off 32 35 false (some 38) rfl ?_
           refine JL.off 32 35 false (some 39) rfl ?_
           refine JL.off' 36 39 true (some 40) ?_
           refine JL.off' 36 39 true (some 41) ?_
           refine JL.off' 36 39 true (some 42) ?_
           refine JL.off 32 35 false (some 43) rfl ?_
           refine JL.val (.bool true) (some 44) (gives_pickT rfl) ?_
           refine JL.nil ?_
           refine JQ.then_normal ?_
           exact JQ.meet true () H0 (fun _ h => Heap.to (Heap.pick [2, 0, 1] (by decide) h))
         · refine JL.on 20 23 h39 ?_
           refine JL.pur (.pointer (some ⟨b8, 1, none⟩)) (some 24) ?_
           refine JL.on 20 23 h39 ?_
           refine JL.val (.slice Aa5 j1.Y.length c6) (some 25) (yields_load_box 2 1 (holds_box b8 24 [.slice Aa2 j1.X_.length c3, .slice Aa5 j1.Y.length c6, .int .i64 j1.Most, .int .i64 j1.Size]) tyAgg_22) ?_
           refine JL.on 20 23 h39 ?_
           refine JL.pur (.int .i64 (j1.Y.length : Int)) (some 26) ?_
           refine JL.on 20 23 h39 ?_
           refine JL.pur (.bool (decide (40 < (j1.Y.length : Int)))) (some 27) ?_
           refine JL.on 20 23 h39 ?_
           refine JL.mv (.bool (decide (40 < (j1.Y.length : Int)))) ?_
           rcases ite_cases H0 with ⟨h40, H0⟩ | ⟨h40, H0⟩
           · refine JL.on 25 28 h40 ?_
             refine JL.pur (.pointer (some ⟨b8, 1, none⟩)) (some 29) ?_
             refine JL.on 25 28 h40 ?_
             refine JL.val (.slice Aa5 j1.Y.length c6) (some 30) (yields_load_box 2 1 (holds_box b8 24 [.slice Aa2 j1.X_.length c3, .slice Aa5 j1.Y.length c6, .int .i64 j1.Most, .int .i64 j1.Size]) tyAgg_22) ?_
             refine JL.on 25 28 h40 ?_
             refine JL.pur (.int .i64 (j1.Y.length : Int)) (some 31) ?_
             refine JL.on 25 28 h40 ?_
             refine JL.pur (.bool (decide ((j1.Y.length : Int) ≤ 256))) (some 32) ?_
             refine JL.on 20 23 h39 ?_
             refine JL.val (.bool (decide ((j1.Y.length : Int) ≤ 256))) (some 33) (gives_pickT h40) ?_
             refine JL.val (.bool (decide ((j1.Y.length : Int) ≤ 256))) (some 34) (gives_pickF h39) ?_
             refine JL.mv (.bool (decide ((j1.Y.length : Int) ≤ 256))) ?_
             rcases ite_cases H0 with ⟨h41, H0⟩ | ⟨h41, H0⟩
             · refine JL.off 32 35 false (some 36) h41 ?_
               refine JL.off 32 35 false (some 37) h41 ?_
               refine JL.off 32 35 false (some 38) h41 ?_
               refine JL.off 32 35 false (some 39) h41 ?_
               refine JL.off' 36 39 true (some 40) ?_
               refine JL.off' 36 39 true (some 41) ?_
               refine JL.off' 36 39 true (some 42) ?_
               refine JL.off 32 35 false (some 43) h41 ?_
               refine JL.val (.bool true) (some 44) (gives_pickT h41) ?_
               refine JL.nil ?_
               refine JQ.then_normal ?_
               exact JQ.meet true () H0 (fun _ h => Heap.to (Heap.pick [2, 0, 1] (by decide) h))
             · refine JL.on 32 35 h41 ?_
               refine JL.pur (.pointer (some ⟨b8, 2, none⟩)) (some 36) ?_
               refine JL.on 32 35 h41 ?_
               refine JL.val (.int .i64 j1.Most) (some 37) (yields_load_box 2 2 (holds_box b8 24 [.slice Aa2 j1.X_.length c3, .slice Aa5 j1.Y.length c6, .int .i64 j1.Most, .int .i64 j1.Size]) tyAgg_3) ?_
               refine JL.on 32 35 h41 ?_
               refine JL.pur (.bool (decide (40 < j1.Most))) (some 38) ?_
               refine JL.on 32 35 h41 ?_
               refine JL.mv (.bool (decide (40 < j1.Most))) ?_
               rcases ite_cases H0 with ⟨h42, H0⟩ | ⟨h42, H0⟩
               · refine JL.on 36 39 h42 ?_
                 refine JL.pur (.pointer (some ⟨b8, 2, none⟩)) (some 40) ?_
                 refine JL.on 36 39 h42 ?_
                 refine JL.val (.int .i64 j1.Most) (some 41) (yields_load_box 2 2 (holds_box b8 24 [.slice Aa2 j1.X_.length c3, .slice Aa5 j1.Y.length c6, .int .i64 j1.Most, .int .i64 j1.Size]) tyAgg_3) ?_
                 refine JL.on 36 39 h42 ?_
                 refine JL.pur (.bool (decide (j1.Most ≤ 255))) (some 42) ?_
                 refine JL.on 32 35 h41 ?_
                 refine JL.val (.bool (decide (j1.Most ≤ 255))) (some 43) (gives_pickT h42) ?_
                 refine JL.val (.bool (decide (j1.Most ≤ 255))) (some 44) (gives_pickF h41) ?_
                 refine JL.nil ?_
                 refine JQ.then_normal ?_
                 exact JQ.meet (decide (j1.Most ≤ 255)) () H0 (fun _ h => Heap.to (Heap.pick [2, 0, 1] (by decide) h))
               · refine JL.off 36 39 true (some 40) h42 ?_
                 refine JL.off 36 39 true (some 41) h42 ?_
                 refine JL.off 36 39 true (some 42) h42 ?_
                 refine JL.on 32 35 h41 ?_
                 refine JL.val (.bool false) (some 43) (gives_pickF h42) ?_
                 refine JL.val (.bool false) (some 44) (gives_pickF h41) ?_
                 refine JL.nil ?_
                 refine JQ.then_normal ?_
                 exact JQ.meet false () H0 (fun _ h => Heap.to (Heap.pick [2, 0, 1] (by decide) h))
           · refine JL.off 25 28 true (some 29) h40 ?_
             refine JL.off 25 28 true (some 30) h40 ?_
             refine JL.off 25 28 true (some 31) h40 ?_
             refine JL.off 25 28 true (some 32) h40 ?_
             refine JL.on 20 23 h39 ?_
             refine JL.val (.bool false) (some 33) (gives_pickF h40) ?_
             refine JL.val (.bool false) (some 34) (gives_pickF h39) ?_
             refine JL.mv (.bool false) ?_
             refine JL.on 32 35 (rfl : (false) = false) ?_
             refine JL.pur (.pointer (some ⟨b8, 2, none⟩)) (some 36) ?_
             refine JL.on 32 35 (rfl : (false) = false) ?_
             refine JL.val (.int .i64 j1.Most) (some 37) (yields_load_box 2 2 (holds_box b8 24 [.slice Aa2 j1.X_.length c3, .slice Aa5 j1.Y.length c6, .int .i64 j1.Most, .int .i64 j1.Size]) tyAgg_3) ?_
             refine JL.on 32 35 (rfl : (false) = false) ?_
             refine JL.pur (.bool (decide (40 < j1.Most))) (some 38) ?_
             refine JL.on 32 35 (rfl : (false) = false) ?_
             refine JL.mv (.bool (decide (40 < j1.Most))) ?_
             rcases ite_cases H0 with ⟨h43, H0⟩ | ⟨h43, H0⟩
             · refine JL.on 36 39 h43 ?_
               refine JL.pur (.pointer (some ⟨b8, 2, none⟩)) (some 40) ?_
               refine JL.on 36 39 h43 ?_
               refine JL.val (.int .i64 j1.Most) (some 41) (yields_load_box 2 2 (holds_box b8 24 [.slice Aa2 j1.X_.length c3, .slice Aa5 j1.Y.length c6, .int .i64 j1.Most, .int .i64 j1.Size]) tyAgg_3) ?_
               refine JL.on 36 39 h43 ?_
               refine JL.pur (.bool (decide (j1.Most ≤ 255))) (some 42) ?_
               refine JL.on 32 35 (rfl : (false) = false) ?_
               refine JL.val (.bool (decide (j1.Most ≤ 255))) (some 43) (gives_pickT h43) ?_
               refine JL.val (.bool (decide (j1.Most ≤ 255))) (some 44) (gives_pickF rfl) ?_
               refine JL.nil ?_
               refine JQ.then_normal ?_
               exact JQ.meet (decide (j1.Most ≤ 255)) () H0 (fun _ h => Heap.to (Heap.pick [2, 0, 1] (by decide) h))
             · refine JL.off 36 39 true (some 40) h43 ?_
               refine JL.off 36 39 true (some 41) h43 ?_
               refine JL.off 36 39 true (some 42) h43 ?_
               refine JL.on 32 35 (rfl : (false) = false) ?_
               refine JL.val (.bool false) (some 43) (gives_pickF h43) ?_
               refine JL.val (.bool false) (some 44) (gives_pickF rfl) ?_
               refine JL.nil ?_
               refine JQ.then_normal ?_
               exact JQ.meet false () H0 (fun _ h => Heap.to (Heap.pick [2, 0, 1] (by decide) h))
       · refine JL.off 13 16 true (some 17) h38 ?_
         refine JL.off 13 16 true (some 18) h38 ?_
         refine JL.off 13 16 true (some 19) h38 ?_
         refine JL.off 13 16 true (some 20) h38 ?_
         refine JL.on 8 11 h37 ?_
         refine JL.val (.bool false) (some 21) (gives_pickF h38) ?_
         refine JL.val (.bool false) (some 22) (gives_pickF h37) ?_
         refine JL.mv (.bool false) ?_
         refine JL.on 20 23 (rfl : (false) = false) ?_
         refine JL.pur (.pointer (some ⟨b8, 1, none⟩)) (some 24) ?_
         refine JL.on 20 23 (rfl : (false) = false) ?_
         refine JL.val (.slice Aa5 j1.Y.length c6) (some 25) (yields_load_box 2 1 (holds_box b8 24 [.slice Aa2 j1.X_.length c3, .slice Aa5 j1.Y.length c6, .int .i64 j1.Most, .int .i64 j1.Size]) tyAgg_22) ?_
         refine JL.on 20 23 (rfl : (false) = false) ?_
         refine JL.pur (.int .i64 (j1.Y.length : Int)) (some 26) ?_
         refine JL.on 20 23 (rfl : (false) = false) ?_
         refine JL.pur (.bool (decide (40 < (j1.Y.length : Int)))) (some 27) ?_
         refine JL.on 20 23 (rfl : (false) = false) ?_
         refine JL.mv (.bool (decide (40 < (j1.Y.length : Int)))) ?_
         rcases ite_cases H0 with ⟨h44, H0⟩ | ⟨h44, H0⟩
         · refine JL.on 25 28 h44 ?_
           refine JL.pur (.pointer (some ⟨b8, 1, none⟩)) (some 29) ?_
           refine JL.on 25 28 h44 ?_
           refine JL.val (.slice Aa5 j1.Y.length c6) (some 30) (yields_load_box 2 1 (holds_box b8 24 [.slice Aa2 j1.X_.length c3, .slice Aa5 j1.Y.length c6, .int .i64 j1.Most, .int .i64 j1.Size]) tyAgg_22) ?_
           refine JL.on 25 28 h44 ?_
           refine JL.pur (.int .i64 (j1.Y.length : Int)) (some 31) ?_
           refine JL.on 25 28 h44 ?_
           refine JL.pur (.bool (decide ((j1.Y.length : Int) ≤ 256))) (some 32) ?_
           refine JL.on 20 23 (rfl : (false) = false) ?_
           refine JL.val (.bool (decide ((j1.Y.length : Int) ≤ 256))) (some 33) (gives_pickT h44) ?_
           refine JL.val (.bool (decide ((j1.Y.length : Int) ≤ 256))) (some 34) (gives_pickF rfl) ?_
           refine JL.mv (.bool (decide ((j1.Y.length : Int) ≤ 256))) ?_
           rcases ite_cases H0 with ⟨h45, H0⟩ | ⟨h45, H0⟩
           · refine JL.off 32 35 false (some 36) h45 ?_
             refine JL.off 32 35 false (some 37) h45 ?_
             refine JL.off 32 35 false (some 38) h45 ?_
             refine JL.off 32 35 false (some 39) h45 ?_
             refine JL.off' 36 39 true (some 40) ?_
             refine JL.off' 36 39 true (some 41) ?_
             refine JL.off' 36 39 true (some 42) ?_
             refine JL.off 32 35 false (some 43) h45 ?_
             refine JL.val (.bool true) (some 44) (gives_pickT h45) ?_
             refine JL.nil ?_
             refine JQ.then_normal ?_
             exact JQ.meet true () H0 (fun _ h => Heap.to (Heap.pick [2, 0, 1] (by decide) h))
           · refine JL.on 32 35 h45 ?_
             refine JL.pur (.pointer (some ⟨b8, 2, none⟩)) (some 36) ?_
             refine JL.on 32 35 h45 ?_
             refine JL.val (.int .i64 j1.Most) (some 37) (yields_load_box 2 2 (holds_box b8 24 [.slice Aa2 j1.X_.length c3, .slice Aa5 j1.Y.length c6, .int .i64 j1.Most, .int .i64 j1.Size]) tyAgg_3) ?_
             refine JL.on 32 35 h45 ?_
             refine JL.pur (.bool (decide (40 < j1.Most))) (some 38) ?_
             refine JL.on 32 35 h45 ?_
             refine JL.mv (.bool (decide (40 < j1.Most))) ?_
             rcases ite_cases H0 with ⟨h46, H0⟩ | ⟨h46, H0⟩
             · refine JL.on 36 39 h46 ?_
               refine JL.pur (.pointer (some ⟨b8, 2, none⟩)) (some 40) ?_
               refine JL.on 36 39 h46 ?_
               refine JL.val (.int .i64 j1.Most) (some 41) (yields_load_box 2 2 (holds_box b8 24 [.slice Aa2 j1.X_.length c3, .slice Aa5 j1.Y.length c6, .int .i64 j1.Most, .int .i64 j1.Size]) tyAgg_3) ?_
               refine JL.on 36 39 h46 ?_
               refine JL.pur (.bool (decide (j1.Most ≤ 255))) (some 42) ?_
               refine JL.on 32 35 h45 ?_
               refine JL.val (.bool (decide (j1.Most ≤ 255))) (some 43) (gives_pickT h46) ?_
               refine JL.val (.bool (decide (j1.Most ≤ 255))) (some 44) (gives_pickF h45) ?_
               refine JL.nil ?_
               refine JQ.then_normal ?_
               exact JQ.meet (decide (j1.Most ≤ 255)) () H0 (fun _ h => Heap.to (Heap.pick [2, 0, 1] (by decide) h))
             · refine JL.off 36 39 true (some 40) h46 ?_
               refine JL.off 36 39 true (some 41) h46 ?_
               refine JL.off 36 39 true (some 42) h46 ?_
               refine JL.on 32 35 h45 ?_
               refine JL.val (.bool false) (some 43) (gives_pickF h46) ?_
               refine JL.val (.bool false) (some 44) (gives_pickF h45) ?_
               refine JL.nil ?_
               refine JQ.then_normal ?_
               exact JQ.meet false () H0 (fun _ h => Heap.to (Heap.pick [2, 0, 1] (by decide) h))
         · refine JL.off 25 28 true (some 29) h44 ?_
           refine JL.off 25 28 true (some 30) h44 ?_
           refine JL.off 25 28 true (some 31) h44 ?_
           refine JL.off 25 28 true (some 32) h44 ?_
           refine JL.on 20 23 (rfl : (false) = false) ?_
           refine JL.val (.bool false) (some 33) (gives_pickF h44) ?_
           refine JL.val (.bool false) (some 34) (gives_pickF rfl) ?_
           refine JL.mv (.bool false) ?_
           refine JL.on 32 35 (rfl : (false) = false) ?_
           refine JL.pur (.pointer (some ⟨b8, 2, none⟩)) (some 36) ?_
           refine JL.on 32 35 (rfl : (false) = false) ?_
           refine JL.val (.int .i64 j1.Most) (some 37) (yields_load_box 2 2 (holds_box b8 24 [.slice Aa2 j1.X_.length c3, .slice Aa5 j1.Y.length c6, .int .i64 j1.Most, .int .i64 j1.Size]) tyAgg_3) ?_
           refine JL.on 32 35 (rfl : (false) = false) ?_
           refine JL.pur (.bool (decide (40 < j1.Most))) (some 38) ?_
           refine JL.on 32 35 (rfl : (false) = false) ?_
           refine JL.mv (.bool (decide (40 < j1.Most))) ?_
           rcases ite_cases H0 with ⟨h47, H0⟩ | ⟨h47, H0⟩
           · refine JL.on 36 39 h47 ?_
             refine JL.pur (.pointer (some ⟨b8, 2, none⟩)) (some 40) ?_
             refine JL.on 36 39 h47 ?_
             refine JL.val (.int .i64 j1.Most) (some 41) (yields_load_box 2 2 (holds_box b8 24 [.slice Aa2 j1.X_.length c3, .slice Aa5 j1.Y.length c6, .int .i64 j1.Most, .int .i64 j1.Size]) tyAgg_3) ?_
             refine JL.on 36 39 h47 ?_
             refine JL.pur (.bool (decide (j1.Most ≤ 255))) (some 42) ?_
             refine JL.on 32 35 (rfl : (false) = false) ?_
             refine JL.val (.bool (decide (j1.Most ≤ 255))) (some 43) (gives_pickT h47) ?_
             refine JL.val (.bool (decide (j1.Most ≤ 255))) (some 44) (gives_pickF rfl) ?_
             refine JL.nil ?_
             refine JQ.then_normal ?_
             exact JQ.meet (decide (j1.Most ≤ 255)) () H0 (fun _ h => Heap.to (Heap.pick [2, 0, 1] (by decide) h))
           · refine JL.off 36 39 true (some 40) h47 ?_
             refine JL.off 36 39 true (some 41) h47 ?_
             refine JL.off 36 39 true (some 42) h47 ?_
             refine JL.on 32 35 (rfl : (false) = false) ?_
             refine JL.val (.bool false) (some 43) (gives_pickF h47) ?_
             refine JL.val (.bool false) (some 44) (gives_pickF rfl) ?_
             refine JL.nil ?_
             refine JQ.then_normal ?_
             exact JQ.meet false () H0 (fun _ h => Heap.to (Heap.pick [2, 0, 1] (by decide) h))
 · clear H0
   rintro x25 ⟨⟩ H0
   replace H0 : ref19_Great.k1 j1 x25 = some r := H0
   unfold ref19_Great.k1 at H0
   refine JQ.sub [(1, .pointer (some ⟨b8, 0, none⟩)), (44, .bool x25)] ?_
   refine JQ.turn (Δ' := [At.box b8 24 [.slice Aa2 j1.X_.length c3, .slice Aa5 j1.Y.length c6, .int .i64 j1.Most, .int .i64 j1.Size], At.rd Aa2 c3 ((flInt .i64).kd) j1.X_ true, At.rd Aa5 c6 ((flInt .i64).kd) j1.Y true]) (fun _ h => h.to) ?_
   rcases ite_cases H0 with ⟨h26, H0⟩ | ⟨h26, H0⟩
   · refine J.cond_true h26 ?_
     refine J.seq ?_
     refine J.region ?_
     refine JL.as (.bool true) ?_
     refine JL.nil ?_
     refine JQ.then_normal ?_
     refine JQ.sub [(2, .bool true)] ?_
     refine JQ.mask [] [false, false, false] ?_
     refine J.ret ?_
     refine JQ.then_ret ?_
     obtain rfl := Option.some.inj H0
     exact JQ.done' (rs := [.tmp 2]) (vs := [.bool true]) [] (.inr rfl) ⟨by kernel_rfl, trivial⟩ (fun _ h => Heap.to h) ⟨rfl, rfl⟩
   · refine J.cond_false h26 ?_
     refine J.skip ?_
     refine JQ.then_normal ?_
     refine JQ.sub [(1, .pointer (some ⟨b8, 0, none⟩))] ?_
     refine J.seq ?_
     refine J.region ?_
     refine JL.val (.agg #[.slice Aa2 j1.X_.length c3, .slice Aa5 j1.Y.length c6, .int .i64 j1.Most, .int .i64 j1.Size]) (some 45) (yields_load_boxes 0 0 [.slice Aa2 j1.X_.length c3, .slice Aa5 j1.Y.length c6, .int .i64 j1.Most, .int .i64 j1.Size] (holds_box b8 24 [.slice Aa2 j1.X_.length c3, .slice Aa5 j1.Y.length c6, .int .i64 j1.Most, .int .i64 j1.Size]) tyAgg_24 tySize_24) ?_
     obtain ⟨t27, hc28, H0⟩ := bind_some H0
     refine JL.call [] [] [] (ref19_Check.ok j1 Aa2 c3 Aa5 c6 _ hc28) ⟨pre_any 1 (view_rd Aa2 c3 ((flInt .i64).kd) j1.X_ true true), ⟨pre_any 2 (view_rd Aa5 c6 ((flInt .i64).kd) j1.Y true true), trivial⟩⟩ ?_
     rintro _ _ ⟨rfl, rfl⟩
     refine JL.pur (.bool (decide (t27 = 0))) (some 47) ?_
     refine JL.mv (.bool (decide (t27 = 0))) ?_
     rcases ite_cases H0 with ⟨h29, H0⟩ | ⟨h29, H0⟩
     · refine JL.on 3 48 h29 ?_
       refine JL.val (.agg #[.slice Aa2 j1.X_.length c3, .slice Aa5 j1.Y.length c6, .int .i64 j1.Most, .int .i64 j1.Size]) (some 49) (yields_load_boxes 0 0 [.slice Aa2 j1.X_.length c3, .slice Aa5 j1.Y.length c6, .int .i64 j1.Most, .int .i64 j1.Size] (holds_box b8 24 [.slice Aa2 j1.X_.length c3, .slice Aa5 j1.Y.length c6, .int .i64 j1.Most, .int .i64 j1.Size]) tyAgg_24 tySize_24) ?_
       refine JL.on 3 48 h29 ?_
       obtain ⟨t30, hc31, H0⟩ := bind_some H0
       refine JL.call [] [] [] (ref19_Count.ok j1 Aa2 c3 Aa5 c6 _ hc31) ⟨pre_any 1 (view_rd Aa2 c3 ((flInt .i64).kd) j1.X_ true true), ⟨pre_any 2 (view_rd Aa5 c6 ((flInt .i64).kd) j1.Y true true), trivial⟩⟩ ?_
       rintro _ _ ⟨rfl, rfl⟩
       refine JL.on 3 48 h29 ?_
       refine JL.pur (.bool (decide (12 < t30))) (some 51) ?_
       refine JL.val (.bool (decide (12 < t30))) (some 52) (gives_pickT h29) ?_
       refine JL.as (.bool (decide (12 < t30))) ?_
       refine JL.nil ?_
       refine JQ.then_normal ?_
       refine JQ.sub [(2, .bool (decide (12 < t30)))] ?_
       refine JQ.mask [] [false, false, false] ?_
       refine J.ret ?_
       obtain rfl := Option.some.inj H0
       exact JQ.done' (rs := [.tmp 2]) (vs := [.bool (decide (12 < t30))]) [] (.inr rfl) ⟨by kernel_rfl, trivial⟩ (fun _ h => Heap.to h) ⟨rfl, rfl⟩
     · refine JL.off 3 48 true (some 49) h29 ?_
       refine JL.off 3 48 true (some 50) h29 ?_
       refine JL.off 3 48 true (some 51) h29 ?_
       refine JL.val (.bool false) (some 52) (gives_pickF h29) ?_
       refine JL.as (.bool false) ?_
       refine JL.nil ?_
       refine JQ.then_normal ?_
       refine JQ.sub [(2, .bool false)] ?_
       refine JQ.mask [] [false, false, false] ?_
       refine J.ret ?_
       obtain rfl := Option.some.inj H0
       exact JQ.done' (rs := [.tmp 2]) (vs := [.bool false]) [] (.inr rfl) ⟨by kernel_rfl, trivial⟩ (fun _ h => Heap.to h) ⟨rfl, rfl⟩

theorem slices_Index__int_int.ok (s1 : (List Int)) (Aa2 : Option Addr) (c3 : Nat) (v5 : Int) (r : Int) (H0 : slices_Index__int_int.f s1 v5 = some r) :
    Does Try.prog 38 [.slice Aa2 s1.length c3, .int .i64 v5].toArray [At.rd Aa2 c3 ((flInt .i64).kd) s1 true] [] false (fun v Δ => v = .int .i64 r ∧ Δ = []) := by
 refine Does.body (vs := [.slice Aa2 s1.length c3, .int .i64 v5]) Try.func38 rfl ⟨.inl rfl, trivial⟩ trivial fun w S => ?_
 unfold slices_Index__int_int.f at H0
 refine J.seq ?_
 refine J.region ?_
 refine JL.as (.int .i64 0) ?_
 refine JL.nil ?_
 refine JQ.then_normal ?_
 refine JQ.sub [(0, .slice Aa2 s1.length c3), (1, .int .i64 v5)] ?_
 refine J.seq ?_
 refine J.seq ?_
 refine J.region ?_
 refine JL.mv (.slice Aa2 s1.length c3) ?_
 refine JL.pur (.int .i64 (s1.length : Int)) (some 7) ?_
 refine JL.mv (.int .i64 0) ?_
 refine JL.nil ?_
 refine JQ.then_normal ?_
 refine JQ.sub [(0, .slice Aa2 s1.length c3), (1, .int .i64 v5), (7, .int .i64 (s1.length : Int)), (8, .int .i64 0)] ?_
 obtain ⟨o1, hit, H0⟩ := bind_some H0
 refine J.loop (σ := Int) (τ := Unit) (G := Unit) (G' := Unit) _ o1 (fun s g => [(0, .slice Aa2 s1.length c3), (1, .int .i64 v5), (7, .int .i64 (s1.length : Int)), (8, .int .i64 s)]) (fun s g => [At.rd Aa2 c3 ((flInt .i64).kd) s1 true]) (fun t => slices_Index__int_int.k2 = some r) (fun t g => []) (fun t g => []) 0 () hit (fun _ h => Heap.to h) ?_ ?_
 · clear hit
   rintro x20 ⟨⟩ st1 H1 hb1 hr1
   replace H1 : slices_Index__int_int.s1 s1 v5 x20 = some st1 := H1
   unfold slices_Index__int_int.s1 at H1
   refine JQ.sub [(0, .slice Aa2 s1.length c3), (1, .int .i64 v5), (7, .int .i64 (s1.length : Int)), (8, .int .i64 x20)] ?_
   refine JQ.turn (Δ' := [At.rd Aa2 c3 ((flInt .i64).kd) s1 true]) (fun _ h => h.to) ?_
   refine J.seq ?_
   refine J.region ?_
   refine JL.pur (.bool (decide (x20 < (s1.length : Int)))) (some 9) ?_
   refine JL.nil ?_
   refine JQ.then_normal ?_
   refine J.seq ?_
   rcases ite_cases H1 with ⟨h27, H1⟩ | ⟨h27, H1⟩
   · refine J.cond_true h27 ?_
     refine J.skip ?_
     refine JQ.then_normal ?_
     refine JQ.sub [(0, .slice Aa2 s1.length c3), (1, .int .i64 v5), (7, .int .i64 (s1.length : Int)), (8, .int .i64 x20)] ?_
     refine J.seq ?_
     refine J.block ?_
     refine J.seq ?_
     refine J.region ?_
     refine JL.mv (.int .i64 x20) ?_
     refine JL.as (.int .i64 x20) ?_
     refine JL.nil ?_
     refine JQ.then_normal ?_
     refine JQ.sub [(0, .slice Aa2 s1.length c3), (1, .int .i64 v5), (5, .int .i64 x20), (7, .int .i64 (s1.length : Int)), (8, .int .i64 x20)] ?_
     refine J.seq ?_
     refine J.region ?_
     refine JL.mv (.int .i64 v5) ?_
     refine JL.mv (.slice Aa2 s1.length c3) ?_
     refine JL.mv (.int .i64 x20) ?_
     obtain ⟨⟨h28, h29⟩, H1⟩ := ite_must H1
     refine JL.ixAddr 0 1 c3 .i64 (elems_rd Aa2 c3 ((flInt .i64).kd) s1 true) Try.underlying22 tySize_3 h28 h29 fun g30 o31 hA => ?_
     subst hA
     refine JL.val (.int .i64 (ix s1 x20)) (some 15) (gives_loadEl (f := (flInt .i64)) 0 0 x20 (elems_rd (some ⟨g30, o31, none⟩) c3 ((flInt .i64).kd) s1 true) h28 h29 tySize_3 (.inr ⟨tyAgg_3, rfl, rfl⟩)) ?_
     refine JL.pur (.bool (decide (v5 = (ix s1 x20)))) (some 16) ?_
     refine JL.nil ?_
     refine JQ.then_normal ?_
     refine JQ.sub [(0, .slice (some ⟨g30, o31, none⟩) s1.length c3), (1, .int .i64 v5), (5, .int .i64 x20), (7, .int .i64 (s1.length : Int)), (8, .int .i64 x20), (16, .bool (decide (v5 = (ix s1 x20))))] ?_
     rcases ite_cases H1 with ⟨h32, H1⟩ | ⟨h32, H1⟩
     · refine J.cond_true h32 ?_
       refine J.seq ?_
       refine J.region ?_
       refine JL.mv (.int .i64 x20) ?_
       refine JL.as (.int .i64 x20) ?_
       refine JL.nil ?_
       refine JQ.then_normal ?_
       refine JQ.sub [(4, .int .i64 x20)] ?_
       refine JQ.mask [] [false] ?_
       refine J.ret ?_
       refine JQ.blk_ret ?_
       refine JQ.then_ret ?_
       refine JQ.then_ret ?_
       refine JQ.blk_ret ?_
       refine JQ.met_ret ?_
       refine JQ.then_ret ?_
       rw [hr1 _ (Option.some.inj H1).symm, fin_ret] at H0
       obtain rfl := Option.some.inj H0
       exact JQ.done' (rs := [.tmp 4]) (vs := [.int .i64 x20]) [] (.inr rfl) ⟨by kernel_rfl, trivial⟩ (fun _ h => Heap.to h) ⟨rfl, rfl⟩
     · refine J.cond_false h32 ?_
       refine J.skip ?_
       refine JQ.blk_normal ?_
       refine JQ.then_normal ?_
       refine JQ.sub [(0, .slice (some ⟨g30, o31, none⟩) s1.length c3), (1, .int .i64 v5), (7, .int .i64 (s1.length : Int)), (8, .int .i64 x20)] ?_
       refine J.region ?_
       refine JL.pur (.int .i64 (w64 (x20 + 1))) (some 18) ?_
       refine JL.mv (.int .i64 (w64 (x20 + 1))) ?_
       refine JL.nil ?_
       refine JQ.then_normal ?_
       exact JQ.again (w64 (x20 + 1)) () (Option.some.inj H1).symm (fun _ h => Heap.to h)
   · refine J.cond_false h27 ?_
     refine J.exit ?_
     refine JQ.then_exit ?_
     refine JQ.then_exit ?_
     refine JQ.blk_exit ?_
     rw [hb1 _ (Option.some.inj H1).symm, fin_brk] at H0
     exact JQ.met () () H0 (fun _ h => Heap.to (Heap.pick [] (by decide) h))
 · clear hit H0
   rintro ⟨⟩ ⟨⟩ H0
   replace H0 : slices_Index__int_int.k2 = some r := H0
   unfold slices_Index__int_int.k2 at H0
   refine JQ.sub [] ?_
   refine JQ.turn (Δ' := []) (fun _ h => h.to) ?_
   refine JQ.then_normal ?_
   refine J.seq ?_
   refine J.region ?_
   refine JL.as (.int .i64 (-1)) ?_
   refine JL.nil ?_
   refine JQ.then_normal ?_
   refine J.ret ?_
   obtain rfl := Option.some.inj H0
   exact JQ.done' (rs := [.tmp 4]) (vs := [.int .i64 (-1)]) [] (.inr rfl) ⟨by kernel_rfl, trivial⟩ (fun _ h => Heap.to h) ⟨rfl, rfl⟩

theorem sample_digit.ok (x1 : Int) (r : Int) (H0 : sample_digit.f x1 = some r) :
    Does Try.prog 33 [.int .i64 x1].toArray [] [] false (fun v Δ => v = .int .i64 r ∧ Δ = []) := by
 refine Does.body (vs := [.int .i64 x1]) Try.func33 rfl trivial trivial fun w S => ?_
 unfold sample_digit.f at H0
 refine J.seq ?_
 refine J.region ?_
 refine JL.as (.int .i64 0) ?_
 refine JL.nil ?_
 refine JQ.then_normal ?_
 refine JQ.sub [(0, .int .i64 x1)] ?_
 refine J.seq ?_
 refine J.region ?_
 refine JL.buildSl 3 ((flInt .i64).kd) (([0, (-3), (-1), 1, 3] : List Int) : List Int) [.int .i64 0, .int .i64 (-3), .int .i64 (-1), .int .i64 1, .int .i64 3] false (closes_fl rfl) fun b2 => ?_
 refine JL.mv (.int .i64 x1) ?_
 obtain ⟨t3, hc4, H0⟩ := bind_some H0
 refine JL.call [] [] [] (slices_Index__int_int.ok ([0, (-3), (-1), 1, 3] : List Int) (some ⟨b2, 0, none⟩) 5 x1 _ hc4) ⟨pre_view 0 (view_row (some ⟨b2, 0, none⟩) 5 3 ((flInt .i64).kd) ([0, (-3), (-1), 1, 3] : List Int) false true), trivial⟩ ?_
 rintro _ _ ⟨rfl, rfl⟩
 refine JL.as (.int .i64 t3) ?_
 refine JL.nil ?_
 refine JQ.then_normal ?_
 refine JQ.sub [(2, .int .i64 t3)] ?_
 refine JQ.mask [] [false] ?_
 refine J.ret ?_
 obtain rfl := Option.some.inj H0
 exact JQ.done' (rs := [.tmp 2]) (vs := [.int .i64 t3]) [] (.inr rfl) ⟨by kernel_rfl, trivial⟩ (fun _ h => Heap.to h) ⟨rfl, rfl⟩

theorem sample_Check_1.ok (x1 : Int) (r : Bool) (H0 : sample_Check_1.f x1 = some r) :
    Does Try.prog 32 [.int .i64 x1].toArray [] [] false (fun v Δ => v = .bool r ∧ Δ = []) := by
 refine Does.body (vs := [.int .i64 x1]) Try.func32 rfl trivial trivial fun w S => ?_
 unfold sample_Check_1.f at H0
 refine J.seq ?_
 refine J.region ?_
 refine JL.as (.bool false) ?_
 refine JL.nil ?_
 refine JQ.then_normal ?_
 refine JQ.sub [(0, .int .i64 x1)] ?_
 refine J.seq ?_
 refine J.region ?_
 refine JL.mv (.int .i64 x1) ?_
 obtain ⟨t2, hc3, H0⟩ := bind_some H0
 refine JL.call [] [] [] (sample_digit.ok x1 _ hc3) trivial ?_
 rintro _ _ ⟨rfl, rfl⟩
 refine JL.pur (.bool (decide (t2 < 0))) (some 5) ?_
 refine JL.as (.bool (decide (t2 < 0))) ?_
 refine JL.nil ?_
 refine JQ.then_normal ?_
 refine JQ.sub [(2, .bool (decide (t2 < 0)))] ?_
 refine J.ret ?_
 obtain rfl := Option.some.inj H0
 exact JQ.done' (rs := [.tmp 2]) (vs := [.bool (decide (t2 < 0))]) [] (.inr rfl) ⟨by kernel_rfl, trivial⟩ (fun _ h => Heap.to h) ⟨rfl, rfl⟩

theorem slices_IndexFunc__int_int__sample_Check_1.ok (s1 : (List Int)) (Aa2 : Option Addr) (c3 : Nat) (r : Int) (H0 : slices_IndexFunc__int_int__sample_Check_1.f s1 = some r) :
    Does Try.prog 37 [.slice Aa2 s1.length c3, .func (.func 32) #[] #[]].toArray [At.rd Aa2 c3 ((flInt .i64).kd) s1 true] [] false (fun v Δ => v = .int .i64 r ∧ Δ = []) := by
 refine Does.body (vs := [.slice Aa2 s1.length c3, .func (.func 32) #[] #[]]) Try.func37 rfl ⟨.inl rfl, trivial⟩ trivial fun w S => ?_
 unfold slices_IndexFunc__int_int__sample_Check_1.f at H0
 refine J.seq ?_
 refine J.region ?_
 refine JL.as (.int .i64 0) ?_
 refine JL.nil ?_
 refine JQ.then_normal ?_
 refine JQ.sub [(0, .slice Aa2 s1.length c3), (1, .func (.func 32) #[] #[])] ?_
 refine J.seq ?_
 refine J.seq ?_
 refine J.region ?_
 refine JL.mv (.slice Aa2 s1.length c3) ?_
 refine JL.pur (.int .i64 (s1.length : Int)) (some 7) ?_
 refine JL.mv (.int .i64 0) ?_
 refine JL.nil ?_
 refine JQ.then_normal ?_
 refine JQ.sub [(0, .slice Aa2 s1.length c3), (1, .func (.func 32) #[] #[]), (7, .int .i64 (s1.length : Int)), (8, .int .i64 0)] ?_
 obtain ⟨o1, hit, H0⟩ := bind_some H0
 refine J.loop (σ := Int) (τ := Unit) (G := Unit) (G' := Unit) _ o1 (fun s g => [(0, .slice Aa2 s1.length c3), (1, .func (.func 32) #[] #[]), (7, .int .i64 (s1.length : Int)), (8, .int .i64 s)]) (fun s g => [At.rd Aa2 c3 ((flInt .i64).kd) s1 true]) (fun t => slices_IndexFunc__int_int__sample_Check_1.k2 = some r) (fun t g => []) (fun t g => []) 0 () hit (fun _ h => Heap.to h) ?_ ?_
 · clear hit
   rintro x23 ⟨⟩ st1 H1 hb1 hr1
   replace H1 : slices_IndexFunc__int_int__sample_Check_1.s1 s1 x23 = some st1 := H1
   unfold slices_IndexFunc__int_int__sample_Check_1.s1 at H1
   refine JQ.sub [(0, .slice Aa2 s1.length c3), (1, .func (.func 32) #[] #[]), (7, .int .i64 (s1.length : Int)), (8, .int .i64 x23)] ?_
   refine JQ.turn (Δ' := [At.rd Aa2 c3 ((flInt .i64).kd) s1 true]) (fun _ h => h.to) ?_
   refine J.seq ?_
   refine J.region ?_
   refine JL.pur (.bool (decide (x23 < (s1.length : Int)))) (some 9) ?_
   refine JL.nil ?_
   refine JQ.then_normal ?_
   refine J.seq ?_
   rcases ite_cases H1 with ⟨h32, H1⟩ | ⟨h32, H1⟩
   · refine J.cond_true h32 ?_
     refine J.skip ?_
     refine JQ.then_normal ?_
     refine JQ.sub [(0, .slice Aa2 s1.length c3), (1, .func (.func 32) #[] #[]), (7, .int .i64 (s1.length : Int)), (8, .int .i64 x23)] ?_
     refine J.seq ?_
     refine J.block ?_
     refine J.seq ?_
     refine J.region ?_
     refine JL.mv (.int .i64 x23) ?_
     refine JL.as (.int .i64 x23) ?_
     refine JL.nil ?_
     refine JQ.then_normal ?_
     refine JQ.sub [(0, .slice Aa2 s1.length c3), (1, .func (.func 32) #[] #[]), (5, .int .i64 x23), (7, .int .i64 (s1.length : Int)), (8, .int .i64 x23)] ?_
     refine J.seq ?_
     refine J.region ?_
     refine JL.mv (.func (.func 32) #[] #[]) ?_
     refine JL.mv (.slice Aa2 s1.length c3) ?_
     refine JL.mv (.int .i64 x23) ?_
     obtain ⟨⟨h33, h34⟩, H1⟩ := ite_must H1
     refine JL.ixAddr 0 1 c3 .i64 (elems_rd Aa2 c3 ((flInt .i64).kd) s1 true) Try.underlying22 tySize_3 h33 h34 fun g35 o36 hA => ?_
     subst hA
     refine JL.val (.int .i64 (ix s1 x23)) (some 15) (gives_loadEl (f := (flInt .i64)) 0 0 x23 (elems_rd (some ⟨g35, o36, none⟩) c3 ((flInt .i64).kd) s1 true) h33 h34 tySize_3 (.inr ⟨tyAgg_3, rfl, rfl⟩)) ?_
     obtain ⟨t37, hc38, H1⟩ := bind_some H1
     refine JL.call [] [] [] (sample_Check_1.ok (ix s1 x23) _ hc38) trivial ?_
     rintro _ _ ⟨rfl, rfl⟩
     refine JL.nil ?_
     refine JQ.then_normal ?_
     refine JQ.sub [(0, .slice (some ⟨g35, o36, none⟩) s1.length c3), (1, .func (.func 32) #[] #[]), (5, .int .i64 x23), (7, .int .i64 (s1.length : Int)), (8, .int .i64 x23), (16, .bool t37)] ?_
     rcases ite_cases H1 with ⟨h39, H1⟩ | ⟨h39, H1⟩
     · refine J.cond_true h39 ?_
       refine J.seq ?_
       refine J.region ?_
       refine JL.mv (.int .i64 x23) ?_
       refine JL.as (.int .i64 x23) ?_
       refine JL.nil ?_
       refine JQ.then_normal ?_
       refine JQ.sub [(4, .int .i64 x23)] ?_
       refine JQ.mask [] [false] ?_
       refine J.ret ?_
       refine JQ.blk_ret ?_
       refine JQ.then_ret ?_
       refine JQ.then_ret ?_
       refine JQ.blk_ret ?_
       refine JQ.met_ret ?_
       refine JQ.then_ret ?_
       rw [hr1 _ (Option.some.inj H1).symm, fin_ret] at H0
       obtain rfl := Option.some.inj H0
       exact JQ.done' (rs := [.tmp 4]) (vs := [.int .i64 x23]) [] (.inr rfl) ⟨by kernel_rfl, trivial⟩ (fun _ h => Heap.to h) ⟨rfl, rfl⟩
     · refine J.cond_false h39 ?_
       refine J.skip ?_
       refine JQ.blk_normal ?_
       refine JQ.then_normal ?_
       refine JQ.sub [(0, .slice (some ⟨g35, o36, none⟩) s1.length c3), (1, .func (.func 32) #[] #[]), (7, .int .i64 (s1.length : Int)), (8, .int .i64 x23)] ?_
       refine J.region ?_
       refine JL.pur (.int .i64 (w64 (x23 + 1))) (some 18) ?_
       refine JL.mv (.int .i64 (w64 (x23 + 1))) ?_
       refine JL.nil ?_
       refine JQ.then_normal ?_
       exact JQ.again (w64 (x23 + 1)) () (Option.some.inj H1).symm (fun _ h => Heap.to h)
   · refine J.cond_false h32 ?_
     refine J.exit ?_
     refine JQ.then_exit ?_
     refine JQ.then_exit ?_
     refine JQ.blk_exit ?_
     rw [hb1 _ (Option.some.inj H1).symm, fin_brk] at H0
     exact JQ.met () () H0 (fun _ h => Heap.to (Heap.pick [] (by decide) h))
 · clear hit H0
   rintro ⟨⟩ ⟨⟩ H0
   replace H0 : slices_IndexFunc__int_int__sample_Check_1.k2 = some r := H0
   unfold slices_IndexFunc__int_int__sample_Check_1.k2 at H0
   refine JQ.sub [] ?_
   refine JQ.turn (Δ' := []) (fun _ h => h.to) ?_
   refine JQ.then_normal ?_
   refine J.seq ?_
   refine J.region ?_
   refine JL.as (.int .i64 (-1)) ?_
   refine JL.nil ?_
   refine JQ.then_normal ?_
   refine J.ret ?_
   obtain rfl := Option.some.inj H0
   exact JQ.done' (rs := [.tmp 4]) (vs := [.int .i64 (-1)]) [] (.inr rfl) ⟨by kernel_rfl, trivial⟩ (fun _ h => Heap.to h) ⟨rfl, rfl⟩

theorem slices_ContainsFunc__int_int__sample_Check_1.ok (s1 : (List Int)) (Aa2 : Option Addr) (c3 : Nat) (r : Bool) (H0 : slices_ContainsFunc__int_int__sample_Check_1.f s1 = some r) :
    Does Try.prog 31 [.slice Aa2 s1.length c3, .func (.func 32) #[] #[]].toArray [At.rd Aa2 c3 ((flInt .i64).kd) s1 true] [] false (fun v Δ => v = .bool r ∧ Δ = []) := by
 refine Does.body (vs := [.slice Aa2 s1.length c3, .func (.func 32) #[] #[]]) Try.func31 rfl ⟨.inl rfl, trivial⟩ trivial fun w S => ?_
 unfold slices_ContainsFunc__int_int__sample_Check_1.f at H0
 refine J.seq ?_
 refine J.region ?_
 refine JL.as (.bool false) ?_
 refine JL.nil ?_
 refine JQ.then_normal ?_
 refine JQ.sub [(0, .slice Aa2 s1.length c3), (1, .func (.func 32) #[] #[])] ?_
 refine J.seq ?_
 refine J.region ?_
 refine JL.mv (.slice Aa2 s1.length c3) ?_
 refine JL.mv (.func (.func 32) #[] #[]) ?_
 obtain ⟨t5, hc6, H0⟩ := bind_some H0
 refine JL.call [] [] [] (slices_IndexFunc__int_int__sample_Check_1.ok s1 Aa2 c3 _ hc6) ⟨pre_any 0 (view_rd Aa2 c3 ((flInt .i64).kd) s1 true true), trivial⟩ ?_
 rintro _ _ ⟨rfl, rfl⟩
 refine JL.pur (.bool (decide (0 ≤ t5))) (some 8) ?_
 refine JL.as (.bool (decide (0 ≤ t5))) ?_
 refine JL.nil ?_
 refine JQ.then_normal ?_
 refine JQ.sub [(4, .bool (decide (0 ≤ t5)))] ?_
 refine JQ.mask [] [false] ?_
 refine J.ret ?_
 obtain rfl := Option.some.inj H0
 exact JQ.done' (rs := [.tmp 4]) (vs := [.bool (decide (0 ≤ t5))]) [] (.inr rfl) ⟨by kernel_rfl, trivial⟩ (fun _ h => Heap.to h) ⟨rfl, rfl⟩

theorem sample_Check.ok (s1 : (List Int)) (Aa2 : Option Addr) (c3 : Nat) (r : Int) (H0 : sample_Check.f s1 = some r) :
    Does Try.prog 25 [.slice Aa2 s1.length c3].toArray [At.rd Aa2 c3 ((flInt .i64).kd) s1 true] [] false (fun v Δ => v = .int .i64 r ∧ Δ = []) := by
 refine Does.body (vs := [.slice Aa2 s1.length c3]) Try.func25 rfl ⟨.inl rfl, trivial⟩ trivial fun w S => ?_
 unfold sample_Check.f at H0
 refine J.seq ?_
 refine J.region ?_
 refine JL.as (.int .i64 0) ?_
 refine JL.nil ?_
 refine JQ.then_normal ?_
 refine JQ.sub [(0, .slice Aa2 s1.length c3)] ?_
 refine J.seq ?_
 refine J.seq ?_
 refine J.region ?_
 refine JL.mv (.slice Aa2 s1.length c3) ?_
 refine JL.pur (.int .i64 (s1.length : Int)) (some 4) ?_
 refine JL.pur (.bool (decide (256 < (s1.length : Int)))) (some 5) ?_
 refine JL.nil ?_
 refine JQ.then_normal ?_
 refine JQ.sub [(0, .slice Aa2 s1.length c3), (5, .bool (decide (256 < (s1.length : Int))))] ?_
 rcases ite_cases H0 with ⟨h5, H0⟩ | ⟨h5, H0⟩
 · refine J.cond_true h5 ?_
   refine J.seq ?_
   refine J.region ?_
   refine JL.as (.int .i64 4) ?_
   refine JL.nil ?_
   refine JQ.then_normal ?_
   refine JQ.sub [(2, .int .i64 4)] ?_
   refine JQ.mask [] [false] ?_
   refine J.ret ?_
   refine JQ.then_ret ?_
   obtain rfl := Option.some.inj H0
   exact JQ.done' (rs := [.tmp 2]) (vs := [.int .i64 4]) [] (.inr rfl) ⟨by kernel_rfl, trivial⟩ (fun _ h => Heap.to h) ⟨rfl, rfl⟩
 · refine J.cond_false h5 ?_
   refine J.skip ?_
   refine JQ.then_normal ?_
   refine JQ.sub [(0, .slice Aa2 s1.length c3)] ?_
   refine J.seq ?_
   refine J.seq ?_
   refine J.region ?_
   refine JL.mv (.slice Aa2 s1.length c3) ?_
   obtain ⟨t6, hc7, H0⟩ := bind_some H0
   refine JL.call [] [] [] (slices_ContainsFunc__int_int__sample_Check_1.ok s1 Aa2 c3 _ hc7) ⟨pre_any 0 (view_rd Aa2 c3 ((flInt .i64).kd) s1 true true), trivial⟩ ?_
   rintro _ _ ⟨rfl, rfl⟩
   refine JL.nil ?_
   refine JQ.then_normal ?_
   refine JQ.sub [(7, .bool t6)] ?_
   refine JQ.mask [] [false] ?_
   rcases ite_cases H0 with ⟨h8, H0⟩ | ⟨h8, H0⟩
   · refine J.cond_true h8 ?_
     refine J.seq ?_
     refine J.region ?_
     refine JL.as (.int .i64 8) ?_
     refine JL.nil ?_
     refine JQ.then_normal ?_
     refine JQ.sub [(2, .int .i64 8)] ?_
     refine J.ret ?_
     refine JQ.then_ret ?_
     obtain rfl := Option.some.inj H0
     exact JQ.done' (rs := [.tmp 2]) (vs := [.int .i64 8]) [] (.inr rfl) ⟨by kernel_rfl, trivial⟩ (fun _ h => Heap.to h) ⟨rfl, rfl⟩
   · refine J.cond_false h8 ?_
     refine J.skip ?_
     refine JQ.then_normal ?_
     refine JQ.sub [] ?_
     refine J.seq ?_
     refine J.region ?_
     refine JL.as (.int .i64 0) ?_
     refine JL.nil ?_
     refine JQ.then_normal ?_
     refine J.ret ?_
     obtain rfl := Option.some.inj H0
     exact JQ.done' (rs := [.tmp 2]) (vs := [.int .i64 0]) [] (.inr rfl) ⟨by kernel_rfl, trivial⟩ (fun _ h => Heap.to h) ⟨rfl, rfl⟩

theorem worker_blocks.ok (j1 : Job) (Aa2 : Option Addr) (c3 : Nat) (Aa5 : Option Addr) (c6 : Nat) (r : Int) (H0 : worker_blocks.f j1 = some r) :
    Does Try.prog 18 [.agg #[.slice Aa2 j1.X_.length c3, .slice Aa5 j1.Y.length c6, .int .i64 j1.Most, .int .i64 j1.Size]].toArray [At.rd Aa2 c3 ((flInt .i64).kd) j1.X_ true, At.rd Aa5 c6 ((flInt .i64).kd) j1.Y true] [] false (fun v Δ => v = .int .i64 r ∧ Δ = []) := by
 refine Does.body (vs := [.agg #[.slice Aa2 j1.X_.length c3, .slice Aa5 j1.Y.length c6, .int .i64 j1.Most, .int .i64 j1.Size]]) Try.func18 rfl ⟨.inl rfl, .inl rfl, trivial⟩ trivial fun w S => ?_
 unfold worker_blocks.f at H0
 refine J.seq ?_
 refine J.region ?_
 refine JL.box [.slice Aa2 j1.X_.length c3, .slice Aa5 j1.Y.length c6, .int .i64 j1.Most, .int .i64 j1.Size] fun b8 => ?_
 refine JL.as (.int .i64 0) ?_
 refine JL.nil ?_
 refine JQ.then_normal ?_
 refine JQ.sub [(1, .pointer (some ⟨b8, 0, none⟩))] ?_
 refine J.seq ?_
 refine J.region ?_
 refine JL.pur (.pointer (some ⟨b8, 0, none⟩)) (some 3) ?_
 refine JL.val (.slice Aa2 j1.X_.length c3) (some 4) (yields_load_box 2 0 (holds_box b8 24 [.slice Aa2 j1.X_.length c3, .slice Aa5 j1.Y.length c6, .int .i64 j1.Most, .int .i64 j1.Size]) tyAgg_22) ?_
 refine JL.pur (.int .i64 (j1.X_.length : Int)) (some 5) ?_
 refine JL.pur (.pointer (some ⟨b8, 3, none⟩)) (some 6) ?_
 refine JL.val (.int .i64 j1.Size) (some 7) (yields_load_box 2 3 (holds_box b8 24 [.slice Aa2 j1.X_.length c3, .slice Aa5 j1.Y.length c6, .int .i64 j1.Most, .int .i64 j1.Size]) tyAgg_3) ?_
 refine JL.pur (.int .i64 (w64 ((j1.X_.length : Int) + j1.Size))) (some 8) ?_
 refine JL.pur (.int .i64 (w64 ((w64 ((j1.X_.length : Int) + j1.Size)) - 1))) (some 9) ?_
 refine JL.pur (.pointer (some ⟨b8, 3, none⟩)) (some 10) ?_
 refine JL.val (.int .i64 j1.Size) (some 11) (yields_load_box 2 3 (holds_box b8 24 [.slice Aa2 j1.X_.length c3, .slice Aa5 j1.Y.length c6, .int .i64 j1.Most, .int .i64 j1.Size]) tyAgg_3) ?_
 obtain ⟨h9, H0⟩ := ite_must H0
 refine JL.val (.int .i64 (w64 (Int.tdiv (w64 ((w64 ((j1.X_.length : Int) + j1.Size)) - 1)) j1.Size))) (some 12) (gives_quo .i64 (w64 ((w64 ((j1.X_.length : Int) + j1.Size)) - 1)) j1.Size h9) ?_
 refine JL.as (.int .i64 (w64 (Int.tdiv (w64 ((w64 ((j1.X_.length : Int) + j1.Size)) - 1)) j1.Size))) ?_
 refine JL.nil ?_
 refine JQ.then_normal ?_
 refine JQ.sub [(2, .int .i64 (w64 (Int.tdiv (w64 ((w64 ((j1.X_.length : Int) + j1.Size)) - 1)) j1.Size)))] ?_
 refine JQ.mask [] [false, false, false] ?_
 refine J.ret ?_
 obtain rfl := Option.some.inj H0
 exact JQ.done' (rs := [.tmp 2]) (vs := [.int .i64 (w64 (Int.tdiv (w64 ((w64 ((j1.X_.length : Int) + j1.Size)) - 1)) j1.Size))]) [] (.inr rfl) ⟨by kernel_rfl, trivial⟩ (fun _ h => Heap.to h) ⟨rfl, rfl⟩

theorem worker_Check.ok (j1 : Job) (Aa2 : Option Addr) (c3 : Nat) (Aa5 : Option Addr) (c6 : Nat) (r : Int) (H0 : worker_Check.f j1 = some r) :
    Does Try.prog 11 [.agg #[.slice Aa2 j1.X_.length c3, .slice Aa5 j1.Y.length c6, .int .i64 j1.Most, .int .i64 j1.Size]].toArray [At.rd Aa2 c3 ((flInt .i64).kd) j1.X_ true, At.rd Aa5 c6 ((flInt .i64).kd) j1.Y true] [] false (fun v Δ => v = .int .i64 r ∧ Δ = []) := by
 refine Does.body (vs := [.agg #[.slice Aa2 j1.X_.length c3, .slice Aa5 j1.Y.length c6, .int .i64 j1.Most, .int .i64 j1.Size]]) Try.func11 rfl ⟨.inl rfl, .inl rfl, trivial⟩ trivial fun w S => ?_
 unfold worker_Check.f at H0
 refine J.seq ?_
 refine J.region ?_
 refine JL.box [.slice Aa2 j1.X_.length c3, .slice Aa5 j1.Y.length c6, .int .i64 j1.Most, .int .i64 j1.Size] fun b8 => ?_
 refine JL.as (.int .i64 0) ?_
 refine JL.nil ?_
 refine JQ.then_normal ?_
 refine JQ.sub [(1, .pointer (some ⟨b8, 0, none⟩))] ?_
 refine J.seq ?_
 refine J.seq ?_
 refine J.region ?_
 refine JL.pur (.pointer (some ⟨b8, 0, none⟩)) (some 5) ?_
 refine JL.val (.slice Aa2 j1.X_.length c3) (some 6) (yields_load_box 2 0 (holds_box b8 24 [.slice Aa2 j1.X_.length c3, .slice Aa5 j1.Y.length c6, .int .i64 j1.Most, .int .i64 j1.Size]) tyAgg_22) ?_
 obtain ⟨t9, hc10, H0⟩ := bind_some H0
 refine JL.call [] [] [] (sample_Check.ok j1.X_ Aa2 c3 _ hc10) ⟨pre_any 0 (view_rd Aa2 c3 ((flInt .i64).kd) j1.X_ true true), trivial⟩ ?_
 rintro _ _ ⟨rfl, rfl⟩
 refine JL.as (.int .i64 t9) ?_
 refine JL.nil ?_
 refine JQ.then_normal ?_
 refine JQ.sub [(1, .pointer (some ⟨b8, 0, none⟩)), (3, .int .i64 t9)] ?_
 refine J.seq ?_
 refine J.region ?_
 refine JL.mv (.int .i64 t9) ?_
 refine JL.pur (.bool (!decide (t9 = 0))) (some 9) ?_
 refine JL.nil ?_
 refine JQ.then_normal ?_
 refine JQ.sub [(1, .pointer (some ⟨b8, 0, none⟩)), (3, .int .i64 t9), (9, .bool (!decide (t9 = 0)))] ?_
 rcases ite_cases H0 with ⟨h11, H0⟩ | ⟨h11, H0⟩
 · refine J.cond_true h11 ?_
   refine J.seq ?_
   refine J.region ?_
   refine JL.mv (.int .i64 t9) ?_
   refine JL.as (.int .i64 t9) ?_
   refine JL.nil ?_
   refine JQ.then_normal ?_
   refine JQ.sub [(2, .int .i64 t9)] ?_
   refine JQ.mask [] [false, false, false] ?_
   refine J.ret ?_
   refine JQ.then_ret ?_
   obtain rfl := Option.some.inj H0
   exact JQ.done' (rs := [.tmp 2]) (vs := [.int .i64 t9]) [] (.inr rfl) ⟨by kernel_rfl, trivial⟩ (fun _ h => Heap.to h) ⟨rfl, rfl⟩
 · refine J.cond_false h11 ?_
   refine J.skip ?_
   refine JQ.then_normal ?_
   refine JQ.sub [(1, .pointer (some ⟨b8, 0, none⟩))] ?_
   refine J.seq ?_
   refine J.seq ?_
   refine J.region ?_
   refine JL.pur (.pointer (some ⟨b8, 1, none⟩)) (some 11) ?_
   refine JL.val (.slice Aa5 j1.Y.length c6) (some 12) (yields_load_box 2 1 (holds_box b8 24 [.slice Aa2 j1.X_.length c3, .slice Aa5 j1.Y.length c6, .int .i64 j1.Most, .int .i64 j1.Size]) tyAgg_22) ?_
   obtain ⟨t12, hc13, H0⟩ := bind_some H0
   refine JL.call [] [] [] (sample_Check.ok j1.Y Aa5 c6 _ hc13) ⟨pre_any 1 (view_rd Aa5 c6 ((flInt .i64).kd) j1.Y true true), trivial⟩ ?_
   rintro _ _ ⟨rfl, rfl⟩
   refine JL.as (.int .i64 t12) ?_
   refine JL.nil ?_
   refine JQ.then_normal ?_
   refine JQ.sub [(1, .pointer (some ⟨b8, 0, none⟩)), (4, .int .i64 t12)] ?_
   refine J.seq ?_
   refine J.region ?_
   refine JL.mv (.int .i64 t12) ?_
   refine JL.pur (.bool (!decide (t12 = 0))) (some 15) ?_
   refine JL.nil ?_
   refine JQ.then_normal ?_
   refine JQ.sub [(1, .pointer (some ⟨b8, 0, none⟩)), (4, .int .i64 t12), (15, .bool (!decide (t12 = 0)))] ?_
   rcases ite_cases H0 with ⟨h14, H0⟩ | ⟨h14, H0⟩
   · refine J.cond_true h14 ?_
     refine J.seq ?_
     refine J.region ?_
     refine JL.mv (.int .i64 t12) ?_
     refine JL.as (.int .i64 t12) ?_
     refine JL.nil ?_
     refine JQ.then_normal ?_
     refine JQ.sub [(2, .int .i64 t12)] ?_
     refine JQ.mask [] [false, false, false] ?_
     refine J.ret ?_
     refine JQ.then_ret ?_
     obtain rfl := Option.some.inj H0
     exact JQ.done' (rs := [.tmp 2]) (vs := [.int .i64 t12]) [] (.inr rfl) ⟨by kernel_rfl, trivial⟩ (fun _ h => Heap.to h) ⟨rfl, rfl⟩
   · refine J.cond_false h14 ?_
     refine J.skip ?_
     refine JQ.then_normal ?_
     refine JQ.sub [(1, .pointer (some ⟨b8, 0, none⟩))] ?_
     refine J.seq ?_
     refine J.join (T := Bool) (G := Unit) (fun t => worker_Check.k1 t = some r) (fun t g => [(39, .bool t)]) (fun t g => []) ?_ ?_
     · refine J.region ?_
       refine JL.pur (.pointer (some ⟨b8, 2, none⟩)) (some 17) ?_
       refine JL.val (.int .i64 j1.Most) (some 18) (yields_load_box 2 2 (holds_box b8 24 [.slice Aa2 j1.X_.length c3, .slice Aa5 j1.Y.length c6, .int .i64 j1.Most, .int .i64 j1.Size]) tyAgg_3) ?_
       refine JL.pur (.bool (decide (j1.Most < 0))) (some 19) ?_
       refine JL.mv (.bool (decide (j1.Most < 0))) ?_
       rcases ite_cases H0 with ⟨h23, H0⟩ | ⟨h23, H0⟩
       · refine JL.off 3 20 false (some 21) h23 ?_
         refine JL.off 3 20 false (some 22) h23 ?_
         refine JL.off 3 20 false (some 23) h23 ?_
         refine JL.val (.bool true) (some 24) (gives_pickT h23) ?_
         refine JL.mv (.bool true) ?_
         refine JL.off 8 25 false (some 26) rfl ?_
         refine JL.off 8 25 false (some 27) rfl ?_
         refine JL.off 8 25 false (some 28) rfl ?_
         refine JL.val (.bool true) (some 29) (gives_pickT rfl) ?_
         refine JL.mv (.bool true) ?_
         refine JL.off 13 30 false (some 31) rfl ?_
         refine JL.off 13 30 false (some 32) rfl ?_
         refine JL.off 13 30 false (some 33) rfl ?_
         refine JL.val (.bool true) (some 34) (gives_pickT rfl) ?_
         refine JL.mv (.bool true) ?_
         refine JL.off 18 35 false (some 36) rfl ?_
         refine JL.off 18 35 false (some 37) rfl ?_
         refine JL.off 18 35 false (some 38) rfl ?_
         refine JL.val (.bool true) (some 39) (gives_pickT rfl) ?_
         refine JL.nil ?_
         refine JQ.then_normal ?_
         exact JQ.meet true () H0 (fun _ h => Heap.to (Heap.pick [] (by decide) h))
       · refine JL.on 3 20 h23 ?_
         refine JL.pur (.pointer (some ⟨b8, 2, none⟩)) (some 21) ?_
         refine JL.on 3 20 h23 ?_
         refine JL.val (.int .i64 j1.Most) (some 22) (yields_load_box 2 2 (holds_box b8 24 [.slice Aa2 j1.X_.length c3, .slice Aa5 j1.Y.length c6, .int .i64 j1.Most, .int .i64 j1.Size]) tyAgg_3) ?_
         refine JL.on 3 20 h23 ?_
         refine JL.pur (.bool (decide (255 < j1.Most))) (some 23) ?_
         refine JL.val (.bool (decide (255 < j1.Most))) (some 24) (gives_pickF h23) ?_
         refine JL.mv (.bool (decide (255 < j1.Most))) ?_
         rcases ite_cases H0 with ⟨h24, H0⟩ | ⟨h24, H0⟩
         · refine JL.off 8 25 false (some 26) h24 ?_
           refine JL.off 8 25 false (some 27) h24 ?_
           refine JL.off 8 25 false (some 28) h24 ?_
           refine JL.val (.bool true) (some 29) (gives_pickT h24) ?_
           refine JL.mv (.bool true) ?_
           refine JL.off 13 30 false (some 31) rfl ?_
           refine JL.off 13 30 false (some 32) rfl ?_
           refine JL.off 13 30 false (some 33) rfl ?_
           refine JL.val (.bool true) (some 34) (gives_pickT rfl) ?_
           refine JL.mv (.bool true) ?_
           refine JL.off 18 35 false (some 36) rfl ?_
           refine JL.off 18 35 false (some 37) rfl ?_
           refine JL.off 18 35 false (some 38) rfl ?_
           refine JL.val (.bool true) (some 39) (gives_pickT rfl) ?_
           refine JL.nil ?_
           refine JQ.then_normal ?_
           exact JQ.meet true () H0 (fun _ h => Heap.to (Heap.pick [] (by decide) h))
         · refine JL.on 8 25 h24 ?_
           refine JL.pur (.pointer (some ⟨b8, 3, none⟩)) (some 26) ?_
           refine JL.on 8 25 h24 ?_
           refine JL.val (.int .i64 j1.Size) (some 27) (yields_load_box 2 3 (holds_box b8 24 [.slice Aa2 j1.X_.length c3, .slice Aa5 j1.Y.length c6, .int .i64 j1.Most, .int .i64 j1.Size]) tyAgg_3) ?_
           refine JL.on 8 25 h24 ?_
           refine JL.pur (.bool (decide (j1.Size < 1))) (some 28) ?_
           refine JL.val (.bool (decide (j1.Size < 1))) (some 29) (gives_pickF h24) ?_
           refine JL.mv (.bool (decide (j1.Size < 1))) ?_
           rcases ite_cases H0 with ⟨h25, H0⟩ | ⟨h25, H0⟩
           · refine JL.off 13 30 false (some 31) h25 ?_
             refine JL.off 13 30 false (some 32) h25 ?_
             refine JL.off 13 30 false (some 33) h25 ?_
             refine JL.val (.bool true) (some 34) (gives_pickT h25) ?_
             refine JL.mv (.bool true) ?_
             refine JL.off 18 35 false (some 36) rfl ?_
             refine JL.off 18 35 false (some 37) rfl ?_
             refine JL.off 18 35 false (some 38) rfl ?_
             refine JL.val (.bool true) (some 39) (gives_pickT rfl) ?_
             refine JL.nil ?_
             refine JQ.then_normal ?_
             exact JQ.meet true () H0 (fun _ h => Heap.to (Heap.pick [] (by decide) h))
           · refine JL.on 13 30 h25 ?_
             refine JL.pur (.pointer (some ⟨b8, 3, none⟩)) (some 31) ?_
             refine JL.on 13 30 h25 ?_
             refine JL.val (.int .i64 j1.Size) (some 32) (yields_load_box 2 3 (holds_box b8 24 [.slice Aa2 j1.X_.length c3, .slice Aa5 j1.Y.length c6, .int .i64 j1.Most, .int .i64 j1.Size]) tyAgg_3) ?_
             refine JL.on 13 30 h25 ?_
             refine JL.pur (.bool (decide (256 < j1.Size))) (some 33) ?_
             refine JL.val (.bool (decide (256 < j1.Size))) (some 34) (gives_pickF h25) ?_
             refine JL.mv (.bool (decide (256 < j1.Size))) ?_
             rcases ite_cases H0 with ⟨h26, H0⟩ | ⟨h26, H0⟩
             · refine JL.off 18 35 false (some 36) h26 ?_
               refine JL.off 18 35 false (some 37) h26 ?_
               refine JL.off 18 35 false (some 38) h26 ?_
               refine JL.val (.bool true) (some 39) (gives_pickT h26) ?_
               refine JL.nil ?_
               refine JQ.then_normal ?_
               exact JQ.meet true () H0 (fun _ h => Heap.to (Heap.pick [] (by decide) h))
             · refine JL.on 18 35 h26 ?_
               refine JL.val (.agg #[.slice Aa2 j1.X_.length c3, .slice Aa5 j1.Y.length c6, .int .i64 j1.Most, .int .i64 j1.Size]) (some 36) (yields_load_boxes 2 0 [.slice Aa2 j1.X_.length c3, .slice Aa5 j1.Y.length c6, .int .i64 j1.Most, .int .i64 j1.Size] (holds_box b8 24 [.slice Aa2 j1.X_.length c3, .slice Aa5 j1.Y.length c6, .int .i64 j1.Most, .int .i64 j1.Size]) tyAgg_24 tySize_24) ?_
               refine JL.on 18 35 h26 ?_
               obtain ⟨t27, hc28, H0⟩ := bind_some H0
               refine JL.call [] [] [] (worker_blocks.ok j1 Aa2 c3 Aa5 c6 _ hc28) ⟨pre_any 0 (view_rd Aa2 c3 ((flInt .i64).kd) j1.X_ true true), ⟨pre_any 1 (view_rd Aa5 c6 ((flInt .i64).kd) j1.Y true true), trivial⟩⟩ ?_
               rintro _ _ ⟨rfl, rfl⟩
               refine JL.on 18 35 h26 ?_
               refine JL.pur (.bool (decide (64 < t27))) (some 38) ?_
               refine JL.val (.bool (decide (64 < t27))) (some 39) (gives_pickF h26) ?_
               refine JL.nil ?_
               refine JQ.then_normal ?_
               exact JQ.meet (decide (64 < t27)) () H0 (fun _ h => Heap.to (Heap.pick [] (by decide) h))
     · clear H0
       rintro x21 ⟨⟩ H0
       replace H0 : worker_Check.k1 x21 = some r := H0
       unfold worker_Check.k1 at H0
       refine JQ.sub [(39, .bool x21)] ?_
       refine JQ.turn (Δ' := []) (fun _ h => h.to) ?_
       rcases ite_cases H0 with ⟨h22, H0⟩ | ⟨h22, H0⟩
       · refine J.cond_true h22 ?_
         refine J.seq ?_
         refine J.region ?_
         refine JL.as (.int .i64 8) ?_
         refine JL.nil ?_
         refine JQ.then_normal ?_
         refine JQ.sub [(2, .int .i64 8)] ?_
         refine J.ret ?_
         refine JQ.then_ret ?_
         obtain rfl := Option.some.inj H0
         exact JQ.done' (rs := [.tmp 2]) (vs := [.int .i64 8]) [] (.inr rfl) ⟨by kernel_rfl, trivial⟩ (fun _ h => Heap.to h) ⟨rfl, rfl⟩
       · refine J.cond_false h22 ?_
         refine J.skip ?_
         refine JQ.then_normal ?_
         refine JQ.sub [] ?_
         refine J.seq ?_
         refine J.region ?_
         refine JL.as (.int .i64 0) ?_
         refine JL.nil ?_
         refine JQ.then_normal ?_
         refine J.ret ?_
         obtain rfl := Option.some.inj H0
         exact JQ.done' (rs := [.tmp 2]) (vs := [.int .i64 0]) [] (.inr rfl) ⟨by kernel_rfl, trivial⟩ (fun _ h => Heap.to h) ⟨rfl, rfl⟩

theorem worker_Blocks.ok (j1 : Job) (Aa2 : Option Addr) (c3 : Nat) (Aa5 : Option Addr) (c6 : Nat) (r : (Int × Int)) (H0 : worker_Blocks.f j1 = some r) :
    Does Try.prog 5 [.agg #[.slice Aa2 j1.X_.length c3, .slice Aa5 j1.Y.length c6, .int .i64 j1.Most, .int .i64 j1.Size]].toArray [At.rd Aa2 c3 ((flInt .i64).kd) j1.X_ true, At.rd Aa5 c6 ((flInt .i64).kd) j1.Y true] [] false (fun v Δ => v = .tuple #[.int .i64 r.1, .int .i64 r.2] ∧ Δ = []) := by
 refine Does.body (vs := [.agg #[.slice Aa2 j1.X_.length c3, .slice Aa5 j1.Y.length c6, .int .i64 j1.Most, .int .i64 j1.Size]]) Try.func5 rfl ⟨.inl rfl, .inl rfl, trivial⟩ trivial fun w S => ?_
 unfold worker_Blocks.f at H0
 refine J.seq ?_
 refine J.region ?_
 refine JL.box [.slice Aa2 j1.X_.length c3, .slice Aa5 j1.Y.length c6, .int .i64 j1.Most, .int .i64 j1.Size] fun b8 => ?_
 refine JL.as (.int .i64 0) ?_
 refine JL.as (.int .i64 0) ?_
 refine JL.nil ?_
 refine JQ.then_normal ?_
 refine JQ.sub [(1, .pointer (some ⟨b8, 0, none⟩))] ?_
 refine J.seq ?_
 refine J.seq ?_
 refine J.region ?_
 refine JL.val (.agg #[.slice Aa2 j1.X_.length c3, .slice Aa5 j1.Y.length c6, .int .i64 j1.Most, .int .i64 j1.Size]) (some 5) (yields_load_boxes 2 0 [.slice Aa2 j1.X_.length c3, .slice Aa5 j1.Y.length c6, .int .i64 j1.Most, .int .i64 j1.Size] (holds_box b8 24 [.slice Aa2 j1.X_.length c3, .slice Aa5 j1.Y.length c6, .int .i64 j1.Most, .int .i64 j1.Size]) tyAgg_24 tySize_24) ?_
 obtain ⟨t9, hc10, H0⟩ := bind_some H0
 refine JL.call [] [] [] (worker_Check.ok j1 Aa2 c3 Aa5 c6 _ hc10) ⟨pre_any 0 (view_rd Aa2 c3 ((flInt .i64).kd) j1.X_ true true), ⟨pre_any 1 (view_rd Aa5 c6 ((flInt .i64).kd) j1.Y true true), trivial⟩⟩ ?_
 rintro _ _ ⟨rfl, rfl⟩
 refine JL.as (.int .i64 t9) ?_
 refine JL.nil ?_
 refine JQ.then_normal ?_
 refine JQ.sub [(1, .pointer (some ⟨b8, 0, none⟩)), (4, .int .i64 t9)] ?_
 refine J.seq ?_
 refine J.region ?_
 refine JL.mv (.int .i64 t9) ?_
 refine JL.pur (.bool (!decide (t9 = 0))) (some 8) ?_
 refine JL.nil ?_
 refine JQ.then_normal ?_
 refine JQ.sub [(1, .pointer (some ⟨b8, 0, none⟩)), (4, .int .i64 t9), (8, .bool (!decide (t9 = 0)))] ?_
 rcases ite_cases H0 with ⟨h11, H0⟩ | ⟨h11, H0⟩
 · refine J.cond_true h11 ?_
   refine J.seq ?_
   refine J.region ?_
   refine JL.mv (.int .i64 t9) ?_
   refine JL.as (.int .i64 0) ?_
   refine JL.as (.int .i64 t9) ?_
   refine JL.nil ?_
   refine JQ.then_normal ?_
   refine JQ.sub [(2, .int .i64 0), (3, .int .i64 t9)] ?_
   refine JQ.mask [] [false, false, false] ?_
   refine J.ret ?_
   refine JQ.then_ret ?_
   obtain rfl := Option.some.inj H0
   exact JQ.done' (rs := [.tmp 2, .tmp 3]) (vs := [.int .i64 0, .int .i64 t9]) [] (.inr rfl) ⟨by kernel_rfl, by kernel_rfl, trivial⟩ (fun _ h => Heap.to h) ⟨rfl, rfl⟩
 · refine J.cond_false h11 ?_
   refine J.skip ?_
   refine JQ.then_normal ?_
   refine JQ.sub [(1, .pointer (some ⟨b8, 0, none⟩))] ?_
   refine J.seq ?_
   refine J.region ?_
   refine JL.val (.agg #[.slice Aa2 j1.X_.length c3, .slice Aa5 j1.Y.length c6, .int .i64 j1.Most, .int .i64 j1.Size]) (some 10) (yields_load_boxes 2 0 [.slice Aa2 j1.X_.length c3, .slice Aa5 j1.Y.length c6, .int .i64 j1.Most, .int .i64 j1.Size] (holds_box b8 24 [.slice Aa2 j1.X_.length c3, .slice Aa5 j1.Y.length c6, .int .i64 j1.Most, .int .i64 j1.Size]) tyAgg_24 tySize_24) ?_
   obtain ⟨t12, hc13, H0⟩ := bind_some H0
   refine JL.call [] [] [] (worker_blocks.ok j1 Aa2 c3 Aa5 c6 _ hc13) ⟨pre_any 0 (view_rd Aa2 c3 ((flInt .i64).kd) j1.X_ true true), ⟨pre_any 1 (view_rd Aa5 c6 ((flInt .i64).kd) j1.Y true true), trivial⟩⟩ ?_
   rintro _ _ ⟨rfl, rfl⟩
   refine JL.as (.int .i64 t12) ?_
   refine JL.as (.int .i64 0) ?_
   refine JL.nil ?_
   refine JQ.then_normal ?_
   refine JQ.sub [(2, .int .i64 t12), (3, .int .i64 0)] ?_
   refine JQ.mask [] [false, false, false] ?_
   refine J.ret ?_
   obtain rfl := Option.some.inj H0
   exact JQ.done' (rs := [.tmp 2, .tmp 3]) (vs := [.int .i64 t12, .int .i64 0]) [] (.inr rfl) ⟨by kernel_rfl, by kernel_rfl, trivial⟩ (fun _ h => Heap.to h) ⟨rfl, rfl⟩

theorem ref19_Blocks.ok (j1 : Job) (Aa2 : Option Addr) (c3 : Nat) (Aa5 : Option Addr) (c6 : Nat) (r : (Int × Int)) (H0 : ref19_Blocks.f j1 = some r) :
    Does Try.prog 6 [.agg #[.slice Aa2 j1.X_.length c3, .slice Aa5 j1.Y.length c6, .int .i64 j1.Most, .int .i64 j1.Size]].toArray [At.rd Aa2 c3 ((flInt .i64).kd) j1.X_ true, At.rd Aa5 c6 ((flInt .i64).kd) j1.Y true] [] false (fun v Δ => v = .tuple #[.int .i64 r.1, .int .i64 r.2] ∧ Δ = []) := by
 refine Does.body (vs := [.agg #[.slice Aa2 j1.X_.length c3, .slice Aa5 j1.Y.length c6, .int .i64 j1.Most, .int .i64 j1.Size]]) Try.func6 rfl ⟨.inl rfl, .inl rfl, trivial⟩ trivial fun w S => ?_
 unfold ref19_Blocks.f at H0
 refine J.seq ?_
 refine J.region ?_
 refine JL.box [.slice Aa2 j1.X_.length c3, .slice Aa5 j1.Y.length c6, .int .i64 j1.Most, .int .i64 j1.Size] fun b8 => ?_
 refine JL.as (.int .i64 0) ?_
 refine JL.as (.int .i64 0) ?_
 refine JL.nil ?_
 refine JQ.then_normal ?_
 refine JQ.sub [(1, .pointer (some ⟨b8, 0, none⟩))] ?_
 refine J.seq ?_
 refine J.seq ?_
 refine J.region ?_
 refine JL.val (.agg #[.slice Aa2 j1.X_.length c3, .slice Aa5 j1.Y.length c6, .int .i64 j1.Most, .int .i64 j1.Size]) (some 4) (yields_load_boxes 2 0 [.slice Aa2 j1.X_.length c3, .slice Aa5 j1.Y.length c6, .int .i64 j1.Most, .int .i64 j1.Size] (holds_box b8 24 [.slice Aa2 j1.X_.length c3, .slice Aa5 j1.Y.length c6, .int .i64 j1.Most, .int .i64 j1.Size]) tyAgg_24 tySize_24) ?_
 obtain ⟨t9, hc10, H0⟩ := bind_some H0
 refine JL.call [] [] [] (ref19_Check.ok j1 Aa2 c3 Aa5 c6 _ hc10) ⟨pre_any 0 (view_rd Aa2 c3 ((flInt .i64).kd) j1.X_ true true), ⟨pre_any 1 (view_rd Aa5 c6 ((flInt .i64).kd) j1.Y true true), trivial⟩⟩ ?_
 rintro _ _ ⟨rfl, rfl⟩
 refine JL.pur (.bool (!decide (t9 = 0))) (some 6) ?_
 refine JL.nil ?_
 refine JQ.then_normal ?_
 refine JQ.sub [(1, .pointer (some ⟨b8, 0, none⟩)), (6, .bool (!decide (t9 = 0)))] ?_
 rcases ite_cases H0 with ⟨h11, H0⟩ | ⟨h11, H0⟩
 · refine J.cond_true h11 ?_
   refine J.seq ?_
   refine J.region ?_
   refine JL.val (.agg #[.slice Aa2 j1.X_.length c3, .slice Aa5 j1.Y.length c6, .int .i64 j1.Most, .int .i64 j1.Size]) (some 7) (yields_load_boxes 2 0 [.slice Aa2 j1.X_.length c3, .slice Aa5 j1.Y.length c6, .int .i64 j1.Most, .int .i64 j1.Size] (holds_box b8 24 [.slice Aa2 j1.X_.length c3, .slice Aa5 j1.Y.length c6, .int .i64 j1.Most, .int .i64 j1.Size]) tyAgg_24 tySize_24) ?_
   obtain ⟨t12, hc13, H0⟩ := bind_some H0
   refine JL.call [] [] [] (ref19_Check.ok j1 Aa2 c3 Aa5 c6 _ hc13) ⟨pre_any 0 (view_rd Aa2 c3 ((flInt .i64).kd) j1.X_ true true), ⟨pre_any 1 (view_rd Aa5 c6 ((flInt .i64).kd) j1.Y true true), trivial⟩⟩ ?_
   rintro _ _ ⟨rfl, rfl⟩
   refine JL.as (.int .i64 0) ?_
   refine JL.as (.int .i64 t12) ?_
   refine JL.nil ?_
   refine JQ.then_normal ?_
   refine JQ.sub [(2, .int .i64 0), (3, .int .i64 t12)] ?_
   refine JQ.mask [] [false, false, false] ?_
   refine J.ret ?_
   refine JQ.then_ret ?_
   obtain rfl := Option.some.inj H0
   exact JQ.done' (rs := [.tmp 2, .tmp 3]) (vs := [.int .i64 0, .int .i64 t12]) [] (.inr rfl) ⟨by kernel_rfl, by kernel_rfl, trivial⟩ (fun _ h => Heap.to h) ⟨rfl, rfl⟩
 · refine J.cond_false h11 ?_
   refine J.skip ?_
   refine JQ.then_normal ?_
   refine JQ.sub [(1, .pointer (some ⟨b8, 0, none⟩))] ?_
   refine J.seq ?_
   refine J.region ?_
   refine JL.val (.agg #[.slice Aa2 j1.X_.length c3, .slice Aa5 j1.Y.length c6, .int .i64 j1.Most, .int .i64 j1.Size]) (some 9) (yields_load_boxes 2 0 [.slice Aa2 j1.X_.length c3, .slice Aa5 j1.Y.length c6, .int .i64 j1.Most, .int .i64 j1.Size] (holds_box b8 24 [.slice Aa2 j1.X_.length c3, .slice Aa5 j1.Y.length c6, .int .i64 j1.Most, .int .i64 j1.Size]) tyAgg_24 tySize_24) ?_
   obtain ⟨t14, hc15, H0⟩ := bind_some H0
   refine JL.call [] [] [] (ref19_Count.ok j1 Aa2 c3 Aa5 c6 _ hc15) ⟨pre_any 0 (view_rd Aa2 c3 ((flInt .i64).kd) j1.X_ true true), ⟨pre_any 1 (view_rd Aa5 c6 ((flInt .i64).kd) j1.Y true true), trivial⟩⟩ ?_
   rintro _ _ ⟨rfl, rfl⟩
   refine JL.as (.int .i64 t14) ?_
   refine JL.as (.int .i64 0) ?_
   refine JL.nil ?_
   refine JQ.then_normal ?_
   refine JQ.sub [(2, .int .i64 t14), (3, .int .i64 0)] ?_
   refine JQ.mask [] [false, false, false] ?_
   refine J.ret ?_
   obtain rfl := Option.some.inj H0
   exact JQ.done' (rs := [.tmp 2, .tmp 3]) (vs := [.int .i64 t14, .int .i64 0]) [] (.inr rfl) ⟨by kernel_rfl, by kernel_rfl, trivial⟩ (fun _ h => Heap.to h) ⟨rfl, rfl⟩

theorem lag_Cut.ok (s1 : (List Int)) (Aa2 : Option Addr) (c3 : Nat) (at5 : Int) (r : ((List Int) × (List Int) × Int)) (H0 : lag_Cut.f s1 at5 = some r) :
    Does Try.prog 28 [.slice Aa2 s1.length c3, .int .i64 at5].toArray [At.rd Aa2 c3 ((flInt .i64).kd) s1 true] [] false (fun v Δ => ∃ A1001 : Option Addr, ∃ c1001 : Nat, ∃ A1002 : Option Addr, ∃ c1002 : Nat, v = .tuple #[.slice A1001 r.1.length c1001, .slice A1002 r.2.1.length c1002, .int .i64 r.2.2] ∧ Δ = [At.row A1001 c1001 3 ((flInt .i64).kd) r.1 false, At.row A1002 c1002 3 ((flInt .i64).kd) r.2.1 false]) := by
 refine Does.body (vs := [.slice Aa2 s1.length c3, .int .i64 at5]) Try.func28 rfl ⟨.inl rfl, trivial⟩ trivial fun w S => ?_
 unfold lag_Cut.f at H0
 refine J.seq ?_
 refine J.region ?_
 refine JL.as (.slice none 0 0) ?_
 refine JL.as (.slice none 0 0) ?_
 refine JL.as (.int .i64 0) ?_
 refine JL.nil ?_
 refine JQ.then_normal ?_
 refine JQ.sub [(0, .slice Aa2 s1.length c3), (1, .int .i64 at5)] ?_
 refine J.seq ?_
 refine J.seq ?_
 refine J.region ?_
 refine JL.mv (.slice Aa2 s1.length c3) ?_
 obtain ⟨t6, hc7, H0⟩ := bind_some H0
 refine JL.call [] [] [] (sample_Check.ok s1 Aa2 c3 _ hc7) ⟨pre_any 0 (view_rd Aa2 c3 ((flInt .i64).kd) s1 true true), trivial⟩ ?_
 rintro _ _ ⟨rfl, rfl⟩
 refine JL.as (.int .i64 t6) ?_
 refine JL.nil ?_
 refine JQ.then_normal ?_
 refine JQ.sub [(0, .slice Aa2 s1.length c3), (1, .int .i64 at5), (7, .int .i64 t6)] ?_
 refine J.seq ?_
 refine J.region ?_
 refine JL.mv (.int .i64 t6) ?_
 refine JL.pur (.bool (!decide (t6 = 0))) (some 11) ?_
 refine JL.nil ?_
 refine JQ.then_normal ?_
 refine JQ.sub [(0, .slice Aa2 s1.length c3), (1, .int .i64 at5), (7, .int .i64 t6), (11, .bool (!decide (t6 = 0)))] ?_
 rcases ite_cases H0 with ⟨h8, H0⟩ | ⟨h8, H0⟩
 · refine J.cond_true h8 ?_
   refine J.seq ?_
   refine J.region ?_
   refine JL.mv (.int .i64 t6) ?_
   refine JL.as (.slice none 0 0) ?_
   refine JL.as (.slice none 0 0) ?_
   refine JL.as (.int .i64 t6) ?_
   refine JL.nil ?_
   refine JQ.then_normal ?_
   refine JQ.sub [(4, .slice none 0 0), (5, .slice none 0 0), (6, .int .i64 t6)] ?_
   refine JQ.mask [] [false] ?_
   refine J.ret ?_
   refine JQ.then_ret ?_
   obtain rfl := Option.some.inj H0
   exact JQ.done' (rs := [.tmp 4, .tmp 5, .tmp 6]) (vs := [.slice none 0 0, .slice none 0 0, .int .i64 t6]) [At.row none 0 3 ((flInt .i64).kd) ([] : List Int) false, At.row none 0 3 ((flInt .i64).kd) ([] : List Int) false] (.inr rfl) ⟨by kernel_rfl, by kernel_rfl, by kernel_rfl, trivial⟩ (fun _ h => Heap.to (Heap.addRow0 (α := Int) 3 ((flInt .i64).kd) false (Heap.addRow0 (α := Int) 3 ((flInt .i64).kd) false h))) ⟨none, 0, none, 0, rfl, rfl⟩
 · refine J.cond_false h8 ?_
   refine J.skip ?_
   refine JQ.then_normal ?_
   refine JQ.sub [(0, .slice Aa2 s1.length c3), (1, .int .i64 at5)] ?_
   refine J.seq ?_
   refine J.join (T := Bool) (G := Unit) (fun t => lag_Cut.k1 s1 at5 t = some r) (fun t g => [(0, .slice Aa2 s1.length c3), (1, .int .i64 at5), (20, .bool t)]) (fun t g => [At.rd Aa2 c3 ((flInt .i64).kd) s1 true]) ?_ ?_
   · refine J.region ?_
     refine JL.mv (.int .i64 at5) ?_
     refine JL.pur (.bool (decide (at5 < 0))) (some 14) ?_
     refine JL.mv (.bool (decide (at5 < 0))) ?_
     rcases ite_cases H0 with ⟨h79, H0⟩ | ⟨h79, H0⟩
     · refine JL.off 2 15 false (some 16) h79 ?_
       refine JL.off 2 15 false (some 17) h79 ?_
       refine JL.off 2 15 false (some 18) h79 ?_
       refine JL.off 2 15 false (some 19) h79 ?_
       refine JL.val (.bool true) (some 20) (gives_pickT h79) ?_
       refine JL.nil ?_
       refine JQ.then_normal ?_
       exact JQ.meet true () H0 (fun _ h => Heap.to h)
     · refine JL.on 2 15 h79 ?_
       refine JL.mv (.int .i64 at5) ?_
       refine JL.on 2 15 h79 ?_
       refine JL.mv (.slice Aa2 s1.length c3) ?_
       refine JL.on 2 15 h79 ?_
       refine JL.pur (.int .i64 (s1.length : Int)) (some 18) ?_
       refine JL.on 2 15 h79 ?_
       refine JL.pur (.bool (decide ((s1.length : Int) < at5))) (some 19) ?_
       refine JL.val (.bool (decide ((s1.length : Int) < at5))) (some 20) (gives_pickF h79) ?_
       refine JL.nil ?_
       refine JQ.then_normal ?_
       exact JQ.meet (decide ((s1.length : Int) < at5)) () H0 (fun _ h => Heap.to h)
   · clear H0
     rintro x10 ⟨⟩ H0
     replace H0 : lag_Cut.k1 s1 at5 x10 = some r := H0
     unfold lag_Cut.k1 at H0
     refine JQ.sub [(0, .slice Aa2 s1.length c3), (1, .int .i64 at5), (20, .bool x10)] ?_
     refine JQ.turn (Δ' := [At.rd Aa2 c3 ((flInt .i64).kd) s1 true]) (fun _ h => h.to) ?_
     rcases ite_cases H0 with ⟨h11, H0⟩ | ⟨h11, H0⟩
     · refine J.cond_true h11 ?_
       refine J.seq ?_
       refine J.region ?_
       refine JL.as (.slice none 0 0) ?_
       refine JL.as (.slice none 0 0) ?_
       refine JL.as (.int .i64 2) ?_
       refine JL.nil ?_
       refine JQ.then_normal ?_
       refine JQ.sub [(4, .slice none 0 0), (5, .slice none 0 0), (6, .int .i64 2)] ?_
       refine JQ.mask [] [false] ?_
       refine J.ret ?_
       refine JQ.then_ret ?_
       obtain rfl := Option.some.inj H0
       exact JQ.done' (rs := [.tmp 4, .tmp 5, .tmp 6]) (vs := [.slice none 0 0, .slice none 0 0, .int .i64 2]) [At.row none 0 3 ((flInt .i64).kd) ([] : List Int) false, At.row none 0 3 ((flInt .i64).kd) ([] : List Int) false] (.inr rfl) ⟨by kernel_rfl, by kernel_rfl, by kernel_rfl, trivial⟩ (fun _ h => Heap.to (Heap.addRow0 (α := Int) 3 ((flInt .i64).kd) false (Heap.addRow0 (α := Int) 3 ((flInt .i64).kd) false h))) ⟨none, 0, none, 0, rfl, rfl⟩
     · refine J.cond_false h11 ?_
       refine J.skip ?_
       refine JQ.then_normal ?_
       refine JQ.sub [(0, .slice Aa2 s1.length c3), (1, .int .i64 at5)] ?_
       refine J.join (T := Unit) (G := ((Option Addr) × Nat × (Option Addr) × Nat)) (fun t => lag_Cut.k2 s1 at5 = some r) (fun t g => [(0, .slice Aa2 s1.length c3), (1, .int .i64 at5), (4, .slice g.1 (List.replicate (s1.length : Int).toNat (0 : Int)).length g.2.1), (5, .slice g.2.2.1 (List.replicate (s1.length : Int).toNat (0 : Int)).length g.2.2.2)]) (fun t g => [At.rd Aa2 c3 ((flInt .i64).kd) s1 true, At.row g.1 g.2.1 3 ((flInt .i64).kd) (List.replicate (s1.length : Int).toNat (0 : Int)) false, At.row g.2.2.1 g.2.2.2 3 ((flInt .i64).kd) (List.replicate (s1.length : Int).toNat (0 : Int)) false]) ?_ ?_
       · obtain ⟨⟨h56, h57, h58⟩, H0⟩ := ite_must H0
         obtain ⟨⟨h60, h61, h62⟩, H0⟩ := ite_must H0
         refine JY.start [] (ba 8 0) ?_
         refine JY.pur (hi := rfl) 0 (ba 8 1) (.slice Aa2 s1.length c3) (some 21) want ?_
         refine JY.pur (hi := rfl) 1 (ba 8 3) (.int .i64 (s1.length : Int)) (some 22) want ?_
         refine JY.pur (hi := rfl) 3 (ba 8 11) (.slice Aa2 s1.length c3) (some 24) want ?_
         refine JY.pur (hi := rfl) 4 (ba 8 27) (.int .i64 (s1.length : Int)) (some 25) want ?_
         refine JY.all [2, 5] ⟨⟨_, rfl, ?_⟩, ⟨_, rfl, ?_⟩, trivial⟩
         · obtain ⟨h64, h65, h66⟩ : 0 ≤ (s1.length : Int) ∧ (s1.length : Int) ≤ (s1.length : Int) ∧ (s1.length : Int) ≤ 35184372088832 := ⟨h60, h61, h62⟩
           refine JL.makeSl 3 ((flInt .i64).kd) (0 : Int) Try.underlying22 info_3 (fun _ _ => rfl) h64 h65 (by omega) (by omega) fun b63 => ?_
           refine JL.nil ?_
           refine JY.ran (ba 8 31) [true, false] ?_
           refine JY.pur (hi := rfl) 6 (ba 8 95) (.slice (some ⟨b63, 0, none⟩) (List.replicate (s1.length : Int).toNat (0 : Int)).length ((s1.length : Int).toNat)) (some 4) want ?_
           refine JY.all [5] ⟨⟨_, rfl, ?_⟩, trivial⟩
           obtain ⟨h68, h69, h70⟩ : 0 ≤ (s1.length : Int) ∧ (s1.length : Int) ≤ (s1.length : Int) ∧ (s1.length : Int) ≤ 35184372088832 := ⟨h60, h61, h62⟩
           refine JL.makeSl 3 ((flInt .i64).kd) (0 : Int) Try.underlying22 info_3 (fun _ _ => rfl) h68 h69 (by omega) (by omega) fun b67 => ?_
           refine JL.nil ?_
           refine JY.ran (ba 8 127) [true, false, false] ?_
           refine JY.pur (hi := rfl) 7 (ba 8 255) (.slice (some ⟨b67, 0, none⟩) (List.replicate (s1.length : Int).toNat (0 : Int)).length ((s1.length : Int).toNat)) (some 5) want ?_
           refine JY.done ?_
           refine JQ.then_normal ?_
           exact JQ.meet () ((some ⟨b63, 0, none⟩), (s1.length : Int).toNat, (some ⟨b67, 0, none⟩), (s1.length : Int).toNat) H0 (fun _ h => Heap.to h)
         · obtain ⟨h72, h73, h74⟩ : 0 ≤ (s1.length : Int) ∧ (s1.length : Int) ≤ (s1.length : Int) ∧ (s1.length : Int) ≤ 35184372088832 := ⟨h60, h61, h62⟩
           refine JL.makeSl 3 ((flInt .i64).kd) (0 : Int) Try.underlying22 info_3 (fun _ _ => rfl) h72 h73 (by omega) (by omega) fun b71 => ?_
           refine JL.nil ?_
           refine JY.ran (ba 8 59) [true, false] ?_
           refine JY.all [2] ⟨⟨_, rfl, ?_⟩, trivial⟩
           obtain ⟨h76, h77, h78⟩ : 0 ≤ (s1.length : Int) ∧ (s1.length : Int) ≤ (s1.length : Int) ∧ (s1.length : Int) ≤ 35184372088832 := ⟨h60, h61, h62⟩
           refine JL.makeSl 3 ((flInt .i64).kd) (0 : Int) Try.underlying22 info_3 (fun _ _ => rfl) h76 h77 (by omega) (by omega) fun b75 => ?_
           refine JL.nil ?_
           refine JY.ran (ba 8 63) [true, false, false] ?_
           refine JY.pur (hi := rfl) 6 (ba 8 127) (.slice (some ⟨b75, 0, none⟩) (List.replicate (s1.length : Int).toNat (0 : Int)).length ((s1.length : Int).toNat)) (some 4) want ?_
           refine JY.pur (hi := rfl) 7 (ba 8 255) (.slice (some ⟨b71, 0, none⟩) (List.replicate (s1.length : Int).toNat (0 : Int)).length ((s1.length : Int).toNat)) (some 5) want ?_
           refine JY.done ?_
           refine JQ.then_normal ?_
           exact JQ.meet () ((some ⟨b75, 0, none⟩), (s1.length : Int).toNat, (some ⟨b71, 0, none⟩), (s1.length : Int).toNat) H0 (fun _ h => Heap.to (Heap.pick [0, 2, 1] (by decide) h))
       · clear H0
         rintro ⟨⟩ ⟨Aa36, c37, Aa39, c40⟩ H0
         replace H0 : lag_Cut.k2 s1 at5 = some r := H0
         unfold lag_Cut.k2 at H0
         refine JQ.sub [(0, .slice Aa2 s1.length c3), (1, .int .i64 at5), (4, .slice Aa36 (List.replicate (s1.length : Int).toNat (0 : Int)).length c37), (5, .slice Aa39 (List.replicate (s1.length : Int).toNat (0 : Int)).length c40)] ?_
         refine JQ.turn (Δ' := [At.rd Aa2 c3 ((flInt .i64).kd) s1 true, At.row Aa36 c37 3 ((flInt .i64).kd) (List.replicate (s1.length : Int).toNat (0 : Int)) false, At.row Aa39 c40 3 ((flInt .i64).kd) (List.replicate (s1.length : Int).toNat (0 : Int)) false]) (fun _ h => h.to) ?_
         refine J.seq ?_
         refine J.region ?_
         refine JL.mv (.slice Aa36 (List.replicate (s1.length : Int).toNat (0 : Int)).length c37) ?_
         refine JL.mv (.int .i64 at5) ?_
         refine JL.mv (.int .i64 at5) ?_
         obtain ⟨⟨h43, h44, h45, h46⟩, H0⟩ := ite_must H0
         refine JQ.capLe' 1 (caple_row Aa36 c37 3 ((flInt .i64).kd) (List.replicate (s1.length : Int).toNat (0 : Int)) false) fun h42 => ?_
         refine JL.val (.slice (if at5.toNat = 0 then Aa36 else Option.map (fun q => Addr.add q (0 * 1)) Aa36) (((List.replicate (s1.length : Int).toNat (0 : Int)).take at5.toNat).drop 0).length (at5.toNat - 0)) (some 30) (gives_cutWin 0 at5.toNat at5.toNat Aa36 c37 (List.replicate (s1.length : Int).toNat (0 : Int)).length 1 Try.underlying22 tySize_3 (.inr ⟨.i64, at5, by kernel_rfl, h43, rfl⟩) (.inr ⟨.i64, at5, by kernel_rfl, h45, rfl⟩) (.inl ⟨rfl, rfl⟩) (.inr (by simp)) (by omega) (by omega) (by omega) (((List.replicate (s1.length : Int).toNat (0 : Int)).take at5.toNat).drop 0).length (win_len (by omega))) ?_
         refine JL.mv (.slice Aa2 s1.length c3) ?_
         refine JL.copy Aa36 (f := (flInt .i64)) (xs := (List.replicate (s1.length : Int).toNat (0 : Int))) (ys := s1) (sh := false) (E := 3) 1 0 0 at5.toNat (((List.replicate (s1.length : Int).toNat (0 : Int)).take at5.toNat).drop 0).length c37 (at5.toNat - 0) c3 (elems_rd Aa2 c3 ((flInt .i64).kd) s1 true) (win_or (cutWin_or (A := Aa36) (xs := (List.replicate (s1.length : Int).toNat (0 : Int))) (l := 0) (h := at5.toNat) (m := at5.toNat) (sz := 1) (by omega) (by omega) (by omega)) (by omega)) (by omega) (by omega) (win_len (by omega)) Try.underlying22 tySize_3 ?_
         obtain ⟨l47, el47, H0⟩ := lt_some H0
         have nl47 : l47.length = (List.replicate (s1.length : Int).toNat (0 : Int)).length := by rw [← el47]; exact length_cpy _ _ _ _ (by omega)
         rw [el47]
         refine JQ.len (fun n : Nat => [(0, .slice Aa2 s1.length c3), (1, .int .i64 at5), (4, .slice Aa36 n c37), (5, .slice Aa39 (List.replicate (s1.length : Int).toNat (0 : Int)).length c40), (27, .slice Aa36 n c37), (28, .int .i64 at5), (29, .int .i64 at5), (31, .slice Aa2 s1.length c3), (32, .int .i64 ((min s1.length (at5.toNat - 0) : Nat) : Int))]) nl47.symm ?_
         refine JQ.sub [(0, .slice Aa2 s1.length c3), (1, .int .i64 at5), (4, .slice Aa36 l47.length c37), (5, .slice Aa39 (List.replicate (s1.length : Int).toNat (0 : Int)).length c40), (27, .slice Aa36 l47.length c37), (28, .int .i64 at5), (29, .int .i64 at5), (31, .slice Aa2 s1.length c3), (32, .int .i64 ((min s1.length (at5.toNat - 0) : Nat) : Int))] ?_
         refine JL.nil ?_
         refine JQ.then_normal ?_
         refine JQ.sub [(0, .slice Aa2 s1.length c3), (1, .int .i64 at5), (4, .slice Aa36 l47.length c37), (5, .slice Aa39 (List.replicate (s1.length : Int).toNat (0 : Int)).length c40)] ?_
         refine J.seq ?_
         refine J.drawT 6 ?_
         refine QL.mv (.slice Aa39 (List.replicate (s1.length : Int).toNat (0 : Int)).length c40) ?_
         refine QL.mv (.int .i64 at5) ?_
         obtain ⟨⟨h49, h50⟩, H0⟩ := ite_must H0
         refine QL.capLe' 2 (caple_row Aa39 c40 3 ((flInt .i64).kd) (List.replicate (s1.length : Int).toNat (0 : Int)) false) fun h48 => ?_
         refine QL.val (.slice (if c40 = at5.toNat then Aa39 else Option.map (fun q => Addr.add q (at5.toNat * 1)) Aa39) (((List.replicate (s1.length : Int).toNat (0 : Int)).take ((List.replicate (s1.length : Int).toNat (0 : Int)).length)).drop at5.toNat).length (c40 - at5.toNat)) (some 35) (gives_cutWin at5.toNat ((List.replicate (s1.length : Int).toNat (0 : Int)).length) c40 Aa39 c40 (List.replicate (s1.length : Int).toNat (0 : Int)).length 1 Try.underlying22 tySize_3 (.inl ⟨rfl, rfl⟩) (.inl ⟨rfl, rfl⟩) (.inr ⟨.i64, at5, by kernel_rfl, h49, rfl⟩) (.inl rfl) (by omega) (by omega) (by omega) (((List.replicate (s1.length : Int).toNat (0 : Int)).take ((List.replicate (s1.length : Int).toNat (0 : Int)).length)).drop at5.toNat).length (win_len (by omega))) ?_
         refine QL.mv (.slice Aa2 s1.length c3) ?_
         refine QL.mv (.int .i64 at5) ?_
         obtain ⟨⟨h52, h53⟩, H0⟩ := ite_must H0
         refine QL.capLe' 0 (caple_rd Aa2 c3 ((flInt .i64).kd) s1 true) fun h51 => ?_
         refine QL.val (.slice (if c3 = at5.toNat then Aa2 else Option.map (fun q => Addr.add q (at5.toNat * 1)) Aa2) ((s1.take s1.length).drop at5.toNat).length (c3 - at5.toNat)) (some 38) (gives_cutWin at5.toNat s1.length c3 Aa2 c3 s1.length 1 Try.underlying22 tySize_3 (.inl ⟨rfl, rfl⟩) (.inl ⟨rfl, rfl⟩) (.inr ⟨.i64, at5, by kernel_rfl, h52, rfl⟩) (.inl rfl) (by omega) (by omega) (by omega) ((s1.take s1.length).drop at5.toNat).length (win_len (by omega))) ?_
         refine QL.nil ?_
         refine JA.nil ?_
         refine JL.copy Aa39 (f := (flInt .i64)) (xs := (List.replicate (s1.length : Int).toNat (0 : Int))) (ys := ((s1.take s1.length).drop at5.toNat)) (sh := false) (E := 3) 2 0 at5.toNat ((List.replicate (s1.length : Int).toNat (0 : Int)).length) (((List.replicate (s1.length : Int).toNat (0 : Int)).take ((List.replicate (s1.length : Int).toNat (0 : Int)).length)).drop at5.toNat).length c40 (c40 - at5.toNat) (c3 - at5.toNat) (elems_win at5.toNat s1.length (elems_rd Aa2 c3 ((flInt .i64).kd) s1 true) (by omega) (cutWin_or (A := Aa2) (xs := s1) (l := at5.toNat) (h := s1.length) (m := c3) (sz := 1) (by omega) (by omega) (by omega))) (win_or (cutWin_or (A := Aa39) (xs := (List.replicate (s1.length : Int).toNat (0 : Int))) (l := at5.toNat) (h := ((List.replicate (s1.length : Int).toNat (0 : Int)).length)) (m := c40) (sz := 1) (by omega) (by omega) (by omega)) (by omega)) (by omega) (by omega) (win_len (by omega)) Try.underlying22 tySize_3 ?_
         obtain ⟨l54, el54, H0⟩ := lt_some H0
         have nl54 : l54.length = (List.replicate (s1.length : Int).toNat (0 : Int)).length := by rw [← el54]; exact length_cpy _ _ _ _ (by omega)
         rw [el54]
         refine JQ.len (fun n : Nat => [(0, .slice Aa2 s1.length c3), (1, .int .i64 at5), (4, .slice Aa36 l47.length c37), (5, .slice Aa39 n c40), (33, .slice Aa39 n c40), (34, .int .i64 at5), (36, .slice Aa2 s1.length c3), (37, .int .i64 at5), (38, .slice (if c3 = at5.toNat then Aa2 else Option.map (fun q => Addr.add q (at5.toNat * 1)) Aa2) ((s1.take s1.length).drop at5.toNat).length (c3 - at5.toNat)), (39, .int .i64 ((min ((s1.take s1.length).drop at5.toNat).length (((List.replicate (s1.length : Int).toNat (0 : Int)).length) - at5.toNat) : Nat) : Int))]) nl54.symm ?_
         refine JQ.sub [(0, .slice Aa2 s1.length c3), (1, .int .i64 at5), (4, .slice Aa36 l47.length c37), (5, .slice Aa39 l54.length c40), (33, .slice Aa39 l54.length c40), (34, .int .i64 at5), (36, .slice Aa2 s1.length c3), (37, .int .i64 at5), (38, .slice (if c3 = at5.toNat then Aa2 else Option.map (fun q => Addr.add q (at5.toNat * 1)) Aa2) ((s1.take s1.length).drop at5.toNat).length (c3 - at5.toNat)), (39, .int .i64 ((min ((s1.take s1.length).drop at5.toNat).length (((List.replicate (s1.length : Int).toNat (0 : Int)).length) - at5.toNat) : Nat) : Int))] ?_
         refine JL.nil ?_
         refine JQ.then_normal ?_
         refine JQ.sub [(4, .slice Aa36 l47.length c37), (5, .slice Aa39 l54.length c40)] ?_
         refine JQ.mask [At.row Aa36 c37 3 ((flInt .i64).kd) l47 false, At.row Aa39 c40 3 ((flInt .i64).kd) l54 false] [false, true, true] ?_
         refine J.seq ?_
         refine J.region ?_
         refine JL.mv (.slice Aa36 l47.length c37) ?_
         refine JL.mv (.slice Aa39 l54.length c40) ?_
         refine JL.as (.slice Aa36 l47.length c37) ?_
         refine JL.as (.slice Aa39 l54.length c40) ?_
         refine JL.as (.int .i64 0) ?_
         refine JL.nil ?_
         refine JQ.then_normal ?_
         refine JQ.sub [(4, .slice Aa36 l47.length c37), (5, .slice Aa39 l54.length c40), (6, .int .i64 0)] ?_
         refine J.ret ?_
         obtain rfl := Option.some.inj H0
         exact JQ.done' (rs := [.tmp 4, .tmp 5, .tmp 6]) (vs := [.slice Aa36 l47.length c37, .slice Aa39 l54.length c40, .int .i64 0]) [At.row Aa36 c37 3 ((flInt .i64).kd) l47 false, At.row Aa39 c40 3 ((flInt .i64).kd) l54 false] (.inr rfl) ⟨by kernel_rfl, by kernel_rfl, by kernel_rfl, trivial⟩ (fun _ h => Heap.to h) ⟨Aa36, c37, Aa39, c40, rfl, rfl⟩

theorem lag_Of.ok (x1 : (List Int)) (Aa2 : Option Addr) (c3 : Nat) (y5 : (List Int)) (Aa6 : Option Addr) (c7 : Nat) (most9 : Int) (r : ((List Lag) × Int)) (H0 : lag_Of.f x1 y5 most9 = some r) :
    Does Try.prog 29 [.slice Aa2 x1.length c3, .slice Aa6 y5.length c7, .int .i64 most9].toArray [At.rd Aa2 c3 ((flInt .i64).kd) x1 true, At.rd Aa6 c7 ((flInt .i64).kd) y5 true] [] false (fun v Δ => ∃ A1001 : Option Addr, ∃ c1001 : Nat, v = .tuple #[.slice A1001 r.1.length c1001, .int .i64 r.2] ∧ Δ = [At.row A1001 c1001 65 fl_Lag.kd r.1 false]) := by
 refine Does.body (vs := [.slice Aa2 x1.length c3, .slice Aa6 y5.length c7, .int .i64 most9]) Try.func29 rfl ⟨.inl rfl, .inl rfl, trivial⟩ trivial fun w S => ?_
 unfold lag_Of.f at H0
 refine J.seq ?_
 refine J.region ?_
 refine JL.as (.slice none 0 0) ?_
 refine JL.as (.int .i64 0) ?_
 refine JL.nil ?_
 refine JQ.then_normal ?_
 refine JQ.sub [(0, .slice Aa2 x1.length c3), (1, .slice Aa6 y5.length c7), (2, .int .i64 most9)] ?_
 refine J.seq ?_
 refine J.seq ?_
 refine J.region ?_
 refine JL.mv (.slice Aa2 x1.length c3) ?_
 obtain ⟨t10, hc11, H0⟩ := bind_some H0
 refine JL.call [] [] [] (sample_Check.ok x1 Aa2 c3 _ hc11) ⟨pre_any 0 (view_rd Aa2 c3 ((flInt .i64).kd) x1 true true), trivial⟩ ?_
 rintro _ _ ⟨rfl, rfl⟩
 refine JL.as (.int .i64 t10) ?_
 refine JL.nil ?_
 refine JQ.then_normal ?_
 refine JQ.sub [(0, .slice Aa2 x1.length c3), (1, .slice Aa6 y5.length c7), (2, .int .i64 most9), (8, .int .i64 t10)] ?_
 refine J.seq ?_
 refine J.region ?_
 refine JL.mv (.int .i64 t10) ?_
 refine JL.pur (.bool (!decide (t10 = 0))) (some 18) ?_
 refine JL.nil ?_
 refine JQ.then_normal ?_
 refine JQ.sub [(0, .slice Aa2 x1.length c3), (1, .slice Aa6 y5.length c7), (2, .int .i64 most9), (8, .int .i64 t10), (18, .bool (!decide (t10 = 0)))] ?_
 rcases ite_cases H0 with ⟨h12, H0⟩ | ⟨h12, H0⟩
 · refine J.cond_true h12 ?_
   refine J.seq ?_
   refine J.region ?_
   refine JL.mv (.int .i64 t10) ?_
   refine JL.as (.slice none 0 0) ?_
   refine JL.as (.int .i64 t10) ?_
   refine JL.nil ?_
   refine JQ.then_normal ?_
   refine JQ.sub [(6, .slice none 0 0), (7, .int .i64 t10)] ?_
   refine JQ.mask [] [false, false] ?_
   refine J.ret ?_
   refine JQ.then_ret ?_
   obtain rfl := Option.some.inj H0
   exact JQ.done' (rs := [.tmp 6, .tmp 7]) (vs := [.slice none 0 0, .int .i64 t10]) [At.row none 0 65 fl_Lag.kd ([] : List Lag) false] (.inr rfl) ⟨by kernel_rfl, by kernel_rfl, trivial⟩ (fun _ h => Heap.to (Heap.addRow0 (α := Lag) 65 fl_Lag.kd false h)) ⟨none, 0, rfl, rfl⟩
 · refine J.cond_false h12 ?_
   refine J.skip ?_
   refine JQ.then_normal ?_
   refine JQ.sub [(0, .slice Aa2 x1.length c3), (1, .slice Aa6 y5.length c7), (2, .int .i64 most9)] ?_
   refine J.seq ?_
   refine J.seq ?_
   refine J.region ?_
   refine JL.mv (.slice Aa6 y5.length c7) ?_
   obtain ⟨t13, hc14, H0⟩ := bind_some H0
   refine JL.call [] [] [] (sample_Check.ok y5 Aa6 c7 _ hc14) ⟨pre_any 1 (view_rd Aa6 c7 ((flInt .i64).kd) y5 true true), trivial⟩ ?_
   rintro _ _ ⟨rfl, rfl⟩
   refine JL.as (.int .i64 t13) ?_
   refine JL.nil ?_
   refine JQ.then_normal ?_
   refine JQ.sub [(0, .slice Aa2 x1.length c3), (1, .slice Aa6 y5.length c7), (2, .int .i64 most9), (9, .int .i64 t13)] ?_
   refine J.seq ?_
   refine J.region ?_
   refine JL.mv (.int .i64 t13) ?_
   refine JL.pur (.bool (!decide (t13 = 0))) (some 23) ?_
   refine JL.nil ?_
   refine JQ.then_normal ?_
   refine JQ.sub [(0, .slice Aa2 x1.length c3), (1, .slice Aa6 y5.length c7), (2, .int .i64 most9), (9, .int .i64 t13), (23, .bool (!decide (t13 = 0)))] ?_
   rcases ite_cases H0 with ⟨h15, H0⟩ | ⟨h15, H0⟩
   · refine J.cond_true h15 ?_
     refine J.seq ?_
     refine J.region ?_
     refine JL.mv (.int .i64 t13) ?_
     refine JL.as (.slice none 0 0) ?_
     refine JL.as (.int .i64 t13) ?_
     refine JL.nil ?_
     refine JQ.then_normal ?_
     refine JQ.sub [(6, .slice none 0 0), (7, .int .i64 t13)] ?_
     refine JQ.mask [] [false, false] ?_
     refine J.ret ?_
     refine JQ.then_ret ?_
     obtain rfl := Option.some.inj H0
     exact JQ.done' (rs := [.tmp 6, .tmp 7]) (vs := [.slice none 0 0, .int .i64 t13]) [At.row none 0 65 fl_Lag.kd ([] : List Lag) false] (.inr rfl) ⟨by kernel_rfl, by kernel_rfl, trivial⟩ (fun _ h => Heap.to (Heap.addRow0 (α := Lag) 65 fl_Lag.kd false h)) ⟨none, 0, rfl, rfl⟩
   · refine J.cond_false h15 ?_
     refine J.skip ?_
     refine JQ.then_normal ?_
     refine JQ.sub [(0, .slice Aa2 x1.length c3), (1, .slice Aa6 y5.length c7), (2, .int .i64 most9)] ?_
     refine J.seq ?_
     refine J.join (T := Bool) (G := Unit) (fun t => lag_Of.k1 x1 y5 most9 t = some r) (fun t g => [(0, .slice Aa2 x1.length c3), (1, .slice Aa6 y5.length c7), (2, .int .i64 most9), (30, .bool t)]) (fun t g => [At.rd Aa2 c3 ((flInt .i64).kd) x1 true, At.rd Aa6 c7 ((flInt .i64).kd) y5 true]) ?_ ?_
     · refine J.region ?_
       refine JL.mv (.int .i64 most9) ?_
       refine JL.pur (.bool (decide (most9 < 0))) (some 26) ?_
       refine JL.mv (.bool (decide (most9 < 0))) ?_
       rcases ite_cases H0 with ⟨h1230, H0⟩ | ⟨h1230, H0⟩
       · refine JL.off 2 27 false (some 28) h1230 ?_
         refine JL.off 2 27 false (some 29) h1230 ?_
         refine JL.val (.bool true) (some 30) (gives_pickT h1230) ?_
         refine JL.nil ?_
         refine JQ.then_normal ?_
         exact JQ.meet true () H0 (fun _ h => Heap.to h)
       · refine JL.on 2 27 h1230 ?_
         refine JL.mv (.int .i64 most9) ?_
         refine JL.on 2 27 h1230 ?_
         refine JL.pur (.bool (decide (255 < most9))) (some 29) ?_
         refine JL.val (.bool (decide (255 < most9))) (some 30) (gives_pickF h1230) ?_
         refine JL.nil ?_
         refine JQ.then_normal ?_
         exact JQ.meet (decide (255 < most9)) () H0 (fun _ h => Heap.to h)
     · clear H0
       rintro x17 ⟨⟩ H0
       replace H0 : lag_Of.k1 x1 y5 most9 x17 = some r := H0
       unfold lag_Of.k1 at H0
       refine JQ.sub [(0, .slice Aa2 x1.length c3), (1, .slice Aa6 y5.length c7), (2, .int .i64 most9), (30, .bool x17)] ?_
       refine JQ.turn (Δ' := [At.rd Aa2 c3 ((flInt .i64).kd) x1 true, At.rd Aa6 c7 ((flInt .i64).kd) y5 true]) (fun _ h => h.to) ?_
       rcases ite_cases H0 with ⟨h18, H0⟩ | ⟨h18, H0⟩
       · refine J.cond_true h18 ?_
         refine J.seq ?_
         refine J.region ?_
         refine JL.as (.slice none 0 0) ?_
         refine JL.as (.int .i64 2) ?_
         refine JL.nil ?_
         refine JQ.then_normal ?_
         refine JQ.sub [(6, .slice none 0 0), (7, .int .i64 2)] ?_
         refine JQ.mask [] [false, false] ?_
         refine J.ret ?_
         refine JQ.then_ret ?_
         obtain rfl := Option.some.inj H0
         exact JQ.done' (rs := [.tmp 6, .tmp 7]) (vs := [.slice none 0 0, .int .i64 2]) [At.row none 0 65 fl_Lag.kd ([] : List Lag) false] (.inr rfl) ⟨by kernel_rfl, by kernel_rfl, trivial⟩ (fun _ h => Heap.to (Heap.addRow0 (α := Lag) 65 fl_Lag.kd false h)) ⟨none, 0, rfl, rfl⟩
       · refine J.cond_false h18 ?_
         refine J.skip ?_
         refine JQ.then_normal ?_
         refine JQ.sub [(0, .slice Aa2 x1.length c3), (1, .slice Aa6 y5.length c7), (2, .int .i64 most9)] ?_
         refine J.seq ?_
         refine J.region ?_
         refine JL.mv (.int .i64 most9) ?_
         refine JL.pur (.int .i64 (w64 (2 * most9))) (some 32) ?_
         refine JL.pur (.int .i64 (w64 ((w64 (2 * most9)) + 1))) (some 33) ?_
         obtain ⟨⟨h20, h21, h22⟩, H0⟩ := ite_must H0
         refine JL.makeSl 65 fl_Lag.kd ((⟨0, 0⟩ : Lag) : Lag) Try.underlying31 info_65 (fun _ _ => rfl) h20 h21 (by omega) (by omega) fun b19 => ?_
         refine JL.as (.slice (some ⟨b19, 0, none⟩) (List.replicate (w64 ((w64 (2 * most9)) + 1)).toNat ((⟨0, 0⟩ : Lag) : Lag)).length ((w64 ((w64 (2 * most9)) + 1)).toNat)) ?_
         refine JL.nil ?_
         refine JQ.then_normal ?_
         refine JQ.sub [(0, .slice Aa2 x1.length c3), (1, .slice Aa6 y5.length c7), (2, .int .i64 most9), (10, .slice (some ⟨b19, 0, none⟩) (List.replicate (w64 ((w64 (2 * most9)) + 1)).toNat ((⟨0, 0⟩ : Lag) : Lag)).length ((w64 ((w64 (2 * most9)) + 1)).toNat))] ?_
         refine J.seq ?_
         refine J.seq ?_
         refine J.region ?_
         refine JL.mv (.slice (some ⟨b19, 0, none⟩) (List.replicate (w64 ((w64 (2 * most9)) + 1)).toNat ((⟨0, 0⟩ : Lag) : Lag)).length ((w64 ((w64 (2 * most9)) + 1)).toNat)) ?_
         refine JL.pur (.int .i64 ((List.replicate (w64 ((w64 (2 * most9)) + 1)).toNat ((⟨0, 0⟩ : Lag) : Lag)).length : Int)) (some 36) ?_
         refine JL.mv (.int .i64 0) ?_
         refine JL.nil ?_
         refine JQ.then_normal ?_
         refine JQ.sub [(0, .slice Aa2 x1.length c3), (1, .slice Aa6 y5.length c7), (2, .int .i64 most9), (10, .slice (some ⟨b19, 0, none⟩) (List.replicate (w64 ((w64 (2 * most9)) + 1)).toNat ((⟨0, 0⟩ : Lag) : Lag)).length ((w64 ((w64 (2 * most9)) + 1)).toNat)), (36, .int .i64 ((List.replicate (w64 ((w64 (2 * most9)) + 1)).toNat ((⟨0, 0⟩ : Lag) : Lag)).length : Int)), (37, .int .i64 0)] ?_
         obtain ⟨o1, hit, H0⟩ := bind_some H0
         refine J.loop (σ := ((List Lag) × Int)) (τ := List Lag) (G := ((Option Addr) × Nat)) (G' := ((Option Addr) × Nat)) _ o1 (fun s g => [(0, .slice Aa2 x1.length c3), (1, .slice Aa6 y5.length c7), (2, .int .i64 most9), (10, .slice g.1 s.1.length g.2), (36, .int .i64 ((List.replicate (w64 ((w64 (2 * most9)) + 1)).toNat ((⟨0, 0⟩ : Lag) : Lag)).length : Int)), (37, .int .i64 s.2)]) (fun s g => [At.rd Aa2 c3 ((flInt .i64).kd) x1 true, At.rd Aa6 c7 ((flInt .i64).kd) y5 true, At.row g.1 g.2 65 fl_Lag.kd s.1 false]) (fun t => lag_Of.k45 t = some r) (fun t g => [(10, .slice g.1 t.length g.2)]) (fun t g => [At.row g.1 g.2 65 fl_Lag.kd t false]) ((List.replicate (w64 ((w64 (2 * most9)) + 1)).toNat ((⟨0, 0⟩ : Lag) : Lag)), 0) ((some ⟨b19, 0, none⟩), (w64 ((w64 (2 * most9)) + 1)).toNat) hit (fun _ h => Heap.to h) ?_ ?_
         · clear hit
           rintro ⟨out627, x631⟩ ⟨Aa628, c629⟩ st1 H1 hb1 hr1
           replace H1 : lag_Of.s44 x1 y5 most9 out627 x631 = some st1 := H1
           unfold lag_Of.s44 at H1
           refine JQ.sub [(0, .slice Aa2 x1.length c3), (1, .slice Aa6 y5.length c7), (2, .int .i64 most9), (10, .slice Aa628 out627.length c629), (36, .int .i64 ((List.replicate (w64 ((w64 (2 * most9)) + 1)).toNat ((⟨0, 0⟩ : Lag) : Lag)).length : Int)), (37, .int .i64 x631)] ?_
           refine JQ.turn (Δ' := [At.rd Aa2 c3 ((flInt .i64).kd) x1 true, At.rd Aa6 c7 ((flInt .i64).kd) y5 true, At.row Aa628 c629 65 fl_Lag.kd out627 false]) (fun _ h => h.to) ?_
           refine J.seq ?_
           refine J.region ?_
           refine JL.pur (.bool (decide (x631 < ((List.replicate (w64 ((w64 (2 * most9)) + 1)).toNat ((⟨0, 0⟩ : Lag) : Lag)).length : Int)))) (some 38) ?_
           refine JL.nil ?_
           refine JQ.then_normal ?_
           refine J.seq ?_
           rcases ite_cases H1 with ⟨h933, H1⟩ | ⟨h933, H1⟩
           · refine J.cond_true h933 ?_
             refine J.skip ?_
             refine JQ.then_normal ?_
             refine JQ.sub [(0, .slice Aa2 x1.length c3), (1, .slice Aa6 y5.length c7), (2, .int .i64 most9), (10, .slice Aa628 out627.length c629), (36, .int .i64 ((List.replicate (w64 ((w64 (2 * most9)) + 1)).toNat ((⟨0, 0⟩ : Lag) : Lag)).length : Int)), (37, .int .i64 x631)] ?_
             refine J.seq ?_
             refine J.block ?_
             refine J.seq ?_
             refine J.region ?_
             refine JL.mv (.int .i64 x631) ?_
             refine JL.as (.int .i64 x631) ?_
             refine JL.nil ?_
             refine JQ.then_normal ?_
             refine JQ.sub [(0, .slice Aa2 x1.length c3), (1, .slice Aa6 y5.length c7), (2, .int .i64 most9), (10, .slice Aa628 out627.length c629), (11, .int .i64 x631), (36, .int .i64 ((List.replicate (w64 ((w64 (2 * most9)) + 1)).toNat ((⟨0, 0⟩ : Lag) : Lag)).length : Int)), (37, .int .i64 x631)] ?_
             refine J.seq ?_
             refine J.region ?_
             refine JL.mv (.int .i64 x631) ?_
             refine JL.mv (.int .i64 most9) ?_
             refine JL.pur (.int .i64 (w64 (x631 - most9))) (some 42) ?_
             obtain ⟨l934, el934, H1⟩ := lt_some H1
             refine JL.as' (k := .i64) l934 el934 ?_
             refine JL.nil ?_
             refine JQ.then_normal ?_
             refine JQ.sub [(0, .slice Aa2 x1.length c3), (1, .slice Aa6 y5.length c7), (2, .int .i64 most9), (10, .slice Aa628 out627.length c629), (11, .int .i64 x631), (12, .int .i64 l934), (36, .int .i64 ((List.replicate (w64 ((w64 (2 * most9)) + 1)).toNat ((⟨0, 0⟩ : Lag) : Lag)).length : Int)), (37, .int .i64 x631)] ?_
             refine J.seq ?_
             refine J.region ?_
             refine JL.mv (.slice Aa2 x1.length c3) ?_
             refine JL.pur (.int .i64 (x1.length : Int)) (some 44) ?_
             refine JL.mv (.int .i64 0) ?_
             refine JL.nil ?_
             refine JQ.then_normal ?_
             refine JQ.sub [(0, .slice Aa2 x1.length c3), (1, .slice Aa6 y5.length c7), (2, .int .i64 most9), (10, .slice Aa628 out627.length c629), (11, .int .i64 x631), (12, .int .i64 l934), (36, .int .i64 ((List.replicate (w64 ((w64 (2 * most9)) + 1)).toNat ((⟨0, 0⟩ : Lag) : Lag)).length : Int)), (37, .int .i64 x631), (44, .int .i64 (x1.length : Int)), (45, .int .i64 0)] ?_
             obtain ⟨o2, hit, H1⟩ := bind_some H1
             refine J.loop (σ := ((List Lag) × Int)) (τ := List Lag) (G := ((Option Addr) × Nat)) (G' := ((Option Addr) × Nat)) _ o2 (fun s g => [(0, .slice Aa2 x1.length c3), (1, .slice Aa6 y5.length c7), (2, .int .i64 most9), (10, .slice g.1 s.1.length g.2), (11, .int .i64 x631), (12, .int .i64 l934), (36, .int .i64 ((List.replicate (w64 ((w64 (2 * most9)) + 1)).toNat ((⟨0, 0⟩ : Lag) : Lag)).length : Int)), (37, .int .i64 x631), (44, .int .i64 (x1.length : Int)), (45, .int .i64 s.2)]) (fun s g => [At.rd Aa2 c3 ((flInt .i64).kd) x1 true, At.rd Aa6 c7 ((flInt .i64).kd) y5 true, At.row g.1 g.2 65 fl_Lag.kd s.1 false]) (fun t => lag_Of.k56 x631 t = some st1) (fun t g => [(0, .slice Aa2 x1.length c3), (1, .slice Aa6 y5.length c7), (2, .int .i64 most9), (10, .slice g.1 t.length g.2), (36, .int .i64 ((List.replicate (w64 ((w64 (2 * most9)) + 1)).toNat ((⟨0, 0⟩ : Lag) : Lag)).length : Int)), (37, .int .i64 x631)]) (fun t g => [At.rd Aa2 c3 ((flInt .i64).kd) x1 true, At.rd Aa6 c7 ((flInt .i64).kd) y5 true, At.row g.1 g.2 65 fl_Lag.kd t false]) (out627, 0) (Aa628, c629) hit (fun _ h => Heap.to h) ?_ ?_
             · clear hit
               rintro ⟨out1083, x1087⟩ ⟨Aa1084, c1085⟩ st2 H2 hb2 hr2
               replace H2 : lag_Of.s55 x1 y5 x631 l934 out1083 x1087 = some st2 := H2
               unfold lag_Of.s55 at H2
               refine JQ.sub [(0, .slice Aa2 x1.length c3), (1, .slice Aa6 y5.length c7), (2, .int .i64 most9), (10, .slice Aa1084 out1083.length c1085), (11, .int .i64 x631), (12, .int .i64 l934), (36, .int .i64 ((List.replicate (w64 ((w64 (2 * most9)) + 1)).toNat ((⟨0, 0⟩ : Lag) : Lag)).length : Int)), (37, .int .i64 x631), (44, .int .i64 (x1.length : Int)), (45, .int .i64 x1087)] ?_
               refine JQ.turn (Δ' := [At.rd Aa2 c3 ((flInt .i64).kd) x1 true, At.rd Aa6 c7 ((flInt .i64).kd) y5 true, At.row Aa1084 c1085 65 fl_Lag.kd out1083 false]) (fun _ h => h.to) ?_
               refine J.seq ?_
               refine J.region ?_
               refine JL.pur (.bool (decide (x1087 < (x1.length : Int)))) (some 46) ?_
               refine JL.nil ?_
               refine JQ.then_normal ?_
               refine J.seq ?_
               rcases ite_cases H2 with ⟨h1161, H2⟩ | ⟨h1161, H2⟩
               · refine J.cond_true h1161 ?_
                 refine J.skip ?_
                 refine JQ.then_normal ?_
                 refine JQ.sub [(0, .slice Aa2 x1.length c3), (1, .slice Aa6 y5.length c7), (2, .int .i64 most9), (10, .slice Aa1084 out1083.length c1085), (11, .int .i64 x631), (12, .int .i64 l934), (36, .int .i64 ((List.replicate (w64 ((w64 (2 * most9)) + 1)).toNat ((⟨0, 0⟩ : Lag) : Lag)).length : Int)), (37, .int .i64 x631), (44, .int .i64 (x1.length : Int)), (45, .int .i64 x1087)] ?_
                 refine J.join (T := List Lag) (G := ((Option Addr) × Nat)) (fun t => lag_Of.k58 x1087 t = some st2) (fun t g => [(0, .slice Aa2 x1.length c3), (1, .slice Aa6 y5.length c7), (2, .int .i64 most9), (10, .slice g.1 t.length g.2), (11, .int .i64 x631), (12, .int .i64 l934), (36, .int .i64 ((List.replicate (w64 ((w64 (2 * most9)) + 1)).toNat ((⟨0, 0⟩ : Lag) : Lag)).length : Int)), (37, .int .i64 x631), (44, .int .i64 (x1.length : Int)), (45, .int .i64 x1087)]) (fun t g => [At.rd Aa2 c3 ((flInt .i64).kd) x1 true, At.rd Aa6 c7 ((flInt .i64).kd) y5 true, At.row g.1 g.2 65 fl_Lag.kd t false]) ?_ ?_
                 · refine J.block ?_
                   refine J.seq ?_
                   refine J.region ?_
                   refine JL.mv (.int .i64 x1087) ?_
                   refine JL.as (.int .i64 x1087) ?_
                   refine JL.nil ?_
                   refine JQ.then_normal ?_
                   refine JQ.sub [(0, .slice Aa2 x1.length c3), (1, .slice Aa6 y5.length c7), (2, .int .i64 most9), (10, .slice Aa1084 out1083.length c1085), (11, .int .i64 x631), (12, .int .i64 l934), (13, .int .i64 x1087), (36, .int .i64 ((List.replicate (w64 ((w64 (2 * most9)) + 1)).toNat ((⟨0, 0⟩ : Lag) : Lag)).length : Int)), (37, .int .i64 x631), (44, .int .i64 (x1.length : Int)), (45, .int .i64 x1087)] ?_
                   refine J.seq ?_
                   refine J.join (T := Bool) (G := Unit) (fun t => lag_Of.k59 x1 y5 x631 l934 out1083 x1087 t = some st2) (fun t g => [(0, .slice Aa2 x1.length c3), (1, .slice Aa6 y5.length c7), (2, .int .i64 most9), (10, .slice Aa1084 out1083.length c1085), (11, .int .i64 x631), (12, .int .i64 l934), (13, .int .i64 x1087), (36, .int .i64 ((List.replicate (w64 ((w64 (2 * most9)) + 1)).toNat ((⟨0, 0⟩ : Lag) : Lag)).length : Int)), (37, .int .i64 x631), (44, .int .i64 (x1.length : Int)), (45, .int .i64 x1087), (59, .bool t)]) (fun t g => [At.rd Aa2 c3 ((flInt .i64).kd) x1 true, At.rd Aa6 c7 ((flInt .i64).kd) y5 true, At.row Aa1084 c1085 65 fl_Lag.kd out1083 false]) ?_ ?_
                   · refine J.region ?_
                     refine JL.mv (.int .i64 x1087) ?_
                     refine JL.mv (.int .i64 l934) ?_
                     refine JL.pur (.int .i64 (w64 (x1087 + l934))) (some 50) ?_
                     refine JL.pur (.bool (decide (w64 (x1087 + l934) < 0))) (some 51) ?_
                     refine JL.mv (.bool (decide (w64 (x1087 + l934) < 0))) ?_
                     rcases ite_cases H2 with ⟨h1229, H2⟩ | ⟨h1229, H2⟩
                     · refine JL.off 4 52 false (some 53) h1229 ?_
                       refine JL.off 4 52 false (some 54) h1229 ?_
                       refine JL.off 4 52 false (some 55) h1229 ?_
                       refine JL.off 4 52 false (some 56) h1229 ?_
                       refine JL.off 4 52 false (some 57) h1229 ?_
                       refine JL.off 4 52 false (some 58) h1229 ?_
                       refine JL.val (.bool true) (some 59) (gives_pickT h1229) ?_
                       refine JL.nil ?_
                       refine JQ.then_normal ?_
                       exact JQ.meet true () H2 (fun _ h => Heap.to h)
                     · refine JL.on 4 52 h1229 ?_
                       refine JL.mv (.int .i64 x1087) ?_
                       refine JL.on 4 52 h1229 ?_
                       refine JL.mv (.int .i64 l934) ?_
                       refine JL.on 4 52 h1229 ?_
                       refine JL.pur (.int .i64 (w64 (x1087 + l934))) (some 55) ?_
                       refine JL.on 4 52 h1229 ?_
                       refine JL.mv (.slice Aa6 y5.length c7) ?_
                       refine JL.on 4 52 h1229 ?_
                       refine JL.pur (.int .i64 (y5.length : Int)) (some 57) ?_
                       refine JL.on 4 52 h1229 ?_
                       refine JL.pur (.bool (decide ((y5.length : Int) ≤ w64 (x1087 + l934)))) (some 58) ?_
                       refine JL.val (.bool (decide ((y5.length : Int) ≤ w64 (x1087 + l934)))) (some 59) (gives_pickF h1229) ?_
                       refine JL.nil ?_
                       refine JQ.then_normal ?_
                       exact JQ.meet (decide ((y5.length : Int) ≤ w64 (x1087 + l934))) () H2 (fun _ h => Heap.to h)
                   · clear H2
                     rintro x1199 ⟨⟩ H2
                     replace H2 : lag_Of.k59 x1 y5 x631 l934 out1083 x1087 x1199 = some st2 := H2
                     unfold lag_Of.k59 at H2
                     refine JQ.sub [(0, .slice Aa2 x1.length c3), (1, .slice Aa6 y5.length c7), (2, .int .i64 most9), (10, .slice Aa1084 out1083.length c1085), (11, .int .i64 x631), (12, .int .i64 l934), (13, .int .i64 x1087), (36, .int .i64 ((List.replicate (w64 ((w64 (2 * most9)) + 1)).toNat ((⟨0, 0⟩ : Lag) : Lag)).length : Int)), (37, .int .i64 x631), (44, .int .i64 (x1.length : Int)), (45, .int .i64 x1087), (59, .bool x1199)] ?_
                     refine JQ.turn (Δ' := [At.rd Aa2 c3 ((flInt .i64).kd) x1 true, At.rd Aa6 c7 ((flInt .i64).kd) y5 true, At.row Aa1084 c1085 65 fl_Lag.kd out1083 false]) (fun _ h => h.to) ?_
                     rcases ite_cases H2 with ⟨h1200, H2⟩ | ⟨h1200, H2⟩
                     · refine J.cond_true h1200 ?_
                       refine J.exit ?_
                       refine JQ.then_exit ?_
                       refine JQ.blk_exit ?_
                       refine JQ.then_normal ?_
                       exact JQ.meet out1083 (Aa1084, c1085) H2 (fun _ h => Heap.to h)
                     · refine J.cond_false h1200 ?_
                       refine J.skip ?_
                       refine JQ.then_normal ?_
                       refine JQ.sub [(0, .slice Aa2 x1.length c3), (1, .slice Aa6 y5.length c7), (2, .int .i64 most9), (10, .slice Aa1084 out1083.length c1085), (11, .int .i64 x631), (12, .int .i64 l934), (13, .int .i64 x1087), (36, .int .i64 ((List.replicate (w64 ((w64 (2 * most9)) + 1)).toNat ((⟨0, 0⟩ : Lag) : Lag)).length : Int)), (37, .int .i64 x631), (44, .int .i64 (x1.length : Int)), (45, .int .i64 x1087)] ?_
                       refine J.seq ?_
                       refine J.draw ?_
                       refine QL.mv (.slice Aa2 x1.length c3) ?_
                       refine QL.mv (.int .i64 x1087) ?_
                       obtain ⟨⟨h1201, h1202⟩, H2⟩ := ite_must H2
                       refine QL.ixAddr 0 1 c3 .i64 (elems_rd Aa2 c3 ((flInt .i64).kd) x1 true) Try.underlying22 tySize_3 h1201 h1202 fun g1203 o1204 hA => ?_
                       subst hA
                       refine QL.val (.int .i64 (ix x1 x1087)) (some 63) (gives_loadEl (f := (flInt .i64)) 0 0 x1087 (elems_rd (some ⟨g1203, o1204, none⟩) c3 ((flInt .i64).kd) x1 true) h1201 h1202 tySize_3 (.inr ⟨tyAgg_3, rfl, rfl⟩)) ?_
                       refine QL.mv (.slice Aa6 y5.length c7) ?_
                       refine QL.mv (.int .i64 x1087) ?_
                       refine QL.mv (.int .i64 l934) ?_
                       refine QL.pur (.int .i64 (w64 (x1087 + l934))) (some 67) ?_
                       obtain ⟨⟨h1205, h1206⟩, H2⟩ := ite_must H2
                       refine QL.ixAddr 1 1 c7 .i64 (elems_rd Aa6 c7 ((flInt .i64).kd) y5 true) Try.underlying22 tySize_3 h1205 h1206 fun g1207 o1208 hA => ?_
                       subst hA
                       refine QL.val (.int .i64 (ix y5 (w64 (x1087 + l934)))) (some 69) (gives_loadEl (f := (flInt .i64)) 1 0 (w64 (x1087 + l934)) (elems_rd (some ⟨g1207, o1208, none⟩) c7 ((flInt .i64).kd) y5 true) h1205 h1206 tySize_3 (.inr ⟨tyAgg_3, rfl, rfl⟩)) ?_
                       refine QL.pur (.int .i64 (w64 ((ix x1 x1087) * (ix y5 (w64 (x1087 + l934)))))) (some 70) ?_
                       obtain ⟨p1209, ep1209, H2⟩ := lt_some H2
                       refine QL.as' (k := .i64) p1209 ep1209 ?_
                       refine QL.nil ?_
                       refine JA.nil ?_
                       refine JQ.then_normal ?_
                       refine JQ.sub [(0, .slice (some ⟨g1203, o1204, none⟩) x1.length c3), (1, .slice (some ⟨g1207, o1208, none⟩) y5.length c7), (2, .int .i64 most9), (10, .slice Aa1084 out1083.length c1085), (11, .int .i64 x631), (12, .int .i64 l934), (14, .int .i64 p1209), (36, .int .i64 ((List.replicate (w64 ((w64 (2 * most9)) + 1)).toNat ((⟨0, 0⟩ : Lag) : Lag)).length : Int)), (37, .int .i64 x631), (44, .int .i64 (x1.length : Int)), (45, .int .i64 x1087)] ?_
                       refine J.seq ?_
                       refine J.region ?_
                       refine JL.mv (.int .i64 p1209) ?_
                       refine JL.pur (.bool (!decide (p1209 = 0))) (some 72) ?_
                       refine JL.nil ?_
                       refine JQ.then_normal ?_
                       refine JQ.sub [(0, .slice (some ⟨g1203, o1204, none⟩) x1.length c3), (1, .slice (some ⟨g1207, o1208, none⟩) y5.length c7), (2, .int .i64 most9), (10, .slice Aa1084 out1083.length c1085), (11, .int .i64 x631), (12, .int .i64 l934), (14, .int .i64 p1209), (36, .int .i64 ((List.replicate (w64 ((w64 (2 * most9)) + 1)).toNat ((⟨0, 0⟩ : Lag) : Lag)).length : Int)), (37, .int .i64 x631), (44, .int .i64 (x1.length : Int)), (45, .int .i64 x1087), (72, .bool (!decide (p1209 = 0)))] ?_
                       rcases ite_cases H2 with ⟨h1210, H2⟩ | ⟨h1210, H2⟩
                       · refine J.cond_true h1210 ?_
                         refine J.seq ?_
                         refine J.region ?_
                         refine JL.mv (.slice Aa1084 out1083.length c1085) ?_
                         refine JL.mv (.int .i64 x631) ?_
                         obtain ⟨⟨h1211, h1212⟩, H2⟩ := ite_must H2
                         refine JL.ixAddr 2 2 c1085 .i64 (elems_row Aa1084 c1085 65 fl_Lag.kd out1083 false) Try.underlying31 tySize_65 h1211 h1212 fun g1213 o1214 hA => ?_
                         subst hA
                         refine JL.pur (.pointer (some ⟨g1213, o1214 + x631.toNat * 2, none⟩)) (some 76) ?_
                         refine JL.val (.int .i64 ((ix out1083 x631).Sum)) (some 77) (gives_loadEl (f := fl_Lag) 2 0 x631 (elems_row (some ⟨g1213, o1214, none⟩) c1085 65 fl_Lag.kd out1083 false) h1211 h1212 tySize_3 (.inr ⟨tyAgg_3, rfl, rfl⟩)) ?_
                         refine JL.mv (.int .i64 p1209) ?_
                         refine JL.pur (.int .i64 (w64 (((ix out1083 x631).Sum) + p1209))) (some 79) ?_
                         refine JL.ixAddr' 2 2 c1085 .i64 (elems_row (some ⟨g1213, o1214, none⟩) c1085 65 fl_Lag.kd out1083 false) Try.underlying31 tySize_65 h1211 h1212 ?_
                         refine JL.pur (.pointer (some ⟨g1213, o1214 + x631.toNat * 2, none⟩)) (some 81) ?_
                         refine JL.storeEl (E := 65) g1213 o1214 0 c1085 2 fl_Lag out1083 x631 false (⟨(w64 (((ix out1083 x631).Sum) + p1209)), ((ix out1083 x631).N)⟩ : Lag) h1211 h1212 tySize_3 ?_
                         obtain ⟨l1219, el1219, H2⟩ := lt_some H2
                         have nl1219 : out1083.length = l1219.length := by rw [← el1219, List.length_set]
                         rw [el1219]
                         refine JQ.len (fun n : Nat => [(0, .slice (some ⟨g1203, o1204, none⟩) x1.length c3), (1, .slice (some ⟨g1207, o1208, none⟩) y5.length c7), (2, .int .i64 most9), (10, .slice (some ⟨g1213, o1214, none⟩) n c1085), (11, .int .i64 x631), (12, .int .i64 l934), (14, .int .i64 p1209), (36, .int .i64 ((List.replicate (w64 ((w64 (2 * most9)) + 1)).toNat ((⟨0, 0⟩ : Lag) : Lag)).length : Int)), (37, .int .i64 x631), (44, .int .i64 (x1.length : Int)), (45, .int .i64 x1087), (72, .bool (!decide (p1209 = 0))), (73, .slice (some ⟨g1213, o1214, none⟩) n c1085), (74, .int .i64 x631), (77, .int .i64 ((ix out1083 x631).Sum)), (78, .int .i64 p1209), (79, .int .i64 (w64 (((ix out1083 x631).Sum) + p1209)))]) nl1219 ?_
                         refine JQ.sub [(0, .slice (some ⟨g1203, o1204, none⟩) x1.length c3), (1, .slice (some ⟨g1207, o1208, none⟩) y5.length c7), (2, .int .i64 most9), (10, .slice (some ⟨g1213, o1214, none⟩) l1219.length c1085), (11, .int .i64 x631), (12, .int .i64 l934), (14, .int .i64 p1209), (36, .int .i64 ((List.replicate (w64 ((w64 (2 * most9)) + 1)).toNat ((⟨0, 0⟩ : Lag) : Lag)).length : Int)), (37, .int .i64 x631), (44, .int .i64 (x1.length : Int)), (45, .int .i64 x1087), (72, .bool (!decide (p1209 = 0))), (73, .slice (some ⟨g1213, o1214, none⟩) l1219.length c1085), (74, .int .i64 x631), (77, .int .i64 ((ix out1083 x631).Sum)), (78, .int .i64 p1209), (79, .int .i64 (w64 (((ix out1083 x631).Sum) + p1209)))] ?_
                         refine JL.nil ?_
                         refine JQ.then_normal ?_
                         refine JQ.sub [(0, .slice (some ⟨g1203, o1204, none⟩) x1.length c3), (1, .slice (some ⟨g1207, o1208, none⟩) y5.length c7), (2, .int .i64 most9), (10, .slice (some ⟨g1213, o1214, none⟩) l1219.length c1085), (11, .int .i64 x631), (12, .int .i64 l934), (36, .int .i64 ((List.replicate (w64 ((w64 (2 * most9)) + 1)).toNat ((⟨0, 0⟩ : Lag) : Lag)).length : Int)), (37, .int .i64 x631), (44, .int .i64 (x1.length : Int)), (45, .int .i64 x1087)] ?_
                         refine J.region ?_
                         refine JL.mv (.slice (some ⟨g1213, o1214, none⟩) l1219.length c1085) ?_
                         refine JL.mv (.int .i64 x631) ?_
                         obtain ⟨⟨h1220, h1221⟩, H2⟩ := ite_must H2
                         refine JL.ixAddr' 2 2 c1085 .i64 (elems_row (some ⟨g1213, o1214, none⟩) c1085 65 fl_Lag.kd l1219 false) Try.underlying31 tySize_65 h1220 h1221 ?_
                         refine JL.pur (.pointer (some ⟨g1213, o1214 + x631.toNat * 2 + 1, none⟩)) (some 85) ?_
                         refine JL.val (.int .i64 ((ix l1219 x631).N)) (some 86) (gives_loadEl (f := fl_Lag) 2 1 x631 (elems_row (some ⟨g1213, o1214, none⟩) c1085 65 fl_Lag.kd l1219 false) h1220 h1221 tySize_3 (.inr ⟨tyAgg_3, rfl, rfl⟩)) ?_
                         refine JL.pur (.int .i64 (w64 (((ix l1219 x631).N) + 1))) (some 87) ?_
                         refine JL.ixAddr' 2 2 c1085 .i64 (elems_row (some ⟨g1213, o1214, none⟩) c1085 65 fl_Lag.kd l1219 false) Try.underlying31 tySize_65 h1220 h1221 ?_
                         refine JL.pur (.pointer (some ⟨g1213, o1214 + x631.toNat * 2 + 1, none⟩)) (some 89) ?_
                         refine JL.storeEl (E := 65) g1213 o1214 1 c1085 2 fl_Lag l1219 x631 false (⟨((ix l1219 x631).Sum), (w64 (((ix l1219 x631).N) + 1))⟩ : Lag) h1220 h1221 tySize_3 ?_
                         obtain ⟨l1228, el1228, H2⟩ := lt_some H2
                         have nl1228 : l1219.length = l1228.length := by rw [← el1228, List.length_set]
                         rw [el1228]
                         refine JQ.len (fun n : Nat => [(0, .slice (some ⟨g1203, o1204, none⟩) x1.length c3), (1, .slice (some ⟨g1207, o1208, none⟩) y5.length c7), (2, .int .i64 most9), (10, .slice (some ⟨g1213, o1214, none⟩) n c1085), (11, .int .i64 x631), (12, .int .i64 l934), (36, .int .i64 ((List.replicate (w64 ((w64 (2 * most9)) + 1)).toNat ((⟨0, 0⟩ : Lag) : Lag)).length : Int)), (37, .int .i64 x631), (44, .int .i64 (x1.length : Int)), (45, .int .i64 x1087), (82, .slice (some ⟨g1213, o1214, none⟩) n c1085), (83, .int .i64 x631), (86, .int .i64 ((ix l1219 x631).N)), (87, .int .i64 (w64 (((ix l1219 x631).N) + 1)))]) nl1228 ?_
                         refine JQ.sub [(0, .slice (some ⟨g1203, o1204, none⟩) x1.length c3), (1, .slice (some ⟨g1207, o1208, none⟩) y5.length c7), (2, .int .i64 most9), (10, .slice (some ⟨g1213, o1214, none⟩) l1228.length c1085), (11, .int .i64 x631), (12, .int .i64 l934), (36, .int .i64 ((List.replicate (w64 ((w64 (2 * most9)) + 1)).toNat ((⟨0, 0⟩ : Lag) : Lag)).length : Int)), (37, .int .i64 x631), (44, .int .i64 (x1.length : Int)), (45, .int .i64 x1087), (82, .slice (some ⟨g1213, o1214, none⟩) l1228.length c1085), (83, .int .i64 x631), (86, .int .i64 ((ix l1219 x631).N)), (87, .int .i64 (w64 (((ix l1219 x631).N) + 1)))] ?_
                         refine JL.nil ?_
                         refine JQ.blk_normal ?_
                         refine JQ.then_normal ?_
                         exact JQ.meet l1228 ((some ⟨g1213, o1214, none⟩), c1085) H2 (fun _ h => Heap.to h)
                       · refine J.cond_false h1210 ?_
                         refine J.skip ?_
                         refine JQ.blk_normal ?_
                         refine JQ.then_normal ?_
                         exact JQ.meet out1083 (Aa1084, c1085) H2 (fun _ h => Heap.to h)
                 · clear H2
                   rintro out1194 ⟨Aa1195, c1196⟩ H2
                   replace H2 : lag_Of.k58 x1087 out1194 = some st2 := H2
                   unfold lag_Of.k58 at H2
                   refine JQ.sub [(0, .slice Aa2 x1.length c3), (1, .slice Aa6 y5.length c7), (2, .int .i64 most9), (10, .slice Aa1195 out1194.length c1196), (11, .int .i64 x631), (12, .int .i64 l934), (36, .int .i64 ((List.replicate (w64 ((w64 (2 * most9)) + 1)).toNat ((⟨0, 0⟩ : Lag) : Lag)).length : Int)), (37, .int .i64 x631), (44, .int .i64 (x1.length : Int)), (45, .int .i64 x1087)] ?_
                   refine JQ.turn (Δ' := [At.rd Aa2 c3 ((flInt .i64).kd) x1 true, At.rd Aa6 c7 ((flInt .i64).kd) y5 true, At.row Aa1195 c1196 65 fl_Lag.kd out1194 false]) (fun _ h => h.to) ?_
                   refine J.region ?_
                   refine JL.pur (.int .i64 (w64 (x1087 + 1))) (some 90) ?_
                   refine JL.mv (.int .i64 (w64 (x1087 + 1))) ?_
                   refine JL.nil ?_
                   refine JQ.then_normal ?_
                   exact JQ.again (out1194, w64 (x1087 + 1)) (Aa1195, c1196) (Option.some.inj H2).symm (fun _ h => Heap.to h)
               · refine J.cond_false h1161 ?_
                 refine J.exit ?_
                 refine JQ.then_exit ?_
                 refine JQ.then_exit ?_
                 refine JQ.blk_exit ?_
                 rw [hb2 _ (Option.some.inj H2).symm, fin_brk] at H1
                 exact JQ.met out1083 (Aa1084, c1085) H1 (fun _ h => Heap.to h)
             · clear hit H1
               rintro out1157 ⟨Aa1158, c1159⟩ H1
               replace H1 : lag_Of.k56 x631 out1157 = some st1 := H1
               unfold lag_Of.k56 at H1
               refine JQ.sub [(0, .slice Aa2 x1.length c3), (1, .slice Aa6 y5.length c7), (2, .int .i64 most9), (10, .slice Aa1158 out1157.length c1159), (36, .int .i64 ((List.replicate (w64 ((w64 (2 * most9)) + 1)).toNat ((⟨0, 0⟩ : Lag) : Lag)).length : Int)), (37, .int .i64 x631)] ?_
               refine JQ.turn (Δ' := [At.rd Aa2 c3 ((flInt .i64).kd) x1 true, At.rd Aa6 c7 ((flInt .i64).kd) y5 true, At.row Aa1158 c1159 65 fl_Lag.kd out1157 false]) (fun _ h => h.to) ?_
               refine JQ.blk_normal ?_
               refine JQ.then_normal ?_
               refine J.region ?_
               refine JL.pur (.int .i64 (w64 (x631 + 1))) (some 91) ?_
               refine JL.mv (.int .i64 (w64 (x631 + 1))) ?_
               refine JL.nil ?_
               refine JQ.then_normal ?_
               exact JQ.again (out1157, w64 (x631 + 1)) (Aa1158, c1159) (Option.some.inj H1).symm (fun _ h => Heap.to h)
           · refine J.cond_false h933 ?_
             refine J.exit ?_
             refine JQ.then_exit ?_
             refine JQ.then_exit ?_
             refine JQ.blk_exit ?_
             rw [hb1 _ (Option.some.inj H1).symm, fin_brk] at H0
             exact JQ.met out627 (Aa628, c629) H0 (fun _ h => Heap.to (Heap.pick [2] (by decide) h))
         · clear hit H0
           rintro out929 ⟨Aa930, c931⟩ H0
           replace H0 : lag_Of.k45 out929 = some r := H0
           unfold lag_Of.k45 at H0
           refine JQ.sub [(10, .slice Aa930 out929.length c931)] ?_
           refine JQ.turn (Δ' := [At.row Aa930 c931 65 fl_Lag.kd out929 false]) (fun _ h => h.to) ?_
           refine JQ.then_normal ?_
           refine J.seq ?_
           refine J.region ?_
           refine JL.mv (.slice Aa930 out929.length c931) ?_
           refine JL.as (.slice Aa930 out929.length c931) ?_
           refine JL.as (.int .i64 0) ?_
           refine JL.nil ?_
           refine JQ.then_normal ?_
           refine JQ.sub [(6, .slice Aa930 out929.length c931), (7, .int .i64 0)] ?_
           refine J.ret ?_
           obtain rfl := Option.some.inj H0
           exact JQ.done' (rs := [.tmp 6, .tmp 7]) (vs := [.slice Aa930 out929.length c931, .int .i64 0]) [At.row Aa930 c931 65 fl_Lag.kd out929 false] (.inr rfl) ⟨by kernel_rfl, by kernel_rfl, trivial⟩ (fun _ h => Heap.to h) ⟨Aa930, c931, rfl, rfl⟩

theorem worker_part.ok (j1 : Job) (Aa2 : Option Addr) (c3 : Nat) (Aa5 : Option Addr) (c6 : Nat) (block8 : Int) (r : (List Lag)) (H0 : worker_part.f j1 block8 = some r) :
    Does Try.prog 19 [.agg #[.slice Aa2 j1.X_.length c3, .slice Aa5 j1.Y.length c6, .int .i64 j1.Most, .int .i64 j1.Size], .int .i64 block8].toArray [At.rd Aa2 c3 ((flInt .i64).kd) j1.X_ true, At.rd Aa5 c6 ((flInt .i64).kd) j1.Y true] [] false (fun v Δ => ∃ A1001 : Option Addr, ∃ c1001 : Nat, v = .slice A1001 r.length c1001 ∧ Δ = [At.row A1001 c1001 65 fl_Lag.kd r false]) := by
 refine Does.body (vs := [.agg #[.slice Aa2 j1.X_.length c3, .slice Aa5 j1.Y.length c6, .int .i64 j1.Most, .int .i64 j1.Size], .int .i64 block8]) Try.func19 rfl ⟨.inl rfl, .inl rfl, trivial⟩ trivial fun w S => ?_
 unfold worker_part.f at H0
 refine J.seq ?_
 refine J.region ?_
 refine JL.box [.slice Aa2 j1.X_.length c3, .slice Aa5 j1.Y.length c6, .int .i64 j1.Most, .int .i64 j1.Size] fun b9 => ?_
 refine JL.as (.slice none 0 0) ?_
 refine JL.nil ?_
 refine JQ.then_normal ?_
 refine JQ.sub [(1, .int .i64 block8), (2, .pointer (some ⟨b9, 0, none⟩))] ?_
 refine J.seq ?_
 refine J.region ?_
 refine JL.pur (.pointer (some ⟨b9, 0, none⟩)) (some 11) ?_
 refine JL.val (.slice Aa2 j1.X_.length c3) (some 12) (yields_load_box 2 0 (holds_box b9 24 [.slice Aa2 j1.X_.length c3, .slice Aa5 j1.Y.length c6, .int .i64 j1.Most, .int .i64 j1.Size]) tyAgg_22) ?_
 refine JL.mv (.int .i64 block8) ?_
 refine JL.pur (.pointer (some ⟨b9, 3, none⟩)) (some 14) ?_
 refine JL.val (.int .i64 j1.Size) (some 15) (yields_load_box 2 3 (holds_box b9 24 [.slice Aa2 j1.X_.length c3, .slice Aa5 j1.Y.length c6, .int .i64 j1.Most, .int .i64 j1.Size]) tyAgg_3) ?_
 refine JL.pur (.int .i64 (w64 (block8 * j1.Size))) (some 16) ?_
 obtain ⟨t10, hc11, H0⟩ := bind_some H0
 refine JL.call [] [] [] (lag_Cut.ok j1.X_ Aa2 c3 (w64 (block8 * j1.Size)) _ hc11) ⟨pre_any 0 (view_rd Aa2 c3 ((flInt .i64).kd) j1.X_ true true), trivial⟩ ?_
 rintro _ _ ⟨Aa12, c13, Aa15, c16, rfl, rfl⟩
 refine JL.mv (.tuple #[.slice Aa12 t10.1.length c13, .slice Aa15 t10.2.1.length c16, .int .i64 t10.2.2]) ?_
 refine JL.pur (.slice Aa12 t10.1.length c13) (some 18) ?_
 refine JL.pur (.slice Aa15 t10.2.1.length c16) (some 19) ?_
 refine JL.pur (.int .i64 t10.2.2) (some 20) ?_
 refine JL.as (.slice Aa12 t10.1.length c13) ?_
 refine JL.as (.slice Aa15 t10.2.1.length c16) ?_
 refine JL.as (.int .i64 t10.2.2) ?_
 refine JL.nil ?_
 refine JQ.then_normal ?_
 refine JQ.sub [(1, .int .i64 block8), (2, .pointer (some ⟨b9, 0, none⟩)), (6, .slice Aa15 t10.2.1.length c16)] ?_
 refine JQ.mask [At.rd Aa2 c3 ((flInt .i64).kd) j1.X_ true, At.rd Aa5 c6 ((flInt .i64).kd) j1.Y true, At.box b9 24 [.slice Aa2 j1.X_.length c3, .slice Aa5 j1.Y.length c6, .int .i64 j1.Most, .int .i64 j1.Size], At.row Aa15 c16 3 ((flInt .i64).kd) t10.2.1 false] [true, true, true, false, true] ?_
 refine J.seq ?_
 refine J.region ?_
 refine JL.mv (.slice Aa15 t10.2.1.length c16) ?_
 refine JL.mv (.slice Aa15 t10.2.1.length c16) ?_
 refine JL.pur (.int .i64 (t10.2.1.length : Int)) (some 24) ?_
 refine JL.mv (.int .i64 block8) ?_
 refine JL.pur (.int .i64 (w64 (block8 + 1))) (some 26) ?_
 refine JL.pur (.pointer (some ⟨b9, 3, none⟩)) (some 27) ?_
 refine JL.val (.int .i64 j1.Size) (some 28) (yields_load_box 2 3 (holds_box b9 24 [.slice Aa2 j1.X_.length c3, .slice Aa5 j1.Y.length c6, .int .i64 j1.Most, .int .i64 j1.Size]) tyAgg_3) ?_
 refine JL.pur (.int .i64 (w64 ((w64 (block8 + 1)) * j1.Size))) (some 29) ?_
 refine JL.pur (.int .i64 (gmin (t10.2.1.length : Int) (w64 ((w64 (block8 + 1)) * j1.Size)))) (some 30) ?_
 obtain ⟨t18, hc19, H0⟩ := bind_some H0
 refine JL.call [] [] [] (lag_Cut.ok t10.2.1 Aa15 c16 (gmin (t10.2.1.length : Int) (w64 ((w64 (block8 + 1)) * j1.Size))) _ hc19) ⟨pre_view 3 (view_row Aa15 c16 3 ((flInt .i64).kd) t10.2.1 false true), trivial⟩ ?_
 rintro _ _ ⟨Aa20, c21, Aa23, c24, rfl, rfl⟩
 refine JL.mv (.tuple #[.slice Aa20 t18.1.length c21, .slice Aa23 t18.2.1.length c24, .int .i64 t18.2.2]) ?_
 refine JL.pur (.slice Aa20 t18.1.length c21) (some 32) ?_
 refine JL.pur (.slice Aa23 t18.2.1.length c24) (some 33) ?_
 refine JL.pur (.int .i64 t18.2.2) (some 34) ?_
 refine JL.as (.slice Aa20 t18.1.length c21) ?_
 refine JL.nil ?_
 refine JQ.then_normal ?_
 refine JQ.sub [(2, .pointer (some ⟨b9, 0, none⟩)), (6, .slice Aa20 t18.1.length c21)] ?_
 refine JQ.mask [At.rd Aa2 c3 ((flInt .i64).kd) j1.X_ true, At.rd Aa5 c6 ((flInt .i64).kd) j1.Y true, At.box b9 24 [.slice Aa2 j1.X_.length c3, .slice Aa5 j1.Y.length c6, .int .i64 j1.Most, .int .i64 j1.Size], At.row Aa20 c21 3 ((flInt .i64).kd) t18.1 false] [true, true, true, false, true, false] ?_
 refine J.seq ?_
 refine J.region ?_
 refine JL.mv (.slice Aa20 t18.1.length c21) ?_
 refine JL.pur (.pointer (some ⟨b9, 1, none⟩)) (some 37) ?_
 refine JL.val (.slice Aa5 j1.Y.length c6) (some 38) (yields_load_box 2 1 (holds_box b9 24 [.slice Aa2 j1.X_.length c3, .slice Aa5 j1.Y.length c6, .int .i64 j1.Most, .int .i64 j1.Size]) tyAgg_22) ?_
 refine JL.pur (.pointer (some ⟨b9, 2, none⟩)) (some 39) ?_
 refine JL.val (.int .i64 j1.Most) (some 40) (yields_load_box 2 2 (holds_box b9 24 [.slice Aa2 j1.X_.length c3, .slice Aa5 j1.Y.length c6, .int .i64 j1.Most, .int .i64 j1.Size]) tyAgg_3) ?_
 obtain ⟨t26, hc27, H0⟩ := bind_some H0
 refine JL.call [] [] [] (lag_Of.ok t18.1 Aa20 c21 j1.Y Aa5 c6 j1.Most _ hc27) ⟨pre_view 3 (view_row Aa20 c21 3 ((flInt .i64).kd) t18.1 false true), ⟨pre_any 1 (view_rd Aa5 c6 ((flInt .i64).kd) j1.Y true true), trivial⟩⟩ ?_
 rintro _ _ ⟨Aa28, c29, rfl, rfl⟩
 refine JL.mv (.tuple #[.slice Aa28 t26.1.length c29, .int .i64 t26.2]) ?_
 refine JL.pur (.slice Aa28 t26.1.length c29) (some 42) ?_
 refine JL.pur (.int .i64 t26.2) (some 43) ?_
 refine JL.as (.slice Aa28 t26.1.length c29) ?_
 refine JL.as (.int .i64 t26.2) ?_
 refine JL.nil ?_
 refine JQ.then_normal ?_
 refine JQ.sub [(8, .slice Aa28 t26.1.length c29)] ?_
 refine JQ.mask [At.row Aa28 c29 65 fl_Lag.kd t26.1 false] [false, false, false, false, true] ?_
 refine J.seq ?_
 refine J.region ?_
 refine JL.mv (.slice Aa28 t26.1.length c29) ?_
 refine JL.as (.slice Aa28 t26.1.length c29) ?_
 refine JL.nil ?_
 refine JQ.then_normal ?_
 refine JQ.sub [(4, .slice Aa28 t26.1.length c29)] ?_
 refine J.ret ?_
 obtain rfl := Option.some.inj H0
 exact JQ.done' (rs := [.tmp 4]) (vs := [.slice Aa28 t26.1.length c29]) [At.row Aa28 c29 65 fl_Lag.kd t26.1 false] (.inr rfl) ⟨by kernel_rfl, trivial⟩ (fun _ h => Heap.to h) ⟨Aa28, c29, rfl, rfl⟩

theorem worker_Part.ok (j1 : Job) (Aa2 : Option Addr) (c3 : Nat) (Aa5 : Option Addr) (c6 : Nat) (block8 : Int) (r : ((List Lag) × Int)) (H0 : worker_Part.f j1 block8 = some r) :
    Does Try.prog 7 [.agg #[.slice Aa2 j1.X_.length c3, .slice Aa5 j1.Y.length c6, .int .i64 j1.Most, .int .i64 j1.Size], .int .i64 block8].toArray [At.rd Aa2 c3 ((flInt .i64).kd) j1.X_ true, At.rd Aa5 c6 ((flInt .i64).kd) j1.Y true] [] false (fun v Δ => ∃ A1001 : Option Addr, ∃ c1001 : Nat, v = .tuple #[.slice A1001 r.1.length c1001, .int .i64 r.2] ∧ Δ = [At.row A1001 c1001 65 fl_Lag.kd r.1 false]) := by
 refine Does.body (vs := [.agg #[.slice Aa2 j1.X_.length c3, .slice Aa5 j1.Y.length c6, .int .i64 j1.Most, .int .i64 j1.Size], .int .i64 block8]) Try.func7 rfl ⟨.inl rfl, .inl rfl, trivial⟩ trivial fun w S => ?_
 unfold worker_Part.f at H0
 refine J.seq ?_
 refine J.region ?_
 refine JL.box [.slice Aa2 j1.X_.length c3, .slice Aa5 j1.Y.length c6, .int .i64 j1.Most, .int .i64 j1.Size] fun b9 => ?_
 refine JL.as (.slice none 0 0) ?_
 refine JL.as (.int .i64 0) ?_
 refine JL.nil ?_
 refine JQ.then_normal ?_
 refine JQ.sub [(1, .int .i64 block8), (2, .pointer (some ⟨b9, 0, none⟩))] ?_
 refine J.seq ?_
 refine J.seq ?_
 refine J.region ?_
 refine JL.val (.agg #[.slice Aa2 j1.X_.length c3, .slice Aa5 j1.Y.length c6, .int .i64 j1.Most, .int .i64 j1.Size]) (some 7) (yields_load_boxes 2 0 [.slice Aa2 j1.X_.length c3, .slice Aa5 j1.Y.length c6, .int .i64 j1.Most, .int .i64 j1.Size] (holds_box b9 24 [.slice Aa2 j1.X_.length c3, .slice Aa5 j1.Y.length c6, .int .i64 j1.Most, .int .i64 j1.Size]) tyAgg_24 tySize_24) ?_
 obtain ⟨t10, hc11, H0⟩ := bind_some H0
 refine JL.call [] [] [] (worker_Check.ok j1 Aa2 c3 Aa5 c6 _ hc11) ⟨pre_any 0 (view_rd Aa2 c3 ((flInt .i64).kd) j1.X_ true true), ⟨pre_any 1 (view_rd Aa5 c6 ((flInt .i64).kd) j1.Y true true), trivial⟩⟩ ?_
 rintro _ _ ⟨rfl, rfl⟩
 refine JL.as (.int .i64 t10) ?_
 refine JL.nil ?_
 refine JQ.then_normal ?_
 refine JQ.sub [(1, .int .i64 block8), (2, .pointer (some ⟨b9, 0, none⟩)), (6, .int .i64 t10)] ?_
 refine J.seq ?_
 refine J.region ?_
 refine JL.mv (.int .i64 t10) ?_
 refine JL.pur (.bool (!decide (t10 = 0))) (some 10) ?_
 refine JL.nil ?_
 refine JQ.then_normal ?_
 refine JQ.sub [(1, .int .i64 block8), (2, .pointer (some ⟨b9, 0, none⟩)), (6, .int .i64 t10), (10, .bool (!decide (t10 = 0)))] ?_
 rcases ite_cases H0 with ⟨h12, H0⟩ | ⟨h12, H0⟩
 · refine J.cond_true h12 ?_
   refine J.seq ?_
   refine J.region ?_
   refine JL.mv (.int .i64 t10) ?_
   refine JL.as (.slice none 0 0) ?_
   refine JL.as (.int .i64 t10) ?_
   refine JL.nil ?_
   refine JQ.then_normal ?_
   refine JQ.sub [(4, .slice none 0 0), (5, .int .i64 t10)] ?_
   refine JQ.mask [] [false, false, false] ?_
   refine J.ret ?_
   refine JQ.then_ret ?_
   obtain rfl := Option.some.inj H0
   exact JQ.done' (rs := [.tmp 4, .tmp 5]) (vs := [.slice none 0 0, .int .i64 t10]) [At.row none 0 65 fl_Lag.kd ([] : List Lag) false] (.inr rfl) ⟨by kernel_rfl, by kernel_rfl, trivial⟩ (fun _ h => Heap.to (Heap.addRow0 (α := Lag) 65 fl_Lag.kd false h)) ⟨none, 0, rfl, rfl⟩
 · refine J.cond_false h12 ?_
   refine J.skip ?_
   refine JQ.then_normal ?_
   refine JQ.sub [(1, .int .i64 block8), (2, .pointer (some ⟨b9, 0, none⟩))] ?_
   refine J.seq ?_
   refine J.join (T := Bool) (G := Unit) (fun t => worker_Part.k1 j1 block8 t = some r) (fun t g => [(1, .int .i64 block8), (2, .pointer (some ⟨b9, 0, none⟩)), (19, .bool t)]) (fun t g => [At.box b9 24 [.slice Aa2 j1.X_.length c3, .slice Aa5 j1.Y.length c6, .int .i64 j1.Most, .int .i64 j1.Size], At.rd Aa2 c3 ((flInt .i64).kd) j1.X_ true, At.rd Aa5 c6 ((flInt .i64).kd) j1.Y true]) ?_ ?_
   · refine J.region ?_
     refine JL.mv (.int .i64 block8) ?_
     refine JL.pur (.bool (decide (block8 < 0))) (some 13) ?_
     refine JL.mv (.bool (decide (block8 < 0))) ?_
     rcases ite_cases H0 with ⟨h23, H0⟩ | ⟨h23, H0⟩
     · refine JL.off 2 14 false (some 15) h23 ?_
       refine JL.off 2 14 false (some 16) h23 ?_
       refine JL.off 2 14 false (some 17) h23 ?_
       refine JL.off 2 14 false (some 18) h23 ?_
       refine JL.val (.bool true) (some 19) (gives_pickT h23) ?_
       refine JL.nil ?_
       refine JQ.then_normal ?_
       exact JQ.meet true () H0 (fun _ h => Heap.to (Heap.pick [2, 0, 1] (by decide) h))
     · refine JL.on 2 14 h23 ?_
       refine JL.mv (.int .i64 block8) ?_
       refine JL.on 2 14 h23 ?_
       refine JL.val (.agg #[.slice Aa2 j1.X_.length c3, .slice Aa5 j1.Y.length c6, .int .i64 j1.Most, .int .i64 j1.Size]) (some 16) (yields_load_boxes 2 0 [.slice Aa2 j1.X_.length c3, .slice Aa5 j1.Y.length c6, .int .i64 j1.Most, .int .i64 j1.Size] (holds_box b9 24 [.slice Aa2 j1.X_.length c3, .slice Aa5 j1.Y.length c6, .int .i64 j1.Most, .int .i64 j1.Size]) tyAgg_24 tySize_24) ?_
       refine JL.on 2 14 h23 ?_
       obtain ⟨t24, hc25, H0⟩ := bind_some H0
       refine JL.call [] [] [] (worker_blocks.ok j1 Aa2 c3 Aa5 c6 _ hc25) ⟨pre_any 0 (view_rd Aa2 c3 ((flInt .i64).kd) j1.X_ true true), ⟨pre_any 1 (view_rd Aa5 c6 ((flInt .i64).kd) j1.Y true true), trivial⟩⟩ ?_
       rintro _ _ ⟨rfl, rfl⟩
       refine JL.on 2 14 h23 ?_
       refine JL.pur (.bool (decide (t24 ≤ block8))) (some 18) ?_
       refine JL.val (.bool (decide (t24 ≤ block8))) (some 19) (gives_pickF h23) ?_
       refine JL.nil ?_
       refine JQ.then_normal ?_
       exact JQ.meet (decide (t24 ≤ block8)) () H0 (fun _ h => Heap.to (Heap.pick [2, 0, 1] (by decide) h))
   · clear H0
     rintro x16 ⟨⟩ H0
     replace H0 : worker_Part.k1 j1 block8 x16 = some r := H0
     unfold worker_Part.k1 at H0
     refine JQ.sub [(1, .int .i64 block8), (2, .pointer (some ⟨b9, 0, none⟩)), (19, .bool x16)] ?_
     refine JQ.turn (Δ' := [At.box b9 24 [.slice Aa2 j1.X_.length c3, .slice Aa5 j1.Y.length c6, .int .i64 j1.Most, .int .i64 j1.Size], At.rd Aa2 c3 ((flInt .i64).kd) j1.X_ true, At.rd Aa5 c6 ((flInt .i64).kd) j1.Y true]) (fun _ h => h.to) ?_
     rcases ite_cases H0 with ⟨h17, H0⟩ | ⟨h17, H0⟩
     · refine J.cond_true h17 ?_
       refine J.seq ?_
       refine J.region ?_
       refine JL.as (.slice none 0 0) ?_
       refine JL.as (.int .i64 2) ?_
       refine JL.nil ?_
       refine JQ.then_normal ?_
       refine JQ.sub [(4, .slice none 0 0), (5, .int .i64 2)] ?_
       refine JQ.mask [] [false, false, false] ?_
       refine J.ret ?_
       refine JQ.then_ret ?_
       obtain rfl := Option.some.inj H0
       exact JQ.done' (rs := [.tmp 4, .tmp 5]) (vs := [.slice none 0 0, .int .i64 2]) [At.row none 0 65 fl_Lag.kd ([] : List Lag) false] (.inr rfl) ⟨by kernel_rfl, by kernel_rfl, trivial⟩ (fun _ h => Heap.to (Heap.addRow0 (α := Lag) 65 fl_Lag.kd false h)) ⟨none, 0, rfl, rfl⟩
     · refine J.cond_false h17 ?_
       refine J.skip ?_
       refine JQ.then_normal ?_
       refine JQ.sub [(1, .int .i64 block8), (2, .pointer (some ⟨b9, 0, none⟩))] ?_
       refine J.seq ?_
       refine J.region ?_
       refine JL.val (.agg #[.slice Aa2 j1.X_.length c3, .slice Aa5 j1.Y.length c6, .int .i64 j1.Most, .int .i64 j1.Size]) (some 20) (yields_load_boxes 0 0 [.slice Aa2 j1.X_.length c3, .slice Aa5 j1.Y.length c6, .int .i64 j1.Most, .int .i64 j1.Size] (holds_box b9 24 [.slice Aa2 j1.X_.length c3, .slice Aa5 j1.Y.length c6, .int .i64 j1.Most, .int .i64 j1.Size]) tyAgg_24 tySize_24) ?_
       refine JL.mv (.int .i64 block8) ?_
       obtain ⟨t18, hc19, H0⟩ := bind_some H0
       refine JL.call [] [] [] (worker_part.ok j1 Aa2 c3 Aa5 c6 block8 _ hc19) ⟨pre_any 1 (view_rd Aa2 c3 ((flInt .i64).kd) j1.X_ true true), ⟨pre_any 2 (view_rd Aa5 c6 ((flInt .i64).kd) j1.Y true true), trivial⟩⟩ ?_
       rintro _ _ ⟨Aa20, c21, rfl, rfl⟩
       refine JL.as (.slice Aa20 t18.length c21) ?_
       refine JL.as (.int .i64 0) ?_
       refine JL.nil ?_
       refine JQ.then_normal ?_
       refine JQ.sub [(4, .slice Aa20 t18.length c21), (5, .int .i64 0)] ?_
       refine JQ.mask [At.row Aa20 c21 65 fl_Lag.kd t18 false] [false, false, false, true] ?_
       refine J.ret ?_
       obtain rfl := Option.some.inj H0
       exact JQ.done' (rs := [.tmp 4, .tmp 5]) (vs := [.slice Aa20 t18.length c21, .int .i64 0]) [At.row Aa20 c21 65 fl_Lag.kd t18 false] (.inr rfl) ⟨by kernel_rfl, by kernel_rfl, trivial⟩ (fun _ h => Heap.to h) ⟨Aa20, c21, rfl, rfl⟩

theorem ref19_own.ok (j1 : Job) (Aa2 : Option Addr) (c3 : Nat) (Aa5 : Option Addr) (c6 : Nat) (block8 : Int) (r : (List Int)) (H0 : ref19_own.f j1 block8 = some r) :
    Does Try.prog 21 [.agg #[.slice Aa2 j1.X_.length c3, .slice Aa5 j1.Y.length c6, .int .i64 j1.Most, .int .i64 j1.Size], .int .i64 block8].toArray [At.rd Aa2 c3 ((flInt .i64).kd) j1.X_ true, At.rd Aa5 c6 ((flInt .i64).kd) j1.Y true] [] false (fun v Δ => ∃ A1001 : Option Addr, ∃ c1001 : Nat, v = .slice A1001 r.length c1001 ∧ Δ = [At.row A1001 c1001 3 ((flInt .i64).kd) r false]) := by
 refine Does.body (vs := [.agg #[.slice Aa2 j1.X_.length c3, .slice Aa5 j1.Y.length c6, .int .i64 j1.Most, .int .i64 j1.Size], .int .i64 block8]) Try.func21 rfl ⟨.inl rfl, .inl rfl, trivial⟩ trivial fun w S => ?_
 unfold ref19_own.f at H0
 refine J.seq ?_
 refine J.region ?_
 refine JL.box [.slice Aa2 j1.X_.length c3, .slice Aa5 j1.Y.length c6, .int .i64 j1.Most, .int .i64 j1.Size] fun b9 => ?_
 refine JL.as (.slice none 0 0) ?_
 refine JL.nil ?_
 refine JQ.then_normal ?_
 refine JQ.sub [(1, .int .i64 block8), (2, .pointer (some ⟨b9, 0, none⟩))] ?_
 refine J.seq ?_
 refine J.region ?_
 refine JL.as (.slice none 0 0) ?_
 refine JL.nil ?_
 refine JQ.then_normal ?_
 refine J.seq ?_
 refine J.seq ?_
 refine J.region ?_
 refine JL.as (.int .i64 0) ?_
 refine JL.nil ?_
 refine JQ.then_normal ?_
 obtain ⟨o1, hit, H0⟩ := bind_some H0
 refine J.loop (σ := ((List Int) × Int)) (τ := List Int) (G := ((Option Addr) × Nat)) (G' := ((Option Addr) × Nat)) _ o1 (fun s g => [(1, .int .i64 block8), (2, .pointer (some ⟨b9, 0, none⟩)), (5, .slice g.1 s.1.length g.2), (6, .int .i64 s.2)]) (fun s g => [At.box b9 24 [.slice Aa2 j1.X_.length c3, .slice Aa5 j1.Y.length c6, .int .i64 j1.Most, .int .i64 j1.Size], At.rd Aa2 c3 ((flInt .i64).kd) j1.X_ true, At.rd Aa5 c6 ((flInt .i64).kd) j1.Y true, At.row g.1 g.2 3 ((flInt .i64).kd) s.1 false]) (fun t => ref19_own.k5 t = some r) (fun t g => [(5, .slice g.1 t.length g.2)]) (fun t g => [At.row g.1 g.2 3 ((flInt .i64).kd) t false]) ([], 0) (none, 0) hit (fun _ h => Heap.to (Heap.pick [2, 0, 1, 3] (by decide) (Heap.addRow0 (α := Int) 3 ((flInt .i64).kd) false h))) ?_ ?_
 · clear hit
   rintro ⟨x90, k94⟩ ⟨Aa91, c92⟩ st1 H1 hb1 hr1
   replace H1 : ref19_own.s4 j1 block8 x90 k94 = some st1 := H1
   unfold ref19_own.s4 at H1
   refine JQ.sub [(1, .int .i64 block8), (2, .pointer (some ⟨b9, 0, none⟩)), (5, .slice Aa91 x90.length c92), (6, .int .i64 k94)] ?_
   refine JQ.turn (Δ' := [At.box b9 24 [.slice Aa2 j1.X_.length c3, .slice Aa5 j1.Y.length c6, .int .i64 j1.Most, .int .i64 j1.Size], At.rd Aa2 c3 ((flInt .i64).kd) j1.X_ true, At.rd Aa5 c6 ((flInt .i64).kd) j1.Y true, At.row Aa91 c92 3 ((flInt .i64).kd) x90 false]) (fun _ h => h.to) ?_
   refine J.seq ?_
   refine J.seq ?_
   refine J.region ?_
   refine JL.mv (.int .i64 k94) ?_
   refine JL.pur (.pointer (some ⟨b9, 0, none⟩)) (some 8) ?_
   refine JL.val (.slice Aa2 j1.X_.length c3) (some 9) (yields_load_box 0 0 (holds_box b9 24 [.slice Aa2 j1.X_.length c3, .slice Aa5 j1.Y.length c6, .int .i64 j1.Most, .int .i64 j1.Size]) tyAgg_22) ?_
   refine JL.pur (.int .i64 (j1.X_.length : Int)) (some 10) ?_
   refine JL.pur (.bool (decide (k94 < (j1.X_.length : Int)))) (some 11) ?_
   refine JL.nil ?_
   refine JQ.then_normal ?_
   refine JQ.sub [(1, .int .i64 block8), (2, .pointer (some ⟨b9, 0, none⟩)), (5, .slice Aa91 x90.length c92), (6, .int .i64 k94), (11, .bool (decide (k94 < (j1.X_.length : Int))))] ?_
   rcases ite_cases H1 with ⟨h132, H1⟩ | ⟨h132, H1⟩
   · refine J.cond_true h132 ?_
     refine J.skip ?_
     refine JQ.then_normal ?_
     refine JQ.sub [(1, .int .i64 block8), (2, .pointer (some ⟨b9, 0, none⟩)), (5, .slice Aa91 x90.length c92), (6, .int .i64 k94)] ?_
     refine J.join (T := List Int) (G := ((Option Addr) × Nat)) (fun t => ref19_own.k6 k94 t = some st1) (fun t g => [(1, .int .i64 block8), (2, .pointer (some ⟨b9, 0, none⟩)), (5, .slice g.1 t.length g.2), (6, .int .i64 k94)]) (fun t g => [At.box b9 24 [.slice Aa2 j1.X_.length c3, .slice Aa5 j1.Y.length c6, .int .i64 j1.Most, .int .i64 j1.Size], At.rd Aa2 c3 ((flInt .i64).kd) j1.X_ true, At.rd Aa5 c6 ((flInt .i64).kd) j1.Y true, At.row g.1 g.2 3 ((flInt .i64).kd) t false]) ?_ ?_
     · refine J.block ?_
       refine J.seq ?_
       refine J.region ?_
       refine JL.mv (.int .i64 k94) ?_
       refine JL.pur (.pointer (some ⟨b9, 3, none⟩)) (some 15) ?_
       refine JL.val (.int .i64 j1.Size) (some 16) (yields_load_box 0 3 (holds_box b9 24 [.slice Aa2 j1.X_.length c3, .slice Aa5 j1.Y.length c6, .int .i64 j1.Most, .int .i64 j1.Size]) tyAgg_3) ?_
       obtain ⟨h151, H1⟩ := ite_must H1
       refine JL.val (.int .i64 (w64 (Int.tdiv k94 j1.Size))) (some 17) (gives_quo .i64 k94 j1.Size h151) ?_
       refine JL.mv (.int .i64 block8) ?_
       refine JL.pur (.bool (decide (w64 (Int.tdiv k94 j1.Size) = block8))) (some 19) ?_
       refine JL.nil ?_
       refine JQ.then_normal ?_
       refine JQ.sub [(1, .int .i64 block8), (2, .pointer (some ⟨b9, 0, none⟩)), (5, .slice Aa91 x90.length c92), (6, .int .i64 k94), (19, .bool (decide (w64 (Int.tdiv k94 j1.Size) = block8)))] ?_
       rcases ite_cases H1 with ⟨h152, H1⟩ | ⟨h152, H1⟩
       · refine J.cond_true h152 ?_
         refine J.region ?_
         refine JL.mv (.slice Aa91 x90.length c92) ?_
         refine JL.pur (.pointer (some ⟨b9, 0, none⟩)) (some 21) ?_
         refine JL.val (.slice Aa2 j1.X_.length c3) (some 22) (yields_load_box 0 0 (holds_box b9 24 [.slice Aa2 j1.X_.length c3, .slice Aa5 j1.Y.length c6, .int .i64 j1.Most, .int .i64 j1.Size]) tyAgg_22) ?_
         refine JL.mv (.int .i64 k94) ?_
         obtain ⟨⟨h153, h154⟩, H1⟩ := ite_must H1
         refine JL.ixAddr 1 1 c3 .i64 (elems_rd Aa2 c3 ((flInt .i64).kd) j1.X_ true) Try.underlying22 tySize_3 h153 h154 fun g155 o156 hA => ?_
         subst hA
         refine JL.val (.int .i64 (ix j1.X_ k94)) (some 25) (gives_loadEl (f := (flInt .i64)) 1 0 k94 (elems_rd (some ⟨g155, o156, none⟩) c3 ((flInt .i64).kd) j1.X_ true) h153 h154 tySize_3 (.inr ⟨tyAgg_3, rfl, rfl⟩)) ?_
         refine JL.buildSl 3 ((flInt .i64).kd) (([(ix j1.X_ k94)] : List Int) : List Int) [.int .i64 (ix j1.X_ k94)] false (closes_fl rfl) fun b157 => ?_
         obtain ⟨h160, H1⟩ := ite_must H1
         refine JL.append false false 3 4 Aa91 c92 1 x90 (elems_row (some ⟨b157, 0, none⟩) 1 3 ((flInt .i64).kd) ([(ix j1.X_ k94)] : List Int) false) Try.underlying22 info_3 (by omega) (by omega) (fun h => h) (.inr ⟨_, rfl⟩) fun Aa158 c159 => ?_
         refine JL.as (.slice Aa158 (x90 ++ ([(ix j1.X_ k94)] : List Int)).length c159) ?_
         refine JL.nil ?_
         refine JQ.blk_normal ?_
         refine JQ.then_normal ?_
         exact JQ.meet (x90 ++ ([(ix j1.X_ k94)] : List Int)) (Aa158, c159) H1 (fun _ h => Heap.to (Heap.pick [0, 1, 2, 3] (by decide) h))
       · refine J.cond_false h152 ?_
         refine J.region ?_
         refine JL.mv (.slice Aa91 x90.length c92) ?_
         refine JL.buildSl 3 ((flInt .i64).kd) (([0] : List Int) : List Int) [.int .i64 0] false (closes_fl rfl) fun b161 => ?_
         obtain ⟨h164, H1⟩ := ite_must H1
         refine JL.append false false 3 4 Aa91 c92 1 x90 (elems_row (some ⟨b161, 0, none⟩) 1 3 ((flInt .i64).kd) ([0] : List Int) false) Try.underlying22 info_3 (by omega) (by omega) (fun h => h) (.inr ⟨_, rfl⟩) fun Aa162 c163 => ?_
         refine JL.as (.slice Aa162 (x90 ++ ([0] : List Int)).length c163) ?_
         refine JL.nil ?_
         refine JQ.blk_normal ?_
         refine JQ.then_normal ?_
         exact JQ.meet (x90 ++ ([0] : List Int)) (Aa162, c163) H1 (fun _ h => Heap.to (Heap.pick [0, 1, 2, 3] (by decide) h))
     · clear H1
       rintro x147 ⟨Aa148, c149⟩ H1
       replace H1 : ref19_own.k6 k94 x147 = some st1 := H1
       unfold ref19_own.k6 at H1
       refine JQ.sub [(1, .int .i64 block8), (2, .pointer (some ⟨b9, 0, none⟩)), (5, .slice Aa148 x147.length c149), (6, .int .i64 k94)] ?_
       refine JQ.turn (Δ' := [At.box b9 24 [.slice Aa2 j1.X_.length c3, .slice Aa5 j1.Y.length c6, .int .i64 j1.Most, .int .i64 j1.Size], At.rd Aa2 c3 ((flInt .i64).kd) j1.X_ true, At.rd Aa5 c6 ((flInt .i64).kd) j1.Y true, At.row Aa148 c149 3 ((flInt .i64).kd) x147 false]) (fun _ h => h.to) ?_
       refine J.region ?_
       refine JL.mv (.int .i64 k94) ?_
       refine JL.pur (.int .i64 (w64 (k94 + 1))) (some 13) ?_
       refine JL.as (.int .i64 (w64 (k94 + 1))) ?_
       refine JL.nil ?_
       refine JQ.then_normal ?_
       exact JQ.again (x147, w64 (k94 + 1)) (Aa148, c149) (Option.some.inj H1).symm (fun _ h => Heap.to h)
   · refine J.cond_false h132 ?_
     refine J.exit ?_
     refine JQ.then_exit ?_
     refine JQ.then_exit ?_
     refine JQ.blk_exit ?_
     rw [hb1 _ (Option.some.inj H1).symm, fin_brk] at H0
     exact JQ.met x90 (Aa91, c92) H0 (fun _ h => Heap.to (Heap.pick [3] (by decide) h))
 · clear hit H0
   rintro x128 ⟨Aa129, c130⟩ H0
   replace H0 : ref19_own.k5 x128 = some r := H0
   unfold ref19_own.k5 at H0
   refine JQ.sub [(5, .slice Aa129 x128.length c130)] ?_
   refine JQ.turn (Δ' := [At.row Aa129 c130 3 ((flInt .i64).kd) x128 false]) (fun _ h => h.to) ?_
   refine JQ.then_normal ?_
   refine J.seq ?_
   refine J.region ?_
   refine JL.mv (.slice Aa129 x128.length c130) ?_
   refine JL.as (.slice Aa129 x128.length c130) ?_
   refine JL.nil ?_
   refine JQ.then_normal ?_
   refine JQ.sub [(4, .slice Aa129 x128.length c130)] ?_
   refine J.ret ?_
   obtain rfl := Option.some.inj H0
   exact JQ.done' (rs := [.tmp 4]) (vs := [.slice Aa129 x128.length c130]) [At.row Aa129 c130 3 ((flInt .i64).kd) x128 false] (.inr rfl) ⟨by kernel_rfl, trivial⟩ (fun _ h => Heap.to h) ⟨Aa129, c130, rfl, rfl⟩

theorem ref16_Of.ok (x1 : (List Int)) (Aa2 : Option Addr) (c3 : Nat) (y5 : (List Int)) (Aa6 : Option Addr) (c7 : Nat) (m9 : Int) (r : ((List Lag) × Int)) (H0 : ref16_Of.f x1 y5 m9 = some r) :
    Does Try.prog 20 [.slice Aa2 x1.length c3, .slice Aa6 y5.length c7, .int .i64 m9].toArray [At.rd Aa2 c3 ((flInt .i64).kd) x1 true, At.rd Aa6 c7 ((flInt .i64).kd) y5 true] [] false (fun v Δ => ∃ A1001 : Option Addr, ∃ c1001 : Nat, v = .tuple #[.slice A1001 r.1.length c1001, .int .i64 r.2] ∧ Δ = [At.row A1001 c1001 65 fl_Lag.kd r.1 false]) := by
 refine Does.body (vs := [.slice Aa2 x1.length c3, .slice Aa6 y5.length c7, .int .i64 m9]) Try.func20 rfl ⟨.inl rfl, .inl rfl, trivial⟩ trivial fun w S => ?_
 unfold ref16_Of.f at H0
 refine J.seq ?_
 refine J.region ?_
 refine JL.as (.slice none 0 0) ?_
 refine JL.as (.int .i64 0) ?_
 refine JL.nil ?_
 refine JQ.then_normal ?_
 refine JQ.sub [(0, .slice Aa2 x1.length c3), (1, .slice Aa6 y5.length c7), (2, .int .i64 m9)] ?_
 refine J.seq ?_
 refine J.seq ?_
 refine J.region ?_
 refine JL.mv (.slice Aa2 x1.length c3) ?_
 obtain ⟨t10, hc11, H0⟩ := bind_some H0
 refine JL.call [] [] [] (ref13_Check.ok x1 Aa2 c3 _ hc11) ⟨pre_any 0 (view_rd Aa2 c3 ((flInt .i64).kd) x1 true true), trivial⟩ ?_
 rintro _ _ ⟨rfl, rfl⟩
 refine JL.pur (.bool (!decide (t10 = 0))) (some 14) ?_
 refine JL.nil ?_
 refine JQ.then_normal ?_
 refine JQ.sub [(0, .slice Aa2 x1.length c3), (1, .slice Aa6 y5.length c7), (2, .int .i64 m9), (14, .bool (!decide (t10 = 0)))] ?_
 rcases ite_cases H0 with ⟨h12, H0⟩ | ⟨h12, H0⟩
 · refine J.cond_true h12 ?_
   refine J.seq ?_
   refine J.region ?_
   refine JL.mv (.slice Aa2 x1.length c3) ?_
   obtain ⟨t13, hc14, H0⟩ := bind_some H0
   refine JL.call [] [] [] (ref13_Check.ok x1 Aa2 c3 _ hc14) ⟨pre_any 0 (view_rd Aa2 c3 ((flInt .i64).kd) x1 true true), trivial⟩ ?_
   rintro _ _ ⟨rfl, rfl⟩
   refine JL.as (.slice none 0 0) ?_
   refine JL.as (.int .i64 t13) ?_
   refine JL.nil ?_
   refine JQ.then_normal ?_
   refine JQ.sub [(6, .slice none 0 0), (7, .int .i64 t13)] ?_
   refine JQ.mask [] [false, false] ?_
   refine J.ret ?_
   refine JQ.then_ret ?_
   obtain rfl := Option.some.inj H0
   exact JQ.done' (rs := [.tmp 6, .tmp 7]) (vs := [.slice none 0 0, .int .i64 t13]) [At.row none 0 65 fl_Lag.kd ([] : List Lag) false] (.inr rfl) ⟨by kernel_rfl, by kernel_rfl, trivial⟩ (fun _ h => Heap.to (Heap.addRow0 (α := Lag) 65 fl_Lag.kd false h)) ⟨none, 0, rfl, rfl⟩
 · refine J.cond_false h12 ?_
   refine J.skip ?_
   refine JQ.then_normal ?_
   refine JQ.sub [(0, .slice Aa2 x1.length c3), (1, .slice Aa6 y5.length c7), (2, .int .i64 m9)] ?_
   refine J.seq ?_
   refine J.seq ?_
   refine J.region ?_
   refine JL.mv (.slice Aa6 y5.length c7) ?_
   obtain ⟨t15, hc16, H0⟩ := bind_some H0
   refine JL.call [] [] [] (ref13_Check.ok y5 Aa6 c7 _ hc16) ⟨pre_any 1 (view_rd Aa6 c7 ((flInt .i64).kd) y5 true true), trivial⟩ ?_
   rintro _ _ ⟨rfl, rfl⟩
   refine JL.pur (.bool (!decide (t15 = 0))) (some 19) ?_
   refine JL.nil ?_
   refine JQ.then_normal ?_
   refine JQ.sub [(0, .slice Aa2 x1.length c3), (1, .slice Aa6 y5.length c7), (2, .int .i64 m9), (19, .bool (!decide (t15 = 0)))] ?_
   rcases ite_cases H0 with ⟨h17, H0⟩ | ⟨h17, H0⟩
   · refine J.cond_true h17 ?_
     refine J.seq ?_
     refine J.region ?_
     refine JL.mv (.slice Aa6 y5.length c7) ?_
     obtain ⟨t18, hc19, H0⟩ := bind_some H0
     refine JL.call [] [] [] (ref13_Check.ok y5 Aa6 c7 _ hc19) ⟨pre_any 1 (view_rd Aa6 c7 ((flInt .i64).kd) y5 true true), trivial⟩ ?_
     rintro _ _ ⟨rfl, rfl⟩
     refine JL.as (.slice none 0 0) ?_
     refine JL.as (.int .i64 t18) ?_
     refine JL.nil ?_
     refine JQ.then_normal ?_
     refine JQ.sub [(6, .slice none 0 0), (7, .int .i64 t18)] ?_
     refine JQ.mask [] [false, false] ?_
     refine J.ret ?_
     refine JQ.then_ret ?_
     obtain rfl := Option.some.inj H0
     exact JQ.done' (rs := [.tmp 6, .tmp 7]) (vs := [.slice none 0 0, .int .i64 t18]) [At.row none 0 65 fl_Lag.kd ([] : List Lag) false] (.inr rfl) ⟨by kernel_rfl, by kernel_rfl, trivial⟩ (fun _ h => Heap.to (Heap.addRow0 (α := Lag) 65 fl_Lag.kd false h)) ⟨none, 0, rfl, rfl⟩
   · refine J.cond_false h17 ?_
     refine J.skip ?_
     refine JQ.then_normal ?_
     refine JQ.sub [(0, .slice Aa2 x1.length c3), (1, .slice Aa6 y5.length c7), (2, .int .i64 m9)] ?_
     refine J.seq ?_
     refine J.join (T := Bool) (G := Unit) (fun t => ref16_Of.k1 x1 y5 m9 t = some r) (fun t g => [(0, .slice Aa2 x1.length c3), (1, .slice Aa6 y5.length c7), (2, .int .i64 m9), (27, .bool t)]) (fun t g => [At.rd Aa2 c3 ((flInt .i64).kd) x1 true, At.rd Aa6 c7 ((flInt .i64).kd) y5 true]) ?_ ?_
     · refine J.region ?_
       refine JL.mv (.int .i64 m9) ?_
       refine JL.pur (.bool (decide (m9 < 0))) (some 23) ?_
       refine JL.mv (.bool (decide (m9 < 0))) ?_
       rcases ite_cases H0 with ⟨h1830, H0⟩ | ⟨h1830, H0⟩
       · refine JL.off 2 24 false (some 25) h1830 ?_
         refine JL.off 2 24 false (some 26) h1830 ?_
         refine JL.val (.bool true) (some 27) (gives_pickT h1830) ?_
         refine JL.nil ?_
         refine JQ.then_normal ?_
         exact JQ.meet true () H0 (fun _ h => Heap.to h)
       · refine JL.on 2 24 h1830 ?_
         refine JL.mv (.int .i64 m9) ?_
         refine JL.on 2 24 h1830 ?_
         refine JL.pur (.bool (decide (255 < m9))) (some 26) ?_
         refine JL.val (.bool (decide (255 < m9))) (some 27) (gives_pickF h1830) ?_
         refine JL.nil ?_
         refine JQ.then_normal ?_
         exact JQ.meet (decide (255 < m9)) () H0 (fun _ h => Heap.to h)
     · clear H0
       rintro x21 ⟨⟩ H0
       replace H0 : ref16_Of.k1 x1 y5 m9 x21 = some r := H0
       unfold ref16_Of.k1 at H0
       refine JQ.sub [(0, .slice Aa2 x1.length c3), (1, .slice Aa6 y5.length c7), (2, .int .i64 m9), (27, .bool x21)] ?_
       refine JQ.turn (Δ' := [At.rd Aa2 c3 ((flInt .i64).kd) x1 true, At.rd Aa6 c7 ((flInt .i64).kd) y5 true]) (fun _ h => h.to) ?_
       rcases ite_cases H0 with ⟨h22, H0⟩ | ⟨h22, H0⟩
       · refine J.cond_true h22 ?_
         refine J.seq ?_
         refine J.region ?_
         refine JL.as (.slice none 0 0) ?_
         refine JL.as (.int .i64 2) ?_
         refine JL.nil ?_
         refine JQ.then_normal ?_
         refine JQ.sub [(6, .slice none 0 0), (7, .int .i64 2)] ?_
         refine JQ.mask [] [false, false] ?_
         refine J.ret ?_
         refine JQ.then_ret ?_
         obtain rfl := Option.some.inj H0
         exact JQ.done' (rs := [.tmp 6, .tmp 7]) (vs := [.slice none 0 0, .int .i64 2]) [At.row none 0 65 fl_Lag.kd ([] : List Lag) false] (.inr rfl) ⟨by kernel_rfl, by kernel_rfl, trivial⟩ (fun _ h => Heap.to (Heap.addRow0 (α := Lag) 65 fl_Lag.kd false h)) ⟨none, 0, rfl, rfl⟩
       · refine J.cond_false h22 ?_
         refine J.skip ?_
         refine JQ.then_normal ?_
         refine JQ.sub [(0, .slice Aa2 x1.length c3), (1, .slice Aa6 y5.length c7), (2, .int .i64 m9)] ?_
         refine J.seq ?_
         refine J.region ?_
         refine JL.mv (.int .i64 m9) ?_
         refine JL.pur (.int .i64 (w64 (2 * m9))) (some 29) ?_
         refine JL.pur (.int .i64 (w64 ((w64 (2 * m9)) + 1))) (some 30) ?_
         obtain ⟨⟨h24, h25, h26⟩, H0⟩ := ite_must H0
         refine JL.makeSl 65 fl_Lag.kd ((⟨0, 0⟩ : Lag) : Lag) Try.underlying31 info_65 (fun _ _ => rfl) h24 h25 (by omega) (by omega) fun b23 => ?_
         refine JL.as (.slice (some ⟨b23, 0, none⟩) (List.replicate (w64 ((w64 (2 * m9)) + 1)).toNat ((⟨0, 0⟩ : Lag) : Lag)).length ((w64 ((w64 (2 * m9)) + 1)).toNat)) ?_
         refine JL.nil ?_
         refine JQ.then_normal ?_
         refine JQ.sub [(0, .slice Aa2 x1.length c3), (1, .slice Aa6 y5.length c7), (2, .int .i64 m9), (8, .slice (some ⟨b23, 0, none⟩) (List.replicate (w64 ((w64 (2 * m9)) + 1)).toNat ((⟨0, 0⟩ : Lag) : Lag)).length ((w64 ((w64 (2 * m9)) + 1)).toNat))] ?_
         refine J.seq ?_
         refine J.seq ?_
         refine J.region ?_
         refine JL.as (.int .i64 0) ?_
         refine JL.nil ?_
         refine JQ.then_normal ?_
         obtain ⟨o1, hit, H0⟩ := bind_some H0
         refine J.loop (σ := ((List Lag) × Int)) (τ := List Lag) (G := ((Option Addr) × Nat)) (G' := ((Option Addr) × Nat)) _ o1 (fun s g => [(0, .slice Aa2 x1.length c3), (1, .slice Aa6 y5.length c7), (2, .int .i64 m9), (8, .slice g.1 s.1.length g.2), (9, .int .i64 s.2)]) (fun s g => [At.rd Aa2 c3 ((flInt .i64).kd) x1 true, At.rd Aa6 c7 ((flInt .i64).kd) y5 true, At.row g.1 g.2 65 fl_Lag.kd s.1 false]) (fun t => ref16_Of.k45 t = some r) (fun t g => [(8, .slice g.1 t.length g.2)]) (fun t g => [At.row g.1 g.2 65 fl_Lag.kd t false]) ((List.replicate (w64 ((w64 (2 * m9)) + 1)).toNat ((⟨0, 0⟩ : Lag) : Lag)), 0) ((some ⟨b23, 0, none⟩), (w64 ((w64 (2 * m9)) + 1)).toNat) hit (fun _ h => Heap.to h) ?_ ?_
         · clear hit
           rintro ⟨out923, i927⟩ ⟨Aa924, c925⟩ st1 H1 hb1 hr1
           replace H1 : ref16_Of.s44 x1 y5 m9 out923 i927 = some st1 := H1
           unfold ref16_Of.s44 at H1
           refine JQ.sub [(0, .slice Aa2 x1.length c3), (1, .slice Aa6 y5.length c7), (2, .int .i64 m9), (8, .slice Aa924 out923.length c925), (9, .int .i64 i927)] ?_
           refine JQ.turn (Δ' := [At.rd Aa2 c3 ((flInt .i64).kd) x1 true, At.rd Aa6 c7 ((flInt .i64).kd) y5 true, At.row Aa924 c925 65 fl_Lag.kd out923 false]) (fun _ h => h.to) ?_
           refine J.seq ?_
           refine J.seq ?_
           refine J.region ?_
           refine JL.mv (.int .i64 i927) ?_
           refine JL.mv (.slice Aa2 x1.length c3) ?_
           refine JL.pur (.int .i64 (x1.length : Int)) (some 34) ?_
           refine JL.pur (.bool (decide (i927 < (x1.length : Int)))) (some 35) ?_
           refine JL.nil ?_
           refine JQ.then_normal ?_
           refine JQ.sub [(0, .slice Aa2 x1.length c3), (1, .slice Aa6 y5.length c7), (2, .int .i64 m9), (8, .slice Aa924 out923.length c925), (9, .int .i64 i927), (35, .bool (decide (i927 < (x1.length : Int))))] ?_
           rcases ite_cases H1 with ⟨h1381, H1⟩ | ⟨h1381, H1⟩
           · refine J.cond_true h1381 ?_
             refine J.skip ?_
             refine JQ.then_normal ?_
             refine JQ.sub [(0, .slice Aa2 x1.length c3), (1, .slice Aa6 y5.length c7), (2, .int .i64 m9), (8, .slice Aa924 out923.length c925), (9, .int .i64 i927)] ?_
             refine J.seq ?_
             refine J.block ?_
             refine J.seq ?_
             refine J.region ?_
             refine JL.as (.int .i64 0) ?_
             refine JL.nil ?_
             refine JQ.then_normal ?_
             obtain ⟨o2, hit, H1⟩ := bind_some H1
             refine J.loop (σ := ((List Lag) × Int)) (τ := List Lag) (G := ((Option Addr) × Nat)) (G' := ((Option Addr) × Nat)) _ o2 (fun s g => [(0, .slice Aa2 x1.length c3), (1, .slice Aa6 y5.length c7), (2, .int .i64 m9), (8, .slice g.1 s.1.length g.2), (9, .int .i64 i927), (10, .int .i64 s.2)]) (fun s g => [At.rd Aa2 c3 ((flInt .i64).kd) x1 true, At.rd Aa6 c7 ((flInt .i64).kd) y5 true, At.row g.1 g.2 65 fl_Lag.kd s.1 false]) (fun t => ref16_Of.k56 i927 t = some st1) (fun t g => [(0, .slice Aa2 x1.length c3), (1, .slice Aa6 y5.length c7), (2, .int .i64 m9), (8, .slice g.1 t.length g.2), (9, .int .i64 i927)]) (fun t g => [At.rd Aa2 c3 ((flInt .i64).kd) x1 true, At.rd Aa6 c7 ((flInt .i64).kd) y5 true, At.row g.1 g.2 65 fl_Lag.kd t false]) (out923, 0) (Aa924, c925) hit (fun _ h => Heap.to h) ?_ ?_
             · clear hit
               rintro ⟨out1605, k1609⟩ ⟨Aa1606, c1607⟩ st2 H2 hb2 hr2
               replace H2 : ref16_Of.s55 x1 y5 m9 i927 out1605 k1609 = some st2 := H2
               unfold ref16_Of.s55 at H2
               refine JQ.sub [(0, .slice Aa2 x1.length c3), (1, .slice Aa6 y5.length c7), (2, .int .i64 m9), (8, .slice Aa1606 out1605.length c1607), (9, .int .i64 i927), (10, .int .i64 k1609)] ?_
               refine JQ.turn (Δ' := [At.rd Aa2 c3 ((flInt .i64).kd) x1 true, At.rd Aa6 c7 ((flInt .i64).kd) y5 true, At.row Aa1606 c1607 65 fl_Lag.kd out1605 false]) (fun _ h => h.to) ?_
               refine J.seq ?_
               refine J.seq ?_
               refine J.region ?_
               refine JL.mv (.int .i64 k1609) ?_
               refine JL.mv (.slice Aa6 y5.length c7) ?_
               refine JL.pur (.int .i64 (y5.length : Int)) (some 40) ?_
               refine JL.pur (.bool (decide (k1609 < (y5.length : Int)))) (some 41) ?_
               refine JL.nil ?_
               refine JQ.then_normal ?_
               refine JQ.sub [(0, .slice Aa2 x1.length c3), (1, .slice Aa6 y5.length c7), (2, .int .i64 m9), (8, .slice Aa1606 out1605.length c1607), (9, .int .i64 i927), (10, .int .i64 k1609), (41, .bool (decide (k1609 < (y5.length : Int))))] ?_
               rcases ite_cases H2 with ⟨h1722, H2⟩ | ⟨h1722, H2⟩
               · refine J.cond_true h1722 ?_
                 refine J.skip ?_
                 refine JQ.then_normal ?_
                 refine JQ.sub [(0, .slice Aa2 x1.length c3), (1, .slice Aa6 y5.length c7), (2, .int .i64 m9), (8, .slice Aa1606 out1605.length c1607), (9, .int .i64 i927), (10, .int .i64 k1609)] ?_
                 refine J.join (T := List Lag) (G := ((Option Addr) × Nat)) (fun t => ref16_Of.k58 k1609 t = some st2) (fun t g => [(0, .slice Aa2 x1.length c3), (1, .slice Aa6 y5.length c7), (2, .int .i64 m9), (8, .slice g.1 t.length g.2), (9, .int .i64 i927), (10, .int .i64 k1609)]) (fun t g => [At.rd Aa2 c3 ((flInt .i64).kd) x1 true, At.rd Aa6 c7 ((flInt .i64).kd) y5 true, At.row g.1 g.2 65 fl_Lag.kd t false]) ?_ ?_
                 · refine J.block ?_
                   refine J.seq ?_
                   refine J.region ?_
                   refine JL.mv (.int .i64 k1609) ?_
                   refine JL.mv (.int .i64 i927) ?_
                   refine JL.pur (.int .i64 (w64 (k1609 - i927))) (some 46) ?_
                   obtain ⟨l1779, el1779, H2⟩ := lt_some H2
                   refine JL.as' (k := .i64) l1779 el1779 ?_
                   refine JL.nil ?_
                   refine JQ.then_normal ?_
                   refine JQ.sub [(0, .slice Aa2 x1.length c3), (1, .slice Aa6 y5.length c7), (2, .int .i64 m9), (8, .slice Aa1606 out1605.length c1607), (9, .int .i64 i927), (10, .int .i64 k1609), (11, .int .i64 l1779)] ?_
                   refine J.seq ?_
                   refine J.join (T := Bool) (G := Unit) (fun t => ref16_Of.k59 x1 y5 m9 i927 out1605 k1609 l1779 t = some st2) (fun t g => [(0, .slice Aa2 x1.length c3), (1, .slice Aa6 y5.length c7), (2, .int .i64 m9), (8, .slice Aa1606 out1605.length c1607), (9, .int .i64 i927), (10, .int .i64 k1609), (11, .int .i64 l1779), (69, .bool t)]) (fun t g => [At.rd Aa2 c3 ((flInt .i64).kd) x1 true, At.rd Aa6 c7 ((flInt .i64).kd) y5 true, At.row Aa1606 c1607 65 fl_Lag.kd out1605 false]) ?_ ?_
                   · refine J.region ?_
                     refine JL.mv (.int .i64 l1779) ?_
                     refine JL.mv (.int .i64 m9) ?_
                     refine JL.pur (.int .i64 (w64 (0 - m9))) (some 49) ?_
                     refine JL.pur (.bool (decide (l1779 < w64 (0 - m9)))) (some 50) ?_
                     refine JL.mv (.bool (decide (l1779 < w64 (0 - m9)))) ?_
                     rcases ite_cases H2 with ⟨h1819, H2⟩ | ⟨h1819, H2⟩
                     · refine JL.off 4 51 false (some 52) h1819 ?_
                       refine JL.off 4 51 false (some 53) h1819 ?_
                       refine JL.off 4 51 false (some 54) h1819 ?_
                       refine JL.val (.bool true) (some 55) (gives_pickT h1819) ?_
                       refine JL.mv (.bool true) ?_
                       refine JL.off 9 56 false (some 57) rfl ?_
                       refine JL.off 9 56 false (some 58) rfl ?_
                       refine JL.off 9 56 false (some 59) rfl ?_
                       refine JL.off 9 56 false (some 60) rfl ?_
                       refine JL.off 9 56 false (some 61) rfl ?_
                       refine JL.val (.bool true) (some 62) (gives_pickT rfl) ?_
                       refine JL.mv (.bool true) ?_
                       refine JL.off 16 63 false (some 64) rfl ?_
                       refine JL.off 16 63 false (some 65) rfl ?_
                       refine JL.off 16 63 false (some 66) rfl ?_
                       refine JL.off 16 63 false (some 67) rfl ?_
                       refine JL.off 16 63 false (some 68) rfl ?_
                       refine JL.val (.bool true) (some 69) (gives_pickT rfl) ?_
                       refine JL.nil ?_
                       refine JQ.then_normal ?_
                       exact JQ.meet true () H2 (fun _ h => Heap.to h)
                     · refine JL.on 4 51 h1819 ?_
                       refine JL.mv (.int .i64 l1779) ?_
                       refine JL.on 4 51 h1819 ?_
                       refine JL.mv (.int .i64 m9) ?_
                       refine JL.on 4 51 h1819 ?_
                       refine JL.pur (.bool (decide (m9 < l1779))) (some 54) ?_
                       refine JL.val (.bool (decide (m9 < l1779))) (some 55) (gives_pickF h1819) ?_
                       refine JL.mv (.bool (decide (m9 < l1779))) ?_
                       rcases ite_cases H2 with ⟨h1820, H2⟩ | ⟨h1820, H2⟩
                       · refine JL.off 9 56 false (some 57) h1820 ?_
                         refine JL.off 9 56 false (some 58) h1820 ?_
                         refine JL.off 9 56 false (some 59) h1820 ?_
                         refine JL.off 9 56 false (some 60) h1820 ?_
                         refine JL.off 9 56 false (some 61) h1820 ?_
                         refine JL.val (.bool true) (some 62) (gives_pickT h1820) ?_
                         refine JL.mv (.bool true) ?_
                         refine JL.off 16 63 false (some 64) rfl ?_
                         refine JL.off 16 63 false (some 65) rfl ?_
                         refine JL.off 16 63 false (some 66) rfl ?_
                         refine JL.off 16 63 false (some 67) rfl ?_
                         refine JL.off 16 63 false (some 68) rfl ?_
                         refine JL.val (.bool true) (some 69) (gives_pickT rfl) ?_
                         refine JL.nil ?_
                         refine JQ.then_normal ?_
                         exact JQ.meet true () H2 (fun _ h => Heap.to h)
                       · refine JL.on 9 56 h1820 ?_
                         refine JL.mv (.slice Aa2 x1.length c3) ?_
                         refine JL.on 9 56 h1820 ?_
                         refine JL.mv (.int .i64 i927) ?_
                         refine JL.on 9 56 h1820 ?_
                         obtain ⟨⟨h1821, h1822⟩, H2⟩ := ite_must H2
                         refine JL.ixAddr 0 1 c3 .i64 (elems_rd Aa2 c3 ((flInt .i64).kd) x1 true) Try.underlying22 tySize_3 h1821 h1822 fun g1823 o1824 hA => ?_
                         subst hA
                         refine JL.on 9 56 h1820 ?_
                         refine JL.val (.int .i64 (ix x1 i927)) (some 60) (gives_loadEl (f := (flInt .i64)) 0 0 i927 (elems_rd (some ⟨g1823, o1824, none⟩) c3 ((flInt .i64).kd) x1 true) h1821 h1822 tySize_3 (.inr ⟨tyAgg_3, rfl, rfl⟩)) ?_
                         refine JL.on 9 56 h1820 ?_
                         refine JL.pur (.bool (decide ((ix x1 i927) = 0))) (some 61) ?_
                         refine JL.val (.bool (decide ((ix x1 i927) = 0))) (some 62) (gives_pickF h1820) ?_
                         refine JL.mv (.bool (decide ((ix x1 i927) = 0))) ?_
                         rcases ite_cases H2 with ⟨h1825, H2⟩ | ⟨h1825, H2⟩
                         · refine JL.off 16 63 false (some 64) h1825 ?_
                           refine JL.off 16 63 false (some 65) h1825 ?_
                           refine JL.off 16 63 false (some 66) h1825 ?_
                           refine JL.off 16 63 false (some 67) h1825 ?_
                           refine JL.off 16 63 false (some 68) h1825 ?_
                           refine JL.val (.bool true) (some 69) (gives_pickT h1825) ?_
                           refine JL.nil ?_
                           refine JQ.then_normal ?_
                           exact JQ.meet true () H2 (fun _ h => Heap.to h)
                         · refine JL.on 16 63 h1825 ?_
                           refine JL.mv (.slice Aa6 y5.length c7) ?_
                           refine JL.on 16 63 h1825 ?_
                           refine JL.mv (.int .i64 k1609) ?_
                           refine JL.on 16 63 h1825 ?_
                           obtain ⟨⟨h1826, h1827⟩, H2⟩ := ite_must H2
                           refine JL.ixAddr 1 1 c7 .i64 (elems_rd Aa6 c7 ((flInt .i64).kd) y5 true) Try.underlying22 tySize_3 h1826 h1827 fun g1828 o1829 hA => ?_
                           subst hA
                           refine JL.on 16 63 h1825 ?_
                           refine JL.val (.int .i64 (ix y5 k1609)) (some 67) (gives_loadEl (f := (flInt .i64)) 1 0 k1609 (elems_rd (some ⟨g1828, o1829, none⟩) c7 ((flInt .i64).kd) y5 true) h1826 h1827 tySize_3 (.inr ⟨tyAgg_3, rfl, rfl⟩)) ?_
                           refine JL.on 16 63 h1825 ?_
                           refine JL.pur (.bool (decide ((ix y5 k1609) = 0))) (some 68) ?_
                           refine JL.val (.bool (decide ((ix y5 k1609) = 0))) (some 69) (gives_pickF h1825) ?_
                           refine JL.nil ?_
                           refine JQ.then_normal ?_
                           exact JQ.meet (decide ((ix y5 k1609) = 0)) () H2 (fun _ h => Heap.to h)
                   · clear H2
                     rintro x1791 ⟨⟩ H2
                     replace H2 : ref16_Of.k59 x1 y5 m9 i927 out1605 k1609 l1779 x1791 = some st2 := H2
                     unfold ref16_Of.k59 at H2
                     refine JQ.sub [(0, .slice Aa2 x1.length c3), (1, .slice Aa6 y5.length c7), (2, .int .i64 m9), (8, .slice Aa1606 out1605.length c1607), (9, .int .i64 i927), (10, .int .i64 k1609), (11, .int .i64 l1779), (69, .bool x1791)] ?_
                     refine JQ.turn (Δ' := [At.rd Aa2 c3 ((flInt .i64).kd) x1 true, At.rd Aa6 c7 ((flInt .i64).kd) y5 true, At.row Aa1606 c1607 65 fl_Lag.kd out1605 false]) (fun _ h => h.to) ?_
                     rcases ite_cases H2 with ⟨h1792, H2⟩ | ⟨h1792, H2⟩
                     · refine J.cond_true h1792 ?_
                       refine J.exit ?_
                       refine JQ.then_exit ?_
                       refine JQ.blk_exit ?_
                       refine JQ.then_normal ?_
                       exact JQ.meet out1605 (Aa1606, c1607) H2 (fun _ h => Heap.to h)
                     · refine J.cond_false h1792 ?_
                       refine J.skip ?_
                       refine JQ.then_normal ?_
                       refine JQ.sub [(0, .slice Aa2 x1.length c3), (1, .slice Aa6 y5.length c7), (2, .int .i64 m9), (8, .slice Aa1606 out1605.length c1607), (9, .int .i64 i927), (10, .int .i64 k1609), (11, .int .i64 l1779)] ?_
                       refine J.seq ?_
                       refine J.drawT 19 ?_
                       refine QL.mv (.slice Aa1606 out1605.length c1607) ?_
                       refine QL.mv (.int .i64 l1779) ?_
                       refine QL.mv (.int .i64 m9) ?_
                       refine QL.pur (.int .i64 (w64 (l1779 + m9))) (some 73) ?_
                       obtain ⟨⟨h1793, h1794⟩, H2⟩ := ite_must H2
                       refine QL.ixAddr 2 2 c1607 .i64 (elems_row Aa1606 c1607 65 fl_Lag.kd out1605 false) Try.underlying31 tySize_65 h1793 h1794 fun g1795 o1796 hA => ?_
                       subst hA
                       refine QL.pur (.pointer (some ⟨g1795, o1796 + (w64 (l1779 + m9)).toNat * 2, none⟩)) (some 75) ?_
                       refine QL.val (.int .i64 ((ix out1605 (w64 (l1779 + m9))).Sum)) (some 76) (gives_loadEl (f := fl_Lag) 2 0 (w64 (l1779 + m9)) (elems_row (some ⟨g1795, o1796, none⟩) c1607 65 fl_Lag.kd out1605 false) h1793 h1794 tySize_3 (.inr ⟨tyAgg_3, rfl, rfl⟩)) ?_
                       refine QL.mv (.slice Aa2 x1.length c3) ?_
                       refine QL.mv (.int .i64 i927) ?_
                       obtain ⟨⟨h1797, h1798⟩, H2⟩ := ite_must H2
                       refine QL.ixAddr 0 1 c3 .i64 (elems_rd Aa2 c3 ((flInt .i64).kd) x1 true) Try.underlying22 tySize_3 h1797 h1798 fun g1799 o1800 hA => ?_
                       subst hA
                       refine QL.val (.int .i64 (ix x1 i927)) (some 80) (gives_loadEl (f := (flInt .i64)) 0 0 i927 (elems_rd (some ⟨g1799, o1800, none⟩) c3 ((flInt .i64).kd) x1 true) h1797 h1798 tySize_3 (.inr ⟨tyAgg_3, rfl, rfl⟩)) ?_
                       refine QL.mv (.slice Aa6 y5.length c7) ?_
                       refine QL.mv (.int .i64 k1609) ?_
                       obtain ⟨⟨h1801, h1802⟩, H2⟩ := ite_must H2
                       refine QL.ixAddr 1 1 c7 .i64 (elems_rd Aa6 c7 ((flInt .i64).kd) y5 true) Try.underlying22 tySize_3 h1801 h1802 fun g1803 o1804 hA => ?_
                       subst hA
                       refine QL.val (.int .i64 (ix y5 k1609)) (some 84) (gives_loadEl (f := (flInt .i64)) 1 0 k1609 (elems_rd (some ⟨g1803, o1804, none⟩) c7 ((flInt .i64).kd) y5 true) h1801 h1802 tySize_3 (.inr ⟨tyAgg_3, rfl, rfl⟩)) ?_
                       refine QL.pur (.int .i64 (w64 ((ix x1 i927) * (ix y5 k1609)))) (some 85) ?_
                       refine QL.pur (.int .i64 (w64 (((ix out1605 (w64 (l1779 + m9))).Sum) + (w64 ((ix x1 i927) * (ix y5 k1609)))))) (some 86) ?_
                       refine QL.ixAddr' 2 2 c1607 .i64 (elems_row (some ⟨g1795, o1796, none⟩) c1607 65 fl_Lag.kd out1605 false) Try.underlying31 tySize_65 h1793 h1794 ?_
                       refine QL.pur (.pointer (some ⟨g1795, o1796 + (w64 (l1779 + m9)).toNat * 2, none⟩)) (some 88) ?_
                       refine QL.nil ?_
                       refine JA.nil ?_
                       refine JL.storeEl (E := 65) g1795 o1796 0 c1607 2 fl_Lag out1605 (w64 (l1779 + m9)) false (⟨(w64 (((ix out1605 (w64 (l1779 + m9))).Sum) + (w64 ((ix x1 i927) * (ix y5 k1609))))), ((ix out1605 (w64 (l1779 + m9))).N)⟩ : Lag) h1793 h1794 tySize_3 ?_
                       obtain ⟨l1809, el1809, H2⟩ := lt_some H2
                       have nl1809 : out1605.length = l1809.length := by rw [← el1809, List.length_set]
                       rw [el1809]
                       refine JQ.len (fun n : Nat => [(0, .slice (some ⟨g1799, o1800, none⟩) x1.length c3), (1, .slice (some ⟨g1803, o1804, none⟩) y5.length c7), (2, .int .i64 m9), (8, .slice (some ⟨g1795, o1796, none⟩) n c1607), (9, .int .i64 i927), (10, .int .i64 k1609), (11, .int .i64 l1779), (70, .slice (some ⟨g1795, o1796, none⟩) n c1607), (71, .int .i64 l1779), (72, .int .i64 m9), (73, .int .i64 (w64 (l1779 + m9))), (76, .int .i64 ((ix out1605 (w64 (l1779 + m9))).Sum)), (77, .slice (some ⟨g1799, o1800, none⟩) x1.length c3), (78, .int .i64 i927), (79, .pointer (some ⟨g1799, o1800 + i927.toNat * 1, none⟩)), (80, .int .i64 (ix x1 i927)), (81, .slice (some ⟨g1803, o1804, none⟩) y5.length c7), (82, .int .i64 k1609), (83, .pointer (some ⟨g1803, o1804 + k1609.toNat * 1, none⟩)), (84, .int .i64 (ix y5 k1609)), (85, .int .i64 (w64 ((ix x1 i927) * (ix y5 k1609)))), (86, .int .i64 (w64 (((ix out1605 (w64 (l1779 + m9))).Sum) + (w64 ((ix x1 i927) * (ix y5 k1609))))))]) nl1809 ?_
                       refine JQ.sub [(0, .slice (some ⟨g1799, o1800, none⟩) x1.length c3), (1, .slice (some ⟨g1803, o1804, none⟩) y5.length c7), (2, .int .i64 m9), (8, .slice (some ⟨g1795, o1796, none⟩) l1809.length c1607), (9, .int .i64 i927), (10, .int .i64 k1609), (11, .int .i64 l1779), (70, .slice (some ⟨g1795, o1796, none⟩) l1809.length c1607), (71, .int .i64 l1779), (72, .int .i64 m9), (73, .int .i64 (w64 (l1779 + m9))), (76, .int .i64 ((ix out1605 (w64 (l1779 + m9))).Sum)), (77, .slice (some ⟨g1799, o1800, none⟩) x1.length c3), (78, .int .i64 i927), (79, .pointer (some ⟨g1799, o1800 + i927.toNat * 1, none⟩)), (80, .int .i64 (ix x1 i927)), (81, .slice (some ⟨g1803, o1804, none⟩) y5.length c7), (82, .int .i64 k1609), (83, .pointer (some ⟨g1803, o1804 + k1609.toNat * 1, none⟩)), (84, .int .i64 (ix y5 k1609)), (85, .int .i64 (w64 ((ix x1 i927) * (ix y5 k1609)))), (86, .int .i64 (w64 (((ix out1605 (w64 (l1779 + m9))).Sum) + (w64 ((ix x1 i927) * (ix y5 k1609))))))] ?_
                       refine JL.nil ?_
                       refine JQ.then_normal ?_
                       refine JQ.sub [(0, .slice (some ⟨g1799, o1800, none⟩) x1.length c3), (1, .slice (some ⟨g1803, o1804, none⟩) y5.length c7), (2, .int .i64 m9), (8, .slice (some ⟨g1795, o1796, none⟩) l1809.length c1607), (9, .int .i64 i927), (10, .int .i64 k1609), (11, .int .i64 l1779)] ?_
                       refine J.region ?_
                       refine JL.mv (.slice (some ⟨g1795, o1796, none⟩) l1809.length c1607) ?_
                       refine JL.mv (.int .i64 l1779) ?_
                       refine JL.mv (.int .i64 m9) ?_
                       refine JL.pur (.int .i64 (w64 (l1779 + m9))) (some 92) ?_
                       obtain ⟨⟨h1810, h1811⟩, H2⟩ := ite_must H2
                       refine JL.ixAddr' 2 2 c1607 .i64 (elems_row (some ⟨g1795, o1796, none⟩) c1607 65 fl_Lag.kd l1809 false) Try.underlying31 tySize_65 h1810 h1811 ?_
                       refine JL.pur (.pointer (some ⟨g1795, o1796 + (w64 (l1779 + m9)).toNat * 2 + 1, none⟩)) (some 94) ?_
                       refine JL.val (.int .i64 ((ix l1809 (w64 (l1779 + m9))).N)) (some 95) (gives_loadEl (f := fl_Lag) 2 1 (w64 (l1779 + m9)) (elems_row (some ⟨g1795, o1796, none⟩) c1607 65 fl_Lag.kd l1809 false) h1810 h1811 tySize_3 (.inr ⟨tyAgg_3, rfl, rfl⟩)) ?_
                       refine JL.pur (.int .i64 (w64 (((ix l1809 (w64 (l1779 + m9))).N) + 1))) (some 96) ?_
                       refine JL.ixAddr' 2 2 c1607 .i64 (elems_row (some ⟨g1795, o1796, none⟩) c1607 65 fl_Lag.kd l1809 false) Try.underlying31 tySize_65 h1810 h1811 ?_
                       refine JL.pur (.pointer (some ⟨g1795, o1796 + (w64 (l1779 + m9)).toNat * 2 + 1, none⟩)) (some 98) ?_
                       refine JL.storeEl (E := 65) g1795 o1796 1 c1607 2 fl_Lag l1809 (w64 (l1779 + m9)) false (⟨((ix l1809 (w64 (l1779 + m9))).Sum), (w64 (((ix l1809 (w64 (l1779 + m9))).N) + 1))⟩ : Lag) h1810 h1811 tySize_3 ?_
                       obtain ⟨l1818, el1818, H2⟩ := lt_some H2
                       have nl1818 : l1809.length = l1818.length := by rw [← el1818, List.length_set]
                       rw [el1818]
                       refine JQ.len (fun n : Nat => [(0, .slice (some ⟨g1799, o1800, none⟩) x1.length c3), (1, .slice (some ⟨g1803, o1804, none⟩) y5.length c7), (2, .int .i64 m9), (8, .slice (some ⟨g1795, o1796, none⟩) n c1607), (9, .int .i64 i927), (10, .int .i64 k1609), (11, .int .i64 l1779), (89, .slice (some ⟨g1795, o1796, none⟩) n c1607), (90, .int .i64 l1779), (91, .int .i64 m9), (92, .int .i64 (w64 (l1779 + m9))), (95, .int .i64 ((ix l1809 (w64 (l1779 + m9))).N)), (96, .int .i64 (w64 (((ix l1809 (w64 (l1779 + m9))).N) + 1)))]) nl1818 ?_
                       refine JQ.sub [(0, .slice (some ⟨g1799, o1800, none⟩) x1.length c3), (1, .slice (some ⟨g1803, o1804, none⟩) y5.length c7), (2, .int .i64 m9), (8, .slice (some ⟨g1795, o1796, none⟩) l1818.length c1607), (9, .int .i64 i927), (10, .int .i64 k1609), (11, .int .i64 l1779), (89, .slice (some ⟨g1795, o1796, none⟩) l1818.length c1607), (90, .int .i64 l1779), (91, .int .i64 m9), (92, .int .i64 (w64 (l1779 + m9))), (95, .int .i64 ((ix l1809 (w64 (l1779 + m9))).N)), (96, .int .i64 (w64 (((ix l1809 (w64 (l1779 + m9))).N) + 1)))] ?_
                       refine JL.nil ?_
                       refine JQ.blk_normal ?_
                       refine JQ.then_normal ?_
                       exact JQ.meet l1818 ((some ⟨g1795, o1796, none⟩), c1607) H2 (fun _ h => Heap.to h)
                 · clear H2
                   rintro out1774 ⟨Aa1775, c1776⟩ H2
                   replace H2 : ref16_Of.k58 k1609 out1774 = some st2 := H2
                   unfold ref16_Of.k58 at H2
                   refine JQ.sub [(0, .slice Aa2 x1.length c3), (1, .slice Aa6 y5.length c7), (2, .int .i64 m9), (8, .slice Aa1775 out1774.length c1776), (9, .int .i64 i927), (10, .int .i64 k1609)] ?_
                   refine JQ.turn (Δ' := [At.rd Aa2 c3 ((flInt .i64).kd) x1 true, At.rd Aa6 c7 ((flInt .i64).kd) y5 true, At.row Aa1775 c1776 65 fl_Lag.kd out1774 false]) (fun _ h => h.to) ?_
                   refine J.region ?_
                   refine JL.mv (.int .i64 k1609) ?_
                   refine JL.pur (.int .i64 (w64 (k1609 + 1))) (some 43) ?_
                   obtain ⟨k1778, ek1778, H2⟩ := lt_some H2
                   refine JL.as' (k := .i64) k1778 ek1778 ?_
                   refine JL.nil ?_
                   refine JQ.then_normal ?_
                   exact JQ.again (out1774, k1778) (Aa1775, c1776) (Option.some.inj H2).symm (fun _ h => Heap.to h)
               · refine J.cond_false h1722 ?_
                 refine J.exit ?_
                 refine JQ.then_exit ?_
                 refine JQ.then_exit ?_
                 refine JQ.blk_exit ?_
                 rw [hb2 _ (Option.some.inj H2).symm, fin_brk] at H1
                 exact JQ.met out1605 (Aa1606, c1607) H1 (fun _ h => Heap.to h)
             · clear hit H1
               rintro out1718 ⟨Aa1719, c1720⟩ H1
               replace H1 : ref16_Of.k56 i927 out1718 = some st1 := H1
               unfold ref16_Of.k56 at H1
               refine JQ.sub [(0, .slice Aa2 x1.length c3), (1, .slice Aa6 y5.length c7), (2, .int .i64 m9), (8, .slice Aa1719 out1718.length c1720), (9, .int .i64 i927)] ?_
               refine JQ.turn (Δ' := [At.rd Aa2 c3 ((flInt .i64).kd) x1 true, At.rd Aa6 c7 ((flInt .i64).kd) y5 true, At.row Aa1719 c1720 65 fl_Lag.kd out1718 false]) (fun _ h => h.to) ?_
               refine JQ.blk_normal ?_
               refine JQ.then_normal ?_
               refine J.region ?_
               refine JL.mv (.int .i64 i927) ?_
               refine JL.pur (.int .i64 (w64 (i927 + 1))) (some 37) ?_
               refine JL.as (.int .i64 (w64 (i927 + 1))) ?_
               refine JL.nil ?_
               refine JQ.then_normal ?_
               exact JQ.again (out1718, w64 (i927 + 1)) (Aa1719, c1720) (Option.some.inj H1).symm (fun _ h => Heap.to h)
           · refine J.cond_false h1381 ?_
             refine J.exit ?_
             refine JQ.then_exit ?_
             refine JQ.then_exit ?_
             refine JQ.blk_exit ?_
             rw [hb1 _ (Option.some.inj H1).symm, fin_brk] at H0
             exact JQ.met out923 (Aa924, c925) H0 (fun _ h => Heap.to (Heap.pick [2] (by decide) h))
         · clear hit H0
           rintro out1377 ⟨Aa1378, c1379⟩ H0
           replace H0 : ref16_Of.k45 out1377 = some r := H0
           unfold ref16_Of.k45 at H0
           refine JQ.sub [(8, .slice Aa1378 out1377.length c1379)] ?_
           refine JQ.turn (Δ' := [At.row Aa1378 c1379 65 fl_Lag.kd out1377 false]) (fun _ h => h.to) ?_
           refine JQ.then_normal ?_
           refine J.seq ?_
           refine J.region ?_
           refine JL.mv (.slice Aa1378 out1377.length c1379) ?_
           refine JL.as (.slice Aa1378 out1377.length c1379) ?_
           refine JL.as (.int .i64 0) ?_
           refine JL.nil ?_
           refine JQ.then_normal ?_
           refine JQ.sub [(6, .slice Aa1378 out1377.length c1379), (7, .int .i64 0)] ?_
           refine J.ret ?_
           obtain rfl := Option.some.inj H0
           exact JQ.done' (rs := [.tmp 6, .tmp 7]) (vs := [.slice Aa1378 out1377.length c1379, .int .i64 0]) [At.row Aa1378 c1379 65 fl_Lag.kd out1377 false] (.inr rfl) ⟨by kernel_rfl, by kernel_rfl, trivial⟩ (fun _ h => Heap.to h) ⟨Aa1378, c1379, rfl, rfl⟩

theorem ref19_Part.ok (j1 : Job) (Aa2 : Option Addr) (c3 : Nat) (Aa5 : Option Addr) (c6 : Nat) (block8 : Int) (r : ((List Lag) × Int)) (H0 : ref19_Part.f j1 block8 = some r) :
    Does Try.prog 8 [.agg #[.slice Aa2 j1.X_.length c3, .slice Aa5 j1.Y.length c6, .int .i64 j1.Most, .int .i64 j1.Size], .int .i64 block8].toArray [At.rd Aa2 c3 ((flInt .i64).kd) j1.X_ true, At.rd Aa5 c6 ((flInt .i64).kd) j1.Y true] [] false (fun v Δ => ∃ A1001 : Option Addr, ∃ c1001 : Nat, v = .tuple #[.slice A1001 r.1.length c1001, .int .i64 r.2] ∧ Δ = [At.row A1001 c1001 65 fl_Lag.kd r.1 false]) := by
 refine Does.body (vs := [.agg #[.slice Aa2 j1.X_.length c3, .slice Aa5 j1.Y.length c6, .int .i64 j1.Most, .int .i64 j1.Size], .int .i64 block8]) Try.func8 rfl ⟨.inl rfl, .inl rfl, trivial⟩ trivial fun w S => ?_
 unfold ref19_Part.f at H0
 refine J.seq ?_
 refine J.region ?_
 refine JL.box [.slice Aa2 j1.X_.length c3, .slice Aa5 j1.Y.length c6, .int .i64 j1.Most, .int .i64 j1.Size] fun b9 => ?_
 refine JL.as (.slice none 0 0) ?_
 refine JL.as (.int .i64 0) ?_
 refine JL.nil ?_
 refine JQ.then_normal ?_
 refine JQ.sub [(1, .int .i64 block8), (2, .pointer (some ⟨b9, 0, none⟩))] ?_
 refine J.seq ?_
 refine J.seq ?_
 refine J.region ?_
 refine JL.val (.agg #[.slice Aa2 j1.X_.length c3, .slice Aa5 j1.Y.length c6, .int .i64 j1.Most, .int .i64 j1.Size]) (some 8) (yields_load_boxes 2 0 [.slice Aa2 j1.X_.length c3, .slice Aa5 j1.Y.length c6, .int .i64 j1.Most, .int .i64 j1.Size] (holds_box b9 24 [.slice Aa2 j1.X_.length c3, .slice Aa5 j1.Y.length c6, .int .i64 j1.Most, .int .i64 j1.Size]) tyAgg_24 tySize_24) ?_
 obtain ⟨t10, hc11, H0⟩ := bind_some H0
 refine JL.call [] [] [] (ref19_Check.ok j1 Aa2 c3 Aa5 c6 _ hc11) ⟨pre_any 0 (view_rd Aa2 c3 ((flInt .i64).kd) j1.X_ true true), ⟨pre_any 1 (view_rd Aa5 c6 ((flInt .i64).kd) j1.Y true true), trivial⟩⟩ ?_
 rintro _ _ ⟨rfl, rfl⟩
 refine JL.pur (.bool (!decide (t10 = 0))) (some 10) ?_
 refine JL.nil ?_
 refine JQ.then_normal ?_
 refine JQ.sub [(1, .int .i64 block8), (2, .pointer (some ⟨b9, 0, none⟩)), (10, .bool (!decide (t10 = 0)))] ?_
 rcases ite_cases H0 with ⟨h12, H0⟩ | ⟨h12, H0⟩
 · refine J.cond_true h12 ?_
   refine J.seq ?_
   refine J.region ?_
   refine JL.val (.agg #[.slice Aa2 j1.X_.length c3, .slice Aa5 j1.Y.length c6, .int .i64 j1.Most, .int .i64 j1.Size]) (some 11) (yields_load_boxes 2 0 [.slice Aa2 j1.X_.length c3, .slice Aa5 j1.Y.length c6, .int .i64 j1.Most, .int .i64 j1.Size] (holds_box b9 24 [.slice Aa2 j1.X_.length c3, .slice Aa5 j1.Y.length c6, .int .i64 j1.Most, .int .i64 j1.Size]) tyAgg_24 tySize_24) ?_
   obtain ⟨t13, hc14, H0⟩ := bind_some H0
   refine JL.call [] [] [] (ref19_Check.ok j1 Aa2 c3 Aa5 c6 _ hc14) ⟨pre_any 0 (view_rd Aa2 c3 ((flInt .i64).kd) j1.X_ true true), ⟨pre_any 1 (view_rd Aa5 c6 ((flInt .i64).kd) j1.Y true true), trivial⟩⟩ ?_
   rintro _ _ ⟨rfl, rfl⟩
   refine JL.as (.slice none 0 0) ?_
   refine JL.as (.int .i64 t13) ?_
   refine JL.nil ?_
   refine JQ.then_normal ?_
   refine JQ.sub [(4, .slice none 0 0), (5, .int .i64 t13)] ?_
   refine JQ.mask [] [false, false, false] ?_
   refine J.ret ?_
   refine JQ.then_ret ?_
   obtain rfl := Option.some.inj H0
   exact JQ.done' (rs := [.tmp 4, .tmp 5]) (vs := [.slice none 0 0, .int .i64 t13]) [At.row none 0 65 fl_Lag.kd ([] : List Lag) false] (.inr rfl) ⟨by kernel_rfl, by kernel_rfl, trivial⟩ (fun _ h => Heap.to (Heap.addRow0 (α := Lag) 65 fl_Lag.kd false h)) ⟨none, 0, rfl, rfl⟩
 · refine J.cond_false h12 ?_
   refine J.skip ?_
   refine JQ.then_normal ?_
   refine JQ.sub [(1, .int .i64 block8), (2, .pointer (some ⟨b9, 0, none⟩))] ?_
   refine J.seq ?_
   refine J.join (T := Bool) (G := Unit) (fun t => ref19_Part.k1 j1 block8 t = some r) (fun t g => [(1, .int .i64 block8), (2, .pointer (some ⟨b9, 0, none⟩)), (20, .bool t)]) (fun t g => [At.box b9 24 [.slice Aa2 j1.X_.length c3, .slice Aa5 j1.Y.length c6, .int .i64 j1.Most, .int .i64 j1.Size], At.rd Aa2 c3 ((flInt .i64).kd) j1.X_ true, At.rd Aa5 c6 ((flInt .i64).kd) j1.Y true]) ?_ ?_
   · refine J.region ?_
     refine JL.mv (.int .i64 block8) ?_
     refine JL.pur (.bool (decide (block8 < 0))) (some 14) ?_
     refine JL.mv (.bool (decide (block8 < 0))) ?_
     rcases ite_cases H0 with ⟨h40, H0⟩ | ⟨h40, H0⟩
     · refine JL.off 2 15 false (some 16) h40 ?_
       refine JL.off 2 15 false (some 17) h40 ?_
       refine JL.off 2 15 false (some 18) h40 ?_
       refine JL.off 2 15 false (some 19) h40 ?_
       refine JL.val (.bool true) (some 20) (gives_pickT h40) ?_
       refine JL.nil ?_
       refine JQ.then_normal ?_
       exact JQ.meet true () H0 (fun _ h => Heap.to (Heap.pick [2, 0, 1] (by decide) h))
     · refine JL.on 2 15 h40 ?_
       refine JL.mv (.int .i64 block8) ?_
       refine JL.on 2 15 h40 ?_
       refine JL.val (.agg #[.slice Aa2 j1.X_.length c3, .slice Aa5 j1.Y.length c6, .int .i64 j1.Most, .int .i64 j1.Size]) (some 17) (yields_load_boxes 2 0 [.slice Aa2 j1.X_.length c3, .slice Aa5 j1.Y.length c6, .int .i64 j1.Most, .int .i64 j1.Size] (holds_box b9 24 [.slice Aa2 j1.X_.length c3, .slice Aa5 j1.Y.length c6, .int .i64 j1.Most, .int .i64 j1.Size]) tyAgg_24 tySize_24) ?_
       refine JL.on 2 15 h40 ?_
       obtain ⟨t41, hc42, H0⟩ := bind_some H0
       refine JL.call [] [] [] (ref19_Count.ok j1 Aa2 c3 Aa5 c6 _ hc42) ⟨pre_any 0 (view_rd Aa2 c3 ((flInt .i64).kd) j1.X_ true true), ⟨pre_any 1 (view_rd Aa5 c6 ((flInt .i64).kd) j1.Y true true), trivial⟩⟩ ?_
       rintro _ _ ⟨rfl, rfl⟩
       refine JL.on 2 15 h40 ?_
       refine JL.pur (.bool (decide (t41 ≤ block8))) (some 19) ?_
       refine JL.val (.bool (decide (t41 ≤ block8))) (some 20) (gives_pickF h40) ?_
       refine JL.nil ?_
       refine JQ.then_normal ?_
       exact JQ.meet (decide (t41 ≤ block8)) () H0 (fun _ h => Heap.to (Heap.pick [2, 0, 1] (by decide) h))
   · clear H0
     rintro x18 ⟨⟩ H0
     replace H0 : ref19_Part.k1 j1 block8 x18 = some r := H0
     unfold ref19_Part.k1 at H0
     refine JQ.sub [(1, .int .i64 block8), (2, .pointer (some ⟨b9, 0, none⟩)), (20, .bool x18)] ?_
     refine JQ.turn (Δ' := [At.box b9 24 [.slice Aa2 j1.X_.length c3, .slice Aa5 j1.Y.length c6, .int .i64 j1.Most, .int .i64 j1.Size], At.rd Aa2 c3 ((flInt .i64).kd) j1.X_ true, At.rd Aa5 c6 ((flInt .i64).kd) j1.Y true]) (fun _ h => h.to) ?_
     rcases ite_cases H0 with ⟨h19, H0⟩ | ⟨h19, H0⟩
     · refine J.cond_true h19 ?_
       refine J.seq ?_
       refine J.region ?_
       refine JL.as (.slice none 0 0) ?_
       refine JL.as (.int .i64 2) ?_
       refine JL.nil ?_
       refine JQ.then_normal ?_
       refine JQ.sub [(4, .slice none 0 0), (5, .int .i64 2)] ?_
       refine JQ.mask [] [false, false, false] ?_
       refine J.ret ?_
       refine JQ.then_ret ?_
       obtain rfl := Option.some.inj H0
       exact JQ.done' (rs := [.tmp 4, .tmp 5]) (vs := [.slice none 0 0, .int .i64 2]) [At.row none 0 65 fl_Lag.kd ([] : List Lag) false] (.inr rfl) ⟨by kernel_rfl, by kernel_rfl, trivial⟩ (fun _ h => Heap.to (Heap.addRow0 (α := Lag) 65 fl_Lag.kd false h)) ⟨none, 0, rfl, rfl⟩
     · refine J.cond_false h19 ?_
       refine J.skip ?_
       refine JQ.then_normal ?_
       refine JQ.sub [(1, .int .i64 block8), (2, .pointer (some ⟨b9, 0, none⟩))] ?_
       refine J.seq ?_
       obtain ⟨t20, hc21, H0⟩ := bind_some H0
       obtain ⟨t25, hc26, H0⟩ := bind_some H0
       refine JY.start [] (ba 13 0) ?_
       refine JY.take (hi := rfl) 0 (ba 13 1) (.agg #[.slice Aa2 j1.X_.length c3, .slice Aa5 j1.Y.length c6, .int .i64 j1.Most, .int .i64 j1.Size]) (some 22) [true, true, true] want (yields_load_boxes 0 0 [.slice Aa2 j1.X_.length c3, .slice Aa5 j1.Y.length c6, .int .i64 j1.Most, .int .i64 j1.Size] (holds_box b9 24 [.slice Aa2 j1.X_.length c3, .slice Aa5 j1.Y.length c6, .int .i64 j1.Most, .int .i64 j1.Size]) tyAgg_24 tySize_24) ?_
       refine JY.pur (hi := rfl) 1 (ba 13 3) (.int .i64 block8) (some 23) want ?_
       refine JY.pur (hi := rfl) 3 (ba 13 11) (.pointer (some ⟨b9, 1, none⟩)) (some 25) want ?_
       refine JY.take (hi := rfl) 4 (ba 13 27) (.slice Aa5 j1.Y.length c6) (some 26) [true, true, true] want (yields_load_box 0 1 (holds_box b9 24 [.slice Aa2 j1.X_.length c3, .slice Aa5 j1.Y.length c6, .int .i64 j1.Most, .int .i64 j1.Size]) tyAgg_22) ?_
       refine JY.pur (hi := rfl) 5 (ba 13 59) (.pointer (some ⟨b9, 2, none⟩)) (some 27) want ?_
       refine JY.take (hi := rfl) 6 (ba 13 123) (.int .i64 j1.Most) (some 28) [true, true, true] want (yields_load_box 0 2 (holds_box b9 24 [.slice Aa2 j1.X_.length c3, .slice Aa5 j1.Y.length c6, .int .i64 j1.Most, .int .i64 j1.Size]) tyAgg_3) ?_
       refine JY.all [2] ⟨⟨_, rfl, ?_⟩, trivial⟩
       refine JL.call [] [] [] (ref19_own.ok j1 Aa2 c3 Aa5 c6 block8 _ hc21) ⟨pre_any 1 (view_rd Aa2 c3 ((flInt .i64).kd) j1.X_ true true), ⟨pre_any 2 (view_rd Aa5 c6 ((flInt .i64).kd) j1.Y true true), trivial⟩⟩ ?_
       rintro _ _ ⟨Aa32, c33, rfl, rfl⟩
       refine JL.nil ?_
       refine JY.ran (ba 13 127) [true, true, true, false] ?_
       refine JY.all [7] ⟨⟨_, rfl, ?_⟩, trivial⟩
       refine JL.call [] [] [] (ref16_Of.ok t20 Aa32 c33 j1.Y Aa5 c6 j1.Most _ hc26) ⟨pre_view 3 (view_row Aa32 c33 3 ((flInt .i64).kd) t20 false true), ⟨pre_any 2 (view_rd Aa5 c6 ((flInt .i64).kd) j1.Y true true), trivial⟩⟩ ?_
       rintro _ _ ⟨Aa37, c38, rfl, rfl⟩
       refine JL.nil ?_
       refine JY.ran (ba 13 255) [true, true, true, false, false] ?_
       refine JY.pur (hi := rfl) 8 (ba 13 511) (.tuple #[.slice Aa37 t25.1.length c38, .int .i64 t25.2]) (some 21) want ?_
       refine JY.pur (hi := rfl) 9 (ba 13 1023) (.slice Aa37 t25.1.length c38) (some 30) want ?_
       refine JY.pur (hi := rfl) 10 (ba 13 2047) (.int .i64 t25.2) (some 31) want ?_
       refine JY.pur (hi := rfl) 11 (ba 13 4095) (.slice Aa37 t25.1.length c38) (some 6) want ?_
       refine JY.pur (hi := rfl) 12 (ba 13 8191) (.int .i64 t25.2) (some 7) want ?_
       refine JY.done ?_
       refine JQ.then_normal ?_
       refine JQ.sub [(6, .slice Aa37 t25.1.length c38)] ?_
       refine JQ.mask [At.row Aa37 c38 65 fl_Lag.kd t25.1 false] [false, false, false, false, true] ?_
       refine J.seq ?_
       refine J.region ?_
       refine JL.mv (.slice Aa37 t25.1.length c38) ?_
       refine JL.as (.slice Aa37 t25.1.length c38) ?_
       refine JL.as (.int .i64 0) ?_
       refine JL.nil ?_
       refine JQ.then_normal ?_
       refine JQ.sub [(4, .slice Aa37 t25.1.length c38), (5, .int .i64 0)] ?_
       refine J.ret ?_
       obtain rfl := Option.some.inj H0
       exact JQ.done' (rs := [.tmp 4, .tmp 5]) (vs := [.slice Aa37 t25.1.length c38, .int .i64 0]) [At.row Aa37 c38 65 fl_Lag.kd t25.1 false] (.inr rfl) ⟨by kernel_rfl, by kernel_rfl, trivial⟩ (fun _ h => Heap.to h) ⟨Aa37, c38, rfl, rfl⟩

theorem accum_New.ok (most1 : Int) (r : (Acc × Int)) (H0 : accum_New.f most1 = some r) :
    Does Try.prog 22 [.int .i64 most1].toArray [] [] false (fun v Δ => ∃ A1001 : Option Addr, ∃ c1001 : Nat, ∃ A1002 : Option Addr, ∃ c1002 : Nat, ∃ A1003 : Option Addr, ∃ c1003 : Nat, v = .tuple #[.agg #[.slice A1001 r.1.Sums.length c1001, .slice A1002 r.1.Ns.length c1002, .slice A1003 r.1.Spans.length c1003], .int .i64 r.2] ∧ Δ = [At.row A1001 c1001 74 fl_Count.kd r.1.Sums false, At.row A1002 c1002 74 fl_Count.kd r.1.Ns false, At.row A1003 c1003 79 fl_Gap.kd r.1.Spans false]) := by
 refine Does.body (vs := [.int .i64 most1]) Try.func22 rfl trivial trivial fun w S => ?_
 unfold accum_New.f at H0
 refine J.seq ?_
 refine J.region ?_
 refine JL.alloc [.slice none 0 0, .slice none 0 0, .slice none 0 0] fun b2 => ?_
 refine JL.as (.int .i64 0) ?_
 refine JL.nil ?_
 refine JQ.then_normal ?_
 refine JQ.sub [(0, .int .i64 most1), (2, .pointer (some ⟨b2, 0, none⟩))] ?_
 refine J.seq ?_
 refine J.join (T := Bool) (G := Unit) (fun t => accum_New.k1 most1 t = some r) (fun t g => [(0, .int .i64 most1), (2, .pointer (some ⟨b2, 0, none⟩)), (10, .bool t)]) (fun t g => [At.box b2 39 [.slice none 0 0, .slice none 0 0, .slice none 0 0]]) ?_ ?_
 · refine J.region ?_
   refine JL.mv (.int .i64 most1) ?_
   refine JL.pur (.bool (decide (most1 < 0))) (some 6) ?_
   refine JL.mv (.bool (decide (most1 < 0))) ?_
   rcases ite_cases H0 with ⟨h31, H0⟩ | ⟨h31, H0⟩
   · refine JL.off 2 7 false (some 8) h31 ?_
     refine JL.off 2 7 false (some 9) h31 ?_
     refine JL.val (.bool true) (some 10) (gives_pickT h31) ?_
     refine JL.nil ?_
     refine JQ.then_normal ?_
     exact JQ.meet true () H0 (fun _ h => Heap.to h)
   · refine JL.on 2 7 h31 ?_
     refine JL.mv (.int .i64 most1) ?_
     refine JL.on 2 7 h31 ?_
     refine JL.pur (.bool (decide (255 < most1))) (some 9) ?_
     refine JL.val (.bool (decide (255 < most1))) (some 10) (gives_pickF h31) ?_
     refine JL.nil ?_
     refine JQ.then_normal ?_
     exact JQ.meet (decide (255 < most1)) () H0 (fun _ h => Heap.to h)
 · clear H0
   rintro x4 ⟨⟩ H0
   replace H0 : accum_New.k1 most1 x4 = some r := H0
   unfold accum_New.k1 at H0
   refine JQ.sub [(0, .int .i64 most1), (2, .pointer (some ⟨b2, 0, none⟩)), (10, .bool x4)] ?_
   refine JQ.turn (Δ' := [At.box b2 39 [.slice none 0 0, .slice none 0 0, .slice none 0 0]]) (fun _ h => h.to) ?_
   rcases ite_cases H0 with ⟨h5, H0⟩ | ⟨h5, H0⟩
   · refine J.cond_true h5 ?_
     refine J.seq ?_
     refine J.region ?_
     refine JL.pur (.agg #[.slice none 0 0, .slice none 0 0, .slice none 0 0]) (some 11) ?_
     refine JL.store 0 b2 0 39 [.slice none 0 0, .slice none 0 0, .slice none 0 0] [.slice none 0 0, .slice none 0 0, .slice none 0 0] tySize_39 ?_
     refine JL.as (.int .i64 2) ?_
     refine JL.nil ?_
     refine JQ.then_normal ?_
     refine JQ.sub [(2, .pointer (some ⟨b2, 0, none⟩)), (3, .int .i64 2)] ?_
     refine J.ret ?_
     refine JQ.then_ret ?_
     obtain rfl := Option.some.inj H0
     exact JQ.done' (rs := [.cell 2 39, .tmp 3]) (vs := [.agg #[.slice none 0 0, .slice none 0 0, .slice none 0 0], .int .i64 2]) [At.row none 0 74 fl_Count.kd ([] : List Count) false, At.row none 0 74 fl_Count.kd ([] : List Count) false, At.row none 0 79 fl_Gap.kd ([] : List Gap) false] (.inr rfl) ⟨⟨b2, 0, _, _, by kernel_rfl, by kernel_rfl, holds_box b2 39 [.slice none 0 0, .slice none 0 0, .slice none 0 0], .inl ⟨tyAgg_39, tySize_39, rfl⟩⟩, by kernel_rfl, trivial⟩ (fun _ h => Heap.to (Heap.pick [1, 2, 3] (by decide) (Heap.addRow0 (α := Gap) 79 fl_Gap.kd false (Heap.addRow0 (α := Count) 74 fl_Count.kd false (Heap.addRow0 (α := Count) 74 fl_Count.kd false h))))) ⟨none, 0, none, 0, none, 0, rfl, rfl⟩
   · refine J.cond_false h5 ?_
     refine J.skip ?_
     refine JQ.then_normal ?_
     refine JQ.sub [(0, .int .i64 most1), (2, .pointer (some ⟨b2, 0, none⟩))] ?_
     refine J.seq ?_
     refine J.region ?_
     refine JL.mv (.int .i64 most1) ?_
     refine JL.pur (.int .i64 (w64 (2 * most1))) (some 13) ?_
     refine JL.pur (.int .i64 (w64 ((w64 (2 * most1)) + 1))) (some 14) ?_
     obtain ⟨n6, en6, H0⟩ := lt_some H0
     refine JL.as' (k := .i64) n6 en6 ?_
     refine JL.nil ?_
     refine JQ.then_normal ?_
     refine JQ.sub [(2, .pointer (some ⟨b2, 0, none⟩)), (4, .int .i64 n6)] ?_
     refine J.seq ?_
     obtain ⟨⟨h8, h9, h10⟩, H0⟩ := ite_must H0
     obtain ⟨⟨h12, h13, h14⟩, H0⟩ := ite_must H0
     refine JY.startM [false] [] (ba 7 0) ?_
     refine JY.pur (hi := rfl) 0 (ba 7 1) (.int .i64 n6) (some 15) want ?_
     refine JY.pur (hi := rfl) 2 (ba 7 5) (.int .i64 n6) (some 17) want ?_
     refine JY.all [1, 3] ⟨⟨_, rfl, ?_⟩, ⟨_, rfl, ?_⟩, trivial⟩
     · obtain ⟨h16, h17, h18⟩ : 0 ≤ n6 ∧ n6 ≤ n6 ∧ n6 ≤ 17592186044416 := ⟨h12, h13, h14⟩
       refine JL.makeSl 74 fl_Count.kd ((⟨0, 0⟩ : Count) : Count) Try.underlying36 info_74 (fun _ _ => rfl) h16 h17 (by omega) (by omega) fun b15 => ?_
       refine JL.nil ?_
       refine JY.ran (ba 7 7) [false, false] ?_
       refine JY.all [3] ⟨⟨_, rfl, ?_⟩, trivial⟩
       obtain ⟨h20, h21, h22⟩ : 0 ≤ n6 ∧ n6 ≤ n6 ∧ n6 ≤ 17592186044416 := ⟨h12, h13, h14⟩
       refine JL.makeSl 74 fl_Count.kd ((⟨0, 0⟩ : Count) : Count) Try.underlying36 info_74 (fun _ _ => rfl) h20 h21 (by omega) (by omega) fun b19 => ?_
       refine JL.nil ?_
       refine JY.ran (ba 7 15) [false, false, false] ?_
       refine JY.pur (hi := rfl) 4 (ba 7 31) (.agg #[.slice (some ⟨b15, 0, none⟩) (List.replicate n6.toNat ((⟨0, 0⟩ : Count) : Count)).length n6.toNat, .slice (some ⟨b19, 0, none⟩) (List.replicate n6.toNat ((⟨0, 0⟩ : Count) : Count)).length n6.toNat, .slice none 0 0]) (some 19) want ?_
       refine JY.all [5] ⟨⟨_, rfl, ?_⟩, trivial⟩
       refine JL.store 0 b2 0 39 [.slice none 0 0, .slice none 0 0, .slice none 0 0] [.slice (some ⟨b15, 0, none⟩) (List.replicate n6.toNat ((⟨0, 0⟩ : Count) : Count)).length n6.toNat, .slice (some ⟨b19, 0, none⟩) (List.replicate n6.toNat ((⟨0, 0⟩ : Count) : Count)).length n6.toNat, .slice none 0 0] tySize_39 ?_
       refine JL.nil ?_
       refine JY.ran (ba 7 63) [false, false, false] ?_
       refine JY.pur (hi := rfl) 6 (ba 7 127) (.int .i64 0) (some 3) want ?_
       refine JY.done ?_
       refine JQ.then_normal ?_
       refine JQ.sub [(2, .pointer (some ⟨b2, 0, none⟩)), (3, .int .i64 0)] ?_
       refine J.ret ?_
       obtain rfl := Option.some.inj H0
       exact JQ.done' (rs := [.cell 2 39, .tmp 3]) (vs := [.agg #[.slice (some ⟨b15, 0, none⟩) (List.replicate n6.toNat ((⟨0, 0⟩ : Count) : Count)).length n6.toNat, .slice (some ⟨b19, 0, none⟩) (List.replicate n6.toNat ((⟨0, 0⟩ : Count) : Count)).length n6.toNat, .slice none 0 0], .int .i64 0]) [At.row (some ⟨b15, 0, none⟩) n6.toNat 74 fl_Count.kd (List.replicate n6.toNat ((⟨0, 0⟩ : Count) : Count)) false, At.row (some ⟨b19, 0, none⟩) n6.toNat 74 fl_Count.kd (List.replicate n6.toNat ((⟨0, 0⟩ : Count) : Count)) false, At.row none 0 79 fl_Gap.kd ([] : List Gap) false] (.inr rfl) ⟨⟨b2, 0, _, _, by kernel_rfl, by kernel_rfl, holds_box b2 39 [.slice (some ⟨b15, 0, none⟩) (List.replicate n6.toNat ((⟨0, 0⟩ : Count) : Count)).length n6.toNat, .slice (some ⟨b19, 0, none⟩) (List.replicate n6.toNat ((⟨0, 0⟩ : Count) : Count)).length n6.toNat, .slice none 0 0], .inl ⟨tyAgg_39, tySize_39, rfl⟩⟩, by kernel_rfl, trivial⟩ (fun _ h => Heap.to (Heap.pick [1, 2, 3] (by decide) (Heap.addRow0 (α := Gap) 79 fl_Gap.kd false h))) ⟨(some ⟨b15, 0, none⟩), n6.toNat, (some ⟨b19, 0, none⟩), n6.toNat, none, 0, rfl, rfl⟩
     · obtain ⟨h24, h25, h26⟩ : 0 ≤ n6 ∧ n6 ≤ n6 ∧ n6 ≤ 17592186044416 := ⟨h12, h13, h14⟩
       refine JL.makeSl 74 fl_Count.kd ((⟨0, 0⟩ : Count) : Count) Try.underlying36 info_74 (fun _ _ => rfl) h24 h25 (by omega) (by omega) fun b23 => ?_
       refine JL.nil ?_
       refine JY.ran (ba 7 13) [false, false] ?_
       refine JY.all [1] ⟨⟨_, rfl, ?_⟩, trivial⟩
       obtain ⟨h28, h29, h30⟩ : 0 ≤ n6 ∧ n6 ≤ n6 ∧ n6 ≤ 17592186044416 := ⟨h12, h13, h14⟩
       refine JL.makeSl 74 fl_Count.kd ((⟨0, 0⟩ : Count) : Count) Try.underlying36 info_74 (fun _ _ => rfl) h28 h29 (by omega) (by omega) fun b27 => ?_
       refine JL.nil ?_
       refine JY.ran (ba 7 15) [false, false, false] ?_
       refine JY.pur (hi := rfl) 4 (ba 7 31) (.agg #[.slice (some ⟨b27, 0, none⟩) (List.replicate n6.toNat ((⟨0, 0⟩ : Count) : Count)).length n6.toNat, .slice (some ⟨b23, 0, none⟩) (List.replicate n6.toNat ((⟨0, 0⟩ : Count) : Count)).length n6.toNat, .slice none 0 0]) (some 19) want ?_
       refine JY.all [5] ⟨⟨_, rfl, ?_⟩, trivial⟩
       refine JL.store 0 b2 0 39 [.slice none 0 0, .slice none 0 0, .slice none 0 0] [.slice (some ⟨b27, 0, none⟩) (List.replicate n6.toNat ((⟨0, 0⟩ : Count) : Count)).length n6.toNat, .slice (some ⟨b23, 0, none⟩) (List.replicate n6.toNat ((⟨0, 0⟩ : Count) : Count)).length n6.toNat, .slice none 0 0] tySize_39 ?_
       refine JL.nil ?_
       refine JY.ran (ba 7 63) [false, false, false] ?_
       refine JY.pur (hi := rfl) 6 (ba 7 127) (.int .i64 0) (some 3) want ?_
       refine JY.done ?_
       refine JQ.then_normal ?_
       refine JQ.sub [(2, .pointer (some ⟨b2, 0, none⟩)), (3, .int .i64 0)] ?_
       refine J.ret ?_
       obtain rfl := Option.some.inj H0
       exact JQ.done' (rs := [.cell 2 39, .tmp 3]) (vs := [.agg #[.slice (some ⟨b27, 0, none⟩) (List.replicate n6.toNat ((⟨0, 0⟩ : Count) : Count)).length n6.toNat, .slice (some ⟨b23, 0, none⟩) (List.replicate n6.toNat ((⟨0, 0⟩ : Count) : Count)).length n6.toNat, .slice none 0 0], .int .i64 0]) [At.row (some ⟨b27, 0, none⟩) n6.toNat 74 fl_Count.kd (List.replicate n6.toNat ((⟨0, 0⟩ : Count) : Count)) false, At.row (some ⟨b23, 0, none⟩) n6.toNat 74 fl_Count.kd (List.replicate n6.toNat ((⟨0, 0⟩ : Count) : Count)) false, At.row none 0 79 fl_Gap.kd ([] : List Gap) false] (.inr rfl) ⟨⟨b2, 0, _, _, by kernel_rfl, by kernel_rfl, holds_box b2 39 [.slice (some ⟨b27, 0, none⟩) (List.replicate n6.toNat ((⟨0, 0⟩ : Count) : Count)).length n6.toNat, .slice (some ⟨b23, 0, none⟩) (List.replicate n6.toNat ((⟨0, 0⟩ : Count) : Count)).length n6.toNat, .slice none 0 0], .inl ⟨tyAgg_39, tySize_39, rfl⟩⟩, by kernel_rfl, trivial⟩ (fun _ h => Heap.to (Heap.pick [2, 1, 3] (by decide) (Heap.addRow0 (α := Gap) 79 fl_Gap.kd false h))) ⟨(some ⟨b27, 0, none⟩), n6.toNat, (some ⟨b23, 0, none⟩), n6.toNat, none, 0, rfl, rfl⟩

theorem math_bits_Mul64.ok (x1 : Int) (y2 : Int) (r : (Int × Int)) (H0 : math_bits_Mul64.f x1 y2 = some r) :
    Does Try.prog 36 [.int .u64 x1, .int .u64 y2].toArray [] [] false (fun v Δ => v = .tuple #[.int .u64 r.1, .int .u64 r.2] ∧ Δ = []) := by
 refine Does.body (vs := [.int .u64 x1, .int .u64 y2]) Try.func36 rfl trivial trivial fun w S => ?_
 unfold math_bits_Mul64.f at H0
 refine J.seq ?_
 refine J.region ?_
 refine JL.as (.int .u64 0) ?_
 refine JL.as (.int .u64 0) ?_
 refine JL.nil ?_
 refine JQ.then_normal ?_
 refine JQ.sub [(0, .int .u64 x1), (1, .int .u64 y2)] ?_
 refine J.seq ?_
 refine J.region ?_
 refine JL.mv (.int .u64 x1) ?_
 refine JL.pur (.int .u64 (gand .u64 x1 4294967295)) (some 15) ?_
 obtain ⟨x3, ex3, H0⟩ := lt_some H0
 refine JL.as' (k := .u64) x3 ex3 ?_
 refine JL.nil ?_
 refine JQ.then_normal ?_
 refine JQ.sub [(0, .int .u64 x1), (1, .int .u64 y2), (6, .int .u64 x3)] ?_
 refine J.seq ?_
 refine J.region ?_
 refine JL.mv (.int .u64 x1) ?_
 refine JL.pur (.int .u64 (gshr .u64 x1 32)) (some 17) ?_
 obtain ⟨x4, ex4, H0⟩ := lt_some H0
 refine JL.as' (k := .u64) x4 ex4 ?_
 refine JL.nil ?_
 refine JQ.then_normal ?_
 refine JQ.sub [(0, .int .u64 x1), (1, .int .u64 y2), (6, .int .u64 x3), (7, .int .u64 x4)] ?_
 refine J.seq ?_
 refine J.region ?_
 refine JL.mv (.int .u64 y2) ?_
 refine JL.pur (.int .u64 (gand .u64 y2 4294967295)) (some 19) ?_
 obtain ⟨y5, ey5, H0⟩ := lt_some H0
 refine JL.as' (k := .u64) y5 ey5 ?_
 refine JL.nil ?_
 refine JQ.then_normal ?_
 refine JQ.sub [(0, .int .u64 x1), (1, .int .u64 y2), (6, .int .u64 x3), (7, .int .u64 x4), (8, .int .u64 y5)] ?_
 refine J.seq ?_
 refine J.region ?_
 refine JL.mv (.int .u64 y2) ?_
 refine JL.pur (.int .u64 (gshr .u64 y2 32)) (some 21) ?_
 obtain ⟨y6, ey6, H0⟩ := lt_some H0
 refine JL.as' (k := .u64) y6 ey6 ?_
 refine JL.nil ?_
 refine JQ.then_normal ?_
 refine JQ.sub [(0, .int .u64 x1), (1, .int .u64 y2), (6, .int .u64 x3), (7, .int .u64 x4), (8, .int .u64 y5), (9, .int .u64 y6)] ?_
 refine J.seq ?_
 refine J.region ?_
 refine JL.mv (.int .u64 x3) ?_
 refine JL.mv (.int .u64 y5) ?_
 refine JL.pur (.int .u64 (wu64 (x3 * y5))) (some 24) ?_
 refine JL.as (.int .u64 (wu64 (x3 * y5))) ?_
 refine JL.nil ?_
 refine JQ.then_normal ?_
 refine JQ.sub [(0, .int .u64 x1), (1, .int .u64 y2), (6, .int .u64 x3), (7, .int .u64 x4), (8, .int .u64 y5), (9, .int .u64 y6), (10, .int .u64 (wu64 (x3 * y5)))] ?_
 refine J.seq ?_
 refine J.region ?_
 refine JL.mv (.int .u64 x4) ?_
 refine JL.mv (.int .u64 y5) ?_
 refine JL.pur (.int .u64 (wu64 (x4 * y5))) (some 27) ?_
 refine JL.mv (.int .u64 (wu64 (x3 * y5))) ?_
 refine JL.pur (.int .u64 (gshr .u64 (wu64 (x3 * y5)) 32)) (some 29) ?_
 refine JL.pur (.int .u64 (wu64 ((wu64 (x4 * y5)) + (gshr .u64 (wu64 (x3 * y5)) 32)))) (some 30) ?_
 obtain ⟨t7, et7, H0⟩ := lt_some H0
 refine JL.as' (k := .u64) t7 et7 ?_
 refine JL.nil ?_
 refine JQ.then_normal ?_
 refine JQ.sub [(0, .int .u64 x1), (1, .int .u64 y2), (6, .int .u64 x3), (7, .int .u64 x4), (9, .int .u64 y6), (11, .int .u64 t7)] ?_
 refine J.seq ?_
 refine J.region ?_
 refine JL.mv (.int .u64 t7) ?_
 refine JL.pur (.int .u64 (gand .u64 t7 4294967295)) (some 32) ?_
 obtain ⟨w8, ew8, H0⟩ := lt_some H0
 refine JL.as' (k := .u64) w8 ew8 ?_
 refine JL.nil ?_
 refine JQ.then_normal ?_
 refine JQ.sub [(0, .int .u64 x1), (1, .int .u64 y2), (6, .int .u64 x3), (7, .int .u64 x4), (9, .int .u64 y6), (11, .int .u64 t7), (12, .int .u64 w8)] ?_
 refine J.seq ?_
 refine J.region ?_
 refine JL.mv (.int .u64 t7) ?_
 refine JL.pur (.int .u64 (gshr .u64 t7 32)) (some 34) ?_
 obtain ⟨w9, ew9, H0⟩ := lt_some H0
 refine JL.as' (k := .u64) w9 ew9 ?_
 refine JL.nil ?_
 refine JQ.then_normal ?_
 refine JQ.sub [(0, .int .u64 x1), (1, .int .u64 y2), (6, .int .u64 x3), (7, .int .u64 x4), (9, .int .u64 y6), (12, .int .u64 w8), (13, .int .u64 w9)] ?_
 refine J.seq ?_
 refine J.region ?_
 refine JL.mv (.int .u64 w8) ?_
 refine JL.mv (.int .u64 x3) ?_
 refine JL.mv (.int .u64 y6) ?_
 refine JL.pur (.int .u64 (wu64 (x3 * y6))) (some 38) ?_
 refine JL.pur (.int .u64 (wu64 (w8 + (wu64 (x3 * y6))))) (some 39) ?_
 obtain ⟨w10, ew10, H0⟩ := lt_some H0
 refine JL.as' (k := .u64) w10 ew10 ?_
 refine JL.nil ?_
 refine JQ.then_normal ?_
 refine JQ.sub [(0, .int .u64 x1), (1, .int .u64 y2), (7, .int .u64 x4), (9, .int .u64 y6), (12, .int .u64 w10), (13, .int .u64 w9)] ?_
 refine J.seq ?_
 refine J.region ?_
 refine JL.mv (.int .u64 x4) ?_
 refine JL.mv (.int .u64 y6) ?_
 refine JL.pur (.int .u64 (wu64 (x4 * y6))) (some 42) ?_
 refine JL.mv (.int .u64 w9) ?_
 refine JL.pur (.int .u64 (wu64 ((wu64 (x4 * y6)) + w9))) (some 44) ?_
 refine JL.mv (.int .u64 w10) ?_
 refine JL.pur (.int .u64 (gshr .u64 w10 32)) (some 46) ?_
 refine JL.pur (.int .u64 (wu64 ((wu64 ((wu64 (x4 * y6)) + w9)) + (gshr .u64 w10 32)))) (some 47) ?_
 obtain ⟨hi11, ehi11, H0⟩ := lt_some H0
 refine JL.as' (k := .u64) hi11 ehi11 ?_
 refine JL.nil ?_
 refine JQ.then_normal ?_
 refine JQ.sub [(0, .int .u64 x1), (1, .int .u64 y2), (4, .int .u64 hi11)] ?_
 refine J.seq ?_
 refine J.region ?_
 refine JL.mv (.int .u64 x1) ?_
 refine JL.mv (.int .u64 y2) ?_
 refine JL.pur (.int .u64 (wu64 (x1 * y2))) (some 50) ?_
 refine JL.as (.int .u64 (wu64 (x1 * y2))) ?_
 refine JL.nil ?_
 refine JQ.then_normal ?_
 refine JQ.sub [(4, .int .u64 hi11), (5, .int .u64 (wu64 (x1 * y2)))] ?_
 refine J.ret ?_
 obtain rfl := Option.some.inj H0
 exact JQ.done' (rs := [.tmp 4, .tmp 5]) (vs := [.int .u64 hi11, .int .u64 (wu64 (x1 * y2))]) [] (.inr rfl) ⟨by kernel_rfl, by kernel_rfl, trivial⟩ (fun _ h => Heap.to h) ⟨rfl, rfl⟩

theorem math_bits_Mul.ok (x1 : Int) (y2 : Int) (r : (Int × Int)) (H0 : math_bits_Mul.f x1 y2 = some r) :
    Does Try.prog 30 [.int .u64 x1, .int .u64 y2].toArray [] [] false (fun v Δ => v = .tuple #[.int .u64 r.1, .int .u64 r.2] ∧ Δ = []) := by
 refine Does.body (vs := [.int .u64 x1, .int .u64 y2]) Try.func30 rfl trivial trivial fun w S => ?_
 unfold math_bits_Mul.f at H0
 refine J.seq ?_
 refine J.region ?_
 refine JL.as (.int .u64 0) ?_
 refine JL.as (.int .u64 0) ?_
 refine JL.nil ?_
 refine JQ.then_normal ?_
 refine JQ.sub [(0, .int .u64 x1), (1, .int .u64 y2)] ?_
 refine J.seq ?_
 refine J.cond_false rfl ?_
 refine J.skip ?_
 refine JQ.then_normal ?_
 refine J.seq ?_
 refine J.region ?_
 refine JL.mv (.int .u64 x1) ?_
 refine JL.mv (.int .u64 y2) ?_
 obtain ⟨t3, hc4, H0⟩ := bind_some H0
 refine JL.call [] [] [] (math_bits_Mul64.ok x1 y2 _ hc4) trivial ?_
 rintro _ _ ⟨rfl, rfl⟩
 refine JL.mv (.tuple #[.int .u64 t3.1, .int .u64 t3.2]) ?_
 refine JL.pur (.int .u64 t3.1) (some 26) ?_
 refine JL.pur (.int .u64 t3.2) (some 27) ?_
 refine JL.as (.int .u64 t3.1) ?_
 refine JL.as (.int .u64 t3.2) ?_
 refine JL.nil ?_
 refine JQ.then_normal ?_
 refine JQ.sub [(8, .int .u64 t3.1), (9, .int .u64 t3.2)] ?_
 refine J.seq ?_
 refine J.region ?_
 refine JL.mv (.int .u64 t3.1) ?_
 refine JL.mv (.int .u64 t3.2) ?_
 refine JL.as (.int .u64 t3.1) ?_
 refine JL.as (.int .u64 t3.2) ?_
 refine JL.nil ?_
 refine JQ.then_normal ?_
 refine JQ.sub [(4, .int .u64 t3.1), (5, .int .u64 t3.2)] ?_
 refine J.ret ?_
 obtain rfl := Option.some.inj H0
 exact JQ.done' (rs := [.tmp 4, .tmp 5]) (vs := [.int .u64 t3.1, .int .u64 t3.2]) [] (.inr rfl) ⟨by kernel_rfl, by kernel_rfl, trivial⟩ (fun _ h => Heap.to h) ⟨rfl, rfl⟩

theorem slices_Repeat__int_int.ok (x1 : (List Int)) (Aa2 : Option Addr) (c3 : Nat) (count5 : Int) (r : (List Int)) (H0 : slices_Repeat__int_int.f x1 count5 = some r) :
    Does Try.prog 23 [.slice Aa2 x1.length c3, .int .i64 count5].toArray [At.rd Aa2 c3 ((flInt .i64).kd) x1 true] [] false (fun v Δ => ∃ A1001 : Option Addr, ∃ c1001 : Nat, v = .slice A1001 r.length c1001 ∧ Δ = [At.row A1001 c1001 3 ((flInt .i64).kd) r false]) := by
 refine Does.body (vs := [.slice Aa2 x1.length c3, .int .i64 count5]) Try.func23 rfl ⟨.inl rfl, trivial⟩ trivial fun w S => ?_
 unfold slices_Repeat__int_int.f at H0
 refine J.seq ?_
 refine J.region ?_
 refine JL.as (.slice none 0 0) ?_
 refine JL.nil ?_
 refine JQ.then_normal ?_
 refine JQ.sub [(0, .slice Aa2 x1.length c3), (1, .int .i64 count5)] ?_
 refine J.seq ?_
 refine J.seq ?_
 refine J.region ?_
 refine JL.mv (.int .i64 count5) ?_
 refine JL.pur (.bool (decide (count5 < 0))) (some 10) ?_
 refine JL.nil ?_
 refine JQ.then_normal ?_
 refine JQ.sub [(0, .slice Aa2 x1.length c3), (1, .int .i64 count5), (10, .bool (decide (count5 < 0)))] ?_
 rcases ite_cases H0 with ⟨h7, H0⟩ | ⟨h7, H0⟩
 · refine J.cond_true h7 ?_
   refine J.region ?_
   cases H0
 · refine J.cond_false h7 ?_
   refine J.skip ?_
   refine JQ.then_normal ?_
   refine JQ.sub [(0, .slice Aa2 x1.length c3), (1, .int .i64 count5)] ?_
   refine J.seq ?_
   refine J.region ?_
   refine JL.mv (.slice Aa2 x1.length c3) ?_
   refine JL.pur (.int .i64 (x1.length : Int)) (some 14) ?_
   refine JL.pur (.int .u64 (wu64 (x1.length : Int))) (some 15) ?_
   refine JL.mv (.int .i64 count5) ?_
   refine JL.pur (.int .u64 (wu64 count5)) (some 17) ?_
   obtain ⟨t8, hc9, H0⟩ := bind_some H0
   refine JL.call [] [] [] (math_bits_Mul.ok (wu64 (x1.length : Int)) (wu64 count5) _ hc9) trivial ?_
   rintro _ _ ⟨rfl, rfl⟩
   refine JL.mv (.tuple #[.int .u64 t8.1, .int .u64 t8.2]) ?_
   refine JL.pur (.int .u64 t8.1) (some 19) ?_
   refine JL.pur (.int .u64 t8.2) (some 20) ?_
   refine JL.as (.int .u64 t8.1) ?_
   refine JL.as (.int .u64 t8.2) ?_
   refine JL.nil ?_
   refine JQ.then_normal ?_
   refine JQ.sub [(0, .slice Aa2 x1.length c3), (5, .int .u64 t8.1), (6, .int .u64 t8.2)] ?_
   refine J.seq ?_
   refine J.join (T := Bool) (G := Unit) (fun t => slices_Repeat__int_int.k2 x1 t8 t = some r) (fun t g => [(0, .slice Aa2 x1.length c3), (6, .int .u64 t8.2), (26, .bool t)]) (fun t g => [At.rd Aa2 c3 ((flInt .i64).kd) x1 true]) ?_ ?_
   · refine J.region ?_
     refine JL.mv (.int .u64 t8.1) ?_
     refine JL.pur (.bool (decide (0 < t8.1))) (some 22) ?_
     refine JL.mv (.bool (decide (0 < t8.1))) ?_
     rcases ite_cases H0 with ⟨h110, H0⟩ | ⟨h110, H0⟩
     · refine JL.off 2 23 false (some 24) h110 ?_
       refine JL.off 2 23 false (some 25) h110 ?_
       refine JL.val (.bool true) (some 26) (gives_pickT h110) ?_
       refine JL.nil ?_
       refine JQ.then_normal ?_
       exact JQ.meet true () H0 (fun _ h => Heap.to h)
     · refine JL.on 2 23 h110 ?_
       refine JL.mv (.int .u64 t8.2) ?_
       refine JL.on 2 23 h110 ?_
       refine JL.pur (.bool (decide (9223372036854775807 < t8.2))) (some 25) ?_
       refine JL.val (.bool (decide (9223372036854775807 < t8.2))) (some 26) (gives_pickF h110) ?_
       refine JL.nil ?_
       refine JQ.then_normal ?_
       exact JQ.meet (decide (9223372036854775807 < t8.2)) () H0 (fun _ h => Heap.to h)
   · clear H0
     rintro x15 ⟨⟩ H0
     replace H0 : slices_Repeat__int_int.k2 x1 t8 x15 = some r := H0
     unfold slices_Repeat__int_int.k2 at H0
     refine JQ.sub [(0, .slice Aa2 x1.length c3), (6, .int .u64 t8.2), (26, .bool x15)] ?_
     refine JQ.turn (Δ' := [At.rd Aa2 c3 ((flInt .i64).kd) x1 true]) (fun _ h => h.to) ?_
     rcases ite_cases H0 with ⟨h16, H0⟩ | ⟨h16, H0⟩
     · refine J.cond_true h16 ?_
       refine J.region ?_
       cases H0
     · refine J.cond_false h16 ?_
       refine J.skip ?_
       refine JQ.then_normal ?_
       refine JQ.sub [(0, .slice Aa2 x1.length c3), (6, .int .u64 t8.2)] ?_
       refine J.seq ?_
       refine J.region ?_
       refine JL.mv (.int .u64 t8.2) ?_
       refine JL.pur (.int .i64 (w64 t8.2)) (some 29) ?_
       obtain ⟨⟨h18, h19, h20⟩, H0⟩ := ite_must H0
       refine JL.makeSl 3 ((flInt .i64).kd) (0 : Int) Try.underlying22 info_3 (fun _ _ => rfl) h18 h19 (by omega) (by omega) fun b17 => ?_
       refine JL.as (.slice (some ⟨b17, 0, none⟩) (List.replicate (w64 t8.2).toNat (0 : Int)).length ((w64 t8.2).toNat)) ?_
       refine JL.nil ?_
       refine JQ.then_normal ?_
       refine JQ.sub [(0, .slice Aa2 x1.length c3), (7, .slice (some ⟨b17, 0, none⟩) (List.replicate (w64 t8.2).toNat (0 : Int)).length ((w64 t8.2).toNat))] ?_
       refine J.seq ?_
       refine J.region ?_
       refine JL.mv (.slice (some ⟨b17, 0, none⟩) (List.replicate (w64 t8.2).toNat (0 : Int)).length ((w64 t8.2).toNat)) ?_
       refine JL.mv (.slice Aa2 x1.length c3) ?_
       refine JL.copy (some ⟨b17, 0, none⟩) (f := (flInt .i64)) (xs := (List.replicate (w64 t8.2).toNat (0 : Int))) (ys := x1) (sh := false) (E := 3) 1 0 0 (List.replicate (w64 t8.2).toNat (0 : Int)).length (List.replicate (w64 t8.2).toNat (0 : Int)).length ((w64 t8.2).toNat) ((w64 t8.2).toNat) c3 (elems_rd Aa2 c3 ((flInt .i64).kd) x1 true) (.inl (win0 _ _)) (by omega) (by omega) rfl Try.underlying22 tySize_3 ?_
       obtain ⟨l21, el21, H0⟩ := lt_some H0
       have nl21 : l21.length = (List.replicate (w64 t8.2).toNat (0 : Int)).length := by rw [← el21]; exact length_cpy _ _ _ _ (by omega)
       rw [el21]
       refine JQ.len (fun n : Nat => [(0, .slice Aa2 x1.length c3), (7, .slice (some ⟨b17, 0, none⟩) n ((w64 t8.2).toNat)), (31, .slice (some ⟨b17, 0, none⟩) n ((w64 t8.2).toNat)), (32, .slice Aa2 x1.length c3), (33, .int .i64 ((min x1.length ((List.replicate (w64 t8.2).toNat (0 : Int)).length - 0) : Nat) : Int))]) nl21.symm ?_
       refine JQ.sub [(0, .slice Aa2 x1.length c3), (7, .slice (some ⟨b17, 0, none⟩) l21.length ((w64 t8.2).toNat)), (31, .slice (some ⟨b17, 0, none⟩) l21.length ((w64 t8.2).toNat)), (32, .slice Aa2 x1.length c3), (33, .int .i64 ((min x1.length ((List.replicate (w64 t8.2).toNat (0 : Int)).length - 0) : Nat) : Int))] ?_
       obtain ⟨n22, en22, H0⟩ := lt_some H0
       refine JL.as' (k := .i64) n22 en22 ?_
       refine JL.nil ?_
       refine JQ.then_normal ?_
       refine JQ.sub [(7, .slice (some ⟨b17, 0, none⟩) l21.length ((w64 t8.2).toNat)), (8, .int .i64 n22)] ?_
       refine JQ.mask [At.row (some ⟨b17, 0, none⟩) ((w64 t8.2).toNat) 3 ((flInt .i64).kd) l21 false] [false, true] ?_
       refine J.seq ?_
       obtain ⟨o1, hit, H0⟩ := bind_some H0
       refine J.loop (σ := ((List Int) × Int)) (τ := List Int) (G := ((Option Addr) × Nat)) (G' := ((Option Addr) × Nat)) _ o1 (fun s g => [(7, .slice g.1 s.1.length g.2), (8, .int .i64 s.2)]) (fun s g => [At.row g.1 g.2 3 ((flInt .i64).kd) s.1 false]) (fun t => slices_Repeat__int_int.k4 t = some r) (fun t g => [(7, .slice g.1 t.length g.2)]) (fun t g => [At.row g.1 g.2 3 ((flInt .i64).kd) t false]) (l21, n22) ((some ⟨b17, 0, none⟩), (w64 t8.2).toNat) hit (fun _ h => Heap.to h) ?_ ?_
       · clear hit
         rintro ⟨newslice67, n71⟩ ⟨Aa68, c69⟩ st1 H1 hb1 hr1
         replace H1 : slices_Repeat__int_int.s3 newslice67 n71 = some st1 := H1
         unfold slices_Repeat__int_int.s3 at H1
         refine JQ.sub [(7, .slice Aa68 newslice67.length c69), (8, .int .i64 n71)] ?_
         refine JQ.turn (Δ' := [At.row Aa68 c69 3 ((flInt .i64).kd) newslice67 false]) (fun _ h => h.to) ?_
         refine J.seq ?_
         refine J.seq ?_
         refine J.region ?_
         refine JL.mv (.int .i64 n71) ?_
         refine JL.mv (.slice Aa68 newslice67.length c69) ?_
         refine JL.pur (.int .i64 (newslice67.length : Int)) (some 36) ?_
         refine JL.pur (.bool (decide (n71 < (newslice67.length : Int)))) (some 37) ?_
         refine JL.nil ?_
         refine JQ.then_normal ?_
         refine JQ.sub [(7, .slice Aa68 newslice67.length c69), (8, .int .i64 n71), (37, .bool (decide (n71 < (newslice67.length : Int))))] ?_
         rcases ite_cases H1 with ⟨h93, H1⟩ | ⟨h93, H1⟩
         · refine J.cond_true h93 ?_
           refine J.skip ?_
           refine JQ.then_normal ?_
           refine JQ.sub [(7, .slice Aa68 newslice67.length c69), (8, .int .i64 n71)] ?_
           refine J.block ?_
           obtain ⟨⟨h95, h96⟩, H1⟩ := ite_must H1
           obtain ⟨⟨h99, h100⟩, H1⟩ := ite_must H1
           obtain ⟨l102, el102, H1⟩ := lt_some H1
           refine JQ.capLe' 0 (caple_row Aa68 c69 3 ((flInt .i64).kd) newslice67 false) fun h101 => ?_
           refine JY.startM [false] [] (ba 10 0) ?_
           refine JY.pur (hi := rfl) 0 (ba 10 1) (.int .i64 n71) (some 38) want ?_
           refine JY.pur (hi := rfl) 1 (ba 10 3) (.slice Aa68 newslice67.length c69) (some 39) want ?_
           refine JY.pur (hi := rfl) 2 (ba 10 7) (.int .i64 n71) (some 40) want ?_
           obtain ⟨h104, h105⟩ : 0 ≤ n71 ∧ n71 ≤ (newslice67.length : Int) := ⟨h99, h100⟩
           refine JY.puw (hi := rfl) 3 (ba 10 15) (.slice (if c69 = n71.toNat then Aa68 else Option.map (fun q => Addr.add q (n71.toNat * 1)) Aa68) ((newslice67.take newslice67.length).drop n71.toNat).length (c69 - n71.toNat)) (some 41) want (givesW_cutWin n71.toNat newslice67.length c69 Aa68 c69 newslice67.length 1 Try.underlying22 tySize_3 (.inl ⟨rfl, rfl⟩) (.inl ⟨rfl, rfl⟩) (.inr ⟨.i64, n71, by kernel_rfl, h104, rfl⟩) (.inl rfl) (by omega) (by omega) (by omega) ((newslice67.take newslice67.length).drop n71.toNat).length (win_len (by omega))) ?_
           refine JY.pur (hi := rfl) 4 (ba 10 31) (.slice Aa68 newslice67.length c69) (some 42) want ?_
           refine JY.pur (hi := rfl) 5 (ba 10 63) (.int .i64 n71) (some 43) want ?_
           obtain ⟨h107, h108⟩ : 0 ≤ n71 ∧ n71 ≤ (newslice67.length : Int) := ⟨h99, h100⟩
           refine JY.puw (hi := rfl) 6 (ba 10 127) (.slice (if c69 = 0 then Aa68 else Option.map (fun q => Addr.add q (0 * 1)) Aa68) ((newslice67.take n71.toNat).drop 0).length (c69 - 0)) (some 44) want (givesW_cutWin 0 n71.toNat c69 Aa68 c69 newslice67.length 1 Try.underlying22 tySize_3 (.inl ⟨rfl, rfl⟩) (.inr ⟨.i64, n71, by kernel_rfl, h107, rfl⟩) (.inl ⟨rfl, rfl⟩) (.inl rfl) (by omega) (by omega) (by omega) ((newslice67.take n71.toNat).drop 0).length (win_len (by omega))) ?_
           refine JY.all [7] ⟨⟨_, rfl, ?_⟩, trivial⟩
           refine JL.copy Aa68 (f := (flInt .i64)) (xs := newslice67) (ys := ((newslice67.take n71.toNat).drop 0)) (sh := false) (E := 3) 0 0 n71.toNat newslice67.length ((newslice67.take newslice67.length).drop n71.toNat).length c69 (c69 - n71.toNat) (c69 - 0) (elems_win 0 n71.toNat (elems_row Aa68 c69 3 ((flInt .i64).kd) newslice67 false) (by omega) (cutWin_or (A := Aa68) (xs := newslice67) (l := 0) (h := n71.toNat) (m := c69) (sz := 1) (by omega) (by omega) (by omega))) (win_or (cutWin_or (A := Aa68) (xs := newslice67) (l := n71.toNat) (h := newslice67.length) (m := c69) (sz := 1) (by omega) (by omega) (by omega)) (by omega)) (by omega) (by omega) (win_len (by omega)) Try.underlying22 tySize_3 ?_
           have nl102 : l102.length = newslice67.length := by rw [← el102]; exact length_cpy _ _ _ _ (by omega)
           rw [el102]
           refine JQ.len (fun n : Nat => [(7, .slice Aa68 n c69), (8, .int .i64 n71), (38, .int .i64 n71), (39, .slice Aa68 n c69), (40, .int .i64 n71), (42, .slice Aa68 n c69), (43, .int .i64 n71), (45, .int .i64 ((min ((newslice67.take n71.toNat).drop 0).length (newslice67.length - n71.toNat) : Nat) : Int))]) nl102.symm ?_
           refine JQ.sub [(7, .slice Aa68 l102.length c69), (8, .int .i64 n71), (38, .int .i64 n71), (39, .slice Aa68 l102.length c69), (40, .int .i64 n71), (42, .slice Aa68 l102.length c69), (43, .int .i64 n71), (45, .int .i64 ((min ((newslice67.take n71.toNat).drop 0).length (newslice67.length - n71.toNat) : Nat) : Int))] ?_
           refine JL.nil ?_
           refine JY.ran (ba 10 255) [false] ?_
           refine JY.pur (hi := rfl) 8 (ba 10 511) (.int .i64 (w64 (n71 + ((min ((newslice67.take n71.toNat).drop 0).length (newslice67.length - n71.toNat) : Nat) : Int)))) (some 46) want ?_
           refine JY.pur (hi := rfl) 9 (ba 10 1023) (.int .i64 (w64 (n71 + ((min ((newslice67.take n71.toNat).drop 0).length (newslice67.length - n71.toNat) : Nat) : Int)))) (some 8) want ?_
           refine JY.done ?_
           refine JQ.blk_normal ?_
           refine JQ.then_normal ?_
           exact JQ.again (l102, w64 (n71 + ((min ((newslice67.take n71.toNat).drop 0).length (newslice67.length - n71.toNat) : Nat) : Int))) (Aa68, c69) (Option.some.inj H1).symm (fun _ h => Heap.to h)
         · refine J.cond_false h93 ?_
           refine J.exit ?_
           refine JQ.then_exit ?_
           refine JQ.then_exit ?_
           refine JQ.blk_exit ?_
           rw [hb1 _ (Option.some.inj H1).symm, fin_brk] at H0
           exact JQ.met newslice67 (Aa68, c69) H0 (fun _ h => Heap.to h)
       · clear hit H0
         rintro newslice89 ⟨Aa90, c91⟩ H0
         replace H0 : slices_Repeat__int_int.k4 newslice89 = some r := H0
         unfold slices_Repeat__int_int.k4 at H0
         refine JQ.sub [(7, .slice Aa90 newslice89.length c91)] ?_
         refine JQ.turn (Δ' := [At.row Aa90 c91 3 ((flInt .i64).kd) newslice89 false]) (fun _ h => h.to) ?_
         refine JQ.then_normal ?_
         refine J.seq ?_
         refine J.region ?_
         refine JL.mv (.slice Aa90 newslice89.length c91) ?_
         refine JL.as (.slice Aa90 newslice89.length c91) ?_
         refine JL.nil ?_
         refine JQ.then_normal ?_
         refine JQ.sub [(4, .slice Aa90 newslice89.length c91)] ?_
         refine J.ret ?_
         obtain rfl := Option.some.inj H0
         exact JQ.done' (rs := [.tmp 4]) (vs := [.slice Aa90 newslice89.length c91]) [At.row Aa90 c91 3 ((flInt .i64).kd) newslice89 false] (.inr rfl) ⟨by kernel_rfl, trivial⟩ (fun _ h => Heap.to h) ⟨Aa90, c91, rfl, rfl⟩


end Go.Proofs.Ytafploedondfpaa.M
