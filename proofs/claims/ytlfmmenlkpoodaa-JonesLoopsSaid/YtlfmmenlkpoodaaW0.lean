import Derived.Test.YtlfmmenlkpoodaaX
import Derived.Test.YtlfmmenlkpoodaaProg
import Derived.Test.YtlfmmenlkpoodaaM0
set_option linter.unusedVariables false
set_option linter.unusedSimpArgs false
set_option maxRecDepth 100000
set_option maxHeartbeats 8000000
namespace Go.Proofs.Ytlfmmenlkpoodaa.M
open Go.GW Go.Proofs

def zv_57 : Pol := (⟨0, 0, (⟨(⟨0, 0, 0⟩ : Cx), (⟨0, 0, 0⟩ : Cx), (⟨0, 0, 0⟩ : Cx), (⟨0, 0, 0⟩ : Cx)⟩ : (A4 Cx)), 0⟩ : Pol)
def zv_25 : (A4 Cx) := (⟨(⟨0, 0, 0⟩ : Cx), (⟨0, 0, 0⟩ : Cx), (⟨0, 0, 0⟩ : Cx), (⟨0, 0, 0⟩ : Cx)⟩ : (A4 Cx))
def zv_23 : Cx := (⟨0, 0, 0⟩ : Cx)
def mv_77 (x : (A2 Int)) : Value := .agg #[.int .i64 x.e0, .int .i64 x.e1]
def cl_77 (x : (A2 Int)) : List Value := [.int .i64 x.e0, .int .i64 x.e1]
def mv_57 (x : Pol) : Value := .agg #[.int .i64 x.I, .int .i64 x.J, .int .i64 x.V.e0.Re, .int .i64 x.V.e0.Im, .int .i64 x.V.e0.Den, .int .i64 x.V.e1.Re, .int .i64 x.V.e1.Im, .int .i64 x.V.e1.Den, .int .i64 x.V.e2.Re, .int .i64 x.V.e2.Im, .int .i64 x.V.e2.Den, .int .i64 x.V.e3.Re, .int .i64 x.V.e3.Im, .int .i64 x.V.e3.Den, .int .i64 x.N]
def cl_57 (x : Pol) : List Value := [.int .i64 x.I, .int .i64 x.J, .int .i64 x.V.e0.Re, .int .i64 x.V.e0.Im, .int .i64 x.V.e0.Den, .int .i64 x.V.e1.Re, .int .i64 x.V.e1.Im, .int .i64 x.V.e1.Den, .int .i64 x.V.e2.Re, .int .i64 x.V.e2.Im, .int .i64 x.V.e2.Den, .int .i64 x.V.e3.Re, .int .i64 x.V.e3.Im, .int .i64 x.V.e3.Den, .int .i64 x.N]
def mv_25 (x : (A4 Cx)) : Value := .agg #[.int .i64 x.e0.Re, .int .i64 x.e0.Im, .int .i64 x.e0.Den, .int .i64 x.e1.Re, .int .i64 x.e1.Im, .int .i64 x.e1.Den, .int .i64 x.e2.Re, .int .i64 x.e2.Im, .int .i64 x.e2.Den, .int .i64 x.e3.Re, .int .i64 x.e3.Im, .int .i64 x.e3.Den]
def cl_25 (x : (A4 Cx)) : List Value := [.int .i64 x.e0.Re, .int .i64 x.e0.Im, .int .i64 x.e0.Den, .int .i64 x.e1.Re, .int .i64 x.e1.Im, .int .i64 x.e1.Den, .int .i64 x.e2.Re, .int .i64 x.e2.Im, .int .i64 x.e2.Den, .int .i64 x.e3.Re, .int .i64 x.e3.Im, .int .i64 x.e3.Den]
def mv_23 (x : Cx) : Value := .agg #[.int .i64 x.Re, .int .i64 x.Im, .int .i64 x.Den]
def cl_23 (x : Cx) : List Value := [.int .i64 x.Re, .int .i64 x.Im, .int .i64 x.Den]
theorem eqg_23 : Try.prog.eqGuardType Try.prog.depth 23 = false := by kernel_rfl
theorem eqd_23 (d : Nat) (x y : Cx) (w : World) : (Op.equalIn (d + 2) 23 (.agg #[.int .i64 x.Re, .int .i64 x.Im, .int .i64 x.Den]) (.agg #[.int .i64 y.Re, .int .i64 y.Im, .int .i64 y.Den])).run Try.prog w = .ok (decide (x = y)) w := by
  have h : decide (x = y) = (decide (x.Re = y.Re) && (decide (x.Im = y.Im) && (decide (x.Den = y.Den) && true))) := by cases x; cases y; simp
  rw [h]
  exact eqs_of Try.underlying23 (eqf_cons (eq_int d 2 .i64 x.Re y.Re w Try.underlying2) (eqf_cons (eq_int d 2 .i64 x.Im y.Im w Try.underlying2) (eqf_cons (eq_int d 2 .i64 x.Den y.Den w Try.underlying2) eqf_nil)))
theorem eqt_23 (x y : Cx) (w : World) : (Op.equal 23 (.agg #[.int .i64 x.Re, .int .i64 x.Im, .int .i64 x.Den]) (.agg #[.int .i64 y.Re, .int .i64 y.Im, .int .i64 y.Den])).run Try.prog w = .ok (decide (x = y)) w := eqd_23 9998 x y w
theorem eqg_25 : Try.prog.eqGuardType Try.prog.depth 25 = false := by kernel_rfl
theorem tySize_eq_23 : tySize Try.prog 23 = some 3 := by kernel_rfl
theorem eqd_25 (d : Nat) (x y : (A4 Cx)) (w : World) : (Op.equalIn (d + 3) 25 (.agg #[.int .i64 x.e0.Re, .int .i64 x.e0.Im, .int .i64 x.e0.Den, .int .i64 x.e1.Re, .int .i64 x.e1.Im, .int .i64 x.e1.Den, .int .i64 x.e2.Re, .int .i64 x.e2.Im, .int .i64 x.e2.Den, .int .i64 x.e3.Re, .int .i64 x.e3.Im, .int .i64 x.e3.Den]) (.agg #[.int .i64 y.e0.Re, .int .i64 y.e0.Im, .int .i64 y.e0.Den, .int .i64 y.e1.Re, .int .i64 y.e1.Im, .int .i64 y.e1.Den, .int .i64 y.e2.Re, .int .i64 y.e2.Im, .int .i64 y.e2.Den, .int .i64 y.e3.Re, .int .i64 y.e3.Im, .int .i64 y.e3.Den])).run Try.prog w = .ok (decide (x = y)) w := by
  have h : decide (x = y) = (decide (x.e0 = y.e0) && (decide (x.e1 = y.e1) && (decide (x.e2 = y.e2) && (decide (x.e3 = y.e3) && true)))) := by cases x; cases y; simp
  rw [h]
  exact eqa_of Try.underlying25 (tySize_eq_23) (eqi_cons (eqd_23 d x.e0 y.e0 w) (eqi_cons (eqd_23 d x.e1 y.e1 w) (eqi_cons (eqd_23 d x.e2 y.e2 w) (eqi_cons (eqd_23 d x.e3 y.e3 w) eqi_nil))))
theorem eqt_25 (x y : (A4 Cx)) (w : World) : (Op.equal 25 (.agg #[.int .i64 x.e0.Re, .int .i64 x.e0.Im, .int .i64 x.e0.Den, .int .i64 x.e1.Re, .int .i64 x.e1.Im, .int .i64 x.e1.Den, .int .i64 x.e2.Re, .int .i64 x.e2.Im, .int .i64 x.e2.Den, .int .i64 x.e3.Re, .int .i64 x.e3.Im, .int .i64 x.e3.Den]) (.agg #[.int .i64 y.e0.Re, .int .i64 y.e0.Im, .int .i64 y.e0.Den, .int .i64 y.e1.Re, .int .i64 y.e1.Im, .int .i64 y.e1.Den, .int .i64 y.e2.Re, .int .i64 y.e2.Im, .int .i64 y.e2.Den, .int .i64 y.e3.Re, .int .i64 y.e3.Im, .int .i64 y.e3.Den])).run Try.prog w = .ok (decide (x = y)) w := eqd_25 9997 x y w
theorem eqg_57 : Try.prog.eqGuardType Try.prog.depth 57 = false := by kernel_rfl
theorem eqd_57 (d : Nat) (x y : Pol) (w : World) : (Op.equalIn (d + 4) 57 (.agg #[.int .i64 x.I, .int .i64 x.J, .int .i64 x.V.e0.Re, .int .i64 x.V.e0.Im, .int .i64 x.V.e0.Den, .int .i64 x.V.e1.Re, .int .i64 x.V.e1.Im, .int .i64 x.V.e1.Den, .int .i64 x.V.e2.Re, .int .i64 x.V.e2.Im, .int .i64 x.V.e2.Den, .int .i64 x.V.e3.Re, .int .i64 x.V.e3.Im, .int .i64 x.V.e3.Den, .int .i64 x.N]) (.agg #[.int .i64 y.I, .int .i64 y.J, .int .i64 y.V.e0.Re, .int .i64 y.V.e0.Im, .int .i64 y.V.e0.Den, .int .i64 y.V.e1.Re, .int .i64 y.V.e1.Im, .int .i64 y.V.e1.Den, .int .i64 y.V.e2.Re, .int .i64 y.V.e2.Im, .int .i64 y.V.e2.Den, .int .i64 y.V.e3.Re, .int .i64 y.V.e3.Im, .int .i64 y.V.e3.Den, .int .i64 y.N])).run Try.prog w = .ok (decide (x = y)) w := by
  have h : decide (x = y) = (decide (x.I = y.I) && (decide (x.J = y.J) && (decide (x.V = y.V) && (decide (x.N = y.N) && true)))) := by cases x; cases y; simp
  rw [h]
  exact eqs_of Try.underlying57 (eqf_cons (eq_int (d + 2) 3 .i64 x.I y.I w Try.underlying3) (eqf_cons (eq_int (d + 2) 3 .i64 x.J y.J w Try.underlying3) (eqf_cons (eqd_25 d x.V y.V w) (eqf_cons (eq_int (d + 2) 3 .i64 x.N y.N w Try.underlying3) eqf_nil))))
theorem eqt_57 (x y : Pol) (w : World) : (Op.equal 57 (.agg #[.int .i64 x.I, .int .i64 x.J, .int .i64 x.V.e0.Re, .int .i64 x.V.e0.Im, .int .i64 x.V.e0.Den, .int .i64 x.V.e1.Re, .int .i64 x.V.e1.Im, .int .i64 x.V.e1.Den, .int .i64 x.V.e2.Re, .int .i64 x.V.e2.Im, .int .i64 x.V.e2.Den, .int .i64 x.V.e3.Re, .int .i64 x.V.e3.Im, .int .i64 x.V.e3.Den, .int .i64 x.N]) (.agg #[.int .i64 y.I, .int .i64 y.J, .int .i64 y.V.e0.Re, .int .i64 y.V.e0.Im, .int .i64 y.V.e0.Den, .int .i64 y.V.e1.Re, .int .i64 y.V.e1.Im, .int .i64 y.V.e1.Den, .int .i64 y.V.e2.Re, .int .i64 y.V.e2.Im, .int .i64 y.V.e2.Den, .int .i64 y.V.e3.Re, .int .i64 y.V.e3.Im, .int .i64 y.V.e3.Den, .int .i64 y.N])).run Try.prog w = .ok (decide (x = y)) w := eqd_57 9996 x y w
theorem eqg_77 : Try.prog.eqGuardType Try.prog.depth 77 = false := by kernel_rfl
theorem tySize_eq_3 : tySize Try.prog 3 = some 1 := by kernel_rfl
theorem eqd_77 (d : Nat) (x y : (A2 Int)) (w : World) : (Op.equalIn (d + 2) 77 (.agg #[.int .i64 x.e0, .int .i64 x.e1]) (.agg #[.int .i64 y.e0, .int .i64 y.e1])).run Try.prog w = .ok (decide (x = y)) w := by
  have h : decide (x = y) = (decide (x.e0 = y.e0) && (decide (x.e1 = y.e1) && true)) := by cases x; cases y; simp
  rw [h]
  exact eqa_of Try.underlying77 (tySize_eq_3) (eqi_cons (eq_int d 3 .i64 x.e0 y.e0 w Try.underlying3) (eqi_cons (eq_int d 3 .i64 x.e1 y.e1 w Try.underlying3) eqi_nil))
theorem eqt_77 (x y : (A2 Int)) (w : World) : (Op.equal 77 (.agg #[.int .i64 x.e0, .int .i64 x.e1]) (.agg #[.int .i64 y.e0, .int .i64 y.e1])).run Try.prog w = .ok (decide (x = y)) w := eqd_77 9998 x y w
theorem info_57 : (Try.prog.info? 57).map (fun i => (i.zero, i.size, i.bytes)) = some (some (.agg #[.int .i64 0, .int .i64 0, .int .i64 0, .int .i64 0, .int .i64 0, .int .i64 0, .int .i64 0, .int .i64 0, .int .i64 0, .int .i64 0, .int .i64 0, .int .i64 0, .int .i64 0, .int .i64 0, .int .i64 0]), 15, 120) := by kernel_rfl
theorem mz_25 (w : World) : (zeroValue 25).run Try.prog w = .ok (mv_25 (⟨(⟨0, 0, 0⟩ : Cx), (⟨0, 0, 0⟩ : Cx), (⟨0, 0, 0⟩ : Cx), (⟨0, 0, 0⟩ : Cx)⟩ : (A4 Cx))) w := by kernel_rfl
theorem tyAgg_2 : tyAgg Try.prog 2 = some false := by kernel_rfl
theorem tyAgg_3 : tyAgg Try.prog 3 = some false := by kernel_rfl
theorem tyAgg_23 : tyAgg Try.prog 23 = some true := by kernel_rfl
theorem tyAgg_25 : tyAgg Try.prog 25 = some true := by kernel_rfl
theorem tyAgg_26 : tyAgg Try.prog 26 = some false := by kernel_rfl
theorem tyAgg_57 : tyAgg Try.prog 57 = some true := by kernel_rfl
theorem tySize_2 : tySize Try.prog 2 = some 1 := by kernel_rfl
theorem tySize_3 : tySize Try.prog 3 = some 1 := by kernel_rfl
theorem tySize_23 : tySize Try.prog 23 = some 3 := by kernel_rfl
theorem tySize_25 : tySize Try.prog 25 = some 12 := by kernel_rfl
theorem tySize_26 : tySize Try.prog 26 = some 1 := by kernel_rfl
theorem tySize_57 : tySize Try.prog 57 = some 15 := by kernel_rfl
theorem mk_77 : KeyOk Try.prog 77 mv_77 := ⟨fun b x w => by kernel_rfl, fun x y w => eqt_77 x y w, ⟨_, Try.underlying77, .inl fun _ _ => rfl⟩, fun x => by simp [mv_77, Instr.sameBits]⟩
theorem law33_of.ok (re1 : Int) (im2 : Int) (den3 : Int) (r : Cx) (H0 : law33_of.f re1 im2 den3 = some r) :
    Does Try.prog 48 [.int .i64 re1, .int .i64 im2, .int .i64 den3].toArray [] [] false (fun v Δ => v = mv_23 r ∧ Δ = []) := by
 refine Does.body (vs := [.int .i64 re1, .int .i64 im2, .int .i64 den3]) Try.func48 rfl trivial trivial fun w S => ?_
 unfold law33_of.f at H0
 refine J.seq ?_
 refine J.region ?_
 refine JL.alloc (cl_23 zv_23) fun b4 => ?_
 refine JL.nil ?_
 refine JQ.then_normal ?_
 refine J.seq ?_
 refine J.region ?_
 refine JL.mv (.int .i64 re1) ?_
 refine JL.mv (.int .i64 im2) ?_
 refine JL.mv (.int .i64 den3) ?_
 refine JL.pur (.agg #[.int .i64 re1, .int .i64 im2, .int .i64 den3]) (some 10) ?_
 refine JL.store 0 b4 0 23 (cl_23 zv_23) [.int .i64 re1, .int .i64 im2, .int .i64 den3] tySize_23 ?_
 refine JL.nil ?_
 refine JQ.then_normal ?_
 refine JQ.sub [(6, .pointer (some ⟨b4, 0, none⟩))] ?_
 refine J.ret ?_
 obtain rfl := Option.some.inj H0
 exact JQ.done' (rs := [.cell 6 23]) (vs := [.agg #[.int .i64 re1, .int .i64 im2, .int .i64 den3]]) [] (.inr rfl) ⟨⟨b4, 0, _, _, by kernel_rfl, by kernel_rfl, holds_box b4 23 [.int .i64 re1, .int .i64 im2, .int .i64 den3], .inl ⟨tyAgg_23, tySize_23, rfl⟩⟩, trivial⟩ (fun _ h => Heap.to (Heap.pick [] (by decide) h)) ⟨rfl, rfl⟩

theorem law33_example.ok  (r : (A4 Cx)) (H0 : law33_example.f = some r) :
    Does Try.prog 47 [].toArray [] [] false (fun v Δ => v = mv_25 r ∧ Δ = []) := by
 refine Does.body (vs := []) Try.func47 rfl trivial trivial fun w S => ?_
 unfold law33_example.f at H0
 refine J.seq ?_
 refine J.region ?_
 refine JL.alloc (cl_25 zv_25) fun b1 => ?_
 refine JL.nil ?_
 refine JQ.then_normal ?_
 refine J.seq ?_
 refine J.region ?_
 obtain ⟨t2, hc3, H0⟩ := bind_some H0
 refine JL.call [] [] [] (law33_of.ok 1 0 1 _ hc3) trivial ?_
 rintro _ _ ⟨rfl, rfl⟩
 obtain ⟨t4, hc5, H0⟩ := bind_some H0
 refine JL.call [] [] [] (law33_of.ok 0 1 1 _ hc5) trivial ?_
 rintro _ _ ⟨rfl, rfl⟩
 obtain ⟨t6, hc7, H0⟩ := bind_some H0
 refine JL.call [] [] [] (law33_of.ok 0 0 1 _ hc7) trivial ?_
 rintro _ _ ⟨rfl, rfl⟩
 obtain ⟨t8, hc9, H0⟩ := bind_some H0
 refine JL.call [] [] [] (law33_of.ok 2 0 1 _ hc9) trivial ?_
 rintro _ _ ⟨rfl, rfl⟩
 refine JL.pur (.agg #[.int .i64 t2.Re, .int .i64 t2.Im, .int .i64 t2.Den, .int .i64 t4.Re, .int .i64 t4.Im, .int .i64 t4.Den, .int .i64 t6.Re, .int .i64 t6.Im, .int .i64 t6.Den, .int .i64 t8.Re, .int .i64 t8.Im, .int .i64 t8.Den]) (some 5) ?_
 refine JL.store 0 b1 0 25 (cl_25 zv_25) [.int .i64 t2.Re, .int .i64 t2.Im, .int .i64 t2.Den, .int .i64 t4.Re, .int .i64 t4.Im, .int .i64 t4.Den, .int .i64 t6.Re, .int .i64 t6.Im, .int .i64 t6.Den, .int .i64 t8.Re, .int .i64 t8.Im, .int .i64 t8.Den] tySize_25 ?_
 refine JL.nil ?_
 refine JQ.then_normal ?_
 refine JQ.sub [(0, .pointer (some ⟨b1, 0, none⟩))] ?_
 refine J.ret ?_
 obtain rfl := Option.some.inj H0
 exact JQ.done' (rs := [.cell 0 25]) (vs := [.agg #[.int .i64 t2.Re, .int .i64 t2.Im, .int .i64 t2.Den, .int .i64 t4.Re, .int .i64 t4.Im, .int .i64 t4.Den, .int .i64 t6.Re, .int .i64 t6.Im, .int .i64 t6.Den, .int .i64 t8.Re, .int .i64 t8.Im, .int .i64 t8.Den]]) [] (.inr rfl) ⟨⟨b1, 0, _, _, by kernel_rfl, by kernel_rfl, holds_box b1 25 [.int .i64 t2.Re, .int .i64 t2.Im, .int .i64 t2.Den, .int .i64 t4.Re, .int .i64 t4.Im, .int .i64 t4.Den, .int .i64 t6.Re, .int .i64 t6.Im, .int .i64 t6.Den, .int .i64 t8.Re, .int .i64 t8.Im, .int .i64 t8.Den], .inl ⟨tyAgg_25, tySize_25, rfl⟩⟩, trivial⟩ (fun _ h => Heap.to (Heap.pick [] (by decide) h)) ⟨rfl, rfl⟩

theorem cx_Check_1.ok (n1 : Int) (r : Bool) (H0 : cx_Check_1.f n1 = some r) :
    Does Try.prog 77 [.int .i64 n1].toArray [] [] false (fun v Δ => v = .bool r ∧ Δ = []) := by
 refine Does.body (vs := [.int .i64 n1]) Try.func77 rfl trivial trivial fun w S => ?_
 unfold cx_Check_1.f at H0
 refine J.seq ?_
 refine J.region ?_
 refine JL.as (.bool false) ?_
 refine JL.nil ?_
 refine JQ.then_normal ?_
 refine JQ.sub [(0, .int .i64 n1)] ?_
 refine J.seq ?_
 refine J.region ?_
 refine JL.mv (.int .i64 n1) ?_
 refine JL.pur (.bool (decide ((-1000000000) ≤ n1))) (some 4) ?_
 refine JL.mv (.bool (decide ((-1000000000) ≤ n1))) ?_
 rcases ite_cases H0 with ⟨h2, H0⟩ | ⟨h2, H0⟩
 · refine JL.on 2 5 h2 ?_
   refine JL.mv (.int .i64 n1) ?_
   refine JL.on 2 5 h2 ?_
   refine JL.pur (.bool (decide (n1 ≤ 1000000000))) (some 7) ?_
   refine JL.val (.bool (decide (n1 ≤ 1000000000))) (some 8) (gives_pickT h2) ?_
   refine JL.as (.bool (decide (n1 ≤ 1000000000))) ?_
   refine JL.nil ?_
   refine JQ.then_normal ?_
   refine JQ.sub [(2, .bool (decide (n1 ≤ 1000000000)))] ?_
   refine J.ret ?_
   obtain rfl := Option.some.inj H0
   exact JQ.done' (rs := [.tmp 2]) (vs := [.bool (decide (n1 ≤ 1000000000))]) [] (.inr rfl) ⟨by kernel_rfl, trivial⟩ (fun _ h => Heap.to h) ⟨rfl, rfl⟩
 · refine JL.off 2 5 true (some 6) h2 ?_
   refine JL.off 2 5 true (some 7) h2 ?_
   refine JL.val (.bool false) (some 8) (gives_pickF h2) ?_
   refine JL.as (.bool false) ?_
   refine JL.nil ?_
   refine JQ.then_normal ?_
   refine JQ.sub [(2, .bool false)] ?_
   refine J.ret ?_
   obtain rfl := Option.some.inj H0
   exact JQ.done' (rs := [.tmp 2]) (vs := [.bool false]) [] (.inr rfl) ⟨by kernel_rfl, trivial⟩ (fun _ h => Heap.to h) ⟨rfl, rfl⟩

theorem cx_gcd.ok (l1 : (List Int)) (Aa2 : Option Addr) (c3 : Nat) (r : Int) (H0 : cx_gcd.f l1 = some r) :
    Does Try.prog 67 [.slice Aa2 l1.length c3].toArray [At.rd Aa2 c3 ((flInt .i64).kd) l1 true] [] false (fun v Δ => v = .int .i64 r ∧ Δ = []) := by
 refine Does.body (vs := [.slice Aa2 l1.length c3]) Try.func67 rfl ⟨.inl rfl, trivial⟩ trivial fun w S => ?_
 unfold cx_gcd.f at H0
 refine J.seq ?_
 refine J.region ?_
 refine JL.as (.int .i64 0) ?_
 refine JL.nil ?_
 refine JQ.then_normal ?_
 refine JQ.sub [(0, .slice Aa2 l1.length c3)] ?_
 refine J.seq ?_
 refine J.region ?_
 refine JL.as (.int .i64 0) ?_
 refine JL.nil ?_
 refine JQ.then_normal ?_
 refine J.seq ?_
 refine J.seq ?_
 refine J.region ?_
 refine JL.mv (.slice Aa2 l1.length c3) ?_
 refine JL.pur (.int .i64 (l1.length : Int)) (some 7) ?_
 refine JL.mv (.int .i64 0) ?_
 refine JL.nil ?_
 refine JQ.then_normal ?_
 refine JQ.sub [(3, .int .i64 0), (6, .slice Aa2 l1.length c3), (7, .int .i64 (l1.length : Int)), (8, .int .i64 0)] ?_
 obtain ⟨o1, hit, H0⟩ := bind_some H0
 refine J.loop (σ := (Int × Int)) (τ := Int) (G := ((Option Addr) × Nat)) (G' := Unit) _ o1 (fun s g => [(3, .int .i64 s.1), (6, .slice g.1 l1.length g.2), (7, .int .i64 (l1.length : Int)), (8, .int .i64 s.2)]) (fun s g => [At.rd g.1 g.2 ((flInt .i64).kd) l1 true]) (fun t => cx_gcd.k8 t = some r) (fun t g => [(3, .int .i64 t)]) (fun t g => []) (0, 0) (Aa2, c3) hit (fun _ h => Heap.to h) ?_ ?_
 · clear hit
   rintro ⟨g63, x67⟩ ⟨Aa64, c65⟩ st1 H1 hb1 hr1
   replace H1 : cx_gcd.s7 l1 g63 x67 = some st1 := H1
   unfold cx_gcd.s7 at H1
   refine JQ.sub [(3, .int .i64 g63), (6, .slice Aa64 l1.length c65), (7, .int .i64 (l1.length : Int)), (8, .int .i64 x67)] ?_
   refine JQ.turn (Δ' := [At.rd Aa64 c65 ((flInt .i64).kd) l1 true]) (fun _ h => h.to) ?_
   refine J.seq ?_
   refine J.region ?_
   refine JL.pur (.bool (decide (x67 < (l1.length : Int)))) (some 9) ?_
   refine JL.nil ?_
   refine JQ.then_normal ?_
   refine J.seq ?_
   rcases ite_cases H1 with ⟨h93, H1⟩ | ⟨h93, H1⟩
   · refine J.cond_true h93 ?_
     refine J.skip ?_
     refine JQ.then_normal ?_
     refine JQ.sub [(3, .int .i64 g63), (6, .slice Aa64 l1.length c65), (7, .int .i64 (l1.length : Int)), (8, .int .i64 x67)] ?_
     refine J.seq ?_
     refine J.block ?_
     refine J.seq ?_
     refine J.region ?_
     obtain ⟨⟨h94, h95⟩, H1⟩ := ite_must H1
     refine JL.ixAddr 0 1 c65 .i64 (elems_rd Aa64 c65 ((flInt .i64).kd) l1 true) Try.underlying100 tySize_2 h94 h95 fun g96 o97 hA => ?_
     subst hA
     refine JL.val (.int .i64 (ix l1 x67)) (some 11) (gives_loadEl (f := (flInt .i64)) 0 0 x67 (elems_rd (some ⟨g96, o97, none⟩) c65 ((flInt .i64).kd) l1 true) h94 h95 tySize_2 (.inr ⟨tyAgg_2, rfl, rfl⟩)) ?_
     refine JL.as (.int .i64 (ix l1 x67)) ?_
     refine JL.nil ?_
     refine JQ.then_normal ?_
     refine JQ.sub [(3, .int .i64 g63), (5, .int .i64 (ix l1 x67)), (6, .slice (some ⟨g96, o97, none⟩) l1.length c65), (7, .int .i64 (l1.length : Int)), (8, .int .i64 x67)] ?_
     obtain ⟨o2, hit, H1⟩ := bind_some H1
     refine J.loop (σ := (Int × Int)) (τ := Int) (G := Unit) (G' := Unit) _ o2 (fun s g => [(3, .int .i64 s.1), (5, .int .i64 s.2), (6, .slice (some ⟨g96, o97, none⟩) l1.length c65), (7, .int .i64 (l1.length : Int)), (8, .int .i64 x67)]) (fun s g => [At.rd (some ⟨g96, o97, none⟩) c65 ((flInt .i64).kd) l1 true]) (fun t => cx_gcd.k10 x67 t = some st1) (fun t g => [(3, .int .i64 t), (6, .slice (some ⟨g96, o97, none⟩) l1.length c65), (7, .int .i64 (l1.length : Int)), (8, .int .i64 x67)]) (fun t g => [At.rd (some ⟨g96, o97, none⟩) c65 ((flInt .i64).kd) l1 true]) (g63, (ix l1 x67)) () hit (fun _ h => Heap.to h) ?_ ?_
     · clear hit
       rintro ⟨g108, n109⟩ ⟨⟩ st2 H2 hb2 hr2
       replace H2 : cx_gcd.s9 g108 n109 = some st2 := H2
       unfold cx_gcd.s9 at H2
       refine JQ.sub [(3, .int .i64 g108), (5, .int .i64 n109), (6, .slice (some ⟨g96, o97, none⟩) l1.length c65), (7, .int .i64 (l1.length : Int)), (8, .int .i64 x67)] ?_
       refine JQ.turn (Δ' := [At.rd (some ⟨g96, o97, none⟩) c65 ((flInt .i64).kd) l1 true]) (fun _ h => h.to) ?_
       refine J.seq ?_
       refine J.seq ?_
       refine J.region ?_
       refine JL.mv (.int .i64 n109) ?_
       refine JL.pur (.bool (!decide (n109 = 0))) (some 13) ?_
       refine JL.nil ?_
       refine JQ.then_normal ?_
       refine JQ.sub [(3, .int .i64 g108), (5, .int .i64 n109), (6, .slice (some ⟨g96, o97, none⟩) l1.length c65), (7, .int .i64 (l1.length : Int)), (8, .int .i64 x67), (13, .bool (!decide (n109 = 0)))] ?_
       rcases ite_cases H2 with ⟨h114, H2⟩ | ⟨h114, H2⟩
       · refine J.cond_true h114 ?_
         refine J.skip ?_
         refine JQ.then_normal ?_
         refine JQ.sub [(3, .int .i64 g108), (5, .int .i64 n109), (6, .slice (some ⟨g96, o97, none⟩) l1.length c65), (7, .int .i64 (l1.length : Int)), (8, .int .i64 x67)] ?_
         refine J.block ?_
         refine J.draw ?_
         refine QL.mv (.int .i64 n109) ?_
         refine QL.mv (.int .i64 g108) ?_
         refine QL.mv (.int .i64 n109) ?_
         obtain ⟨h115, H2⟩ := ite_must H2
         refine QL.val (.int .i64 (Int.tmod g108 n109)) (some 17) (gives_rem .i64 g108 n109 h115) ?_
         refine QL.as (.int .i64 n109) ?_
         obtain ⟨n116, en116, H2⟩ := lt_some H2
         refine QL.as' (k := .i64) n116 en116 ?_
         refine QL.nil ?_
         refine JA.nil ?_
         refine JQ.blk_normal ?_
         refine JQ.then_normal ?_
         exact JQ.again (n109, n116) () (Option.some.inj H2).symm (fun _ h => Heap.to h)
       · refine J.cond_false h114 ?_
         refine J.exit ?_
         refine JQ.then_exit ?_
         refine JQ.then_exit ?_
         refine JQ.blk_exit ?_
         rw [hb2 _ (Option.some.inj H2).symm, fin_brk] at H1
         exact JQ.met g108 () H1 (fun _ h => Heap.to h)
     · clear hit H1
       rintro g113 ⟨⟩ H1
       replace H1 : cx_gcd.k10 x67 g113 = some st1 := H1
       unfold cx_gcd.k10 at H1
       refine JQ.sub [(3, .int .i64 g113), (6, .slice (some ⟨g96, o97, none⟩) l1.length c65), (7, .int .i64 (l1.length : Int)), (8, .int .i64 x67)] ?_
       refine JQ.turn (Δ' := [At.rd (some ⟨g96, o97, none⟩) c65 ((flInt .i64).kd) l1 true]) (fun _ h => h.to) ?_
       refine JQ.blk_normal ?_
       refine JQ.then_normal ?_
       refine J.region ?_
       refine JL.pur (.int .i64 (w64 (x67 + 1))) (some 18) ?_
       refine JL.mv (.int .i64 (w64 (x67 + 1))) ?_
       refine JL.nil ?_
       refine JQ.then_normal ?_
       exact JQ.again (g113, w64 (x67 + 1)) ((some ⟨g96, o97, none⟩), c65) (Option.some.inj H1).symm (fun _ h => Heap.to h)
   · refine J.cond_false h93 ?_
     refine J.exit ?_
     refine JQ.then_exit ?_
     refine JQ.then_exit ?_
     refine JQ.blk_exit ?_
     rw [hb1 _ (Option.some.inj H1).symm, fin_brk] at H0
     exact JQ.met g63 () H0 (fun _ h => Heap.to (Heap.pick [] (by decide) h))
 · clear hit H0
   rintro g92 ⟨⟩ H0
   replace H0 : cx_gcd.k8 g92 = some r := H0
   unfold cx_gcd.k8 at H0
   refine JQ.sub [(3, .int .i64 g92)] ?_
   refine JQ.turn (Δ' := []) (fun _ h => h.to) ?_
   refine JQ.then_normal ?_
   refine J.seq ?_
   refine J.region ?_
   refine JL.mv (.int .i64 g92) ?_
   refine JL.mv (.int .i64 g92) ?_
   refine JL.pur (.int .i64 (w64 (0 - g92))) (some 21) ?_
   refine JL.pur (.int .i64 (gmax g92 (w64 (0 - g92)))) (some 22) ?_
   refine JL.as (.int .i64 (gmax g92 (w64 (0 - g92)))) ?_
   refine JL.nil ?_
   refine JQ.then_normal ?_
   refine JQ.sub [(2, .int .i64 (gmax g92 (w64 (0 - g92))))] ?_
   refine J.ret ?_
   obtain rfl := Option.some.inj H0
   exact JQ.done' (rs := [.tmp 2]) (vs := [.int .i64 (gmax g92 (w64 (0 - g92)))]) [] (.inr rfl) ⟨by kernel_rfl, trivial⟩ (fun _ h => Heap.to h) ⟨rfl, rfl⟩

theorem cx_Check.ok (a1 : Cx) (r : Int) (H0 : cx_Check.f a1 = some r) :
    Does Try.prog 62 [mv_23 a1].toArray [] [] false (fun v Δ => v = .int .i64 r ∧ Δ = []) := by
 refine Does.body (vs := [mv_23 a1]) Try.func62 rfl trivial trivial fun w S => ?_
 unfold cx_Check.f at H0
 refine J.seq ?_
 refine J.region ?_
 refine JL.box (cl_23 a1) fun b2 => ?_
 refine JL.as (.int .i64 0) ?_
 refine JL.nil ?_
 refine JQ.then_normal ?_
 refine JQ.sub [(1, .pointer (some ⟨b2, 0, none⟩))] ?_
 refine J.seq ?_
 refine J.region ?_
 refine JL.as (.func (.func 77) #[] #[]) ?_
 refine JL.nil ?_
 refine JQ.then_normal ?_
 refine J.seq ?_
 refine J.join (T := Bool) (G := Unit) (fun t => cx_Check.k1 t = some r) (fun t g => [(38, .bool t)]) (fun t g => []) ?_ ?_
 · refine J.region ?_
   refine JL.pur (.pointer (some ⟨b2, 2, none⟩)) (some 4) ?_
   refine JL.val (.int .i64 a1.Den) (some 5) (yields_load_box 0 2 (holds_box b2 23 (cl_23 a1)) tyAgg_2) ?_
   refine JL.pur (.bool (decide (a1.Den < 1))) (some 6) ?_
   refine JL.mv (.bool (decide (a1.Den < 1))) ?_
   rcases ite_cases H0 with ⟨h18, H0⟩ | ⟨h18, H0⟩
   · refine JL.off 3 7 false (some 8) h18 ?_
     refine JL.off 3 7 false (some 9) h18 ?_
     refine JL.off 3 7 false (some 10) h18 ?_
     refine JL.off 3 7 false (some 11) h18 ?_
     refine JL.off 3 7 false (some 12) h18 ?_
     refine JL.val (.bool true) (some 13) (gives_pickT h18) ?_
     refine JL.mv (.bool true) ?_
     refine JL.off 10 14 false (some 15) rfl ?_
     refine JL.off 10 14 false (some 16) rfl ?_
     refine JL.off 10 14 false (some 17) rfl ?_
     refine JL.off 10 14 false (some 18) rfl ?_
     refine JL.off 10 14 false (some 19) rfl ?_
     refine JL.val (.bool true) (some 20) (gives_pickT rfl) ?_
     refine JL.mv (.bool true) ?_
     refine JL.off 17 21 false (some 22) rfl ?_
     refine JL.off 17 21 false (some 23) rfl ?_
     refine JL.off 17 21 false (some 24) rfl ?_
     refine JL.off 17 21 false (some 25) rfl ?_
     refine JL.off 17 21 false (some 26) rfl ?_
     refine JL.val (.bool true) (some 27) (gives_pickT rfl) ?_
     refine JL.mv (.bool true) ?_
     refine JL.off 24 28 false (some 29) rfl ?_
     refine JL.off 24 28 false (some 30) rfl ?_
     refine JL.off 24 28 false (some 31) rfl ?_
     refine JL.off 24 28 false (some 32) rfl ?_
     refine JL.off 24 28 false (some 33) rfl ?_
     refine JL.off 24 28 false (some 34) rfl ?_
     refine JL.off 24 28 false (some 35) rfl ?_
     refine JL.off 24 28 false (some 36) rfl ?_
     refine JL.off 24 28 false (some 37) rfl ?_
     refine JL.val (.bool true) (some 38) (gives_pickT rfl) ?_
     refine JL.nil ?_
     refine JQ.then_normal ?_
     exact JQ.meet true () H0 (fun _ h => Heap.to (Heap.pick [] (by decide) h))
   · refine JL.on 3 7 h18 ?_
     refine JL.mv (.func (.func 77) #[] #[]) ?_
     refine JL.on 3 7 h18 ?_
     refine JL.pur (.pointer (some ⟨b2, 0, none⟩)) (some 9) ?_
     refine JL.on 3 7 h18 ?_
     refine JL.val (.int .i64 a1.Re) (some 10) (yields_load_box 0 0 (holds_box b2 23 (cl_23 a1)) tyAgg_2) ?_
     refine JL.on 3 7 h18 ?_
     obtain ⟨t19, hc20, H0⟩ := bind_some H0
     refine JL.call [] [] [] (cx_Check_1.ok a1.Re _ hc20) trivial ?_
     rintro _ _ ⟨rfl, rfl⟩
     refine JL.on 3 7 h18 ?_
     refine JL.pur (.bool (!t19)) (some 12) ?_
     refine JL.val (.bool (!t19)) (some 13) (gives_pickF h18) ?_
     refine JL.mv (.bool (!t19)) ?_
     rcases ite_cases H0 with ⟨h21, H0⟩ | ⟨h21, H0⟩
     · refine JL.off 10 14 false (some 15) h21 ?_
       refine JL.off 10 14 false (some 16) h21 ?_
       refine JL.off 10 14 false (some 17) h21 ?_
       refine JL.off 10 14 false (some 18) h21 ?_
       refine JL.off 10 14 false (some 19) h21 ?_
       refine JL.val (.bool true) (some 20) (gives_pickT h21) ?_
       refine JL.mv (.bool true) ?_
       refine JL.off 17 21 false (some 22) rfl ?_
       refine JL.off 17 21 false (some 23) rfl ?_
       refine JL.off 17 21 false (some 24) rfl ?_
       refine JL.off 17 21 false (some 25) rfl ?_
       refine JL.off 17 21 false (some 26) rfl ?_
       refine JL.val (.bool true) (some 27) (gives_pickT rfl) ?_
       refine JL.mv (.bool true) ?_
       refine JL.off 24 28 false (some 29) rfl ?_
       refine JL.off 24 28 false (some 30) rfl ?_
       refine JL.off 24 28 false (some 31) rfl ?_
       refine JL.off 24 28 false (some 32) rfl ?_
       refine JL.off 24 28 false (some 33) rfl ?_
       refine JL.off 24 28 false (some 34) rfl ?_
       refine JL.off 24 28 false (some 35) rfl ?_
       refine JL.off 24 28 false (some 36) rfl ?_
       refine JL.off 24 28 false (some 37) rfl ?_
       refine JL.val (.bool true) (some 38) (gives_pickT rfl) ?_
       refine JL.nil ?_
       refine JQ.then_normal ?_
       exact JQ.meet true () H0 (fun _ h => Heap.to (Heap.pick [] (by decide) h))
     · refine JL.on 10 14 h21 ?_
       refine JL.mv (.func (.func 77) #[] #[]) ?_
       refine JL.on 10 14 h21 ?_
       refine JL.pur (.pointer (some ⟨b2, 1, none⟩)) (some 16) ?_
       refine JL.on 10 14 h21 ?_
       refine JL.val (.int .i64 a1.Im) (some 17) (yields_load_box 0 1 (holds_box b2 23 (cl_23 a1)) tyAgg_2) ?_
       refine JL.on 10 14 h21 ?_
       obtain ⟨t22, hc23, H0⟩ := bind_some H0
       refine JL.call [] [] [] (cx_Check_1.ok a1.Im _ hc23) trivial ?_
       rintro _ _ ⟨rfl, rfl⟩
       refine JL.on 10 14 h21 ?_
       refine JL.pur (.bool (!t22)) (some 19) ?_
       refine JL.val (.bool (!t22)) (some 20) (gives_pickF h21) ?_
       refine JL.mv (.bool (!t22)) ?_
       rcases ite_cases H0 with ⟨h24, H0⟩ | ⟨h24, H0⟩
       · refine JL.off 17 21 false (some 22) h24 ?_
         refine JL.off 17 21 false (some 23) h24 ?_
         refine JL.off 17 21 false (some 24) h24 ?_
         refine JL.off 17 21 false (some 25) h24 ?_
         refine JL.off 17 21 false (some 26) h24 ?_
         refine JL.val (.bool true) (some 27) (gives_pickT h24) ?_
         refine JL.mv (.bool true) ?_
         refine JL.off 24 28 false (some 29) rfl ?_
         refine JL.off 24 28 false (some 30) rfl ?_
         refine JL.off 24 28 false (some 31) rfl ?_
         refine JL.off 24 28 false (some 32) rfl ?_
         refine JL.off 24 28 false (some 33) rfl ?_
         refine JL.off 24 28 false (some 34) rfl ?_
         refine JL.off 24 28 false (some 35) rfl ?_
         refine JL.off 24 28 false (some 36) rfl ?_
         refine JL.off 24 28 false (some 37) rfl ?_
         refine JL.val (.bool true) (some 38) (gives_pickT rfl) ?_
         refine JL.nil ?_
         refine JQ.then_normal ?_
         exact JQ.meet true () H0 (fun _ h => Heap.to (Heap.pick [] (by decide) h))
       · refine JL.on 17 21 h24 ?_
         refine JL.mv (.func (.func 77) #[] #[]) ?_
         refine JL.on 17 21 h24 ?_
         refine JL.pur (.pointer (some ⟨b2, 2, none⟩)) (some 23) ?_
         refine JL.on 17 21 h24 ?_
         refine JL.val (.int .i64 a1.Den) (some 24) (yields_load_box 0 2 (holds_box b2 23 (cl_23 a1)) tyAgg_2) ?_
         refine JL.on 17 21 h24 ?_
         obtain ⟨t25, hc26, H0⟩ := bind_some H0
         refine JL.call [] [] [] (cx_Check_1.ok a1.Den _ hc26) trivial ?_
         rintro _ _ ⟨rfl, rfl⟩
         refine JL.on 17 21 h24 ?_
         refine JL.pur (.bool (!t25)) (some 26) ?_
         refine JL.val (.bool (!t25)) (some 27) (gives_pickF h24) ?_
         refine JL.mv (.bool (!t25)) ?_
         rcases ite_cases H0 with ⟨h27, H0⟩ | ⟨h27, H0⟩
         · refine JL.off 24 28 false (some 29) h27 ?_
           refine JL.off 24 28 false (some 30) h27 ?_
           refine JL.off 24 28 false (some 31) h27 ?_
           refine JL.off 24 28 false (some 32) h27 ?_
           refine JL.off 24 28 false (some 33) h27 ?_
           refine JL.off 24 28 false (some 34) h27 ?_
           refine JL.off 24 28 false (some 35) h27 ?_
           refine JL.off 24 28 false (some 36) h27 ?_
           refine JL.off 24 28 false (some 37) h27 ?_
           refine JL.val (.bool true) (some 38) (gives_pickT h27) ?_
           refine JL.nil ?_
           refine JQ.then_normal ?_
           exact JQ.meet true () H0 (fun _ h => Heap.to (Heap.pick [] (by decide) h))
         · refine JL.on 24 28 h27 ?_
           refine JL.pur (.pointer (some ⟨b2, 0, none⟩)) (some 29) ?_
           refine JL.on 24 28 h27 ?_
           refine JL.val (.int .i64 a1.Re) (some 30) (yields_load_box 0 0 (holds_box b2 23 (cl_23 a1)) tyAgg_2) ?_
           refine JL.on 24 28 h27 ?_
           refine JL.pur (.pointer (some ⟨b2, 1, none⟩)) (some 31) ?_
           refine JL.on 24 28 h27 ?_
           refine JL.val (.int .i64 a1.Im) (some 32) (yields_load_box 0 1 (holds_box b2 23 (cl_23 a1)) tyAgg_2) ?_
           refine JL.on 24 28 h27 ?_
           refine JL.pur (.pointer (some ⟨b2, 2, none⟩)) (some 33) ?_
           refine JL.on 24 28 h27 ?_
           refine JL.val (.int .i64 a1.Den) (some 34) (yields_load_box 0 2 (holds_box b2 23 (cl_23 a1)) tyAgg_2) ?_
           refine JL.on 24 28 h27 ?_
           refine JL.buildSl 2 ((flInt .i64).kd) (([a1.Re, a1.Im, a1.Den] : List Int) : List Int) [.int .i64 a1.Re, .int .i64 a1.Im, .int .i64 a1.Den] false (closes_fl rfl) fun b28 => ?_
           refine JL.on 24 28 h27 ?_
           obtain ⟨t29, hc30, H0⟩ := bind_some H0
           refine JL.call [] [] [] (cx_gcd.ok ([a1.Re, a1.Im, a1.Den] : List Int) (some ⟨b28, 0, none⟩) 3 _ hc30) ⟨pre_view 1 (view_row (some ⟨b28, 0, none⟩) 3 2 ((flInt .i64).kd) ([a1.Re, a1.Im, a1.Den] : List Int) false true), trivial⟩ ?_
           rintro _ _ ⟨rfl, rfl⟩
           refine JL.on 24 28 h27 ?_
           refine JL.pur (.bool (!decide (t29 = 1))) (some 37) ?_
           refine JL.val (.bool (!decide (t29 = 1))) (some 38) (gives_pickF h27) ?_
           refine JL.nil ?_
           refine JQ.then_normal ?_
           exact JQ.meet (!decide (t29 = 1)) () H0 (fun _ h => Heap.to (Heap.pick [] (by decide) h))
 · clear H0
   rintro x16 ⟨⟩ H0
   replace H0 : cx_Check.k1 x16 = some r := H0
   unfold cx_Check.k1 at H0
   refine JQ.sub [(38, .bool x16)] ?_
   refine JQ.turn (Δ' := []) (fun _ h => h.to) ?_
   rcases ite_cases H0 with ⟨h17, H0⟩ | ⟨h17, H0⟩
   · refine J.cond_true h17 ?_
     refine J.seq ?_
     refine J.region ?_
     refine JL.as (.int .i64 8) ?_
     refine JL.nil ?_
     refine JQ.then_normal ?_
     refine JQ.sub [(2, .int .i64 8)] ?_
     refine J.ret ?_
     refine JQ.then_ret ?_
     obtain rfl := Option.some.inj H0
     exact JQ.done' (rs := [.tmp 2]) (vs := [.int .i64 8]) [] (.inr rfl) ⟨by kernel_rfl, trivial⟩ (fun _ h => Heap.to h) ⟨rfl, rfl⟩
   · refine J.cond_false h17 ?_
     refine J.skip ?_
     refine JQ.then_normal ?_
     refine JQ.sub [] ?_
     refine J.seq ?_
     refine J.region ?_
     refine JL.as (.int .i64 0) ?_
     refine JL.nil ?_
     refine JQ.then_normal ?_
     refine J.ret ?_
     obtain rfl := Option.some.inj H0
     exact JQ.done' (rs := [.tmp 2]) (vs := [.int .i64 0]) [] (.inr rfl) ⟨by kernel_rfl, trivial⟩ (fun _ h => Heap.to h) ⟨rfl, rfl⟩

theorem jones_valid_1.ok (x1 : Cx) (r : Bool) (H0 : jones_valid_1.f x1 = some r) :
    Does Try.prog 61 [mv_23 x1].toArray [] [] false (fun v Δ => v = .bool r ∧ Δ = []) := by
 refine Does.body (vs := [mv_23 x1]) Try.func61 rfl trivial trivial fun w S => ?_
 unfold jones_valid_1.f at H0
 refine J.seq ?_
 refine J.region ?_
 refine JL.box (cl_23 x1) fun b2 => ?_
 refine JL.as (.bool false) ?_
 refine JL.nil ?_
 refine JQ.then_normal ?_
 refine JQ.sub [(1, .pointer (some ⟨b2, 0, none⟩))] ?_
 refine J.seq ?_
 refine J.region ?_
 refine JL.val (mv_23 x1) (some 3) (yields_load_boxes 0 0 (cl_23 x1) (holds_box b2 23 (cl_23 x1)) tyAgg_23 tySize_23) ?_
 obtain ⟨t3, hc4, H0⟩ := bind_some H0
 refine JL.call [] [] [] (cx_Check.ok x1 _ hc4) trivial ?_
 rintro _ _ ⟨rfl, rfl⟩
 refine JL.pur (.bool (!decide (t3 = 0))) (some 5) ?_
 refine JL.as (.bool (!decide (t3 = 0))) ?_
 refine JL.nil ?_
 refine JQ.then_normal ?_
 refine JQ.sub [(2, .bool (!decide (t3 = 0)))] ?_
 refine JQ.mask [] [false] ?_
 refine J.ret ?_
 obtain rfl := Option.some.inj H0
 exact JQ.done' (rs := [.tmp 2]) (vs := [.bool (!decide (t3 = 0))]) [] (.inr rfl) ⟨by kernel_rfl, trivial⟩ (fun _ h => Heap.to h) ⟨rfl, rfl⟩

theorem slices_IndexFunc__api_Cx_api_Cx__jones_valid_1.ok (s1 : (List Cx)) (Aa2 : Option Addr) (c3 : Nat) (r : Int) (H0 : slices_IndexFunc__api_Cx_api_Cx__jones_valid_1.f s1 = some r) :
    Does Try.prog 76 [.slice Aa2 s1.length c3, .func (.func 61) #[] #[]].toArray [At.rd Aa2 c3 fl_Cx.kd s1 true] [] false (fun v Δ => v = .int .i64 r ∧ Δ = []) := by
 refine Does.body (vs := [.slice Aa2 s1.length c3, .func (.func 61) #[] #[]]) Try.func76 rfl ⟨.inl rfl, trivial⟩ trivial fun w S => ?_
 unfold slices_IndexFunc__api_Cx_api_Cx__jones_valid_1.f at H0
 refine J.seq ?_
 refine J.region ?_
 refine JL.as (.int .i64 0) ?_
 refine JL.nil ?_
 refine JQ.then_normal ?_
 refine JQ.sub [(0, .slice Aa2 s1.length c3), (1, .func (.func 61) #[] #[])] ?_
 refine J.seq ?_
 refine J.seq ?_
 refine J.region ?_
 refine JL.mv (.slice Aa2 s1.length c3) ?_
 refine JL.pur (.int .i64 (s1.length : Int)) (some 7) ?_
 refine JL.mv (.int .i64 0) ?_
 refine JL.nil ?_
 refine JQ.then_normal ?_
 refine JQ.sub [(0, .slice Aa2 s1.length c3), (1, .func (.func 61) #[] #[]), (7, .int .i64 (s1.length : Int)), (8, .int .i64 0)] ?_
 obtain ⟨o1, hit, H0⟩ := bind_some H0
 refine J.loop (σ := Int) (τ := Unit) (G := Unit) (G' := Unit) _ o1 (fun s g => [(0, .slice Aa2 s1.length c3), (1, .func (.func 61) #[] #[]), (7, .int .i64 (s1.length : Int)), (8, .int .i64 s)]) (fun s g => [At.rd Aa2 c3 fl_Cx.kd s1 true]) (fun t => slices_IndexFunc__api_Cx_api_Cx__jones_valid_1.k2 = some r) (fun t g => []) (fun t g => []) 0 () hit (fun _ h => Heap.to h) ?_ ?_
 · clear hit
   rintro x23 ⟨⟩ st1 H1 hb1 hr1
   replace H1 : slices_IndexFunc__api_Cx_api_Cx__jones_valid_1.s1 s1 x23 = some st1 := H1
   unfold slices_IndexFunc__api_Cx_api_Cx__jones_valid_1.s1 at H1
   refine JQ.sub [(0, .slice Aa2 s1.length c3), (1, .func (.func 61) #[] #[]), (7, .int .i64 (s1.length : Int)), (8, .int .i64 x23)] ?_
   refine JQ.turn (Δ' := [At.rd Aa2 c3 fl_Cx.kd s1 true]) (fun _ h => h.to) ?_
   refine J.seq ?_
   refine J.region ?_
   refine JL.pur (.bool (decide (x23 < (s1.length : Int)))) (some 9) ?_
   refine JL.nil ?_
   refine JQ.then_normal ?_
   refine J.seq ?_
   rcases ite_cases H1 with ⟨h32, H1⟩ | ⟨h32, H1⟩
   · refine J.cond_true h32 ?_
     refine J.skip ?_
     refine JQ.then_normal ?_
     refine JQ.sub [(0, .slice Aa2 s1.length c3), (1, .func (.func 61) #[] #[]), (7, .int .i64 (s1.length : Int)), (8, .int .i64 x23)] ?_
     refine J.seq ?_
     refine J.block ?_
     refine J.seq ?_
     refine J.region ?_
     refine JL.mv (.int .i64 x23) ?_
     refine JL.as (.int .i64 x23) ?_
     refine JL.nil ?_
     refine JQ.then_normal ?_
     refine JQ.sub [(0, .slice Aa2 s1.length c3), (1, .func (.func 61) #[] #[]), (5, .int .i64 x23), (7, .int .i64 (s1.length : Int)), (8, .int .i64 x23)] ?_
     refine J.seq ?_
     refine J.region ?_
     refine JL.mv (.func (.func 61) #[] #[]) ?_
     refine JL.mv (.slice Aa2 s1.length c3) ?_
     refine JL.mv (.int .i64 x23) ?_
     obtain ⟨⟨h33, h34⟩, H1⟩ := ite_must H1
     refine JL.ixAddr 0 3 c3 .i64 (elems_rd Aa2 c3 fl_Cx.kd s1 true) Try.underlying84 tySize_23 h33 h34 fun g35 o36 hA => ?_
     subst hA
     refine JL.val (mv_23 (ix s1 x23)) (some 15) (gives_loadEl (f := fl_Cx) 0 0 x23 (elems_rd (some ⟨g35, o36, none⟩) c3 fl_Cx.kd s1 true) h33 h34 tySize_23 (.inl ⟨tyAgg_23, rfl⟩)) ?_
     obtain ⟨t37, hc38, H1⟩ := bind_some H1
     refine JL.call [] [] [] (jones_valid_1.ok (ix s1 x23) _ hc38) trivial ?_
     rintro _ _ ⟨rfl, rfl⟩
     refine JL.nil ?_
     refine JQ.then_normal ?_
     refine JQ.sub [(0, .slice (some ⟨g35, o36, none⟩) s1.length c3), (1, .func (.func 61) #[] #[]), (5, .int .i64 x23), (7, .int .i64 (s1.length : Int)), (8, .int .i64 x23), (16, .bool t37)] ?_
     rcases ite_cases H1 with ⟨h39, H1⟩ | ⟨h39, H1⟩
     · refine J.cond_true h39 ?_
       refine J.seq ?_
       refine J.region ?_
       refine JL.mv (.int .i64 x23) ?_
       refine JL.as (.int .i64 x23) ?_
       refine JL.nil ?_
       refine JQ.then_normal ?_
       refine JQ.sub [(4, .int .i64 x23)] ?_
       refine JQ.mask [] [false] ?_
       refine J.ret ?_
       refine JQ.blk_ret ?_
       refine JQ.then_ret ?_
       refine JQ.then_ret ?_
       refine JQ.blk_ret ?_
       refine JQ.met_ret ?_
       refine JQ.then_ret ?_
       rw [hr1 _ (Option.some.inj H1).symm, fin_ret] at H0
       obtain rfl := Option.some.inj H0
       exact JQ.done' (rs := [.tmp 4]) (vs := [.int .i64 x23]) [] (.inr rfl) ⟨by kernel_rfl, trivial⟩ (fun _ h => Heap.to h) ⟨rfl, rfl⟩
     · refine J.cond_false h39 ?_
       refine J.skip ?_
       refine JQ.blk_normal ?_
       refine JQ.then_normal ?_
       refine JQ.sub [(0, .slice (some ⟨g35, o36, none⟩) s1.length c3), (1, .func (.func 61) #[] #[]), (7, .int .i64 (s1.length : Int)), (8, .int .i64 x23)] ?_
       refine J.region ?_
       refine JL.pur (.int .i64 (w64 (x23 + 1))) (some 18) ?_
       refine JL.mv (.int .i64 (w64 (x23 + 1))) ?_
       refine JL.nil ?_
       refine JQ.then_normal ?_
       exact JQ.again (w64 (x23 + 1)) () (Option.some.inj H1).symm (fun _ h => Heap.to h)
   · refine J.cond_false h32 ?_
     refine J.exit ?_
     refine JQ.then_exit ?_
     refine JQ.then_exit ?_
     refine JQ.blk_exit ?_
     rw [hb1 _ (Option.some.inj H1).symm, fin_brk] at H0
     exact JQ.met () () H0 (fun _ h => Heap.to (Heap.pick [] (by decide) h))
 · clear hit H0
   rintro ⟨⟩ ⟨⟩ H0
   replace H0 : slices_IndexFunc__api_Cx_api_Cx__jones_valid_1.k2 = some r := H0
   unfold slices_IndexFunc__api_Cx_api_Cx__jones_valid_1.k2 at H0
   refine JQ.sub [] ?_
   refine JQ.turn (Δ' := []) (fun _ h => h.to) ?_
   refine JQ.then_normal ?_
   refine J.seq ?_
   refine J.region ?_
   refine JL.as (.int .i64 (-1)) ?_
   refine JL.nil ?_
   refine JQ.then_normal ?_
   refine J.ret ?_
   obtain rfl := Option.some.inj H0
   exact JQ.done' (rs := [.tmp 4]) (vs := [.int .i64 (-1)]) [] (.inr rfl) ⟨by kernel_rfl, trivial⟩ (fun _ h => Heap.to h) ⟨rfl, rfl⟩

theorem slices_ContainsFunc__api_Cx_api_Cx__jones_valid_1.ok (s1 : (List Cx)) (Aa2 : Option Addr) (c3 : Nat) (r : Bool) (H0 : slices_ContainsFunc__api_Cx_api_Cx__jones_valid_1.f s1 = some r) :
    Does Try.prog 60 [.slice Aa2 s1.length c3, .func (.func 61) #[] #[]].toArray [At.rd Aa2 c3 fl_Cx.kd s1 true] [] false (fun v Δ => v = .bool r ∧ Δ = []) := by
 refine Does.body (vs := [.slice Aa2 s1.length c3, .func (.func 61) #[] #[]]) Try.func60 rfl ⟨.inl rfl, trivial⟩ trivial fun w S => ?_
 unfold slices_ContainsFunc__api_Cx_api_Cx__jones_valid_1.f at H0
 refine J.seq ?_
 refine J.region ?_
 refine JL.as (.bool false) ?_
 refine JL.nil ?_
 refine JQ.then_normal ?_
 refine JQ.sub [(0, .slice Aa2 s1.length c3), (1, .func (.func 61) #[] #[])] ?_
 refine J.seq ?_
 refine J.region ?_
 refine JL.mv (.slice Aa2 s1.length c3) ?_
 refine JL.mv (.func (.func 61) #[] #[]) ?_
 obtain ⟨t5, hc6, H0⟩ := bind_some H0
 refine JL.call [] [] [] (slices_IndexFunc__api_Cx_api_Cx__jones_valid_1.ok s1 Aa2 c3 _ hc6) ⟨pre_any 0 (view_rd Aa2 c3 fl_Cx.kd s1 true true), trivial⟩ ?_
 rintro _ _ ⟨rfl, rfl⟩
 refine JL.pur (.bool (decide (0 ≤ t5))) (some 8) ?_
 refine JL.as (.bool (decide (0 ≤ t5))) ?_
 refine JL.nil ?_
 refine JQ.then_normal ?_
 refine JQ.sub [(4, .bool (decide (0 ≤ t5)))] ?_
 refine JQ.mask [] [false] ?_
 refine J.ret ?_
 obtain rfl := Option.some.inj H0
 exact JQ.done' (rs := [.tmp 4]) (vs := [.bool (decide (0 ≤ t5))]) [] (.inr rfl) ⟨by kernel_rfl, trivial⟩ (fun _ h => Heap.to h) ⟨rfl, rfl⟩

theorem jones_valid.ok (a1 : (A4 Cx)) (r : Bool) (H0 : jones_valid.f a1 = some r) :
    Does Try.prog 33 [mv_25 a1].toArray [] [] false (fun v Δ => v = .bool r ∧ Δ = []) := by
 refine Does.body (vs := [mv_25 a1]) Try.func33 rfl trivial trivial fun w S => ?_
 unfold jones_valid.f at H0
 refine J.seq ?_
 refine J.region ?_
 refine JL.box (cl_25 a1) fun b2 => ?_
 refine JL.as (.bool false) ?_
 refine JL.nil ?_
 refine JQ.then_normal ?_
 refine JQ.sub [(1, .pointer (some ⟨b2, 0, none⟩))] ?_
 refine J.seq ?_
 refine J.region ?_
 refine JQ.turn (fun _ h => freeze_box 0 b2 25 (cl_25 a1) h) ?_
 refine JL.cutArr fl_Cx (([a1.e0, a1.e1, a1.e2, a1.e3] : List Cx) : List Cx) 4 0 b2 25 (cl_25 a1) false Try.underlying25 tySize_23 ?_
 obtain ⟨t4, hc5, H0⟩ := bind_some H0
 refine JL.call [] [] [] (slices_ContainsFunc__api_Cx_api_Cx__jones_valid_1.ok ([a1.e0, a1.e1, a1.e2, a1.e3] : List Cx) (some ⟨b2, 0, none⟩) (([a1.e0, a1.e1, a1.e2, a1.e3] : List Cx).length) _ hc5) ⟨pre_any 1 (view_rd (some ⟨b2, 0, none⟩) (([a1.e0, a1.e1, a1.e2, a1.e3] : List Cx).length) fl_Cx.kd ([a1.e0, a1.e1, a1.e2, a1.e3] : List Cx) false true), trivial⟩ ?_
 rintro _ _ ⟨rfl, rfl⟩
 refine JL.pur (.bool (!t4)) (some 5) ?_
 refine JL.as (.bool (!t4)) ?_
 refine JL.nil ?_
 refine JQ.then_normal ?_
 refine JQ.sub [(2, .bool (!t4))] ?_
 refine JQ.mask [] [false, false] ?_
 refine J.ret ?_
 obtain rfl := Option.some.inj H0
 exact JQ.done' (rs := [.tmp 2]) (vs := [.bool (!t4)]) [] (.inr rfl) ⟨by kernel_rfl, trivial⟩ (fun _ h => Heap.to h) ⟨rfl, rfl⟩

theorem cmp_Or__api_Errno.ok (vals1 : (List Int)) (Aa2 : Option Addr) (c3 : Nat) (r : Int) (H0 : cmp_Or__api_Errno.f vals1 = some r) :
    Does Try.prog 34 [.slice Aa2 vals1.length c3].toArray [At.rd Aa2 c3 ((flInt .i64).kd) vals1 true] [] false (fun v Δ => v = .int .i64 r ∧ Δ = []) := by
 refine Does.body (vs := [.slice Aa2 vals1.length c3]) Try.func34 rfl ⟨.inl rfl, trivial⟩ trivial fun w S => ?_
 unfold cmp_Or__api_Errno.f at H0
 refine J.seq ?_
 refine J.region ?_
 refine JL.as (.int .i64 0) ?_
 refine JL.nil ?_
 refine JQ.then_normal ?_
 refine JQ.sub [(0, .slice Aa2 vals1.length c3)] ?_
 refine J.seq ?_
 refine J.region ?_
 refine JL.as (.int .i64 0) ?_
 refine JL.nil ?_
 refine JQ.then_normal ?_
 refine J.seq ?_
 refine J.seq ?_
 refine J.region ?_
 refine JL.mv (.slice Aa2 vals1.length c3) ?_
 refine JL.pur (.int .i64 (vals1.length : Int)) (some 7) ?_
 refine JL.mv (.int .i64 0) ?_
 refine JL.nil ?_
 refine JQ.then_normal ?_
 refine JQ.sub [(3, .int .i64 0), (6, .slice Aa2 vals1.length c3), (7, .int .i64 (vals1.length : Int)), (8, .int .i64 0)] ?_
 obtain ⟨o1, hit, H0⟩ := bind_some H0
 refine J.loop (σ := Int) (τ := Unit) (G := Unit) (G' := Unit) _ o1 (fun s g => [(3, .int .i64 0), (6, .slice Aa2 vals1.length c3), (7, .int .i64 (vals1.length : Int)), (8, .int .i64 s)]) (fun s g => [At.rd Aa2 c3 ((flInt .i64).kd) vals1 true]) (fun t => cmp_Or__api_Errno.k2 = some r) (fun t g => [(3, .int .i64 0)]) (fun t g => []) 0 () hit (fun _ h => Heap.to h) ?_ ?_
 · clear hit
   rintro x19 ⟨⟩ st1 H1 hb1 hr1
   replace H1 : cmp_Or__api_Errno.s1 vals1 x19 = some st1 := H1
   unfold cmp_Or__api_Errno.s1 at H1
   refine JQ.sub [(3, .int .i64 0), (6, .slice Aa2 vals1.length c3), (7, .int .i64 (vals1.length : Int)), (8, .int .i64 x19)] ?_
   refine JQ.turn (Δ' := [At.rd Aa2 c3 ((flInt .i64).kd) vals1 true]) (fun _ h => h.to) ?_
   refine J.seq ?_
   refine J.region ?_
   refine JL.pur (.bool (decide (x19 < (vals1.length : Int)))) (some 9) ?_
   refine JL.nil ?_
   refine JQ.then_normal ?_
   refine J.seq ?_
   rcases ite_cases H1 with ⟨h26, H1⟩ | ⟨h26, H1⟩
   · refine J.cond_true h26 ?_
     refine J.skip ?_
     refine JQ.then_normal ?_
     refine JQ.sub [(3, .int .i64 0), (6, .slice Aa2 vals1.length c3), (7, .int .i64 (vals1.length : Int)), (8, .int .i64 x19)] ?_
     refine J.seq ?_
     refine J.block ?_
     refine J.seq ?_
     refine J.region ?_
     obtain ⟨⟨h27, h28⟩, H1⟩ := ite_must H1
     refine JL.ixAddr 0 1 c3 .i64 (elems_rd Aa2 c3 ((flInt .i64).kd) vals1 true) Try.underlying86 tySize_26 h27 h28 fun g29 o30 hA => ?_
     subst hA
     refine JL.val (.int .i64 (ix vals1 x19)) (some 11) (gives_loadEl (f := (flInt .i64)) 0 0 x19 (elems_rd (some ⟨g29, o30, none⟩) c3 ((flInt .i64).kd) vals1 true) h27 h28 tySize_26 (.inr ⟨tyAgg_26, rfl, rfl⟩)) ?_
     refine JL.as (.int .i64 (ix vals1 x19)) ?_
     refine JL.nil ?_
     refine JQ.then_normal ?_
     refine JQ.sub [(3, .int .i64 0), (5, .int .i64 (ix vals1 x19)), (6, .slice (some ⟨g29, o30, none⟩) vals1.length c3), (7, .int .i64 (vals1.length : Int)), (8, .int .i64 x19)] ?_
     refine J.seq ?_
     refine J.region ?_
     refine JL.mv (.int .i64 (ix vals1 x19)) ?_
     refine JL.mv (.int .i64 0) ?_
     refine JL.pur (.bool (!decide ((ix vals1 x19) = 0))) (some 14) ?_
     refine JL.nil ?_
     refine JQ.then_normal ?_
     refine JQ.sub [(3, .int .i64 0), (5, .int .i64 (ix vals1 x19)), (6, .slice (some ⟨g29, o30, none⟩) vals1.length c3), (7, .int .i64 (vals1.length : Int)), (8, .int .i64 x19), (14, .bool (!decide ((ix vals1 x19) = 0)))] ?_
     rcases ite_cases H1 with ⟨h31, H1⟩ | ⟨h31, H1⟩
     · refine J.cond_true h31 ?_
       refine J.seq ?_
       refine J.region ?_
       refine JL.mv (.int .i64 (ix vals1 x19)) ?_
       refine JL.as (.int .i64 (ix vals1 x19)) ?_
       refine JL.nil ?_
       refine JQ.then_normal ?_
       refine JQ.sub [(2, .int .i64 (ix vals1 x19))] ?_
       refine JQ.mask [] [false] ?_
       refine J.ret ?_
       refine JQ.blk_ret ?_
       refine JQ.then_ret ?_
       refine JQ.then_ret ?_
       refine JQ.blk_ret ?_
       refine JQ.met_ret ?_
       refine JQ.then_ret ?_
       rw [hr1 _ (Option.some.inj H1).symm, fin_ret] at H0
       obtain rfl := Option.some.inj H0
       exact JQ.done' (rs := [.tmp 2]) (vs := [.int .i64 (ix vals1 x19)]) [] (.inr rfl) ⟨by kernel_rfl, trivial⟩ (fun _ h => Heap.to h) ⟨rfl, rfl⟩
     · refine J.cond_false h31 ?_
       refine J.skip ?_
       refine JQ.blk_normal ?_
       refine JQ.then_normal ?_
       refine JQ.sub [(3, .int .i64 0), (6, .slice (some ⟨g29, o30, none⟩) vals1.length c3), (7, .int .i64 (vals1.length : Int)), (8, .int .i64 x19)] ?_
       refine J.region ?_
       refine JL.pur (.int .i64 (w64 (x19 + 1))) (some 16) ?_
       refine JL.mv (.int .i64 (w64 (x19 + 1))) ?_
       refine JL.nil ?_
       refine JQ.then_normal ?_
       exact JQ.again (w64 (x19 + 1)) () (Option.some.inj H1).symm (fun _ h => Heap.to h)
   · refine J.cond_false h26 ?_
     refine J.exit ?_
     refine JQ.then_exit ?_
     refine JQ.then_exit ?_
     refine JQ.blk_exit ?_
     rw [hb1 _ (Option.some.inj H1).symm, fin_brk] at H0
     exact JQ.met () () H0 (fun _ h => Heap.to (Heap.pick [] (by decide) h))
 · clear hit H0
   rintro ⟨⟩ ⟨⟩ H0
   replace H0 : cmp_Or__api_Errno.k2 = some r := H0
   unfold cmp_Or__api_Errno.k2 at H0
   refine JQ.sub [(3, .int .i64 0)] ?_
   refine JQ.turn (Δ' := []) (fun _ h => h.to) ?_
   refine JQ.then_normal ?_
   refine J.seq ?_
   refine J.region ?_
   refine JL.mv (.int .i64 0) ?_
   refine JL.as (.int .i64 0) ?_
   refine JL.nil ?_
   refine JQ.then_normal ?_
   refine JQ.sub [(2, .int .i64 0)] ?_
   refine J.ret ?_
   obtain rfl := Option.some.inj H0
   exact JQ.done' (rs := [.tmp 2]) (vs := [.int .i64 0]) [] (.inr rfl) ⟨by kernel_rfl, trivial⟩ (fun _ h => Heap.to h) ⟨rfl, rfl⟩

theorem cx_check.ok (a1 : Cx) (b2 : Cx) (r : Int) (H0 : cx_check.f a1 b2 = some r) :
    Does Try.prog 54 [mv_23 a1, mv_23 b2].toArray [] [] false (fun v Δ => v = .int .i64 r ∧ Δ = []) := by
 refine Does.body (vs := [mv_23 a1, mv_23 b2]) Try.func54 rfl trivial trivial fun w S => ?_
 unfold cx_check.f at H0
 refine J.seq ?_
 refine J.region ?_
 refine JL.box (cl_23 a1) fun b3 => ?_
 refine JL.box (cl_23 b2) fun b4 => ?_
 refine JL.as (.int .i64 0) ?_
 refine JL.nil ?_
 refine JQ.then_normal ?_
 refine JQ.sub [(2, .pointer (some ⟨b3, 0, none⟩)), (3, .pointer (some ⟨b4, 0, none⟩))] ?_
 refine J.seq ?_
 refine J.drawT 4 ?_
 refine QL.val (mv_23 a1) (some 5) (yields_load_boxes 0 0 (cl_23 a1) (holds_box b3 23 (cl_23 a1)) tyAgg_23 tySize_23) ?_
 obtain ⟨t5, hc6, H0⟩ := bind_some H0
 refine QL.call [] [] (cx_Check.ok a1 _ hc6) trivial ?_
 refine QL.val (mv_23 b2) (some 7) (yields_load_boxes 1 0 (cl_23 b2) (holds_box b4 23 (cl_23 b2)) tyAgg_23 tySize_23) ?_
 obtain ⟨t7, hc8, H0⟩ := bind_some H0
 refine QL.call [] [] (cx_Check.ok b2 _ hc8) trivial ?_
 refine QL.nil ?_
 refine JA.nil ?_
 refine JL.buildSl 26 ((flInt .i64).kd) (([t5, t7] : List Int) : List Int) [.int .i64 t5, .int .i64 t7] false (closes_fl rfl) fun b9 => ?_
 obtain ⟨t10, hc11, H0⟩ := bind_some H0
 refine JL.call [] [] [] (cmp_Or__api_Errno.ok ([t5, t7] : List Int) (some ⟨b9, 0, none⟩) 2 _ hc11) ⟨pre_view 2 (view_row (some ⟨b9, 0, none⟩) 2 26 ((flInt .i64).kd) ([t5, t7] : List Int) false true), trivial⟩ ?_
 rintro _ _ ⟨rfl, rfl⟩
 refine JL.as (.int .i64 t10) ?_
 refine JL.nil ?_
 refine JQ.then_normal ?_
 refine JQ.sub [(4, .int .i64 t10)] ?_
 refine JQ.mask [] [false, false, false] ?_
 refine J.ret ?_
 obtain rfl := Option.some.inj H0
 exact JQ.done' (rs := [.tmp 4]) (vs := [.int .i64 t10]) [] (.inr rfl) ⟨by kernel_rfl, trivial⟩ (fun _ h => Heap.to h) ⟨rfl, rfl⟩

theorem cx_reduced.ok (re1 : Int) (im2 : Int) (den3 : Int) (r : (Cx × Int)) (H0 : cx_reduced.f re1 im2 den3 = some r) :
    Does Try.prog 55 [.int .i64 re1, .int .i64 im2, .int .i64 den3].toArray [] [] false (fun v Δ => v = .tuple #[mv_23 r.1, .int .i64 r.2] ∧ Δ = []) := by
 refine Does.body (vs := [.int .i64 re1, .int .i64 im2, .int .i64 den3]) Try.func55 rfl trivial trivial fun w S => ?_
 unfold cx_reduced.f at H0
 refine J.seq ?_
 refine J.region ?_
 refine JL.alloc (cl_23 zv_23) fun b4 => ?_
 refine JL.as (.int .i64 0) ?_
 refine JL.nil ?_
 refine JQ.then_normal ?_
 refine JQ.sub [(0, .int .i64 re1), (1, .int .i64 im2), (2, .int .i64 den3), (6, .pointer (some ⟨b4, 0, none⟩))] ?_
 refine J.seq ?_
 refine J.region ?_
 refine JL.mv (.int .i64 re1) ?_
 refine JL.mv (.int .i64 im2) ?_
 refine JL.mv (.int .i64 den3) ?_
 refine JL.buildSl 2 ((flInt .i64).kd) (([re1, im2, den3] : List Int) : List Int) [.int .i64 re1, .int .i64 im2, .int .i64 den3] false (closes_fl rfl) fun b5 => ?_
 obtain ⟨t6, hc7, H0⟩ := bind_some H0
 refine JL.call [] [] [] (cx_gcd.ok ([re1, im2, den3] : List Int) (some ⟨b5, 0, none⟩) 3 _ hc7) ⟨pre_view 1 (view_row (some ⟨b5, 0, none⟩) 3 2 ((flInt .i64).kd) ([re1, im2, den3] : List Int) false true), trivial⟩ ?_
 rintro _ _ ⟨rfl, rfl⟩
 refine JL.as (.int .i64 t6) ?_
 refine JL.nil ?_
 refine JQ.then_normal ?_
 refine JQ.sub [(0, .int .i64 re1), (1, .int .i64 im2), (2, .int .i64 den3), (6, .pointer (some ⟨b4, 0, none⟩)), (8, .int .i64 t6)] ?_
 refine JQ.mask [At.box b4 23 (cl_23 zv_23)] [true, false] ?_
 refine J.join (T := Int) (G := Unit) (fun t => cx_reduced.k1 re1 im2 den3 t = some r) (fun t g => [(0, .int .i64 re1), (1, .int .i64 im2), (2, .int .i64 den3), (6, .pointer (some ⟨b4, 0, none⟩)), (8, .int .i64 t)]) (fun t g => [At.box b4 23 (cl_23 zv_23)]) ?_ ?_
 · refine J.seq ?_
   refine J.region ?_
   refine JL.mv (.int .i64 den3) ?_
   refine JL.pur (.bool (decide (den3 < 0))) (some 16) ?_
   refine JL.nil ?_
   refine JQ.then_normal ?_
   refine JQ.sub [(0, .int .i64 re1), (1, .int .i64 im2), (2, .int .i64 den3), (6, .pointer (some ⟨b4, 0, none⟩)), (8, .int .i64 t6), (16, .bool (decide (den3 < 0)))] ?_
   rcases ite_cases H0 with ⟨h17, H0⟩ | ⟨h17, H0⟩
   · refine J.cond_true h17 ?_
     refine J.region ?_
     refine JL.mv (.int .i64 t6) ?_
     refine JL.pur (.int .i64 (w64 (0 - t6))) (some 18) ?_
     refine JL.as (.int .i64 (w64 (0 - t6))) ?_
     refine JL.nil ?_
     refine JQ.then_normal ?_
     exact JQ.meet (w64 (0 - t6)) () H0 (fun _ h => Heap.to h)
   · refine J.cond_false h17 ?_
     refine J.skip ?_
     refine JQ.then_normal ?_
     exact JQ.meet t6 () H0 (fun _ h => Heap.to h)
 · clear H0
   rintro g9 ⟨⟩ H0
   replace H0 : cx_reduced.k1 re1 im2 den3 g9 = some r := H0
   unfold cx_reduced.k1 at H0
   refine JQ.sub [(0, .int .i64 re1), (1, .int .i64 im2), (2, .int .i64 den3), (6, .pointer (some ⟨b4, 0, none⟩)), (8, .int .i64 g9)] ?_
   refine JQ.turn (Δ' := [At.box b4 23 (cl_23 zv_23)]) (fun _ h => h.to) ?_
   refine J.seq ?_
   refine J.drawA 11 [⟨10, 9, 23, [.int .i64 0, .int .i64 0, .int .i64 0]⟩] ?_ (by simp only [List.mem_cons, List.not_mem_nil, or_false, forall_eq_or_imp, forall_eq]; exact ⟨by decide, ⟨_, _, _, rfl⟩, by kernel_rfl⟩)
   refine QL.mv (.int .i64 re1) ?_
   refine QL.mv (.int .i64 g9) ?_
   obtain ⟨h10, H0⟩ := ite_must H0
   refine QL.val (.int .i64 (w64 (Int.tdiv re1 g9))) (some 21) (gives_quo .i64 re1 g9 h10) ?_
   refine QL.mv (.int .i64 im2) ?_
   refine QL.mv (.int .i64 g9) ?_
   obtain ⟨h11, H0⟩ := ite_must H0
   refine QL.val (.int .i64 (w64 (Int.tdiv im2 g9))) (some 24) (gives_quo .i64 im2 g9 h11) ?_
   refine QL.mv (.int .i64 den3) ?_
   refine QL.mv (.int .i64 g9) ?_
   obtain ⟨h12, H0⟩ := ite_must H0
   refine QL.val (.int .i64 (w64 (Int.tdiv den3 g9))) (some 27) (gives_quo .i64 den3 g9 h12) ?_
   refine QL.pur (.agg #[.int .i64 (w64 (Int.tdiv re1 g9)), .int .i64 (w64 (Int.tdiv im2 g9)), .int .i64 (w64 (Int.tdiv den3 g9))]) (some 28) ?_
   refine QL.skipA ?_
   refine QL.nil ?_
   refine JA.alloc fun b13 => ?_
   refine JA.nil ?_
   refine JL.store 1 b13 0 23 (cl_23 zv_23) [.int .i64 (w64 (Int.tdiv re1 g9)), .int .i64 (w64 (Int.tdiv im2 g9)), .int .i64 (w64 (Int.tdiv den3 g9))] tySize_23 ?_
   refine JL.nil ?_
   refine JQ.then_normal ?_
   refine JQ.sub [(6, .pointer (some ⟨b4, 0, none⟩)), (9, .pointer (some ⟨b13, 0, none⟩))] ?_
   refine J.seq ?_
   refine J.seq ?_
   refine J.region ?_
   refine JL.val (.agg #[.int .i64 (w64 (Int.tdiv re1 g9)), .int .i64 (w64 (Int.tdiv im2 g9)), .int .i64 (w64 (Int.tdiv den3 g9))]) (some 29) (yields_load_boxes 1 0 [.int .i64 (w64 (Int.tdiv re1 g9)), .int .i64 (w64 (Int.tdiv im2 g9)), .int .i64 (w64 (Int.tdiv den3 g9))] (holds_box b13 23 [.int .i64 (w64 (Int.tdiv re1 g9)), .int .i64 (w64 (Int.tdiv im2 g9)), .int .i64 (w64 (Int.tdiv den3 g9))]) tyAgg_23 tySize_23) ?_
   obtain ⟨t14, hc15, H0⟩ := bind_some H0
   refine JL.call [] [] [] (cx_Check.ok (⟨(w64 (Int.tdiv re1 g9)), (w64 (Int.tdiv im2 g9)), (w64 (Int.tdiv den3 g9))⟩ : Cx) _ hc15) trivial ?_
   rintro _ _ ⟨rfl, rfl⟩
   refine JL.pur (.bool (!decide (t14 = 0))) (some 31) ?_
   refine JL.nil ?_
   refine JQ.then_normal ?_
   refine JQ.sub [(6, .pointer (some ⟨b4, 0, none⟩)), (9, .pointer (some ⟨b13, 0, none⟩)), (31, .bool (!decide (t14 = 0)))] ?_
   rcases ite_cases H0 with ⟨h16, H0⟩ | ⟨h16, H0⟩
   · refine J.cond_true h16 ?_
     refine J.seq ?_
     refine J.region ?_
     refine JL.pur (mv_23 zv_23) (some 32) ?_
     refine JL.store 0 b4 0 23 (cl_23 zv_23) (cl_23 zv_23) tySize_23 ?_
     refine JL.as (.int .i64 16) ?_
     refine JL.nil ?_
     refine JQ.then_normal ?_
     refine JQ.sub [(6, .pointer (some ⟨b4, 0, none⟩)), (7, .int .i64 16)] ?_
     refine JQ.mask [At.box b4 23 (cl_23 zv_23)] [true, false] ?_
     refine J.ret ?_
     refine JQ.then_ret ?_
     obtain rfl := Option.some.inj H0
     exact JQ.done' (rs := [.cell 6 23, .tmp 7]) (vs := [.agg #[.int .i64 0, .int .i64 0, .int .i64 0], .int .i64 16]) [] (.inr rfl) ⟨⟨b4, 0, _, _, by kernel_rfl, by kernel_rfl, holds_box b4 23 (cl_23 zv_23), .inl ⟨tyAgg_23, tySize_23, rfl⟩⟩, by kernel_rfl, trivial⟩ (fun _ h => Heap.to (Heap.pick [] (by decide) h)) ⟨rfl, rfl⟩
   · refine J.cond_false h16 ?_
     refine J.skip ?_
     refine JQ.then_normal ?_
     refine JQ.sub [(6, .pointer (some ⟨b4, 0, none⟩)), (9, .pointer (some ⟨b13, 0, none⟩))] ?_
     refine J.seq ?_
     refine J.region ?_
     refine JL.val (.agg #[.int .i64 (w64 (Int.tdiv re1 g9)), .int .i64 (w64 (Int.tdiv im2 g9)), .int .i64 (w64 (Int.tdiv den3 g9))]) (some 33) (yields_load_boxes 1 0 [.int .i64 (w64 (Int.tdiv re1 g9)), .int .i64 (w64 (Int.tdiv im2 g9)), .int .i64 (w64 (Int.tdiv den3 g9))] (holds_box b13 23 [.int .i64 (w64 (Int.tdiv re1 g9)), .int .i64 (w64 (Int.tdiv im2 g9)), .int .i64 (w64 (Int.tdiv den3 g9))]) tyAgg_23 tySize_23) ?_
     refine JL.store 0 b4 0 23 (cl_23 zv_23) [.int .i64 (w64 (Int.tdiv re1 g9)), .int .i64 (w64 (Int.tdiv im2 g9)), .int .i64 (w64 (Int.tdiv den3 g9))] tySize_23 ?_
     refine JL.as (.int .i64 0) ?_
     refine JL.nil ?_
     refine JQ.then_normal ?_
     refine JQ.sub [(6, .pointer (some ⟨b4, 0, none⟩)), (7, .int .i64 0)] ?_
     refine JQ.mask [At.box b4 23 [.int .i64 (w64 (Int.tdiv re1 g9)), .int .i64 (w64 (Int.tdiv im2 g9)), .int .i64 (w64 (Int.tdiv den3 g9))]] [true, false] ?_
     refine J.ret ?_
     obtain rfl := Option.some.inj H0
     exact JQ.done' (rs := [.cell 6 23, .tmp 7]) (vs := [.agg #[.int .i64 (w64 (Int.tdiv re1 g9)), .int .i64 (w64 (Int.tdiv im2 g9)), .int .i64 (w64 (Int.tdiv den3 g9))], .int .i64 0]) [] (.inr rfl) ⟨⟨b4, 0, _, _, by kernel_rfl, by kernel_rfl, holds_box b4 23 [.int .i64 (w64 (Int.tdiv re1 g9)), .int .i64 (w64 (Int.tdiv im2 g9)), .int .i64 (w64 (Int.tdiv den3 g9))], .inl ⟨tyAgg_23, tySize_23, rfl⟩⟩, by kernel_rfl, trivial⟩ (fun _ h => Heap.to (Heap.pick [] (by decide) h)) ⟨rfl, rfl⟩

theorem cx_Mul.ok (a1 : Cx) (b2 : Cx) (r : (Cx × Int)) (H0 : cx_Mul.f a1 b2 = some r) :
    Does Try.prog 25 [mv_23 a1, mv_23 b2].toArray [] [] false (fun v Δ => v = .tuple #[mv_23 r.1, .int .i64 r.2] ∧ Δ = []) := by
 refine Does.body (vs := [mv_23 a1, mv_23 b2]) Try.func25 rfl trivial trivial fun w S => ?_
 unfold cx_Mul.f at H0
 refine J.seq ?_
 refine J.region ?_
 refine JL.box (cl_23 a1) fun b3 => ?_
 refine JL.box (cl_23 b2) fun b4 => ?_
 refine JL.alloc (cl_23 zv_23) fun b5 => ?_
 refine JL.as (.int .i64 0) ?_
 refine JL.nil ?_
 refine JQ.then_normal ?_
 refine JQ.sub [(2, .pointer (some ⟨b3, 0, none⟩)), (3, .pointer (some ⟨b4, 0, none⟩)), (4, .pointer (some ⟨b5, 0, none⟩))] ?_
 refine J.seq ?_
 refine J.seq ?_
 refine J.region ?_
 refine JL.val (mv_23 a1) (some 7) (yields_load_boxes 0 0 (cl_23 a1) (holds_box b3 23 (cl_23 a1)) tyAgg_23 tySize_23) ?_
 refine JL.val (mv_23 b2) (some 8) (yields_load_boxes 1 0 (cl_23 b2) (holds_box b4 23 (cl_23 b2)) tyAgg_23 tySize_23) ?_
 obtain ⟨t6, hc7, H0⟩ := bind_some H0
 refine JL.call [] [] [] (cx_check.ok a1 b2 _ hc7) trivial ?_
 rintro _ _ ⟨rfl, rfl⟩
 refine JL.as (.int .i64 t6) ?_
 refine JL.nil ?_
 refine JQ.then_normal ?_
 refine JQ.sub [(2, .pointer (some ⟨b3, 0, none⟩)), (3, .pointer (some ⟨b4, 0, none⟩)), (4, .pointer (some ⟨b5, 0, none⟩)), (6, .int .i64 t6)] ?_
 refine J.seq ?_
 refine J.region ?_
 refine JL.mv (.int .i64 t6) ?_
 refine JL.pur (.bool (!decide (t6 = 0))) (some 11) ?_
 refine JL.nil ?_
 refine JQ.then_normal ?_
 refine JQ.sub [(2, .pointer (some ⟨b3, 0, none⟩)), (3, .pointer (some ⟨b4, 0, none⟩)), (4, .pointer (some ⟨b5, 0, none⟩)), (6, .int .i64 t6), (11, .bool (!decide (t6 = 0)))] ?_
 rcases ite_cases H0 with ⟨h8, H0⟩ | ⟨h8, H0⟩
 · refine J.cond_true h8 ?_
   refine J.seq ?_
   refine J.region ?_
   refine JL.pur (mv_23 zv_23) (some 12) ?_
   refine JL.mv (.int .i64 t6) ?_
   refine JL.store 2 b5 0 23 (cl_23 zv_23) (cl_23 zv_23) tySize_23 ?_
   refine JL.as (.int .i64 t6) ?_
   refine JL.nil ?_
   refine JQ.then_normal ?_
   refine JQ.sub [(4, .pointer (some ⟨b5, 0, none⟩)), (5, .int .i64 t6)] ?_
   refine JQ.mask [At.box b5 23 (cl_23 zv_23)] [false, false, true] ?_
   refine J.ret ?_
   refine JQ.then_ret ?_
   obtain rfl := Option.some.inj H0
   exact JQ.done' (rs := [.cell 4 23, .tmp 5]) (vs := [.agg #[.int .i64 0, .int .i64 0, .int .i64 0], .int .i64 t6]) [] (.inr rfl) ⟨⟨b5, 0, _, _, by kernel_rfl, by kernel_rfl, holds_box b5 23 (cl_23 zv_23), .inl ⟨tyAgg_23, tySize_23, rfl⟩⟩, by kernel_rfl, trivial⟩ (fun _ h => Heap.to (Heap.pick [] (by decide) h)) ⟨rfl, rfl⟩
 · refine J.cond_false h8 ?_
   refine J.skip ?_
   refine JQ.then_normal ?_
   refine JQ.sub [(2, .pointer (some ⟨b3, 0, none⟩)), (3, .pointer (some ⟨b4, 0, none⟩)), (4, .pointer (some ⟨b5, 0, none⟩))] ?_
   refine J.seq ?_
   refine J.region ?_
   refine JL.pur (.pointer (some ⟨b3, 0, none⟩)) (some 14) ?_
   refine JL.val (.int .i64 a1.Re) (some 15) (yields_load_box 0 0 (holds_box b3 23 (cl_23 a1)) tyAgg_2) ?_
   refine JL.pur (.pointer (some ⟨b4, 0, none⟩)) (some 16) ?_
   refine JL.val (.int .i64 b2.Re) (some 17) (yields_load_box 1 0 (holds_box b4 23 (cl_23 b2)) tyAgg_2) ?_
   refine JL.pur (.int .i64 (w64 (a1.Re * b2.Re))) (some 18) ?_
   refine JL.pur (.pointer (some ⟨b3, 1, none⟩)) (some 19) ?_
   refine JL.val (.int .i64 a1.Im) (some 20) (yields_load_box 0 1 (holds_box b3 23 (cl_23 a1)) tyAgg_2) ?_
   refine JL.pur (.pointer (some ⟨b4, 1, none⟩)) (some 21) ?_
   refine JL.val (.int .i64 b2.Im) (some 22) (yields_load_box 1 1 (holds_box b4 23 (cl_23 b2)) tyAgg_2) ?_
   refine JL.pur (.int .i64 (w64 (a1.Im * b2.Im))) (some 23) ?_
   refine JL.pur (.int .i64 (w64 ((w64 (a1.Re * b2.Re)) - (w64 (a1.Im * b2.Im))))) (some 24) ?_
   refine JL.pur (.pointer (some ⟨b3, 0, none⟩)) (some 25) ?_
   refine JL.val (.int .i64 a1.Re) (some 26) (yields_load_box 0 0 (holds_box b3 23 (cl_23 a1)) tyAgg_2) ?_
   refine JL.pur (.pointer (some ⟨b4, 1, none⟩)) (some 27) ?_
   refine JL.val (.int .i64 b2.Im) (some 28) (yields_load_box 1 1 (holds_box b4 23 (cl_23 b2)) tyAgg_2) ?_
   refine JL.pur (.int .i64 (w64 (a1.Re * b2.Im))) (some 29) ?_
   refine JL.pur (.pointer (some ⟨b3, 1, none⟩)) (some 30) ?_
   refine JL.val (.int .i64 a1.Im) (some 31) (yields_load_box 0 1 (holds_box b3 23 (cl_23 a1)) tyAgg_2) ?_
   refine JL.pur (.pointer (some ⟨b4, 0, none⟩)) (some 32) ?_
   refine JL.val (.int .i64 b2.Re) (some 33) (yields_load_box 1 0 (holds_box b4 23 (cl_23 b2)) tyAgg_2) ?_
   refine JL.pur (.int .i64 (w64 (a1.Im * b2.Re))) (some 34) ?_
   refine JL.pur (.int .i64 (w64 ((w64 (a1.Re * b2.Im)) + (w64 (a1.Im * b2.Re))))) (some 35) ?_
   refine JL.pur (.pointer (some ⟨b3, 2, none⟩)) (some 36) ?_
   refine JL.val (.int .i64 a1.Den) (some 37) (yields_load_box 0 2 (holds_box b3 23 (cl_23 a1)) tyAgg_2) ?_
   refine JL.pur (.pointer (some ⟨b4, 2, none⟩)) (some 38) ?_
   refine JL.val (.int .i64 b2.Den) (some 39) (yields_load_box 1 2 (holds_box b4 23 (cl_23 b2)) tyAgg_2) ?_
   refine JL.pur (.int .i64 (w64 (a1.Den * b2.Den))) (some 40) ?_
   obtain ⟨t9, hc10, H0⟩ := bind_some H0
   refine JL.call [] [] [] (cx_reduced.ok (w64 ((w64 (a1.Re * b2.Re)) - (w64 (a1.Im * b2.Im)))) (w64 ((w64 (a1.Re * b2.Im)) + (w64 (a1.Im * b2.Re)))) (w64 (a1.Den * b2.Den)) _ hc10) trivial ?_
   rintro _ _ ⟨rfl, rfl⟩
   refine JL.pur (mv_23 t9.1) (some 42) ?_
   refine JL.pur (.int .i64 t9.2) (some 43) ?_
   refine JL.store 2 b5 0 23 (cl_23 zv_23) (cl_23 t9.1) tySize_23 ?_
   refine JL.as (.int .i64 t9.2) ?_
   refine JL.nil ?_
   refine JQ.then_normal ?_
   refine JQ.sub [(4, .pointer (some ⟨b5, 0, none⟩)), (5, .int .i64 t9.2)] ?_
   refine JQ.mask [At.box b5 23 (cl_23 t9.1)] [false, false, true] ?_
   refine J.ret ?_
   obtain rfl := Option.some.inj H0
   exact JQ.done' (rs := [.cell 4 23, .tmp 5]) (vs := [.agg #[.int .i64 t9.1.Re, .int .i64 t9.1.Im, .int .i64 t9.1.Den], .int .i64 t9.2]) [] (.inr rfl) ⟨⟨b5, 0, _, _, by kernel_rfl, by kernel_rfl, holds_box b5 23 (cl_23 t9.1), .inl ⟨tyAgg_23, tySize_23, rfl⟩⟩, by kernel_rfl, trivial⟩ (fun _ h => Heap.to (Heap.pick [] (by decide) h)) ⟨rfl, rfl⟩

theorem cx_Sub.ok (a1 : Cx) (b2 : Cx) (r : (Cx × Int)) (H0 : cx_Sub.f a1 b2 = some r) :
    Does Try.prog 39 [mv_23 a1, mv_23 b2].toArray [] [] false (fun v Δ => v = .tuple #[mv_23 r.1, .int .i64 r.2] ∧ Δ = []) := by
 refine Does.body (vs := [mv_23 a1, mv_23 b2]) Try.func39 rfl trivial trivial fun w S => ?_
 unfold cx_Sub.f at H0
 refine J.seq ?_
 refine J.region ?_
 refine JL.box (cl_23 a1) fun b3 => ?_
 refine JL.box (cl_23 b2) fun b4 => ?_
 refine JL.alloc (cl_23 zv_23) fun b5 => ?_
 refine JL.as (.int .i64 0) ?_
 refine JL.nil ?_
 refine JQ.then_normal ?_
 refine JQ.sub [(2, .pointer (some ⟨b3, 0, none⟩)), (3, .pointer (some ⟨b4, 0, none⟩)), (4, .pointer (some ⟨b5, 0, none⟩))] ?_
 refine J.seq ?_
 refine J.seq ?_
 refine J.region ?_
 refine JL.val (mv_23 a1) (some 7) (yields_load_boxes 0 0 (cl_23 a1) (holds_box b3 23 (cl_23 a1)) tyAgg_23 tySize_23) ?_
 refine JL.val (mv_23 b2) (some 8) (yields_load_boxes 1 0 (cl_23 b2) (holds_box b4 23 (cl_23 b2)) tyAgg_23 tySize_23) ?_
 obtain ⟨t6, hc7, H0⟩ := bind_some H0
 refine JL.call [] [] [] (cx_check.ok a1 b2 _ hc7) trivial ?_
 rintro _ _ ⟨rfl, rfl⟩
 refine JL.as (.int .i64 t6) ?_
 refine JL.nil ?_
 refine JQ.then_normal ?_
 refine JQ.sub [(2, .pointer (some ⟨b3, 0, none⟩)), (3, .pointer (some ⟨b4, 0, none⟩)), (4, .pointer (some ⟨b5, 0, none⟩)), (6, .int .i64 t6)] ?_
 refine J.seq ?_
 refine J.region ?_
 refine JL.mv (.int .i64 t6) ?_
 refine JL.pur (.bool (!decide (t6 = 0))) (some 11) ?_
 refine JL.nil ?_
 refine JQ.then_normal ?_
 refine JQ.sub [(2, .pointer (some ⟨b3, 0, none⟩)), (3, .pointer (some ⟨b4, 0, none⟩)), (4, .pointer (some ⟨b5, 0, none⟩)), (6, .int .i64 t6), (11, .bool (!decide (t6 = 0)))] ?_
 rcases ite_cases H0 with ⟨h8, H0⟩ | ⟨h8, H0⟩
 · refine J.cond_true h8 ?_
   refine J.seq ?_
   refine J.region ?_
   refine JL.pur (mv_23 zv_23) (some 12) ?_
   refine JL.mv (.int .i64 t6) ?_
   refine JL.store 2 b5 0 23 (cl_23 zv_23) (cl_23 zv_23) tySize_23 ?_
   refine JL.as (.int .i64 t6) ?_
   refine JL.nil ?_
   refine JQ.then_normal ?_
   refine JQ.sub [(4, .pointer (some ⟨b5, 0, none⟩)), (5, .int .i64 t6)] ?_
   refine JQ.mask [At.box b5 23 (cl_23 zv_23)] [false, false, true] ?_
   refine J.ret ?_
   refine JQ.then_ret ?_
   obtain rfl := Option.some.inj H0
   exact JQ.done' (rs := [.cell 4 23, .tmp 5]) (vs := [.agg #[.int .i64 0, .int .i64 0, .int .i64 0], .int .i64 t6]) [] (.inr rfl) ⟨⟨b5, 0, _, _, by kernel_rfl, by kernel_rfl, holds_box b5 23 (cl_23 zv_23), .inl ⟨tyAgg_23, tySize_23, rfl⟩⟩, by kernel_rfl, trivial⟩ (fun _ h => Heap.to (Heap.pick [] (by decide) h)) ⟨rfl, rfl⟩
 · refine J.cond_false h8 ?_
   refine J.skip ?_
   refine JQ.then_normal ?_
   refine JQ.sub [(2, .pointer (some ⟨b3, 0, none⟩)), (3, .pointer (some ⟨b4, 0, none⟩)), (4, .pointer (some ⟨b5, 0, none⟩))] ?_
   refine J.seq ?_
   refine J.region ?_
   refine JL.pur (.pointer (some ⟨b3, 0, none⟩)) (some 14) ?_
   refine JL.val (.int .i64 a1.Re) (some 15) (yields_load_box 0 0 (holds_box b3 23 (cl_23 a1)) tyAgg_2) ?_
   refine JL.pur (.pointer (some ⟨b4, 2, none⟩)) (some 16) ?_
   refine JL.val (.int .i64 b2.Den) (some 17) (yields_load_box 1 2 (holds_box b4 23 (cl_23 b2)) tyAgg_2) ?_
   refine JL.pur (.int .i64 (w64 (a1.Re * b2.Den))) (some 18) ?_
   refine JL.pur (.pointer (some ⟨b4, 0, none⟩)) (some 19) ?_
   refine JL.val (.int .i64 b2.Re) (some 20) (yields_load_box 1 0 (holds_box b4 23 (cl_23 b2)) tyAgg_2) ?_
   refine JL.pur (.pointer (some ⟨b3, 2, none⟩)) (some 21) ?_
   refine JL.val (.int .i64 a1.Den) (some 22) (yields_load_box 0 2 (holds_box b3 23 (cl_23 a1)) tyAgg_2) ?_
   refine JL.pur (.int .i64 (w64 (b2.Re * a1.Den))) (some 23) ?_
   refine JL.pur (.int .i64 (w64 ((w64 (a1.Re * b2.Den)) - (w64 (b2.Re * a1.Den))))) (some 24) ?_
   refine JL.pur (.pointer (some ⟨b3, 1, none⟩)) (some 25) ?_
   refine JL.val (.int .i64 a1.Im) (some 26) (yields_load_box 0 1 (holds_box b3 23 (cl_23 a1)) tyAgg_2) ?_
   refine JL.pur (.pointer (some ⟨b4, 2, none⟩)) (some 27) ?_
   refine JL.val (.int .i64 b2.Den) (some 28) (yields_load_box 1 2 (holds_box b4 23 (cl_23 b2)) tyAgg_2) ?_
   refine JL.pur (.int .i64 (w64 (a1.Im * b2.Den))) (some 29) ?_
   refine JL.pur (.pointer (some ⟨b4, 1, none⟩)) (some 30) ?_
   refine JL.val (.int .i64 b2.Im) (some 31) (yields_load_box 1 1 (holds_box b4 23 (cl_23 b2)) tyAgg_2) ?_
   refine JL.pur (.pointer (some ⟨b3, 2, none⟩)) (some 32) ?_
   refine JL.val (.int .i64 a1.Den) (some 33) (yields_load_box 0 2 (holds_box b3 23 (cl_23 a1)) tyAgg_2) ?_
   refine JL.pur (.int .i64 (w64 (b2.Im * a1.Den))) (some 34) ?_
   refine JL.pur (.int .i64 (w64 ((w64 (a1.Im * b2.Den)) - (w64 (b2.Im * a1.Den))))) (some 35) ?_
   refine JL.pur (.pointer (some ⟨b3, 2, none⟩)) (some 36) ?_
   refine JL.val (.int .i64 a1.Den) (some 37) (yields_load_box 0 2 (holds_box b3 23 (cl_23 a1)) tyAgg_2) ?_
   refine JL.pur (.pointer (some ⟨b4, 2, none⟩)) (some 38) ?_
   refine JL.val (.int .i64 b2.Den) (some 39) (yields_load_box 1 2 (holds_box b4 23 (cl_23 b2)) tyAgg_2) ?_
   refine JL.pur (.int .i64 (w64 (a1.Den * b2.Den))) (some 40) ?_
   obtain ⟨t9, hc10, H0⟩ := bind_some H0
   refine JL.call [] [] [] (cx_reduced.ok (w64 ((w64 (a1.Re * b2.Den)) - (w64 (b2.Re * a1.Den)))) (w64 ((w64 (a1.Im * b2.Den)) - (w64 (b2.Im * a1.Den)))) (w64 (a1.Den * b2.Den)) _ hc10) trivial ?_
   rintro _ _ ⟨rfl, rfl⟩
   refine JL.pur (mv_23 t9.1) (some 42) ?_
   refine JL.pur (.int .i64 t9.2) (some 43) ?_
   refine JL.store 2 b5 0 23 (cl_23 zv_23) (cl_23 t9.1) tySize_23 ?_
   refine JL.as (.int .i64 t9.2) ?_
   refine JL.nil ?_
   refine JQ.then_normal ?_
   refine JQ.sub [(4, .pointer (some ⟨b5, 0, none⟩)), (5, .int .i64 t9.2)] ?_
   refine JQ.mask [At.box b5 23 (cl_23 t9.1)] [false, false, true] ?_
   refine J.ret ?_
   obtain rfl := Option.some.inj H0
   exact JQ.done' (rs := [.cell 4 23, .tmp 5]) (vs := [.agg #[.int .i64 t9.1.Re, .int .i64 t9.1.Im, .int .i64 t9.1.Den], .int .i64 t9.2]) [] (.inr rfl) ⟨⟨b5, 0, _, _, by kernel_rfl, by kernel_rfl, holds_box b5 23 (cl_23 t9.1), .inl ⟨tyAgg_23, tySize_23, rfl⟩⟩, by kernel_rfl, trivial⟩ (fun _ h => Heap.to (Heap.pick [] (by decide) h)) ⟨rfl, rfl⟩

theorem jones_Det.ok (a1 : (A4 Cx)) (r : (Cx × Int)) (H0 : jones_Det.f a1 = some r) :
    Does Try.prog 13 [mv_25 a1].toArray [] [] false (fun v Δ => v = .tuple #[mv_23 r.1, .int .i64 r.2] ∧ Δ = []) := by
 refine Does.body (vs := [mv_25 a1]) Try.func13 rfl trivial trivial fun w S => ?_
 unfold jones_Det.f at H0
 refine J.seq ?_
 refine J.region ?_
 refine JL.box (cl_25 a1) fun b2 => ?_
 refine JL.alloc (cl_23 zv_23) fun b3 => ?_
 refine JL.as (.int .i64 0) ?_
 refine JL.nil ?_
 refine JQ.then_normal ?_
 refine JQ.sub [(1, .pointer (some ⟨b2, 0, none⟩)), (2, .pointer (some ⟨b3, 0, none⟩))] ?_
 refine J.seq ?_
 refine J.seq ?_
 refine J.region ?_
 refine JL.val (mv_25 a1) (some 9) (yields_load_boxes 0 0 (cl_25 a1) (holds_box b2 25 (cl_25 a1)) tyAgg_25 tySize_25) ?_
 obtain ⟨t4, hc5, H0⟩ := bind_some H0
 refine JL.call [] [] [] (jones_valid.ok a1 _ hc5) trivial ?_
 rintro _ _ ⟨rfl, rfl⟩
 refine JL.pur (.bool (!t4)) (some 11) ?_
 refine JL.nil ?_
 refine JQ.then_normal ?_
 refine JQ.sub [(1, .pointer (some ⟨b2, 0, none⟩)), (2, .pointer (some ⟨b3, 0, none⟩)), (11, .bool (!t4))] ?_
 rcases ite_cases H0 with ⟨h6, H0⟩ | ⟨h6, H0⟩
 · refine J.cond_true h6 ?_
   refine J.seq ?_
   refine J.region ?_
   refine JL.pur (mv_23 zv_23) (some 12) ?_
   refine JL.store 1 b3 0 23 (cl_23 zv_23) (cl_23 zv_23) tySize_23 ?_
   refine JL.as (.int .i64 8) ?_
   refine JL.nil ?_
   refine JQ.then_normal ?_
   refine JQ.sub [(2, .pointer (some ⟨b3, 0, none⟩)), (3, .int .i64 8)] ?_
   refine JQ.mask [At.box b3 23 (cl_23 zv_23)] [false, true] ?_
   refine J.ret ?_
   refine JQ.then_ret ?_
   obtain rfl := Option.some.inj H0
   exact JQ.done' (rs := [.cell 2 23, .tmp 3]) (vs := [.agg #[.int .i64 0, .int .i64 0, .int .i64 0], .int .i64 8]) [] (.inr rfl) ⟨⟨b3, 0, _, _, by kernel_rfl, by kernel_rfl, holds_box b3 23 (cl_23 zv_23), .inl ⟨tyAgg_23, tySize_23, rfl⟩⟩, by kernel_rfl, trivial⟩ (fun _ h => Heap.to (Heap.pick [] (by decide) h)) ⟨rfl, rfl⟩
 · refine J.cond_false h6 ?_
   refine J.skip ?_
   refine JQ.then_normal ?_
   refine JQ.sub [(1, .pointer (some ⟨b2, 0, none⟩)), (2, .pointer (some ⟨b3, 0, none⟩))] ?_
   refine J.seq ?_
   refine J.region ?_
   refine JL.pur (.pointer (some ⟨b2, 0, none⟩)) (some 14) ?_
   refine JL.val (mv_23 a1.e0) (some 15) (yields_load_boxes 0 0 (cl_23 a1.e0) (holds_box b2 25 (cl_25 a1)) tyAgg_23 tySize_23) ?_
   refine JL.pur (.pointer (some ⟨b2, 9, none⟩)) (some 16) ?_
   refine JL.val (mv_23 a1.e3) (some 17) (yields_load_boxes 0 9 (cl_23 a1.e3) (holds_box b2 25 (cl_25 a1)) tyAgg_23 tySize_23) ?_
   obtain ⟨t7, hc8, H0⟩ := bind_some H0
   refine JL.call [] [] [] (cx_Mul.ok a1.e0 a1.e3 _ hc8) trivial ?_
   rintro _ _ ⟨rfl, rfl⟩
   refine JL.mv (.tuple #[mv_23 t7.1, .int .i64 t7.2]) ?_
   refine JL.pur (mv_23 t7.1) (some 19) ?_
   refine JL.pur (.int .i64 t7.2) (some 20) ?_
   refine JL.alloc (cl_23 zv_23) fun b9 => ?_
   refine JL.store 2 b9 0 23 (cl_23 zv_23) (cl_23 t7.1) tySize_23 ?_
   refine JL.as (.int .i64 t7.2) ?_
   refine JL.nil ?_
   refine JQ.then_normal ?_
   refine JQ.sub [(1, .pointer (some ⟨b2, 0, none⟩)), (2, .pointer (some ⟨b3, 0, none⟩)), (4, .pointer (some ⟨b9, 0, none⟩)), (5, .int .i64 t7.2)] ?_
   refine J.seq ?_
   refine J.region ?_
   refine JL.pur (.pointer (some ⟨b2, 3, none⟩)) (some 22) ?_
   refine JL.val (mv_23 a1.e1) (some 23) (yields_load_boxes 0 3 (cl_23 a1.e1) (holds_box b2 25 (cl_25 a1)) tyAgg_23 tySize_23) ?_
   refine JL.pur (.pointer (some ⟨b2, 6, none⟩)) (some 24) ?_
   refine JL.val (mv_23 a1.e2) (some 25) (yields_load_boxes 0 6 (cl_23 a1.e2) (holds_box b2 25 (cl_25 a1)) tyAgg_23 tySize_23) ?_
   obtain ⟨t10, hc11, H0⟩ := bind_some H0
   refine JL.call [] [] [] (cx_Mul.ok a1.e1 a1.e2 _ hc11) trivial ?_
   rintro _ _ ⟨rfl, rfl⟩
   refine JL.mv (.tuple #[mv_23 t10.1, .int .i64 t10.2]) ?_
   refine JL.pur (mv_23 t10.1) (some 27) ?_
   refine JL.pur (.int .i64 t10.2) (some 28) ?_
   refine JL.alloc (cl_23 zv_23) fun b12 => ?_
   refine JL.store 3 b12 0 23 (cl_23 zv_23) (cl_23 t10.1) tySize_23 ?_
   refine JL.as (.int .i64 t10.2) ?_
   refine JL.nil ?_
   refine JQ.then_normal ?_
   refine JQ.sub [(2, .pointer (some ⟨b3, 0, none⟩)), (4, .pointer (some ⟨b9, 0, none⟩)), (5, .int .i64 t7.2), (6, .pointer (some ⟨b12, 0, none⟩)), (7, .int .i64 t10.2)] ?_
   refine JQ.mask [At.box b3 23 (cl_23 zv_23), At.box b9 23 (cl_23 t7.1), At.box b12 23 (cl_23 t10.1)] [false, true, true, true] ?_
   refine J.seq ?_
   refine J.seq ?_
   refine J.region ?_
   refine JL.mv (.int .i64 t7.2) ?_
   refine JL.mv (.int .i64 t10.2) ?_
   refine JL.buildSl 26 ((flInt .i64).kd) (([t7.2, t10.2] : List Int) : List Int) [.int .i64 t7.2, .int .i64 t10.2] false (closes_fl rfl) fun b13 => ?_
   obtain ⟨t14, hc15, H0⟩ := bind_some H0
   refine JL.call [] [] [] (cmp_Or__api_Errno.ok ([t7.2, t10.2] : List Int) (some ⟨b13, 0, none⟩) 2 _ hc15) ⟨pre_view 3 (view_row (some ⟨b13, 0, none⟩) 2 26 ((flInt .i64).kd) ([t7.2, t10.2] : List Int) false true), trivial⟩ ?_
   rintro _ _ ⟨rfl, rfl⟩
   refine JL.as (.int .i64 t14) ?_
   refine JL.nil ?_
   refine JQ.then_normal ?_
   refine JQ.sub [(2, .pointer (some ⟨b3, 0, none⟩)), (4, .pointer (some ⟨b9, 0, none⟩)), (6, .pointer (some ⟨b12, 0, none⟩)), (8, .int .i64 t14)] ?_
   refine JQ.mask [At.box b3 23 (cl_23 zv_23), At.box b9 23 (cl_23 t7.1), At.box b12 23 (cl_23 t10.1)] [true, true, true, false] ?_
   refine J.seq ?_
   refine J.region ?_
   refine JL.mv (.int .i64 t14) ?_
   refine JL.pur (.bool (!decide (t14 = 0))) (some 34) ?_
   refine JL.nil ?_
   refine JQ.then_normal ?_
   refine JQ.sub [(2, .pointer (some ⟨b3, 0, none⟩)), (4, .pointer (some ⟨b9, 0, none⟩)), (6, .pointer (some ⟨b12, 0, none⟩)), (8, .int .i64 t14), (34, .bool (!decide (t14 = 0)))] ?_
   rcases ite_cases H0 with ⟨h16, H0⟩ | ⟨h16, H0⟩
   · refine J.cond_true h16 ?_
     refine J.seq ?_
     refine J.region ?_
     refine JL.pur (mv_23 zv_23) (some 35) ?_
     refine JL.mv (.int .i64 t14) ?_
     refine JL.store 0 b3 0 23 (cl_23 zv_23) (cl_23 zv_23) tySize_23 ?_
     refine JL.as (.int .i64 t14) ?_
     refine JL.nil ?_
     refine JQ.then_normal ?_
     refine JQ.sub [(2, .pointer (some ⟨b3, 0, none⟩)), (3, .int .i64 t14)] ?_
     refine JQ.mask [At.box b3 23 (cl_23 zv_23)] [true, false, false] ?_
     refine J.ret ?_
     refine JQ.then_ret ?_
     obtain rfl := Option.some.inj H0
     exact JQ.done' (rs := [.cell 2 23, .tmp 3]) (vs := [.agg #[.int .i64 0, .int .i64 0, .int .i64 0], .int .i64 t14]) [] (.inr rfl) ⟨⟨b3, 0, _, _, by kernel_rfl, by kernel_rfl, holds_box b3 23 (cl_23 zv_23), .inl ⟨tyAgg_23, tySize_23, rfl⟩⟩, by kernel_rfl, trivial⟩ (fun _ h => Heap.to (Heap.pick [] (by decide) h)) ⟨rfl, rfl⟩
   · refine J.cond_false h16 ?_
     refine J.skip ?_
     refine JQ.then_normal ?_
     refine JQ.sub [(2, .pointer (some ⟨b3, 0, none⟩)), (4, .pointer (some ⟨b9, 0, none⟩)), (6, .pointer (some ⟨b12, 0, none⟩))] ?_
     refine J.seq ?_
     refine J.region ?_
     refine JL.val (mv_23 t7.1) (some 37) (yields_load_boxes 1 0 (cl_23 t7.1) (holds_box b9 23 (cl_23 t7.1)) tyAgg_23 tySize_23) ?_
     refine JL.val (mv_23 t10.1) (some 38) (yields_load_boxes 2 0 (cl_23 t10.1) (holds_box b12 23 (cl_23 t10.1)) tyAgg_23 tySize_23) ?_
     obtain ⟨t17, hc18, H0⟩ := bind_some H0
     refine JL.call [] [] [] (cx_Sub.ok t7.1 t10.1 _ hc18) trivial ?_
     rintro _ _ ⟨rfl, rfl⟩
     refine JL.pur (mv_23 t17.1) (some 40) ?_
     refine JL.pur (.int .i64 t17.2) (some 41) ?_
     refine JL.store 0 b3 0 23 (cl_23 zv_23) (cl_23 t17.1) tySize_23 ?_
     refine JL.as (.int .i64 t17.2) ?_
     refine JL.nil ?_
     refine JQ.then_normal ?_
     refine JQ.sub [(2, .pointer (some ⟨b3, 0, none⟩)), (3, .int .i64 t17.2)] ?_
     refine JQ.mask [At.box b3 23 (cl_23 t17.1)] [true, false, false] ?_
     refine J.ret ?_
     obtain rfl := Option.some.inj H0
     exact JQ.done' (rs := [.cell 2 23, .tmp 3]) (vs := [.agg #[.int .i64 t17.1.Re, .int .i64 t17.1.Im, .int .i64 t17.1.Den], .int .i64 t17.2]) [] (.inr rfl) ⟨⟨b3, 0, _, _, by kernel_rfl, by kernel_rfl, holds_box b3 23 (cl_23 t17.1), .inl ⟨tyAgg_23, tySize_23, rfl⟩⟩, by kernel_rfl, trivial⟩ (fun _ h => Heap.to (Heap.pick [] (by decide) h)) ⟨rfl, rfl⟩

theorem cx_Add.ok (a1 : Cx) (b2 : Cx) (r : (Cx × Int)) (H0 : cx_Add.f a1 b2 = some r) :
    Does Try.prog 35 [mv_23 a1, mv_23 b2].toArray [] [] false (fun v Δ => v = .tuple #[mv_23 r.1, .int .i64 r.2] ∧ Δ = []) := by
 refine Does.body (vs := [mv_23 a1, mv_23 b2]) Try.func35 rfl trivial trivial fun w S => ?_
 unfold cx_Add.f at H0
 refine J.seq ?_
 refine J.region ?_
 refine JL.box (cl_23 a1) fun b3 => ?_
 refine JL.box (cl_23 b2) fun b4 => ?_
 refine JL.alloc (cl_23 zv_23) fun b5 => ?_
 refine JL.as (.int .i64 0) ?_
 refine JL.nil ?_
 refine JQ.then_normal ?_
 refine JQ.sub [(2, .pointer (some ⟨b3, 0, none⟩)), (3, .pointer (some ⟨b4, 0, none⟩)), (4, .pointer (some ⟨b5, 0, none⟩))] ?_
 refine J.seq ?_
 refine J.seq ?_
 refine J.region ?_
 refine JL.val (mv_23 a1) (some 7) (yields_load_boxes 0 0 (cl_23 a1) (holds_box b3 23 (cl_23 a1)) tyAgg_23 tySize_23) ?_
 refine JL.val (mv_23 b2) (some 8) (yields_load_boxes 1 0 (cl_23 b2) (holds_box b4 23 (cl_23 b2)) tyAgg_23 tySize_23) ?_
 obtain ⟨t6, hc7, H0⟩ := bind_some H0
 refine JL.call [] [] [] (cx_check.ok a1 b2 _ hc7) trivial ?_
 rintro _ _ ⟨rfl, rfl⟩
 refine JL.as (.int .i64 t6) ?_
 refine JL.nil ?_
 refine JQ.then_normal ?_
 refine JQ.sub [(2, .pointer (some ⟨b3, 0, none⟩)), (3, .pointer (some ⟨b4, 0, none⟩)), (4, .pointer (some ⟨b5, 0, none⟩)), (6, .int .i64 t6)] ?_
 refine J.seq ?_
 refine J.region ?_
 refine JL.mv (.int .i64 t6) ?_
 refine JL.pur (.bool (!decide (t6 = 0))) (some 11) ?_
 refine JL.nil ?_
 refine JQ.then_normal ?_
 refine JQ.sub [(2, .pointer (some ⟨b3, 0, none⟩)), (3, .pointer (some ⟨b4, 0, none⟩)), (4, .pointer (some ⟨b5, 0, none⟩)), (6, .int .i64 t6), (11, .bool (!decide (t6 = 0)))] ?_
 rcases ite_cases H0 with ⟨h8, H0⟩ | ⟨h8, H0⟩
 · refine J.cond_true h8 ?_
   refine J.seq ?_
   refine J.region ?_
   refine JL.pur (mv_23 zv_23) (some 12) ?_
   refine JL.mv (.int .i64 t6) ?_
   refine JL.store 2 b5 0 23 (cl_23 zv_23) (cl_23 zv_23) tySize_23 ?_
   refine JL.as (.int .i64 t6) ?_
   refine JL.nil ?_
   refine JQ.then_normal ?_
   refine JQ.sub [(4, .pointer (some ⟨b5, 0, none⟩)), (5, .int .i64 t6)] ?_
   refine JQ.mask [At.box b5 23 (cl_23 zv_23)] [false, false, true] ?_
   refine J.ret ?_
   refine JQ.then_ret ?_
   obtain rfl := Option.some.inj H0
   exact JQ.done' (rs := [.cell 4 23, .tmp 5]) (vs := [.agg #[.int .i64 0, .int .i64 0, .int .i64 0], .int .i64 t6]) [] (.inr rfl) ⟨⟨b5, 0, _, _, by kernel_rfl, by kernel_rfl, holds_box b5 23 (cl_23 zv_23), .inl ⟨tyAgg_23, tySize_23, rfl⟩⟩, by kernel_rfl, trivial⟩ (fun _ h => Heap.to (Heap.pick [] (by decide) h)) ⟨rfl, rfl⟩
 · refine J.cond_false h8 ?_
   refine J.skip ?_
   refine JQ.then_normal ?_
   refine JQ.sub [(2, .pointer (some ⟨b3, 0, none⟩)), (3, .pointer (some ⟨b4, 0, none⟩)), (4, .pointer (some ⟨b5, 0, none⟩))] ?_
   refine J.seq ?_
   refine J.region ?_
   refine JL.pur (.pointer (some ⟨b3, 0, none⟩)) (some 14) ?_
   refine JL.val (.int .i64 a1.Re) (some 15) (yields_load_box 0 0 (holds_box b3 23 (cl_23 a1)) tyAgg_2) ?_
   refine JL.pur (.pointer (some ⟨b4, 2, none⟩)) (some 16) ?_
   refine JL.val (.int .i64 b2.Den) (some 17) (yields_load_box 1 2 (holds_box b4 23 (cl_23 b2)) tyAgg_2) ?_
   refine JL.pur (.int .i64 (w64 (a1.Re * b2.Den))) (some 18) ?_
   refine JL.pur (.pointer (some ⟨b4, 0, none⟩)) (some 19) ?_
   refine JL.val (.int .i64 b2.Re) (some 20) (yields_load_box 1 0 (holds_box b4 23 (cl_23 b2)) tyAgg_2) ?_
   refine JL.pur (.pointer (some ⟨b3, 2, none⟩)) (some 21) ?_
   refine JL.val (.int .i64 a1.Den) (some 22) (yields_load_box 0 2 (holds_box b3 23 (cl_23 a1)) tyAgg_2) ?_
   refine JL.pur (.int .i64 (w64 (b2.Re * a1.Den))) (some 23) ?_
   refine JL.pur (.int .i64 (w64 ((w64 (a1.Re * b2.Den)) + (w64 (b2.Re * a1.Den))))) (some 24) ?_
   refine JL.pur (.pointer (some ⟨b3, 1, none⟩)) (some 25) ?_
   refine JL.val (.int .i64 a1.Im) (some 26) (yields_load_box 0 1 (holds_box b3 23 (cl_23 a1)) tyAgg_2) ?_
   refine JL.pur (.pointer (some ⟨b4, 2, none⟩)) (some 27) ?_
   refine JL.val (.int .i64 b2.Den) (some 28) (yields_load_box 1 2 (holds_box b4 23 (cl_23 b2)) tyAgg_2) ?_
   refine JL.pur (.int .i64 (w64 (a1.Im * b2.Den))) (some 29) ?_
   refine JL.pur (.pointer (some ⟨b4, 1, none⟩)) (some 30) ?_
   refine JL.val (.int .i64 b2.Im) (some 31) (yields_load_box 1 1 (holds_box b4 23 (cl_23 b2)) tyAgg_2) ?_
   refine JL.pur (.pointer (some ⟨b3, 2, none⟩)) (some 32) ?_
   refine JL.val (.int .i64 a1.Den) (some 33) (yields_load_box 0 2 (holds_box b3 23 (cl_23 a1)) tyAgg_2) ?_
   refine JL.pur (.int .i64 (w64 (b2.Im * a1.Den))) (some 34) ?_
   refine JL.pur (.int .i64 (w64 ((w64 (a1.Im * b2.Den)) + (w64 (b2.Im * a1.Den))))) (some 35) ?_
   refine JL.pur (.pointer (some ⟨b3, 2, none⟩)) (some 36) ?_
   refine JL.val (.int .i64 a1.Den) (some 37) (yields_load_box 0 2 (holds_box b3 23 (cl_23 a1)) tyAgg_2) ?_
   refine JL.pur (.pointer (some ⟨b4, 2, none⟩)) (some 38) ?_
   refine JL.val (.int .i64 b2.Den) (some 39) (yields_load_box 1 2 (holds_box b4 23 (cl_23 b2)) tyAgg_2) ?_
   refine JL.pur (.int .i64 (w64 (a1.Den * b2.Den))) (some 40) ?_
   obtain ⟨t9, hc10, H0⟩ := bind_some H0
   refine JL.call [] [] [] (cx_reduced.ok (w64 ((w64 (a1.Re * b2.Den)) + (w64 (b2.Re * a1.Den)))) (w64 ((w64 (a1.Im * b2.Den)) + (w64 (b2.Im * a1.Den)))) (w64 (a1.Den * b2.Den)) _ hc10) trivial ?_
   rintro _ _ ⟨rfl, rfl⟩
   refine JL.pur (mv_23 t9.1) (some 42) ?_
   refine JL.pur (.int .i64 t9.2) (some 43) ?_
   refine JL.store 2 b5 0 23 (cl_23 zv_23) (cl_23 t9.1) tySize_23 ?_
   refine JL.as (.int .i64 t9.2) ?_
   refine JL.nil ?_
   refine JQ.then_normal ?_
   refine JQ.sub [(4, .pointer (some ⟨b5, 0, none⟩)), (5, .int .i64 t9.2)] ?_
   refine JQ.mask [At.box b5 23 (cl_23 t9.1)] [false, false, true] ?_
   refine J.ret ?_
   obtain rfl := Option.some.inj H0
   exact JQ.done' (rs := [.cell 4 23, .tmp 5]) (vs := [.agg #[.int .i64 t9.1.Re, .int .i64 t9.1.Im, .int .i64 t9.1.Den], .int .i64 t9.2]) [] (.inr rfl) ⟨⟨b5, 0, _, _, by kernel_rfl, by kernel_rfl, holds_box b5 23 (cl_23 t9.1), .inl ⟨tyAgg_23, tySize_23, rfl⟩⟩, by kernel_rfl, trivial⟩ (fun _ h => Heap.to (Heap.pick [] (by decide) h)) ⟨rfl, rfl⟩

theorem jones_Trace.ok (a1 : (A4 Cx)) (r : (Cx × Int)) (H0 : jones_Trace.f a1 = some r) :
    Does Try.prog 15 [mv_25 a1].toArray [] [] false (fun v Δ => v = .tuple #[mv_23 r.1, .int .i64 r.2] ∧ Δ = []) := by
 refine Does.body (vs := [mv_25 a1]) Try.func15 rfl trivial trivial fun w S => ?_
 unfold jones_Trace.f at H0
 refine J.seq ?_
 refine J.region ?_
 refine JL.box (cl_25 a1) fun b2 => ?_
 refine JL.alloc (cl_23 zv_23) fun b3 => ?_
 refine JL.as (.int .i64 0) ?_
 refine JL.nil ?_
 refine JQ.then_normal ?_
 refine JQ.sub [(1, .pointer (some ⟨b2, 0, none⟩)), (2, .pointer (some ⟨b3, 0, none⟩))] ?_
 refine J.seq ?_
 refine J.seq ?_
 refine J.region ?_
 refine JL.val (mv_25 a1) (some 4) (yields_load_boxes 0 0 (cl_25 a1) (holds_box b2 25 (cl_25 a1)) tyAgg_25 tySize_25) ?_
 obtain ⟨t4, hc5, H0⟩ := bind_some H0
 refine JL.call [] [] [] (jones_valid.ok a1 _ hc5) trivial ?_
 rintro _ _ ⟨rfl, rfl⟩
 refine JL.pur (.bool (!t4)) (some 6) ?_
 refine JL.nil ?_
 refine JQ.then_normal ?_
 refine JQ.sub [(1, .pointer (some ⟨b2, 0, none⟩)), (2, .pointer (some ⟨b3, 0, none⟩)), (6, .bool (!t4))] ?_
 rcases ite_cases H0 with ⟨h6, H0⟩ | ⟨h6, H0⟩
 · refine J.cond_true h6 ?_
   refine J.seq ?_
   refine J.region ?_
   refine JL.pur (mv_23 zv_23) (some 7) ?_
   refine JL.store 1 b3 0 23 (cl_23 zv_23) (cl_23 zv_23) tySize_23 ?_
   refine JL.as (.int .i64 8) ?_
   refine JL.nil ?_
   refine JQ.then_normal ?_
   refine JQ.sub [(2, .pointer (some ⟨b3, 0, none⟩)), (3, .int .i64 8)] ?_
   refine JQ.mask [At.box b3 23 (cl_23 zv_23)] [false, true] ?_
   refine J.ret ?_
   refine JQ.then_ret ?_
   obtain rfl := Option.some.inj H0
   exact JQ.done' (rs := [.cell 2 23, .tmp 3]) (vs := [.agg #[.int .i64 0, .int .i64 0, .int .i64 0], .int .i64 8]) [] (.inr rfl) ⟨⟨b3, 0, _, _, by kernel_rfl, by kernel_rfl, holds_box b3 23 (cl_23 zv_23), .inl ⟨tyAgg_23, tySize_23, rfl⟩⟩, by kernel_rfl, trivial⟩ (fun _ h => Heap.to (Heap.pick [] (by decide) h)) ⟨rfl, rfl⟩
 · refine J.cond_false h6 ?_
   refine J.skip ?_
   refine JQ.then_normal ?_
   refine JQ.sub [(1, .pointer (some ⟨b2, 0, none⟩)), (2, .pointer (some ⟨b3, 0, none⟩))] ?_
   refine J.seq ?_
   refine J.region ?_
   refine JL.pur (.pointer (some ⟨b2, 0, none⟩)) (some 8) ?_
   refine JL.val (mv_23 a1.e0) (some 9) (yields_load_boxes 0 0 (cl_23 a1.e0) (holds_box b2 25 (cl_25 a1)) tyAgg_23 tySize_23) ?_
   refine JL.pur (.pointer (some ⟨b2, 9, none⟩)) (some 10) ?_
   refine JL.val (mv_23 a1.e3) (some 11) (yields_load_boxes 0 9 (cl_23 a1.e3) (holds_box b2 25 (cl_25 a1)) tyAgg_23 tySize_23) ?_
   obtain ⟨t7, hc8, H0⟩ := bind_some H0
   refine JL.call [] [] [] (cx_Add.ok a1.e0 a1.e3 _ hc8) trivial ?_
   rintro _ _ ⟨rfl, rfl⟩
   refine JL.pur (mv_23 t7.1) (some 13) ?_
   refine JL.pur (.int .i64 t7.2) (some 14) ?_
   refine JL.store 1 b3 0 23 (cl_23 zv_23) (cl_23 t7.1) tySize_23 ?_
   refine JL.as (.int .i64 t7.2) ?_
   refine JL.nil ?_
   refine JQ.then_normal ?_
   refine JQ.sub [(2, .pointer (some ⟨b3, 0, none⟩)), (3, .int .i64 t7.2)] ?_
   refine JQ.mask [At.box b3 23 (cl_23 t7.1)] [false, true] ?_
   refine J.ret ?_
   obtain rfl := Option.some.inj H0
   exact JQ.done' (rs := [.cell 2 23, .tmp 3]) (vs := [.agg #[.int .i64 t7.1.Re, .int .i64 t7.1.Im, .int .i64 t7.1.Den], .int .i64 t7.2]) [] (.inr rfl) ⟨⟨b3, 0, _, _, by kernel_rfl, by kernel_rfl, holds_box b3 23 (cl_23 t7.1), .inl ⟨tyAgg_23, tySize_23, rfl⟩⟩, by kernel_rfl, trivial⟩ (fun _ h => Heap.to (Heap.pick [] (by decide) h)) ⟨rfl, rfl⟩

theorem jones_adjoint.ok (a1 : (A4 Cx)) (r : (A4 Cx)) (H0 : jones_adjoint.f a1 = some r) :
    Does Try.prog 37 [mv_25 a1].toArray [] [] false (fun v Δ => v = mv_25 r ∧ Δ = []) := by
 refine Does.body (vs := [mv_25 a1]) Try.func37 rfl trivial trivial fun w S => ?_
 unfold jones_adjoint.f at H0
 refine J.seq ?_
 refine J.region ?_
 refine JL.box (cl_25 a1) fun b2 => ?_
 refine JL.alloc (cl_25 zv_25) fun b3 => ?_
 refine JL.nil ?_
 refine JQ.then_normal ?_
 refine JQ.sub [(1, .pointer (some ⟨b2, 0, none⟩)), (2, .pointer (some ⟨b3, 0, none⟩))] ?_
 refine J.seq ?_
 refine J.region ?_
 refine JL.pur (.pointer (some ⟨b2, 6, none⟩)) (some 4) ?_
 refine JL.val (mv_23 a1.e2) (some 5) (yields_load_boxes 0 6 (cl_23 a1.e2) (holds_box b2 25 (cl_25 a1)) tyAgg_23 tySize_23) ?_
 refine JL.pur (.pointer (some ⟨b2, 3, none⟩)) (some 6) ?_
 refine JL.val (mv_23 a1.e1) (some 7) (yields_load_boxes 0 3 (cl_23 a1.e1) (holds_box b2 25 (cl_25 a1)) tyAgg_23 tySize_23) ?_
 refine JL.pur (.pointer (some ⟨b2, 3, none⟩)) (some 8) ?_
 refine JL.store 0 b2 3 25 (cl_25 a1) [.int .i64 a1.e0.Re, .int .i64 a1.e0.Im, .int .i64 a1.e0.Den, .int .i64 a1.e2.Re, .int .i64 a1.e2.Im, .int .i64 a1.e2.Den, .int .i64 a1.e2.Re, .int .i64 a1.e2.Im, .int .i64 a1.e2.Den, .int .i64 a1.e3.Re, .int .i64 a1.e3.Im, .int .i64 a1.e3.Den] tySize_23 ?_
 refine JL.pur (.pointer (some ⟨b2, 6, none⟩)) (some 9) ?_
 refine JL.store 0 b2 6 25 [.int .i64 a1.e0.Re, .int .i64 a1.e0.Im, .int .i64 a1.e0.Den, .int .i64 a1.e2.Re, .int .i64 a1.e2.Im, .int .i64 a1.e2.Den, .int .i64 a1.e2.Re, .int .i64 a1.e2.Im, .int .i64 a1.e2.Den, .int .i64 a1.e3.Re, .int .i64 a1.e3.Im, .int .i64 a1.e3.Den] [.int .i64 a1.e0.Re, .int .i64 a1.e0.Im, .int .i64 a1.e0.Den, .int .i64 a1.e2.Re, .int .i64 a1.e2.Im, .int .i64 a1.e2.Den, .int .i64 a1.e1.Re, .int .i64 a1.e1.Im, .int .i64 a1.e1.Den, .int .i64 a1.e3.Re, .int .i64 a1.e3.Im, .int .i64 a1.e3.Den] tySize_23 ?_
 refine JL.nil ?_
 refine JQ.then_normal ?_
 refine JQ.sub [(1, .pointer (some ⟨b2, 0, none⟩)), (2, .pointer (some ⟨b3, 0, none⟩))] ?_
 refine J.seq ?_
 refine J.seq ?_
 refine J.region ?_
 refine JL.mv (.int .i64 0) ?_
 refine JL.nil ?_
 refine JQ.then_normal ?_
 obtain ⟨o1, hit, H0⟩ := bind_some H0
 refine J.loop (σ := ((A4 Cx) × Int)) (τ := (A4 Cx)) (G := Unit) (G' := Unit) _ o1 (fun s g => [(1, .pointer (some ⟨b2, 0, none⟩)), (2, .pointer (some ⟨b3, 0, none⟩)), (10, .int .i64 s.2)]) (fun s g => [At.box b2 25 (cl_25 s.1), At.box b3 25 (cl_25 zv_25)]) (fun t => jones_adjoint.k2 t = some r) (fun t g => [(1, .pointer (some ⟨b2, 0, none⟩)), (2, .pointer (some ⟨b3, 0, none⟩))]) (fun t g => [At.box b2 25 (cl_25 t), At.box b3 25 (cl_25 zv_25)]) ((⟨a1.e0, a1.e2, a1.e1, a1.e3⟩ : (A4 Cx)), 0) () hit (fun _ h => Heap.to h) ?_ ?_
 · clear hit
   rintro ⟨a14, x15⟩ ⟨⟩ st1 H1 hb1 hr1
   replace H1 : jones_adjoint.s1 a14 x15 = some st1 := H1
   unfold jones_adjoint.s1 at H1
   refine JQ.sub [(1, .pointer (some ⟨b2, 0, none⟩)), (2, .pointer (some ⟨b3, 0, none⟩)), (10, .int .i64 x15)] ?_
   refine JQ.turn (Δ' := [At.box b2 25 (cl_25 a14), At.box b3 25 (cl_25 zv_25)]) (fun _ h => h.to) ?_
   refine J.seq ?_
   refine J.region ?_
   refine JL.pur (.bool (decide (x15 < 4))) (some 11) ?_
   refine JL.nil ?_
   refine JQ.then_normal ?_
   refine J.seq ?_
   rcases ite_cases H1 with ⟨h23, H1⟩ | ⟨h23, H1⟩
   · refine J.cond_true h23 ?_
     refine J.skip ?_
     refine JQ.then_normal ?_
     refine JQ.sub [(1, .pointer (some ⟨b2, 0, none⟩)), (2, .pointer (some ⟨b3, 0, none⟩)), (10, .int .i64 x15)] ?_
     refine J.seq ?_
     refine J.block ?_
     refine J.seq ?_
     refine J.region ?_
     refine JL.mv (.int .i64 x15) ?_
     refine JL.as (.int .i64 x15) ?_
     refine JL.nil ?_
     refine JQ.then_normal ?_
     refine JQ.sub [(1, .pointer (some ⟨b2, 0, none⟩)), (2, .pointer (some ⟨b3, 0, none⟩)), (3, .int .i64 x15), (10, .int .i64 x15)] ?_
     refine J.region ?_
     refine JL.mv (.int .i64 x15) ?_
     refine JL.mv (.int .i64 x15) ?_
     obtain ⟨⟨h24, h25⟩, H1⟩ := ite_must H1
     refine JL.val (.pointer (some ⟨b2, 0 + x15.toNat * 3, none⟩)) (some 15) (gives_ixArrD (b := b2) (o := 0) (i := x15) 4 3 .i64 h24 h25 Try.underlying25 tySize_23) ?_
     refine JL.pur (.pointer (some ⟨b2, 0 + x15.toNat * 3 + 1, none⟩)) (some 16) ?_
     refine JL.val (.int .i64 ((ix ([a14.e0, a14.e1, a14.e2, a14.e3] : List Cx) x15).Im)) (some 17) (gives_loadEl (f := fl_Cx) 0 1 x15 (elems_arr b2 25 (cl_25 a14) fl_Cx ([a14.e0, a14.e1, a14.e2, a14.e3] : List Cx) 0) h24 h25 tySize_2 (.inr ⟨tyAgg_2, rfl, rfl⟩)) ?_
     refine JL.pur (.int .i64 (w64 (0 - (ix ([a14.e0, a14.e1, a14.e2, a14.e3] : List Cx) x15).Im))) (some 18) ?_
     obtain ⟨⟨h26, h27⟩, H1⟩ := ite_must H1
     refine JL.val (.pointer (some ⟨b2, 0 + x15.toNat * 3, none⟩)) (some 19) (gives_ixArrD (b := b2) (o := 0) (i := x15) 4 3 .i64 h26 h27 Try.underlying25 tySize_23) ?_
     refine JL.pur (.pointer (some ⟨b2, 0 + x15.toNat * 3 + 1, none⟩)) (some 20) ?_
     obtain ⟨arr28, earr28, H1⟩ := lt_some H1
     refine JL.storeArr b2 0 1 0 25 fl_Cx ([a14.e0, a14.e1, a14.e2, a14.e3] : List Cx) x15 (cl_25 a14) [] [] (⟨((ix ([a14.e0, a14.e1, a14.e2, a14.e3] : List Cx) x15).Re), (w64 (0 - (ix ([a14.e0, a14.e1, a14.e2, a14.e3] : List Cx) x15).Im)), ((ix ([a14.e0, a14.e1, a14.e2, a14.e3] : List Cx) x15).Den)⟩ : Cx) h26 h27 tySize_2 ?_
     rw [ofL4 fl_Cx (l := ([a14.e0, a14.e1, a14.e2, a14.e3] : List Cx).set x15.toNat (⟨((ix ([a14.e0, a14.e1, a14.e2, a14.e3] : List Cx) x15).Re), (w64 (0 - (ix ([a14.e0, a14.e1, a14.e2, a14.e3] : List Cx) x15).Im)), ((ix ([a14.e0, a14.e1, a14.e2, a14.e3] : List Cx) x15).Den)⟩ : Cx)) (by simp), earr28]
     refine JQ.turn (Δ' := [At.box b2 25 (cl_25 arr28), At.box b3 25 (cl_25 zv_25)]) (fun _ h => h.to) ?_
     refine JL.nil ?_
     refine JQ.blk_normal ?_
     refine JQ.then_normal ?_
     refine JQ.sub [(1, .pointer (some ⟨b2, 0, none⟩)), (2, .pointer (some ⟨b3, 0, none⟩)), (10, .int .i64 x15)] ?_
     refine J.region ?_
     refine JL.pur (.int .i64 (w64 (x15 + 1))) (some 21) ?_
     refine JL.mv (.int .i64 (w64 (x15 + 1))) ?_
     refine JL.nil ?_
     refine JQ.then_normal ?_
     exact JQ.again (arr28, w64 (x15 + 1)) () (Option.some.inj H1).symm (fun _ h => Heap.to h)
   · refine J.cond_false h23 ?_
     refine J.exit ?_
     refine JQ.then_exit ?_
     refine JQ.then_exit ?_
     refine JQ.blk_exit ?_
     rw [hb1 _ (Option.some.inj H1).symm, fin_brk] at H0
     exact JQ.met a14 () H0 (fun _ h => Heap.to h)
 · clear hit H0
   rintro a22 ⟨⟩ H0
   replace H0 : jones_adjoint.k2 a22 = some r := H0
   unfold jones_adjoint.k2 at H0
   refine JQ.sub [(1, .pointer (some ⟨b2, 0, none⟩)), (2, .pointer (some ⟨b3, 0, none⟩))] ?_
   refine JQ.turn (Δ' := [At.box b2 25 (cl_25 a22), At.box b3 25 (cl_25 zv_25)]) (fun _ h => h.to) ?_
   refine JQ.then_normal ?_
   refine J.seq ?_
   refine J.region ?_
   refine JL.val (mv_25 a22) (some 22) (yields_load_boxes 0 0 (cl_25 a22) (holds_box b2 25 (cl_25 a22)) tyAgg_25 tySize_25) ?_
   refine JL.store 1 b3 0 25 (cl_25 zv_25) (cl_25 a22) tySize_25 ?_
   refine JL.nil ?_
   refine JQ.then_normal ?_
   refine JQ.sub [(2, .pointer (some ⟨b3, 0, none⟩))] ?_
   refine JQ.mask [At.box b3 25 (cl_25 a22)] [false, true] ?_
   refine J.ret ?_
   obtain rfl := Option.some.inj H0
   exact JQ.done' (rs := [.cell 2 25]) (vs := [.agg #[.int .i64 a22.e0.Re, .int .i64 a22.e0.Im, .int .i64 a22.e0.Den, .int .i64 a22.e1.Re, .int .i64 a22.e1.Im, .int .i64 a22.e1.Den, .int .i64 a22.e2.Re, .int .i64 a22.e2.Im, .int .i64 a22.e2.Den, .int .i64 a22.e3.Re, .int .i64 a22.e3.Im, .int .i64 a22.e3.Den]]) [] (.inr rfl) ⟨⟨b3, 0, _, _, by kernel_rfl, by kernel_rfl, holds_box b3 25 (cl_25 a22), .inl ⟨tyAgg_25, tySize_25, rfl⟩⟩, trivial⟩ (fun _ h => Heap.to (Heap.pick [] (by decide) h)) ⟨rfl, rfl⟩

theorem jones_Adjoint.ok (a1 : (A4 Cx)) (r : ((A4 Cx) × Int)) (H0 : jones_Adjoint.f a1 = some r) :
    Does Try.prog 11 [mv_25 a1].toArray [] [] false (fun v Δ => v = .tuple #[mv_25 r.1, .int .i64 r.2] ∧ Δ = []) := by
 refine Does.body (vs := [mv_25 a1]) Try.func11 rfl trivial trivial fun w S => ?_
 unfold jones_Adjoint.f at H0
 refine J.seq ?_
 refine J.region ?_
 refine JL.box (cl_25 a1) fun b2 => ?_
 refine JL.alloc (cl_25 zv_25) fun b3 => ?_
 refine JL.as (.int .i64 0) ?_
 refine JL.nil ?_
 refine JQ.then_normal ?_
 refine JQ.sub [(1, .pointer (some ⟨b2, 0, none⟩)), (2, .pointer (some ⟨b3, 0, none⟩))] ?_
 refine J.seq ?_
 refine J.seq ?_
 refine J.region ?_
 refine JL.val (mv_25 a1) (some 4) (yields_load_boxes 0 0 (cl_25 a1) (holds_box b2 25 (cl_25 a1)) tyAgg_25 tySize_25) ?_
 obtain ⟨t4, hc5, H0⟩ := bind_some H0
 refine JL.call [] [] [] (jones_valid.ok a1 _ hc5) trivial ?_
 rintro _ _ ⟨rfl, rfl⟩
 refine JL.pur (.bool (!t4)) (some 6) ?_
 refine JL.nil ?_
 refine JQ.then_normal ?_
 refine JQ.sub [(1, .pointer (some ⟨b2, 0, none⟩)), (2, .pointer (some ⟨b3, 0, none⟩)), (6, .bool (!t4))] ?_
 rcases ite_cases H0 with ⟨h6, H0⟩ | ⟨h6, H0⟩
 · refine J.cond_true h6 ?_
   refine J.seq ?_
   refine J.region ?_
   refine JL.pur (mv_25 zv_25) (some 7) ?_
   refine JL.store 1 b3 0 25 (cl_25 zv_25) (cl_25 zv_25) tySize_25 ?_
   refine JL.as (.int .i64 8) ?_
   refine JL.nil ?_
   refine JQ.then_normal ?_
   refine JQ.sub [(2, .pointer (some ⟨b3, 0, none⟩)), (3, .int .i64 8)] ?_
   refine JQ.mask [At.box b3 25 (cl_25 zv_25)] [false, true] ?_
   refine J.ret ?_
   refine JQ.then_ret ?_
   obtain rfl := Option.some.inj H0
   exact JQ.done' (rs := [.cell 2 25, .tmp 3]) (vs := [.agg #[.int .i64 0, .int .i64 0, .int .i64 0, .int .i64 0, .int .i64 0, .int .i64 0, .int .i64 0, .int .i64 0, .int .i64 0, .int .i64 0, .int .i64 0, .int .i64 0], .int .i64 8]) [] (.inr rfl) ⟨⟨b3, 0, _, _, by kernel_rfl, by kernel_rfl, holds_box b3 25 (cl_25 zv_25), .inl ⟨tyAgg_25, tySize_25, rfl⟩⟩, by kernel_rfl, trivial⟩ (fun _ h => Heap.to (Heap.pick [] (by decide) h)) ⟨rfl, rfl⟩
 · refine J.cond_false h6 ?_
   refine J.skip ?_
   refine JQ.then_normal ?_
   refine JQ.sub [(1, .pointer (some ⟨b2, 0, none⟩)), (2, .pointer (some ⟨b3, 0, none⟩))] ?_
   refine J.seq ?_
   refine J.region ?_
   refine JL.val (mv_25 a1) (some 8) (yields_load_boxes 0 0 (cl_25 a1) (holds_box b2 25 (cl_25 a1)) tyAgg_25 tySize_25) ?_
   obtain ⟨t7, hc8, H0⟩ := bind_some H0
   refine JL.call [] [] [] (jones_adjoint.ok a1 _ hc8) trivial ?_
   rintro _ _ ⟨rfl, rfl⟩
   refine JL.store 1 b3 0 25 (cl_25 zv_25) (cl_25 t7) tySize_25 ?_
   refine JL.as (.int .i64 0) ?_
   refine JL.nil ?_
   refine JQ.then_normal ?_
   refine JQ.sub [(2, .pointer (some ⟨b3, 0, none⟩)), (3, .int .i64 0)] ?_
   refine JQ.mask [At.box b3 25 (cl_25 t7)] [false, true] ?_
   refine J.ret ?_
   obtain rfl := Option.some.inj H0
   exact JQ.done' (rs := [.cell 2 25, .tmp 3]) (vs := [.agg #[.int .i64 t7.e0.Re, .int .i64 t7.e0.Im, .int .i64 t7.e0.Den, .int .i64 t7.e1.Re, .int .i64 t7.e1.Im, .int .i64 t7.e1.Den, .int .i64 t7.e2.Re, .int .i64 t7.e2.Im, .int .i64 t7.e2.Den, .int .i64 t7.e3.Re, .int .i64 t7.e3.Im, .int .i64 t7.e3.Den], .int .i64 0]) [] (.inr rfl) ⟨⟨b3, 0, _, _, by kernel_rfl, by kernel_rfl, holds_box b3 25 (cl_25 t7), .inl ⟨tyAgg_25, tySize_25, rfl⟩⟩, by kernel_rfl, trivial⟩ (fun _ h => Heap.to (Heap.pick [] (by decide) h)) ⟨rfl, rfl⟩

theorem jones_zero.ok (a1 : Cx) (r : Bool) (H0 : jones_zero.f a1 = some r) :
    Does Try.prog 43 [mv_23 a1].toArray [] [] false (fun v Δ => v = .bool r ∧ Δ = []) := by
 refine Does.body (vs := [mv_23 a1]) Try.func43 rfl trivial trivial fun w S => ?_
 unfold jones_zero.f at H0
 refine J.seq ?_
 refine J.region ?_
 refine JL.box (cl_23 a1) fun b2 => ?_
 refine JL.as (.bool false) ?_
 refine JL.nil ?_
 refine JQ.then_normal ?_
 refine JQ.sub [(1, .pointer (some ⟨b2, 0, none⟩))] ?_
 refine J.seq ?_
 refine J.region ?_
 refine JL.pur (.pointer (some ⟨b2, 0, none⟩)) (some 3) ?_
 refine JL.val (.int .i64 a1.Re) (some 4) (yields_load_box 0 0 (holds_box b2 23 (cl_23 a1)) tyAgg_2) ?_
 refine JL.pur (.bool (decide (a1.Re = 0))) (some 5) ?_
 refine JL.mv (.bool (decide (a1.Re = 0))) ?_
 rcases ite_cases H0 with ⟨h3, H0⟩ | ⟨h3, H0⟩
 · refine JL.on 3 6 h3 ?_
   refine JL.pur (.pointer (some ⟨b2, 1, none⟩)) (some 7) ?_
   refine JL.on 3 6 h3 ?_
   refine JL.val (.int .i64 a1.Im) (some 8) (yields_load_box 0 1 (holds_box b2 23 (cl_23 a1)) tyAgg_2) ?_
   refine JL.on 3 6 h3 ?_
   refine JL.pur (.bool (decide (a1.Im = 0))) (some 9) ?_
   refine JL.val (.bool (decide (a1.Im = 0))) (some 10) (gives_pickT h3) ?_
   refine JL.as (.bool (decide (a1.Im = 0))) ?_
   refine JL.nil ?_
   refine JQ.then_normal ?_
   refine JQ.sub [(2, .bool (decide (a1.Im = 0)))] ?_
   refine JQ.mask [] [false] ?_
   refine J.ret ?_
   obtain rfl := Option.some.inj H0
   exact JQ.done' (rs := [.tmp 2]) (vs := [.bool (decide (a1.Im = 0))]) [] (.inr rfl) ⟨by kernel_rfl, trivial⟩ (fun _ h => Heap.to h) ⟨rfl, rfl⟩
 · refine JL.off 3 6 true (some 7) h3 ?_
   refine JL.off 3 6 true (some 8) h3 ?_
   refine JL.off 3 6 true (some 9) h3 ?_
   refine JL.val (.bool false) (some 10) (gives_pickF h3) ?_
   refine JL.as (.bool false) ?_
   refine JL.nil ?_
   refine JQ.then_normal ?_
   refine JQ.sub [(2, .bool false)] ?_
   refine JQ.mask [] [false] ?_
   refine J.ret ?_
   obtain rfl := Option.some.inj H0
   exact JQ.done' (rs := [.tmp 2]) (vs := [.bool false]) [] (.inr rfl) ⟨by kernel_rfl, trivial⟩ (fun _ h => Heap.to h) ⟨rfl, rfl⟩

theorem cx_zero.ok (a1 : Cx) (r : Bool) (H0 : cx_zero.f a1 = some r) :
    Does Try.prog 66 [mv_23 a1].toArray [] [] false (fun v Δ => v = .bool r ∧ Δ = []) := by
 refine Does.body (vs := [mv_23 a1]) Try.func66 rfl trivial trivial fun w S => ?_
 unfold cx_zero.f at H0
 refine J.seq ?_
 refine J.region ?_
 refine JL.box (cl_23 a1) fun b2 => ?_
 refine JL.as (.bool false) ?_
 refine JL.nil ?_
 refine JQ.then_normal ?_
 refine JQ.sub [(1, .pointer (some ⟨b2, 0, none⟩))] ?_
 refine J.seq ?_
 refine J.region ?_
 refine JL.pur (.pointer (some ⟨b2, 0, none⟩)) (some 3) ?_
 refine JL.val (.int .i64 a1.Re) (some 4) (yields_load_box 0 0 (holds_box b2 23 (cl_23 a1)) tyAgg_2) ?_
 refine JL.pur (.bool (decide (a1.Re = 0))) (some 5) ?_
 refine JL.mv (.bool (decide (a1.Re = 0))) ?_
 rcases ite_cases H0 with ⟨h3, H0⟩ | ⟨h3, H0⟩
 · refine JL.on 3 6 h3 ?_
   refine JL.pur (.pointer (some ⟨b2, 1, none⟩)) (some 7) ?_
   refine JL.on 3 6 h3 ?_
   refine JL.val (.int .i64 a1.Im) (some 8) (yields_load_box 0 1 (holds_box b2 23 (cl_23 a1)) tyAgg_2) ?_
   refine JL.on 3 6 h3 ?_
   refine JL.pur (.bool (decide (a1.Im = 0))) (some 9) ?_
   refine JL.val (.bool (decide (a1.Im = 0))) (some 10) (gives_pickT h3) ?_
   refine JL.as (.bool (decide (a1.Im = 0))) ?_
   refine JL.nil ?_
   refine JQ.then_normal ?_
   refine JQ.sub [(2, .bool (decide (a1.Im = 0)))] ?_
   refine JQ.mask [] [false] ?_
   refine J.ret ?_
   obtain rfl := Option.some.inj H0
   exact JQ.done' (rs := [.tmp 2]) (vs := [.bool (decide (a1.Im = 0))]) [] (.inr rfl) ⟨by kernel_rfl, trivial⟩ (fun _ h => Heap.to h) ⟨rfl, rfl⟩
 · refine JL.off 3 6 true (some 7) h3 ?_
   refine JL.off 3 6 true (some 8) h3 ?_
   refine JL.off 3 6 true (some 9) h3 ?_
   refine JL.val (.bool false) (some 10) (gives_pickF h3) ?_
   refine JL.as (.bool false) ?_
   refine JL.nil ?_
   refine JQ.then_normal ?_
   refine JQ.sub [(2, .bool false)] ?_
   refine JQ.mask [] [false] ?_
   refine J.ret ?_
   obtain rfl := Option.some.inj H0
   exact JQ.done' (rs := [.tmp 2]) (vs := [.bool false]) [] (.inr rfl) ⟨by kernel_rfl, trivial⟩ (fun _ h => Heap.to h) ⟨rfl, rfl⟩

theorem cx_Div_1.ok (n1 : Int) (times2 : Int) (r : Bool) (H0 : cx_Div_1.f n1 times2 = some r) :
    Does Try.prog 68 [.int .i64 n1, .int .i64 times2].toArray [] [] false (fun v Δ => v = .bool r ∧ Δ = []) := by
 refine Does.body (vs := [.int .i64 n1, .int .i64 times2]) Try.func68 rfl trivial trivial fun w S => ?_
 unfold cx_Div_1.f at H0
 refine J.seq ?_
 refine J.region ?_
 refine JL.as (.bool false) ?_
 refine JL.nil ?_
 refine JQ.then_normal ?_
 refine JQ.sub [(0, .int .i64 n1), (1, .int .i64 times2)] ?_
 refine J.seq ?_
 refine J.region ?_
 refine JL.mv (.int .i64 n1) ?_
 refine JL.mv (.int .i64 times2) ?_
 obtain ⟨h3, H0⟩ := ite_must H0
 refine JL.val (.int .i64 (w64 (Int.tdiv 1000000000 times2))) (some 7) (gives_quo .i64 1000000000 times2 h3) ?_
 refine JL.pur (.bool (decide (n1 ≤ w64 (Int.tdiv 1000000000 times2)))) (some 8) ?_
 refine JL.mv (.bool (decide (n1 ≤ w64 (Int.tdiv 1000000000 times2)))) ?_
 rcases ite_cases H0 with ⟨h4, H0⟩ | ⟨h4, H0⟩
 · refine JL.on 4 9 h4 ?_
   refine JL.mv (.int .i64 n1) ?_
   refine JL.on 4 9 h4 ?_
   refine JL.mv (.int .i64 times2) ?_
   refine JL.on 4 9 h4 ?_
   obtain ⟨h5, H0⟩ := ite_must H0
   refine JL.val (.int .i64 (w64 (Int.tdiv 1000000000 times2))) (some 12) (gives_quo .i64 1000000000 times2 h5) ?_
   refine JL.on 4 9 h4 ?_
   refine JL.pur (.int .i64 (w64 (0 - w64 (Int.tdiv 1000000000 times2)))) (some 13) ?_
   refine JL.on 4 9 h4 ?_
   refine JL.pur (.bool (decide (w64 (0 - w64 (Int.tdiv 1000000000 times2)) ≤ n1))) (some 14) ?_
   refine JL.val (.bool (decide (w64 (0 - w64 (Int.tdiv 1000000000 times2)) ≤ n1))) (some 15) (gives_pickT h4) ?_
   refine JL.as (.bool (decide (w64 (0 - w64 (Int.tdiv 1000000000 times2)) ≤ n1))) ?_
   refine JL.nil ?_
   refine JQ.then_normal ?_
   refine JQ.sub [(4, .bool (decide (w64 (0 - w64 (Int.tdiv 1000000000 times2)) ≤ n1)))] ?_
   refine J.ret ?_
   obtain rfl := Option.some.inj H0
   exact JQ.done' (rs := [.tmp 4]) (vs := [.bool (decide (w64 (0 - w64 (Int.tdiv 1000000000 times2)) ≤ n1))]) [] (.inr rfl) ⟨by kernel_rfl, trivial⟩ (fun _ h => Heap.to h) ⟨rfl, rfl⟩
 · refine JL.off 4 9 true (some 10) h4 ?_
   refine JL.off 4 9 true (some 11) h4 ?_
   refine JL.off 4 9 true (some 12) h4 ?_
   refine JL.off 4 9 true (some 13) h4 ?_
   refine JL.off 4 9 true (some 14) h4 ?_
   refine JL.val (.bool false) (some 15) (gives_pickF h4) ?_
   refine JL.as (.bool false) ?_
   refine JL.nil ?_
   refine JQ.then_normal ?_
   refine JQ.sub [(4, .bool false)] ?_
   refine J.ret ?_
   obtain rfl := Option.some.inj H0
   exact JQ.done' (rs := [.tmp 4]) (vs := [.bool false]) [] (.inr rfl) ⟨by kernel_rfl, trivial⟩ (fun _ h => Heap.to h) ⟨rfl, rfl⟩

theorem cx_Div.ok (a1 : Cx) (b2 : Cx) (r : (Cx × Int)) (H0 : cx_Div.f a1 b2 = some r) :
    Does Try.prog 44 [mv_23 a1, mv_23 b2].toArray [] [] false (fun v Δ => v = .tuple #[mv_23 r.1, .int .i64 r.2] ∧ Δ = []) := by
 refine Does.body (vs := [mv_23 a1, mv_23 b2]) Try.func44 rfl trivial trivial fun w S => ?_
 unfold cx_Div.f at H0
 refine J.seq ?_
 refine J.region ?_
 refine JL.box (cl_23 a1) fun b3 => ?_
 refine JL.box (cl_23 b2) fun b4 => ?_
 refine JL.alloc (cl_23 zv_23) fun b5 => ?_
 refine JL.as (.int .i64 0) ?_
 refine JL.nil ?_
 refine JQ.then_normal ?_
 refine JQ.sub [(2, .pointer (some ⟨b3, 0, none⟩)), (3, .pointer (some ⟨b4, 0, none⟩)), (4, .pointer (some ⟨b5, 0, none⟩))] ?_
 refine J.seq ?_
 refine J.seq ?_
 refine J.region ?_
 refine JL.val (mv_23 a1) (some 14) (yields_load_boxes 0 0 (cl_23 a1) (holds_box b3 23 (cl_23 a1)) tyAgg_23 tySize_23) ?_
 refine JL.val (mv_23 b2) (some 15) (yields_load_boxes 1 0 (cl_23 b2) (holds_box b4 23 (cl_23 b2)) tyAgg_23 tySize_23) ?_
 obtain ⟨t6, hc7, H0⟩ := bind_some H0
 refine JL.call [] [] [] (cx_check.ok a1 b2 _ hc7) trivial ?_
 rintro _ _ ⟨rfl, rfl⟩
 refine JL.as (.int .i64 t6) ?_
 refine JL.nil ?_
 refine JQ.then_normal ?_
 refine JQ.sub [(2, .pointer (some ⟨b3, 0, none⟩)), (3, .pointer (some ⟨b4, 0, none⟩)), (4, .pointer (some ⟨b5, 0, none⟩)), (6, .int .i64 t6)] ?_
 refine J.seq ?_
 refine J.region ?_
 refine JL.mv (.int .i64 t6) ?_
 refine JL.pur (.bool (!decide (t6 = 0))) (some 18) ?_
 refine JL.nil ?_
 refine JQ.then_normal ?_
 refine JQ.sub [(2, .pointer (some ⟨b3, 0, none⟩)), (3, .pointer (some ⟨b4, 0, none⟩)), (4, .pointer (some ⟨b5, 0, none⟩)), (6, .int .i64 t6), (18, .bool (!decide (t6 = 0)))] ?_
 rcases ite_cases H0 with ⟨h8, H0⟩ | ⟨h8, H0⟩
 · refine J.cond_true h8 ?_
   refine J.seq ?_
   refine J.region ?_
   refine JL.pur (mv_23 zv_23) (some 19) ?_
   refine JL.mv (.int .i64 t6) ?_
   refine JL.store 2 b5 0 23 (cl_23 zv_23) (cl_23 zv_23) tySize_23 ?_
   refine JL.as (.int .i64 t6) ?_
   refine JL.nil ?_
   refine JQ.then_normal ?_
   refine JQ.sub [(4, .pointer (some ⟨b5, 0, none⟩)), (5, .int .i64 t6)] ?_
   refine JQ.mask [At.box b5 23 (cl_23 zv_23)] [false, false, true] ?_
   refine J.ret ?_
   refine JQ.then_ret ?_
   obtain rfl := Option.some.inj H0
   exact JQ.done' (rs := [.cell 4 23, .tmp 5]) (vs := [.agg #[.int .i64 0, .int .i64 0, .int .i64 0], .int .i64 t6]) [] (.inr rfl) ⟨⟨b5, 0, _, _, by kernel_rfl, by kernel_rfl, holds_box b5 23 (cl_23 zv_23), .inl ⟨tyAgg_23, tySize_23, rfl⟩⟩, by kernel_rfl, trivial⟩ (fun _ h => Heap.to (Heap.pick [] (by decide) h)) ⟨rfl, rfl⟩
 · refine J.cond_false h8 ?_
   refine J.skip ?_
   refine JQ.then_normal ?_
   refine JQ.sub [(2, .pointer (some ⟨b3, 0, none⟩)), (3, .pointer (some ⟨b4, 0, none⟩)), (4, .pointer (some ⟨b5, 0, none⟩))] ?_
   refine J.seq ?_
   refine J.seq ?_
   refine J.region ?_
   refine JL.val (mv_23 b2) (some 21) (yields_load_boxes 1 0 (cl_23 b2) (holds_box b4 23 (cl_23 b2)) tyAgg_23 tySize_23) ?_
   obtain ⟨t9, hc10, H0⟩ := bind_some H0
   refine JL.call [] [] [] (cx_zero.ok b2 _ hc10) trivial ?_
   rintro _ _ ⟨rfl, rfl⟩
   refine JL.nil ?_
   refine JQ.then_normal ?_
   refine JQ.sub [(2, .pointer (some ⟨b3, 0, none⟩)), (3, .pointer (some ⟨b4, 0, none⟩)), (4, .pointer (some ⟨b5, 0, none⟩)), (22, .bool t9)] ?_
   rcases ite_cases H0 with ⟨h11, H0⟩ | ⟨h11, H0⟩
   · refine J.cond_true h11 ?_
     refine J.seq ?_
     refine J.region ?_
     refine JL.pur (mv_23 zv_23) (some 23) ?_
     refine JL.store 2 b5 0 23 (cl_23 zv_23) (cl_23 zv_23) tySize_23 ?_
     refine JL.as (.int .i64 18) ?_
     refine JL.nil ?_
     refine JQ.then_normal ?_
     refine JQ.sub [(4, .pointer (some ⟨b5, 0, none⟩)), (5, .int .i64 18)] ?_
     refine JQ.mask [At.box b5 23 (cl_23 zv_23)] [false, false, true] ?_
     refine J.ret ?_
     refine JQ.then_ret ?_
     obtain rfl := Option.some.inj H0
     exact JQ.done' (rs := [.cell 4 23, .tmp 5]) (vs := [.agg #[.int .i64 0, .int .i64 0, .int .i64 0], .int .i64 18]) [] (.inr rfl) ⟨⟨b5, 0, _, _, by kernel_rfl, by kernel_rfl, holds_box b5 23 (cl_23 zv_23), .inl ⟨tyAgg_23, tySize_23, rfl⟩⟩, by kernel_rfl, trivial⟩ (fun _ h => Heap.to (Heap.pick [] (by decide) h)) ⟨rfl, rfl⟩
   · refine J.cond_false h11 ?_
     refine J.skip ?_
     refine JQ.then_normal ?_
     refine JQ.sub [(2, .pointer (some ⟨b3, 0, none⟩)), (3, .pointer (some ⟨b4, 0, none⟩)), (4, .pointer (some ⟨b5, 0, none⟩))] ?_
     refine J.seq ?_
     refine J.seq ?_
     refine J.region ?_
     refine JL.val (mv_23 a1) (some 24) (yields_load_boxes 0 0 (cl_23 a1) (holds_box b3 23 (cl_23 a1)) tyAgg_23 tySize_23) ?_
     obtain ⟨t12, hc13, H0⟩ := bind_some H0
     refine JL.call [] [] [] (cx_zero.ok a1 _ hc13) trivial ?_
     rintro _ _ ⟨rfl, rfl⟩
     refine JL.nil ?_
     refine JQ.then_normal ?_
     refine JQ.sub [(2, .pointer (some ⟨b3, 0, none⟩)), (3, .pointer (some ⟨b4, 0, none⟩)), (4, .pointer (some ⟨b5, 0, none⟩)), (25, .bool t12)] ?_
     rcases ite_cases H0 with ⟨h14, H0⟩ | ⟨h14, H0⟩
     · refine J.cond_true h14 ?_
       refine J.seq ?_
       refine J.region ?_
       refine JL.val (mv_23 a1) (some 26) (yields_load_boxes 0 0 (cl_23 a1) (holds_box b3 23 (cl_23 a1)) tyAgg_23 tySize_23) ?_
       refine JL.store 2 b5 0 23 (cl_23 zv_23) (cl_23 a1) tySize_23 ?_
       refine JL.as (.int .i64 0) ?_
       refine JL.nil ?_
       refine JQ.then_normal ?_
       refine JQ.sub [(4, .pointer (some ⟨b5, 0, none⟩)), (5, .int .i64 0)] ?_
       refine JQ.mask [At.box b5 23 (cl_23 a1)] [false, false, true] ?_
       refine J.ret ?_
       refine JQ.then_ret ?_
       obtain rfl := Option.some.inj H0
       exact JQ.done' (rs := [.cell 4 23, .tmp 5]) (vs := [.agg #[.int .i64 a1.Re, .int .i64 a1.Im, .int .i64 a1.Den], .int .i64 0]) [] (.inr rfl) ⟨⟨b5, 0, _, _, by kernel_rfl, by kernel_rfl, holds_box b5 23 (cl_23 a1), .inl ⟨tyAgg_23, tySize_23, rfl⟩⟩, by kernel_rfl, trivial⟩ (fun _ h => Heap.to (Heap.pick [] (by decide) h)) ⟨rfl, rfl⟩
     · refine J.cond_false h14 ?_
       refine J.skip ?_
       refine JQ.then_normal ?_
       refine JQ.sub [(2, .pointer (some ⟨b3, 0, none⟩)), (3, .pointer (some ⟨b4, 0, none⟩)), (4, .pointer (some ⟨b5, 0, none⟩))] ?_
       refine J.seq ?_
       refine J.draw ?_
       refine QL.pur (.pointer (some ⟨b3, 0, none⟩)) (some 27) ?_
       refine QL.val (.int .i64 a1.Re) (some 28) (yields_load_box 0 0 (holds_box b3 23 (cl_23 a1)) tyAgg_2) ?_
       refine QL.pur (.pointer (some ⟨b4, 0, none⟩)) (some 29) ?_
       refine QL.val (.int .i64 b2.Re) (some 30) (yields_load_box 1 0 (holds_box b4 23 (cl_23 b2)) tyAgg_2) ?_
       refine QL.pur (.int .i64 (w64 (a1.Re * b2.Re))) (some 31) ?_
       refine QL.pur (.pointer (some ⟨b3, 1, none⟩)) (some 32) ?_
       refine QL.val (.int .i64 a1.Im) (some 33) (yields_load_box 0 1 (holds_box b3 23 (cl_23 a1)) tyAgg_2) ?_
       refine QL.pur (.pointer (some ⟨b4, 1, none⟩)) (some 34) ?_
       refine QL.val (.int .i64 b2.Im) (some 35) (yields_load_box 1 1 (holds_box b4 23 (cl_23 b2)) tyAgg_2) ?_
       refine QL.pur (.int .i64 (w64 (a1.Im * b2.Im))) (some 36) ?_
       refine QL.pur (.int .i64 (w64 ((w64 (a1.Re * b2.Re)) + (w64 (a1.Im * b2.Im))))) (some 37) ?_
       refine QL.pur (.pointer (some ⟨b3, 1, none⟩)) (some 38) ?_
       refine QL.val (.int .i64 a1.Im) (some 39) (yields_load_box 0 1 (holds_box b3 23 (cl_23 a1)) tyAgg_2) ?_
       refine QL.pur (.pointer (some ⟨b4, 0, none⟩)) (some 40) ?_
       refine QL.val (.int .i64 b2.Re) (some 41) (yields_load_box 1 0 (holds_box b4 23 (cl_23 b2)) tyAgg_2) ?_
       refine QL.pur (.int .i64 (w64 (a1.Im * b2.Re))) (some 42) ?_
       refine QL.pur (.pointer (some ⟨b3, 0, none⟩)) (some 43) ?_
       refine QL.val (.int .i64 a1.Re) (some 44) (yields_load_box 0 0 (holds_box b3 23 (cl_23 a1)) tyAgg_2) ?_
       refine QL.pur (.pointer (some ⟨b4, 1, none⟩)) (some 45) ?_
       refine QL.val (.int .i64 b2.Im) (some 46) (yields_load_box 1 1 (holds_box b4 23 (cl_23 b2)) tyAgg_2) ?_
       refine QL.pur (.int .i64 (w64 (a1.Re * b2.Im))) (some 47) ?_
       refine QL.pur (.int .i64 (w64 ((w64 (a1.Im * b2.Re)) - (w64 (a1.Re * b2.Im))))) (some 48) ?_
       refine QL.pur (.pointer (some ⟨b4, 0, none⟩)) (some 49) ?_
       refine QL.val (.int .i64 b2.Re) (some 50) (yields_load_box 1 0 (holds_box b4 23 (cl_23 b2)) tyAgg_2) ?_
       refine QL.pur (.pointer (some ⟨b4, 0, none⟩)) (some 51) ?_
       refine QL.val (.int .i64 b2.Re) (some 52) (yields_load_box 1 0 (holds_box b4 23 (cl_23 b2)) tyAgg_2) ?_
       refine QL.pur (.int .i64 (w64 (b2.Re * b2.Re))) (some 53) ?_
       refine QL.pur (.pointer (some ⟨b4, 1, none⟩)) (some 54) ?_
       refine QL.val (.int .i64 b2.Im) (some 55) (yields_load_box 1 1 (holds_box b4 23 (cl_23 b2)) tyAgg_2) ?_
       refine QL.pur (.pointer (some ⟨b4, 1, none⟩)) (some 56) ?_
       refine QL.val (.int .i64 b2.Im) (some 57) (yields_load_box 1 1 (holds_box b4 23 (cl_23 b2)) tyAgg_2) ?_
       refine QL.pur (.int .i64 (w64 (b2.Im * b2.Im))) (some 58) ?_
       refine QL.pur (.int .i64 (w64 ((w64 (b2.Re * b2.Re)) + (w64 (b2.Im * b2.Im))))) (some 59) ?_
       obtain ⟨re15, ere15, H0⟩ := lt_some H0
       refine QL.as' (k := .i64) re15 ere15 ?_
       obtain ⟨im16, eim16, H0⟩ := lt_some H0
       refine QL.as' (k := .i64) im16 eim16 ?_
       obtain ⟨low17, elow17, H0⟩ := lt_some H0
       refine QL.as' (k := .i64) low17 elow17 ?_
       refine QL.nil ?_
       refine JA.nil ?_
       refine JQ.then_normal ?_
       refine JQ.sub [(2, .pointer (some ⟨b3, 0, none⟩)), (3, .pointer (some ⟨b4, 0, none⟩)), (4, .pointer (some ⟨b5, 0, none⟩)), (7, .int .i64 re15), (8, .int .i64 im16), (9, .int .i64 low17)] ?_
       refine J.seq ?_
       refine J.region ?_
       refine JL.mv (.int .i64 re15) ?_
       refine JL.mv (.int .i64 im16) ?_
       refine JL.mv (.int .i64 low17) ?_
       refine JL.buildSl 2 ((flInt .i64).kd) (([re15, im16, low17] : List Int) : List Int) [.int .i64 re15, .int .i64 im16, .int .i64 low17] false (closes_fl rfl) fun b18 => ?_
       obtain ⟨t19, hc20, H0⟩ := bind_some H0
       refine JL.call [] [] [] (cx_gcd.ok ([re15, im16, low17] : List Int) (some ⟨b18, 0, none⟩) 3 _ hc20) ⟨pre_view 3 (view_row (some ⟨b18, 0, none⟩) 3 2 ((flInt .i64).kd) ([re15, im16, low17] : List Int) false true), trivial⟩ ?_
       rintro _ _ ⟨rfl, rfl⟩
       refine JL.as (.int .i64 t19) ?_
       refine JL.nil ?_
       refine JQ.then_normal ?_
       refine JQ.sub [(2, .pointer (some ⟨b3, 0, none⟩)), (3, .pointer (some ⟨b4, 0, none⟩)), (4, .pointer (some ⟨b5, 0, none⟩)), (7, .int .i64 re15), (8, .int .i64 im16), (9, .int .i64 low17), (10, .int .i64 t19)] ?_
       refine JQ.mask [At.box b3 23 (cl_23 a1), At.box b4 23 (cl_23 b2), At.box b5 23 (cl_23 zv_23)] [true, true, true, false] ?_
       refine J.seq ?_
       refine J.draw ?_
       refine QL.mv (.int .i64 re15) ?_
       refine QL.mv (.int .i64 t19) ?_
       obtain ⟨h21, H0⟩ := ite_must H0
       refine QL.val (.int .i64 (w64 (Int.tdiv re15 t19))) (some 67) (gives_quo .i64 re15 t19 h21) ?_
       refine QL.mv (.int .i64 im16) ?_
       refine QL.mv (.int .i64 t19) ?_
       obtain ⟨h22, H0⟩ := ite_must H0
       refine QL.val (.int .i64 (w64 (Int.tdiv im16 t19))) (some 70) (gives_quo .i64 im16 t19 h22) ?_
       refine QL.mv (.int .i64 low17) ?_
       refine QL.mv (.int .i64 t19) ?_
       obtain ⟨h23, H0⟩ := ite_must H0
       refine QL.val (.int .i64 (w64 (Int.tdiv low17 t19))) (some 73) (gives_quo .i64 low17 t19 h23) ?_
       obtain ⟨re24, ere24, H0⟩ := lt_some H0
       refine QL.as' (k := .i64) re24 ere24 ?_
       obtain ⟨im25, eim25, H0⟩ := lt_some H0
       refine QL.as' (k := .i64) im25 eim25 ?_
       obtain ⟨low26, elow26, H0⟩ := lt_some H0
       refine QL.as' (k := .i64) low26 elow26 ?_
       refine QL.nil ?_
       refine JA.nil ?_
       refine JQ.then_normal ?_
       refine JQ.sub [(2, .pointer (some ⟨b3, 0, none⟩)), (3, .pointer (some ⟨b4, 0, none⟩)), (4, .pointer (some ⟨b5, 0, none⟩)), (7, .int .i64 re24), (8, .int .i64 im25), (9, .int .i64 low26)] ?_
       refine J.seq ?_
       refine J.draw ?_
       refine QL.pur (.pointer (some ⟨b4, 2, none⟩)) (some 74) ?_
       refine QL.val (.int .i64 b2.Den) (some 75) (yields_load_box 1 2 (holds_box b4 23 (cl_23 b2)) tyAgg_2) ?_
       refine QL.pur (.pointer (some ⟨b3, 2, none⟩)) (some 76) ?_
       refine QL.val (.int .i64 a1.Den) (some 77) (yields_load_box 0 2 (holds_box b3 23 (cl_23 a1)) tyAgg_2) ?_
       refine QL.as (.int .i64 b2.Den) ?_
       refine QL.as (.int .i64 a1.Den) ?_
       refine QL.nil ?_
       refine JA.nil ?_
       refine JQ.then_normal ?_
       refine JQ.sub [(4, .pointer (some ⟨b5, 0, none⟩)), (7, .int .i64 re24), (8, .int .i64 im25), (9, .int .i64 low26), (11, .int .i64 b2.Den), (12, .int .i64 a1.Den)] ?_
       refine JQ.mask [At.box b5 23 (cl_23 zv_23)] [false, false, true] ?_
       refine J.seq ?_
       refine J.region ?_
       refine JL.mv (.int .i64 b2.Den) ?_
       refine JL.mv (.int .i64 a1.Den) ?_
       refine JL.buildSl 2 ((flInt .i64).kd) (([b2.Den, a1.Den] : List Int) : List Int) [.int .i64 b2.Den, .int .i64 a1.Den] false (closes_fl rfl) fun b27 => ?_
       obtain ⟨t28, hc29, H0⟩ := bind_some H0
       refine JL.call [] [] [] (cx_gcd.ok ([b2.Den, a1.Den] : List Int) (some ⟨b27, 0, none⟩) 2 _ hc29) ⟨pre_view 1 (view_row (some ⟨b27, 0, none⟩) 2 2 ((flInt .i64).kd) ([b2.Den, a1.Den] : List Int) false true), trivial⟩ ?_
       rintro _ _ ⟨rfl, rfl⟩
       refine JL.as (.int .i64 t28) ?_
       refine JL.nil ?_
       refine JQ.then_normal ?_
       refine JQ.sub [(4, .pointer (some ⟨b5, 0, none⟩)), (7, .int .i64 re24), (8, .int .i64 im25), (9, .int .i64 low26), (10, .int .i64 t28), (11, .int .i64 b2.Den), (12, .int .i64 a1.Den)] ?_
       refine JQ.mask [At.box b5 23 (cl_23 zv_23)] [true, false] ?_
       refine J.seq ?_
       refine J.draw ?_
       refine QL.mv (.int .i64 b2.Den) ?_
       refine QL.mv (.int .i64 t28) ?_
       obtain ⟨h30, H0⟩ := ite_must H0
       refine QL.val (.int .i64 (w64 (Int.tdiv b2.Den t28))) (some 84) (gives_quo .i64 b2.Den t28 h30) ?_
       refine QL.mv (.int .i64 a1.Den) ?_
       refine QL.mv (.int .i64 t28) ?_
       obtain ⟨h31, H0⟩ := ite_must H0
       refine QL.val (.int .i64 (w64 (Int.tdiv a1.Den t28))) (some 87) (gives_quo .i64 a1.Den t28 h31) ?_
       obtain ⟨up32, eup32, H0⟩ := lt_some H0
       refine QL.as' (k := .i64) up32 eup32 ?_
       obtain ⟨down33, edown33, H0⟩ := lt_some H0
       refine QL.as' (k := .i64) down33 edown33 ?_
       refine QL.nil ?_
       refine JA.nil ?_
       refine JQ.then_normal ?_
       refine JQ.sub [(4, .pointer (some ⟨b5, 0, none⟩)), (7, .int .i64 re24), (8, .int .i64 im25), (9, .int .i64 low26), (11, .int .i64 up32), (12, .int .i64 down33)] ?_
       refine J.seq ?_
       refine J.region ?_
       refine JL.mv (.int .i64 up32) ?_
       refine JL.mv (.int .i64 low26) ?_
       refine JL.buildSl 2 ((flInt .i64).kd) (([up32, low26] : List Int) : List Int) [.int .i64 up32, .int .i64 low26] false (closes_fl rfl) fun b34 => ?_
       obtain ⟨t35, hc36, H0⟩ := bind_some H0
       refine JL.call [] [] [] (cx_gcd.ok ([up32, low26] : List Int) (some ⟨b34, 0, none⟩) 2 _ hc36) ⟨pre_view 1 (view_row (some ⟨b34, 0, none⟩) 2 2 ((flInt .i64).kd) ([up32, low26] : List Int) false true), trivial⟩ ?_
       rintro _ _ ⟨rfl, rfl⟩
       refine JL.as (.int .i64 t35) ?_
       refine JL.nil ?_
       refine JQ.then_normal ?_
       refine JQ.sub [(4, .pointer (some ⟨b5, 0, none⟩)), (7, .int .i64 re24), (8, .int .i64 im25), (9, .int .i64 low26), (10, .int .i64 t35), (11, .int .i64 up32), (12, .int .i64 down33)] ?_
       refine JQ.mask [At.box b5 23 (cl_23 zv_23)] [true, false] ?_
       refine J.seq ?_
       refine J.draw ?_
       refine QL.mv (.int .i64 up32) ?_
       refine QL.mv (.int .i64 t35) ?_
       obtain ⟨h37, H0⟩ := ite_must H0
       refine QL.val (.int .i64 (w64 (Int.tdiv up32 t35))) (some 94) (gives_quo .i64 up32 t35 h37) ?_
       refine QL.mv (.int .i64 low26) ?_
       refine QL.mv (.int .i64 t35) ?_
       obtain ⟨h38, H0⟩ := ite_must H0
       refine QL.val (.int .i64 (w64 (Int.tdiv low26 t35))) (some 97) (gives_quo .i64 low26 t35 h38) ?_
       obtain ⟨up39, eup39, H0⟩ := lt_some H0
       refine QL.as' (k := .i64) up39 eup39 ?_
       obtain ⟨low40, elow40, H0⟩ := lt_some H0
       refine QL.as' (k := .i64) low40 elow40 ?_
       refine QL.nil ?_
       refine JA.nil ?_
       refine JQ.then_normal ?_
       refine JQ.sub [(4, .pointer (some ⟨b5, 0, none⟩)), (7, .int .i64 re24), (8, .int .i64 im25), (9, .int .i64 low40), (11, .int .i64 up39), (12, .int .i64 down33)] ?_
       refine J.seq ?_
       refine J.region ?_
       refine JL.mv (.int .i64 re24) ?_
       refine JL.mv (.int .i64 im25) ?_
       refine JL.mv (.int .i64 down33) ?_
       refine JL.buildSl 2 ((flInt .i64).kd) (([re24, im25, down33] : List Int) : List Int) [.int .i64 re24, .int .i64 im25, .int .i64 down33] false (closes_fl rfl) fun b41 => ?_
       obtain ⟨t42, hc43, H0⟩ := bind_some H0
       refine JL.call [] [] [] (cx_gcd.ok ([re24, im25, down33] : List Int) (some ⟨b41, 0, none⟩) 3 _ hc43) ⟨pre_view 1 (view_row (some ⟨b41, 0, none⟩) 3 2 ((flInt .i64).kd) ([re24, im25, down33] : List Int) false true), trivial⟩ ?_
       rintro _ _ ⟨rfl, rfl⟩
       refine JL.as (.int .i64 t42) ?_
       refine JL.nil ?_
       refine JQ.then_normal ?_
       refine JQ.sub [(4, .pointer (some ⟨b5, 0, none⟩)), (7, .int .i64 re24), (8, .int .i64 im25), (9, .int .i64 low40), (10, .int .i64 t42), (11, .int .i64 up39), (12, .int .i64 down33)] ?_
       refine JQ.mask [At.box b5 23 (cl_23 zv_23)] [true, false] ?_
       refine J.seq ?_
       refine J.draw ?_
       refine QL.mv (.int .i64 re24) ?_
       refine QL.mv (.int .i64 t42) ?_
       obtain ⟨h44, H0⟩ := ite_must H0
       refine QL.val (.int .i64 (w64 (Int.tdiv re24 t42))) (some 105) (gives_quo .i64 re24 t42 h44) ?_
       refine QL.mv (.int .i64 im25) ?_
       refine QL.mv (.int .i64 t42) ?_
       obtain ⟨h45, H0⟩ := ite_must H0
       refine QL.val (.int .i64 (w64 (Int.tdiv im25 t42))) (some 108) (gives_quo .i64 im25 t42 h45) ?_
       refine QL.mv (.int .i64 down33) ?_
       refine QL.mv (.int .i64 t42) ?_
       obtain ⟨h46, H0⟩ := ite_must H0
       refine QL.val (.int .i64 (w64 (Int.tdiv down33 t42))) (some 111) (gives_quo .i64 down33 t42 h46) ?_
       obtain ⟨re47, ere47, H0⟩ := lt_some H0
       refine QL.as' (k := .i64) re47 ere47 ?_
       obtain ⟨im48, eim48, H0⟩ := lt_some H0
       refine QL.as' (k := .i64) im48 eim48 ?_
       obtain ⟨down49, edown49, H0⟩ := lt_some H0
       refine QL.as' (k := .i64) down49 edown49 ?_
       refine QL.nil ?_
       refine JA.nil ?_
       refine JQ.then_normal ?_
       refine JQ.sub [(4, .pointer (some ⟨b5, 0, none⟩)), (7, .int .i64 re47), (8, .int .i64 im48), (9, .int .i64 low40), (11, .int .i64 up39), (12, .int .i64 down49)] ?_
       refine J.seq ?_
       refine J.region ?_
       refine JL.as (.func (.func 68) #[] #[]) ?_
       refine JL.nil ?_
       refine JQ.then_normal ?_
       refine J.seq ?_
       refine J.join (T := Bool) (G := Unit) (fun t => cx_Div.k1 up39 low40 re47 im48 down49 t = some r) (fun t g => [(4, .pointer (some ⟨b5, 0, none⟩)), (7, .int .i64 re47), (8, .int .i64 im48), (9, .int .i64 low40), (11, .int .i64 up39), (12, .int .i64 down49), (130, .bool t)]) (fun t g => [At.box b5 23 (cl_23 zv_23)]) ?_ ?_
       · refine J.region ?_
         refine JL.mv (.func (.func 68) #[] #[]) ?_
         refine JL.mv (.int .i64 re47) ?_
         refine JL.mv (.int .i64 up39) ?_
         obtain ⟨t60, hc61, H0⟩ := bind_some H0
         refine JL.call [] [] [] (cx_Div_1.ok re47 up39 _ hc61) trivial ?_
         rintro _ _ ⟨rfl, rfl⟩
         refine JL.pur (.bool (!t60)) (some 116) ?_
         refine JL.mv (.bool (!t60)) ?_
         rcases ite_cases H0 with ⟨h62, H0⟩ | ⟨h62, H0⟩
         · refine JL.off 5 117 false (some 118) h62 ?_
           refine JL.off 5 117 false (some 119) h62 ?_
           refine JL.off 5 117 false (some 120) h62 ?_
           refine JL.off 5 117 false (some 121) h62 ?_
           refine JL.off 5 117 false (some 122) h62 ?_
           refine JL.val (.bool true) (some 123) (gives_pickT h62) ?_
           refine JL.mv (.bool true) ?_
           refine JL.off 12 124 false (some 125) rfl ?_
           refine JL.off 12 124 false (some 126) rfl ?_
           refine JL.off 12 124 false (some 127) rfl ?_
           refine JL.off 12 124 false (some 128) rfl ?_
           refine JL.off 12 124 false (some 129) rfl ?_
           refine JL.val (.bool true) (some 130) (gives_pickT rfl) ?_
           refine JL.nil ?_
           refine JQ.then_normal ?_
           exact JQ.meet true () H0 (fun _ h => Heap.to h)
         · refine JL.on 5 117 h62 ?_
           refine JL.mv (.func (.func 68) #[] #[]) ?_
           refine JL.on 5 117 h62 ?_
           refine JL.mv (.int .i64 im48) ?_
           refine JL.on 5 117 h62 ?_
           refine JL.mv (.int .i64 up39) ?_
           refine JL.on 5 117 h62 ?_
           obtain ⟨t63, hc64, H0⟩ := bind_some H0
           refine JL.call [] [] [] (cx_Div_1.ok im48 up39 _ hc64) trivial ?_
           rintro _ _ ⟨rfl, rfl⟩
           refine JL.on 5 117 h62 ?_
           refine JL.pur (.bool (!t63)) (some 122) ?_
           refine JL.val (.bool (!t63)) (some 123) (gives_pickF h62) ?_
           refine JL.mv (.bool (!t63)) ?_
           rcases ite_cases H0 with ⟨h65, H0⟩ | ⟨h65, H0⟩
           · refine JL.off 12 124 false (some 125) h65 ?_
             refine JL.off 12 124 false (some 126) h65 ?_
             refine JL.off 12 124 false (some 127) h65 ?_
             refine JL.off 12 124 false (some 128) h65 ?_
             refine JL.off 12 124 false (some 129) h65 ?_
             refine JL.val (.bool true) (some 130) (gives_pickT h65) ?_
             refine JL.nil ?_
             refine JQ.then_normal ?_
             exact JQ.meet true () H0 (fun _ h => Heap.to h)
           · refine JL.on 12 124 h65 ?_
             refine JL.mv (.func (.func 68) #[] #[]) ?_
             refine JL.on 12 124 h65 ?_
             refine JL.mv (.int .i64 low40) ?_
             refine JL.on 12 124 h65 ?_
             refine JL.mv (.int .i64 down49) ?_
             refine JL.on 12 124 h65 ?_
             obtain ⟨t66, hc67, H0⟩ := bind_some H0
             refine JL.call [] [] [] (cx_Div_1.ok low40 down49 _ hc67) trivial ?_
             rintro _ _ ⟨rfl, rfl⟩
             refine JL.on 12 124 h65 ?_
             refine JL.pur (.bool (!t66)) (some 129) ?_
             refine JL.val (.bool (!t66)) (some 130) (gives_pickF h65) ?_
             refine JL.nil ?_
             refine JQ.then_normal ?_
             exact JQ.meet (!t66) () H0 (fun _ h => Heap.to h)
       · clear H0
         rintro x58 ⟨⟩ H0
         replace H0 : cx_Div.k1 up39 low40 re47 im48 down49 x58 = some r := H0
         unfold cx_Div.k1 at H0
         refine JQ.sub [(4, .pointer (some ⟨b5, 0, none⟩)), (7, .int .i64 re47), (8, .int .i64 im48), (9, .int .i64 low40), (11, .int .i64 up39), (12, .int .i64 down49), (130, .bool x58)] ?_
         refine JQ.turn (Δ' := [At.box b5 23 (cl_23 zv_23)]) (fun _ h => h.to) ?_
         rcases ite_cases H0 with ⟨h59, H0⟩ | ⟨h59, H0⟩
         · refine J.cond_true h59 ?_
           refine J.seq ?_
           refine J.region ?_
           refine JL.pur (mv_23 zv_23) (some 131) ?_
           refine JL.store 0 b5 0 23 (cl_23 zv_23) (cl_23 zv_23) tySize_23 ?_
           refine JL.as (.int .i64 16) ?_
           refine JL.nil ?_
           refine JQ.then_normal ?_
           refine JQ.sub [(4, .pointer (some ⟨b5, 0, none⟩)), (5, .int .i64 16)] ?_
           refine J.ret ?_
           refine JQ.then_ret ?_
           obtain rfl := Option.some.inj H0
           exact JQ.done' (rs := [.cell 4 23, .tmp 5]) (vs := [.agg #[.int .i64 0, .int .i64 0, .int .i64 0], .int .i64 16]) [] (.inr rfl) ⟨⟨b5, 0, _, _, by kernel_rfl, by kernel_rfl, holds_box b5 23 (cl_23 zv_23), .inl ⟨tyAgg_23, tySize_23, rfl⟩⟩, by kernel_rfl, trivial⟩ (fun _ h => Heap.to (Heap.pick [] (by decide) h)) ⟨rfl, rfl⟩
         · refine J.cond_false h59 ?_
           refine J.skip ?_
           refine JQ.then_normal ?_
           refine JQ.sub [(4, .pointer (some ⟨b5, 0, none⟩)), (7, .int .i64 re47), (8, .int .i64 im48), (9, .int .i64 low40), (11, .int .i64 up39), (12, .int .i64 down49)] ?_
           refine J.seq ?_
           refine J.region ?_
           refine JL.mv (.int .i64 re47) ?_
           refine JL.mv (.int .i64 up39) ?_
           refine JL.pur (.int .i64 (w64 (re47 * up39))) (some 134) ?_
           refine JL.mv (.int .i64 im48) ?_
           refine JL.mv (.int .i64 up39) ?_
           refine JL.pur (.int .i64 (w64 (im48 * up39))) (some 137) ?_
           refine JL.mv (.int .i64 low40) ?_
           refine JL.mv (.int .i64 down49) ?_
           refine JL.pur (.int .i64 (w64 (low40 * down49))) (some 140) ?_
           refine JL.pur (.agg #[.int .i64 (w64 (re47 * up39)), .int .i64 (w64 (im48 * up39)), .int .i64 (w64 (low40 * down49))]) (some 141) ?_
           refine JL.store 0 b5 0 23 (cl_23 zv_23) [.int .i64 (w64 (re47 * up39)), .int .i64 (w64 (im48 * up39)), .int .i64 (w64 (low40 * down49))] tySize_23 ?_
           refine JL.as (.int .i64 0) ?_
           refine JL.nil ?_
           refine JQ.then_normal ?_
           refine JQ.sub [(4, .pointer (some ⟨b5, 0, none⟩)), (5, .int .i64 0)] ?_
           refine J.ret ?_
           obtain rfl := Option.some.inj H0
           exact JQ.done' (rs := [.cell 4 23, .tmp 5]) (vs := [.agg #[.int .i64 (w64 (re47 * up39)), .int .i64 (w64 (im48 * up39)), .int .i64 (w64 (low40 * down49))], .int .i64 0]) [] (.inr rfl) ⟨⟨b5, 0, _, _, by kernel_rfl, by kernel_rfl, holds_box b5 23 [.int .i64 (w64 (re47 * up39)), .int .i64 (w64 (im48 * up39)), .int .i64 (w64 (low40 * down49))], .inl ⟨tyAgg_23, tySize_23, rfl⟩⟩, by kernel_rfl, trivial⟩ (fun _ h => Heap.to (Heap.pick [] (by decide) h)) ⟨rfl, rfl⟩

theorem jones_Inv.ok (a1 : (A4 Cx)) (r : ((A4 Cx) × Int)) (H0 : jones_Inv.f a1 = some r) :
    Does Try.prog 17 [mv_25 a1].toArray [] [] false (fun v Δ => v = .tuple #[mv_25 r.1, .int .i64 r.2] ∧ Δ = []) := by
 refine Does.body (vs := [mv_25 a1]) Try.func17 rfl trivial trivial fun w S => ?_
 unfold jones_Inv.f at H0
 refine J.seq ?_
 refine J.region ?_
 refine JL.box (cl_25 a1) fun b2 => ?_
 refine JL.alloc (cl_25 zv_25) fun b3 => ?_
 refine JL.as (.int .i64 0) ?_
 refine JL.nil ?_
 refine JQ.then_normal ?_
 refine JQ.sub [(1, .pointer (some ⟨b2, 0, none⟩)), (2, .pointer (some ⟨b3, 0, none⟩))] ?_
 refine J.seq ?_
 refine J.region ?_
 refine JL.val (mv_25 a1) (some 9) (yields_load_boxes 0 0 (cl_25 a1) (holds_box b2 25 (cl_25 a1)) tyAgg_25 tySize_25) ?_
 obtain ⟨t4, hc5, H0⟩ := bind_some H0
 refine JL.call [] [] [] (jones_Det.ok a1 _ hc5) trivial ?_
 rintro _ _ ⟨rfl, rfl⟩
 refine JL.mv (.tuple #[mv_23 t4.1, .int .i64 t4.2]) ?_
 refine JL.pur (mv_23 t4.1) (some 11) ?_
 refine JL.pur (.int .i64 t4.2) (some 12) ?_
 refine JL.alloc (cl_23 zv_23) fun b6 => ?_
 refine JL.store 2 b6 0 23 (cl_23 zv_23) (cl_23 t4.1) tySize_23 ?_
 refine JL.as (.int .i64 t4.2) ?_
 refine JL.nil ?_
 refine JQ.then_normal ?_
 refine JQ.sub [(1, .pointer (some ⟨b2, 0, none⟩)), (2, .pointer (some ⟨b3, 0, none⟩)), (4, .pointer (some ⟨b6, 0, none⟩)), (5, .int .i64 t4.2)] ?_
 refine J.seq ?_
 refine J.seq ?_
 refine J.region ?_
 refine JL.mv (.int .i64 t4.2) ?_
 refine JL.pur (.bool (!decide (t4.2 = 0))) (some 14) ?_
 refine JL.nil ?_
 refine JQ.then_normal ?_
 refine JQ.sub [(1, .pointer (some ⟨b2, 0, none⟩)), (2, .pointer (some ⟨b3, 0, none⟩)), (4, .pointer (some ⟨b6, 0, none⟩)), (5, .int .i64 t4.2), (14, .bool (!decide (t4.2 = 0)))] ?_
 rcases ite_cases H0 with ⟨h7, H0⟩ | ⟨h7, H0⟩
 · refine J.cond_true h7 ?_
   refine J.seq ?_
   refine J.region ?_
   refine JL.pur (mv_25 zv_25) (some 15) ?_
   refine JL.mv (.int .i64 t4.2) ?_
   refine JL.store 1 b3 0 25 (cl_25 zv_25) (cl_25 zv_25) tySize_25 ?_
   refine JL.as (.int .i64 t4.2) ?_
   refine JL.nil ?_
   refine JQ.then_normal ?_
   refine JQ.sub [(2, .pointer (some ⟨b3, 0, none⟩)), (3, .int .i64 t4.2)] ?_
   refine JQ.mask [At.box b3 25 (cl_25 zv_25)] [false, true, false] ?_
   refine J.ret ?_
   refine JQ.then_ret ?_
   obtain rfl := Option.some.inj H0
   exact JQ.done' (rs := [.cell 2 25, .tmp 3]) (vs := [.agg #[.int .i64 0, .int .i64 0, .int .i64 0, .int .i64 0, .int .i64 0, .int .i64 0, .int .i64 0, .int .i64 0, .int .i64 0, .int .i64 0, .int .i64 0, .int .i64 0], .int .i64 t4.2]) [] (.inr rfl) ⟨⟨b3, 0, _, _, by kernel_rfl, by kernel_rfl, holds_box b3 25 (cl_25 zv_25), .inl ⟨tyAgg_25, tySize_25, rfl⟩⟩, by kernel_rfl, trivial⟩ (fun _ h => Heap.to (Heap.pick [] (by decide) h)) ⟨rfl, rfl⟩
 · refine J.cond_false h7 ?_
   refine J.skip ?_
   refine JQ.then_normal ?_
   refine JQ.sub [(1, .pointer (some ⟨b2, 0, none⟩)), (2, .pointer (some ⟨b3, 0, none⟩)), (4, .pointer (some ⟨b6, 0, none⟩))] ?_
   refine J.seq ?_
   refine J.seq ?_
   refine J.region ?_
   refine JL.val (mv_23 t4.1) (some 17) (yields_load_boxes 2 0 (cl_23 t4.1) (holds_box b6 23 (cl_23 t4.1)) tyAgg_23 tySize_23) ?_
   obtain ⟨t8, hc9, H0⟩ := bind_some H0
   refine JL.call [] [] [] (jones_zero.ok t4.1 _ hc9) trivial ?_
   rintro _ _ ⟨rfl, rfl⟩
   refine JL.nil ?_
   refine JQ.then_normal ?_
   refine JQ.sub [(1, .pointer (some ⟨b2, 0, none⟩)), (2, .pointer (some ⟨b3, 0, none⟩)), (4, .pointer (some ⟨b6, 0, none⟩)), (18, .bool t8)] ?_
   rcases ite_cases H0 with ⟨h10, H0⟩ | ⟨h10, H0⟩
   · refine J.cond_true h10 ?_
     refine J.seq ?_
     refine J.region ?_
     refine JL.pur (mv_25 zv_25) (some 19) ?_
     refine JL.store 1 b3 0 25 (cl_25 zv_25) (cl_25 zv_25) tySize_25 ?_
     refine JL.as (.int .i64 18) ?_
     refine JL.nil ?_
     refine JQ.then_normal ?_
     refine JQ.sub [(2, .pointer (some ⟨b3, 0, none⟩)), (3, .int .i64 18)] ?_
     refine JQ.mask [At.box b3 25 (cl_25 zv_25)] [false, true, false] ?_
     refine J.ret ?_
     refine JQ.then_ret ?_
     obtain rfl := Option.some.inj H0
     exact JQ.done' (rs := [.cell 2 25, .tmp 3]) (vs := [.agg #[.int .i64 0, .int .i64 0, .int .i64 0, .int .i64 0, .int .i64 0, .int .i64 0, .int .i64 0, .int .i64 0, .int .i64 0, .int .i64 0, .int .i64 0, .int .i64 0], .int .i64 18]) [] (.inr rfl) ⟨⟨b3, 0, _, _, by kernel_rfl, by kernel_rfl, holds_box b3 25 (cl_25 zv_25), .inl ⟨tyAgg_25, tySize_25, rfl⟩⟩, by kernel_rfl, trivial⟩ (fun _ h => Heap.to (Heap.pick [] (by decide) h)) ⟨rfl, rfl⟩
   · refine J.cond_false h10 ?_
     refine J.skip ?_
     refine JQ.then_normal ?_
     refine JQ.sub [(1, .pointer (some ⟨b2, 0, none⟩)), (2, .pointer (some ⟨b3, 0, none⟩)), (4, .pointer (some ⟨b6, 0, none⟩))] ?_
     refine J.seq ?_
     refine J.region ?_
     refine JL.pur (.pointer (some ⟨b2, 9, none⟩)) (some 20) ?_
     refine JL.val (mv_23 a1.e3) (some 21) (yields_load_boxes 0 9 (cl_23 a1.e3) (holds_box b2 25 (cl_25 a1)) tyAgg_23 tySize_23) ?_
     refine JL.pur (.pointer (some ⟨b2, 3, none⟩)) (some 22) ?_
     refine JL.val (mv_23 a1.e1) (some 23) (yields_load_boxes 0 3 (cl_23 a1.e1) (holds_box b2 25 (cl_25 a1)) tyAgg_23 tySize_23) ?_
     refine JL.pur (.pointer (some ⟨b2, 6, none⟩)) (some 24) ?_
     refine JL.val (mv_23 a1.e2) (some 25) (yields_load_boxes 0 6 (cl_23 a1.e2) (holds_box b2 25 (cl_25 a1)) tyAgg_23 tySize_23) ?_
     refine JL.pur (.pointer (some ⟨b2, 0, none⟩)) (some 26) ?_
     refine JL.val (mv_23 a1.e0) (some 27) (yields_load_boxes 0 0 (cl_23 a1.e0) (holds_box b2 25 (cl_25 a1)) tyAgg_23 tySize_23) ?_
     refine JL.pur (.agg #[.int .i64 a1.e3.Re, .int .i64 a1.e3.Im, .int .i64 a1.e3.Den, .int .i64 a1.e1.Re, .int .i64 a1.e1.Im, .int .i64 a1.e1.Den, .int .i64 a1.e2.Re, .int .i64 a1.e2.Im, .int .i64 a1.e2.Den, .int .i64 a1.e0.Re, .int .i64 a1.e0.Im, .int .i64 a1.e0.Den]) (some 28) ?_
     refine JL.alloc (cl_25 zv_25) fun b11 => ?_
     refine JL.store 3 b11 0 25 (cl_25 zv_25) [.int .i64 a1.e3.Re, .int .i64 a1.e3.Im, .int .i64 a1.e3.Den, .int .i64 a1.e1.Re, .int .i64 a1.e1.Im, .int .i64 a1.e1.Den, .int .i64 a1.e2.Re, .int .i64 a1.e2.Im, .int .i64 a1.e2.Den, .int .i64 a1.e0.Re, .int .i64 a1.e0.Im, .int .i64 a1.e0.Den] tySize_25 ?_
     refine JL.nil ?_
     refine JQ.then_normal ?_
     refine JQ.sub [(2, .pointer (some ⟨b3, 0, none⟩)), (4, .pointer (some ⟨b6, 0, none⟩)), (6, .pointer (some ⟨b11, 0, none⟩))] ?_
     refine JQ.mask [At.box b3 25 (cl_25 zv_25), At.box b6 23 (cl_23 t4.1), At.box b11 25 [.int .i64 a1.e3.Re, .int .i64 a1.e3.Im, .int .i64 a1.e3.Den, .int .i64 a1.e1.Re, .int .i64 a1.e1.Im, .int .i64 a1.e1.Den, .int .i64 a1.e2.Re, .int .i64 a1.e2.Im, .int .i64 a1.e2.Den, .int .i64 a1.e0.Re, .int .i64 a1.e0.Im, .int .i64 a1.e0.Den]] [false, true, true, true] ?_
     refine J.seq ?_
     refine J.seq ?_
     refine J.region ?_
     refine JL.mv (.int .i64 0) ?_
     refine JL.nil ?_
     refine JQ.then_normal ?_
     obtain ⟨o1, hit, H0⟩ := bind_some H0
     refine J.loop (σ := ((A4 Cx) × Int)) (τ := (A4 Cx)) (G := Unit) (G' := Unit) _ o1 (fun s g => [(2, .pointer (some ⟨b3, 0, none⟩)), (4, .pointer (some ⟨b6, 0, none⟩)), (6, .pointer (some ⟨b11, 0, none⟩)), (29, .int .i64 s.2)]) (fun s g => [At.box b3 25 (cl_25 zv_25), At.box b6 23 (cl_23 t4.1), At.box b11 25 (cl_25 s.1)]) (fun t => jones_Inv.k8 t = some r) (fun t g => [(2, .pointer (some ⟨b3, 0, none⟩)), (6, .pointer (some ⟨b11, 0, none⟩))]) (fun t g => [At.box b3 25 (cl_25 zv_25), At.box b11 25 (cl_25 t)]) ((⟨a1.e3, a1.e1, a1.e2, a1.e0⟩ : (A4 Cx)), 0) () hit (fun _ h => Heap.to h) ?_ ?_
     · clear hit
       rintro ⟨out84, x85⟩ ⟨⟩ st1 H1 hb1 hr1
       replace H1 : jones_Inv.s7 t4 out84 x85 = some st1 := H1
       unfold jones_Inv.s7 at H1
       refine JQ.sub [(2, .pointer (some ⟨b3, 0, none⟩)), (4, .pointer (some ⟨b6, 0, none⟩)), (6, .pointer (some ⟨b11, 0, none⟩)), (29, .int .i64 x85)] ?_
       refine JQ.turn (Δ' := [At.box b3 25 (cl_25 zv_25), At.box b6 23 (cl_23 t4.1), At.box b11 25 (cl_25 out84)]) (fun _ h => h.to) ?_
       refine J.seq ?_
       refine J.region ?_
       refine JL.pur (.bool (decide (x85 < 4))) (some 30) ?_
       refine JL.nil ?_
       refine JQ.then_normal ?_
       refine J.seq ?_
       rcases ite_cases H1 with ⟨h151, H1⟩ | ⟨h151, H1⟩
       · refine J.cond_true h151 ?_
         refine J.skip ?_
         refine JQ.then_normal ?_
         refine JQ.sub [(2, .pointer (some ⟨b3, 0, none⟩)), (4, .pointer (some ⟨b6, 0, none⟩)), (6, .pointer (some ⟨b11, 0, none⟩)), (29, .int .i64 x85)] ?_
         refine J.seq ?_
         refine J.block ?_
         refine J.seq ?_
         refine J.region ?_
         refine JL.mv (.int .i64 x85) ?_
         refine JL.as (.int .i64 x85) ?_
         refine JL.nil ?_
         refine JQ.then_normal ?_
         refine JQ.sub [(2, .pointer (some ⟨b3, 0, none⟩)), (4, .pointer (some ⟨b6, 0, none⟩)), (6, .pointer (some ⟨b11, 0, none⟩)), (7, .int .i64 x85), (29, .int .i64 x85)] ?_
         refine J.join (T := (A4 Cx)) (G := Unit) (fun t => jones_Inv.k10 t4 x85 t = some st1) (fun t g => [(2, .pointer (some ⟨b3, 0, none⟩)), (4, .pointer (some ⟨b6, 0, none⟩)), (6, .pointer (some ⟨b11, 0, none⟩)), (7, .int .i64 x85), (29, .int .i64 x85)]) (fun t g => [At.box b3 25 (cl_25 zv_25), At.box b6 23 (cl_23 t4.1), At.box b11 25 (cl_25 t)]) ?_ ?_
         · refine J.join (T := Bool) (G := Unit) (fun t => jones_Inv.k11 t4 out84 x85 t = some st1) (fun t g => [(2, .pointer (some ⟨b3, 0, none⟩)), (4, .pointer (some ⟨b6, 0, none⟩)), (6, .pointer (some ⟨b11, 0, none⟩)), (7, .int .i64 x85), (29, .int .i64 x85), (37, .bool t)]) (fun t g => [At.box b3 25 (cl_25 zv_25), At.box b6 23 (cl_23 t4.1), At.box b11 25 (cl_25 out84)]) ?_ ?_
           · refine J.region ?_
             refine JL.mv (.int .i64 x85) ?_
             refine JL.pur (.bool (decide (x85 = 1))) (some 33) ?_
             refine JL.mv (.bool (decide (x85 = 1))) ?_
             rcases ite_cases H1 with ⟨h214, H1⟩ | ⟨h214, H1⟩
             · refine JL.off 2 34 false (some 35) h214 ?_
               refine JL.off 2 34 false (some 36) h214 ?_
               refine JL.val (.bool true) (some 37) (gives_pickT h214) ?_
               refine JL.nil ?_
               refine JQ.then_normal ?_
               exact JQ.meet true () H1 (fun _ h => Heap.to h)
             · refine JL.on 2 34 h214 ?_
               refine JL.mv (.int .i64 x85) ?_
               refine JL.on 2 34 h214 ?_
               refine JL.pur (.bool (decide (x85 = 2))) (some 36) ?_
               refine JL.val (.bool (decide (x85 = 2))) (some 37) (gives_pickF h214) ?_
               refine JL.nil ?_
               refine JQ.then_normal ?_
               exact JQ.meet (decide (x85 = 2)) () H1 (fun _ h => Heap.to h)
           · clear H1
             rintro x192 ⟨⟩ H1
             replace H1 : jones_Inv.k11 t4 out84 x85 x192 = some st1 := H1
             unfold jones_Inv.k11 at H1
             refine JQ.sub [(2, .pointer (some ⟨b3, 0, none⟩)), (4, .pointer (some ⟨b6, 0, none⟩)), (6, .pointer (some ⟨b11, 0, none⟩)), (7, .int .i64 x85), (29, .int .i64 x85), (37, .bool x192)] ?_
             refine JQ.turn (Δ' := [At.box b3 25 (cl_25 zv_25), At.box b6 23 (cl_23 t4.1), At.box b11 25 (cl_25 out84)]) (fun _ h => h.to) ?_
             rcases ite_cases H1 with ⟨h193, H1⟩ | ⟨h193, H1⟩
             · refine J.cond_true h193 ?_
               obtain ⟨⟨h194, h195⟩, H1⟩ := ite_must H1
               obtain ⟨⟨h196, h197⟩, H1⟩ := ite_must H1
               obtain ⟨⟨h198, h199⟩, H1⟩ := ite_must H1
               obtain ⟨arr200, earr200, H1⟩ := lt_some H1
               obtain ⟨⟨h201, h202⟩, H1⟩ := ite_must H1
               obtain ⟨arr203, earr203, H1⟩ := lt_some H1
               refine JY.start [14, 17] (ba 18 0) ?_
               refine JY.pur (hi := rfl) 0 (ba 18 1) (.int .i64 x85) (some 38) want ?_
               refine JY.pur (hi := rfl) 1 (ba 18 3) (.int .i64 x85) (some 39) want ?_
               refine JY.pur (hi := rfl) 2 (ba 18 7) (.int .i64 x85) (some 40) want ?_
               obtain ⟨h204, h205⟩ : 0 ≤ x85 ∧ x85 < 4 := ⟨h201, h202⟩
               refine JY.puw (hi := rfl) 3 (ba 18 15) (.pointer (some ⟨b11, 0 + x85.toNat * 3, none⟩)) (some 41) want (givesW_ixArrD (b := b11) (o := 0) (i := x85) 4 3 .i64 h204 h205 Try.underlying25 tySize_23) ?_
               refine JY.pur (hi := rfl) 4 (ba 18 31) (.pointer (some ⟨b11, 0 + x85.toNat * 3, none⟩)) (some 42) want ?_
               refine JY.take (hi := rfl) 5 (ba 18 63) (.int .i64 ((ix ([out84.e0, out84.e1, out84.e2, out84.e3] : List Cx) x85).Re)) (some 43) [true, true, true] want (gives_loadEl (f := fl_Cx) 2 0 x85 (elems_arr b11 25 (cl_25 out84) fl_Cx ([out84.e0, out84.e1, out84.e2, out84.e3] : List Cx) 0) h204 h205 tySize_2 (.inr ⟨tyAgg_2, rfl, rfl⟩)) ?_
               refine JY.pur (hi := rfl) 6 (ba 18 127) (.int .i64 (w64 (0 - (ix ([out84.e0, out84.e1, out84.e2, out84.e3] : List Cx) x85).Re))) (some 44) want ?_
               refine JY.pur (hi := rfl) 7 (ba 18 255) (.int .i64 x85) (some 45) want ?_
               obtain ⟨h206, h207⟩ : 0 ≤ x85 ∧ x85 < 4 := ⟨h201, h202⟩
               refine JY.puw (hi := rfl) 8 (ba 18 511) (.pointer (some ⟨b11, 0 + x85.toNat * 3, none⟩)) (some 46) want (givesW_ixArrD (b := b11) (o := 0) (i := x85) 4 3 .i64 h206 h207 Try.underlying25 tySize_23) ?_
               refine JY.pur (hi := rfl) 9 (ba 18 1023) (.pointer (some ⟨b11, 0 + x85.toNat * 3 + 1, none⟩)) (some 47) want ?_
               refine JY.take (hi := rfl) 10 (ba 18 2047) (.int .i64 ((ix ([out84.e0, out84.e1, out84.e2, out84.e3] : List Cx) x85).Im)) (some 48) [true, true, true] want (gives_loadEl (f := fl_Cx) 2 1 x85 (elems_arr b11 25 (cl_25 out84) fl_Cx ([out84.e0, out84.e1, out84.e2, out84.e3] : List Cx) 0) h206 h207 tySize_2 (.inr ⟨tyAgg_2, rfl, rfl⟩)) ?_
               refine JY.pur (hi := rfl) 11 (ba 18 4095) (.int .i64 (w64 (0 - (ix ([out84.e0, out84.e1, out84.e2, out84.e3] : List Cx) x85).Im))) (some 49) want ?_
               obtain ⟨h208, h209⟩ : 0 ≤ x85 ∧ x85 < 4 := ⟨h201, h202⟩
               refine JY.puw (hi := rfl) 12 (ba 18 8191) (.pointer (some ⟨b11, 0 + x85.toNat * 3, none⟩)) (some 50) want (givesW_ixArrD (b := b11) (o := 0) (i := x85) 4 3 .i64 h208 h209 Try.underlying25 tySize_23) ?_
               refine JY.pur (hi := rfl) 13 (ba 18 16383) (.pointer (some ⟨b11, 0 + x85.toNat * 3, none⟩)) (some 51) want ?_
               refine JY.all [14] ⟨⟨_, rfl, ?_⟩, trivial⟩
               refine JL.storeArr b11 0 0 2 25 fl_Cx ([out84.e0, out84.e1, out84.e2, out84.e3] : List Cx) x85 (cl_25 out84) [] [] (⟨(w64 (0 - (ix ([out84.e0, out84.e1, out84.e2, out84.e3] : List Cx) x85).Re)), ((ix ([out84.e0, out84.e1, out84.e2, out84.e3] : List Cx) x85).Im), ((ix ([out84.e0, out84.e1, out84.e2, out84.e3] : List Cx) x85).Den)⟩ : Cx) h208 h209 tySize_2 ?_
               rw [ofL4 fl_Cx (l := ([out84.e0, out84.e1, out84.e2, out84.e3] : List Cx).set x85.toNat (⟨(w64 (0 - (ix ([out84.e0, out84.e1, out84.e2, out84.e3] : List Cx) x85).Re)), ((ix ([out84.e0, out84.e1, out84.e2, out84.e3] : List Cx) x85).Im), ((ix ([out84.e0, out84.e1, out84.e2, out84.e3] : List Cx) x85).Den)⟩ : Cx)) (by simp), earr200]
               refine JQ.turn (Δ' := [At.box b3 25 (cl_25 zv_25), At.box b6 23 (cl_23 t4.1), At.box b11 25 (cl_25 arr200)]) (fun _ h => h.to) ?_
               refine JL.nil ?_
               refine JY.ranD (ba 18 32767) ?_
               obtain ⟨h211, h212⟩ : 0 ≤ x85 ∧ x85 < 4 := ⟨h201, h202⟩
               refine JY.puw (hi := rfl) 15 (ba 18 65535) (.pointer (some ⟨b11, 0 + x85.toNat * 3, none⟩)) (some 52) want (givesW_ixArrD (b := b11) (o := 0) (i := x85) 4 3 .i64 h211 h212 Try.underlying25 tySize_23) ?_
               refine JY.pur (hi := rfl) 16 (ba 18 131071) (.pointer (some ⟨b11, 0 + x85.toNat * 3 + 1, none⟩)) (some 53) want ?_
               refine JY.all [17] ⟨⟨_, rfl, ?_⟩, trivial⟩
               refine JL.storeArr b11 0 1 2 25 fl_Cx ([arr200.e0, arr200.e1, arr200.e2, arr200.e3] : List Cx) x85 (cl_25 arr200) [] [] (⟨((ix ([arr200.e0, arr200.e1, arr200.e2, arr200.e3] : List Cx) x85).Re), (w64 (0 - (ix ([out84.e0, out84.e1, out84.e2, out84.e3] : List Cx) x85).Im)), ((ix ([arr200.e0, arr200.e1, arr200.e2, arr200.e3] : List Cx) x85).Den)⟩ : Cx) h211 h212 tySize_2 ?_
               rw [ofL4 fl_Cx (l := ([arr200.e0, arr200.e1, arr200.e2, arr200.e3] : List Cx).set x85.toNat (⟨((ix ([arr200.e0, arr200.e1, arr200.e2, arr200.e3] : List Cx) x85).Re), (w64 (0 - (ix ([out84.e0, out84.e1, out84.e2, out84.e3] : List Cx) x85).Im)), ((ix ([arr200.e0, arr200.e1, arr200.e2, arr200.e3] : List Cx) x85).Den)⟩ : Cx)) (by simp), earr203]
               refine JQ.turn (Δ' := [At.box b3 25 (cl_25 zv_25), At.box b6 23 (cl_23 t4.1), At.box b11 25 (cl_25 arr203)]) (fun _ h => h.to) ?_
               refine JL.nil ?_
               refine JY.ranD (ba 18 262143) ?_
               refine JY.done ?_
               refine JQ.then_normal ?_
               exact JQ.meet arr203 () H1 (fun _ h => Heap.to h)
             · refine J.cond_false h193 ?_
               refine J.skip ?_
               refine JQ.then_normal ?_
               exact JQ.meet out84 () H1 (fun _ h => Heap.to h)
         · clear H1
           rintro out176 ⟨⟩ H1
           replace H1 : jones_Inv.k10 t4 x85 out176 = some st1 := H1
           unfold jones_Inv.k10 at H1
           refine JQ.sub [(2, .pointer (some ⟨b3, 0, none⟩)), (4, .pointer (some ⟨b6, 0, none⟩)), (6, .pointer (some ⟨b11, 0, none⟩)), (7, .int .i64 x85), (29, .int .i64 x85)] ?_
           refine JQ.turn (Δ' := [At.box b3 25 (cl_25 zv_25), At.box b6 23 (cl_23 t4.1), At.box b11 25 (cl_25 out176)]) (fun _ h => h.to) ?_
           refine J.seq ?_
           obtain ⟨⟨h177, h178⟩, H1⟩ := ite_must H1
           obtain ⟨t179, hc180, H1⟩ := bind_some H1
           obtain ⟨⟨h181, h182⟩, H1⟩ := ite_must H1
           obtain ⟨arr183, earr183, H1⟩ := lt_some H1
           refine JY.start [10] (ba 12 0) ?_
           refine JY.pur (hi := rfl) 0 (ba 12 1) (.int .i64 x85) (some 55) want ?_
           refine JY.pur (hi := rfl) 1 (ba 12 3) (.int .i64 x85) (some 56) want ?_
           obtain ⟨h184, h185⟩ : 0 ≤ x85 ∧ x85 < 4 := ⟨h181, h182⟩
           refine JY.puw (hi := rfl) 2 (ba 12 7) (.pointer (some ⟨b11, 0 + x85.toNat * 3, none⟩)) (some 57) want (givesW_ixArrD (b := b11) (o := 0) (i := x85) 4 3 .i64 h184 h185 Try.underlying25 tySize_23) ?_
           refine JY.take (hi := rfl) 3 (ba 12 15) (mv_23 (ix ([out176.e0, out176.e1, out176.e2, out176.e3] : List Cx) x85)) (some 58) [true, true, true] want (gives_loadEl (f := fl_Cx) 2 0 x85 (elems_arr b11 25 (cl_25 out176) fl_Cx ([out176.e0, out176.e1, out176.e2, out176.e3] : List Cx) 0) h184 h185 tySize_23 (.inl ⟨tyAgg_23, rfl⟩)) ?_
           refine JY.take (hi := rfl) 4 (ba 12 31) (mv_23 t4.1) (some 59) [true, true, true] want (yields_load_boxes 1 0 (cl_23 t4.1) (holds_box b6 23 (cl_23 t4.1)) tyAgg_23 tySize_23) ?_
           refine JY.all [5] ⟨⟨_, rfl, ?_⟩, trivial⟩
           refine JL.call [] [] [] (cx_Div.ok (ix ([out176.e0, out176.e1, out176.e2, out176.e3] : List Cx) x85) t4.1 _ hc180) trivial ?_
           rintro _ _ ⟨rfl, rfl⟩
           refine JL.nil ?_
           refine JY.ran (ba 12 63) [true, true, true] ?_
           refine JY.pur (hi := rfl) 6 (ba 12 127) (.tuple #[mv_23 t179.1, .int .i64 t179.2]) (some 54) want ?_
           refine JY.pur (hi := rfl) 7 (ba 12 255) (mv_23 t179.1) (some 61) want ?_
           refine JY.pur (hi := rfl) 8 (ba 12 511) (.int .i64 t179.2) (some 62) want ?_
           obtain ⟨h188, h189⟩ : 0 ≤ x85 ∧ x85 < 4 := ⟨h181, h182⟩
           refine JY.puw (hi := rfl) 9 (ba 12 1023) (.pointer (some ⟨b11, 0 + x85.toNat * 3, none⟩)) (some 63) want (givesW_ixArrD (b := b11) (o := 0) (i := x85) 4 3 .i64 h188 h189 Try.underlying25 tySize_23) ?_
           refine JY.all [10] ⟨⟨_, rfl, ?_⟩, trivial⟩
           refine JL.storeArr b11 0 0 2 25 fl_Cx ([out176.e0, out176.e1, out176.e2, out176.e3] : List Cx) x85 (cl_25 out176) [] [] t179.1 h188 h189 tySize_23 ?_
           rw [ofL4 fl_Cx (l := ([out176.e0, out176.e1, out176.e2, out176.e3] : List Cx).set x85.toNat t179.1) (by simp), earr183]
           refine JQ.turn (Δ' := [At.box b3 25 (cl_25 zv_25), At.box b6 23 (cl_23 t4.1), At.box b11 25 (cl_25 arr183)]) (fun _ h => h.to) ?_
           refine JL.nil ?_
           refine JY.ranD (ba 12 2047) ?_
           refine JY.pur (hi := rfl) 11 (ba 12 4095) (.int .i64 t179.2) (some 5) want ?_
           refine JY.done ?_
           refine JQ.then_normal ?_
           refine JQ.sub [(2, .pointer (some ⟨b3, 0, none⟩)), (4, .pointer (some ⟨b6, 0, none⟩)), (5, .int .i64 t179.2), (6, .pointer (some ⟨b11, 0, none⟩)), (29, .int .i64 x85)] ?_
           refine J.seq ?_
           refine J.region ?_
           refine JL.mv (.int .i64 t179.2) ?_
           refine JL.pur (.bool (!decide (t179.2 = 0))) (some 65) ?_
           refine JL.nil ?_
           refine JQ.then_normal ?_
           refine JQ.sub [(2, .pointer (some ⟨b3, 0, none⟩)), (4, .pointer (some ⟨b6, 0, none⟩)), (5, .int .i64 t179.2), (6, .pointer (some ⟨b11, 0, none⟩)), (29, .int .i64 x85), (65, .bool (!decide (t179.2 = 0)))] ?_
           rcases ite_cases H1 with ⟨h1184, H1⟩ | ⟨h1184, H1⟩
           · refine J.cond_true h1184 ?_
             refine J.seq ?_
             refine J.region ?_
             refine JL.pur (mv_25 zv_25) (some 66) ?_
             refine JL.mv (.int .i64 t179.2) ?_
             refine JL.store 0 b3 0 25 (cl_25 zv_25) (cl_25 zv_25) tySize_25 ?_
             refine JL.as (.int .i64 t179.2) ?_
             refine JL.nil ?_
             refine JQ.then_normal ?_
             refine JQ.sub [(2, .pointer (some ⟨b3, 0, none⟩)), (3, .int .i64 t179.2)] ?_
             refine JQ.mask [At.box b3 25 (cl_25 zv_25)] [true, false, false] ?_
             refine J.ret ?_
             refine JQ.blk_ret ?_
             refine JQ.then_ret ?_
             refine JQ.then_ret ?_
             refine JQ.blk_ret ?_
             refine JQ.met_ret ?_
             refine JQ.then_ret ?_
             rw [hr1 _ (Option.some.inj H1).symm, fin_ret] at H0
             obtain rfl := Option.some.inj H0
             exact JQ.done' (rs := [.cell 2 25, .tmp 3]) (vs := [.agg #[.int .i64 0, .int .i64 0, .int .i64 0, .int .i64 0, .int .i64 0, .int .i64 0, .int .i64 0, .int .i64 0, .int .i64 0, .int .i64 0, .int .i64 0, .int .i64 0], .int .i64 t179.2]) [] (.inr rfl) ⟨⟨b3, 0, _, _, by kernel_rfl, by kernel_rfl, holds_box b3 25 (cl_25 zv_25), .inl ⟨tyAgg_25, tySize_25, rfl⟩⟩, by kernel_rfl, trivial⟩ (fun _ h => Heap.to (Heap.pick [] (by decide) h)) ⟨rfl, rfl⟩
           · refine J.cond_false h1184 ?_
             refine J.skip ?_
             refine JQ.blk_normal ?_
             refine JQ.then_normal ?_
             refine JQ.sub [(2, .pointer (some ⟨b3, 0, none⟩)), (4, .pointer (some ⟨b6, 0, none⟩)), (6, .pointer (some ⟨b11, 0, none⟩)), (29, .int .i64 x85)] ?_
             refine J.region ?_
             refine JL.pur (.int .i64 (w64 (x85 + 1))) (some 68) ?_
             refine JL.mv (.int .i64 (w64 (x85 + 1))) ?_
             refine JL.nil ?_
             refine JQ.then_normal ?_
             exact JQ.again (arr183, w64 (x85 + 1)) () (Option.some.inj H1).symm (fun _ h => Heap.to h)
       · refine J.cond_false h151 ?_
         refine J.exit ?_
         refine JQ.then_exit ?_
         refine JQ.then_exit ?_
         refine JQ.blk_exit ?_
         rw [hb1 _ (Option.some.inj H1).symm, fin_brk] at H0
         exact JQ.met out84 () H0 (fun _ h => Heap.to (Heap.pick [0, 2] (by decide) h))
     · clear hit H0
       rintro out150 ⟨⟩ H0
       replace H0 : jones_Inv.k8 out150 = some r := H0
       unfold jones_Inv.k8 at H0
       refine JQ.sub [(2, .pointer (some ⟨b3, 0, none⟩)), (6, .pointer (some ⟨b11, 0, none⟩))] ?_
       refine JQ.turn (Δ' := [At.box b3 25 (cl_25 zv_25), At.box b11 25 (cl_25 out150)]) (fun _ h => h.to) ?_
       refine JQ.then_normal ?_
       refine J.seq ?_
       refine J.region ?_
       refine JL.val (mv_25 out150) (some 69) (yields_load_boxes 1 0 (cl_25 out150) (holds_box b11 25 (cl_25 out150)) tyAgg_25 tySize_25) ?_
       refine JL.store 0 b3 0 25 (cl_25 zv_25) (cl_25 out150) tySize_25 ?_
       refine JL.as (.int .i64 0) ?_
       refine JL.nil ?_
       refine JQ.then_normal ?_
       refine JQ.sub [(2, .pointer (some ⟨b3, 0, none⟩)), (3, .int .i64 0)] ?_
       refine JQ.mask [At.box b3 25 (cl_25 out150)] [true, false] ?_
       refine J.ret ?_
       obtain rfl := Option.some.inj H0
       exact JQ.done' (rs := [.cell 2 25, .tmp 3]) (vs := [.agg #[.int .i64 out150.e0.Re, .int .i64 out150.e0.Im, .int .i64 out150.e0.Den, .int .i64 out150.e1.Re, .int .i64 out150.e1.Im, .int .i64 out150.e1.Den, .int .i64 out150.e2.Re, .int .i64 out150.e2.Im, .int .i64 out150.e2.Den, .int .i64 out150.e3.Re, .int .i64 out150.e3.Im, .int .i64 out150.e3.Den], .int .i64 0]) [] (.inr rfl) ⟨⟨b3, 0, _, _, by kernel_rfl, by kernel_rfl, holds_box b3 25 (cl_25 out150), .inl ⟨tyAgg_25, tySize_25, rfl⟩⟩, by kernel_rfl, trivial⟩ (fun _ h => Heap.to (Heap.pick [] (by decide) h)) ⟨rfl, rfl⟩

theorem law33_whole.ok (a1 : Int) (b2 : Int) (c3 : Int) (d4 : Int) (r : (A4 Cx)) (H0 : law33_whole.f a1 b2 c3 d4 = some r) :
    Does Try.prog 27 [.int .i64 a1, .int .i64 b2, .int .i64 c3, .int .i64 d4].toArray [] [] false (fun v Δ => v = mv_25 r ∧ Δ = []) := by
 refine Does.body (vs := [.int .i64 a1, .int .i64 b2, .int .i64 c3, .int .i64 d4]) Try.func27 rfl trivial trivial fun w S => ?_
 unfold law33_whole.f at H0
 refine J.seq ?_
 refine J.region ?_
 refine JL.alloc (cl_25 zv_25) fun b5 => ?_
 refine JL.nil ?_
 refine JQ.then_normal ?_
 refine J.seq ?_
 refine J.region ?_
 refine JL.mv (.int .i64 a1) ?_
 obtain ⟨t6, hc7, H0⟩ := bind_some H0
 refine JL.call [] [] [] (law33_of.ok a1 0 1 _ hc7) trivial ?_
 rintro _ _ ⟨rfl, rfl⟩
 refine JL.mv (.int .i64 b2) ?_
 obtain ⟨t8, hc9, H0⟩ := bind_some H0
 refine JL.call [] [] [] (law33_of.ok b2 0 1 _ hc9) trivial ?_
 rintro _ _ ⟨rfl, rfl⟩
 refine JL.mv (.int .i64 c3) ?_
 obtain ⟨t10, hc11, H0⟩ := bind_some H0
 refine JL.call [] [] [] (law33_of.ok c3 0 1 _ hc11) trivial ?_
 rintro _ _ ⟨rfl, rfl⟩
 refine JL.mv (.int .i64 d4) ?_
 obtain ⟨t12, hc13, H0⟩ := bind_some H0
 refine JL.call [] [] [] (law33_of.ok d4 0 1 _ hc13) trivial ?_
 rintro _ _ ⟨rfl, rfl⟩
 refine JL.pur (.agg #[.int .i64 t6.Re, .int .i64 t6.Im, .int .i64 t6.Den, .int .i64 t8.Re, .int .i64 t8.Im, .int .i64 t8.Den, .int .i64 t10.Re, .int .i64 t10.Im, .int .i64 t10.Den, .int .i64 t12.Re, .int .i64 t12.Im, .int .i64 t12.Den]) (some 17) ?_
 refine JL.store 0 b5 0 25 (cl_25 zv_25) [.int .i64 t6.Re, .int .i64 t6.Im, .int .i64 t6.Den, .int .i64 t8.Re, .int .i64 t8.Im, .int .i64 t8.Den, .int .i64 t10.Re, .int .i64 t10.Im, .int .i64 t10.Den, .int .i64 t12.Re, .int .i64 t12.Im, .int .i64 t12.Den] tySize_25 ?_
 refine JL.nil ?_
 refine JQ.then_normal ?_
 refine JQ.sub [(8, .pointer (some ⟨b5, 0, none⟩))] ?_
 refine J.ret ?_
 obtain rfl := Option.some.inj H0
 exact JQ.done' (rs := [.cell 8 25]) (vs := [.agg #[.int .i64 t6.Re, .int .i64 t6.Im, .int .i64 t6.Den, .int .i64 t8.Re, .int .i64 t8.Im, .int .i64 t8.Den, .int .i64 t10.Re, .int .i64 t10.Im, .int .i64 t10.Den, .int .i64 t12.Re, .int .i64 t12.Im, .int .i64 t12.Den]]) [] (.inr rfl) ⟨⟨b5, 0, _, _, by kernel_rfl, by kernel_rfl, holds_box b5 25 [.int .i64 t6.Re, .int .i64 t6.Im, .int .i64 t6.Den, .int .i64 t8.Re, .int .i64 t8.Im, .int .i64 t8.Den, .int .i64 t10.Re, .int .i64 t10.Im, .int .i64 t10.Den, .int .i64 t12.Re, .int .i64 t12.Im, .int .i64 t12.Den], .inl ⟨tyAgg_25, tySize_25, rfl⟩⟩, trivial⟩ (fun _ h => Heap.to (Heap.pick [] (by decide) h)) ⟨rfl, rfl⟩

theorem jones_table_1.ok (a1 : (A4 Cx)) (r : Bool) (H0 : jones_table_1.f a1 = some r) :
    Does Try.prog 71 [mv_25 a1].toArray [] [] false (fun v Δ => v = .bool r ∧ Δ = []) := by
 refine Does.body (vs := [mv_25 a1]) Try.func71 rfl trivial trivial fun w S => ?_
 unfold jones_table_1.f at H0
 refine J.seq ?_
 refine J.region ?_
 refine JL.box (cl_25 a1) fun b2 => ?_
 refine JL.as (.bool false) ?_
 refine JL.nil ?_
 refine JQ.then_normal ?_
 refine JQ.sub [(1, .pointer (some ⟨b2, 0, none⟩))] ?_
 refine J.seq ?_
 refine J.region ?_
 refine JL.val (mv_25 a1) (some 3) (yields_load_boxes 0 0 (cl_25 a1) (holds_box b2 25 (cl_25 a1)) tyAgg_25 tySize_25) ?_
 obtain ⟨t3, hc4, H0⟩ := bind_some H0
 refine JL.call [] [] [] (jones_valid.ok a1 _ hc4) trivial ?_
 rintro _ _ ⟨rfl, rfl⟩
 refine JL.pur (.bool (!t3)) (some 5) ?_
 refine JL.as (.bool (!t3)) ?_
 refine JL.nil ?_
 refine JQ.then_normal ?_
 refine JQ.sub [(2, .bool (!t3))] ?_
 refine JQ.mask [] [false] ?_
 refine J.ret ?_
 obtain rfl := Option.some.inj H0
 exact JQ.done' (rs := [.tmp 2]) (vs := [.bool (!t3)]) [] (.inr rfl) ⟨by kernel_rfl, trivial⟩ (fun _ h => Heap.to h) ⟨rfl, rfl⟩

theorem slices_IndexFunc__api_Jones_api_Jones__jones_table_1.ok (s1 : (List (A4 Cx))) (Aa2 : Option Addr) (c3 : Nat) (r : Int) (H0 : slices_IndexFunc__api_Jones_api_Jones__jones_table_1.f s1 = some r) :
    Does Try.prog 78 [.slice Aa2 s1.length c3, .func (.func 71) #[] #[]].toArray [At.rd Aa2 c3 ((flArr4 fl_Cx).kd) s1 true] [] false (fun v Δ => v = .int .i64 r ∧ Δ = []) := by
 refine Does.body (vs := [.slice Aa2 s1.length c3, .func (.func 71) #[] #[]]) Try.func78 rfl ⟨.inl rfl, trivial⟩ trivial fun w S => ?_
 unfold slices_IndexFunc__api_Jones_api_Jones__jones_table_1.f at H0
 refine J.seq ?_
 refine J.region ?_
 refine JL.as (.int .i64 0) ?_
 refine JL.nil ?_
 refine JQ.then_normal ?_
 refine JQ.sub [(0, .slice Aa2 s1.length c3), (1, .func (.func 71) #[] #[])] ?_
 refine J.seq ?_
 refine J.seq ?_
 refine J.region ?_
 refine JL.mv (.slice Aa2 s1.length c3) ?_
 refine JL.pur (.int .i64 (s1.length : Int)) (some 7) ?_
 refine JL.mv (.int .i64 0) ?_
 refine JL.nil ?_
 refine JQ.then_normal ?_
 refine JQ.sub [(0, .slice Aa2 s1.length c3), (1, .func (.func 71) #[] #[]), (7, .int .i64 (s1.length : Int)), (8, .int .i64 0)] ?_
 obtain ⟨o1, hit, H0⟩ := bind_some H0
 refine J.loop (σ := Int) (τ := Unit) (G := Unit) (G' := Unit) _ o1 (fun s g => [(0, .slice Aa2 s1.length c3), (1, .func (.func 71) #[] #[]), (7, .int .i64 (s1.length : Int)), (8, .int .i64 s)]) (fun s g => [At.rd Aa2 c3 ((flArr4 fl_Cx).kd) s1 true]) (fun t => slices_IndexFunc__api_Jones_api_Jones__jones_table_1.k2 = some r) (fun t g => []) (fun t g => []) 0 () hit (fun _ h => Heap.to h) ?_ ?_
 · clear hit
   rintro x23 ⟨⟩ st1 H1 hb1 hr1
   replace H1 : slices_IndexFunc__api_Jones_api_Jones__jones_table_1.s1 s1 x23 = some st1 := H1
   unfold slices_IndexFunc__api_Jones_api_Jones__jones_table_1.s1 at H1
   refine JQ.sub [(0, .slice Aa2 s1.length c3), (1, .func (.func 71) #[] #[]), (7, .int .i64 (s1.length : Int)), (8, .int .i64 x23)] ?_
   refine JQ.turn (Δ' := [At.rd Aa2 c3 ((flArr4 fl_Cx).kd) s1 true]) (fun _ h => h.to) ?_
   refine J.seq ?_
   refine J.region ?_
   refine JL.pur (.bool (decide (x23 < (s1.length : Int)))) (some 9) ?_
   refine JL.nil ?_
   refine JQ.then_normal ?_
   refine J.seq ?_
   rcases ite_cases H1 with ⟨h32, H1⟩ | ⟨h32, H1⟩
   · refine J.cond_true h32 ?_
     refine J.skip ?_
     refine JQ.then_normal ?_
     refine JQ.sub [(0, .slice Aa2 s1.length c3), (1, .func (.func 71) #[] #[]), (7, .int .i64 (s1.length : Int)), (8, .int .i64 x23)] ?_
     refine J.seq ?_
     refine J.block ?_
     refine J.seq ?_
     refine J.region ?_
     refine JL.mv (.int .i64 x23) ?_
     refine JL.as (.int .i64 x23) ?_
     refine JL.nil ?_
     refine JQ.then_normal ?_
     refine JQ.sub [(0, .slice Aa2 s1.length c3), (1, .func (.func 71) #[] #[]), (5, .int .i64 x23), (7, .int .i64 (s1.length : Int)), (8, .int .i64 x23)] ?_
     refine J.seq ?_
     refine J.region ?_
     refine JL.mv (.func (.func 71) #[] #[]) ?_
     refine JL.mv (.slice Aa2 s1.length c3) ?_
     refine JL.mv (.int .i64 x23) ?_
     obtain ⟨⟨h33, h34⟩, H1⟩ := ite_must H1
     refine JL.ixAddr 0 12 c3 .i64 (elems_rd Aa2 c3 ((flArr4 fl_Cx).kd) s1 true) Try.underlying38 tySize_25 h33 h34 fun g35 o36 hA => ?_
     subst hA
     refine JL.val (mv_25 (ix s1 x23)) (some 15) (gives_loadEl (f := (flArr4 fl_Cx)) 0 0 x23 (elems_rd (some ⟨g35, o36, none⟩) c3 ((flArr4 fl_Cx).kd) s1 true) h33 h34 tySize_25 (.inl ⟨tyAgg_25, rfl⟩)) ?_
     obtain ⟨t37, hc38, H1⟩ := bind_some H1
     refine JL.call [] [] [] (jones_table_1.ok (ix s1 x23) _ hc38) trivial ?_
     rintro _ _ ⟨rfl, rfl⟩
     refine JL.nil ?_
     refine JQ.then_normal ?_
     refine JQ.sub [(0, .slice (some ⟨g35, o36, none⟩) s1.length c3), (1, .func (.func 71) #[] #[]), (5, .int .i64 x23), (7, .int .i64 (s1.length : Int)), (8, .int .i64 x23), (16, .bool t37)] ?_
     rcases ite_cases H1 with ⟨h39, H1⟩ | ⟨h39, H1⟩
     · refine J.cond_true h39 ?_
       refine J.seq ?_
       refine J.region ?_
       refine JL.mv (.int .i64 x23) ?_
       refine JL.as (.int .i64 x23) ?_
       refine JL.nil ?_
       refine JQ.then_normal ?_
       refine JQ.sub [(4, .int .i64 x23)] ?_
       refine JQ.mask [] [false] ?_
       refine J.ret ?_
       refine JQ.blk_ret ?_
       refine JQ.then_ret ?_
       refine JQ.then_ret ?_
       refine JQ.blk_ret ?_
       refine JQ.met_ret ?_
       refine JQ.then_ret ?_
       rw [hr1 _ (Option.some.inj H1).symm, fin_ret] at H0
       obtain rfl := Option.some.inj H0
       exact JQ.done' (rs := [.tmp 4]) (vs := [.int .i64 x23]) [] (.inr rfl) ⟨by kernel_rfl, trivial⟩ (fun _ h => Heap.to h) ⟨rfl, rfl⟩
     · refine J.cond_false h39 ?_
       refine J.skip ?_
       refine JQ.blk_normal ?_
       refine JQ.then_normal ?_
       refine JQ.sub [(0, .slice (some ⟨g35, o36, none⟩) s1.length c3), (1, .func (.func 71) #[] #[]), (7, .int .i64 (s1.length : Int)), (8, .int .i64 x23)] ?_
       refine J.region ?_
       refine JL.pur (.int .i64 (w64 (x23 + 1))) (some 18) ?_
       refine JL.mv (.int .i64 (w64 (x23 + 1))) ?_
       refine JL.nil ?_
       refine JQ.then_normal ?_
       exact JQ.again (w64 (x23 + 1)) () (Option.some.inj H1).symm (fun _ h => Heap.to h)
   · refine J.cond_false h32 ?_
     refine J.exit ?_
     refine JQ.then_exit ?_
     refine JQ.then_exit ?_
     refine JQ.blk_exit ?_
     rw [hb1 _ (Option.some.inj H1).symm, fin_brk] at H0
     exact JQ.met () () H0 (fun _ h => Heap.to (Heap.pick [] (by decide) h))
 · clear hit H0
   rintro ⟨⟩ ⟨⟩ H0
   replace H0 : slices_IndexFunc__api_Jones_api_Jones__jones_table_1.k2 = some r := H0
   unfold slices_IndexFunc__api_Jones_api_Jones__jones_table_1.k2 at H0
   refine JQ.sub [] ?_
   refine JQ.turn (Δ' := []) (fun _ h => h.to) ?_
   refine JQ.then_normal ?_
   refine J.seq ?_
   refine J.region ?_
   refine JL.as (.int .i64 (-1)) ?_
   refine JL.nil ?_
   refine JQ.then_normal ?_
   refine J.ret ?_
   obtain rfl := Option.some.inj H0
   exact JQ.done' (rs := [.tmp 4]) (vs := [.int .i64 (-1)]) [] (.inr rfl) ⟨by kernel_rfl, trivial⟩ (fun _ h => Heap.to h) ⟨rfl, rfl⟩

theorem slices_ContainsFunc__api_Jones_api_Jones__jones_table_1.ok (s1 : (List (A4 Cx))) (Aa2 : Option Addr) (c3 : Nat) (r : Bool) (H0 : slices_ContainsFunc__api_Jones_api_Jones__jones_table_1.f s1 = some r) :
    Does Try.prog 70 [.slice Aa2 s1.length c3, .func (.func 71) #[] #[]].toArray [At.rd Aa2 c3 ((flArr4 fl_Cx).kd) s1 true] [] false (fun v Δ => v = .bool r ∧ Δ = []) := by
 refine Does.body (vs := [.slice Aa2 s1.length c3, .func (.func 71) #[] #[]]) Try.func70 rfl ⟨.inl rfl, trivial⟩ trivial fun w S => ?_
 unfold slices_ContainsFunc__api_Jones_api_Jones__jones_table_1.f at H0
 refine J.seq ?_
 refine J.region ?_
 refine JL.as (.bool false) ?_
 refine JL.nil ?_
 refine JQ.then_normal ?_
 refine JQ.sub [(0, .slice Aa2 s1.length c3), (1, .func (.func 71) #[] #[])] ?_
 refine J.seq ?_
 refine J.region ?_
 refine JL.mv (.slice Aa2 s1.length c3) ?_
 refine JL.mv (.func (.func 71) #[] #[]) ?_
 obtain ⟨t5, hc6, H0⟩ := bind_some H0
 refine JL.call [] [] [] (slices_IndexFunc__api_Jones_api_Jones__jones_table_1.ok s1 Aa2 c3 _ hc6) ⟨pre_any 0 (view_rd Aa2 c3 ((flArr4 fl_Cx).kd) s1 true true), trivial⟩ ?_
 rintro _ _ ⟨rfl, rfl⟩
 refine JL.pur (.bool (decide (0 ≤ t5))) (some 8) ?_
 refine JL.as (.bool (decide (0 ≤ t5))) ?_
 refine JL.nil ?_
 refine JQ.then_normal ?_
 refine JQ.sub [(4, .bool (decide (0 ≤ t5)))] ?_
 refine JQ.mask [] [false] ?_
 refine J.ret ?_
 obtain rfl := Option.some.inj H0
 exact JQ.done' (rs := [.tmp 4]) (vs := [.bool (decide (0 ≤ t5))]) [] (.inr rfl) ⟨by kernel_rfl, trivial⟩ (fun _ h => Heap.to h) ⟨rfl, rfl⟩

theorem jones_table.ok (t1 : (List (A4 Cx))) (Aa2 : Option Addr) (c3 : Nat) (r : Int) (H0 : jones_table.f t1 = some r) :
    Does Try.prog 50 [.slice Aa2 t1.length c3].toArray [At.rd Aa2 c3 ((flArr4 fl_Cx).kd) t1 true] [] false (fun v Δ => v = .int .i64 r ∧ Δ = []) := by
 refine Does.body (vs := [.slice Aa2 t1.length c3]) Try.func50 rfl ⟨.inl rfl, trivial⟩ trivial fun w S => ?_
 unfold jones_table.f at H0
 refine J.seq ?_
 refine J.region ?_
 refine JL.as (.int .i64 0) ?_
 refine JL.nil ?_
 refine JQ.then_normal ?_
 refine JQ.sub [(0, .slice Aa2 t1.length c3)] ?_
 refine J.seq ?_
 refine J.seq ?_
 refine J.region ?_
 refine JL.mv (.slice Aa2 t1.length c3) ?_
 refine JL.pur (.int .i64 (t1.length : Int)) (some 8) ?_
 refine JL.pur (.bool (decide (8 < (t1.length : Int)))) (some 9) ?_
 refine JL.nil ?_
 refine JQ.then_normal ?_
 refine JQ.sub [(0, .slice Aa2 t1.length c3), (9, .bool (decide (8 < (t1.length : Int))))] ?_
 rcases ite_cases H0 with ⟨h5, H0⟩ | ⟨h5, H0⟩
 · refine J.cond_true h5 ?_
   refine J.seq ?_
   refine J.region ?_
   refine JL.as (.int .i64 4) ?_
   refine JL.nil ?_
   refine JQ.then_normal ?_
   refine JQ.sub [(2, .int .i64 4)] ?_
   refine JQ.mask [] [false] ?_
   refine J.ret ?_
   refine JQ.then_ret ?_
   obtain rfl := Option.some.inj H0
   exact JQ.done' (rs := [.tmp 2]) (vs := [.int .i64 4]) [] (.inr rfl) ⟨by kernel_rfl, trivial⟩ (fun _ h => Heap.to h) ⟨rfl, rfl⟩
 · refine J.cond_false h5 ?_
   refine J.skip ?_
   refine JQ.then_normal ?_
   refine JQ.sub [(0, .slice Aa2 t1.length c3)] ?_
   refine J.seq ?_
   refine J.join (T := Bool) (G := Unit) (fun t => jones_table.k1 t1 t = some r) (fun t g => [(0, .slice Aa2 t1.length c3), (16, .bool t)]) (fun t g => [At.rd Aa2 c3 ((flArr4 fl_Cx).kd) t1 true]) ?_ ?_
   · refine J.region ?_
     refine JL.mv (.slice Aa2 t1.length c3) ?_
     refine JL.pur (.int .i64 (t1.length : Int)) (some 11) ?_
     refine JL.pur (.bool (decide ((t1.length : Int) = 0))) (some 12) ?_
     refine JL.mv (.bool (decide ((t1.length : Int) = 0))) ?_
     rcases ite_cases H0 with ⟨h66, H0⟩ | ⟨h66, H0⟩
     · refine JL.off 3 13 false (some 14) h66 ?_
       refine JL.off 3 13 false (some 15) h66 ?_
       refine JL.val (.bool true) (some 16) (gives_pickT h66) ?_
       refine JL.nil ?_
       refine JQ.then_normal ?_
       exact JQ.meet true () H0 (fun _ h => Heap.to h)
     · refine JL.on 3 13 h66 ?_
       refine JL.mv (.slice Aa2 t1.length c3) ?_
       refine JL.on 3 13 h66 ?_
       obtain ⟨t67, hc68, H0⟩ := bind_some H0
       refine JL.call [] [] [] (slices_ContainsFunc__api_Jones_api_Jones__jones_table_1.ok t1 Aa2 c3 _ hc68) ⟨pre_any 0 (view_rd Aa2 c3 ((flArr4 fl_Cx).kd) t1 true true), trivial⟩ ?_
       rintro _ _ ⟨rfl, rfl⟩
       refine JL.val (.bool t67) (some 16) (gives_pickF h66) ?_
       refine JL.nil ?_
       refine JQ.then_normal ?_
       exact JQ.meet t67 () H0 (fun _ h => Heap.to h)
   · clear H0
     rintro x9 ⟨⟩ H0
     replace H0 : jones_table.k1 t1 x9 = some r := H0
     unfold jones_table.k1 at H0
     refine JQ.sub [(0, .slice Aa2 t1.length c3), (16, .bool x9)] ?_
     refine JQ.turn (Δ' := [At.rd Aa2 c3 ((flArr4 fl_Cx).kd) t1 true]) (fun _ h => h.to) ?_
     rcases ite_cases H0 with ⟨h10, H0⟩ | ⟨h10, H0⟩
     · refine J.cond_true h10 ?_
       refine J.seq ?_
       refine J.region ?_
       refine JL.as (.int .i64 8) ?_
       refine JL.nil ?_
       refine JQ.then_normal ?_
       refine JQ.sub [(2, .int .i64 8)] ?_
       refine JQ.mask [] [false] ?_
       refine J.ret ?_
       refine JQ.then_ret ?_
       obtain rfl := Option.some.inj H0
       exact JQ.done' (rs := [.tmp 2]) (vs := [.int .i64 8]) [] (.inr rfl) ⟨by kernel_rfl, trivial⟩ (fun _ h => Heap.to h) ⟨rfl, rfl⟩
     · refine J.cond_false h10 ?_
       refine J.skip ?_
       refine JQ.then_normal ?_
       refine JQ.sub [(0, .slice Aa2 t1.length c3)] ?_
       refine J.seq ?_
       refine J.seq ?_
       refine J.region ?_
       refine JL.mv (.slice Aa2 t1.length c3) ?_
       refine JL.pur (.int .i64 (t1.length : Int)) (some 18) ?_
       refine JL.mv (.int .i64 0) ?_
       refine JL.nil ?_
       refine JQ.then_normal ?_
       refine JQ.sub [(17, .slice Aa2 t1.length c3), (18, .int .i64 (t1.length : Int)), (19, .int .i64 0)] ?_
       obtain ⟨o1, hit, H0⟩ := bind_some H0
       refine J.loop (σ := Int) (τ := Unit) (G := Unit) (G' := Unit) _ o1 (fun s g => [(17, .slice Aa2 t1.length c3), (18, .int .i64 (t1.length : Int)), (19, .int .i64 s)]) (fun s g => [At.rd Aa2 c3 ((flArr4 fl_Cx).kd) t1 true]) (fun t => jones_table.k3 = some r) (fun t g => []) (fun t g => []) 0 () hit (fun _ h => Heap.to h) ?_ ?_
       · clear hit
         rintro x39 ⟨⟩ st1 H1 hb1 hr1
         replace H1 : jones_table.s2 t1 x39 = some st1 := H1
         unfold jones_table.s2 at H1
         refine JQ.sub [(17, .slice Aa2 t1.length c3), (18, .int .i64 (t1.length : Int)), (19, .int .i64 x39)] ?_
         refine JQ.turn (Δ' := [At.rd Aa2 c3 ((flArr4 fl_Cx).kd) t1 true]) (fun _ h => h.to) ?_
         refine J.seq ?_
         refine J.region ?_
         refine JL.pur (.bool (decide (x39 < (t1.length : Int)))) (some 20) ?_
         refine JL.nil ?_
         refine JQ.then_normal ?_
         refine J.seq ?_
         rcases ite_cases H1 with ⟨h53, H1⟩ | ⟨h53, H1⟩
         · refine J.cond_true h53 ?_
           refine J.skip ?_
           refine JQ.then_normal ?_
           refine JQ.sub [(17, .slice Aa2 t1.length c3), (18, .int .i64 (t1.length : Int)), (19, .int .i64 x39)] ?_
           refine J.seq ?_
           refine J.block ?_
           refine J.seq ?_
           refine J.region ?_
           obtain ⟨⟨h54, h55⟩, H1⟩ := ite_must H1
           refine JL.ixAddr 0 12 c3 .i64 (elems_rd Aa2 c3 ((flArr4 fl_Cx).kd) t1 true) Try.underlying38 tySize_25 h54 h55 fun g56 o57 hA => ?_
           subst hA
           refine JL.val (mv_25 (ix t1 x39)) (some 22) (gives_loadEl (f := (flArr4 fl_Cx)) 0 0 x39 (elems_rd (some ⟨g56, o57, none⟩) c3 ((flArr4 fl_Cx).kd) t1 true) h54 h55 tySize_25 (.inl ⟨tyAgg_25, rfl⟩)) ?_
           refine JL.alloc (cl_25 zv_25) fun b58 => ?_
           refine JL.store 1 b58 0 25 (cl_25 zv_25) (cl_25 (ix t1 x39)) tySize_25 ?_
           refine JL.nil ?_
           refine JQ.then_normal ?_
           refine JQ.sub [(4, .pointer (some ⟨b58, 0, none⟩)), (17, .slice (some ⟨g56, o57, none⟩) t1.length c3), (18, .int .i64 (t1.length : Int)), (19, .int .i64 x39)] ?_
           refine J.seq ?_
           refine J.region ?_
           refine JL.val (mv_25 (ix t1 x39)) (some 24) (yields_load_boxes 1 0 (cl_25 (ix t1 x39)) (holds_box b58 25 (cl_25 (ix t1 x39))) tyAgg_25 tySize_25) ?_
           obtain ⟨t59, hc60, H1⟩ := bind_some H1
           refine JL.call [] [] [] (jones_Det.ok (ix t1 x39) _ hc60) trivial ?_
           rintro _ _ ⟨rfl, rfl⟩
           refine JL.mv (.tuple #[mv_23 t59.1, .int .i64 t59.2]) ?_
           refine JL.pur (mv_23 t59.1) (some 26) ?_
           refine JL.pur (.int .i64 t59.2) (some 27) ?_
           refine JL.alloc (cl_23 zv_23) fun b61 => ?_
           refine JL.store 2 b61 0 23 (cl_23 zv_23) (cl_23 t59.1) tySize_23 ?_
           refine JL.as (.int .i64 t59.2) ?_
           refine JL.nil ?_
           refine JQ.then_normal ?_
           refine JQ.sub [(5, .pointer (some ⟨b61, 0, none⟩)), (6, .int .i64 t59.2), (17, .slice (some ⟨g56, o57, none⟩) t1.length c3), (18, .int .i64 (t1.length : Int)), (19, .int .i64 x39)] ?_
           refine JQ.mask [At.rd (some ⟨g56, o57, none⟩) c3 ((flArr4 fl_Cx).kd) t1 true, At.box b61 23 (cl_23 t59.1)] [true, false, true] ?_
           refine J.seq ?_
           refine J.seq ?_
           refine J.region ?_
           refine JL.mv (.int .i64 t59.2) ?_
           refine JL.pur (.bool (!decide (t59.2 = 0))) (some 29) ?_
           refine JL.nil ?_
           refine JQ.then_normal ?_
           refine JQ.sub [(5, .pointer (some ⟨b61, 0, none⟩)), (6, .int .i64 t59.2), (17, .slice (some ⟨g56, o57, none⟩) t1.length c3), (18, .int .i64 (t1.length : Int)), (19, .int .i64 x39), (29, .bool (!decide (t59.2 = 0)))] ?_
           rcases ite_cases H1 with ⟨h62, H1⟩ | ⟨h62, H1⟩
           · refine J.cond_true h62 ?_
             refine J.seq ?_
             refine J.region ?_
             refine JL.mv (.int .i64 t59.2) ?_
             refine JL.as (.int .i64 t59.2) ?_
             refine JL.nil ?_
             refine JQ.then_normal ?_
             refine JQ.sub [(2, .int .i64 t59.2)] ?_
             refine JQ.mask [] [false, false] ?_
             refine J.ret ?_
             refine JQ.then_ret ?_
             refine JQ.blk_ret ?_
             refine JQ.then_ret ?_
             refine JQ.then_ret ?_
             refine JQ.blk_ret ?_
             refine JQ.met_ret ?_
             refine JQ.then_ret ?_
             rw [hr1 _ (Option.some.inj H1).symm, fin_ret] at H0
             obtain rfl := Option.some.inj H0
             exact JQ.done' (rs := [.tmp 2]) (vs := [.int .i64 t59.2]) [] (.inr rfl) ⟨by kernel_rfl, trivial⟩ (fun _ h => Heap.to h) ⟨rfl, rfl⟩
           · refine J.cond_false h62 ?_
             refine J.skip ?_
             refine JQ.then_normal ?_
             refine JQ.sub [(5, .pointer (some ⟨b61, 0, none⟩)), (17, .slice (some ⟨g56, o57, none⟩) t1.length c3), (18, .int .i64 (t1.length : Int)), (19, .int .i64 x39)] ?_
             refine J.seq ?_
             refine J.region ?_
             refine JL.val (mv_23 t59.1) (some 31) (yields_load_boxes 1 0 (cl_23 t59.1) (holds_box b61 23 (cl_23 t59.1)) tyAgg_23 tySize_23) ?_
             obtain ⟨t63, hc64, H1⟩ := bind_some H1
             refine JL.call [] [] [] (jones_zero.ok t59.1 _ hc64) trivial ?_
             rintro _ _ ⟨rfl, rfl⟩
             refine JL.nil ?_
             refine JQ.then_normal ?_
             refine JQ.sub [(17, .slice (some ⟨g56, o57, none⟩) t1.length c3), (18, .int .i64 (t1.length : Int)), (19, .int .i64 x39), (32, .bool t63)] ?_
             refine JQ.mask [At.rd (some ⟨g56, o57, none⟩) c3 ((flArr4 fl_Cx).kd) t1 true] [true, false] ?_
             rcases ite_cases H1 with ⟨h65, H1⟩ | ⟨h65, H1⟩
             · refine J.cond_true h65 ?_
               refine J.seq ?_
               refine J.region ?_
               refine JL.as (.int .i64 18) ?_
               refine JL.nil ?_
               refine JQ.then_normal ?_
               refine JQ.sub [(2, .int .i64 18)] ?_
               refine JQ.mask [] [false] ?_
               refine J.ret ?_
               refine JQ.blk_ret ?_
               refine JQ.then_ret ?_
               refine JQ.then_ret ?_
               refine JQ.blk_ret ?_
               refine JQ.met_ret ?_
               refine JQ.then_ret ?_
               rw [hr1 _ (Option.some.inj H1).symm, fin_ret] at H0
               obtain rfl := Option.some.inj H0
               exact JQ.done' (rs := [.tmp 2]) (vs := [.int .i64 18]) [] (.inr rfl) ⟨by kernel_rfl, trivial⟩ (fun _ h => Heap.to h) ⟨rfl, rfl⟩
             · refine J.cond_false h65 ?_
               refine J.skip ?_
               refine JQ.blk_normal ?_
               refine JQ.then_normal ?_
               refine JQ.sub [(17, .slice (some ⟨g56, o57, none⟩) t1.length c3), (18, .int .i64 (t1.length : Int)), (19, .int .i64 x39)] ?_
               refine J.region ?_
               refine JL.pur (.int .i64 (w64 (x39 + 1))) (some 33) ?_
               refine JL.mv (.int .i64 (w64 (x39 + 1))) ?_
               refine JL.nil ?_
               refine JQ.then_normal ?_
               exact JQ.again (w64 (x39 + 1)) () (Option.some.inj H1).symm (fun _ h => Heap.to h)
         · refine J.cond_false h53 ?_
           refine J.exit ?_
           refine JQ.then_exit ?_
           refine JQ.then_exit ?_
           refine JQ.blk_exit ?_
           rw [hb1 _ (Option.some.inj H1).symm, fin_brk] at H0
           exact JQ.met () () H0 (fun _ h => Heap.to (Heap.pick [] (by decide) h))
       · clear hit H0
         rintro ⟨⟩ ⟨⟩ H0
         replace H0 : jones_table.k3 = some r := H0
         unfold jones_table.k3 at H0
         refine JQ.sub [] ?_
         refine JQ.turn (Δ' := []) (fun _ h => h.to) ?_
         refine JQ.then_normal ?_
         refine J.seq ?_
         refine J.region ?_
         refine JL.as (.int .i64 0) ?_
         refine JL.nil ?_
         refine JQ.then_normal ?_
         refine J.ret ?_
         obtain rfl := Option.some.inj H0
         exact JQ.done' (rs := [.tmp 2]) (vs := [.int .i64 0]) [] (.inr rfl) ⟨by kernel_rfl, trivial⟩ (fun _ h => Heap.to h) ⟨rfl, rfl⟩

theorem jones_seen_1.ok (p1 : Pol) (v2 : Int) (b3 : Nat) (r : Bool) (H0 : jones_seen_1.f p1 v2 = some r) :
    Does Try.prog 72 [mv_57 p1, .pointer (some ⟨b3, 0, none⟩)].toArray [] [At.box b3 3 [.int .i64 v2]] false (fun v Δ => v = .bool r ∧ Δ = [At.box b3 3 [.int .i64 v2]]) := by
 refine Does.body (vs := [mv_57 p1, .pointer (some ⟨b3, 0, none⟩)]) Try.func72 rfl trivial ⟨.inr (fun _ _ _ h => h), trivial⟩ fun w S => ?_
 unfold jones_seen_1.f at H0
 refine J.seq ?_
 refine J.region ?_
 refine JL.box (cl_57 p1) fun b4 => ?_
 refine JL.as (.bool false) ?_
 refine JL.nil ?_
 refine JQ.then_normal ?_
 refine JQ.sub [(1, .pointer (some ⟨b3, 0, none⟩)), (2, .pointer (some ⟨b4, 0, none⟩))] ?_
 refine J.seq ?_
 refine J.region ?_
 refine JL.pur (.pointer (some ⟨b4, 0, none⟩)) (some 4) ?_
 refine JL.val (.int .i64 p1.I) (some 5) (yields_load_box 1 0 (holds_box b4 57 (cl_57 p1)) tyAgg_3) ?_
 refine JL.pur (.bool (decide (p1.I < 0))) (some 6) ?_
 refine JL.mv (.bool (decide (p1.I < 0))) ?_
 rcases ite_cases H0 with ⟨h5, H0⟩ | ⟨h5, H0⟩
 · refine JL.off 3 7 false (some 8) h5 ?_
   refine JL.off 3 7 false (some 9) h5 ?_
   refine JL.off 3 7 false (some 10) h5 ?_
   refine JL.off 3 7 false (some 11) h5 ?_
   refine JL.off 3 7 false (some 12) h5 ?_
   refine JL.val (.bool true) (some 13) (gives_pickT h5) ?_
   refine JL.mv (.bool true) ?_
   refine JL.off 10 14 false (some 15) rfl ?_
   refine JL.off 10 14 false (some 16) rfl ?_
   refine JL.off 10 14 false (some 17) rfl ?_
   refine JL.off 10 14 false (some 18) rfl ?_
   refine JL.val (.bool true) (some 19) (gives_pickT rfl) ?_
   refine JL.mv (.bool true) ?_
   refine JL.off 16 20 false (some 21) rfl ?_
   refine JL.off 16 20 false (some 22) rfl ?_
   refine JL.off 16 20 false (some 23) rfl ?_
   refine JL.val (.bool true) (some 24) (gives_pickT rfl) ?_
   refine JL.mv (.bool true) ?_
   refine JL.off 21 25 false (some 26) rfl ?_
   refine JL.off 21 25 false (some 27) rfl ?_
   refine JL.off 21 25 false (some 28) rfl ?_
   refine JL.off 21 25 false (some 29) rfl ?_
   refine JL.val (.bool true) (some 30) (gives_pickT rfl) ?_
   refine JL.as (.bool true) ?_
   refine JL.nil ?_
   refine JQ.then_normal ?_
   refine JQ.sub [(3, .bool true)] ?_
   refine JQ.mask [At.box b3 3 [.int .i64 v2]] [true, false] ?_
   refine J.ret ?_
   obtain rfl := Option.some.inj H0
   exact JQ.done' (rs := [.tmp 3]) (vs := [.bool true]) [At.box b3 3 [.int .i64 v2]] (.inr rfl) ⟨by kernel_rfl, trivial⟩ (fun _ h => Heap.to h) ⟨rfl, rfl⟩
 · refine JL.on 3 7 h5 ?_
   refine JL.pur (.pointer (some ⟨b4, 0, none⟩)) (some 8) ?_
   refine JL.on 3 7 h5 ?_
   refine JL.val (.int .i64 p1.I) (some 9) (yields_load_box 1 0 (holds_box b4 57 (cl_57 p1)) tyAgg_3) ?_
   refine JL.on 3 7 h5 ?_
   refine JL.pur (.pointer (some ⟨b4, 1, none⟩)) (some 10) ?_
   refine JL.on 3 7 h5 ?_
   refine JL.val (.int .i64 p1.J) (some 11) (yields_load_box 1 1 (holds_box b4 57 (cl_57 p1)) tyAgg_3) ?_
   refine JL.on 3 7 h5 ?_
   refine JL.pur (.bool (decide (p1.J ≤ p1.I))) (some 12) ?_
   refine JL.val (.bool (decide (p1.J ≤ p1.I))) (some 13) (gives_pickF h5) ?_
   refine JL.mv (.bool (decide (p1.J ≤ p1.I))) ?_
   rcases ite_cases H0 with ⟨h6, H0⟩ | ⟨h6, H0⟩
   · refine JL.off 10 14 false (some 15) h6 ?_
     refine JL.off 10 14 false (some 16) h6 ?_
     refine JL.off 10 14 false (some 17) h6 ?_
     refine JL.off 10 14 false (some 18) h6 ?_
     refine JL.val (.bool true) (some 19) (gives_pickT h6) ?_
     refine JL.mv (.bool true) ?_
     refine JL.off 16 20 false (some 21) rfl ?_
     refine JL.off 16 20 false (some 22) rfl ?_
     refine JL.off 16 20 false (some 23) rfl ?_
     refine JL.val (.bool true) (some 24) (gives_pickT rfl) ?_
     refine JL.mv (.bool true) ?_
     refine JL.off 21 25 false (some 26) rfl ?_
     refine JL.off 21 25 false (some 27) rfl ?_
     refine JL.off 21 25 false (some 28) rfl ?_
     refine JL.off 21 25 false (some 29) rfl ?_
     refine JL.val (.bool true) (some 30) (gives_pickT rfl) ?_
     refine JL.as (.bool true) ?_
     refine JL.nil ?_
     refine JQ.then_normal ?_
     refine JQ.sub [(3, .bool true)] ?_
     refine JQ.mask [At.box b3 3 [.int .i64 v2]] [true, false] ?_
     refine J.ret ?_
     obtain rfl := Option.some.inj H0
     exact JQ.done' (rs := [.tmp 3]) (vs := [.bool true]) [At.box b3 3 [.int .i64 v2]] (.inr rfl) ⟨by kernel_rfl, trivial⟩ (fun _ h => Heap.to h) ⟨rfl, rfl⟩
   · refine JL.on 10 14 h6 ?_
     refine JL.pur (.pointer (some ⟨b4, 1, none⟩)) (some 15) ?_
     refine JL.on 10 14 h6 ?_
     refine JL.val (.int .i64 p1.J) (some 16) (yields_load_box 1 1 (holds_box b4 57 (cl_57 p1)) tyAgg_3) ?_
     refine JL.on 10 14 h6 ?_
     refine JL.val (.int .i64 v2) (some 17) (yields_load_box 0 0 (holds_box b3 3 [.int .i64 v2]) tyAgg_3) ?_
     refine JL.on 10 14 h6 ?_
     refine JL.pur (.bool (decide (v2 ≤ p1.J))) (some 18) ?_
     refine JL.val (.bool (decide (v2 ≤ p1.J))) (some 19) (gives_pickF h6) ?_
     refine JL.mv (.bool (decide (v2 ≤ p1.J))) ?_
     rcases ite_cases H0 with ⟨h7, H0⟩ | ⟨h7, H0⟩
     · refine JL.off 16 20 false (some 21) h7 ?_
       refine JL.off 16 20 false (some 22) h7 ?_
       refine JL.off 16 20 false (some 23) h7 ?_
       refine JL.val (.bool true) (some 24) (gives_pickT h7) ?_
       refine JL.mv (.bool true) ?_
       refine JL.off 21 25 false (some 26) rfl ?_
       refine JL.off 21 25 false (some 27) rfl ?_
       refine JL.off 21 25 false (some 28) rfl ?_
       refine JL.off 21 25 false (some 29) rfl ?_
       refine JL.val (.bool true) (some 30) (gives_pickT rfl) ?_
       refine JL.as (.bool true) ?_
       refine JL.nil ?_
       refine JQ.then_normal ?_
       refine JQ.sub [(3, .bool true)] ?_
       refine JQ.mask [At.box b3 3 [.int .i64 v2]] [true, false] ?_
       refine J.ret ?_
       obtain rfl := Option.some.inj H0
       exact JQ.done' (rs := [.tmp 3]) (vs := [.bool true]) [At.box b3 3 [.int .i64 v2]] (.inr rfl) ⟨by kernel_rfl, trivial⟩ (fun _ h => Heap.to h) ⟨rfl, rfl⟩
     · refine JL.on 16 20 h7 ?_
       refine JL.pur (.pointer (some ⟨b4, 14, none⟩)) (some 21) ?_
       refine JL.on 16 20 h7 ?_
       refine JL.val (.int .i64 p1.N) (some 22) (yields_load_box 1 14 (holds_box b4 57 (cl_57 p1)) tyAgg_3) ?_
       refine JL.on 16 20 h7 ?_
       refine JL.pur (.bool (decide (p1.N < 0))) (some 23) ?_
       refine JL.val (.bool (decide (p1.N < 0))) (some 24) (gives_pickF h7) ?_
       refine JL.mv (.bool (decide (p1.N < 0))) ?_
       rcases ite_cases H0 with ⟨h8, H0⟩ | ⟨h8, H0⟩
       · refine JL.off 21 25 false (some 26) h8 ?_
         refine JL.off 21 25 false (some 27) h8 ?_
         refine JL.off 21 25 false (some 28) h8 ?_
         refine JL.off 21 25 false (some 29) h8 ?_
         refine JL.val (.bool true) (some 30) (gives_pickT h8) ?_
         refine JL.as (.bool true) ?_
         refine JL.nil ?_
         refine JQ.then_normal ?_
         refine JQ.sub [(3, .bool true)] ?_
         refine JQ.mask [At.box b3 3 [.int .i64 v2]] [true, false] ?_
         refine J.ret ?_
         obtain rfl := Option.some.inj H0
         exact JQ.done' (rs := [.tmp 3]) (vs := [.bool true]) [At.box b3 3 [.int .i64 v2]] (.inr rfl) ⟨by kernel_rfl, trivial⟩ (fun _ h => Heap.to h) ⟨rfl, rfl⟩
       · refine JL.on 21 25 h8 ?_
         refine JL.pur (.pointer (some ⟨b4, 2, none⟩)) (some 26) ?_
         refine JL.on 21 25 h8 ?_
         refine JL.val (mv_25 p1.V) (some 27) (yields_load_boxes 1 2 (cl_25 p1.V) (holds_box b4 57 (cl_57 p1)) tyAgg_25 tySize_25) ?_
         refine JL.on 21 25 h8 ?_
         obtain ⟨t9, hc10, H0⟩ := bind_some H0
         refine JL.call [] [] [] (jones_valid.ok p1.V _ hc10) trivial ?_
         rintro _ _ ⟨rfl, rfl⟩
         refine JL.on 21 25 h8 ?_
         refine JL.pur (.bool (!t9)) (some 29) ?_
         refine JL.val (.bool (!t9)) (some 30) (gives_pickF h8) ?_
         refine JL.as (.bool (!t9)) ?_
         refine JL.nil ?_
         refine JQ.then_normal ?_
         refine JQ.sub [(3, .bool (!t9))] ?_
         refine JQ.mask [At.box b3 3 [.int .i64 v2]] [true, false] ?_
         refine J.ret ?_
         obtain rfl := Option.some.inj H0
         exact JQ.done' (rs := [.tmp 3]) (vs := [.bool (!t9)]) [At.box b3 3 [.int .i64 v2]] (.inr rfl) ⟨by kernel_rfl, trivial⟩ (fun _ h => Heap.to h) ⟨rfl, rfl⟩

theorem slices_IndexFunc__api_Pol_api_Pol__jones_seen_1.ok (s1 : (List Pol)) (Aa2 : Option Addr) (c3 : Nat) (v5 : Int) (b6 : Nat) (r : Int) (H0 : slices_IndexFunc__api_Pol_api_Pol__jones_seen_1.f s1 v5 = some r) :
    Does Try.prog 79 [.slice Aa2 s1.length c3, .func (.func 72) #[] #[.pointer (some ⟨b6, 0, none⟩)]].toArray [At.rd Aa2 c3 fl_Pol.kd s1 true] [At.box b6 3 [.int .i64 v5]] false (fun v Δ => v = .int .i64 r ∧ Δ = [At.box b6 3 [.int .i64 v5]]) := by
 refine Does.body (vs := [.slice Aa2 s1.length c3, .func (.func 72) #[] #[.pointer (some ⟨b6, 0, none⟩)]]) Try.func79 rfl ⟨.inl rfl, trivial⟩ ⟨.inr (fun _ _ _ h => h), trivial⟩ fun w S => ?_
 unfold slices_IndexFunc__api_Pol_api_Pol__jones_seen_1.f at H0
 refine J.seq ?_
 refine J.region ?_
 refine JL.as (.int .i64 0) ?_
 refine JL.nil ?_
 refine JQ.then_normal ?_
 refine JQ.sub [(0, .slice Aa2 s1.length c3), (1, .func (.func 72) #[] #[.pointer (some ⟨b6, 0, none⟩)])] ?_
 refine J.seq ?_
 refine J.seq ?_
 refine J.region ?_
 refine JL.mv (.slice Aa2 s1.length c3) ?_
 refine JL.pur (.int .i64 (s1.length : Int)) (some 7) ?_
 refine JL.mv (.int .i64 0) ?_
 refine JL.nil ?_
 refine JQ.then_normal ?_
 refine JQ.sub [(0, .slice Aa2 s1.length c3), (1, .func (.func 72) #[] #[.pointer (some ⟨b6, 0, none⟩)]), (7, .int .i64 (s1.length : Int)), (8, .int .i64 0)] ?_
 obtain ⟨o1, hit, H0⟩ := bind_some H0
 refine J.loop (σ := Int) (τ := Unit) (G := Unit) (G' := Unit) _ o1 (fun s g => [(0, .slice Aa2 s1.length c3), (1, .func (.func 72) #[] #[.pointer (some ⟨b6, 0, none⟩)]), (7, .int .i64 (s1.length : Int)), (8, .int .i64 s)]) (fun s g => [At.rd Aa2 c3 fl_Pol.kd s1 true, At.box b6 3 [.int .i64 v5]]) (fun t => slices_IndexFunc__api_Pol_api_Pol__jones_seen_1.k2 = some r) (fun t g => []) (fun t g => [At.box b6 3 [.int .i64 v5]]) 0 () hit (fun _ h => Heap.to h) ?_ ?_
 · clear hit
   rintro x25 ⟨⟩ st1 H1 hb1 hr1
   replace H1 : slices_IndexFunc__api_Pol_api_Pol__jones_seen_1.s1 s1 v5 x25 = some st1 := H1
   unfold slices_IndexFunc__api_Pol_api_Pol__jones_seen_1.s1 at H1
   refine JQ.sub [(0, .slice Aa2 s1.length c3), (1, .func (.func 72) #[] #[.pointer (some ⟨b6, 0, none⟩)]), (7, .int .i64 (s1.length : Int)), (8, .int .i64 x25)] ?_
   refine JQ.turn (Δ' := [At.rd Aa2 c3 fl_Pol.kd s1 true, At.box b6 3 [.int .i64 v5]]) (fun _ h => h.to) ?_
   refine J.seq ?_
   refine J.region ?_
   refine JL.pur (.bool (decide (x25 < (s1.length : Int)))) (some 9) ?_
   refine JL.nil ?_
   refine JQ.then_normal ?_
   refine J.seq ?_
   rcases ite_cases H1 with ⟨h34, H1⟩ | ⟨h34, H1⟩
   · refine J.cond_true h34 ?_
     refine J.skip ?_
     refine JQ.then_normal ?_
     refine JQ.sub [(0, .slice Aa2 s1.length c3), (1, .func (.func 72) #[] #[.pointer (some ⟨b6, 0, none⟩)]), (7, .int .i64 (s1.length : Int)), (8, .int .i64 x25)] ?_
     refine J.seq ?_
     refine J.block ?_
     refine J.seq ?_
     refine J.region ?_
     refine JL.mv (.int .i64 x25) ?_
     refine JL.as (.int .i64 x25) ?_
     refine JL.nil ?_
     refine JQ.then_normal ?_
     refine JQ.sub [(0, .slice Aa2 s1.length c3), (1, .func (.func 72) #[] #[.pointer (some ⟨b6, 0, none⟩)]), (5, .int .i64 x25), (7, .int .i64 (s1.length : Int)), (8, .int .i64 x25)] ?_
     refine J.seq ?_
     refine J.region ?_
     refine JL.mv (.func (.func 72) #[] #[.pointer (some ⟨b6, 0, none⟩)]) ?_
     refine JL.mv (.slice Aa2 s1.length c3) ?_
     refine JL.mv (.int .i64 x25) ?_
     obtain ⟨⟨h35, h36⟩, H1⟩ := ite_must H1
     refine JL.ixAddr 0 15 c3 .i64 (elems_rd Aa2 c3 fl_Pol.kd s1 true) Try.underlying39 tySize_57 h35 h36 fun g37 o38 hA => ?_
     subst hA
     refine JL.val (mv_57 (ix s1 x25)) (some 15) (gives_loadEl (f := fl_Pol) 0 0 x25 (elems_rd (some ⟨g37, o38, none⟩) c3 fl_Pol.kd s1 true) h35 h36 tySize_57 (.inl ⟨tyAgg_57, rfl⟩)) ?_
     obtain ⟨t39, hc40, H1⟩ := bind_some H1
     refine JL.call [] [.pointer (some ⟨b6, 0, none⟩)] [false, true] (jones_seen_1.ok (ix s1 x25) v5 b6 _ hc40) trivial ?_
     rintro _ _ ⟨rfl, rfl⟩
     refine JL.nil ?_
     refine JQ.then_normal ?_
     refine JQ.sub [(0, .slice (some ⟨g37, o38, none⟩) s1.length c3), (1, .func (.func 72) #[] #[.pointer (some ⟨b6, 0, none⟩)]), (5, .int .i64 x25), (7, .int .i64 (s1.length : Int)), (8, .int .i64 x25), (16, .bool t39)] ?_
     rcases ite_cases H1 with ⟨h41, H1⟩ | ⟨h41, H1⟩
     · refine J.cond_true h41 ?_
       refine J.seq ?_
       refine J.region ?_
       refine JL.mv (.int .i64 x25) ?_
       refine JL.as (.int .i64 x25) ?_
       refine JL.nil ?_
       refine JQ.then_normal ?_
       refine JQ.sub [(4, .int .i64 x25)] ?_
       refine JQ.mask [At.box b6 3 [.int .i64 v5]] [false, true] ?_
       refine J.ret ?_
       refine JQ.blk_ret ?_
       refine JQ.then_ret ?_
       refine JQ.then_ret ?_
       refine JQ.blk_ret ?_
       refine JQ.met_ret ?_
       refine JQ.then_ret ?_
       rw [hr1 _ (Option.some.inj H1).symm, fin_ret] at H0
       obtain rfl := Option.some.inj H0
       exact JQ.done' (rs := [.tmp 4]) (vs := [.int .i64 x25]) [At.box b6 3 [.int .i64 v5]] (.inr rfl) ⟨by kernel_rfl, trivial⟩ (fun _ h => Heap.to h) ⟨rfl, rfl⟩
     · refine J.cond_false h41 ?_
       refine J.skip ?_
       refine JQ.blk_normal ?_
       refine JQ.then_normal ?_
       refine JQ.sub [(0, .slice (some ⟨g37, o38, none⟩) s1.length c3), (1, .func (.func 72) #[] #[.pointer (some ⟨b6, 0, none⟩)]), (7, .int .i64 (s1.length : Int)), (8, .int .i64 x25)] ?_
       refine J.region ?_
       refine JL.pur (.int .i64 (w64 (x25 + 1))) (some 18) ?_
       refine JL.mv (.int .i64 (w64 (x25 + 1))) ?_
       refine JL.nil ?_
       refine JQ.then_normal ?_
       exact JQ.again (w64 (x25 + 1)) () (Option.some.inj H1).symm (fun _ h => Heap.to h)
   · refine J.cond_false h34 ?_
     refine J.exit ?_
     refine JQ.then_exit ?_
     refine JQ.then_exit ?_
     refine JQ.blk_exit ?_
     rw [hb1 _ (Option.some.inj H1).symm, fin_brk] at H0
     exact JQ.met () () H0 (fun _ h => Heap.to (Heap.pick [1] (by decide) h))
 · clear hit H0
   rintro ⟨⟩ ⟨⟩ H0
   replace H0 : slices_IndexFunc__api_Pol_api_Pol__jones_seen_1.k2 = some r := H0
   unfold slices_IndexFunc__api_Pol_api_Pol__jones_seen_1.k2 at H0
   refine JQ.sub [] ?_
   refine JQ.turn (Δ' := [At.box b6 3 [.int .i64 v5]]) (fun _ h => h.to) ?_
   refine JQ.then_normal ?_
   refine J.seq ?_
   refine J.region ?_
   refine JL.as (.int .i64 (-1)) ?_
   refine JL.nil ?_
   refine JQ.then_normal ?_
   refine J.ret ?_
   obtain rfl := Option.some.inj H0
   exact JQ.done' (rs := [.tmp 4]) (vs := [.int .i64 (-1)]) [At.box b6 3 [.int .i64 v5]] (.inr rfl) ⟨by kernel_rfl, trivial⟩ (fun _ h => Heap.to h) ⟨rfl, rfl⟩

theorem slices_ContainsFunc__api_Pol_api_Pol__jones_seen_1.ok (s1 : (List Pol)) (Aa2 : Option Addr) (c3 : Nat) (v5 : Int) (b6 : Nat) (r : Bool) (H0 : slices_ContainsFunc__api_Pol_api_Pol__jones_seen_1.f s1 v5 = some r) :
    Does Try.prog 73 [.slice Aa2 s1.length c3, .func (.func 72) #[] #[.pointer (some ⟨b6, 0, none⟩)]].toArray [At.rd Aa2 c3 fl_Pol.kd s1 true] [At.box b6 3 [.int .i64 v5]] false (fun v Δ => v = .bool r ∧ Δ = [At.box b6 3 [.int .i64 v5]]) := by
 refine Does.body (vs := [.slice Aa2 s1.length c3, .func (.func 72) #[] #[.pointer (some ⟨b6, 0, none⟩)]]) Try.func73 rfl ⟨.inl rfl, trivial⟩ ⟨.inr (fun _ _ _ h => h), trivial⟩ fun w S => ?_
 unfold slices_ContainsFunc__api_Pol_api_Pol__jones_seen_1.f at H0
 refine J.seq ?_
 refine J.region ?_
 refine JL.as (.bool false) ?_
 refine JL.nil ?_
 refine JQ.then_normal ?_
 refine JQ.sub [(0, .slice Aa2 s1.length c3), (1, .func (.func 72) #[] #[.pointer (some ⟨b6, 0, none⟩)])] ?_
 refine J.seq ?_
 refine J.region ?_
 refine JL.mv (.slice Aa2 s1.length c3) ?_
 refine JL.mv (.func (.func 72) #[] #[.pointer (some ⟨b6, 0, none⟩)]) ?_
 obtain ⟨t7, hc8, H0⟩ := bind_some H0
 refine JL.call [] [] [false, true] (slices_IndexFunc__api_Pol_api_Pol__jones_seen_1.ok s1 Aa2 c3 v5 b6 _ hc8) ⟨pre_any 0 (view_rd Aa2 c3 fl_Pol.kd s1 true true), trivial⟩ ?_
 rintro _ _ ⟨rfl, rfl⟩
 refine JL.pur (.bool (decide (0 ≤ t7))) (some 8) ?_
 refine JL.as (.bool (decide (0 ≤ t7))) ?_
 refine JL.nil ?_
 refine JQ.then_normal ?_
 refine JQ.sub [(4, .bool (decide (0 ≤ t7)))] ?_
 refine JQ.mask [At.box b6 3 [.int .i64 v5]] [false, true] ?_
 refine J.ret ?_
 obtain rfl := Option.some.inj H0
 exact JQ.done' (rs := [.tmp 4]) (vs := [.bool (decide (0 ≤ t7))]) [At.box b6 3 [.int .i64 v5]] (.inr rfl) ⟨by kernel_rfl, trivial⟩ (fun _ h => Heap.to h) ⟨rfl, rfl⟩

theorem jones_seen.ok (l1 : (List Pol)) (Aa2 : Option Addr) (c3 : Nat) (n5 : Int) (r : Int) (H0 : jones_seen.f l1 n5 = some r) :
    Does Try.prog 51 [.slice Aa2 l1.length c3, .int .i64 n5].toArray [At.rd Aa2 c3 fl_Pol.kd l1 true] [] false (fun v Δ => v = .int .i64 r ∧ Δ = []) := by
 refine Does.body (vs := [.slice Aa2 l1.length c3, .int .i64 n5]) Try.func51 rfl ⟨.inl rfl, trivial⟩ trivial fun w S => ?_
 unfold jones_seen.f at H0
 refine J.seq ?_
 refine J.region ?_
 refine JL.box [.int .i64 n5] fun b6 => ?_
 refine JL.as (.int .i64 0) ?_
 refine JL.nil ?_
 refine JQ.then_normal ?_
 refine JQ.sub [(0, .slice Aa2 l1.length c3), (3, .pointer (some ⟨b6, 0, none⟩))] ?_
 refine J.seq ?_
 refine J.seq ?_
 refine J.region ?_
 refine JL.mv (.slice Aa2 l1.length c3) ?_
 refine JL.pur (.int .i64 (l1.length : Int)) (some 7) ?_
 refine JL.pur (.bool (decide (64 < (l1.length : Int)))) (some 8) ?_
 refine JL.nil ?_
 refine JQ.then_normal ?_
 refine JQ.sub [(0, .slice Aa2 l1.length c3), (3, .pointer (some ⟨b6, 0, none⟩)), (8, .bool (decide (64 < (l1.length : Int))))] ?_
 rcases ite_cases H0 with ⟨h7, H0⟩ | ⟨h7, H0⟩
 · refine J.cond_true h7 ?_
   refine J.seq ?_
   refine J.region ?_
   refine JL.as (.int .i64 4) ?_
   refine JL.nil ?_
   refine JQ.then_normal ?_
   refine JQ.sub [(4, .int .i64 4)] ?_
   refine JQ.mask [] [false, false] ?_
   refine J.ret ?_
   refine JQ.then_ret ?_
   obtain rfl := Option.some.inj H0
   exact JQ.done' (rs := [.tmp 4]) (vs := [.int .i64 4]) [] (.inr rfl) ⟨by kernel_rfl, trivial⟩ (fun _ h => Heap.to h) ⟨rfl, rfl⟩
 · refine J.cond_false h7 ?_
   refine J.skip ?_
   refine JQ.then_normal ?_
   refine JQ.sub [(0, .slice Aa2 l1.length c3), (3, .pointer (some ⟨b6, 0, none⟩))] ?_
   refine J.seq ?_
   refine J.region ?_
   refine JL.pur (.func (.func 72) #[] #[.pointer (some ⟨b6, 0, none⟩)]) (some 9) ?_
   refine JL.as (.func (.func 72) #[] #[.pointer (some ⟨b6, 0, none⟩)]) ?_
   refine JL.nil ?_
   refine JQ.then_normal ?_
   refine JQ.sub [(0, .slice Aa2 l1.length c3), (5, .func (.func 72) #[] #[.pointer (some ⟨b6, 0, none⟩)])] ?_
   refine J.seq ?_
   refine J.seq ?_
   refine J.region ?_
   refine JL.mv (.slice Aa2 l1.length c3) ?_
   refine JL.mv (.func (.func 72) #[] #[.pointer (some ⟨b6, 0, none⟩)]) ?_
   obtain ⟨t8, hc9, H0⟩ := bind_some H0
   refine JL.call [] [] [false, true] (slices_ContainsFunc__api_Pol_api_Pol__jones_seen_1.ok l1 Aa2 c3 n5 b6 _ hc9) ⟨pre_any 0 (view_rd Aa2 c3 fl_Pol.kd l1 true true), trivial⟩ ?_
   rintro _ _ ⟨rfl, rfl⟩
   refine JL.nil ?_
   refine JQ.then_normal ?_
   refine JQ.sub [(12, .bool t8)] ?_
   refine JQ.mask [] [false, false] ?_
   rcases ite_cases H0 with ⟨h10, H0⟩ | ⟨h10, H0⟩
   · refine J.cond_true h10 ?_
     refine J.seq ?_
     refine J.region ?_
     refine JL.as (.int .i64 8) ?_
     refine JL.nil ?_
     refine JQ.then_normal ?_
     refine JQ.sub [(4, .int .i64 8)] ?_
     refine J.ret ?_
     refine JQ.then_ret ?_
     obtain rfl := Option.some.inj H0
     exact JQ.done' (rs := [.tmp 4]) (vs := [.int .i64 8]) [] (.inr rfl) ⟨by kernel_rfl, trivial⟩ (fun _ h => Heap.to h) ⟨rfl, rfl⟩
   · refine J.cond_false h10 ?_
     refine J.skip ?_
     refine JQ.then_normal ?_
     refine JQ.sub [] ?_
     refine J.seq ?_
     refine J.region ?_
     refine JL.as (.int .i64 0) ?_
     refine JL.nil ?_
     refine JQ.then_normal ?_
     refine J.ret ?_
     obtain rfl := Option.some.inj H0
     exact JQ.done' (rs := [.tmp 4]) (vs := [.int .i64 0]) [] (.inr rfl) ⟨by kernel_rfl, trivial⟩ (fun _ h => Heap.to h) ⟨rfl, rfl⟩

theorem jones_Mul.ok (a1 : (A4 Cx)) (b2 : (A4 Cx)) (r : ((A4 Cx) × Int)) (H0 : jones_Mul.f a1 b2 = some r) :
    Does Try.prog 9 [mv_25 a1, mv_25 b2].toArray [] [] false (fun v Δ => v = .tuple #[mv_25 r.1, .int .i64 r.2] ∧ Δ = []) := by
 refine Does.body (vs := [mv_25 a1, mv_25 b2]) Try.func9 rfl trivial trivial fun w S => ?_
 unfold jones_Mul.f at H0
 refine J.seq ?_
 refine J.region ?_
 refine JL.box (cl_25 a1) fun b3 => ?_
 refine JL.box (cl_25 b2) fun b4 => ?_
 refine JL.alloc (cl_25 zv_25) fun b5 => ?_
 refine JL.as (.int .i64 0) ?_
 refine JL.nil ?_
 refine JQ.then_normal ?_
 refine JQ.sub [(2, .pointer (some ⟨b3, 0, none⟩)), (3, .pointer (some ⟨b4, 0, none⟩)), (4, .pointer (some ⟨b5, 0, none⟩))] ?_
 refine J.seq ?_
 refine J.join (T := Bool) (G := Unit) (fun t => jones_Mul.k1 a1 b2 t = some r) (fun t g => [(2, .pointer (some ⟨b3, 0, none⟩)), (3, .pointer (some ⟨b4, 0, none⟩)), (4, .pointer (some ⟨b5, 0, none⟩)), (22, .bool t)]) (fun t g => [At.box b3 25 (cl_25 a1), At.box b4 25 (cl_25 b2), At.box b5 25 (cl_25 zv_25)]) ?_ ?_
 · refine J.region ?_
   refine JL.val (mv_25 a1) (some 15) (yields_load_boxes 0 0 (cl_25 a1) (holds_box b3 25 (cl_25 a1)) tyAgg_25 tySize_25) ?_
   obtain ⟨t338, hc339, H0⟩ := bind_some H0
   refine JL.call [] [] [] (jones_valid.ok a1 _ hc339) trivial ?_
   rintro _ _ ⟨rfl, rfl⟩
   refine JL.pur (.bool (!t338)) (some 17) ?_
   refine JL.mv (.bool (!t338)) ?_
   rcases ite_cases H0 with ⟨h340, H0⟩ | ⟨h340, H0⟩
   · refine JL.off 3 18 false (some 19) h340 ?_
     refine JL.off 3 18 false (some 20) h340 ?_
     refine JL.off 3 18 false (some 21) h340 ?_
     refine JL.val (.bool true) (some 22) (gives_pickT h340) ?_
     refine JL.nil ?_
     refine JQ.then_normal ?_
     exact JQ.meet true () H0 (fun _ h => Heap.to h)
   · refine JL.on 3 18 h340 ?_
     refine JL.val (mv_25 b2) (some 19) (yields_load_boxes 1 0 (cl_25 b2) (holds_box b4 25 (cl_25 b2)) tyAgg_25 tySize_25) ?_
     refine JL.on 3 18 h340 ?_
     obtain ⟨t341, hc342, H0⟩ := bind_some H0
     refine JL.call [] [] [] (jones_valid.ok b2 _ hc342) trivial ?_
     rintro _ _ ⟨rfl, rfl⟩
     refine JL.on 3 18 h340 ?_
     refine JL.pur (.bool (!t341)) (some 21) ?_
     refine JL.val (.bool (!t341)) (some 22) (gives_pickF h340) ?_
     refine JL.nil ?_
     refine JQ.then_normal ?_
     exact JQ.meet (!t341) () H0 (fun _ h => Heap.to h)
 · clear H0
   rintro x11 ⟨⟩ H0
   replace H0 : jones_Mul.k1 a1 b2 x11 = some r := H0
   unfold jones_Mul.k1 at H0
   refine JQ.sub [(2, .pointer (some ⟨b3, 0, none⟩)), (3, .pointer (some ⟨b4, 0, none⟩)), (4, .pointer (some ⟨b5, 0, none⟩)), (22, .bool x11)] ?_
   refine JQ.turn (Δ' := [At.box b3 25 (cl_25 a1), At.box b4 25 (cl_25 b2), At.box b5 25 (cl_25 zv_25)]) (fun _ h => h.to) ?_
   rcases ite_cases H0 with ⟨h12, H0⟩ | ⟨h12, H0⟩
   · refine J.cond_true h12 ?_
     refine J.seq ?_
     refine J.region ?_
     refine JL.pur (mv_25 zv_25) (some 23) ?_
     refine JL.store 2 b5 0 25 (cl_25 zv_25) (cl_25 zv_25) tySize_25 ?_
     refine JL.as (.int .i64 8) ?_
     refine JL.nil ?_
     refine JQ.then_normal ?_
     refine JQ.sub [(4, .pointer (some ⟨b5, 0, none⟩)), (5, .int .i64 8)] ?_
     refine JQ.mask [At.box b5 25 (cl_25 zv_25)] [false, false, true] ?_
     refine J.ret ?_
     refine JQ.then_ret ?_
     obtain rfl := Option.some.inj H0
     exact JQ.done' (rs := [.cell 4 25, .tmp 5]) (vs := [.agg #[.int .i64 0, .int .i64 0, .int .i64 0, .int .i64 0, .int .i64 0, .int .i64 0, .int .i64 0, .int .i64 0, .int .i64 0, .int .i64 0, .int .i64 0, .int .i64 0], .int .i64 8]) [] (.inr rfl) ⟨⟨b5, 0, _, _, by kernel_rfl, by kernel_rfl, holds_box b5 25 (cl_25 zv_25), .inl ⟨tyAgg_25, tySize_25, rfl⟩⟩, by kernel_rfl, trivial⟩ (fun _ h => Heap.to (Heap.pick [] (by decide) h)) ⟨rfl, rfl⟩
   · refine J.cond_false h12 ?_
     refine J.skip ?_
     refine JQ.then_normal ?_
     refine JQ.sub [(2, .pointer (some ⟨b3, 0, none⟩)), (3, .pointer (some ⟨b4, 0, none⟩)), (4, .pointer (some ⟨b5, 0, none⟩))] ?_
     refine J.seq ?_
     refine J.region ?_
     refine JL.alloc (cl_25 zv_25) fun b13 => ?_
     refine JL.nil ?_
     refine JQ.then_normal ?_
     refine J.seq ?_
     refine J.seq ?_
     refine J.region ?_
     refine JL.mv (.int .i64 0) ?_
     refine JL.nil ?_
     refine JQ.then_normal ?_
     obtain ⟨o1, hit, H0⟩ := bind_some H0
     refine J.loop (σ := ((A4 Cx) × Int)) (τ := (A4 Cx)) (G := Unit) (G' := Unit) _ o1 (fun s g => [(2, .pointer (some ⟨b3, 0, none⟩)), (3, .pointer (some ⟨b4, 0, none⟩)), (4, .pointer (some ⟨b5, 0, none⟩)), (6, .pointer (some ⟨b13, 0, none⟩)), (24, .int .i64 s.2)]) (fun s g => [At.box b3 25 (cl_25 a1), At.box b4 25 (cl_25 b2), At.box b5 25 (cl_25 zv_25), At.box b13 25 (cl_25 s.1)]) (fun t => jones_Mul.k9 t = some r) (fun t g => [(4, .pointer (some ⟨b5, 0, none⟩)), (6, .pointer (some ⟨b13, 0, none⟩))]) (fun t g => [At.box b5 25 (cl_25 zv_25), At.box b13 25 (cl_25 t)]) ((⟨(⟨0, 0, 0⟩ : Cx), (⟨0, 0, 0⟩ : Cx), (⟨0, 0, 0⟩ : Cx), (⟨0, 0, 0⟩ : Cx)⟩ : (A4 Cx)), 0) () hit (fun _ h => Heap.to h) ?_ ?_
     · clear hit
       rintro ⟨out157, x158⟩ ⟨⟩ st1 H1 hb1 hr1
       replace H1 : jones_Mul.s8 a1 b2 out157 x158 = some st1 := H1
       unfold jones_Mul.s8 at H1
       refine JQ.sub [(2, .pointer (some ⟨b3, 0, none⟩)), (3, .pointer (some ⟨b4, 0, none⟩)), (4, .pointer (some ⟨b5, 0, none⟩)), (6, .pointer (some ⟨b13, 0, none⟩)), (24, .int .i64 x158)] ?_
       refine JQ.turn (Δ' := [At.box b3 25 (cl_25 a1), At.box b4 25 (cl_25 b2), At.box b5 25 (cl_25 zv_25), At.box b13 25 (cl_25 out157)]) (fun _ h => h.to) ?_
       refine J.seq ?_
       refine J.region ?_
       refine JL.pur (.bool (decide (x158 < 4))) (some 25) ?_
       refine JL.nil ?_
       refine JQ.then_normal ?_
       refine J.seq ?_
       rcases ite_cases H1 with ⟨h249, H1⟩ | ⟨h249, H1⟩
       · refine J.cond_true h249 ?_
         refine J.skip ?_
         refine JQ.then_normal ?_
         refine JQ.sub [(2, .pointer (some ⟨b3, 0, none⟩)), (3, .pointer (some ⟨b4, 0, none⟩)), (4, .pointer (some ⟨b5, 0, none⟩)), (6, .pointer (some ⟨b13, 0, none⟩)), (24, .int .i64 x158)] ?_
         refine J.seq ?_
         refine J.block ?_
         refine J.seq ?_
         refine J.region ?_
         refine JL.mv (.int .i64 x158) ?_
         refine JL.as (.int .i64 x158) ?_
         refine JL.nil ?_
         refine JQ.then_normal ?_
         refine JQ.sub [(2, .pointer (some ⟨b3, 0, none⟩)), (3, .pointer (some ⟨b4, 0, none⟩)), (4, .pointer (some ⟨b5, 0, none⟩)), (6, .pointer (some ⟨b13, 0, none⟩)), (7, .int .i64 x158), (24, .int .i64 x158)] ?_
         refine J.seq ?_
         refine J.region ?_
         refine JL.mv (.int .i64 x158) ?_
         refine JL.pur (.int .i64 (w64 (Int.tdiv x158 2))) (some 28) ?_
         refine JL.pur (.int .i64 (w64 ((w64 (Int.tdiv x158 2)) * 2))) (some 29) ?_
         refine JL.mv (.int .i64 x158) ?_
         refine JL.pur (.int .i64 (Int.tmod x158 2)) (some 31) ?_
         obtain ⟨row250, erow250, H1⟩ := lt_some H1
         refine JL.as' (k := .i64) row250 erow250 ?_
         obtain ⟨column251, ecolumn251, H1⟩ := lt_some H1
         refine JL.as' (k := .i64) column251 ecolumn251 ?_
         refine JL.nil ?_
         refine JQ.then_normal ?_
         refine JQ.sub [(2, .pointer (some ⟨b3, 0, none⟩)), (3, .pointer (some ⟨b4, 0, none⟩)), (4, .pointer (some ⟨b5, 0, none⟩)), (6, .pointer (some ⟨b13, 0, none⟩)), (7, .int .i64 x158), (8, .int .i64 row250), (9, .int .i64 column251), (24, .int .i64 x158)] ?_
         refine J.join (T := (Cx × Int)) (G := Nat) (fun t => jones_Mul.k10 a1 b2 out157 x158 row250 column251 t.1 t.2 = some st1) (fun t g => [(2, .pointer (some ⟨b3, 0, none⟩)), (3, .pointer (some ⟨b4, 0, none⟩)), (4, .pointer (some ⟨b5, 0, none⟩)), (6, .pointer (some ⟨b13, 0, none⟩)), (7, .int .i64 x158), (8, .int .i64 row250), (9, .int .i64 column251), (10, .pointer (some ⟨g, 0, none⟩)), (11, .int .i64 t.2), (24, .int .i64 x158)]) (fun t g => [At.box b3 25 (cl_25 a1), At.box b4 25 (cl_25 b2), At.box b5 25 (cl_25 zv_25), At.box b13 25 (cl_25 out157), At.box g 23 (cl_23 t.1)]) ?_ ?_
         · obtain ⟨⟨h321, h322⟩, H1⟩ := ite_must H1
           obtain ⟨⟨h323, h324⟩, H1⟩ := ite_must H1
           obtain ⟨t325, hc326, H1⟩ := bind_some H1
           refine JY.start [11] (ba 13 0) ?_
           refine JY.pur (hi := rfl) 0 (ba 13 1) (.int .i64 row250) (some 33) want ?_
           obtain ⟨h328, h329⟩ : 0 ≤ row250 ∧ row250 < 4 := ⟨h321, h322⟩
           refine JY.puw (hi := rfl) 1 (ba 13 3) (.pointer (some ⟨b3, 0 + row250.toNat * 3, none⟩)) (some 34) want (givesW_ixArrD (b := b3) (o := 0) (i := row250) 4 3 .i64 h328 h329 Try.underlying25 tySize_23) ?_
           refine JY.take (hi := rfl) 2 (ba 13 7) (mv_23 (ix ([a1.e0, a1.e1, a1.e2, a1.e3] : List Cx) row250)) (some 35) [true, true, true, true] want (gives_loadEl (f := fl_Cx) 0 0 row250 (elems_arr b3 25 (cl_25 a1) fl_Cx ([a1.e0, a1.e1, a1.e2, a1.e3] : List Cx) 0) h328 h329 tySize_23 (.inl ⟨tyAgg_23, rfl⟩)) ?_
           refine JY.pur (hi := rfl) 3 (ba 13 15) (.int .i64 column251) (some 36) want ?_
           obtain ⟨h330, h331⟩ : 0 ≤ column251 ∧ column251 < 4 := ⟨h323, h324⟩
           refine JY.puw (hi := rfl) 4 (ba 13 31) (.pointer (some ⟨b4, 0 + column251.toNat * 3, none⟩)) (some 37) want (givesW_ixArrD (b := b4) (o := 0) (i := column251) 4 3 .i64 h330 h331 Try.underlying25 tySize_23) ?_
           refine JY.take (hi := rfl) 5 (ba 13 63) (mv_23 (ix ([b2.e0, b2.e1, b2.e2, b2.e3] : List Cx) column251)) (some 38) [true, true, true, true] want (gives_loadEl (f := fl_Cx) 1 0 column251 (elems_arr b4 25 (cl_25 b2) fl_Cx ([b2.e0, b2.e1, b2.e2, b2.e3] : List Cx) 0) h330 h331 tySize_23 (.inl ⟨tyAgg_23, rfl⟩)) ?_
           refine JY.all [6, 10] ⟨⟨_, rfl, ?_⟩, ⟨_, rfl, ?_⟩, trivial⟩
           · refine JL.call [] [] [] (cx_Mul.ok (ix ([a1.e0, a1.e1, a1.e2, a1.e3] : List Cx) row250) (ix ([b2.e0, b2.e1, b2.e2, b2.e3] : List Cx) column251) _ hc326) trivial ?_
             rintro _ _ ⟨rfl, rfl⟩
             refine JL.nil ?_
             refine JY.ran (ba 13 127) [true, true, true, true] ?_
             refine JY.pur (hi := rfl) 7 (ba 13 255) (.tuple #[mv_23 t325.1, .int .i64 t325.2]) (some 32) want ?_
             refine JY.pur (hi := rfl) 8 (ba 13 511) (mv_23 t325.1) (some 40) want ?_
             refine JY.pur (hi := rfl) 9 (ba 13 1023) (.int .i64 t325.2) (some 41) want ?_
             refine JY.all [10] ⟨⟨_, rfl, ?_⟩, trivial⟩
             refine JL.alloc (cl_23 zv_23) fun b334 => ?_
             refine JL.nil ?_
             refine JY.ran (ba 13 2047) [true, true, true, true, false] ?_
             refine JY.all [11] ⟨⟨_, rfl, ?_⟩, trivial⟩
             refine JL.store 4 b334 0 23 (cl_23 zv_23) (cl_23 t325.1) tySize_23 ?_
             refine JL.nil ?_
             refine JY.ranD (ba 13 4095) ?_
             refine JY.pur (hi := rfl) 12 (ba 13 8191) (.int .i64 t325.2) (some 11) want ?_
             refine JY.done ?_
             refine JQ.then_normal ?_
             exact JQ.meet (t325.1, t325.2) b334 H1 (fun _ h => Heap.to h)
           · refine JL.alloc (cl_23 zv_23) fun b335 => ?_
             refine JL.nil ?_
             refine JY.ran (ba 13 1087) [true, true, true, true, false] ?_
             refine JY.all [6] ⟨⟨_, rfl, ?_⟩, trivial⟩
             refine JL.call [] [] [] (cx_Mul.ok (ix ([a1.e0, a1.e1, a1.e2, a1.e3] : List Cx) row250) (ix ([b2.e0, b2.e1, b2.e2, b2.e3] : List Cx) column251) _ hc326) trivial ?_
             rintro _ _ ⟨rfl, rfl⟩
             refine JL.nil ?_
             refine JY.ran (ba 13 1151) [true, true, true, true, false] ?_
             refine JY.pur (hi := rfl) 7 (ba 13 1279) (.tuple #[mv_23 t325.1, .int .i64 t325.2]) (some 32) want ?_
             refine JY.pur (hi := rfl) 8 (ba 13 1535) (mv_23 t325.1) (some 40) want ?_
             refine JY.pur (hi := rfl) 9 (ba 13 2047) (.int .i64 t325.2) (some 41) want ?_
             refine JY.all [11] ⟨⟨_, rfl, ?_⟩, trivial⟩
             refine JL.store 4 b335 0 23 (cl_23 zv_23) (cl_23 t325.1) tySize_23 ?_
             refine JL.nil ?_
             refine JY.ranD (ba 13 4095) ?_
             refine JY.pur (hi := rfl) 12 (ba 13 8191) (.int .i64 t325.2) (some 11) want ?_
             refine JY.done ?_
             refine JQ.then_normal ?_
             exact JQ.meet (t325.1, t325.2) b335 H1 (fun _ h => Heap.to h)
         · clear H1
           rintro ⟨x271, e272⟩ b269 H1
           replace H1 : jones_Mul.k10 a1 b2 out157 x158 row250 column251 x271 e272 = some st1 := H1
           unfold jones_Mul.k10 at H1
           refine JQ.sub [(2, .pointer (some ⟨b3, 0, none⟩)), (3, .pointer (some ⟨b4, 0, none⟩)), (4, .pointer (some ⟨b5, 0, none⟩)), (6, .pointer (some ⟨b13, 0, none⟩)), (7, .int .i64 x158), (8, .int .i64 row250), (9, .int .i64 column251), (10, .pointer (some ⟨b269, 0, none⟩)), (11, .int .i64 e272), (24, .int .i64 x158)] ?_
           refine JQ.turn (Δ' := [At.box b3 25 (cl_25 a1), At.box b4 25 (cl_25 b2), At.box b5 25 (cl_25 zv_25), At.box b13 25 (cl_25 out157), At.box b269 23 (cl_23 x271)]) (fun _ h => h.to) ?_
           refine J.join (T := (Cx × Int)) (G := Nat) (fun t => jones_Mul.k11 out157 x158 x271 e272 t.1 t.2 = some st1) (fun t g => [(2, .pointer (some ⟨b3, 0, none⟩)), (3, .pointer (some ⟨b4, 0, none⟩)), (4, .pointer (some ⟨b5, 0, none⟩)), (6, .pointer (some ⟨b13, 0, none⟩)), (7, .int .i64 x158), (10, .pointer (some ⟨b269, 0, none⟩)), (11, .int .i64 e272), (12, .pointer (some ⟨g, 0, none⟩)), (13, .int .i64 t.2), (24, .int .i64 x158)]) (fun t g => [At.box b3 25 (cl_25 a1), At.box b4 25 (cl_25 b2), At.box b5 25 (cl_25 zv_25), At.box b13 25 (cl_25 out157), At.box b269 23 (cl_23 x271), At.box g 23 (cl_23 t.1)]) ?_ ?_
           · obtain ⟨⟨h304, h305⟩, H1⟩ := ite_must H1
             obtain ⟨⟨h306, h307⟩, H1⟩ := ite_must H1
             obtain ⟨t308, hc309, H1⟩ := bind_some H1
             refine JY.start [13] (ba 15 0) ?_
             refine JY.pur (hi := rfl) 0 (ba 15 1) (.int .i64 row250) (some 43) want ?_
             refine JY.pur (hi := rfl) 1 (ba 15 3) (.int .i64 (w64 (row250 + 1))) (some 44) want ?_
             obtain ⟨h311, h312⟩ : 0 ≤ w64 (row250 + 1) ∧ w64 (row250 + 1) < 4 := ⟨h304, h305⟩
             refine JY.puw (hi := rfl) 2 (ba 15 7) (.pointer (some ⟨b3, 0 + (w64 (row250 + 1)).toNat * 3, none⟩)) (some 45) want (givesW_ixArrD (b := b3) (o := 0) (i := w64 (row250 + 1)) 4 3 .i64 h311 h312 Try.underlying25 tySize_23) ?_
             refine JY.take (hi := rfl) 3 (ba 15 15) (mv_23 (ix ([a1.e0, a1.e1, a1.e2, a1.e3] : List Cx) (w64 (row250 + 1)))) (some 46) [true, true, true, true, true] want (gives_loadEl (f := fl_Cx) 0 0 (w64 (row250 + 1)) (elems_arr b3 25 (cl_25 a1) fl_Cx ([a1.e0, a1.e1, a1.e2, a1.e3] : List Cx) 0) h311 h312 tySize_23 (.inl ⟨tyAgg_23, rfl⟩)) ?_
             refine JY.pur (hi := rfl) 4 (ba 15 31) (.int .i64 column251) (some 47) want ?_
             refine JY.pur (hi := rfl) 5 (ba 15 63) (.int .i64 (w64 (column251 + 2))) (some 48) want ?_
             obtain ⟨h313, h314⟩ : 0 ≤ w64 (column251 + 2) ∧ w64 (column251 + 2) < 4 := ⟨h306, h307⟩
             refine JY.puw (hi := rfl) 6 (ba 15 127) (.pointer (some ⟨b4, 0 + (w64 (column251 + 2)).toNat * 3, none⟩)) (some 49) want (givesW_ixArrD (b := b4) (o := 0) (i := w64 (column251 + 2)) 4 3 .i64 h313 h314 Try.underlying25 tySize_23) ?_
             refine JY.take (hi := rfl) 7 (ba 15 255) (mv_23 (ix ([b2.e0, b2.e1, b2.e2, b2.e3] : List Cx) (w64 (column251 + 2)))) (some 50) [true, true, true, true, true] want (gives_loadEl (f := fl_Cx) 1 0 (w64 (column251 + 2)) (elems_arr b4 25 (cl_25 b2) fl_Cx ([b2.e0, b2.e1, b2.e2, b2.e3] : List Cx) 0) h313 h314 tySize_23 (.inl ⟨tyAgg_23, rfl⟩)) ?_
             refine JY.all [8, 12] ⟨⟨_, rfl, ?_⟩, ⟨_, rfl, ?_⟩, trivial⟩
             · refine JL.call [] [] [] (cx_Mul.ok (ix ([a1.e0, a1.e1, a1.e2, a1.e3] : List Cx) (w64 (row250 + 1))) (ix ([b2.e0, b2.e1, b2.e2, b2.e3] : List Cx) (w64 (column251 + 2))) _ hc309) trivial ?_
               rintro _ _ ⟨rfl, rfl⟩
               refine JL.nil ?_
               refine JY.ran (ba 15 511) [true, true, true, true, true] ?_
               refine JY.pur (hi := rfl) 9 (ba 15 1023) (.tuple #[mv_23 t308.1, .int .i64 t308.2]) (some 42) want ?_
               refine JY.pur (hi := rfl) 10 (ba 15 2047) (mv_23 t308.1) (some 52) want ?_
               refine JY.pur (hi := rfl) 11 (ba 15 4095) (.int .i64 t308.2) (some 53) want ?_
               refine JY.all [12] ⟨⟨_, rfl, ?_⟩, trivial⟩
               refine JL.alloc (cl_23 zv_23) fun b317 => ?_
               refine JL.nil ?_
               refine JY.ran (ba 15 8191) [true, true, true, true, true, false] ?_
               refine JY.all [13] ⟨⟨_, rfl, ?_⟩, trivial⟩
               refine JL.store 5 b317 0 23 (cl_23 zv_23) (cl_23 t308.1) tySize_23 ?_
               refine JL.nil ?_
               refine JY.ranD (ba 15 16383) ?_
               refine JY.pur (hi := rfl) 14 (ba 15 32767) (.int .i64 t308.2) (some 13) want ?_
               refine JY.done ?_
               refine JQ.then_normal ?_
               exact JQ.meet (t308.1, t308.2) b317 H1 (fun _ h => Heap.to h)
             · refine JL.alloc (cl_23 zv_23) fun b318 => ?_
               refine JL.nil ?_
               refine JY.ran (ba 15 4351) [true, true, true, true, true, false] ?_
               refine JY.all [8] ⟨⟨_, rfl, ?_⟩, trivial⟩
               refine JL.call [] [] [] (cx_Mul.ok (ix ([a1.e0, a1.e1, a1.e2, a1.e3] : List Cx) (w64 (row250 + 1))) (ix ([b2.e0, b2.e1, b2.e2, b2.e3] : List Cx) (w64 (column251 + 2))) _ hc309) trivial ?_
               rintro _ _ ⟨rfl, rfl⟩
               refine JL.nil ?_
               refine JY.ran (ba 15 4607) [true, true, true, true, true, false] ?_
               refine JY.pur (hi := rfl) 9 (ba 15 5119) (.tuple #[mv_23 t308.1, .int .i64 t308.2]) (some 42) want ?_
               refine JY.pur (hi := rfl) 10 (ba 15 6143) (mv_23 t308.1) (some 52) want ?_
               refine JY.pur (hi := rfl) 11 (ba 15 8191) (.int .i64 t308.2) (some 53) want ?_
               refine JY.all [13] ⟨⟨_, rfl, ?_⟩, trivial⟩
               refine JL.store 5 b318 0 23 (cl_23 zv_23) (cl_23 t308.1) tySize_23 ?_
               refine JL.nil ?_
               refine JY.ranD (ba 15 16383) ?_
               refine JY.pur (hi := rfl) 14 (ba 15 32767) (.int .i64 t308.2) (some 13) want ?_
               refine JY.done ?_
               refine JQ.then_normal ?_
               exact JQ.meet (t308.1, t308.2) b318 H1 (fun _ h => Heap.to h)
           · clear H1
             rintro ⟨y292, f293⟩ b290 H1
             replace H1 : jones_Mul.k11 out157 x158 x271 e272 y292 f293 = some st1 := H1
             unfold jones_Mul.k11 at H1
             refine JQ.sub [(2, .pointer (some ⟨b3, 0, none⟩)), (3, .pointer (some ⟨b4, 0, none⟩)), (4, .pointer (some ⟨b5, 0, none⟩)), (6, .pointer (some ⟨b13, 0, none⟩)), (7, .int .i64 x158), (10, .pointer (some ⟨b269, 0, none⟩)), (11, .int .i64 e272), (12, .pointer (some ⟨b290, 0, none⟩)), (13, .int .i64 f293), (24, .int .i64 x158)] ?_
             refine JQ.turn (Δ' := [At.box b3 25 (cl_25 a1), At.box b4 25 (cl_25 b2), At.box b5 25 (cl_25 zv_25), At.box b13 25 (cl_25 out157), At.box b269 23 (cl_23 x271), At.box b290 23 (cl_23 y292)]) (fun _ h => h.to) ?_
             refine J.seq ?_
             refine J.seq ?_
             refine J.region ?_
             refine JL.mv (.int .i64 e272) ?_
             refine JL.mv (.int .i64 f293) ?_
             refine JL.buildSl 26 ((flInt .i64).kd) (([e272, f293] : List Int) : List Int) [.int .i64 e272, .int .i64 f293] false (closes_fl rfl) fun b294 => ?_
             obtain ⟨t295, hc296, H1⟩ := bind_some H1
             refine JL.call [] [] [] (cmp_Or__api_Errno.ok ([e272, f293] : List Int) (some ⟨b294, 0, none⟩) 2 _ hc296) ⟨pre_view 6 (view_row (some ⟨b294, 0, none⟩) 2 26 ((flInt .i64).kd) ([e272, f293] : List Int) false true), trivial⟩ ?_
             rintro _ _ ⟨rfl, rfl⟩
             refine JL.as (.int .i64 t295) ?_
             refine JL.nil ?_
             refine JQ.then_normal ?_
             refine JQ.sub [(2, .pointer (some ⟨b3, 0, none⟩)), (3, .pointer (some ⟨b4, 0, none⟩)), (4, .pointer (some ⟨b5, 0, none⟩)), (6, .pointer (some ⟨b13, 0, none⟩)), (7, .int .i64 x158), (10, .pointer (some ⟨b269, 0, none⟩)), (12, .pointer (some ⟨b290, 0, none⟩)), (14, .int .i64 t295), (24, .int .i64 x158)] ?_
             refine JQ.mask [At.box b3 25 (cl_25 a1), At.box b4 25 (cl_25 b2), At.box b5 25 (cl_25 zv_25), At.box b13 25 (cl_25 out157), At.box b269 23 (cl_23 x271), At.box b290 23 (cl_23 y292)] [true, true, true, true, true, true, false] ?_
             refine J.seq ?_
             refine J.region ?_
             refine JL.mv (.int .i64 t295) ?_
             refine JL.pur (.bool (!decide (t295 = 0))) (some 59) ?_
             refine JL.nil ?_
             refine JQ.then_normal ?_
             refine JQ.sub [(2, .pointer (some ⟨b3, 0, none⟩)), (3, .pointer (some ⟨b4, 0, none⟩)), (4, .pointer (some ⟨b5, 0, none⟩)), (6, .pointer (some ⟨b13, 0, none⟩)), (7, .int .i64 x158), (10, .pointer (some ⟨b269, 0, none⟩)), (12, .pointer (some ⟨b290, 0, none⟩)), (14, .int .i64 t295), (24, .int .i64 x158), (59, .bool (!decide (t295 = 0)))] ?_
             rcases ite_cases H1 with ⟨h297, H1⟩ | ⟨h297, H1⟩
             · refine J.cond_true h297 ?_
               refine J.seq ?_
               refine J.region ?_
               refine JL.pur (mv_25 zv_25) (some 60) ?_
               refine JL.mv (.int .i64 t295) ?_
               refine JL.store 2 b5 0 25 (cl_25 zv_25) (cl_25 zv_25) tySize_25 ?_
               refine JL.as (.int .i64 t295) ?_
               refine JL.nil ?_
               refine JQ.then_normal ?_
               refine JQ.sub [(4, .pointer (some ⟨b5, 0, none⟩)), (5, .int .i64 t295)] ?_
               refine JQ.mask [At.box b5 25 (cl_25 zv_25)] [false, false, true, false, false, false] ?_
               refine J.ret ?_
               refine JQ.then_ret ?_
               refine JQ.blk_ret ?_
               refine JQ.then_ret ?_
               refine JQ.then_ret ?_
               refine JQ.blk_ret ?_
               refine JQ.met_ret ?_
               refine JQ.then_ret ?_
               rw [hr1 _ (Option.some.inj H1).symm, fin_ret] at H0
               obtain rfl := Option.some.inj H0
               exact JQ.done' (rs := [.cell 4 25, .tmp 5]) (vs := [.agg #[.int .i64 0, .int .i64 0, .int .i64 0, .int .i64 0, .int .i64 0, .int .i64 0, .int .i64 0, .int .i64 0, .int .i64 0, .int .i64 0, .int .i64 0, .int .i64 0], .int .i64 t295]) [] (.inr rfl) ⟨⟨b5, 0, _, _, by kernel_rfl, by kernel_rfl, holds_box b5 25 (cl_25 zv_25), .inl ⟨tyAgg_25, tySize_25, rfl⟩⟩, by kernel_rfl, trivial⟩ (fun _ h => Heap.to (Heap.pick [] (by decide) h)) ⟨rfl, rfl⟩
             · refine J.cond_false h297 ?_
               refine J.skip ?_
               refine JQ.then_normal ?_
               refine JQ.sub [(2, .pointer (some ⟨b3, 0, none⟩)), (3, .pointer (some ⟨b4, 0, none⟩)), (4, .pointer (some ⟨b5, 0, none⟩)), (6, .pointer (some ⟨b13, 0, none⟩)), (7, .int .i64 x158), (10, .pointer (some ⟨b269, 0, none⟩)), (12, .pointer (some ⟨b290, 0, none⟩)), (24, .int .i64 x158)] ?_
               refine J.seq ?_
               refine J.region ?_
               refine JL.mv (.int .i64 x158) ?_
               refine JL.val (mv_23 x271) (some 64) (yields_load_boxes 4 0 (cl_23 x271) (holds_box b269 23 (cl_23 x271)) tyAgg_23 tySize_23) ?_
               refine JL.val (mv_23 y292) (some 65) (yields_load_boxes 5 0 (cl_23 y292) (holds_box b290 23 (cl_23 y292)) tyAgg_23 tySize_23) ?_
               obtain ⟨t298, hc299, H1⟩ := bind_some H1
               refine JL.call [] [] [] (cx_Add.ok x271 y292 _ hc299) trivial ?_
               rintro _ _ ⟨rfl, rfl⟩
               refine JL.mv (.tuple #[mv_23 t298.1, .int .i64 t298.2]) ?_
               refine JL.pur (mv_23 t298.1) (some 67) ?_
               refine JL.pur (.int .i64 t298.2) (some 68) ?_
               obtain ⟨⟨h300, h301⟩, H1⟩ := ite_must H1
               refine JL.val (.pointer (some ⟨b13, 0 + x158.toNat * 3, none⟩)) (some 69) (gives_ixArrD (b := b13) (o := 0) (i := x158) 4 3 .i64 h300 h301 Try.underlying25 tySize_23) ?_
               obtain ⟨arr302, earr302, H1⟩ := lt_some H1
               refine JL.storeArr b13 0 0 3 25 fl_Cx ([out157.e0, out157.e1, out157.e2, out157.e3] : List Cx) x158 (cl_25 out157) [] [] t298.1 h300 h301 tySize_23 ?_
               rw [ofL4 fl_Cx (l := ([out157.e0, out157.e1, out157.e2, out157.e3] : List Cx).set x158.toNat t298.1) (by simp), earr302]
               refine JQ.turn (Δ' := [At.box b3 25 (cl_25 a1), At.box b4 25 (cl_25 b2), At.box b5 25 (cl_25 zv_25), At.box b13 25 (cl_25 arr302), At.box b269 23 (cl_23 x271), At.box b290 23 (cl_23 y292)]) (fun _ h => h.to) ?_
               refine JL.as (.int .i64 t298.2) ?_
               refine JL.nil ?_
               refine JQ.then_normal ?_
               refine JQ.sub [(2, .pointer (some ⟨b3, 0, none⟩)), (3, .pointer (some ⟨b4, 0, none⟩)), (4, .pointer (some ⟨b5, 0, none⟩)), (6, .pointer (some ⟨b13, 0, none⟩)), (11, .int .i64 t298.2), (24, .int .i64 x158)] ?_
               refine JQ.mask [At.box b3 25 (cl_25 a1), At.box b4 25 (cl_25 b2), At.box b5 25 (cl_25 zv_25), At.box b13 25 (cl_25 arr302)] [true, true, true, true, false, false] ?_
               refine J.seq ?_
               refine J.region ?_
               refine JL.mv (.int .i64 t298.2) ?_
               refine JL.pur (.bool (!decide (t298.2 = 0))) (some 71) ?_
               refine JL.nil ?_
               refine JQ.then_normal ?_
               refine JQ.sub [(2, .pointer (some ⟨b3, 0, none⟩)), (3, .pointer (some ⟨b4, 0, none⟩)), (4, .pointer (some ⟨b5, 0, none⟩)), (6, .pointer (some ⟨b13, 0, none⟩)), (11, .int .i64 t298.2), (24, .int .i64 x158), (71, .bool (!decide (t298.2 = 0)))] ?_
               rcases ite_cases H1 with ⟨h303, H1⟩ | ⟨h303, H1⟩
               · refine J.cond_true h303 ?_
                 refine J.seq ?_
                 refine J.region ?_
                 refine JL.pur (mv_25 zv_25) (some 72) ?_
                 refine JL.mv (.int .i64 t298.2) ?_
                 refine JL.store 2 b5 0 25 (cl_25 zv_25) (cl_25 zv_25) tySize_25 ?_
                 refine JL.as (.int .i64 t298.2) ?_
                 refine JL.nil ?_
                 refine JQ.then_normal ?_
                 refine JQ.sub [(4, .pointer (some ⟨b5, 0, none⟩)), (5, .int .i64 t298.2)] ?_
                 refine JQ.mask [At.box b5 25 (cl_25 zv_25)] [false, false, true, false] ?_
                 refine J.ret ?_
                 refine JQ.blk_ret ?_
                 refine JQ.then_ret ?_
                 refine JQ.then_ret ?_
                 refine JQ.blk_ret ?_
                 refine JQ.met_ret ?_
                 refine JQ.then_ret ?_
                 rw [hr1 _ (Option.some.inj H1).symm, fin_ret] at H0
                 obtain rfl := Option.some.inj H0
                 exact JQ.done' (rs := [.cell 4 25, .tmp 5]) (vs := [.agg #[.int .i64 0, .int .i64 0, .int .i64 0, .int .i64 0, .int .i64 0, .int .i64 0, .int .i64 0, .int .i64 0, .int .i64 0, .int .i64 0, .int .i64 0, .int .i64 0], .int .i64 t298.2]) [] (.inr rfl) ⟨⟨b5, 0, _, _, by kernel_rfl, by kernel_rfl, holds_box b5 25 (cl_25 zv_25), .inl ⟨tyAgg_25, tySize_25, rfl⟩⟩, by kernel_rfl, trivial⟩ (fun _ h => Heap.to (Heap.pick [] (by decide) h)) ⟨rfl, rfl⟩
               · refine J.cond_false h303 ?_
                 refine J.skip ?_
                 refine JQ.blk_normal ?_
                 refine JQ.then_normal ?_
                 refine JQ.sub [(2, .pointer (some ⟨b3, 0, none⟩)), (3, .pointer (some ⟨b4, 0, none⟩)), (4, .pointer (some ⟨b5, 0, none⟩)), (6, .pointer (some ⟨b13, 0, none⟩)), (24, .int .i64 x158)] ?_
                 refine J.region ?_
                 refine JL.pur (.int .i64 (w64 (x158 + 1))) (some 74) ?_
                 refine JL.mv (.int .i64 (w64 (x158 + 1))) ?_
                 refine JL.nil ?_
                 refine JQ.then_normal ?_
                 exact JQ.again (arr302, w64 (x158 + 1)) () (Option.some.inj H1).symm (fun _ h => Heap.to h)
       · refine J.cond_false h249 ?_
         refine J.exit ?_
         refine JQ.then_exit ?_
         refine JQ.then_exit ?_
         refine JQ.blk_exit ?_
         rw [hb1 _ (Option.some.inj H1).symm, fin_brk] at H0
         exact JQ.met out157 () H0 (fun _ h => Heap.to (Heap.pick [2, 3] (by decide) h))
     · clear hit H0
       rintro out248 ⟨⟩ H0
       replace H0 : jones_Mul.k9 out248 = some r := H0
       unfold jones_Mul.k9 at H0
       refine JQ.sub [(4, .pointer (some ⟨b5, 0, none⟩)), (6, .pointer (some ⟨b13, 0, none⟩))] ?_
       refine JQ.turn (Δ' := [At.box b5 25 (cl_25 zv_25), At.box b13 25 (cl_25 out248)]) (fun _ h => h.to) ?_
       refine JQ.then_normal ?_
       refine J.seq ?_
       refine J.region ?_
       refine JL.val (mv_25 out248) (some 75) (yields_load_boxes 1 0 (cl_25 out248) (holds_box b13 25 (cl_25 out248)) tyAgg_25 tySize_25) ?_
       refine JL.store 0 b5 0 25 (cl_25 zv_25) (cl_25 out248) tySize_25 ?_
       refine JL.as (.int .i64 0) ?_
       refine JL.nil ?_
       refine JQ.then_normal ?_
       refine JQ.sub [(4, .pointer (some ⟨b5, 0, none⟩)), (5, .int .i64 0)] ?_
       refine JQ.mask [At.box b5 25 (cl_25 out248)] [true, false] ?_
       refine J.ret ?_
       obtain rfl := Option.some.inj H0
       exact JQ.done' (rs := [.cell 4 25, .tmp 5]) (vs := [.agg #[.int .i64 out248.e0.Re, .int .i64 out248.e0.Im, .int .i64 out248.e0.Den, .int .i64 out248.e1.Re, .int .i64 out248.e1.Im, .int .i64 out248.e1.Den, .int .i64 out248.e2.Re, .int .i64 out248.e2.Im, .int .i64 out248.e2.Den, .int .i64 out248.e3.Re, .int .i64 out248.e3.Im, .int .i64 out248.e3.Den], .int .i64 0]) [] (.inr rfl) ⟨⟨b5, 0, _, _, by kernel_rfl, by kernel_rfl, holds_box b5 25 (cl_25 out248), .inl ⟨tyAgg_25, tySize_25, rfl⟩⟩, by kernel_rfl, trivial⟩ (fun _ h => Heap.to (Heap.pick [] (by decide) h)) ⟨rfl, rfl⟩

theorem jones_product.ok (l1 : (List (A4 Cx))) (Aa2 : Option Addr) (c3 : Nat) (r : ((A4 Cx) × Int)) (H0 : jones_product.f l1 = some r) :
    Does Try.prog 52 [.slice Aa2 l1.length c3].toArray [At.rd Aa2 c3 ((flArr4 fl_Cx).kd) l1 true] [] false (fun v Δ => v = .tuple #[mv_25 r.1, .int .i64 r.2] ∧ Δ = []) := by
 refine Does.body (vs := [.slice Aa2 l1.length c3]) Try.func52 rfl ⟨.inl rfl, trivial⟩ trivial fun w S => ?_
 unfold jones_product.f at H0
 refine J.seq ?_
 refine J.region ?_
 refine JL.alloc (cl_25 zv_25) fun b5 => ?_
 refine JL.as (.int .i64 0) ?_
 refine JL.nil ?_
 refine JQ.then_normal ?_
 refine JQ.sub [(0, .slice Aa2 l1.length c3), (2, .pointer (some ⟨b5, 0, none⟩))] ?_
 refine J.seq ?_
 refine J.region ?_
 refine JL.mv (.slice Aa2 l1.length c3) ?_
 obtain ⟨⟨h6, h7⟩, H0⟩ := ite_must H0
 refine JL.ixAddr 0 12 c3 .i64 (elems_rd Aa2 c3 ((flArr4 fl_Cx).kd) l1 true) Try.underlying38 tySize_25 h6 h7 fun g8 o9 hA => ?_
 subst hA
 refine JL.val (mv_25 (ix l1 0)) (some 10) (gives_loadEl (f := (flArr4 fl_Cx)) 0 0 0 (elems_rd (some ⟨g8, o9, none⟩) c3 ((flArr4 fl_Cx).kd) l1 true) h6 h7 tySize_25 (.inl ⟨tyAgg_25, rfl⟩)) ?_
 refine JL.alloc (cl_25 zv_25) fun b10 => ?_
 refine JL.store 2 b10 0 25 (cl_25 zv_25) (cl_25 (ix l1 0)) tySize_25 ?_
 refine JL.nil ?_
 refine JQ.then_normal ?_
 refine JQ.sub [(0, .slice (some ⟨g8, o9, none⟩) l1.length c3), (2, .pointer (some ⟨b5, 0, none⟩)), (4, .pointer (some ⟨b10, 0, none⟩))] ?_
 refine J.seq ?_
 refine J.seq ?_
 refine J.region ?_
 refine JL.mv (.slice (some ⟨g8, o9, none⟩) l1.length c3) ?_
 obtain ⟨⟨h15, h16⟩, H0⟩ := ite_must H0
 refine JQ.capLe 0 (some ⟨g8, o9, none⟩) c3 ((flArr4 fl_Cx).kd) l1 true fun h14 => ?_
 refine JL.cut ((1 : Int).toNat) l1.length c3 0 (some ⟨g8, o9, none⟩) c3 ((flArr4 fl_Cx).kd) l1 true Try.underlying38 tySize_25 (.inl ⟨rfl, rfl⟩) (.inl ⟨rfl, rfl⟩) (.inr ⟨.i64, 1, by kernel_rfl, h15, rfl⟩) (.inl rfl) (by omega) (by omega) (by omega) (.inl (by omega)) fun Aa11 c12 => ?_
 refine JL.pur (.int .i64 (((l1.take l1.length).drop ((1 : Int).toNat)).length : Int)) (some 13) ?_
 refine JL.mv (.int .i64 0) ?_
 refine JL.nil ?_
 refine JQ.then_normal ?_
 refine JQ.sub [(2, .pointer (some ⟨b5, 0, none⟩)), (4, .pointer (some ⟨b10, 0, none⟩)), (12, .slice Aa11 ((l1.take l1.length).drop ((1 : Int).toNat)).length c12), (13, .int .i64 (((l1.take l1.length).drop ((1 : Int).toNat)).length : Int)), (14, .int .i64 0)] ?_
 refine JQ.mask [At.box b5 25 (cl_25 zv_25), At.box b10 25 (cl_25 (ix l1 0)), At.rd Aa11 c12 ((flArr4 fl_Cx).kd) ((l1.take l1.length).drop ((1 : Int).toNat)) true] [false, true, true, true] ?_
 obtain ⟨o1, hit, H0⟩ := bind_some H0
 refine J.loop (σ := ((A4 Cx) × Int)) (τ := (A4 Cx)) (G := Unit) (G' := Unit) _ o1 (fun s g => [(2, .pointer (some ⟨b5, 0, none⟩)), (4, .pointer (some ⟨b10, 0, none⟩)), (12, .slice Aa11 ((l1.take l1.length).drop ((1 : Int).toNat)).length c12), (13, .int .i64 (((l1.take l1.length).drop ((1 : Int).toNat)).length : Int)), (14, .int .i64 s.2)]) (fun s g => [At.box b5 25 (cl_25 zv_25), At.box b10 25 (cl_25 s.1), At.rd Aa11 c12 ((flArr4 fl_Cx).kd) ((l1.take l1.length).drop ((1 : Int).toNat)) true]) (fun t => jones_product.k2 t = some r) (fun t g => [(2, .pointer (some ⟨b5, 0, none⟩)), (4, .pointer (some ⟨b10, 0, none⟩))]) (fun t g => [At.box b5 25 (cl_25 zv_25), At.box b10 25 (cl_25 t)]) ((ix l1 0), 0) () hit (fun _ h => Heap.to h) ?_ ?_
 · clear hit
   rintro ⟨out39, x40⟩ ⟨⟩ st1 H1 hb1 hr1
   replace H1 : jones_product.s1 l1 out39 x40 = some st1 := H1
   unfold jones_product.s1 at H1
   refine JQ.sub [(2, .pointer (some ⟨b5, 0, none⟩)), (4, .pointer (some ⟨b10, 0, none⟩)), (12, .slice Aa11 ((l1.take l1.length).drop ((1 : Int).toNat)).length c12), (13, .int .i64 (((l1.take l1.length).drop ((1 : Int).toNat)).length : Int)), (14, .int .i64 x40)] ?_
   refine JQ.turn (Δ' := [At.box b5 25 (cl_25 zv_25), At.box b10 25 (cl_25 out39), At.rd Aa11 c12 ((flArr4 fl_Cx).kd) ((l1.take l1.length).drop ((1 : Int).toNat)) true]) (fun _ h => h.to) ?_
   refine J.seq ?_
   refine J.region ?_
   refine JL.pur (.bool (decide (x40 < (((l1.take l1.length).drop ((1 : Int).toNat)).length : Int)))) (some 15) ?_
   refine JL.nil ?_
   refine JQ.then_normal ?_
   refine J.seq ?_
   rcases ite_cases H1 with ⟨h51, H1⟩ | ⟨h51, H1⟩
   · refine J.cond_true h51 ?_
     refine J.skip ?_
     refine JQ.then_normal ?_
     refine JQ.sub [(2, .pointer (some ⟨b5, 0, none⟩)), (4, .pointer (some ⟨b10, 0, none⟩)), (12, .slice Aa11 ((l1.take l1.length).drop ((1 : Int).toNat)).length c12), (13, .int .i64 (((l1.take l1.length).drop ((1 : Int).toNat)).length : Int)), (14, .int .i64 x40)] ?_
     refine J.seq ?_
     refine J.block ?_
     refine J.seq ?_
     refine J.region ?_
     obtain ⟨⟨h52, h53⟩, H1⟩ := ite_must H1
     refine JL.ixAddr 2 12 c12 .i64 (elems_rd Aa11 c12 ((flArr4 fl_Cx).kd) ((l1.take l1.length).drop ((1 : Int).toNat)) true) Try.underlying38 tySize_25 h52 h53 fun g54 o55 hA => ?_
     subst hA
     refine JL.val (mv_25 (ix ((l1.take l1.length).drop ((1 : Int).toNat)) x40)) (some 17) (gives_loadEl (f := (flArr4 fl_Cx)) 2 0 x40 (elems_rd (some ⟨g54, o55, none⟩) c12 ((flArr4 fl_Cx).kd) ((l1.take l1.length).drop ((1 : Int).toNat)) true) h52 h53 tySize_25 (.inl ⟨tyAgg_25, rfl⟩)) ?_
     refine JL.alloc (cl_25 zv_25) fun b56 => ?_
     refine JL.store 3 b56 0 25 (cl_25 zv_25) (cl_25 (ix ((l1.take l1.length).drop ((1 : Int).toNat)) x40)) tySize_25 ?_
     refine JL.nil ?_
     refine JQ.then_normal ?_
     refine JQ.sub [(2, .pointer (some ⟨b5, 0, none⟩)), (4, .pointer (some ⟨b10, 0, none⟩)), (6, .pointer (some ⟨b56, 0, none⟩)), (12, .slice (some ⟨g54, o55, none⟩) ((l1.take l1.length).drop ((1 : Int).toNat)).length c12), (13, .int .i64 (((l1.take l1.length).drop ((1 : Int).toNat)).length : Int)), (14, .int .i64 x40)] ?_
     refine J.seq ?_
     refine J.region ?_
     refine JL.as (.int .i64 0) ?_
     refine JL.nil ?_
     refine JQ.then_normal ?_
     refine JQ.sub [(2, .pointer (some ⟨b5, 0, none⟩)), (4, .pointer (some ⟨b10, 0, none⟩)), (6, .pointer (some ⟨b56, 0, none⟩)), (12, .slice (some ⟨g54, o55, none⟩) ((l1.take l1.length).drop ((1 : Int).toNat)).length c12), (13, .int .i64 (((l1.take l1.length).drop ((1 : Int).toNat)).length : Int)), (14, .int .i64 x40)] ?_
     refine J.seq ?_
     refine J.region ?_
     refine JL.val (mv_25 out39) (some 19) (yields_load_boxes 1 0 (cl_25 out39) (holds_box b10 25 (cl_25 out39)) tyAgg_25 tySize_25) ?_
     refine JL.val (mv_25 (ix ((l1.take l1.length).drop ((1 : Int).toNat)) x40)) (some 20) (yields_load_boxes 3 0 (cl_25 (ix ((l1.take l1.length).drop ((1 : Int).toNat)) x40)) (holds_box b56 25 (cl_25 (ix ((l1.take l1.length).drop ((1 : Int).toNat)) x40))) tyAgg_25 tySize_25) ?_
     obtain ⟨t57, hc58, H1⟩ := bind_some H1
     refine JL.call [] [] [] (jones_Mul.ok out39 (ix ((l1.take l1.length).drop ((1 : Int).toNat)) x40) _ hc58) trivial ?_
     rintro _ _ ⟨rfl, rfl⟩
     refine JL.mv (.tuple #[mv_25 t57.1, .int .i64 t57.2]) ?_
     refine JL.pur (mv_25 t57.1) (some 22) ?_
     refine JL.pur (.int .i64 t57.2) (some 23) ?_
     refine JL.store 1 b10 0 25 (cl_25 out39) (cl_25 t57.1) tySize_25 ?_
     refine JL.as (.int .i64 t57.2) ?_
     refine JL.nil ?_
     refine JQ.then_normal ?_
     refine JQ.sub [(2, .pointer (some ⟨b5, 0, none⟩)), (4, .pointer (some ⟨b10, 0, none⟩)), (7, .int .i64 t57.2), (12, .slice (some ⟨g54, o55, none⟩) ((l1.take l1.length).drop ((1 : Int).toNat)).length c12), (13, .int .i64 (((l1.take l1.length).drop ((1 : Int).toNat)).length : Int)), (14, .int .i64 x40)] ?_
     refine JQ.mask [At.box b5 25 (cl_25 zv_25), At.box b10 25 (cl_25 t57.1), At.rd (some ⟨g54, o55, none⟩) c12 ((flArr4 fl_Cx).kd) ((l1.take l1.length).drop ((1 : Int).toNat)) true] [true, true, true, false] ?_
     refine J.seq ?_
     refine J.region ?_
     refine JL.mv (.int .i64 t57.2) ?_
     refine JL.pur (.bool (!decide (t57.2 = 0))) (some 25) ?_
     refine JL.nil ?_
     refine JQ.then_normal ?_
     refine JQ.sub [(2, .pointer (some ⟨b5, 0, none⟩)), (4, .pointer (some ⟨b10, 0, none⟩)), (7, .int .i64 t57.2), (12, .slice (some ⟨g54, o55, none⟩) ((l1.take l1.length).drop ((1 : Int).toNat)).length c12), (13, .int .i64 (((l1.take l1.length).drop ((1 : Int).toNat)).length : Int)), (14, .int .i64 x40), (25, .bool (!decide (t57.2 = 0)))] ?_
     rcases ite_cases H1 with ⟨h59, H1⟩ | ⟨h59, H1⟩
     · refine J.cond_true h59 ?_
       refine J.seq ?_
       refine J.region ?_
       refine JL.pur (mv_25 zv_25) (some 26) ?_
       refine JL.mv (.int .i64 t57.2) ?_
       refine JL.store 0 b5 0 25 (cl_25 zv_25) (cl_25 zv_25) tySize_25 ?_
       refine JL.as (.int .i64 t57.2) ?_
       refine JL.nil ?_
       refine JQ.then_normal ?_
       refine JQ.sub [(2, .pointer (some ⟨b5, 0, none⟩)), (3, .int .i64 t57.2)] ?_
       refine JQ.mask [At.box b5 25 (cl_25 zv_25)] [true, false, false] ?_
       refine J.ret ?_
       refine JQ.blk_ret ?_
       refine JQ.then_ret ?_
       refine JQ.then_ret ?_
       refine JQ.blk_ret ?_
       refine JQ.met_ret ?_
       refine JQ.then_ret ?_
       rw [hr1 _ (Option.some.inj H1).symm, fin_ret] at H0
       obtain rfl := Option.some.inj H0
       exact JQ.done' (rs := [.cell 2 25, .tmp 3]) (vs := [.agg #[.int .i64 0, .int .i64 0, .int .i64 0, .int .i64 0, .int .i64 0, .int .i64 0, .int .i64 0, .int .i64 0, .int .i64 0, .int .i64 0, .int .i64 0, .int .i64 0], .int .i64 t57.2]) [] (.inr rfl) ⟨⟨b5, 0, _, _, by kernel_rfl, by kernel_rfl, holds_box b5 25 (cl_25 zv_25), .inl ⟨tyAgg_25, tySize_25, rfl⟩⟩, by kernel_rfl, trivial⟩ (fun _ h => Heap.to (Heap.pick [] (by decide) h)) ⟨rfl, rfl⟩
     · refine J.cond_false h59 ?_
       refine J.skip ?_
       refine JQ.blk_normal ?_
       refine JQ.then_normal ?_
       refine JQ.sub [(2, .pointer (some ⟨b5, 0, none⟩)), (4, .pointer (some ⟨b10, 0, none⟩)), (12, .slice (some ⟨g54, o55, none⟩) ((l1.take l1.length).drop ((1 : Int).toNat)).length c12), (13, .int .i64 (((l1.take l1.length).drop ((1 : Int).toNat)).length : Int)), (14, .int .i64 x40)] ?_
       refine J.region ?_
       refine JL.pur (.int .i64 (w64 (x40 + 1))) (some 28) ?_
       refine JL.mv (.int .i64 (w64 (x40 + 1))) ?_
       refine JL.nil ?_
       refine JQ.then_normal ?_
       exact JQ.again (t57.1, w64 (x40 + 1)) () (Option.some.inj H1).symm (fun _ h => Heap.to h)
   · refine J.cond_false h51 ?_
     refine J.exit ?_
     refine JQ.then_exit ?_
     refine JQ.then_exit ?_
     refine JQ.blk_exit ?_
     rw [hb1 _ (Option.some.inj H1).symm, fin_brk] at H0
     exact JQ.met out39 () H0 (fun _ h => Heap.to (Heap.pick [0, 1] (by decide) h))
 · clear hit H0
   rintro out50 ⟨⟩ H0
   replace H0 : jones_product.k2 out50 = some r := H0
   unfold jones_product.k2 at H0
   refine JQ.sub [(2, .pointer (some ⟨b5, 0, none⟩)), (4, .pointer (some ⟨b10, 0, none⟩))] ?_
   refine JQ.turn (Δ' := [At.box b5 25 (cl_25 zv_25), At.box b10 25 (cl_25 out50)]) (fun _ h => h.to) ?_
   refine JQ.then_normal ?_
   refine J.seq ?_
   refine J.region ?_
   refine JL.val (mv_25 out50) (some 29) (yields_load_boxes 1 0 (cl_25 out50) (holds_box b10 25 (cl_25 out50)) tyAgg_25 tySize_25) ?_
   refine JL.store 0 b5 0 25 (cl_25 zv_25) (cl_25 out50) tySize_25 ?_
   refine JL.as (.int .i64 0) ?_
   refine JL.nil ?_
   refine JQ.then_normal ?_
   refine JQ.sub [(2, .pointer (some ⟨b5, 0, none⟩)), (3, .int .i64 0)] ?_
   refine JQ.mask [At.box b5 25 (cl_25 out50)] [true, false] ?_
   refine J.ret ?_
   obtain rfl := Option.some.inj H0
   exact JQ.done' (rs := [.cell 2 25, .tmp 3]) (vs := [.agg #[.int .i64 out50.e0.Re, .int .i64 out50.e0.Im, .int .i64 out50.e0.Den, .int .i64 out50.e1.Re, .int .i64 out50.e1.Im, .int .i64 out50.e1.Den, .int .i64 out50.e2.Re, .int .i64 out50.e2.Im, .int .i64 out50.e2.Den, .int .i64 out50.e3.Re, .int .i64 out50.e3.Im, .int .i64 out50.e3.Den], .int .i64 0]) [] (.inr rfl) ⟨⟨b5, 0, _, _, by kernel_rfl, by kernel_rfl, holds_box b5 25 (cl_25 out50), .inl ⟨tyAgg_25, tySize_25, rfl⟩⟩, by kernel_rfl, trivial⟩ (fun _ h => Heap.to (Heap.pick [] (by decide) h)) ⟨rfl, rfl⟩


end Go.Proofs.Ytlfmmenlkpoodaa.M
