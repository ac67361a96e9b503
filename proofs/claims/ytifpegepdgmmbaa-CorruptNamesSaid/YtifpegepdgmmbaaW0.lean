import Derived.Test.YtifpegepdgmmbaaX
import Derived.Test.YtifpegepdgmmbaaProg
import Derived.Test.YtifpegepdgmmbaaM0
set_option linter.unusedVariables false
set_option linter.unusedSimpArgs false
set_option maxRecDepth 100000
set_option maxHeartbeats 8000000
namespace Go.Proofs.Ytifpegepdgmmbaa.M
open Go.GW Go.Proofs

def zv_113 : (A8 (A8 Bool)) := (⟨(⟨false, false, false, false, false, false, false, false⟩ : (A8 Bool)), (⟨false, false, false, false, false, false, false, false⟩ : (A8 Bool)), (⟨false, false, false, false, false, false, false, false⟩ : (A8 Bool)), (⟨false, false, false, false, false, false, false, false⟩ : (A8 Bool)), (⟨false, false, false, false, false, false, false, false⟩ : (A8 Bool)), (⟨false, false, false, false, false, false, false, false⟩ : (A8 Bool)), (⟨false, false, false, false, false, false, false, false⟩ : (A8 Bool)), (⟨false, false, false, false, false, false, false, false⟩ : (A8 Bool))⟩ : (A8 (A8 Bool)))
def zv_112 : (A8 Bool) := (⟨false, false, false, false, false, false, false, false⟩ : (A8 Bool))
def zv_92 : Frac := (⟨0, 0⟩ : Frac)
def zv_88 : (A3 Int) := (⟨0, 0, 0⟩ : (A3 Int))
def zv_78 : Pair := (⟨0, 0⟩ : Pair)
def zv_47 : Vis := (⟨0, 0, (⟨0, 0, 0⟩ : Cx), 0⟩ : Vis)
def zv_25 : Spoil := (⟨0, 0, 0, 0, (⟨0, 0, 0⟩ : Cx), 0⟩ : Spoil)
def zv_23 : Cx := (⟨0, 0, 0⟩ : Cx)
def mv_113 (x : (A8 (A8 Bool))) : Value := .agg #[.bool x.e0.e0, .bool x.e0.e1, .bool x.e0.e2, .bool x.e0.e3, .bool x.e0.e4, .bool x.e0.e5, .bool x.e0.e6, .bool x.e0.e7, .bool x.e1.e0, .bool x.e1.e1, .bool x.e1.e2, .bool x.e1.e3, .bool x.e1.e4, .bool x.e1.e5, .bool x.e1.e6, .bool x.e1.e7, .bool x.e2.e0, .bool x.e2.e1, .bool x.e2.e2, .bool x.e2.e3, .bool x.e2.e4, .bool x.e2.e5, .bool x.e2.e6, .bool x.e2.e7, .bool x.e3.e0, .bool x.e3.e1, .bool x.e3.e2, .bool x.e3.e3, .bool x.e3.e4, .bool x.e3.e5, .bool x.e3.e6, .bool x.e3.e7, .bool x.e4.e0, .bool x.e4.e1, .bool x.e4.e2, .bool x.e4.e3, .bool x.e4.e4, .bool x.e4.e5, .bool x.e4.e6, .bool x.e4.e7, .bool x.e5.e0, .bool x.e5.e1, .bool x.e5.e2, .bool x.e5.e3, .bool x.e5.e4, .bool x.e5.e5, .bool x.e5.e6, .bool x.e5.e7, .bool x.e6.e0, .bool x.e6.e1, .bool x.e6.e2, .bool x.e6.e3, .bool x.e6.e4, .bool x.e6.e5, .bool x.e6.e6, .bool x.e6.e7, .bool x.e7.e0, .bool x.e7.e1, .bool x.e7.e2, .bool x.e7.e3, .bool x.e7.e4, .bool x.e7.e5, .bool x.e7.e6, .bool x.e7.e7]
def cl_113 (x : (A8 (A8 Bool))) : List Value := [.bool x.e0.e0, .bool x.e0.e1, .bool x.e0.e2, .bool x.e0.e3, .bool x.e0.e4, .bool x.e0.e5, .bool x.e0.e6, .bool x.e0.e7, .bool x.e1.e0, .bool x.e1.e1, .bool x.e1.e2, .bool x.e1.e3, .bool x.e1.e4, .bool x.e1.e5, .bool x.e1.e6, .bool x.e1.e7, .bool x.e2.e0, .bool x.e2.e1, .bool x.e2.e2, .bool x.e2.e3, .bool x.e2.e4, .bool x.e2.e5, .bool x.e2.e6, .bool x.e2.e7, .bool x.e3.e0, .bool x.e3.e1, .bool x.e3.e2, .bool x.e3.e3, .bool x.e3.e4, .bool x.e3.e5, .bool x.e3.e6, .bool x.e3.e7, .bool x.e4.e0, .bool x.e4.e1, .bool x.e4.e2, .bool x.e4.e3, .bool x.e4.e4, .bool x.e4.e5, .bool x.e4.e6, .bool x.e4.e7, .bool x.e5.e0, .bool x.e5.e1, .bool x.e5.e2, .bool x.e5.e3, .bool x.e5.e4, .bool x.e5.e5, .bool x.e5.e6, .bool x.e5.e7, .bool x.e6.e0, .bool x.e6.e1, .bool x.e6.e2, .bool x.e6.e3, .bool x.e6.e4, .bool x.e6.e5, .bool x.e6.e6, .bool x.e6.e7, .bool x.e7.e0, .bool x.e7.e1, .bool x.e7.e2, .bool x.e7.e3, .bool x.e7.e4, .bool x.e7.e5, .bool x.e7.e6, .bool x.e7.e7]
def mv_112 (x : (A8 Bool)) : Value := .agg #[.bool x.e0, .bool x.e1, .bool x.e2, .bool x.e3, .bool x.e4, .bool x.e5, .bool x.e6, .bool x.e7]
def cl_112 (x : (A8 Bool)) : List Value := [.bool x.e0, .bool x.e1, .bool x.e2, .bool x.e3, .bool x.e4, .bool x.e5, .bool x.e6, .bool x.e7]
def mv_92 (x : Frac) : Value := .agg #[.int .i64 x.Num, .int .i64 x.Den]
def cl_92 (x : Frac) : List Value := [.int .i64 x.Num, .int .i64 x.Den]
def mv_88 (x : (A3 Int)) : Value := .agg #[.int .i64 x.e0, .int .i64 x.e1, .int .i64 x.e2]
def cl_88 (x : (A3 Int)) : List Value := [.int .i64 x.e0, .int .i64 x.e1, .int .i64 x.e2]
def mv_78 (x : Pair) : Value := .agg #[.int .i64 x.I, .int .i64 x.J]
def cl_78 (x : Pair) : List Value := [.int .i64 x.I, .int .i64 x.J]
def mv_47 (x : Vis) : Value := .agg #[.int .i64 x.I, .int .i64 x.J, .int .i64 x.V.Re, .int .i64 x.V.Im, .int .i64 x.V.Den, .int .i64 x.N]
def cl_47 (x : Vis) : List Value := [.int .i64 x.I, .int .i64 x.J, .int .i64 x.V.Re, .int .i64 x.V.Im, .int .i64 x.V.Den, .int .i64 x.N]
def mv_25 (x : Spoil) : Value := .agg #[.int .u8 x.Kind, .int .i64 x.Station, .int .i64 x.From, .int .i64 x.To, .int .i64 x.V.Re, .int .i64 x.V.Im, .int .i64 x.V.Den, .int .i64 x.Q]
def cl_25 (x : Spoil) : List Value := [.int .u8 x.Kind, .int .i64 x.Station, .int .i64 x.From, .int .i64 x.To, .int .i64 x.V.Re, .int .i64 x.V.Im, .int .i64 x.V.Den, .int .i64 x.Q]
def mv_23 (x : Cx) : Value := .agg #[.int .i64 x.Re, .int .i64 x.Im, .int .i64 x.Den]
def cl_23 (x : Cx) : List Value := [.int .i64 x.Re, .int .i64 x.Im, .int .i64 x.Den]
def mv_3 (x : Int) : Value := .int .i64 x
theorem eqg_23 : Try.prog.eqGuardType Try.prog.depth 23 = false := by kernel_rfl
theorem eqd_23 (d : Nat) (x y : Cx) (w : World) : (Op.equalIn (d + 2) 23 (.agg #[.int .i64 x.Re, .int .i64 x.Im, .int .i64 x.Den]) (.agg #[.int .i64 y.Re, .int .i64 y.Im, .int .i64 y.Den])).run Try.prog w = .ok (decide (x = y)) w := by
  have h : decide (x = y) = (decide (x.Re = y.Re) && (decide (x.Im = y.Im) && (decide (x.Den = y.Den) && true))) := by cases x; cases y; simp
  rw [h]
  exact eqs_of Try.underlying23 (eqf_cons (eq_int d 2 .i64 x.Re y.Re w Try.underlying2) (eqf_cons (eq_int d 2 .i64 x.Im y.Im w Try.underlying2) (eqf_cons (eq_int d 2 .i64 x.Den y.Den w Try.underlying2) eqf_nil)))
theorem eqt_23 (x y : Cx) (w : World) : (Op.equal 23 (.agg #[.int .i64 x.Re, .int .i64 x.Im, .int .i64 x.Den]) (.agg #[.int .i64 y.Re, .int .i64 y.Im, .int .i64 y.Den])).run Try.prog w = .ok (decide (x = y)) w := eqd_23 9998 x y w
theorem eqg_47 : Try.prog.eqGuardType Try.prog.depth 47 = false := by kernel_rfl
theorem eqd_47 (d : Nat) (x y : Vis) (w : World) : (Op.equalIn (d + 3) 47 (.agg #[.int .i64 x.I, .int .i64 x.J, .int .i64 x.V.Re, .int .i64 x.V.Im, .int .i64 x.V.Den, .int .i64 x.N]) (.agg #[.int .i64 y.I, .int .i64 y.J, .int .i64 y.V.Re, .int .i64 y.V.Im, .int .i64 y.V.Den, .int .i64 y.N])).run Try.prog w = .ok (decide (x = y)) w := by
  have h : decide (x = y) = (decide (x.I = y.I) && (decide (x.J = y.J) && (decide (x.V = y.V) && (decide (x.N = y.N) && true)))) := by cases x; cases y; simp
  rw [h]
  exact eqs_of Try.underlying47 (eqf_cons (eq_int (d + 1) 3 .i64 x.I y.I w Try.underlying3) (eqf_cons (eq_int (d + 1) 3 .i64 x.J y.J w Try.underlying3) (eqf_cons (eqd_23 d x.V y.V w) (eqf_cons (eq_int (d + 1) 3 .i64 x.N y.N w Try.underlying3) eqf_nil))))
theorem eqt_47 (x y : Vis) (w : World) : (Op.equal 47 (.agg #[.int .i64 x.I, .int .i64 x.J, .int .i64 x.V.Re, .int .i64 x.V.Im, .int .i64 x.V.Den, .int .i64 x.N]) (.agg #[.int .i64 y.I, .int .i64 y.J, .int .i64 y.V.Re, .int .i64 y.V.Im, .int .i64 y.V.Den, .int .i64 y.N])).run Try.prog w = .ok (decide (x = y)) w := eqd_47 9997 x y w
theorem eqg_78 : Try.prog.eqGuardType Try.prog.depth 78 = false := by kernel_rfl
theorem eqd_78 (d : Nat) (x y : Pair) (w : World) : (Op.equalIn (d + 2) 78 (.agg #[.int .i64 x.I, .int .i64 x.J]) (.agg #[.int .i64 y.I, .int .i64 y.J])).run Try.prog w = .ok (decide (x = y)) w := by
  have h : decide (x = y) = (decide (x.I = y.I) && (decide (x.J = y.J) && true)) := by cases x; cases y; simp
  rw [h]
  exact eqs_of Try.underlying78 (eqf_cons (eq_int d 3 .i64 x.I y.I w Try.underlying3) (eqf_cons (eq_int d 3 .i64 x.J y.J w Try.underlying3) eqf_nil))
theorem eqt_78 (x y : Pair) (w : World) : (Op.equal 78 (.agg #[.int .i64 x.I, .int .i64 x.J]) (.agg #[.int .i64 y.I, .int .i64 y.J])).run Try.prog w = .ok (decide (x = y)) w := eqd_78 9998 x y w
theorem eqg_92 : Try.prog.eqGuardType Try.prog.depth 92 = false := by kernel_rfl
theorem eqd_92 (d : Nat) (x y : Frac) (w : World) : (Op.equalIn (d + 2) 92 (.agg #[.int .i64 x.Num, .int .i64 x.Den]) (.agg #[.int .i64 y.Num, .int .i64 y.Den])).run Try.prog w = .ok (decide (x = y)) w := by
  have h : decide (x = y) = (decide (x.Num = y.Num) && (decide (x.Den = y.Den) && true)) := by cases x; cases y; simp
  rw [h]
  exact eqs_of Try.underlying92 (eqf_cons (eq_int d 2 .i64 x.Num y.Num w Try.underlying2) (eqf_cons (eq_int d 2 .i64 x.Den y.Den w Try.underlying2) eqf_nil))
theorem eqt_92 (x y : Frac) (w : World) : (Op.equal 92 (.agg #[.int .i64 x.Num, .int .i64 x.Den]) (.agg #[.int .i64 y.Num, .int .i64 y.Den])).run Try.prog w = .ok (decide (x = y)) w := eqd_92 9998 x y w
theorem info_3 : (Try.prog.info? 3).map (fun i => (i.zero, i.size, i.bytes)) = some (some (.int .i64 0), 1, 8) := by kernel_rfl
theorem info_23 : (Try.prog.info? 23).map (fun i => (i.zero, i.size, i.bytes)) = some (some (.agg #[.int .i64 0, .int .i64 0, .int .i64 0]), 3, 24) := by kernel_rfl
theorem info_25 : (Try.prog.info? 25).map (fun i => (i.zero, i.size, i.bytes)) = some (some (.agg #[.int .u8 0, .int .i64 0, .int .i64 0, .int .i64 0, .int .i64 0, .int .i64 0, .int .i64 0, .int .i64 0]), 8, 64) := by kernel_rfl
theorem info_28 : (Try.prog.info? 28).map (fun i => (i.zero, i.size, i.bytes)) = some (some (.slice none 0 0), 1, 24) := by kernel_rfl
theorem info_47 : (Try.prog.info? 47).map (fun i => (i.zero, i.size, i.bytes)) = some (some (.agg #[.int .i64 0, .int .i64 0, .int .i64 0, .int .i64 0, .int .i64 0, .int .i64 0]), 6, 48) := by kernel_rfl
theorem info_48 : (Try.prog.info? 48).map (fun i => (i.zero, i.size, i.bytes)) = some (some (.slice none 0 0), 1, 24) := by kernel_rfl
theorem info_78 : (Try.prog.info? 78).map (fun i => (i.zero, i.size, i.bytes)) = some (some (.agg #[.int .i64 0, .int .i64 0]), 2, 16) := by kernel_rfl
theorem info_88 : (Try.prog.info? 88).map (fun i => (i.zero, i.size, i.bytes)) = some (some (.agg #[.int .i64 0, .int .i64 0, .int .i64 0]), 3, 24) := by kernel_rfl
theorem mz_3 (w : World) : (zeroValue 3).run Try.prog w = .ok (mv_3 0) w := by kernel_rfl
theorem tyAgg_2 : tyAgg Try.prog 2 = some false := by kernel_rfl
theorem tyAgg_3 : tyAgg Try.prog 3 = some false := by kernel_rfl
theorem tyAgg_4 : tyAgg Try.prog 4 = some false := by kernel_rfl
theorem tyAgg_5 : tyAgg Try.prog 5 = some false := by kernel_rfl
theorem tyAgg_23 : tyAgg Try.prog 23 = some true := by kernel_rfl
theorem tyAgg_25 : tyAgg Try.prog 25 = some true := by kernel_rfl
theorem tyAgg_28 : tyAgg Try.prog 28 = some false := by kernel_rfl
theorem tyAgg_29 : tyAgg Try.prog 29 = some false := by kernel_rfl
theorem tyAgg_37 : tyAgg Try.prog 37 = some false := by kernel_rfl
theorem tyAgg_47 : tyAgg Try.prog 47 = some true := by kernel_rfl
theorem tyAgg_48 : tyAgg Try.prog 48 = some false := by kernel_rfl
theorem tyAgg_78 : tyAgg Try.prog 78 = some true := by kernel_rfl
theorem tyAgg_88 : tyAgg Try.prog 88 = some true := by kernel_rfl
theorem tyAgg_92 : tyAgg Try.prog 92 = some true := by kernel_rfl
theorem tyAgg_95 : tyAgg Try.prog 95 = some false := by kernel_rfl
theorem tyAgg_112 : tyAgg Try.prog 112 = some true := by kernel_rfl
theorem tyAgg_113 : tyAgg Try.prog 113 = some true := by kernel_rfl
theorem tySize_2 : tySize Try.prog 2 = some 1 := by kernel_rfl
theorem tySize_3 : tySize Try.prog 3 = some 1 := by kernel_rfl
theorem tySize_4 : tySize Try.prog 4 = some 1 := by kernel_rfl
theorem tySize_23 : tySize Try.prog 23 = some 3 := by kernel_rfl
theorem tySize_25 : tySize Try.prog 25 = some 8 := by kernel_rfl
theorem tySize_28 : tySize Try.prog 28 = some 1 := by kernel_rfl
theorem tySize_29 : tySize Try.prog 29 = some 1 := by kernel_rfl
theorem tySize_47 : tySize Try.prog 47 = some 6 := by kernel_rfl
theorem tySize_48 : tySize Try.prog 48 = some 1 := by kernel_rfl
theorem tySize_78 : tySize Try.prog 78 = some 2 := by kernel_rfl
theorem tySize_88 : tySize Try.prog 88 = some 3 := by kernel_rfl
theorem tySize_92 : tySize Try.prog 92 = some 2 := by kernel_rfl
theorem tySize_95 : tySize Try.prog 95 = some 1 := by kernel_rfl
theorem tySize_112 : tySize Try.prog 112 = some 8 := by kernel_rfl
theorem tySize_113 : tySize Try.prog 113 = some 64 := by kernel_rfl
theorem mk_78 : KeyOk Try.prog 78 mv_78 := ⟨fun b x w => by kernel_rfl, fun x y w => eqt_78 x y w, ⟨_, Try.underlying78, .inl fun _ _ => rfl⟩, fun x => by simp [mv_78, Instr.sameBits]⟩
theorem ref26_One.ok  (r : Cx) (H0 : ref26_One.f = some r) :
    Does Try.prog 9 [].toArray [] [] false (fun v Δ => v = mv_23 r ∧ Δ = []) := by
 refine Does.body (vs := []) Try.func9 rfl trivial trivial fun w S => ?_
 unfold ref26_One.f at H0
 refine J.sr ?_
 refine JL.alloc (cl_23 zv_23) fun b1 => ?_
 refine JL.en ?_
 refine J.sr ?_
 refine JL.pur (.agg #[.int .i64 1, .int .i64 0, .int .i64 1]) (some 1) ?_
 refine JL.store 0 b1 0 23 (cl_23 zv_23) [.int .i64 1, .int .i64 0, .int .i64 1] tySize_23 ?_
 refine JL.es [(0, .pointer (some ⟨b1, 0, none⟩))] ?_
 refine J.ret ?_
 obtain rfl := Option.some.inj H0
 exact JQ.done' (rs := [.cell 0 23]) (vs := [.agg #[.int .i64 1, .int .i64 0, .int .i64 1]]) [] (.inr rfl) ⟨⟨b1, 0, _, _, by kernel_rfl, by kernel_rfl, holds_box b1 23 [.int .i64 1, .int .i64 0, .int .i64 1], .inl ⟨tyAgg_23, tySize_23, rfl⟩⟩, trivial⟩ (fun _ h => Heap.to (Heap.pick [] (by decide) h)) ⟨rfl, rfl⟩

theorem law35_of.ok (re1 : Int) (im2 : Int) (den3 : Int) (r : Cx) (H0 : law35_of.f re1 im2 den3 = some r) :
    Does Try.prog 15 [.int .i64 re1, .int .i64 im2, .int .i64 den3].toArray [] [] false (fun v Δ => v = mv_23 r ∧ Δ = []) := by
 refine Does.body (vs := [.int .i64 re1, .int .i64 im2, .int .i64 den3]) Try.func15 rfl trivial trivial fun w S => ?_
 unfold law35_of.f at H0
 refine J.sr ?_
 refine JL.alloc (cl_23 zv_23) fun b4 => ?_
 refine JL.en ?_
 refine J.sr ?_
 refine JL.mv (.int .i64 re1) ?_
 refine JL.mv (.int .i64 im2) ?_
 refine JL.mv (.int .i64 den3) ?_
 refine JL.pur (.agg #[.int .i64 re1, .int .i64 im2, .int .i64 den3]) (some 10) ?_
 refine JL.store 0 b4 0 23 (cl_23 zv_23) [.int .i64 re1, .int .i64 im2, .int .i64 den3] tySize_23 ?_
 refine JL.es [(6, .pointer (some ⟨b4, 0, none⟩))] ?_
 refine J.ret ?_
 obtain rfl := Option.some.inj H0
 exact JQ.done' (rs := [.cell 6 23]) (vs := [.agg #[.int .i64 re1, .int .i64 im2, .int .i64 den3]]) [] (.inr rfl) ⟨⟨b4, 0, _, _, by kernel_rfl, by kernel_rfl, holds_box b4 23 [.int .i64 re1, .int .i64 im2, .int .i64 den3], .inl ⟨tyAgg_23, tySize_23, rfl⟩⟩, trivial⟩ (fun _ h => Heap.to (Heap.pick [] (by decide) h)) ⟨rfl, rfl⟩

theorem cx_Check_1.ok (n1 : Int) (r : Bool) (H0 : cx_Check_1.f n1 = some r) :
    Does Try.prog 62 [.int .i64 n1].toArray [] [] false (fun v Δ => v = .bool r ∧ Δ = []) := by
 refine Does.body (vs := [.int .i64 n1]) Try.func62 rfl trivial trivial fun w S => ?_
 unfold cx_Check_1.f at H0
 refine J.sr ?_
 refine JL.as (.bool false) ?_
 refine JL.es [(0, .int .i64 n1)] ?_
 refine J.sr ?_
 refine JL.mv (.int .i64 n1) ?_
 refine JL.pur (.bool (decide ((-1000000000) ≤ n1))) (some 4) ?_
 refine JL.mv (.bool (decide ((-1000000000) ≤ n1))) ?_
 rcases ite_cases H0 with ⟨h2, H0⟩ | ⟨h2, H0⟩
 · refine JL.on 2 5 h2 ?_
   refine JL.mv (.int .i64 n1) ?_
   refine JL.on 2 5 h2 ?_
   refine JL.pur (.bool (decide (n1 ≤ 1000000000))) (some 7) ?_
   refine JL.val (.bool (decide (n1 ≤ 1000000000))) (some 8) (gives_pickT h2) ?_
   refine JL.as (.bool (decide (n1 ≤ 1000000000))) ?_
   refine JL.es [(2, .bool (decide (n1 ≤ 1000000000)))] ?_
   refine J.ret ?_
   obtain rfl := Option.some.inj H0
   exact JQ.done' (rs := [.tmp 2]) (vs := [.bool (decide (n1 ≤ 1000000000))]) [] (.inr rfl) ⟨by kernel_rfl, trivial⟩ (fun _ h => Heap.to h) ⟨rfl, rfl⟩
 · refine JL.off 2 5 true (some 6) h2 ?_
   refine JL.off 2 5 true (some 7) h2 ?_
   refine JL.val (.bool false) (some 8) (gives_pickF h2) ?_
   refine JL.as (.bool false) ?_
   refine JL.es [(2, .bool false)] ?_
   refine J.ret ?_
   obtain rfl := Option.some.inj H0
   exact JQ.done' (rs := [.tmp 2]) (vs := [.bool false]) [] (.inr rfl) ⟨by kernel_rfl, trivial⟩ (fun _ h => Heap.to h) ⟨rfl, rfl⟩

theorem cx_gcd.ok (l1 : (List Int)) (Aa2 : Option Addr) (c3 : Nat) (r : Int) (H0 : cx_gcd.f l1 = some r) :
    Does Try.prog 63 [.slice Aa2 l1.length c3].toArray [At.rd Aa2 c3 ((flInt .i64).kd) l1 true] [] false (fun v Δ => v = .int .i64 r ∧ Δ = []) := by
 refine Does.body (vs := [.slice Aa2 l1.length c3]) Try.func63 rfl ⟨.inl rfl, trivial⟩ trivial fun w S => ?_
 unfold cx_gcd.f at H0
 refine J.sr ?_
 refine JL.as (.int .i64 0) ?_
 refine JL.es [(0, .slice Aa2 l1.length c3)] ?_
 refine J.sr ?_
 refine JL.as (.int .i64 0) ?_
 refine JL.en ?_
 refine J.seq ?_
 refine J.sr ?_
 refine JL.mv (.slice Aa2 l1.length c3) ?_
 refine JL.pur (.int .i64 (l1.length : Int)) (some 7) ?_
 refine JL.mv (.int .i64 0) ?_
 refine JL.es [(3, .int .i64 0), (6, .slice Aa2 l1.length c3), (7, .int .i64 (l1.length : Int)), (8, .int .i64 0)] ?_
 obtain ⟨o1, hit, H0⟩ := bind_some H0
 refine J.loop (σ := (Int × Int)) (τ := Int) (G := ((Option Addr) × Nat)) (G' := Unit) _ o1 (fun s g => [(3, .int .i64 s.1), (6, .slice g.1 l1.length g.2), (7, .int .i64 (l1.length : Int)), (8, .int .i64 s.2)]) (fun s g => [At.rd g.1 g.2 ((flInt .i64).kd) l1 true]) (fun t => cx_gcd.k8 t = some r) (fun t g => [(3, .int .i64 t)]) (fun t g => []) (0, 0) (Aa2, c3) hit (fun _ h => Heap.to h) ?_ ?_
 · clear hit
   rintro ⟨g63, x67⟩ ⟨Aa64, c65⟩ st1 H1 hb1 hr1
   replace H1 : cx_gcd.s7 l1 g63 x67 = some st1 := H1
   unfold cx_gcd.s7 at H1
   refine JQ.sub [(3, .int .i64 g63), (6, .slice Aa64 l1.length c65), (7, .int .i64 (l1.length : Int)), (8, .int .i64 x67)] ?_
   refine JQ.turn (Δ' := [At.rd Aa64 c65 ((flInt .i64).kd) l1 true]) (fun _ h => h.to) ?_
   refine J.sr ?_
   refine JL.pur (.bool (decide (x67 < (l1.length : Int)))) (some 9) ?_
   refine JL.en ?_
   refine J.seq ?_
   rcases ite_cases H1 with ⟨h93, H1⟩ | ⟨h93, H1⟩
   · refine J.cond_true h93 ?_
     refine J.skip ?_
     refine JQ.ts [(3, .int .i64 g63), (6, .slice Aa64 l1.length c65), (7, .int .i64 (l1.length : Int)), (8, .int .i64 x67)] ?_
     refine J.seq ?_
     refine J.block ?_
     refine J.sr ?_
     obtain ⟨⟨h94, h95⟩, H1⟩ := ite_must H1
     refine JL.ixAddr 0 1 c65 .i64 (elems_rd Aa64 c65 ((flInt .i64).kd) l1 true) Try.underlying122 tySize_2 h94 h95 fun g96 o97 hA => ?_
     subst hA
     refine JL.val (.int .i64 (ix l1 x67)) (some 11) (gives_loadEl (f := (flInt .i64)) 0 0 x67 (elems_rd (some ⟨g96, o97, none⟩) c65 ((flInt .i64).kd) l1 true) h94 h95 tySize_2 (.inr ⟨tyAgg_2, rfl, rfl⟩)) ?_
     refine JL.as (.int .i64 (ix l1 x67)) ?_
     refine JL.es [(3, .int .i64 g63), (5, .int .i64 (ix l1 x67)), (6, .slice (some ⟨g96, o97, none⟩) l1.length c65), (7, .int .i64 (l1.length : Int)), (8, .int .i64 x67)] ?_
     obtain ⟨o2, hit, H1⟩ := bind_some H1
     refine J.loop (σ := (Int × Int)) (τ := Int) (G := Unit) (G' := Unit) _ o2 (fun s g => [(3, .int .i64 s.1), (5, .int .i64 s.2), (6, .slice (some ⟨g96, o97, none⟩) l1.length c65), (7, .int .i64 (l1.length : Int)), (8, .int .i64 x67)]) (fun s g => [At.rd (some ⟨g96, o97, none⟩) c65 ((flInt .i64).kd) l1 true]) (fun t => cx_gcd.k10 x67 t = some st1) (fun t g => [(3, .int .i64 t), (6, .slice (some ⟨g96, o97, none⟩) l1.length c65), (7, .int .i64 (l1.length : Int)), (8, .int .i64 x67)]) (fun t g => [At.rd (some ⟨g96, o97, none⟩) c65 ((flInt .i64).kd) l1 true]) (g63, (ix l1 x67)) () hit (fun _ h => Heap.to h) ?_ ?_
     · clear hit
       rintro ⟨g108, n109⟩ ⟨⟩ st2 H2 hb2 hr2
       replace H2 : cx_gcd.s9 g108 n109 = some st2 := H2
       unfold cx_gcd.s9 at H2
       refine JQ.sub [(3, .int .i64 g108), (5, .int .i64 n109), (6, .slice (some ⟨g96, o97, none⟩) l1.length c65), (7, .int .i64 (l1.length : Int)), (8, .int .i64 x67)] ?_
       refine JQ.turn (Δ' := [At.rd (some ⟨g96, o97, none⟩) c65 ((flInt .i64).kd) l1 true]) (fun _ h => h.to) ?_
       refine J.seq ?_
       refine J.sr ?_
       refine JL.mv (.int .i64 n109) ?_
       refine JL.pur (.bool (!decide (n109 = 0))) (some 13) ?_
       refine JL.es [(3, .int .i64 g108), (5, .int .i64 n109), (6, .slice (some ⟨g96, o97, none⟩) l1.length c65), (7, .int .i64 (l1.length : Int)), (8, .int .i64 x67), (13, .bool (!decide (n109 = 0)))] ?_
       rcases ite_cases H2 with ⟨h114, H2⟩ | ⟨h114, H2⟩
       · refine J.cond_true h114 ?_
         refine J.skip ?_
         refine JQ.ts [(3, .int .i64 g108), (5, .int .i64 n109), (6, .slice (some ⟨g96, o97, none⟩) l1.length c65), (7, .int .i64 (l1.length : Int)), (8, .int .i64 x67)] ?_
         refine J.block ?_
         refine J.draw ?_
         refine QL.mv (.int .i64 n109) ?_
         refine QL.mv (.int .i64 g108) ?_
         refine QL.mv (.int .i64 n109) ?_
         obtain ⟨h115, H2⟩ := ite_must H2
         refine QL.val (.int .i64 (Int.tmod g108 n109)) (some 17) (gives_rem .i64 g108 n109 h115) ?_
         refine QL.as (.int .i64 n109) ?_
         obtain ⟨n116, en116, H2⟩ := lt_some H2
         refine QL.as' (k := .i64) n116 en116 ?_
         refine QL.nil ?_
         refine JA.nil ?_
         refine JQ.blk_normal ?_
         refine JQ.then_normal ?_
         exact JQ.again (n109, n116) () (Option.some.inj H2).symm (fun _ h => Heap.to h)
       · refine J.cond_false h114 ?_
         refine J.exit ?_
         refine JQ.then_exit ?_
         refine JQ.then_exit ?_
         refine JQ.blk_exit ?_
         rw [hb2 _ (Option.some.inj H2).symm, fin_brk] at H1
         exact JQ.met g108 () H1 (fun _ h => Heap.to h)
     · clear hit H1
       rintro g113 ⟨⟩ H1
       replace H1 : cx_gcd.k10 x67 g113 = some st1 := H1
       unfold cx_gcd.k10 at H1
       refine JQ.sub [(3, .int .i64 g113), (6, .slice (some ⟨g96, o97, none⟩) l1.length c65), (7, .int .i64 (l1.length : Int)), (8, .int .i64 x67)] ?_
       refine JQ.turn (Δ' := [At.rd (some ⟨g96, o97, none⟩) c65 ((flInt .i64).kd) l1 true]) (fun _ h => h.to) ?_
       refine JQ.blk_normal ?_
       refine JQ.then_normal ?_
       refine J.region ?_
       refine JL.pur (.int .i64 (w64 (x67 + 1))) (some 18) ?_
       refine JL.mv (.int .i64 (w64 (x67 + 1))) ?_
       refine JL.en ?_
       exact JQ.again (g113, w64 (x67 + 1)) ((some ⟨g96, o97, none⟩), c65) (Option.some.inj H1).symm (fun _ h => Heap.to h)
   · refine J.cond_false h93 ?_
     refine J.exit ?_
     refine JQ.then_exit ?_
     refine JQ.then_exit ?_
     refine JQ.blk_exit ?_
     rw [hb1 _ (Option.some.inj H1).symm, fin_brk] at H0
     exact JQ.met g63 () H0 (fun _ h => Heap.to (Heap.pick [] (by decide) h))
 · clear hit H0
   rintro g92 ⟨⟩ H0
   replace H0 : cx_gcd.k8 g92 = some r := H0
   unfold cx_gcd.k8 at H0
   refine JQ.sub [(3, .int .i64 g92)] ?_
   refine JQ.turn (Δ' := []) (fun _ h => h.to) ?_
   refine JQ.then_normal ?_
   refine J.sr ?_
   refine JL.mv (.int .i64 g92) ?_
   refine JL.mv (.int .i64 g92) ?_
   refine JL.pur (.int .i64 (w64 (0 - g92))) (some 21) ?_
   refine JL.pur (.int .i64 (gmax g92 (w64 (0 - g92)))) (some 22) ?_
   refine JL.as (.int .i64 (gmax g92 (w64 (0 - g92)))) ?_
   refine JL.es [(2, .int .i64 (gmax g92 (w64 (0 - g92))))] ?_
   refine J.ret ?_
   obtain rfl := Option.some.inj H0
   exact JQ.done' (rs := [.tmp 2]) (vs := [.int .i64 (gmax g92 (w64 (0 - g92)))]) [] (.inr rfl) ⟨by kernel_rfl, trivial⟩ (fun _ h => Heap.to h) ⟨rfl, rfl⟩

theorem cx_Check.ok (a1 : Cx) (r : Int) (H0 : cx_Check.f a1 = some r) :
    Does Try.prog 42 [mv_23 a1].toArray [] [] false (fun v Δ => v = .int .i64 r ∧ Δ = []) := by
 refine Does.body (vs := [mv_23 a1]) Try.func42 rfl trivial trivial fun w S => ?_
 unfold cx_Check.f at H0
 refine J.sr ?_
 refine JL.box (cl_23 a1) fun b2 => ?_
 refine JL.as (.int .i64 0) ?_
 refine JL.es [(1, .pointer (some ⟨b2, 0, none⟩))] ?_
 refine J.sr ?_
 refine JL.as (.func (.func 62) #[] #[]) ?_
 refine JL.en ?_
 refine J.seq ?_
 refine J.join (T := Bool) (G := Unit) (fun t => cx_Check.k1 t = some r) (fun t g => [(38, .bool t)]) (fun t g => []) ?_ ?_
 · refine J.region ?_
   refine JL.pur (.pointer (some ⟨b2, 2, none⟩)) (some 4) ?_
   refine JL.val (.int .i64 a1.Den) (some 5) (yields_load_box 0 2 (holds_box b2 23 (cl_23 a1)) tyAgg_2) ?_
   refine JL.pur (.bool (decide (a1.Den < 1))) (some 6) ?_
   refine JL.mv (.bool (decide (a1.Den < 1))) ?_
   rcases ite_cases H0 with ⟨h18, H0⟩ | ⟨h18, H0⟩
   · refine JL.off 3 7 false (some 8) h18 ?_
     refine JL.off 3 7 false (some 9) h18 ?_
     refine JL.off 3 7 false (some 10) h18 ?_
     refine JL.off 3 7 false (some 11) h18 ?_
     refine JL.off 3 7 false (some 12) h18 ?_
     refine JL.val (.bool true) (some 13) (gives_pickT h18) ?_
     refine JL.mv (.bool true) ?_
     refine JL.off 10 14 false (some 15) rfl ?_
     refine JL.off 10 14 false (some 16) rfl ?_
     refine JL.off 10 14 false (some 17) rfl ?_
     refine JL.off 10 14 false (some 18) rfl ?_
     refine JL.off 10 14 false (some 19) rfl ?_
     refine JL.val (.bool true) (some 20) (gives_pickT rfl) ?_
     refine JL.mv (.bool true) ?_
     refine JL.off 17 21 false (some 22) rfl ?_
     refine JL.off 17 21 false (some 23) rfl ?_
     refine JL.off 17 21 false (some 24) rfl ?_
     refine JL.off 17 21 false (some 25) rfl ?_
     refine JL.off 17 21 false (some 26) rfl ?_
     refine JL.val (.bool true) (some 27) (gives_pickT rfl) ?_
     refine JL.mv (.bool true) ?_
     refine JL.off 24 28 false (some 29) rfl ?_
     refine JL.off 24 28 false (some 30) rfl ?_
     refine JL.off 24 28 false (some 31) rfl ?_
     refine JL.off 24 28 false (some 32) rfl ?_
     refine JL.off 24 28 false (some 33) rfl ?_
     refine JL.off 24 28 false (some 34) rfl ?_
     refine JL.off 24 28 false (some 35) rfl ?_
     refine JL.off 24 28 false (some 36) rfl ?_
     refine JL.off 24 28 false (some 37) rfl ?_
     refine JL.val (.bool true) (some 38) (gives_pickT rfl) ?_
     refine JL.en ?_
     exact JQ.meet true () H0 (fun _ h => Heap.to (Heap.pick [] (by decide) h))
   · refine JL.on 3 7 h18 ?_
     refine JL.mv (.func (.func 62) #[] #[]) ?_
     refine JL.on 3 7 h18 ?_
     refine JL.pur (.pointer (some ⟨b2, 0, none⟩)) (some 9) ?_
     refine JL.on 3 7 h18 ?_
     refine JL.val (.int .i64 a1.Re) (some 10) (yields_load_box 0 0 (holds_box b2 23 (cl_23 a1)) tyAgg_2) ?_
     refine JL.on 3 7 h18 ?_
     obtain ⟨t19, hc20, H0⟩ := bind_some H0
     refine JL.call [] [] [] (cx_Check_1.ok a1.Re _ hc20) trivial ?_
     rintro _ _ ⟨rfl, rfl⟩
     refine JL.on 3 7 h18 ?_
     refine JL.pur (.bool (!t19)) (some 12) ?_
     refine JL.val (.bool (!t19)) (some 13) (gives_pickF h18) ?_
     refine JL.mv (.bool (!t19)) ?_
     rcases ite_cases H0 with ⟨h21, H0⟩ | ⟨h21, H0⟩
     · refine JL.off 10 14 false (some 15) h21 ?_
       refine JL.off 10 14 false (some 16) h21 ?_
       refine JL.off 10 14 false (some 17) h21 ?_
       refine JL.off 10 14 false (some 18) h21 ?_
       refine JL.off 10 14 false (some 19) h21 ?_
       refine JL.val (.bool true) (some 20) (gives_pickT h21) ?_
       refine JL.mv (.bool true) ?_
       refine JL.off 17 21 false (some 22) rfl ?_
       refine JL.off 17 21 false (some 23) rfl ?_
       refine JL.off 17 21 false (some 24) rfl ?_
       refine JL.off 17 21 false (some 25) rfl ?_
       refine JL.off 17 21 false (some 26) rfl ?_
       refine JL.val (.bool true) (some 27) (gives_pickT rfl) ?_
       refine JL.mv (.bool true) ?_
       refine JL.off 24 28 false (some 29) rfl ?_
       refine JL.off 24 28 false (some 30) rfl ?_
       refine JL.off 24 28 false (some 31) rfl ?_
       refine JL.off 24 28 false (some 32) rfl ?_
       refine JL.off 24 28 false (some 33) rfl ?_
       refine JL.off 24 28 false (some 34) rfl ?_
       refine JL.off 24 28 false (some 35) rfl ?_
       refine JL.off 24 28 false (some 36) rfl ?_
       refine JL.off 24 28 false (some 37) rfl ?_
       refine JL.val (.bool true) (some 38) (gives_pickT rfl) ?_
       refine JL.en ?_
       exact JQ.meet true () H0 (fun _ h => Heap.to (Heap.pick [] (by decide) h))
     · refine JL.on 10 14 h21 ?_
       refine JL.mv (.func (.func 62) #[] #[]) ?_
       refine JL.on 10 14 h21 ?_
       refine JL.pur (.pointer (some ⟨b2, 1, none⟩)) (some 16) ?_
       refine JL.on 10 14 h21 ?_
       refine JL.val (.int .i64 a1.Im) (some 17) (yields_load_box 0 1 (holds_box b2 23 (cl_23 a1)) tyAgg_2) ?_
       refine JL.on 10 14 h21 ?_
       obtain ⟨t22, hc23, H0⟩ := bind_some H0
       refine JL.call [] [] [] (cx_Check_1.ok a1.Im _ hc23) trivial ?_
       rintro _ _ ⟨rfl, rfl⟩
       refine JL.on 10 14 h21 ?_
       refine JL.pur (.bool (!t22)) (some 19) ?_
       refine JL.val (.bool (!t22)) (some 20) (gives_pickF h21) ?_
       refine JL.mv (.bool (!t22)) ?_
       rcases ite_cases H0 with ⟨h24, H0⟩ | ⟨h24, H0⟩
       · refine JL.off 17 21 false (some 22) h24 ?_
         refine JL.off 17 21 false (some 23) h24 ?_
         refine JL.off 17 21 false (some 24) h24 ?_
         refine JL.off 17 21 false (some 25) h24 ?_
         refine JL.off 17 21 false (some 26) h24 ?_
         refine JL.val (.bool true) (some 27) (gives_pickT h24) ?_
         refine JL.mv (.bool true) ?_
         refine JL.off 24 28 false (some 29) rfl ?_
         refine JL.off 24 28 false (some 30) rfl ?_
         refine JL.off 24 28 false (some 31) rfl ?_
         refine JL.off 24 28 false (some 32) rfl ?_
         refine JL.off 24 28 false (some 33) rfl ?_
         refine JL.off 24 28 false (some 34) rfl ?_
         refine JL.off 24 28 false (some 35) rfl ?_
         refine JL.off 24 28 false (some 36) rfl ?_
         refine JL.off 24 28 false (some 37) rfl ?_
         refine JL.val (.bool true) (some 38) (gives_pickT rfl) ?_
         refine JL.en ?_
         exact JQ.meet true () H0 (fun _ h => Heap.to (Heap.pick [] (by decide) h))
       · refine JL.on 17 21 h24 ?_
         refine JL.mv (.func (.func 62) #[] #[]) ?_
         refine JL.on 17 21 h24 ?_
         refine JL.pur (.pointer (some ⟨b2, 2, none⟩)) (some 23) ?_
         refine JL.on 17 21 h24 ?_
         refine JL.val (.int .i64 a1.Den) (some 24) (yields_load_box 0 2 (holds_box b2 23 (cl_23 a1)) tyAgg_2) ?_
         refine JL.on 17 21 h24 ?_
         obtain ⟨t25, hc26, H0⟩ := bind_some H0
         refine JL.call [] [] [] (cx_Check_1.ok a1.Den _ hc26) trivial ?_
         rintro _ _ ⟨rfl, rfl⟩
         refine JL.on 17 21 h24 ?_
         refine JL.pur (.bool (!t25)) (some 26) ?_
         refine JL.val (.bool (!t25)) (some 27) (gives_pickF h24) ?_
         refine JL.mv (.bool (!t25)) ?_
         rcases ite_cases H0 with ⟨h27, H0⟩ | ⟨h27, H0⟩
         · refine JL.off 24 28 false (some 29) h27 ?_
           refine JL.off 24 28 false (some 30) h27 ?_
           refine JL.off 24 28 false (some 31) h27 ?_
           refine JL.off 24 28 false (some 32) h27 ?_
           refine JL.off 24 28 false (some 33) h27 ?_
           refine JL.off 24 28 false (some 34) h27 ?_
           refine JL.off 24 28 false (some 35) h27 ?_
           refine JL.off 24 28 false (some 36) h27 ?_
           refine JL.off 24 28 false (some 37) h27 ?_
           refine JL.val (.bool true) (some 38) (gives_pickT h27) ?_
           refine JL.en ?_
           exact JQ.meet true () H0 (fun _ h => Heap.to (Heap.pick [] (by decide) h))
         · refine JL.on 24 28 h27 ?_
           refine JL.pur (.pointer (some ⟨b2, 0, none⟩)) (some 29) ?_
           refine JL.on 24 28 h27 ?_
           refine JL.val (.int .i64 a1.Re) (some 30) (yields_load_box 0 0 (holds_box b2 23 (cl_23 a1)) tyAgg_2) ?_
           refine JL.on 24 28 h27 ?_
           refine JL.pur (.pointer (some ⟨b2, 1, none⟩)) (some 31) ?_
           refine JL.on 24 28 h27 ?_
           refine JL.val (.int .i64 a1.Im) (some 32) (yields_load_box 0 1 (holds_box b2 23 (cl_23 a1)) tyAgg_2) ?_
           refine JL.on 24 28 h27 ?_
           refine JL.pur (.pointer (some ⟨b2, 2, none⟩)) (some 33) ?_
           refine JL.on 24 28 h27 ?_
           refine JL.val (.int .i64 a1.Den) (some 34) (yields_load_box 0 2 (holds_box b2 23 (cl_23 a1)) tyAgg_2) ?_
           refine JL.on 24 28 h27 ?_
           refine JL.buildSl 2 ((flInt .i64).kd) (([a1.Re, a1.Im, a1.Den] : List Int) : List Int) [.int .i64 a1.Re, .int .i64 a1.Im, .int .i64 a1.Den] false (closes_fl rfl) fun b28 => ?_
           refine JL.on 24 28 h27 ?_
           obtain ⟨t29, hc30, H0⟩ := bind_some H0
           refine JL.call [] [] [] (cx_gcd.ok ([a1.Re, a1.Im, a1.Den] : List Int) (some ⟨b28, 0, none⟩) 3 _ hc30) ⟨pre_view 1 (view_row (some ⟨b28, 0, none⟩) 3 2 ((flInt .i64).kd) ([a1.Re, a1.Im, a1.Den] : List Int) false true), trivial⟩ ?_
           rintro _ _ ⟨rfl, rfl⟩
           refine JL.on 24 28 h27 ?_
           refine JL.pur (.bool (!decide (t29 = 1))) (some 37) ?_
           refine JL.val (.bool (!decide (t29 = 1))) (some 38) (gives_pickF h27) ?_
           refine JL.en ?_
           exact JQ.meet (!decide (t29 = 1)) () H0 (fun _ h => Heap.to (Heap.pick [] (by decide) h))
 · clear H0
   rintro x16 ⟨⟩ H0
   replace H0 : cx_Check.k1 x16 = some r := H0
   unfold cx_Check.k1 at H0
   refine JQ.sub [(38, .bool x16)] ?_
   refine JQ.turn (Δ' := []) (fun _ h => h.to) ?_
   rcases ite_cases H0 with ⟨h17, H0⟩ | ⟨h17, H0⟩
   · refine J.cond_true h17 ?_
     refine J.sr ?_
     refine JL.as (.int .i64 8) ?_
     refine JL.es [(2, .int .i64 8)] ?_
     refine J.ret ?_
     refine JQ.then_ret ?_
     obtain rfl := Option.some.inj H0
     exact JQ.done' (rs := [.tmp 2]) (vs := [.int .i64 8]) [] (.inr rfl) ⟨by kernel_rfl, trivial⟩ (fun _ h => Heap.to h) ⟨rfl, rfl⟩
   · refine J.cond_false h17 ?_
     refine J.skip ?_
     refine JQ.ts [] ?_
     refine J.sr ?_
     refine JL.as (.int .i64 0) ?_
     refine JL.en ?_
     refine J.ret ?_
     obtain rfl := Option.some.inj H0
     exact JQ.done' (rs := [.tmp 2]) (vs := [.int .i64 0]) [] (.inr rfl) ⟨by kernel_rfl, trivial⟩ (fun _ h => Heap.to h) ⟨rfl, rfl⟩

theorem corrupt_valid.ok (x1 : Spoil) (r : Bool) (H0 : corrupt_valid.f x1 = some r) :
    Does Try.prog 25 [mv_25 x1].toArray [] [] false (fun v Δ => v = .bool r ∧ Δ = []) := by
 refine Does.body (vs := [mv_25 x1]) Try.func25 rfl trivial trivial fun w S => ?_
 unfold corrupt_valid.f at H0
 refine J.sr ?_
 refine JL.box (cl_25 x1) fun b2 => ?_
 refine JL.as (.bool false) ?_
 refine JL.es [(1, .pointer (some ⟨b2, 0, none⟩))] ?_
 refine J.seq ?_
 refine J.join (T := Bool) (G := Unit) (fun t => corrupt_valid.k1 x1 t = some r) (fun t g => [(1, .pointer (some ⟨b2, 0, none⟩)), (27, .bool t)]) (fun t g => [At.box b2 25 (cl_25 x1)]) ?_ ?_
 · refine J.region ?_
   refine JL.pur (.pointer (some ⟨b2, 1, none⟩)) (some 3) ?_
   refine JL.val (.int .i64 x1.Station) (some 4) (yields_load_box 0 1 (holds_box b2 25 (cl_25 x1)) tyAgg_3) ?_
   refine JL.pur (.bool (decide (x1.Station < 0))) (some 5) ?_
   refine JL.mv (.bool (decide (x1.Station < 0))) ?_
   rcases ite_cases H0 with ⟨h21, H0⟩ | ⟨h21, H0⟩
   · refine JL.off 3 6 false (some 7) h21 ?_
     refine JL.off 3 6 false (some 8) h21 ?_
     refine JL.off 3 6 false (some 9) h21 ?_
     refine JL.val (.bool true) (some 10) (gives_pickT h21) ?_
     refine JL.mv (.bool true) ?_
     refine JL.off 8 11 false (some 12) rfl ?_
     refine JL.off 8 11 false (some 13) rfl ?_
     refine JL.off 8 11 false (some 14) rfl ?_
     refine JL.val (.bool true) (some 15) (gives_pickT rfl) ?_
     refine JL.mv (.bool true) ?_
     refine JL.off 13 16 false (some 17) rfl ?_
     refine JL.off 13 16 false (some 18) rfl ?_
     refine JL.off 13 16 false (some 19) rfl ?_
     refine JL.off 13 16 false (some 20) rfl ?_
     refine JL.off 13 16 false (some 21) rfl ?_
     refine JL.val (.bool true) (some 22) (gives_pickT rfl) ?_
     refine JL.mv (.bool true) ?_
     refine JL.off 20 23 false (some 24) rfl ?_
     refine JL.off 20 23 false (some 25) rfl ?_
     refine JL.off 20 23 false (some 26) rfl ?_
     refine JL.val (.bool true) (some 27) (gives_pickT rfl) ?_
     refine JL.en ?_
     exact JQ.meet true () H0 (fun _ h => Heap.to h)
   · refine JL.on 3 6 h21 ?_
     refine JL.pur (.pointer (some ⟨b2, 1, none⟩)) (some 7) ?_
     refine JL.on 3 6 h21 ?_
     refine JL.val (.int .i64 x1.Station) (some 8) (yields_load_box 0 1 (holds_box b2 25 (cl_25 x1)) tyAgg_3) ?_
     refine JL.on 3 6 h21 ?_
     refine JL.pur (.bool (decide (8 ≤ x1.Station))) (some 9) ?_
     refine JL.val (.bool (decide (8 ≤ x1.Station))) (some 10) (gives_pickF h21) ?_
     refine JL.mv (.bool (decide (8 ≤ x1.Station))) ?_
     rcases ite_cases H0 with ⟨h22, H0⟩ | ⟨h22, H0⟩
     · refine JL.off 8 11 false (some 12) h22 ?_
       refine JL.off 8 11 false (some 13) h22 ?_
       refine JL.off 8 11 false (some 14) h22 ?_
       refine JL.val (.bool true) (some 15) (gives_pickT h22) ?_
       refine JL.mv (.bool true) ?_
       refine JL.off 13 16 false (some 17) rfl ?_
       refine JL.off 13 16 false (some 18) rfl ?_
       refine JL.off 13 16 false (some 19) rfl ?_
       refine JL.off 13 16 false (some 20) rfl ?_
       refine JL.off 13 16 false (some 21) rfl ?_
       refine JL.val (.bool true) (some 22) (gives_pickT rfl) ?_
       refine JL.mv (.bool true) ?_
       refine JL.off 20 23 false (some 24) rfl ?_
       refine JL.off 20 23 false (some 25) rfl ?_
       refine JL.off 20 23 false (some 26) rfl ?_
       refine JL.val (.bool true) (some 27) (gives_pickT rfl) ?_
       refine JL.en ?_
       exact JQ.meet true () H0 (fun _ h => Heap.to h)
     · refine JL.on 8 11 h22 ?_
       refine JL.pur (.pointer (some ⟨b2, 2, none⟩)) (some 12) ?_
       refine JL.on 8 11 h22 ?_
       refine JL.val (.int .i64 x1.From) (some 13) (yields_load_box 0 2 (holds_box b2 25 (cl_25 x1)) tyAgg_3) ?_
       refine JL.on 8 11 h22 ?_
       refine JL.pur (.bool (decide (x1.From < 0))) (some 14) ?_
       refine JL.val (.bool (decide (x1.From < 0))) (some 15) (gives_pickF h22) ?_
       refine JL.mv (.bool (decide (x1.From < 0))) ?_
       rcases ite_cases H0 with ⟨h23, H0⟩ | ⟨h23, H0⟩
       · refine JL.off 13 16 false (some 17) h23 ?_
         refine JL.off 13 16 false (some 18) h23 ?_
         refine JL.off 13 16 false (some 19) h23 ?_
         refine JL.off 13 16 false (some 20) h23 ?_
         refine JL.off 13 16 false (some 21) h23 ?_
         refine JL.val (.bool true) (some 22) (gives_pickT h23) ?_
         refine JL.mv (.bool true) ?_
         refine JL.off 20 23 false (some 24) rfl ?_
         refine JL.off 20 23 false (some 25) rfl ?_
         refine JL.off 20 23 false (some 26) rfl ?_
         refine JL.val (.bool true) (some 27) (gives_pickT rfl) ?_
         refine JL.en ?_
         exact JQ.meet true () H0 (fun _ h => Heap.to h)
       · refine JL.on 13 16 h23 ?_
         refine JL.pur (.pointer (some ⟨b2, 3, none⟩)) (some 17) ?_
         refine JL.on 13 16 h23 ?_
         refine JL.val (.int .i64 x1.To) (some 18) (yields_load_box 0 3 (holds_box b2 25 (cl_25 x1)) tyAgg_3) ?_
         refine JL.on 13 16 h23 ?_
         refine JL.pur (.pointer (some ⟨b2, 2, none⟩)) (some 19) ?_
         refine JL.on 13 16 h23 ?_
         refine JL.val (.int .i64 x1.From) (some 20) (yields_load_box 0 2 (holds_box b2 25 (cl_25 x1)) tyAgg_3) ?_
         refine JL.on 13 16 h23 ?_
         refine JL.pur (.bool (decide (x1.To < x1.From))) (some 21) ?_
         refine JL.val (.bool (decide (x1.To < x1.From))) (some 22) (gives_pickF h23) ?_
         refine JL.mv (.bool (decide (x1.To < x1.From))) ?_
         rcases ite_cases H0 with ⟨h24, H0⟩ | ⟨h24, H0⟩
         · refine JL.off 20 23 false (some 24) h24 ?_
           refine JL.off 20 23 false (some 25) h24 ?_
           refine JL.off 20 23 false (some 26) h24 ?_
           refine JL.val (.bool true) (some 27) (gives_pickT h24) ?_
           refine JL.en ?_
           exact JQ.meet true () H0 (fun _ h => Heap.to h)
         · refine JL.on 20 23 h24 ?_
           refine JL.pur (.pointer (some ⟨b2, 3, none⟩)) (some 24) ?_
           refine JL.on 20 23 h24 ?_
           refine JL.val (.int .i64 x1.To) (some 25) (yields_load_box 0 3 (holds_box b2 25 (cl_25 x1)) tyAgg_3) ?_
           refine JL.on 20 23 h24 ?_
           refine JL.pur (.bool (decide (32 < x1.To))) (some 26) ?_
           refine JL.val (.bool (decide (32 < x1.To))) (some 27) (gives_pickF h24) ?_
           refine JL.en ?_
           exact JQ.meet (decide (32 < x1.To)) () H0 (fun _ h => Heap.to h)
 · clear H0
   rintro x7 ⟨⟩ H0
   replace H0 : corrupt_valid.k1 x1 x7 = some r := H0
   unfold corrupt_valid.k1 at H0
   refine JQ.sub [(1, .pointer (some ⟨b2, 0, none⟩)), (27, .bool x7)] ?_
   refine JQ.turn (Δ' := [At.box b2 25 (cl_25 x1)]) (fun _ h => h.to) ?_
   rcases ite_cases H0 with ⟨h8, H0⟩ | ⟨h8, H0⟩
   · refine J.cond_true h8 ?_
     refine J.sr ?_
     refine JL.as (.bool false) ?_
     refine JL.es [(2, .bool false)] ?_
     refine JQ.mask [] [false] ?_
     refine J.ret ?_
     refine JQ.then_ret ?_
     obtain rfl := Option.some.inj H0
     exact JQ.done' (rs := [.tmp 2]) (vs := [.bool false]) [] (.inr rfl) ⟨by kernel_rfl, trivial⟩ (fun _ h => Heap.to h) ⟨rfl, rfl⟩
   · refine J.cond_false h8 ?_
     refine J.skip ?_
     refine JQ.ts [(1, .pointer (some ⟨b2, 0, none⟩))] ?_
     refine J.seq ?_
     refine J.sr ?_
     refine JL.pur (.pointer (some ⟨b2, 0, none⟩)) (some 28) ?_
     refine JL.val (.int .u8 x1.Kind) (some 29) (yields_load_box 0 0 (holds_box b2 25 (cl_25 x1)) tyAgg_5) ?_
     refine JL.es [(1, .pointer (some ⟨b2, 0, none⟩)), (29, .int .u8 x1.Kind)] ?_
     refine J.block ?_
     refine J.sr ?_
     refine JL.pur (.bool (decide (x1.Kind = 1))) (some 31) ?_
     refine JL.as (.bool (decide (x1.Kind = 1))) ?_
     refine JL.es [(1, .pointer (some ⟨b2, 0, none⟩)), (29, .int .u8 x1.Kind), (30, .bool (decide (x1.Kind = 1)))] ?_
     rcases ite_cases H0 with ⟨h9, H0⟩ | ⟨h9, H0⟩
     · refine J.cond_true h9 ?_
       refine J.sr ?_
       refine JL.pur (.pointer (some ⟨b2, 7, none⟩)) (some 32) ?_
       refine JL.val (.int .i64 x1.Q) (some 33) (yields_load_box 0 7 (holds_box b2 25 (cl_25 x1)) tyAgg_3) ?_
       refine JL.pur (.bool (decide (x1.Q = 0))) (some 34) ?_
       refine JL.mv (.bool (decide (x1.Q = 0))) ?_
       rcases ite_cases H0 with ⟨h10, H0⟩ | ⟨h10, H0⟩
       · refine JL.on 3 35 h10 ?_
         refine JL.pur (.pointer (some ⟨b2, 4, none⟩)) (some 36) ?_
         refine JL.on 3 35 h10 ?_
         refine JL.val (mv_23 x1.V) (some 37) (yields_load_boxes 0 4 (cl_23 x1.V) (holds_box b2 25 (cl_25 x1)) tyAgg_23 tySize_23) ?_
         refine JL.on 3 35 h10 ?_
         obtain ⟨t11, hc12, H0⟩ := bind_some H0
         refine JL.call [] [] [] (cx_Check.ok x1.V _ hc12) trivial ?_
         rintro _ _ ⟨rfl, rfl⟩
         refine JL.on 3 35 h10 ?_
         refine JL.pur (.bool (decide (t11 = 0))) (some 39) ?_
         refine JL.val (.bool (decide (t11 = 0))) (some 40) (gives_pickT h10) ?_
         refine JL.mv (.bool (decide (t11 = 0))) ?_
         rcases ite_cases H0 with ⟨h13, H0⟩ | ⟨h13, H0⟩
         · refine JL.on 9 41 h13 ?_
           refine JL.pur (.pointer (some ⟨b2, 4, none⟩)) (some 42) ?_
           refine JL.on 9 41 h13 ?_
           refine JL.pur (.pointer (some ⟨b2, 4, none⟩)) (some 43) ?_
           refine JL.on 9 41 h13 ?_
           refine JL.val (.int .i64 x1.V.Re) (some 44) (yields_load_box 0 4 (holds_box b2 25 (cl_25 x1)) tyAgg_2) ?_
           refine JL.on 9 41 h13 ?_
           refine JL.pur (.bool (!decide (x1.V.Re = 0))) (some 45) ?_
           refine JL.on 9 41 h13 ?_
           refine JL.mv (.bool (!decide (x1.V.Re = 0))) ?_
           rcases ite_cases H0 with ⟨h14, H0⟩ | ⟨h14, H0⟩
           · refine JL.off 14 46 false (some 47) h14 ?_
             refine JL.off 14 46 false (some 48) h14 ?_
             refine JL.off 14 46 false (some 49) h14 ?_
             refine JL.off 14 46 false (some 50) h14 ?_
             refine JL.on 9 41 h13 ?_
             refine JL.val (.bool true) (some 51) (gives_pickT h14) ?_
             refine JL.val (.bool true) (some 52) (gives_pickT h13) ?_
             refine JL.as (.bool true) ?_
             refine JL.es [(2, .bool true)] ?_
             refine JQ.mask [] [false] ?_
             refine J.ret ?_
             refine JQ.blk_ret ?_
             refine JQ.then_ret ?_
             obtain rfl := Option.some.inj H0
             exact JQ.done' (rs := [.tmp 2]) (vs := [.bool true]) [] (.inr rfl) ⟨by kernel_rfl, trivial⟩ (fun _ h => Heap.to h) ⟨rfl, rfl⟩
           · refine JL.on 14 46 h14 ?_
             refine JL.pur (.pointer (some ⟨b2, 4, none⟩)) (some 47) ?_
             refine JL.on 14 46 h14 ?_
             refine JL.pur (.pointer (some ⟨b2, 5, none⟩)) (some 48) ?_
             refine JL.on 14 46 h14 ?_
             refine JL.val (.int .i64 x1.V.Im) (some 49) (yields_load_box 0 5 (holds_box b2 25 (cl_25 x1)) tyAgg_2) ?_
             refine JL.on 14 46 h14 ?_
             refine JL.pur (.bool (!decide (x1.V.Im = 0))) (some 50) ?_
             refine JL.on 9 41 h13 ?_
             refine JL.val (.bool (!decide (x1.V.Im = 0))) (some 51) (gives_pickF h14) ?_
             refine JL.val (.bool (!decide (x1.V.Im = 0))) (some 52) (gives_pickT h13) ?_
             refine JL.as (.bool (!decide (x1.V.Im = 0))) ?_
             refine JL.es [(2, .bool (!decide (x1.V.Im = 0)))] ?_
             refine JQ.mask [] [false] ?_
             refine J.ret ?_
             refine JQ.blk_ret ?_
             refine JQ.then_ret ?_
             obtain rfl := Option.some.inj H0
             exact JQ.done' (rs := [.tmp 2]) (vs := [.bool (!decide (x1.V.Im = 0))]) [] (.inr rfl) ⟨by kernel_rfl, trivial⟩ (fun _ h => Heap.to h) ⟨rfl, rfl⟩
         · refine JL.off 9 41 true (some 42) h13 ?_
           refine JL.off 9 41 true (some 43) h13 ?_
           refine JL.off 9 41 true (some 44) h13 ?_
           refine JL.off 9 41 true (some 45) h13 ?_
           refine JL.off 9 41 true (some 46) h13 ?_
           refine JL.off' 14 46 false (some 47) ?_
           refine JL.off' 14 46 false (some 48) ?_
           refine JL.off' 14 46 false (some 49) ?_
           refine JL.off' 14 46 false (some 50) ?_
           refine JL.off 9 41 true (some 51) h13 ?_
           refine JL.val (.bool false) (some 52) (gives_pickF h13) ?_
           refine JL.as (.bool false) ?_
           refine JL.es [(2, .bool false)] ?_
           refine JQ.mask [] [false] ?_
           refine J.ret ?_
           refine JQ.blk_ret ?_
           refine JQ.then_ret ?_
           obtain rfl := Option.some.inj H0
           exact JQ.done' (rs := [.tmp 2]) (vs := [.bool false]) [] (.inr rfl) ⟨by kernel_rfl, trivial⟩ (fun _ h => Heap.to h) ⟨rfl, rfl⟩
       · refine JL.off 3 35 true (some 36) h10 ?_
         refine JL.off 3 35 true (some 37) h10 ?_
         refine JL.off 3 35 true (some 38) h10 ?_
         refine JL.off 3 35 true (some 39) h10 ?_
         refine JL.val (.bool false) (some 40) (gives_pickF h10) ?_
         refine JL.mv (.bool false) ?_
         refine JL.off 9 41 true (some 42) rfl ?_
         refine JL.off 9 41 true (some 43) rfl ?_
         refine JL.off 9 41 true (some 44) rfl ?_
         refine JL.off 9 41 true (some 45) rfl ?_
         refine JL.off 9 41 true (some 46) rfl ?_
         refine JL.off' 14 46 false (some 47) ?_
         refine JL.off' 14 46 false (some 48) ?_
         refine JL.off' 14 46 false (some 49) ?_
         refine JL.off' 14 46 false (some 50) ?_
         refine JL.off 9 41 true (some 51) rfl ?_
         refine JL.val (.bool false) (some 52) (gives_pickF rfl) ?_
         refine JL.as (.bool false) ?_
         refine JL.es [(2, .bool false)] ?_
         refine JQ.mask [] [false] ?_
         refine J.ret ?_
         refine JQ.blk_ret ?_
         refine JQ.then_ret ?_
         obtain rfl := Option.some.inj H0
         exact JQ.done' (rs := [.tmp 2]) (vs := [.bool false]) [] (.inr rfl) ⟨by kernel_rfl, trivial⟩ (fun _ h => Heap.to h) ⟨rfl, rfl⟩
     · refine J.cond_false h9 ?_
       refine J.join (T := Bool) (G := Unit) (fun t => corrupt_valid.k2 x1 t = some r) (fun t g => [(1, .pointer (some ⟨b2, 0, none⟩)), (53, .bool t)]) (fun t g => [At.box b2 25 (cl_25 x1)]) ?_ ?_
       · refine J.sr ?_
         refine JL.pur (.bool (decide (x1.Kind = 2))) (some 54) ?_
         refine JL.as (.bool (decide (x1.Kind = 2))) ?_
         refine JL.es [(1, .pointer (some ⟨b2, 0, none⟩)), (29, .int .u8 x1.Kind), (53, .bool (decide (x1.Kind = 2)))] ?_
         rcases ite_cases H0 with ⟨h20, H0⟩ | ⟨h20, H0⟩
         · refine J.cond_true h20 ?_
           refine J.skip ?_
           refine JQ.then_normal ?_
           exact JQ.meet (decide (x1.Kind = 2)) () H0 (fun _ h => Heap.to h)
         · refine J.cond_false h20 ?_
           refine J.region ?_
           refine JL.pur (.bool (decide (x1.Kind = 3))) (some 55) ?_
           refine JL.as (.bool (decide (x1.Kind = 3))) ?_
           refine JL.en ?_
           exact JQ.meet (decide (x1.Kind = 3)) () H0 (fun _ h => Heap.to h)
       · clear H0
         rintro x16 ⟨⟩ H0
         replace H0 : corrupt_valid.k2 x1 x16 = some r := H0
         unfold corrupt_valid.k2 at H0
         refine JQ.sub [(1, .pointer (some ⟨b2, 0, none⟩)), (53, .bool x16)] ?_
         refine JQ.turn (Δ' := [At.box b2 25 (cl_25 x1)]) (fun _ h => h.to) ?_
         rcases ite_cases H0 with ⟨h17, H0⟩ | ⟨h17, H0⟩
         · refine J.cond_true h17 ?_
           refine J.sr ?_
           refine JL.pur (.pointer (some ⟨b2, 4, none⟩)) (some 56) ?_
           refine JL.val (mv_23 x1.V) (some 57) (yields_load_boxes 0 4 (cl_23 x1.V) (holds_box b2 25 (cl_25 x1)) tyAgg_23 tySize_23) ?_
           refine JL.pur (mv_23 zv_23) (some 58) ?_
           refine JL.val (.bool (decide (x1.V = (⟨0, 0, 0⟩ : Cx)))) (some 59) (gives_eql eqg_23 (fun w => eqt_23 x1.V (⟨0, 0, 0⟩ : Cx) w)) ?_
           refine JL.mv (.bool (decide (x1.V = (⟨0, 0, 0⟩ : Cx)))) ?_
           rcases ite_cases H0 with ⟨h18, H0⟩ | ⟨h18, H0⟩
           · refine JL.on 4 60 h18 ?_
             refine JL.pur (.pointer (some ⟨b2, 7, none⟩)) (some 61) ?_
             refine JL.on 4 60 h18 ?_
             refine JL.val (.int .i64 x1.Q) (some 62) (yields_load_box 0 7 (holds_box b2 25 (cl_25 x1)) tyAgg_3) ?_
             refine JL.on 4 60 h18 ?_
             refine JL.pur (.bool (decide (0 ≤ x1.Q))) (some 63) ?_
             refine JL.val (.bool (decide (0 ≤ x1.Q))) (some 64) (gives_pickT h18) ?_
             refine JL.mv (.bool (decide (0 ≤ x1.Q))) ?_
             rcases ite_cases H0 with ⟨h19, H0⟩ | ⟨h19, H0⟩
             · refine JL.on 9 65 h19 ?_
               refine JL.pur (.pointer (some ⟨b2, 7, none⟩)) (some 66) ?_
               refine JL.on 9 65 h19 ?_
               refine JL.val (.int .i64 x1.Q) (some 67) (yields_load_box 0 7 (holds_box b2 25 (cl_25 x1)) tyAgg_3) ?_
               refine JL.on 9 65 h19 ?_
               refine JL.pur (.bool (decide (x1.Q < 4))) (some 68) ?_
               refine JL.val (.bool (decide (x1.Q < 4))) (some 69) (gives_pickT h19) ?_
               refine JL.as (.bool (decide (x1.Q < 4))) ?_
               refine JL.es [(2, .bool (decide (x1.Q < 4)))] ?_
               refine JQ.mask [] [false] ?_
               refine J.ret ?_
               refine JQ.blk_ret ?_
               refine JQ.then_ret ?_
               obtain rfl := Option.some.inj H0
               exact JQ.done' (rs := [.tmp 2]) (vs := [.bool (decide (x1.Q < 4))]) [] (.inr rfl) ⟨by kernel_rfl, trivial⟩ (fun _ h => Heap.to h) ⟨rfl, rfl⟩
             · refine JL.off 9 65 true (some 66) h19 ?_
               refine JL.off 9 65 true (some 67) h19 ?_
               refine JL.off 9 65 true (some 68) h19 ?_
               refine JL.val (.bool false) (some 69) (gives_pickF h19) ?_
               refine JL.as (.bool false) ?_
               refine JL.es [(2, .bool false)] ?_
               refine JQ.mask [] [false] ?_
               refine J.ret ?_
               refine JQ.blk_ret ?_
               refine JQ.then_ret ?_
               obtain rfl := Option.some.inj H0
               exact JQ.done' (rs := [.tmp 2]) (vs := [.bool false]) [] (.inr rfl) ⟨by kernel_rfl, trivial⟩ (fun _ h => Heap.to h) ⟨rfl, rfl⟩
           · refine JL.off 4 60 true (some 61) h18 ?_
             refine JL.off 4 60 true (some 62) h18 ?_
             refine JL.off 4 60 true (some 63) h18 ?_
             refine JL.val (.bool false) (some 64) (gives_pickF h18) ?_
             refine JL.mv (.bool false) ?_
             refine JL.off 9 65 true (some 66) rfl ?_
             refine JL.off 9 65 true (some 67) rfl ?_
             refine JL.off 9 65 true (some 68) rfl ?_
             refine JL.val (.bool false) (some 69) (gives_pickF rfl) ?_
             refine JL.as (.bool false) ?_
             refine JL.es [(2, .bool false)] ?_
             refine JQ.mask [] [false] ?_
             refine J.ret ?_
             refine JQ.blk_ret ?_
             refine JQ.then_ret ?_
             obtain rfl := Option.some.inj H0
             exact JQ.done' (rs := [.tmp 2]) (vs := [.bool false]) [] (.inr rfl) ⟨by kernel_rfl, trivial⟩ (fun _ h => Heap.to h) ⟨rfl, rfl⟩
         · refine J.cond_false h17 ?_
           refine J.skip ?_
           refine JQ.blk_normal ?_
           refine JQ.ts [] ?_
           refine JQ.mask [] [false] ?_
           refine J.sr ?_
           refine JL.as (.bool false) ?_
           refine JL.en ?_
           refine J.ret ?_
           obtain rfl := Option.some.inj H0
           exact JQ.done' (rs := [.tmp 2]) (vs := [.bool false]) [] (.inr rfl) ⟨by kernel_rfl, trivial⟩ (fun _ h => Heap.to h) ⟨rfl, rfl⟩

theorem corrupt_Table_1.ok (x1 : Spoil) (r : Bool) (H0 : corrupt_Table_1.f x1 = some r) :
    Does Try.prog 24 [mv_25 x1].toArray [] [] false (fun v Δ => v = .bool r ∧ Δ = []) := by
 refine Does.body (vs := [mv_25 x1]) Try.func24 rfl trivial trivial fun w S => ?_
 unfold corrupt_Table_1.f at H0
 refine J.sr ?_
 refine JL.box (cl_25 x1) fun b2 => ?_
 refine JL.as (.bool false) ?_
 refine JL.es [(1, .pointer (some ⟨b2, 0, none⟩))] ?_
 refine J.sr ?_
 refine JL.val (mv_25 x1) (some 3) (yields_load_boxes 0 0 (cl_25 x1) (holds_box b2 25 (cl_25 x1)) tyAgg_25 tySize_25) ?_
 obtain ⟨t3, hc4, H0⟩ := bind_some H0
 refine JL.call [] [] [] (corrupt_valid.ok x1 _ hc4) trivial ?_
 rintro _ _ ⟨rfl, rfl⟩
 refine JL.pur (.bool (!t3)) (some 5) ?_
 refine JL.as (.bool (!t3)) ?_
 refine JL.es [(2, .bool (!t3))] ?_
 refine JQ.mask [] [false] ?_
 refine J.ret ?_
 obtain rfl := Option.some.inj H0
 exact JQ.done' (rs := [.tmp 2]) (vs := [.bool (!t3)]) [] (.inr rfl) ⟨by kernel_rfl, trivial⟩ (fun _ h => Heap.to h) ⟨rfl, rfl⟩

theorem slices_IndexFunc__api_Spoil_api_Spoil__corrupt_Table_1.ok (s1 : (List Spoil)) (Aa2 : Option Addr) (c3 : Nat) (r : Int) (H0 : slices_IndexFunc__api_Spoil_api_Spoil__corrupt_Table_1.f s1 = some r) :
    Does Try.prog 41 [.slice Aa2 s1.length c3, .func (.func 24) #[] #[]].toArray [At.rd Aa2 c3 fl_Spoil.kd s1 true] [] false (fun v Δ => v = .int .i64 r ∧ Δ = []) := by
 refine Does.body (vs := [.slice Aa2 s1.length c3, .func (.func 24) #[] #[]]) Try.func41 rfl ⟨.inl rfl, trivial⟩ trivial fun w S => ?_
 unfold slices_IndexFunc__api_Spoil_api_Spoil__corrupt_Table_1.f at H0
 refine J.sr ?_
 refine JL.as (.int .i64 0) ?_
 refine JL.es [(0, .slice Aa2 s1.length c3), (1, .func (.func 24) #[] #[])] ?_
 refine J.seq ?_
 refine J.sr ?_
 refine JL.mv (.slice Aa2 s1.length c3) ?_
 refine JL.pur (.int .i64 (s1.length : Int)) (some 7) ?_
 refine JL.mv (.int .i64 0) ?_
 refine JL.es [(0, .slice Aa2 s1.length c3), (1, .func (.func 24) #[] #[]), (7, .int .i64 (s1.length : Int)), (8, .int .i64 0)] ?_
 obtain ⟨o1, hit, H0⟩ := bind_some H0
 refine J.loop (σ := Int) (τ := Unit) (G := Unit) (G' := Unit) _ o1 (fun s g => [(0, .slice Aa2 s1.length c3), (1, .func (.func 24) #[] #[]), (7, .int .i64 (s1.length : Int)), (8, .int .i64 s)]) (fun s g => [At.rd Aa2 c3 fl_Spoil.kd s1 true]) (fun t => slices_IndexFunc__api_Spoil_api_Spoil__corrupt_Table_1.k2 = some r) (fun t g => []) (fun t g => []) 0 () hit (fun _ h => Heap.to h) ?_ ?_
 · clear hit
   rintro x23 ⟨⟩ st1 H1 hb1 hr1
   replace H1 : slices_IndexFunc__api_Spoil_api_Spoil__corrupt_Table_1.s1 s1 x23 = some st1 := H1
   unfold slices_IndexFunc__api_Spoil_api_Spoil__corrupt_Table_1.s1 at H1
   refine JQ.sub [(0, .slice Aa2 s1.length c3), (1, .func (.func 24) #[] #[]), (7, .int .i64 (s1.length : Int)), (8, .int .i64 x23)] ?_
   refine JQ.turn (Δ' := [At.rd Aa2 c3 fl_Spoil.kd s1 true]) (fun _ h => h.to) ?_
   refine J.sr ?_
   refine JL.pur (.bool (decide (x23 < (s1.length : Int)))) (some 9) ?_
   refine JL.en ?_
   refine J.seq ?_
   rcases ite_cases H1 with ⟨h32, H1⟩ | ⟨h32, H1⟩
   · refine J.cond_true h32 ?_
     refine J.skip ?_
     refine JQ.ts [(0, .slice Aa2 s1.length c3), (1, .func (.func 24) #[] #[]), (7, .int .i64 (s1.length : Int)), (8, .int .i64 x23)] ?_
     refine J.seq ?_
     refine J.block ?_
     refine J.sr ?_
     refine JL.mv (.int .i64 x23) ?_
     refine JL.as (.int .i64 x23) ?_
     refine JL.es [(0, .slice Aa2 s1.length c3), (1, .func (.func 24) #[] #[]), (5, .int .i64 x23), (7, .int .i64 (s1.length : Int)), (8, .int .i64 x23)] ?_
     refine J.sr ?_
     refine JL.mv (.func (.func 24) #[] #[]) ?_
     refine JL.mv (.slice Aa2 s1.length c3) ?_
     refine JL.mv (.int .i64 x23) ?_
     obtain ⟨⟨h33, h34⟩, H1⟩ := ite_must H1
     refine JL.ixAddr 0 8 c3 .i64 (elems_rd Aa2 c3 fl_Spoil.kd s1 true) Try.underlying32 tySize_25 h33 h34 fun g35 o36 hA => ?_
     subst hA
     refine JL.val (mv_25 (ix s1 x23)) (some 15) (gives_loadEl (f := fl_Spoil) 0 0 x23 (elems_rd (some ⟨g35, o36, none⟩) c3 fl_Spoil.kd s1 true) h33 h34 tySize_25 (.inl ⟨tyAgg_25, rfl⟩)) ?_
     obtain ⟨t37, hc38, H1⟩ := bind_some H1
     refine JL.call [] [] [] (corrupt_Table_1.ok (ix s1 x23) _ hc38) trivial ?_
     rintro _ _ ⟨rfl, rfl⟩
     refine JL.es [(0, .slice (some ⟨g35, o36, none⟩) s1.length c3), (1, .func (.func 24) #[] #[]), (5, .int .i64 x23), (7, .int .i64 (s1.length : Int)), (8, .int .i64 x23), (16, .bool t37)] ?_
     rcases ite_cases H1 with ⟨h39, H1⟩ | ⟨h39, H1⟩
     · refine J.cond_true h39 ?_
       refine J.sr ?_
       refine JL.mv (.int .i64 x23) ?_
       refine JL.as (.int .i64 x23) ?_
       refine JL.es [(4, .int .i64 x23)] ?_
       refine JQ.mask [] [false] ?_
       refine J.ret ?_
       refine JQ.blk_ret ?_
       refine JQ.then_ret ?_
       refine JQ.then_ret ?_
       refine JQ.blk_ret ?_
       refine JQ.met_ret ?_
       refine JQ.then_ret ?_
       rw [hr1 _ (Option.some.inj H1).symm, fin_ret] at H0
       obtain rfl := Option.some.inj H0
       exact JQ.done' (rs := [.tmp 4]) (vs := [.int .i64 x23]) [] (.inr rfl) ⟨by kernel_rfl, trivial⟩ (fun _ h => Heap.to h) ⟨rfl, rfl⟩
     · refine J.cond_false h39 ?_
       refine J.skip ?_
       refine JQ.blk_normal ?_
       refine JQ.ts [(0, .slice (some ⟨g35, o36, none⟩) s1.length c3), (1, .func (.func 24) #[] #[]), (7, .int .i64 (s1.length : Int)), (8, .int .i64 x23)] ?_
       refine J.region ?_
       refine JL.pur (.int .i64 (w64 (x23 + 1))) (some 18) ?_
       refine JL.mv (.int .i64 (w64 (x23 + 1))) ?_
       refine JL.en ?_
       exact JQ.again (w64 (x23 + 1)) () (Option.some.inj H1).symm (fun _ h => Heap.to h)
   · refine J.cond_false h32 ?_
     refine J.exit ?_
     refine JQ.then_exit ?_
     refine JQ.then_exit ?_
     refine JQ.blk_exit ?_
     rw [hb1 _ (Option.some.inj H1).symm, fin_brk] at H0
     exact JQ.met () () H0 (fun _ h => Heap.to (Heap.pick [] (by decide) h))
 · clear hit H0
   rintro ⟨⟩ ⟨⟩ H0
   replace H0 : slices_IndexFunc__api_Spoil_api_Spoil__corrupt_Table_1.k2 = some r := H0
   unfold slices_IndexFunc__api_Spoil_api_Spoil__corrupt_Table_1.k2 at H0
   refine JQ.sub [] ?_
   refine JQ.turn (Δ' := []) (fun _ h => h.to) ?_
   refine JQ.then_normal ?_
   refine J.sr ?_
   refine JL.as (.int .i64 (-1)) ?_
   refine JL.en ?_
   refine J.ret ?_
   obtain rfl := Option.some.inj H0
   exact JQ.done' (rs := [.tmp 4]) (vs := [.int .i64 (-1)]) [] (.inr rfl) ⟨by kernel_rfl, trivial⟩ (fun _ h => Heap.to h) ⟨rfl, rfl⟩

theorem slices_ContainsFunc__api_Spoil_api_Spoil__corrupt_Table_1.ok (s1 : (List Spoil)) (Aa2 : Option Addr) (c3 : Nat) (r : Bool) (H0 : slices_ContainsFunc__api_Spoil_api_Spoil__corrupt_Table_1.f s1 = some r) :
    Does Try.prog 23 [.slice Aa2 s1.length c3, .func (.func 24) #[] #[]].toArray [At.rd Aa2 c3 fl_Spoil.kd s1 true] [] false (fun v Δ => v = .bool r ∧ Δ = []) := by
 refine Does.body (vs := [.slice Aa2 s1.length c3, .func (.func 24) #[] #[]]) Try.func23 rfl ⟨.inl rfl, trivial⟩ trivial fun w S => ?_
 unfold slices_ContainsFunc__api_Spoil_api_Spoil__corrupt_Table_1.f at H0
 refine J.sr ?_
 refine JL.as (.bool false) ?_
 refine JL.es [(0, .slice Aa2 s1.length c3), (1, .func (.func 24) #[] #[])] ?_
 refine J.sr ?_
 refine JL.mv (.slice Aa2 s1.length c3) ?_
 refine JL.mv (.func (.func 24) #[] #[]) ?_
 obtain ⟨t5, hc6, H0⟩ := bind_some H0
 refine JL.call [] [] [] (slices_IndexFunc__api_Spoil_api_Spoil__corrupt_Table_1.ok s1 Aa2 c3 _ hc6) ⟨pre_any 0 (view_rd Aa2 c3 fl_Spoil.kd s1 true true), trivial⟩ ?_
 rintro _ _ ⟨rfl, rfl⟩
 refine JL.pur (.bool (decide (0 ≤ t5))) (some 8) ?_
 refine JL.as (.bool (decide (0 ≤ t5))) ?_
 refine JL.es [(4, .bool (decide (0 ≤ t5)))] ?_
 refine JQ.mask [] [false] ?_
 refine J.ret ?_
 obtain rfl := Option.some.inj H0
 exact JQ.done' (rs := [.tmp 4]) (vs := [.bool (decide (0 ≤ t5))]) [] (.inr rfl) ⟨by kernel_rfl, trivial⟩ (fun _ h => Heap.to h) ⟨rfl, rfl⟩

theorem math_bits_Mul64.ok (x1 : Int) (y2 : Int) (r : (Int × Int)) (H0 : math_bits_Mul64.f x1 y2 = some r) :
    Does Try.prog 86 [.int .u64 x1, .int .u64 y2].toArray [] [] false (fun v Δ => v = .tuple #[.int .u64 r.1, .int .u64 r.2] ∧ Δ = []) := by
 refine Does.body (vs := [.int .u64 x1, .int .u64 y2]) Try.func86 rfl trivial trivial fun w S => ?_
 unfold math_bits_Mul64.f at H0
 refine J.sr ?_
 refine JL.as (.int .u64 0) ?_
 refine JL.as (.int .u64 0) ?_
 refine JL.es [(0, .int .u64 x1), (1, .int .u64 y2)] ?_
 refine J.sr ?_
 refine JL.mv (.int .u64 x1) ?_
 refine JL.pur (.int .u64 (gand .u64 x1 4294967295)) (some 15) ?_
 obtain ⟨x3, ex3, H0⟩ := lt_some H0
 refine JL.as' (k := .u64) x3 ex3 ?_
 refine JL.es [(0, .int .u64 x1), (1, .int .u64 y2), (6, .int .u64 x3)] ?_
 refine J.sr ?_
 refine JL.mv (.int .u64 x1) ?_
 refine JL.pur (.int .u64 (gshr .u64 x1 32)) (some 17) ?_
 obtain ⟨x4, ex4, H0⟩ := lt_some H0
 refine JL.as' (k := .u64) x4 ex4 ?_
 refine JL.es [(0, .int .u64 x1), (1, .int .u64 y2), (6, .int .u64 x3), (7, .int .u64 x4)] ?_
 refine J.sr ?_
 refine JL.mv (.int .u64 y2) ?_
 refine JL.pur (.int .u64 (gand .u64 y2 4294967295)) (some 19) ?_
 obtain ⟨y5, ey5, H0⟩ := lt_some H0
 refine JL.as' (k := .u64) y5 ey5 ?_
 refine JL.es [(0, .int .u64 x1), (1, .int .u64 y2), (6, .int .u64 x3), (7, .int .u64 x4), (8, .int .u64 y5)] ?_
 refine J.sr ?_
 refine JL.mv (.int .u64 y2) ?_
 refine JL.pur (.int .u64 (gshr .u64 y2 32)) (some 21) ?_
 obtain ⟨y6, ey6, H0⟩ := lt_some H0
 refine JL.as' (k := .u64) y6 ey6 ?_
 refine JL.es [(0, .int .u64 x1), (1, .int .u64 y2), (6, .int .u64 x3), (7, .int .u64 x4), (8, .int .u64 y5), (9, .int .u64 y6)] ?_
 refine J.sr ?_
 refine JL.mv (.int .u64 x3) ?_
 refine JL.mv (.int .u64 y5) ?_
 refine JL.pur (.int .u64 (wu64 (x3 * y5))) (some 24) ?_
 refine JL.as (.int .u64 (wu64 (x3 * y5))) ?_
 refine JL.es [(0, .int .u64 x1), (1, .int .u64 y2), (6, .int .u64 x3), (7, .int .u64 x4), (8, .int .u64 y5), (9, .int .u64 y6), (10, .int .u64 (wu64 (x3 * y5)))] ?_
 refine J.sr ?_
 refine JL.mv (.int .u64 x4) ?_
 refine JL.mv (.int .u64 y5) ?_
 refine JL.pur (.int .u64 (wu64 (x4 * y5))) (some 27) ?_
 refine JL.mv (.int .u64 (wu64 (x3 * y5))) ?_
 refine JL.pur (.int .u64 (gshr .u64 (wu64 (x3 * y5)) 32)) (some 29) ?_
 refine JL.pur (.int .u64 (wu64 ((wu64 (x4 * y5)) + (gshr .u64 (wu64 (x3 * y5)) 32)))) (some 30) ?_
 obtain ⟨t7, et7, H0⟩ := lt_some H0
 refine JL.as' (k := .u64) t7 et7 ?_
 refine JL.es [(0, .int .u64 x1), (1, .int .u64 y2), (6, .int .u64 x3), (7, .int .u64 x4), (9, .int .u64 y6), (11, .int .u64 t7)] ?_
 refine J.sr ?_
 refine JL.mv (.int .u64 t7) ?_
 refine JL.pur (.int .u64 (gand .u64 t7 4294967295)) (some 32) ?_
 obtain ⟨w8, ew8, H0⟩ := lt_some H0
 refine JL.as' (k := .u64) w8 ew8 ?_
 refine JL.es [(0, .int .u64 x1), (1, .int .u64 y2), (6, .int .u64 x3), (7, .int .u64 x4), (9, .int .u64 y6), (11, .int .u64 t7), (12, .int .u64 w8)] ?_
 refine J.sr ?_
 refine JL.mv (.int .u64 t7) ?_
 refine JL.pur (.int .u64 (gshr .u64 t7 32)) (some 34) ?_
 obtain ⟨w9, ew9, H0⟩ := lt_some H0
 refine JL.as' (k := .u64) w9 ew9 ?_
 refine JL.es [(0, .int .u64 x1), (1, .int .u64 y2), (6, .int .u64 x3), (7, .int .u64 x4), (9, .int .u64 y6), (12, .int .u64 w8), (13, .int .u64 w9)] ?_
 refine J.sr ?_
 refine JL.mv (.int .u64 w8) ?_
 refine JL.mv (.int .u64 x3) ?_
 refine JL.mv (.int .u64 y6) ?_
 refine JL.pur (.int .u64 (wu64 (x3 * y6))) (some 38) ?_
 refine JL.pur (.int .u64 (wu64 (w8 + (wu64 (x3 * y6))))) (some 39) ?_
 obtain ⟨w10, ew10, H0⟩ := lt_some H0
 refine JL.as' (k := .u64) w10 ew10 ?_
 refine JL.es [(0, .int .u64 x1), (1, .int .u64 y2), (7, .int .u64 x4), (9, .int .u64 y6), (12, .int .u64 w10), (13, .int .u64 w9)] ?_
 refine J.sr ?_
 refine JL.mv (.int .u64 x4) ?_
 refine JL.mv (.int .u64 y6) ?_
 refine JL.pur (.int .u64 (wu64 (x4 * y6))) (some 42) ?_
 refine JL.mv (.int .u64 w9) ?_
 refine JL.pur (.int .u64 (wu64 ((wu64 (x4 * y6)) + w9))) (some 44) ?_
 refine JL.mv (.int .u64 w10) ?_
 refine JL.pur (.int .u64 (gshr .u64 w10 32)) (some 46) ?_
 refine JL.pur (.int .u64 (wu64 ((wu64 ((wu64 (x4 * y6)) + w9)) + (gshr .u64 w10 32)))) (some 47) ?_
 obtain ⟨hi11, ehi11, H0⟩ := lt_some H0
 refine JL.as' (k := .u64) hi11 ehi11 ?_
 refine JL.es [(0, .int .u64 x1), (1, .int .u64 y2), (4, .int .u64 hi11)] ?_
 refine J.sr ?_
 refine JL.mv (.int .u64 x1) ?_
 refine JL.mv (.int .u64 y2) ?_
 refine JL.pur (.int .u64 (wu64 (x1 * y2))) (some 50) ?_
 refine JL.as (.int .u64 (wu64 (x1 * y2))) ?_
 refine JL.es [(4, .int .u64 hi11), (5, .int .u64 (wu64 (x1 * y2)))] ?_
 refine J.ret ?_
 obtain rfl := Option.some.inj H0
 exact JQ.done' (rs := [.tmp 4, .tmp 5]) (vs := [.int .u64 hi11, .int .u64 (wu64 (x1 * y2))]) [] (.inr rfl) ⟨by kernel_rfl, by kernel_rfl, trivial⟩ (fun _ h => Heap.to h) ⟨rfl, rfl⟩

theorem math_bits_Mul.ok (x1 : Int) (y2 : Int) (r : (Int × Int)) (H0 : math_bits_Mul.f x1 y2 = some r) :
    Does Try.prog 64 [.int .u64 x1, .int .u64 y2].toArray [] [] false (fun v Δ => v = .tuple #[.int .u64 r.1, .int .u64 r.2] ∧ Δ = []) := by
 refine Does.body (vs := [.int .u64 x1, .int .u64 y2]) Try.func64 rfl trivial trivial fun w S => ?_
 unfold math_bits_Mul.f at H0
 refine J.sr ?_
 refine JL.as (.int .u64 0) ?_
 refine JL.as (.int .u64 0) ?_
 refine JL.es [(0, .int .u64 x1), (1, .int .u64 y2)] ?_
 refine J.seq ?_
 refine J.cond_false rfl ?_
 refine J.skip ?_
 refine JQ.then_normal ?_
 refine J.sr ?_
 refine JL.mv (.int .u64 x1) ?_
 refine JL.mv (.int .u64 y2) ?_
 obtain ⟨t3, hc4, H0⟩ := bind_some H0
 refine JL.call [] [] [] (math_bits_Mul64.ok x1 y2 _ hc4) trivial ?_
 rintro _ _ ⟨rfl, rfl⟩
 refine JL.mv (.tuple #[.int .u64 t3.1, .int .u64 t3.2]) ?_
 refine JL.pur (.int .u64 t3.1) (some 26) ?_
 refine JL.pur (.int .u64 t3.2) (some 27) ?_
 refine JL.as (.int .u64 t3.1) ?_
 refine JL.as (.int .u64 t3.2) ?_
 refine JL.es [(8, .int .u64 t3.1), (9, .int .u64 t3.2)] ?_
 refine J.sr ?_
 refine JL.mv (.int .u64 t3.1) ?_
 refine JL.mv (.int .u64 t3.2) ?_
 refine JL.as (.int .u64 t3.1) ?_
 refine JL.as (.int .u64 t3.2) ?_
 refine JL.es [(4, .int .u64 t3.1), (5, .int .u64 t3.2)] ?_
 refine J.ret ?_
 obtain rfl := Option.some.inj H0
 exact JQ.done' (rs := [.tmp 4, .tmp 5]) (vs := [.int .u64 t3.1, .int .u64 t3.2]) [] (.inr rfl) ⟨by kernel_rfl, by kernel_rfl, trivial⟩ (fun _ h => Heap.to h) ⟨rfl, rfl⟩

theorem slices_Repeat__api_Cx_api_Cx.ok (x1 : (List Cx)) (Aa2 : Option Addr) (c3 : Nat) (count5 : Int) (r : (List Cx)) (H0 : slices_Repeat__api_Cx_api_Cx.f x1 count5 = some r) :
    Does Try.prog 43 [.slice Aa2 x1.length c3, .int .i64 count5].toArray [At.rd Aa2 c3 fl_Cx.kd x1 true] [] false (fun v Δ => ∃ A1001 : Option Addr, ∃ c1001 : Nat, v = .slice A1001 r.length c1001 ∧ Δ = [At.row A1001 c1001 23 fl_Cx.kd r false]) := by
 refine Does.body (vs := [.slice Aa2 x1.length c3, .int .i64 count5]) Try.func43 rfl ⟨.inl rfl, trivial⟩ trivial fun w S => ?_
 unfold slices_Repeat__api_Cx_api_Cx.f at H0
 refine J.sr ?_
 refine JL.as (.slice none 0 0) ?_
 refine JL.es [(0, .slice Aa2 x1.length c3), (1, .int .i64 count5)] ?_
 refine J.seq ?_
 refine J.sr ?_
 refine JL.mv (.int .i64 count5) ?_
 refine JL.pur (.bool (decide (count5 < 0))) (some 10) ?_
 refine JL.es [(0, .slice Aa2 x1.length c3), (1, .int .i64 count5), (10, .bool (decide (count5 < 0)))] ?_
 rcases ite_cases H0 with ⟨h7, H0⟩ | ⟨h7, H0⟩
 · refine J.cond_true h7 ?_
   refine J.region ?_
   cases H0
 · refine J.cond_false h7 ?_
   refine J.skip ?_
   refine JQ.ts [(0, .slice Aa2 x1.length c3), (1, .int .i64 count5)] ?_
   refine J.sr ?_
   refine JL.mv (.slice Aa2 x1.length c3) ?_
   refine JL.pur (.int .i64 (x1.length : Int)) (some 14) ?_
   refine JL.pur (.int .u64 (wu64 (x1.length : Int))) (some 15) ?_
   refine JL.mv (.int .i64 count5) ?_
   refine JL.pur (.int .u64 (wu64 count5)) (some 17) ?_
   obtain ⟨t8, hc9, H0⟩ := bind_some H0
   refine JL.call [] [] [] (math_bits_Mul.ok (wu64 (x1.length : Int)) (wu64 count5) _ hc9) trivial ?_
   rintro _ _ ⟨rfl, rfl⟩
   refine JL.mv (.tuple #[.int .u64 t8.1, .int .u64 t8.2]) ?_
   refine JL.pur (.int .u64 t8.1) (some 19) ?_
   refine JL.pur (.int .u64 t8.2) (some 20) ?_
   refine JL.as (.int .u64 t8.1) ?_
   refine JL.as (.int .u64 t8.2) ?_
   refine JL.es [(0, .slice Aa2 x1.length c3), (5, .int .u64 t8.1), (6, .int .u64 t8.2)] ?_
   refine J.seq ?_
   refine J.join (T := Bool) (G := Unit) (fun t => slices_Repeat__api_Cx_api_Cx.k2 x1 t8 t = some r) (fun t g => [(0, .slice Aa2 x1.length c3), (6, .int .u64 t8.2), (26, .bool t)]) (fun t g => [At.rd Aa2 c3 fl_Cx.kd x1 true]) ?_ ?_
   · refine J.region ?_
     refine JL.mv (.int .u64 t8.1) ?_
     refine JL.pur (.bool (decide (0 < t8.1))) (some 22) ?_
     refine JL.mv (.bool (decide (0 < t8.1))) ?_
     rcases ite_cases H0 with ⟨h110, H0⟩ | ⟨h110, H0⟩
     · refine JL.off 2 23 false (some 24) h110 ?_
       refine JL.off 2 23 false (some 25) h110 ?_
       refine JL.val (.bool true) (some 26) (gives_pickT h110) ?_
       refine JL.en ?_
       exact JQ.meet true () H0 (fun _ h => Heap.to h)
     · refine JL.on 2 23 h110 ?_
       refine JL.mv (.int .u64 t8.2) ?_
       refine JL.on 2 23 h110 ?_
       refine JL.pur (.bool (decide (9223372036854775807 < t8.2))) (some 25) ?_
       refine JL.val (.bool (decide (9223372036854775807 < t8.2))) (some 26) (gives_pickF h110) ?_
       refine JL.en ?_
       exact JQ.meet (decide (9223372036854775807 < t8.2)) () H0 (fun _ h => Heap.to h)
   · clear H0
     rintro x15 ⟨⟩ H0
     replace H0 : slices_Repeat__api_Cx_api_Cx.k2 x1 t8 x15 = some r := H0
     unfold slices_Repeat__api_Cx_api_Cx.k2 at H0
     refine JQ.sub [(0, .slice Aa2 x1.length c3), (6, .int .u64 t8.2), (26, .bool x15)] ?_
     refine JQ.turn (Δ' := [At.rd Aa2 c3 fl_Cx.kd x1 true]) (fun _ h => h.to) ?_
     rcases ite_cases H0 with ⟨h16, H0⟩ | ⟨h16, H0⟩
     · refine J.cond_true h16 ?_
       refine J.region ?_
       cases H0
     · refine J.cond_false h16 ?_
       refine J.skip ?_
       refine JQ.ts [(0, .slice Aa2 x1.length c3), (6, .int .u64 t8.2)] ?_
       refine J.sr ?_
       refine JL.mv (.int .u64 t8.2) ?_
       refine JL.pur (.int .i64 (w64 t8.2)) (some 29) ?_
       obtain ⟨⟨h18, h19, h20⟩, H0⟩ := ite_must H0
       refine JL.makeSl 23 fl_Cx.kd ((⟨0, 0, 0⟩ : Cx) : Cx) Try.underlying28 info_23 (fun _ _ => rfl) h18 h19 (by omega) (by omega) fun b17 => ?_
       refine JL.as (.slice (some ⟨b17, 0, none⟩) (List.replicate (w64 t8.2).toNat ((⟨0, 0, 0⟩ : Cx) : Cx)).length ((w64 t8.2).toNat)) ?_
       refine JL.es [(0, .slice Aa2 x1.length c3), (7, .slice (some ⟨b17, 0, none⟩) (List.replicate (w64 t8.2).toNat ((⟨0, 0, 0⟩ : Cx) : Cx)).length ((w64 t8.2).toNat))] ?_
       refine J.sr ?_
       refine JL.mv (.slice (some ⟨b17, 0, none⟩) (List.replicate (w64 t8.2).toNat ((⟨0, 0, 0⟩ : Cx) : Cx)).length ((w64 t8.2).toNat)) ?_
       refine JL.mv (.slice Aa2 x1.length c3) ?_
       refine JL.copy (some ⟨b17, 0, none⟩) (f := fl_Cx) (xs := (List.replicate (w64 t8.2).toNat ((⟨0, 0, 0⟩ : Cx) : Cx))) (ys := x1) (sh := false) (E := 23) 1 0 0 (List.replicate (w64 t8.2).toNat ((⟨0, 0, 0⟩ : Cx) : Cx)).length (List.replicate (w64 t8.2).toNat ((⟨0, 0, 0⟩ : Cx) : Cx)).length ((w64 t8.2).toNat) ((w64 t8.2).toNat) c3 (elems_rd Aa2 c3 fl_Cx.kd x1 true) (.inl (win0 _ _)) (by omega) (by omega) rfl Try.underlying28 tySize_23 ?_
       obtain ⟨l21, el21, H0⟩ := lt_some H0
       have nl21 : l21.length = (List.replicate (w64 t8.2).toNat ((⟨0, 0, 0⟩ : Cx) : Cx)).length := by rw [← el21]; exact length_cpy _ _ _ _ (by omega)
       rw [el21]
       refine JQ.len (fun n : Nat => [(0, .slice Aa2 x1.length c3), (7, .slice (some ⟨b17, 0, none⟩) n ((w64 t8.2).toNat)), (31, .slice (some ⟨b17, 0, none⟩) n ((w64 t8.2).toNat)), (32, .slice Aa2 x1.length c3), (33, .int .i64 ((min x1.length ((List.replicate (w64 t8.2).toNat ((⟨0, 0, 0⟩ : Cx) : Cx)).length - 0) : Nat) : Int))]) nl21.symm ?_
       refine JQ.sub [(0, .slice Aa2 x1.length c3), (7, .slice (some ⟨b17, 0, none⟩) l21.length ((w64 t8.2).toNat)), (31, .slice (some ⟨b17, 0, none⟩) l21.length ((w64 t8.2).toNat)), (32, .slice Aa2 x1.length c3), (33, .int .i64 ((min x1.length ((List.replicate (w64 t8.2).toNat ((⟨0, 0, 0⟩ : Cx) : Cx)).length - 0) : Nat) : Int))] ?_
       obtain ⟨n22, en22, H0⟩ := lt_some H0
       refine JL.as' (k := .i64) n22 en22 ?_
       refine JL.es [(7, .slice (some ⟨b17, 0, none⟩) l21.length ((w64 t8.2).toNat)), (8, .int .i64 n22)] ?_
       refine JQ.mask [At.row (some ⟨b17, 0, none⟩) ((w64 t8.2).toNat) 23 fl_Cx.kd l21 false] [false, true] ?_
       refine J.seq ?_
       obtain ⟨o1, hit, H0⟩ := bind_some H0
       refine J.loop (σ := ((List Cx) × Int)) (τ := List Cx) (G := ((Option Addr) × Nat)) (G' := ((Option Addr) × Nat)) _ o1 (fun s g => [(7, .slice g.1 s.1.length g.2), (8, .int .i64 s.2)]) (fun s g => [At.row g.1 g.2 23 fl_Cx.kd s.1 false]) (fun t => slices_Repeat__api_Cx_api_Cx.k4 t = some r) (fun t g => [(7, .slice g.1 t.length g.2)]) (fun t g => [At.row g.1 g.2 23 fl_Cx.kd t false]) (l21, n22) ((some ⟨b17, 0, none⟩), (w64 t8.2).toNat) hit (fun _ h => Heap.to h) ?_ ?_
       · clear hit
         rintro ⟨newslice67, n71⟩ ⟨Aa68, c69⟩ st1 H1 hb1 hr1
         replace H1 : slices_Repeat__api_Cx_api_Cx.s3 newslice67 n71 = some st1 := H1
         unfold slices_Repeat__api_Cx_api_Cx.s3 at H1
         refine JQ.sub [(7, .slice Aa68 newslice67.length c69), (8, .int .i64 n71)] ?_
         refine JQ.turn (Δ' := [At.row Aa68 c69 23 fl_Cx.kd newslice67 false]) (fun _ h => h.to) ?_
         refine J.seq ?_
         refine J.sr ?_
         refine JL.mv (.int .i64 n71) ?_
         refine JL.mv (.slice Aa68 newslice67.length c69) ?_
         refine JL.pur (.int .i64 (newslice67.length : Int)) (some 36) ?_
         refine JL.pur (.bool (decide (n71 < (newslice67.length : Int)))) (some 37) ?_
         refine JL.es [(7, .slice Aa68 newslice67.length c69), (8, .int .i64 n71), (37, .bool (decide (n71 < (newslice67.length : Int))))] ?_
         rcases ite_cases H1 with ⟨h93, H1⟩ | ⟨h93, H1⟩
         · refine J.cond_true h93 ?_
           refine J.skip ?_
           refine JQ.ts [(7, .slice Aa68 newslice67.length c69), (8, .int .i64 n71)] ?_
           refine J.block ?_
           obtain ⟨⟨h95, h96⟩, H1⟩ := ite_must H1
           obtain ⟨⟨h99, h100⟩, H1⟩ := ite_must H1
           obtain ⟨l102, el102, H1⟩ := lt_some H1
           refine JQ.capLe' 0 (caple_row Aa68 c69 23 fl_Cx.kd newslice67 false) fun h101 => ?_
           refine JY.startM [false] [] (ba 10 0) ?_
           refine JY.pur (hi := rfl) 0 (ba 10 1) (.int .i64 n71) (some 38) want ?_
           refine JY.pur (hi := rfl) 1 (ba 10 3) (.slice Aa68 newslice67.length c69) (some 39) want ?_
           refine JY.pur (hi := rfl) 2 (ba 10 7) (.int .i64 n71) (some 40) want ?_
           obtain ⟨h104, h105⟩ : 0 ≤ n71 ∧ n71 ≤ (newslice67.length : Int) := ⟨h99, h100⟩
           refine JY.puw (hi := rfl) 3 (ba 10 15) (.slice (if c69 = n71.toNat then Aa68 else Option.map (fun q => Addr.add q (n71.toNat * 3)) Aa68) ((newslice67.take newslice67.length).drop n71.toNat).length (c69 - n71.toNat)) (some 41) want (givesW_cutWin n71.toNat newslice67.length c69 Aa68 c69 newslice67.length 3 Try.underlying28 tySize_23 (.inl ⟨rfl, rfl⟩) (.inl ⟨rfl, rfl⟩) (.inr ⟨.i64, n71, by kernel_rfl, h104, rfl⟩) (.inl rfl) (by omega) (by omega) (by omega) ((newslice67.take newslice67.length).drop n71.toNat).length (win_len (by omega))) ?_
           refine JY.pur (hi := rfl) 4 (ba 10 31) (.slice Aa68 newslice67.length c69) (some 42) want ?_
           refine JY.pur (hi := rfl) 5 (ba 10 63) (.int .i64 n71) (some 43) want ?_
           obtain ⟨h107, h108⟩ : 0 ≤ n71 ∧ n71 ≤ (newslice67.length : Int) := ⟨h99, h100⟩
           refine JY.puw (hi := rfl) 6 (ba 10 127) (.slice (if c69 = 0 then Aa68 else Option.map (fun q => Addr.add q (0 * 3)) Aa68) ((newslice67.take n71.toNat).drop 0).length (c69 - 0)) (some 44) want (givesW_cutWin 0 n71.toNat c69 Aa68 c69 newslice67.length 3 Try.underlying28 tySize_23 (.inl ⟨rfl, rfl⟩) (.inr ⟨.i64, n71, by kernel_rfl, h107, rfl⟩) (.inl ⟨rfl, rfl⟩) (.inl rfl) (by omega) (by omega) (by omega) ((newslice67.take n71.toNat).drop 0).length (win_len (by omega))) ?_
           refine JY.all [7] ⟨⟨_, rfl, ?_⟩, trivial⟩
           refine JL.copy Aa68 (f := fl_Cx) (xs := newslice67) (ys := ((newslice67.take n71.toNat).drop 0)) (sh := false) (E := 23) 0 0 n71.toNat newslice67.length ((newslice67.take newslice67.length).drop n71.toNat).length c69 (c69 - n71.toNat) (c69 - 0) (elems_win 0 n71.toNat (elems_row Aa68 c69 23 fl_Cx.kd newslice67 false) (by omega) (cutWin_or (A := Aa68) (xs := newslice67) (l := 0) (h := n71.toNat) (m := c69) (sz := 3) (by omega) (by omega) (by omega))) (win_or (cutWin_or (A := Aa68) (xs := newslice67) (l := n71.toNat) (h := newslice67.length) (m := c69) (sz := 3) (by omega) (by omega) (by omega)) (by omega)) (by omega) (by omega) (win_len (by omega)) Try.underlying28 tySize_23 ?_
           have nl102 : l102.length = newslice67.length := by rw [← el102]; exact length_cpy _ _ _ _ (by omega)
           rw [el102]
           refine JQ.len (fun n : Nat => [(7, .slice Aa68 n c69), (8, .int .i64 n71), (38, .int .i64 n71), (39, .slice Aa68 n c69), (40, .int .i64 n71), (42, .slice Aa68 n c69), (43, .int .i64 n71), (45, .int .i64 ((min ((newslice67.take n71.toNat).drop 0).length (newslice67.length - n71.toNat) : Nat) : Int))]) nl102.symm ?_
           refine JQ.sub [(7, .slice Aa68 l102.length c69), (8, .int .i64 n71), (38, .int .i64 n71), (39, .slice Aa68 l102.length c69), (40, .int .i64 n71), (42, .slice Aa68 l102.length c69), (43, .int .i64 n71), (45, .int .i64 ((min ((newslice67.take n71.toNat).drop 0).length (newslice67.length - n71.toNat) : Nat) : Int))] ?_
           refine JL.nil ?_
           refine JY.ran (ba 10 255) [false] ?_
           refine JY.pur (hi := rfl) 8 (ba 10 511) (.int .i64 (w64 (n71 + ((min ((newslice67.take n71.toNat).drop 0).length (newslice67.length - n71.toNat) : Nat) : Int)))) (some 46) want ?_
           refine JY.pur (hi := rfl) 9 (ba 10 1023) (.int .i64 (w64 (n71 + ((min ((newslice67.take n71.toNat).drop 0).length (newslice67.length - n71.toNat) : Nat) : Int)))) (some 8) want ?_
           refine JY.done ?_
           refine JQ.blk_normal ?_
           refine JQ.then_normal ?_
           exact JQ.again (l102, w64 (n71 + ((min ((newslice67.take n71.toNat).drop 0).length (newslice67.length - n71.toNat) : Nat) : Int))) (Aa68, c69) (Option.some.inj H1).symm (fun _ h => Heap.to h)
         · refine J.cond_false h93 ?_
           refine J.exit ?_
           refine JQ.then_exit ?_
           refine JQ.then_exit ?_
           refine JQ.blk_exit ?_
           rw [hb1 _ (Option.some.inj H1).symm, fin_brk] at H0
           exact JQ.met newslice67 (Aa68, c69) H0 (fun _ h => Heap.to h)
       · clear hit H0
         rintro newslice89 ⟨Aa90, c91⟩ H0
         replace H0 : slices_Repeat__api_Cx_api_Cx.k4 newslice89 = some r := H0
         unfold slices_Repeat__api_Cx_api_Cx.k4 at H0
         refine JQ.sub [(7, .slice Aa90 newslice89.length c91)] ?_
         refine JQ.turn (Δ' := [At.row Aa90 c91 23 fl_Cx.kd newslice89 false]) (fun _ h => h.to) ?_
         refine JQ.then_normal ?_
         refine J.sr ?_
         refine JL.mv (.slice Aa90 newslice89.length c91) ?_
         refine JL.as (.slice Aa90 newslice89.length c91) ?_
         refine JL.es [(4, .slice Aa90 newslice89.length c91)] ?_
         refine J.ret ?_
         obtain rfl := Option.some.inj H0
         exact JQ.done' (rs := [.tmp 4]) (vs := [.slice Aa90 newslice89.length c91]) [At.row Aa90 c91 23 fl_Cx.kd newslice89 false] (.inr rfl) ⟨by kernel_rfl, trivial⟩ (fun _ h => Heap.to h) ⟨Aa90, c91, rfl, rfl⟩

theorem cmp_Or__api_Errno.ok (vals1 : (List Int)) (Aa2 : Option Addr) (c3 : Nat) (r : Int) (H0 : cmp_Or__api_Errno.f vals1 = some r) :
    Does Try.prog 81 [.slice Aa2 vals1.length c3].toArray [At.rd Aa2 c3 ((flInt .i64).kd) vals1 true] [] false (fun v Δ => v = .int .i64 r ∧ Δ = []) := by
 refine Does.body (vs := [.slice Aa2 vals1.length c3]) Try.func81 rfl ⟨.inl rfl, trivial⟩ trivial fun w S => ?_
 unfold cmp_Or__api_Errno.f at H0
 refine J.sr ?_
 refine JL.as (.int .i64 0) ?_
 refine JL.es [(0, .slice Aa2 vals1.length c3)] ?_
 refine J.sr ?_
 refine JL.as (.int .i64 0) ?_
 refine JL.en ?_
 refine J.seq ?_
 refine J.sr ?_
 refine JL.mv (.slice Aa2 vals1.length c3) ?_
 refine JL.pur (.int .i64 (vals1.length : Int)) (some 7) ?_
 refine JL.mv (.int .i64 0) ?_
 refine JL.es [(3, .int .i64 0), (6, .slice Aa2 vals1.length c3), (7, .int .i64 (vals1.length : Int)), (8, .int .i64 0)] ?_
 obtain ⟨o1, hit, H0⟩ := bind_some H0
 refine J.loop (σ := Int) (τ := Unit) (G := Unit) (G' := Unit) _ o1 (fun s g => [(3, .int .i64 0), (6, .slice Aa2 vals1.length c3), (7, .int .i64 (vals1.length : Int)), (8, .int .i64 s)]) (fun s g => [At.rd Aa2 c3 ((flInt .i64).kd) vals1 true]) (fun t => cmp_Or__api_Errno.k2 = some r) (fun t g => [(3, .int .i64 0)]) (fun t g => []) 0 () hit (fun _ h => Heap.to h) ?_ ?_
 · clear hit
   rintro x19 ⟨⟩ st1 H1 hb1 hr1
   replace H1 : cmp_Or__api_Errno.s1 vals1 x19 = some st1 := H1
   unfold cmp_Or__api_Errno.s1 at H1
   refine JQ.sub [(3, .int .i64 0), (6, .slice Aa2 vals1.length c3), (7, .int .i64 (vals1.length : Int)), (8, .int .i64 x19)] ?_
   refine JQ.turn (Δ' := [At.rd Aa2 c3 ((flInt .i64).kd) vals1 true]) (fun _ h => h.to) ?_
   refine J.sr ?_
   refine JL.pur (.bool (decide (x19 < (vals1.length : Int)))) (some 9) ?_
   refine JL.en ?_
   refine J.seq ?_
   rcases ite_cases H1 with ⟨h26, H1⟩ | ⟨h26, H1⟩
   · refine J.cond_true h26 ?_
     refine J.skip ?_
     refine JQ.ts [(3, .int .i64 0), (6, .slice Aa2 vals1.length c3), (7, .int .i64 (vals1.length : Int)), (8, .int .i64 x19)] ?_
     refine J.seq ?_
     refine J.block ?_
     refine J.sr ?_
     obtain ⟨⟨h27, h28⟩, H1⟩ := ite_must H1
     refine JL.ixAddr 0 1 c3 .i64 (elems_rd Aa2 c3 ((flInt .i64).kd) vals1 true) Try.underlying134 tySize_29 h27 h28 fun g29 o30 hA => ?_
     subst hA
     refine JL.val (.int .i64 (ix vals1 x19)) (some 11) (gives_loadEl (f := (flInt .i64)) 0 0 x19 (elems_rd (some ⟨g29, o30, none⟩) c3 ((flInt .i64).kd) vals1 true) h27 h28 tySize_29 (.inr ⟨tyAgg_29, rfl, rfl⟩)) ?_
     refine JL.as (.int .i64 (ix vals1 x19)) ?_
     refine JL.es [(3, .int .i64 0), (5, .int .i64 (ix vals1 x19)), (6, .slice (some ⟨g29, o30, none⟩) vals1.length c3), (7, .int .i64 (vals1.length : Int)), (8, .int .i64 x19)] ?_
     refine J.sr ?_
     refine JL.mv (.int .i64 (ix vals1 x19)) ?_
     refine JL.mv (.int .i64 0) ?_
     refine JL.pur (.bool (!decide ((ix vals1 x19) = 0))) (some 14) ?_
     refine JL.es [(3, .int .i64 0), (5, .int .i64 (ix vals1 x19)), (6, .slice (some ⟨g29, o30, none⟩) vals1.length c3), (7, .int .i64 (vals1.length : Int)), (8, .int .i64 x19), (14, .bool (!decide ((ix vals1 x19) = 0)))] ?_
     rcases ite_cases H1 with ⟨h31, H1⟩ | ⟨h31, H1⟩
     · refine J.cond_true h31 ?_
       refine J.sr ?_
       refine JL.mv (.int .i64 (ix vals1 x19)) ?_
       refine JL.as (.int .i64 (ix vals1 x19)) ?_
       refine JL.es [(2, .int .i64 (ix vals1 x19))] ?_
       refine JQ.mask [] [false] ?_
       refine J.ret ?_
       refine JQ.blk_ret ?_
       refine JQ.then_ret ?_
       refine JQ.then_ret ?_
       refine JQ.blk_ret ?_
       refine JQ.met_ret ?_
       refine JQ.then_ret ?_
       rw [hr1 _ (Option.some.inj H1).symm, fin_ret] at H0
       obtain rfl := Option.some.inj H0
       exact JQ.done' (rs := [.tmp 2]) (vs := [.int .i64 (ix vals1 x19)]) [] (.inr rfl) ⟨by kernel_rfl, trivial⟩ (fun _ h => Heap.to h) ⟨rfl, rfl⟩
     · refine J.cond_false h31 ?_
       refine J.skip ?_
       refine JQ.blk_normal ?_
       refine JQ.ts [(3, .int .i64 0), (6, .slice (some ⟨g29, o30, none⟩) vals1.length c3), (7, .int .i64 (vals1.length : Int)), (8, .int .i64 x19)] ?_
       refine J.region ?_
       refine JL.pur (.int .i64 (w64 (x19 + 1))) (some 16) ?_
       refine JL.mv (.int .i64 (w64 (x19 + 1))) ?_
       refine JL.en ?_
       exact JQ.again (w64 (x19 + 1)) () (Option.some.inj H1).symm (fun _ h => Heap.to h)
   · refine J.cond_false h26 ?_
     refine J.exit ?_
     refine JQ.then_exit ?_
     refine JQ.then_exit ?_
     refine JQ.blk_exit ?_
     rw [hb1 _ (Option.some.inj H1).symm, fin_brk] at H0
     exact JQ.met () () H0 (fun _ h => Heap.to (Heap.pick [] (by decide) h))
 · clear hit H0
   rintro ⟨⟩ ⟨⟩ H0
   replace H0 : cmp_Or__api_Errno.k2 = some r := H0
   unfold cmp_Or__api_Errno.k2 at H0
   refine JQ.sub [(3, .int .i64 0)] ?_
   refine JQ.turn (Δ' := []) (fun _ h => h.to) ?_
   refine JQ.then_normal ?_
   refine J.sr ?_
   refine JL.mv (.int .i64 0) ?_
   refine JL.as (.int .i64 0) ?_
   refine JL.es [(2, .int .i64 0)] ?_
   refine J.ret ?_
   obtain rfl := Option.some.inj H0
   exact JQ.done' (rs := [.tmp 2]) (vs := [.int .i64 0]) [] (.inr rfl) ⟨by kernel_rfl, trivial⟩ (fun _ h => Heap.to h) ⟨rfl, rfl⟩

theorem cx_check.ok (a1 : Cx) (b2 : Cx) (r : Int) (H0 : cx_check.f a1 b2 = some r) :
    Does Try.prog 65 [mv_23 a1, mv_23 b2].toArray [] [] false (fun v Δ => v = .int .i64 r ∧ Δ = []) := by
 refine Does.body (vs := [mv_23 a1, mv_23 b2]) Try.func65 rfl trivial trivial fun w S => ?_
 unfold cx_check.f at H0
 refine J.sr ?_
 refine JL.box (cl_23 a1) fun b3 => ?_
 refine JL.box (cl_23 b2) fun b4 => ?_
 refine JL.as (.int .i64 0) ?_
 refine JL.es [(2, .pointer (some ⟨b3, 0, none⟩)), (3, .pointer (some ⟨b4, 0, none⟩))] ?_
 refine J.seq ?_
 refine J.drawT 4 ?_
 refine QL.val (mv_23 a1) (some 5) (yields_load_boxes 0 0 (cl_23 a1) (holds_box b3 23 (cl_23 a1)) tyAgg_23 tySize_23) ?_
 obtain ⟨t5, hc6, H0⟩ := bind_some H0
 refine QL.call [] [] (cx_Check.ok a1 _ hc6) trivial ?_
 refine QL.val (mv_23 b2) (some 7) (yields_load_boxes 1 0 (cl_23 b2) (holds_box b4 23 (cl_23 b2)) tyAgg_23 tySize_23) ?_
 obtain ⟨t7, hc8, H0⟩ := bind_some H0
 refine QL.call [] [] (cx_Check.ok b2 _ hc8) trivial ?_
 refine QL.nil ?_
 refine JA.nil ?_
 refine JL.buildSl 29 ((flInt .i64).kd) (([t5, t7] : List Int) : List Int) [.int .i64 t5, .int .i64 t7] false (closes_fl rfl) fun b9 => ?_
 obtain ⟨t10, hc11, H0⟩ := bind_some H0
 refine JL.call [] [] [] (cmp_Or__api_Errno.ok ([t5, t7] : List Int) (some ⟨b9, 0, none⟩) 2 _ hc11) ⟨pre_view 2 (view_row (some ⟨b9, 0, none⟩) 2 29 ((flInt .i64).kd) ([t5, t7] : List Int) false true), trivial⟩ ?_
 rintro _ _ ⟨rfl, rfl⟩
 refine JL.as (.int .i64 t10) ?_
 refine JL.es [(4, .int .i64 t10)] ?_
 refine JQ.mask [] [false, false, false] ?_
 refine J.ret ?_
 obtain rfl := Option.some.inj H0
 exact JQ.done' (rs := [.tmp 4]) (vs := [.int .i64 t10]) [] (.inr rfl) ⟨by kernel_rfl, trivial⟩ (fun _ h => Heap.to h) ⟨rfl, rfl⟩

theorem cx_reduced.ok (re1 : Int) (im2 : Int) (den3 : Int) (r : (Cx × Int)) (H0 : cx_reduced.f re1 im2 den3 = some r) :
    Does Try.prog 66 [.int .i64 re1, .int .i64 im2, .int .i64 den3].toArray [] [] false (fun v Δ => v = .tuple #[mv_23 r.1, .int .i64 r.2] ∧ Δ = []) := by
 refine Does.body (vs := [.int .i64 re1, .int .i64 im2, .int .i64 den3]) Try.func66 rfl trivial trivial fun w S => ?_
 unfold cx_reduced.f at H0
 refine J.sr ?_
 refine JL.alloc (cl_23 zv_23) fun b4 => ?_
 refine JL.as (.int .i64 0) ?_
 refine JL.es [(0, .int .i64 re1), (1, .int .i64 im2), (2, .int .i64 den3), (6, .pointer (some ⟨b4, 0, none⟩))] ?_
 refine J.sr ?_
 refine JL.mv (.int .i64 re1) ?_
 refine JL.mv (.int .i64 im2) ?_
 refine JL.mv (.int .i64 den3) ?_
 refine JL.buildSl 2 ((flInt .i64).kd) (([re1, im2, den3] : List Int) : List Int) [.int .i64 re1, .int .i64 im2, .int .i64 den3] false (closes_fl rfl) fun b5 => ?_
 obtain ⟨t6, hc7, H0⟩ := bind_some H0
 refine JL.call [] [] [] (cx_gcd.ok ([re1, im2, den3] : List Int) (some ⟨b5, 0, none⟩) 3 _ hc7) ⟨pre_view 1 (view_row (some ⟨b5, 0, none⟩) 3 2 ((flInt .i64).kd) ([re1, im2, den3] : List Int) false true), trivial⟩ ?_
 rintro _ _ ⟨rfl, rfl⟩
 refine JL.as (.int .i64 t6) ?_
 refine JL.es [(0, .int .i64 re1), (1, .int .i64 im2), (2, .int .i64 den3), (6, .pointer (some ⟨b4, 0, none⟩)), (8, .int .i64 t6)] ?_
 refine JQ.mask [At.box b4 23 (cl_23 zv_23)] [true, false] ?_
 refine J.join (T := Int) (G := Unit) (fun t => cx_reduced.k1 re1 im2 den3 t = some r) (fun t g => [(0, .int .i64 re1), (1, .int .i64 im2), (2, .int .i64 den3), (6, .pointer (some ⟨b4, 0, none⟩)), (8, .int .i64 t)]) (fun t g => [At.box b4 23 (cl_23 zv_23)]) ?_ ?_
 · refine J.sr ?_
   refine JL.mv (.int .i64 den3) ?_
   refine JL.pur (.bool (decide (den3 < 0))) (some 16) ?_
   refine JL.es [(0, .int .i64 re1), (1, .int .i64 im2), (2, .int .i64 den3), (6, .pointer (some ⟨b4, 0, none⟩)), (8, .int .i64 t6), (16, .bool (decide (den3 < 0)))] ?_
   rcases ite_cases H0 with ⟨h17, H0⟩ | ⟨h17, H0⟩
   · refine J.cond_true h17 ?_
     refine J.region ?_
     refine JL.mv (.int .i64 t6) ?_
     refine JL.pur (.int .i64 (w64 (0 - t6))) (some 18) ?_
     refine JL.as (.int .i64 (w64 (0 - t6))) ?_
     refine JL.en ?_
     exact JQ.meet (w64 (0 - t6)) () H0 (fun _ h => Heap.to h)
   · refine J.cond_false h17 ?_
     refine J.skip ?_
     refine JQ.then_normal ?_
     exact JQ.meet t6 () H0 (fun _ h => Heap.to h)
 · clear H0
   rintro g9 ⟨⟩ H0
   replace H0 : cx_reduced.k1 re1 im2 den3 g9 = some r := H0
   unfold cx_reduced.k1 at H0
   refine JQ.sub [(0, .int .i64 re1), (1, .int .i64 im2), (2, .int .i64 den3), (6, .pointer (some ⟨b4, 0, none⟩)), (8, .int .i64 g9)] ?_
   refine JQ.turn (Δ' := [At.box b4 23 (cl_23 zv_23)]) (fun _ h => h.to) ?_
   refine J.seq ?_
   refine J.drawA 11 [⟨10, 9, 23, [.int .i64 0, .int .i64 0, .int .i64 0]⟩] ?_ (by simp only [List.mem_cons, List.not_mem_nil, or_false, forall_eq_or_imp, forall_eq]; exact ⟨by decide, ⟨_, _, _, rfl⟩, by kernel_rfl⟩)
   refine QL.mv (.int .i64 re1) ?_
   refine QL.mv (.int .i64 g9) ?_
   obtain ⟨h10, H0⟩ := ite_must H0
   refine QL.val (.int .i64 (w64 (Int.tdiv re1 g9))) (some 21) (gives_quo .i64 re1 g9 h10) ?_
   refine QL.mv (.int .i64 im2) ?_
   refine QL.mv (.int .i64 g9) ?_
   obtain ⟨h11, H0⟩ := ite_must H0
   refine QL.val (.int .i64 (w64 (Int.tdiv im2 g9))) (some 24) (gives_quo .i64 im2 g9 h11) ?_
   refine QL.mv (.int .i64 den3) ?_
   refine QL.mv (.int .i64 g9) ?_
   obtain ⟨h12, H0⟩ := ite_must H0
   refine QL.val (.int .i64 (w64 (Int.tdiv den3 g9))) (some 27) (gives_quo .i64 den3 g9 h12) ?_
   refine QL.pur (.agg #[.int .i64 (w64 (Int.tdiv re1 g9)), .int .i64 (w64 (Int.tdiv im2 g9)), .int .i64 (w64 (Int.tdiv den3 g9))]) (some 28) ?_
   refine QL.skipA ?_
   refine QL.nil ?_
   refine JA.alloc fun b13 => ?_
   refine JA.nil ?_
   refine JL.store 1 b13 0 23 (cl_23 zv_23) [.int .i64 (w64 (Int.tdiv re1 g9)), .int .i64 (w64 (Int.tdiv im2 g9)), .int .i64 (w64 (Int.tdiv den3 g9))] tySize_23 ?_
   refine JL.es [(6, .pointer (some ⟨b4, 0, none⟩)), (9, .pointer (some ⟨b13, 0, none⟩))] ?_
   refine J.seq ?_
   refine J.sr ?_
   refine JL.val (.agg #[.int .i64 (w64 (Int.tdiv re1 g9)), .int .i64 (w64 (Int.tdiv im2 g9)), .int .i64 (w64 (Int.tdiv den3 g9))]) (some 29) (yields_load_boxes 1 0 [.int .i64 (w64 (Int.tdiv re1 g9)), .int .i64 (w64 (Int.tdiv im2 g9)), .int .i64 (w64 (Int.tdiv den3 g9))] (holds_box b13 23 [.int .i64 (w64 (Int.tdiv re1 g9)), .int .i64 (w64 (Int.tdiv im2 g9)), .int .i64 (w64 (Int.tdiv den3 g9))]) tyAgg_23 tySize_23) ?_
   obtain ⟨t14, hc15, H0⟩ := bind_some H0
   refine JL.call [] [] [] (cx_Check.ok (⟨(w64 (Int.tdiv re1 g9)), (w64 (Int.tdiv im2 g9)), (w64 (Int.tdiv den3 g9))⟩ : Cx) _ hc15) trivial ?_
   rintro _ _ ⟨rfl, rfl⟩
   refine JL.pur (.bool (!decide (t14 = 0))) (some 31) ?_
   refine JL.es [(6, .pointer (some ⟨b4, 0, none⟩)), (9, .pointer (some ⟨b13, 0, none⟩)), (31, .bool (!decide (t14 = 0)))] ?_
   rcases ite_cases H0 with ⟨h16, H0⟩ | ⟨h16, H0⟩
   · refine J.cond_true h16 ?_
     refine J.sr ?_
     refine JL.pur (mv_23 zv_23) (some 32) ?_
     refine JL.store 0 b4 0 23 (cl_23 zv_23) (cl_23 zv_23) tySize_23 ?_
     refine JL.as (.int .i64 16) ?_
     refine JL.es [(6, .pointer (some ⟨b4, 0, none⟩)), (7, .int .i64 16)] ?_
     refine JQ.mask [At.box b4 23 (cl_23 zv_23)] [true, false] ?_
     refine J.ret ?_
     refine JQ.then_ret ?_
     obtain rfl := Option.some.inj H0
     exact JQ.done' (rs := [.cell 6 23, .tmp 7]) (vs := [.agg #[.int .i64 0, .int .i64 0, .int .i64 0], .int .i64 16]) [] (.inr rfl) ⟨⟨b4, 0, _, _, by kernel_rfl, by kernel_rfl, holds_box b4 23 (cl_23 zv_23), .inl ⟨tyAgg_23, tySize_23, rfl⟩⟩, by kernel_rfl, trivial⟩ (fun _ h => Heap.to (Heap.pick [] (by decide) h)) ⟨rfl, rfl⟩
   · refine J.cond_false h16 ?_
     refine J.skip ?_
     refine JQ.ts [(6, .pointer (some ⟨b4, 0, none⟩)), (9, .pointer (some ⟨b13, 0, none⟩))] ?_
     refine J.sr ?_
     refine JL.val (.agg #[.int .i64 (w64 (Int.tdiv re1 g9)), .int .i64 (w64 (Int.tdiv im2 g9)), .int .i64 (w64 (Int.tdiv den3 g9))]) (some 33) (yields_load_boxes 1 0 [.int .i64 (w64 (Int.tdiv re1 g9)), .int .i64 (w64 (Int.tdiv im2 g9)), .int .i64 (w64 (Int.tdiv den3 g9))] (holds_box b13 23 [.int .i64 (w64 (Int.tdiv re1 g9)), .int .i64 (w64 (Int.tdiv im2 g9)), .int .i64 (w64 (Int.tdiv den3 g9))]) tyAgg_23 tySize_23) ?_
     refine JL.store 0 b4 0 23 (cl_23 zv_23) [.int .i64 (w64 (Int.tdiv re1 g9)), .int .i64 (w64 (Int.tdiv im2 g9)), .int .i64 (w64 (Int.tdiv den3 g9))] tySize_23 ?_
     refine JL.as (.int .i64 0) ?_
     refine JL.es [(6, .pointer (some ⟨b4, 0, none⟩)), (7, .int .i64 0)] ?_
     refine JQ.mask [At.box b4 23 [.int .i64 (w64 (Int.tdiv re1 g9)), .int .i64 (w64 (Int.tdiv im2 g9)), .int .i64 (w64 (Int.tdiv den3 g9))]] [true, false] ?_
     refine J.ret ?_
     obtain rfl := Option.some.inj H0
     exact JQ.done' (rs := [.cell 6 23, .tmp 7]) (vs := [.agg #[.int .i64 (w64 (Int.tdiv re1 g9)), .int .i64 (w64 (Int.tdiv im2 g9)), .int .i64 (w64 (Int.tdiv den3 g9))], .int .i64 0]) [] (.inr rfl) ⟨⟨b4, 0, _, _, by kernel_rfl, by kernel_rfl, holds_box b4 23 [.int .i64 (w64 (Int.tdiv re1 g9)), .int .i64 (w64 (Int.tdiv im2 g9)), .int .i64 (w64 (Int.tdiv den3 g9))], .inl ⟨tyAgg_23, tySize_23, rfl⟩⟩, by kernel_rfl, trivial⟩ (fun _ h => Heap.to (Heap.pick [] (by decide) h)) ⟨rfl, rfl⟩

theorem cx_Mul.ok (a1 : Cx) (b2 : Cx) (r : (Cx × Int)) (H0 : cx_Mul.f a1 b2 = some r) :
    Does Try.prog 44 [mv_23 a1, mv_23 b2].toArray [] [] false (fun v Δ => v = .tuple #[mv_23 r.1, .int .i64 r.2] ∧ Δ = []) := by
 refine Does.body (vs := [mv_23 a1, mv_23 b2]) Try.func44 rfl trivial trivial fun w S => ?_
 unfold cx_Mul.f at H0
 refine J.sr ?_
 refine JL.box (cl_23 a1) fun b3 => ?_
 refine JL.box (cl_23 b2) fun b4 => ?_
 refine JL.alloc (cl_23 zv_23) fun b5 => ?_
 refine JL.as (.int .i64 0) ?_
 refine JL.es [(2, .pointer (some ⟨b3, 0, none⟩)), (3, .pointer (some ⟨b4, 0, none⟩)), (4, .pointer (some ⟨b5, 0, none⟩))] ?_
 refine J.seq ?_
 refine J.sr ?_
 refine JL.val (mv_23 a1) (some 7) (yields_load_boxes 0 0 (cl_23 a1) (holds_box b3 23 (cl_23 a1)) tyAgg_23 tySize_23) ?_
 refine JL.val (mv_23 b2) (some 8) (yields_load_boxes 1 0 (cl_23 b2) (holds_box b4 23 (cl_23 b2)) tyAgg_23 tySize_23) ?_
 obtain ⟨t6, hc7, H0⟩ := bind_some H0
 refine JL.call [] [] [] (cx_check.ok a1 b2 _ hc7) trivial ?_
 rintro _ _ ⟨rfl, rfl⟩
 refine JL.as (.int .i64 t6) ?_
 refine JL.es [(2, .pointer (some ⟨b3, 0, none⟩)), (3, .pointer (some ⟨b4, 0, none⟩)), (4, .pointer (some ⟨b5, 0, none⟩)), (6, .int .i64 t6)] ?_
 refine J.sr ?_
 refine JL.mv (.int .i64 t6) ?_
 refine JL.pur (.bool (!decide (t6 = 0))) (some 11) ?_
 refine JL.es [(2, .pointer (some ⟨b3, 0, none⟩)), (3, .pointer (some ⟨b4, 0, none⟩)), (4, .pointer (some ⟨b5, 0, none⟩)), (6, .int .i64 t6), (11, .bool (!decide (t6 = 0)))] ?_
 rcases ite_cases H0 with ⟨h8, H0⟩ | ⟨h8, H0⟩
 · refine J.cond_true h8 ?_
   refine J.sr ?_
   refine JL.pur (mv_23 zv_23) (some 12) ?_
   refine JL.mv (.int .i64 t6) ?_
   refine JL.store 2 b5 0 23 (cl_23 zv_23) (cl_23 zv_23) tySize_23 ?_
   refine JL.as (.int .i64 t6) ?_
   refine JL.es [(4, .pointer (some ⟨b5, 0, none⟩)), (5, .int .i64 t6)] ?_
   refine JQ.mask [At.box b5 23 (cl_23 zv_23)] [false, false, true] ?_
   refine J.ret ?_
   refine JQ.then_ret ?_
   obtain rfl := Option.some.inj H0
   exact JQ.done' (rs := [.cell 4 23, .tmp 5]) (vs := [.agg #[.int .i64 0, .int .i64 0, .int .i64 0], .int .i64 t6]) [] (.inr rfl) ⟨⟨b5, 0, _, _, by kernel_rfl, by kernel_rfl, holds_box b5 23 (cl_23 zv_23), .inl ⟨tyAgg_23, tySize_23, rfl⟩⟩, by kernel_rfl, trivial⟩ (fun _ h => Heap.to (Heap.pick [] (by decide) h)) ⟨rfl, rfl⟩
 · refine J.cond_false h8 ?_
   refine J.skip ?_
   refine JQ.ts [(2, .pointer (some ⟨b3, 0, none⟩)), (3, .pointer (some ⟨b4, 0, none⟩)), (4, .pointer (some ⟨b5, 0, none⟩))] ?_
   refine J.sr ?_
   refine JL.pur (.pointer (some ⟨b3, 0, none⟩)) (some 14) ?_
   refine JL.val (.int .i64 a1.Re) (some 15) (yields_load_box 0 0 (holds_box b3 23 (cl_23 a1)) tyAgg_2) ?_
   refine JL.pur (.pointer (some ⟨b4, 0, none⟩)) (some 16) ?_
   refine JL.val (.int .i64 b2.Re) (some 17) (yields_load_box 1 0 (holds_box b4 23 (cl_23 b2)) tyAgg_2) ?_
   refine JL.pur (.int .i64 (w64 (a1.Re * b2.Re))) (some 18) ?_
   refine JL.pur (.pointer (some ⟨b3, 1, none⟩)) (some 19) ?_
   refine JL.val (.int .i64 a1.Im) (some 20) (yields_load_box 0 1 (holds_box b3 23 (cl_23 a1)) tyAgg_2) ?_
   refine JL.pur (.pointer (some ⟨b4, 1, none⟩)) (some 21) ?_
   refine JL.val (.int .i64 b2.Im) (some 22) (yields_load_box 1 1 (holds_box b4 23 (cl_23 b2)) tyAgg_2) ?_
   refine JL.pur (.int .i64 (w64 (a1.Im * b2.Im))) (some 23) ?_
   refine JL.pur (.int .i64 (w64 ((w64 (a1.Re * b2.Re)) - (w64 (a1.Im * b2.Im))))) (some 24) ?_
   refine JL.pur (.pointer (some ⟨b3, 0, none⟩)) (some 25) ?_
   refine JL.val (.int .i64 a1.Re) (some 26) (yields_load_box 0 0 (holds_box b3 23 (cl_23 a1)) tyAgg_2) ?_
   refine JL.pur (.pointer (some ⟨b4, 1, none⟩)) (some 27) ?_
   refine JL.val (.int .i64 b2.Im) (some 28) (yields_load_box 1 1 (holds_box b4 23 (cl_23 b2)) tyAgg_2) ?_
   refine JL.pur (.int .i64 (w64 (a1.Re * b2.Im))) (some 29) ?_
   refine JL.pur (.pointer (some ⟨b3, 1, none⟩)) (some 30) ?_
   refine JL.val (.int .i64 a1.Im) (some 31) (yields_load_box 0 1 (holds_box b3 23 (cl_23 a1)) tyAgg_2) ?_
   refine JL.pur (.pointer (some ⟨b4, 0, none⟩)) (some 32) ?_
   refine JL.val (.int .i64 b2.Re) (some 33) (yields_load_box 1 0 (holds_box b4 23 (cl_23 b2)) tyAgg_2) ?_
   refine JL.pur (.int .i64 (w64 (a1.Im * b2.Re))) (some 34) ?_
   refine JL.pur (.int .i64 (w64 ((w64 (a1.Re * b2.Im)) + (w64 (a1.Im * b2.Re))))) (some 35) ?_
   refine JL.pur (.pointer (some ⟨b3, 2, none⟩)) (some 36) ?_
   refine JL.val (.int .i64 a1.Den) (some 37) (yields_load_box 0 2 (holds_box b3 23 (cl_23 a1)) tyAgg_2) ?_
   refine JL.pur (.pointer (some ⟨b4, 2, none⟩)) (some 38) ?_
   refine JL.val (.int .i64 b2.Den) (some 39) (yields_load_box 1 2 (holds_box b4 23 (cl_23 b2)) tyAgg_2) ?_
   refine JL.pur (.int .i64 (w64 (a1.Den * b2.Den))) (some 40) ?_
   obtain ⟨t9, hc10, H0⟩ := bind_some H0
   refine JL.call [] [] [] (cx_reduced.ok (w64 ((w64 (a1.Re * b2.Re)) - (w64 (a1.Im * b2.Im)))) (w64 ((w64 (a1.Re * b2.Im)) + (w64 (a1.Im * b2.Re)))) (w64 (a1.Den * b2.Den)) _ hc10) trivial ?_
   rintro _ _ ⟨rfl, rfl⟩
   refine JL.pur (mv_23 t9.1) (some 42) ?_
   refine JL.pur (.int .i64 t9.2) (some 43) ?_
   refine JL.store 2 b5 0 23 (cl_23 zv_23) (cl_23 t9.1) tySize_23 ?_
   refine JL.as (.int .i64 t9.2) ?_
   refine JL.es [(4, .pointer (some ⟨b5, 0, none⟩)), (5, .int .i64 t9.2)] ?_
   refine JQ.mask [At.box b5 23 (cl_23 t9.1)] [false, false, true] ?_
   refine J.ret ?_
   obtain rfl := Option.some.inj H0
   exact JQ.done' (rs := [.cell 4 23, .tmp 5]) (vs := [.agg #[.int .i64 t9.1.Re, .int .i64 t9.1.Im, .int .i64 t9.1.Den], .int .i64 t9.2]) [] (.inr rfl) ⟨⟨b5, 0, _, _, by kernel_rfl, by kernel_rfl, holds_box b5 23 (cl_23 t9.1), .inl ⟨tyAgg_23, tySize_23, rfl⟩⟩, by kernel_rfl, trivial⟩ (fun _ h => Heap.to (Heap.pick [] (by decide) h)) ⟨rfl, rfl⟩

theorem cx_Turn.ok (a1 : Cx) (quarters2 : Int) (r : (Cx × Int)) (H0 : cx_Turn.f a1 quarters2 = some r) :
    Does Try.prog 45 [mv_23 a1, .int .i64 quarters2].toArray [] [] false (fun v Δ => v = .tuple #[mv_23 r.1, .int .i64 r.2] ∧ Δ = []) := by
 refine Does.body (vs := [mv_23 a1, .int .i64 quarters2]) Try.func45 rfl trivial trivial fun w S => ?_
 unfold cx_Turn.f at H0
 refine J.sr ?_
 refine JL.box (cl_23 a1) fun b3 => ?_
 refine JL.alloc (cl_23 zv_23) fun b4 => ?_
 refine JL.as (.int .i64 0) ?_
 refine JL.es [(1, .int .i64 quarters2), (2, .pointer (some ⟨b3, 0, none⟩)), (4, .pointer (some ⟨b4, 0, none⟩))] ?_
 refine J.seq ?_
 refine J.sr ?_
 refine JL.val (mv_23 a1) (some 7) (yields_load_boxes 0 0 (cl_23 a1) (holds_box b3 23 (cl_23 a1)) tyAgg_23 tySize_23) ?_
 obtain ⟨t5, hc6, H0⟩ := bind_some H0
 refine JL.call [] [] [] (cx_Check.ok a1 _ hc6) trivial ?_
 rintro _ _ ⟨rfl, rfl⟩
 refine JL.as (.int .i64 t5) ?_
 refine JL.es [(1, .int .i64 quarters2), (2, .pointer (some ⟨b3, 0, none⟩)), (4, .pointer (some ⟨b4, 0, none⟩)), (6, .int .i64 t5)] ?_
 refine J.sr ?_
 refine JL.mv (.int .i64 t5) ?_
 refine JL.pur (.bool (!decide (t5 = 0))) (some 10) ?_
 refine JL.es [(1, .int .i64 quarters2), (2, .pointer (some ⟨b3, 0, none⟩)), (4, .pointer (some ⟨b4, 0, none⟩)), (6, .int .i64 t5), (10, .bool (!decide (t5 = 0)))] ?_
 rcases ite_cases H0 with ⟨h7, H0⟩ | ⟨h7, H0⟩
 · refine J.cond_true h7 ?_
   refine J.sr ?_
   refine JL.pur (mv_23 zv_23) (some 11) ?_
   refine JL.mv (.int .i64 t5) ?_
   refine JL.store 1 b4 0 23 (cl_23 zv_23) (cl_23 zv_23) tySize_23 ?_
   refine JL.as (.int .i64 t5) ?_
   refine JL.es [(4, .pointer (some ⟨b4, 0, none⟩)), (5, .int .i64 t5)] ?_
   refine JQ.mask [At.box b4 23 (cl_23 zv_23)] [false, true] ?_
   refine J.ret ?_
   refine JQ.then_ret ?_
   obtain rfl := Option.some.inj H0
   exact JQ.done' (rs := [.cell 4 23, .tmp 5]) (vs := [.agg #[.int .i64 0, .int .i64 0, .int .i64 0], .int .i64 t5]) [] (.inr rfl) ⟨⟨b4, 0, _, _, by kernel_rfl, by kernel_rfl, holds_box b4 23 (cl_23 zv_23), .inl ⟨tyAgg_23, tySize_23, rfl⟩⟩, by kernel_rfl, trivial⟩ (fun _ h => Heap.to (Heap.pick [] (by decide) h)) ⟨rfl, rfl⟩
 · refine J.cond_false h7 ?_
   refine J.skip ?_
   refine JQ.ts [(1, .int .i64 quarters2), (2, .pointer (some ⟨b3, 0, none⟩)), (4, .pointer (some ⟨b4, 0, none⟩))] ?_
   refine J.join (T := Cx) (G := Unit) (fun t => cx_Turn.k1 t = some r) (fun t g => [(2, .pointer (some ⟨b3, 0, none⟩)), (4, .pointer (some ⟨b4, 0, none⟩))]) (fun t g => [At.box b3 23 (cl_23 t), At.box b4 23 (cl_23 zv_23)]) ?_ ?_
   · refine J.sr ?_
     refine JL.mv (.int .i64 quarters2) ?_
     refine JL.pur (.int .i64 (gand .i64 quarters2 3)) (some 14) ?_
     refine JL.es [(2, .pointer (some ⟨b3, 0, none⟩)), (4, .pointer (some ⟨b4, 0, none⟩)), (14, .int .i64 (gand .i64 quarters2 3))] ?_
     refine J.block ?_
     refine J.sr ?_
     refine JL.pur (.bool (decide (gand .i64 quarters2 3 = 1))) (some 16) ?_
     refine JL.as (.bool (decide (gand .i64 quarters2 3 = 1))) ?_
     refine JL.es [(2, .pointer (some ⟨b3, 0, none⟩)), (4, .pointer (some ⟨b4, 0, none⟩)), (14, .int .i64 (gand .i64 quarters2 3)), (15, .bool (decide (gand .i64 quarters2 3 = 1)))] ?_
     rcases ite_cases H0 with ⟨h12, H0⟩ | ⟨h12, H0⟩
     · refine J.cond_true h12 ?_
       refine J.region ?_
       refine JL.pur (.pointer (some ⟨b3, 1, none⟩)) (some 17) ?_
       refine JL.val (.int .i64 a1.Im) (some 18) (yields_load_box 0 1 (holds_box b3 23 (cl_23 a1)) tyAgg_2) ?_
       refine JL.pur (.int .i64 (w64 (0 - a1.Im))) (some 19) ?_
       refine JL.pur (.pointer (some ⟨b3, 0, none⟩)) (some 20) ?_
       refine JL.val (.int .i64 a1.Re) (some 21) (yields_load_box 0 0 (holds_box b3 23 (cl_23 a1)) tyAgg_2) ?_
       refine JL.pur (.pointer (some ⟨b3, 0, none⟩)) (some 22) ?_
       refine JL.store 0 b3 0 23 (cl_23 a1) [.int .i64 (w64 (0 - a1.Im)), .int .i64 a1.Im, .int .i64 a1.Den] tySize_2 ?_
       refine JL.pur (.pointer (some ⟨b3, 1, none⟩)) (some 23) ?_
       refine JL.store 0 b3 1 23 [.int .i64 (w64 (0 - a1.Im)), .int .i64 a1.Im, .int .i64 a1.Den] [.int .i64 (w64 (0 - a1.Im)), .int .i64 a1.Re, .int .i64 a1.Den] tySize_2 ?_
       refine JL.end_ ?_
       refine JQ.blk_normal ?_
       refine JQ.then_normal ?_
       exact JQ.meet (⟨(w64 (0 - a1.Im)), a1.Re, a1.Den⟩ : Cx) () H0 (fun _ h => Heap.to h)
     · refine J.cond_false h12 ?_
       refine J.sr ?_
       refine JL.pur (.bool (decide (gand .i64 quarters2 3 = 2))) (some 25) ?_
       refine JL.as (.bool (decide (gand .i64 quarters2 3 = 2))) ?_
       refine JL.es [(2, .pointer (some ⟨b3, 0, none⟩)), (4, .pointer (some ⟨b4, 0, none⟩)), (14, .int .i64 (gand .i64 quarters2 3)), (24, .bool (decide (gand .i64 quarters2 3 = 2)))] ?_
       rcases ite_cases H0 with ⟨h13, H0⟩ | ⟨h13, H0⟩
       · refine J.cond_true h13 ?_
         refine J.region ?_
         refine JL.pur (.pointer (some ⟨b3, 0, none⟩)) (some 26) ?_
         refine JL.val (.int .i64 a1.Re) (some 27) (yields_load_box 0 0 (holds_box b3 23 (cl_23 a1)) tyAgg_2) ?_
         refine JL.pur (.int .i64 (w64 (0 - a1.Re))) (some 28) ?_
         refine JL.pur (.pointer (some ⟨b3, 1, none⟩)) (some 29) ?_
         refine JL.val (.int .i64 a1.Im) (some 30) (yields_load_box 0 1 (holds_box b3 23 (cl_23 a1)) tyAgg_2) ?_
         refine JL.pur (.int .i64 (w64 (0 - a1.Im))) (some 31) ?_
         refine JL.pur (.pointer (some ⟨b3, 0, none⟩)) (some 32) ?_
         refine JL.store 0 b3 0 23 (cl_23 a1) [.int .i64 (w64 (0 - a1.Re)), .int .i64 a1.Im, .int .i64 a1.Den] tySize_2 ?_
         refine JL.pur (.pointer (some ⟨b3, 1, none⟩)) (some 33) ?_
         refine JL.store 0 b3 1 23 [.int .i64 (w64 (0 - a1.Re)), .int .i64 a1.Im, .int .i64 a1.Den] [.int .i64 (w64 (0 - a1.Re)), .int .i64 (w64 (0 - a1.Im)), .int .i64 a1.Den] tySize_2 ?_
         refine JL.end_ ?_
         refine JQ.blk_normal ?_
         refine JQ.then_normal ?_
         exact JQ.meet (⟨(w64 (0 - a1.Re)), (w64 (0 - a1.Im)), a1.Den⟩ : Cx) () H0 (fun _ h => Heap.to h)
       · refine J.cond_false h13 ?_
         refine J.sr ?_
         refine JL.pur (.bool (decide (gand .i64 quarters2 3 = 3))) (some 35) ?_
         refine JL.as (.bool (decide (gand .i64 quarters2 3 = 3))) ?_
         refine JL.es [(2, .pointer (some ⟨b3, 0, none⟩)), (4, .pointer (some ⟨b4, 0, none⟩)), (34, .bool (decide (gand .i64 quarters2 3 = 3)))] ?_
         rcases ite_cases H0 with ⟨h14, H0⟩ | ⟨h14, H0⟩
         · refine J.cond_true h14 ?_
           refine J.region ?_
           refine JL.pur (.pointer (some ⟨b3, 1, none⟩)) (some 36) ?_
           refine JL.val (.int .i64 a1.Im) (some 37) (yields_load_box 0 1 (holds_box b3 23 (cl_23 a1)) tyAgg_2) ?_
           refine JL.pur (.pointer (some ⟨b3, 0, none⟩)) (some 38) ?_
           refine JL.val (.int .i64 a1.Re) (some 39) (yields_load_box 0 0 (holds_box b3 23 (cl_23 a1)) tyAgg_2) ?_
           refine JL.pur (.int .i64 (w64 (0 - a1.Re))) (some 40) ?_
           refine JL.pur (.pointer (some ⟨b3, 0, none⟩)) (some 41) ?_
           refine JL.store 0 b3 0 23 (cl_23 a1) [.int .i64 a1.Im, .int .i64 a1.Im, .int .i64 a1.Den] tySize_2 ?_
           refine JL.pur (.pointer (some ⟨b3, 1, none⟩)) (some 42) ?_
           refine JL.store 0 b3 1 23 [.int .i64 a1.Im, .int .i64 a1.Im, .int .i64 a1.Den] [.int .i64 a1.Im, .int .i64 (w64 (0 - a1.Re)), .int .i64 a1.Den] tySize_2 ?_
           refine JL.end_ ?_
           refine JQ.blk_normal ?_
           refine JQ.then_normal ?_
           exact JQ.meet (⟨a1.Im, (w64 (0 - a1.Re)), a1.Den⟩ : Cx) () H0 (fun _ h => Heap.to h)
         · refine J.cond_false h14 ?_
           refine J.skip ?_
           refine JQ.blk_normal ?_
           refine JQ.then_normal ?_
           exact JQ.meet a1 () H0 (fun _ h => Heap.to h)
   · clear H0
     rintro a11 ⟨⟩ H0
     replace H0 : cx_Turn.k1 a11 = some r := H0
     unfold cx_Turn.k1 at H0
     refine JQ.sub [(2, .pointer (some ⟨b3, 0, none⟩)), (4, .pointer (some ⟨b4, 0, none⟩))] ?_
     refine JQ.turn (Δ' := [At.box b3 23 (cl_23 a11), At.box b4 23 (cl_23 zv_23)]) (fun _ h => h.to) ?_
     refine J.sr ?_
     refine JL.val (mv_23 a11) (some 43) (yields_load_boxes 0 0 (cl_23 a11) (holds_box b3 23 (cl_23 a11)) tyAgg_23 tySize_23) ?_
     refine JL.store 1 b4 0 23 (cl_23 zv_23) (cl_23 a11) tySize_23 ?_
     refine JL.as (.int .i64 0) ?_
     refine JL.es [(4, .pointer (some ⟨b4, 0, none⟩)), (5, .int .i64 0)] ?_
     refine JQ.mask [At.box b4 23 (cl_23 a11)] [false, true] ?_
     refine J.ret ?_
     obtain rfl := Option.some.inj H0
     exact JQ.done' (rs := [.cell 4 23, .tmp 5]) (vs := [.agg #[.int .i64 a11.Re, .int .i64 a11.Im, .int .i64 a11.Den], .int .i64 0]) [] (.inr rfl) ⟨⟨b4, 0, _, _, by kernel_rfl, by kernel_rfl, holds_box b4 23 (cl_23 a11), .inl ⟨tyAgg_23, tySize_23, rfl⟩⟩, by kernel_rfl, trivial⟩ (fun _ h => Heap.to (Heap.pick [] (by decide) h)) ⟨rfl, rfl⟩

theorem corrupt_table.ok (l1 : (List Spoil)) (Aa2 : Option Addr) (c3 : Nat) (time5 : Int) (r : ((List Cx) × Int)) (H0 : corrupt_table.f l1 time5 = some r) :
    Does Try.prog 26 [.slice Aa2 l1.length c3, .int .i64 time5].toArray [At.rd Aa2 c3 fl_Spoil.kd l1 true] [] false (fun v Δ => ∃ A1001 : Option Addr, ∃ c1001 : Nat, v = .tuple #[.slice A1001 r.1.length c1001, .int .i64 r.2] ∧ Δ = [At.row A1001 c1001 23 fl_Cx.kd r.1 false]) := by
 refine Does.body (vs := [.slice Aa2 l1.length c3, .int .i64 time5]) Try.func26 rfl ⟨.inl rfl, trivial⟩ trivial fun w S => ?_
 unfold corrupt_table.f at H0
 refine J.sr ?_
 refine JL.as (.slice none 0 0) ?_
 refine JL.as (.int .i64 0) ?_
 refine JL.es [(0, .slice Aa2 l1.length c3), (1, .int .i64 time5)] ?_
 refine J.sr ?_
 refine JL.pur (.agg #[.int .i64 1, .int .i64 0, .int .i64 1]) (some 11) ?_
 refine JL.buildSl 23 fl_Cx.kd (([(⟨1, 0, 1⟩ : Cx)] : List Cx) : List Cx) [.int .i64 1, .int .i64 0, .int .i64 1] false (closes_fl rfl) fun b6 => ?_
 obtain ⟨t7, hc8, H0⟩ := bind_some H0
 refine JL.call [] [] [] (slices_Repeat__api_Cx_api_Cx.ok ([(⟨1, 0, 1⟩ : Cx)] : List Cx) (some ⟨b6, 0, none⟩) 1 8 _ hc8) ⟨pre_view 1 (view_row (some ⟨b6, 0, none⟩) 1 23 fl_Cx.kd ([(⟨1, 0, 1⟩ : Cx)] : List Cx) false true), trivial⟩ ?_
 rintro _ _ ⟨Aa9, c10, rfl, rfl⟩
 refine JL.as (.slice Aa9 t7.length c10) ?_
 refine JL.es [(0, .slice Aa2 l1.length c3), (1, .int .i64 time5), (6, .slice Aa9 t7.length c10)] ?_
 refine JQ.mask [At.rd Aa2 c3 fl_Spoil.kd l1 true, At.row Aa9 c10 23 fl_Cx.kd t7 false] [true, false, true] ?_
 refine J.seq ?_
 refine J.sr ?_
 refine JL.mv (.slice Aa2 l1.length c3) ?_
 refine JL.pur (.int .i64 (l1.length : Int)) (some 15) ?_
 refine JL.mv (.int .i64 0) ?_
 refine JL.es [(1, .int .i64 time5), (6, .slice Aa9 t7.length c10), (14, .slice Aa2 l1.length c3), (15, .int .i64 (l1.length : Int)), (16, .int .i64 0)] ?_
 obtain ⟨o1, hit, H0⟩ := bind_some H0
 refine J.loop (σ := ((List Cx) × Int)) (τ := List Cx) (G := ((Option Addr) × Nat × (Option Addr) × Nat)) (G' := ((Option Addr) × Nat)) _ o1 (fun s g => [(1, .int .i64 time5), (6, .slice g.1 s.1.length g.2.1), (14, .slice g.2.2.1 l1.length g.2.2.2), (15, .int .i64 (l1.length : Int)), (16, .int .i64 s.2)]) (fun s g => [At.row g.1 g.2.1 23 fl_Cx.kd s.1 false, At.rd g.2.2.1 g.2.2.2 fl_Spoil.kd l1 true]) (fun t => corrupt_table.k17 t = some r) (fun t g => [(6, .slice g.1 t.length g.2)]) (fun t g => [At.row g.1 g.2 23 fl_Cx.kd t false]) (t7, 0) (Aa9, c10, Aa2, c3) hit (fun _ h => Heap.to (Heap.pick [1, 0] (by decide) h)) ?_ ?_
 · clear hit
   rintro ⟨g288, x295⟩ ⟨Aa289, c290, Aa292, c293⟩ st1 H1 hb1 hr1
   replace H1 : corrupt_table.s16 l1 time5 g288 x295 = some st1 := H1
   unfold corrupt_table.s16 at H1
   refine JQ.sub [(1, .int .i64 time5), (6, .slice Aa289 g288.length c290), (14, .slice Aa292 l1.length c293), (15, .int .i64 (l1.length : Int)), (16, .int .i64 x295)] ?_
   refine JQ.turn (Δ' := [At.row Aa289 c290 23 fl_Cx.kd g288 false, At.rd Aa292 c293 fl_Spoil.kd l1 true]) (fun _ h => h.to) ?_
   refine J.sr ?_
   refine JL.pur (.bool (decide (x295 < (l1.length : Int)))) (some 17) ?_
   refine JL.en ?_
   refine J.seq ?_
   rcases ite_cases H1 with ⟨h430, H1⟩ | ⟨h430, H1⟩
   · refine J.cond_true h430 ?_
     refine J.skip ?_
     refine JQ.ts [(1, .int .i64 time5), (6, .slice Aa289 g288.length c290), (14, .slice Aa292 l1.length c293), (15, .int .i64 (l1.length : Int)), (16, .int .i64 x295)] ?_
     refine J.join (T := List Cx) (G := ((Option Addr) × Nat × (Option Addr) × Nat)) (fun t => corrupt_table.k20 x295 t = some st1) (fun t g => [(1, .int .i64 time5), (6, .slice g.1 t.length g.2.1), (14, .slice g.2.2.1 l1.length g.2.2.2), (15, .int .i64 (l1.length : Int)), (16, .int .i64 x295)]) (fun t g => [At.row g.1 g.2.1 23 fl_Cx.kd t false, At.rd g.2.2.1 g.2.2.2 fl_Spoil.kd l1 true]) ?_ ?_
     · refine J.block ?_
       refine J.sr ?_
       obtain ⟨⟨h499, h500⟩, H1⟩ := ite_must H1
       refine JL.ixAddr 1 8 c293 .i64 (elems_rd Aa292 c293 fl_Spoil.kd l1 true) Try.underlying32 tySize_25 h499 h500 fun g501 o502 hA => ?_
       subst hA
       refine JL.val (mv_25 (ix l1 x295)) (some 19) (gives_loadEl (f := fl_Spoil) 1 0 x295 (elems_rd (some ⟨g501, o502, none⟩) c293 fl_Spoil.kd l1 true) h499 h500 tySize_25 (.inl ⟨tyAgg_25, rfl⟩)) ?_
       refine JL.alloc (cl_25 zv_25) fun b503 => ?_
       refine JL.store 2 b503 0 25 (cl_25 zv_25) (cl_25 (ix l1 x295)) tySize_25 ?_
       refine JL.es [(1, .int .i64 time5), (6, .slice Aa289 g288.length c290), (8, .pointer (some ⟨b503, 0, none⟩)), (14, .slice (some ⟨g501, o502, none⟩) l1.length c293), (15, .int .i64 (l1.length : Int)), (16, .int .i64 x295)] ?_
       refine J.seq ?_
       refine J.join (T := Bool) (G := Unit) (fun t => corrupt_table.k21 l1 time5 g288 x295 t = some st1) (fun t g => [(1, .int .i64 time5), (6, .slice Aa289 g288.length c290), (8, .pointer (some ⟨b503, 0, none⟩)), (14, .slice (some ⟨g501, o502, none⟩) l1.length c293), (15, .int .i64 (l1.length : Int)), (16, .int .i64 x295), (29, .bool t)]) (fun t g => [At.row Aa289 c290 23 fl_Cx.kd g288 false, At.box b503 25 (cl_25 (ix l1 x295)), At.rd (some ⟨g501, o502, none⟩) c293 fl_Spoil.kd l1 true]) ?_ ?_
       · refine J.region ?_
         refine JL.mv (.int .i64 time5) ?_
         refine JL.pur (.pointer (some ⟨b503, 2, none⟩)) (some 21) ?_
         refine JL.val (.int .i64 ((ix l1 x295).From)) (some 22) (yields_load_box 2 2 (holds_box b503 25 (cl_25 (ix l1 x295))) tyAgg_3) ?_
         refine JL.pur (.bool (decide (time5 < (ix l1 x295).From))) (some 23) ?_
         refine JL.mv (.bool (decide (time5 < (ix l1 x295).From))) ?_
         rcases ite_cases H1 with ⟨h559, H1⟩ | ⟨h559, H1⟩
         · refine JL.off 4 24 false (some 25) h559 ?_
           refine JL.off 4 24 false (some 26) h559 ?_
           refine JL.off 4 24 false (some 27) h559 ?_
           refine JL.off 4 24 false (some 28) h559 ?_
           refine JL.val (.bool true) (some 29) (gives_pickT h559) ?_
           refine JL.en ?_
           exact JQ.meet true () H1 (fun _ h => Heap.to (Heap.pick [0, 2, 1] (by decide) h))
         · refine JL.on 4 24 h559 ?_
           refine JL.mv (.int .i64 time5) ?_
           refine JL.on 4 24 h559 ?_
           refine JL.pur (.pointer (some ⟨b503, 3, none⟩)) (some 26) ?_
           refine JL.on 4 24 h559 ?_
           refine JL.val (.int .i64 ((ix l1 x295).To)) (some 27) (yields_load_box 2 3 (holds_box b503 25 (cl_25 (ix l1 x295))) tyAgg_3) ?_
           refine JL.on 4 24 h559 ?_
           refine JL.pur (.bool (decide ((ix l1 x295).To ≤ time5))) (some 28) ?_
           refine JL.val (.bool (decide ((ix l1 x295).To ≤ time5))) (some 29) (gives_pickF h559) ?_
           refine JL.en ?_
           exact JQ.meet (decide ((ix l1 x295).To ≤ time5)) () H1 (fun _ h => Heap.to (Heap.pick [0, 2, 1] (by decide) h))
       · clear H1
         rintro x505 ⟨⟩ H1
         replace H1 : corrupt_table.k21 l1 time5 g288 x295 x505 = some st1 := H1
         unfold corrupt_table.k21 at H1
         refine JQ.sub [(1, .int .i64 time5), (6, .slice Aa289 g288.length c290), (8, .pointer (some ⟨b503, 0, none⟩)), (14, .slice (some ⟨g501, o502, none⟩) l1.length c293), (15, .int .i64 (l1.length : Int)), (16, .int .i64 x295), (29, .bool x505)] ?_
         refine JQ.turn (Δ' := [At.row Aa289 c290 23 fl_Cx.kd g288 false, At.box b503 25 (cl_25 (ix l1 x295)), At.rd (some ⟨g501, o502, none⟩) c293 fl_Spoil.kd l1 true]) (fun _ h => h.to) ?_
         rcases ite_cases H1 with ⟨h506, H1⟩ | ⟨h506, H1⟩
         · refine J.cond_true h506 ?_
           refine J.exit ?_
           refine JQ.then_exit ?_
           refine JQ.blk_exit ?_
           refine JQ.then_normal ?_
           exact JQ.meet g288 (Aa289, c290, (some ⟨g501, o502, none⟩), c293) H1 (fun _ h => Heap.to (Heap.pick [0, 2] (by decide) h))
         · refine J.cond_false h506 ?_
           refine J.skip ?_
           refine JQ.ts [(1, .int .i64 time5), (6, .slice Aa289 g288.length c290), (8, .pointer (some ⟨b503, 0, none⟩)), (14, .slice (some ⟨g501, o502, none⟩) l1.length c293), (15, .int .i64 (l1.length : Int)), (16, .int .i64 x295)] ?_
           refine J.sr ?_
           refine JL.as (.int .i64 0) ?_
           refine JL.en ?_
           refine J.sr ?_
           refine JL.mv (.slice Aa289 g288.length c290) ?_
           refine JL.pur (.pointer (some ⟨b503, 1, none⟩)) (some 31) ?_
           refine JL.val (.int .i64 ((ix l1 x295).Station)) (some 32) (yields_load_box 1 1 (holds_box b503 25 (cl_25 (ix l1 x295))) tyAgg_3) ?_
           obtain ⟨⟨h507, h508⟩, H1⟩ := ite_must H1
           refine JL.ixAddr 0 3 c290 .i64 (elems_row Aa289 c290 23 fl_Cx.kd g288 false) Try.underlying28 tySize_23 h507 h508 fun g509 o510 hA => ?_
           subst hA
           refine JL.as (.pointer (some ⟨g509, o510 + ((ix l1 x295).Station).toNat * 3, none⟩)) ?_
           refine JL.es [(1, .int .i64 time5), (6, .slice (some ⟨g509, o510, none⟩) g288.length c290), (8, .pointer (some ⟨b503, 0, none⟩)), (9, .int .i64 0), (10, .pointer (some ⟨g509, o510 + ((ix l1 x295).Station).toNat * 3, none⟩)), (14, .slice (some ⟨g501, o502, none⟩) l1.length c293), (15, .int .i64 (l1.length : Int)), (16, .int .i64 x295)] ?_
           refine J.join (T := ((List Cx) × Int)) (G := ((Option Addr) × Nat)) (fun t => corrupt_table.k22 x295 t.1 t.2 = some st1) (fun t g => [(1, .int .i64 time5), (6, .slice g.1 t.1.length g.2), (9, .int .i64 t.2), (14, .slice (some ⟨g501, o502, none⟩) l1.length c293), (15, .int .i64 (l1.length : Int)), (16, .int .i64 x295)]) (fun t g => [At.row g.1 g.2 23 fl_Cx.kd t.1 false, At.rd (some ⟨g501, o502, none⟩) c293 fl_Spoil.kd l1 true]) ?_ ?_
           · refine J.sr ?_
             refine JL.pur (.pointer (some ⟨b503, 0, none⟩)) (some 34) ?_
             refine JL.val (.int .u8 ((ix l1 x295).Kind)) (some 35) (yields_load_box 1 0 (holds_box b503 25 (cl_25 (ix l1 x295))) tyAgg_5) ?_
             refine JL.es [(1, .int .i64 time5), (6, .slice (some ⟨g509, o510, none⟩) g288.length c290), (8, .pointer (some ⟨b503, 0, none⟩)), (9, .int .i64 0), (10, .pointer (some ⟨g509, o510 + ((ix l1 x295).Station).toNat * 3, none⟩)), (14, .slice (some ⟨g501, o502, none⟩) l1.length c293), (15, .int .i64 (l1.length : Int)), (16, .int .i64 x295), (35, .int .u8 ((ix l1 x295).Kind))] ?_
             refine J.block ?_
             refine J.sr ?_
             refine JL.pur (.bool (decide ((ix l1 x295).Kind = 1))) (some 37) ?_
             refine JL.as (.bool (decide ((ix l1 x295).Kind = 1))) ?_
             refine JL.es [(1, .int .i64 time5), (6, .slice (some ⟨g509, o510, none⟩) g288.length c290), (8, .pointer (some ⟨b503, 0, none⟩)), (9, .int .i64 0), (10, .pointer (some ⟨g509, o510 + ((ix l1 x295).Station).toNat * 3, none⟩)), (14, .slice (some ⟨g501, o502, none⟩) l1.length c293), (15, .int .i64 (l1.length : Int)), (16, .int .i64 x295), (35, .int .u8 ((ix l1 x295).Kind)), (36, .bool (decide ((ix l1 x295).Kind = 1)))] ?_
             rcases ite_cases H1 with ⟨h538, H1⟩ | ⟨h538, H1⟩
             · refine J.cond_true h538 ?_
               obtain ⟨t539, hc540, H1⟩ := bind_some H1
               obtain ⟨l541, el541, H1⟩ := lt_some H1
               refine JY.start [11] (ba 13 0) ?_
               refine JY.pur (hi := rfl) 0 (ba 13 1) (.pointer (some ⟨g509, o510 + ((ix l1 x295).Station).toNat * 3, none⟩)) (some 39) want ?_
               refine JY.pur (hi := rfl) 1 (ba 13 3) (.pointer (some ⟨g509, o510 + ((ix l1 x295).Station).toNat * 3, none⟩)) (some 40) want ?_
               refine JY.pur (hi := rfl) 2 (ba 13 7) (.pointer (some ⟨g509, o510 + ((ix l1 x295).Station).toNat * 3, none⟩)) (some 41) want ?_
               refine JY.take (hi := rfl) 3 (ba 13 15) (mv_23 (ix g288 ((ix l1 x295).Station))) (some 42) [true, true, true] want (gives_loadEl (f := fl_Cx) 0 0 ((ix l1 x295).Station) (elems_row (some ⟨g509, o510, none⟩) c290 23 fl_Cx.kd g288 false) h507 h508 tySize_23 (.inl ⟨tyAgg_23, rfl⟩)) ?_
               refine JY.pur (hi := rfl) 4 (ba 13 31) (.pointer (some ⟨b503, 4, none⟩)) (some 43) want ?_
               refine JY.take (hi := rfl) 5 (ba 13 63) (mv_23 ((ix l1 x295).V)) (some 44) [true, true, true] want (yields_load_boxes 1 4 (cl_23 ((ix l1 x295).V)) (holds_box b503 25 (cl_25 (ix l1 x295))) tyAgg_23 tySize_23) ?_
               refine JY.all [6] ⟨⟨_, rfl, ?_⟩, trivial⟩
               refine JL.call [] [] [] (cx_Mul.ok (ix g288 ((ix l1 x295).Station)) ((ix l1 x295).V) _ hc540) trivial ?_
               rintro _ _ ⟨rfl, rfl⟩
               refine JL.nil ?_
               refine JY.ran (ba 13 127) [true, true, true] ?_
               refine JY.pur (hi := rfl) 7 (ba 13 255) (.tuple #[mv_23 t539.1, .int .i64 t539.2]) (some 38) want ?_
               refine JY.pur (hi := rfl) 8 (ba 13 511) (mv_23 t539.1) (some 46) want ?_
               refine JY.pur (hi := rfl) 9 (ba 13 1023) (.int .i64 t539.2) (some 47) want ?_
               refine JY.pur (hi := rfl) 10 (ba 13 2047) (.pointer (some ⟨g509, o510 + ((ix l1 x295).Station).toNat * 3, none⟩)) (some 48) want ?_
               refine JY.all [11] ⟨⟨_, rfl, ?_⟩, trivial⟩
               refine JL.storeEl (E := 23) g509 o510 0 c290 0 fl_Cx g288 ((ix l1 x295).Station) false t539.1 h507 h508 tySize_23 ?_
               have nl541 : g288.length = l541.length := by rw [← el541, List.length_set]
               rw [el541]
               refine JQ.len (fun n : Nat => [(1, .int .i64 time5), (6, .slice (some ⟨g509, o510, none⟩) n c290), (8, .pointer (some ⟨b503, 0, none⟩)), (9, .int .i64 0), (14, .slice (some ⟨g501, o502, none⟩) l1.length c293), (15, .int .i64 (l1.length : Int)), (16, .int .i64 x295), (35, .int .u8 ((ix l1 x295).Kind)), (36, .bool (decide ((ix l1 x295).Kind = 1))), (38, .tuple #[mv_23 t539.1, .int .i64 t539.2]), (42, mv_23 (ix g288 ((ix l1 x295).Station))), (43, .pointer (some ⟨b503, 4, none⟩)), (44, mv_23 ((ix l1 x295).V)), (45, .tuple #[mv_23 t539.1, .int .i64 t539.2]), (46, mv_23 t539.1), (47, .int .i64 t539.2)]) nl541 ?_
               refine JQ.sub [(1, .int .i64 time5), (6, .slice (some ⟨g509, o510, none⟩) l541.length c290), (8, .pointer (some ⟨b503, 0, none⟩)), (9, .int .i64 0), (14, .slice (some ⟨g501, o502, none⟩) l1.length c293), (15, .int .i64 (l1.length : Int)), (16, .int .i64 x295), (35, .int .u8 ((ix l1 x295).Kind)), (36, .bool (decide ((ix l1 x295).Kind = 1))), (38, .tuple #[mv_23 t539.1, .int .i64 t539.2]), (42, mv_23 (ix g288 ((ix l1 x295).Station))), (43, .pointer (some ⟨b503, 4, none⟩)), (44, mv_23 ((ix l1 x295).V)), (45, .tuple #[mv_23 t539.1, .int .i64 t539.2]), (46, mv_23 t539.1), (47, .int .i64 t539.2)] ?_
               refine JL.nil ?_
               refine JY.ranD (ba 13 4095) ?_
               refine JY.pur (hi := rfl) 12 (ba 13 8191) (.int .i64 t539.2) (some 9) want ?_
               refine JY.done ?_
               refine JQ.blk_normal ?_
               refine JQ.then_normal ?_
               exact JQ.meet (l541, t539.2) ((some ⟨g509, o510, none⟩), c290) H1 (fun _ h => Heap.to (Heap.pick [0, 2] (by decide) h))
             · refine J.cond_false h538 ?_
               refine J.sr ?_
               refine JL.pur (.bool (decide ((ix l1 x295).Kind = 2))) (some 50) ?_
               refine JL.as (.bool (decide ((ix l1 x295).Kind = 2))) ?_
               refine JL.es [(1, .int .i64 time5), (6, .slice (some ⟨g509, o510, none⟩) g288.length c290), (8, .pointer (some ⟨b503, 0, none⟩)), (9, .int .i64 0), (10, .pointer (some ⟨g509, o510 + ((ix l1 x295).Station).toNat * 3, none⟩)), (14, .slice (some ⟨g501, o502, none⟩) l1.length c293), (15, .int .i64 (l1.length : Int)), (16, .int .i64 x295), (35, .int .u8 ((ix l1 x295).Kind)), (49, .bool (decide ((ix l1 x295).Kind = 2)))] ?_
               rcases ite_cases H1 with ⟨h545, H1⟩ | ⟨h545, H1⟩
               · refine J.cond_true h545 ?_
                 obtain ⟨t546, hc547, H1⟩ := bind_some H1
                 obtain ⟨l548, el548, H1⟩ := lt_some H1
                 refine JY.start [11] (ba 13 0) ?_
                 refine JY.pur (hi := rfl) 0 (ba 13 1) (.pointer (some ⟨g509, o510 + ((ix l1 x295).Station).toNat * 3, none⟩)) (some 52) want ?_
                 refine JY.pur (hi := rfl) 1 (ba 13 3) (.pointer (some ⟨g509, o510 + ((ix l1 x295).Station).toNat * 3, none⟩)) (some 53) want ?_
                 refine JY.pur (hi := rfl) 2 (ba 13 7) (.pointer (some ⟨g509, o510 + ((ix l1 x295).Station).toNat * 3, none⟩)) (some 54) want ?_
                 refine JY.take (hi := rfl) 3 (ba 13 15) (mv_23 (ix g288 ((ix l1 x295).Station))) (some 55) [true, true, true] want (gives_loadEl (f := fl_Cx) 0 0 ((ix l1 x295).Station) (elems_row (some ⟨g509, o510, none⟩) c290 23 fl_Cx.kd g288 false) h507 h508 tySize_23 (.inl ⟨tyAgg_23, rfl⟩)) ?_
                 refine JY.pur (hi := rfl) 4 (ba 13 31) (.pointer (some ⟨b503, 7, none⟩)) (some 56) want ?_
                 refine JY.take (hi := rfl) 5 (ba 13 63) (.int .i64 ((ix l1 x295).Q)) (some 57) [true, true, true] want (yields_load_box 1 7 (holds_box b503 25 (cl_25 (ix l1 x295))) tyAgg_3) ?_
                 refine JY.all [6] ⟨⟨_, rfl, ?_⟩, trivial⟩
                 refine JL.call [] [] [] (cx_Turn.ok (ix g288 ((ix l1 x295).Station)) ((ix l1 x295).Q) _ hc547) trivial ?_
                 rintro _ _ ⟨rfl, rfl⟩
                 refine JL.nil ?_
                 refine JY.ran (ba 13 127) [true, true, true] ?_
                 refine JY.pur (hi := rfl) 7 (ba 13 255) (.tuple #[mv_23 t546.1, .int .i64 t546.2]) (some 51) want ?_
                 refine JY.pur (hi := rfl) 8 (ba 13 511) (mv_23 t546.1) (some 59) want ?_
                 refine JY.pur (hi := rfl) 9 (ba 13 1023) (.int .i64 t546.2) (some 60) want ?_
                 refine JY.pur (hi := rfl) 10 (ba 13 2047) (.pointer (some ⟨g509, o510 + ((ix l1 x295).Station).toNat * 3, none⟩)) (some 61) want ?_
                 refine JY.all [11] ⟨⟨_, rfl, ?_⟩, trivial⟩
                 refine JL.storeEl (E := 23) g509 o510 0 c290 0 fl_Cx g288 ((ix l1 x295).Station) false t546.1 h507 h508 tySize_23 ?_
                 have nl548 : g288.length = l548.length := by rw [← el548, List.length_set]
                 rw [el548]
                 refine JQ.len (fun n : Nat => [(1, .int .i64 time5), (6, .slice (some ⟨g509, o510, none⟩) n c290), (8, .pointer (some ⟨b503, 0, none⟩)), (9, .int .i64 0), (14, .slice (some ⟨g501, o502, none⟩) l1.length c293), (15, .int .i64 (l1.length : Int)), (16, .int .i64 x295), (35, .int .u8 ((ix l1 x295).Kind)), (49, .bool (decide ((ix l1 x295).Kind = 2))), (51, .tuple #[mv_23 t546.1, .int .i64 t546.2]), (55, mv_23 (ix g288 ((ix l1 x295).Station))), (56, .pointer (some ⟨b503, 7, none⟩)), (57, .int .i64 ((ix l1 x295).Q)), (58, .tuple #[mv_23 t546.1, .int .i64 t546.2]), (59, mv_23 t546.1), (60, .int .i64 t546.2)]) nl548 ?_
                 refine JQ.sub [(1, .int .i64 time5), (6, .slice (some ⟨g509, o510, none⟩) l548.length c290), (8, .pointer (some ⟨b503, 0, none⟩)), (9, .int .i64 0), (14, .slice (some ⟨g501, o502, none⟩) l1.length c293), (15, .int .i64 (l1.length : Int)), (16, .int .i64 x295), (35, .int .u8 ((ix l1 x295).Kind)), (49, .bool (decide ((ix l1 x295).Kind = 2))), (51, .tuple #[mv_23 t546.1, .int .i64 t546.2]), (55, mv_23 (ix g288 ((ix l1 x295).Station))), (56, .pointer (some ⟨b503, 7, none⟩)), (57, .int .i64 ((ix l1 x295).Q)), (58, .tuple #[mv_23 t546.1, .int .i64 t546.2]), (59, mv_23 t546.1), (60, .int .i64 t546.2)] ?_
                 refine JL.nil ?_
                 refine JY.ranD (ba 13 4095) ?_
                 refine JY.pur (hi := rfl) 12 (ba 13 8191) (.int .i64 t546.2) (some 9) want ?_
                 refine JY.done ?_
                 refine JQ.blk_normal ?_
                 refine JQ.then_normal ?_
                 exact JQ.meet (l548, t546.2) ((some ⟨g509, o510, none⟩), c290) H1 (fun _ h => Heap.to (Heap.pick [0, 2] (by decide) h))
               · refine J.cond_false h545 ?_
                 refine J.sr ?_
                 refine JL.pur (.bool (decide ((ix l1 x295).Kind = 3))) (some 63) ?_
                 refine JL.as (.bool (decide ((ix l1 x295).Kind = 3))) ?_
                 refine JL.es [(1, .int .i64 time5), (6, .slice (some ⟨g509, o510, none⟩) g288.length c290), (8, .pointer (some ⟨b503, 0, none⟩)), (9, .int .i64 0), (10, .pointer (some ⟨g509, o510 + ((ix l1 x295).Station).toNat * 3, none⟩)), (14, .slice (some ⟨g501, o502, none⟩) l1.length c293), (15, .int .i64 (l1.length : Int)), (16, .int .i64 x295), (62, .bool (decide ((ix l1 x295).Kind = 3)))] ?_
                 rcases ite_cases H1 with ⟨h552, H1⟩ | ⟨h552, H1⟩
                 · refine J.cond_true h552 ?_
                   obtain ⟨t553, hc554, H1⟩ := bind_some H1
                   obtain ⟨l555, el555, H1⟩ := lt_some H1
                   refine JY.start [16] (ba 18 0) ?_
                   refine JY.pur (hi := rfl) 0 (ba 18 1) (.pointer (some ⟨g509, o510 + ((ix l1 x295).Station).toNat * 3, none⟩)) (some 65) want ?_
                   refine JY.pur (hi := rfl) 1 (ba 18 3) (.pointer (some ⟨g509, o510 + ((ix l1 x295).Station).toNat * 3, none⟩)) (some 66) want ?_
                   refine JY.pur (hi := rfl) 2 (ba 18 7) (.pointer (some ⟨g509, o510 + ((ix l1 x295).Station).toNat * 3, none⟩)) (some 67) want ?_
                   refine JY.take (hi := rfl) 3 (ba 18 15) (mv_23 (ix g288 ((ix l1 x295).Station))) (some 68) [true, true, true] want (gives_loadEl (f := fl_Cx) 0 0 ((ix l1 x295).Station) (elems_row (some ⟨g509, o510, none⟩) c290 23 fl_Cx.kd g288 false) h507 h508 tySize_23 (.inl ⟨tyAgg_23, rfl⟩)) ?_
                   refine JY.pur (hi := rfl) 4 (ba 18 31) (.pointer (some ⟨b503, 7, none⟩)) (some 69) want ?_
                   refine JY.take (hi := rfl) 5 (ba 18 63) (.int .i64 ((ix l1 x295).Q)) (some 70) [true, true, true] want (yields_load_box 1 7 (holds_box b503 25 (cl_25 (ix l1 x295))) tyAgg_3) ?_
                   refine JY.pur (hi := rfl) 6 (ba 18 127) (.int .i64 time5) (some 71) want ?_
                   refine JY.pur (hi := rfl) 7 (ba 18 255) (.pointer (some ⟨b503, 2, none⟩)) (some 72) want ?_
                   refine JY.take (hi := rfl) 8 (ba 18 511) (.int .i64 ((ix l1 x295).From)) (some 73) [true, true, true] want (yields_load_box 1 2 (holds_box b503 25 (cl_25 (ix l1 x295))) tyAgg_3) ?_
                   refine JY.pur (hi := rfl) 9 (ba 18 1023) (.int .i64 (w64 (time5 - ((ix l1 x295).From)))) (some 74) want ?_
                   refine JY.pur (hi := rfl) 10 (ba 18 2047) (.int .i64 (w64 (((ix l1 x295).Q) * (w64 (time5 - ((ix l1 x295).From)))))) (some 75) want ?_
                   refine JY.all [11] ⟨⟨_, rfl, ?_⟩, trivial⟩
                   refine JL.call [] [] [] (cx_Turn.ok (ix g288 ((ix l1 x295).Station)) (w64 (((ix l1 x295).Q) * (w64 (time5 - ((ix l1 x295).From))))) _ hc554) trivial ?_
                   rintro _ _ ⟨rfl, rfl⟩
                   refine JL.nil ?_
                   refine JY.ran (ba 18 4095) [true, true, true] ?_
                   refine JY.pur (hi := rfl) 12 (ba 18 8191) (.tuple #[mv_23 t553.1, .int .i64 t553.2]) (some 64) want ?_
                   refine JY.pur (hi := rfl) 13 (ba 18 16383) (mv_23 t553.1) (some 77) want ?_
                   refine JY.pur (hi := rfl) 14 (ba 18 32767) (.int .i64 t553.2) (some 78) want ?_
                   refine JY.pur (hi := rfl) 15 (ba 18 65535) (.pointer (some ⟨g509, o510 + ((ix l1 x295).Station).toNat * 3, none⟩)) (some 79) want ?_
                   refine JY.all [16] ⟨⟨_, rfl, ?_⟩, trivial⟩
                   refine JL.storeEl (E := 23) g509 o510 0 c290 0 fl_Cx g288 ((ix l1 x295).Station) false t553.1 h507 h508 tySize_23 ?_
                   have nl555 : g288.length = l555.length := by rw [← el555, List.length_set]
                   rw [el555]
                   refine JQ.len (fun n : Nat => [(1, .int .i64 time5), (6, .slice (some ⟨g509, o510, none⟩) n c290), (8, .pointer (some ⟨b503, 0, none⟩)), (9, .int .i64 0), (14, .slice (some ⟨g501, o502, none⟩) l1.length c293), (15, .int .i64 (l1.length : Int)), (16, .int .i64 x295), (62, .bool (decide ((ix l1 x295).Kind = 3))), (64, .tuple #[mv_23 t553.1, .int .i64 t553.2]), (68, mv_23 (ix g288 ((ix l1 x295).Station))), (69, .pointer (some ⟨b503, 7, none⟩)), (70, .int .i64 ((ix l1 x295).Q)), (71, .int .i64 time5), (72, .pointer (some ⟨b503, 2, none⟩)), (73, .int .i64 ((ix l1 x295).From)), (74, .int .i64 (w64 (time5 - ((ix l1 x295).From)))), (75, .int .i64 (w64 (((ix l1 x295).Q) * (w64 (time5 - ((ix l1 x295).From)))))), (76, .tuple #[mv_23 t553.1, .int .i64 t553.2]), (77, mv_23 t553.1), (78, .int .i64 t553.2)]) nl555 ?_
                   refine JQ.sub [(1, .int .i64 time5), (6, .slice (some ⟨g509, o510, none⟩) l555.length c290), (8, .pointer (some ⟨b503, 0, none⟩)), (9, .int .i64 0), (14, .slice (some ⟨g501, o502, none⟩) l1.length c293), (15, .int .i64 (l1.length : Int)), (16, .int .i64 x295), (62, .bool (decide ((ix l1 x295).Kind = 3))), (64, .tuple #[mv_23 t553.1, .int .i64 t553.2]), (68, mv_23 (ix g288 ((ix l1 x295).Station))), (69, .pointer (some ⟨b503, 7, none⟩)), (70, .int .i64 ((ix l1 x295).Q)), (71, .int .i64 time5), (72, .pointer (some ⟨b503, 2, none⟩)), (73, .int .i64 ((ix l1 x295).From)), (74, .int .i64 (w64 (time5 - ((ix l1 x295).From)))), (75, .int .i64 (w64 (((ix l1 x295).Q) * (w64 (time5 - ((ix l1 x295).From)))))), (76, .tuple #[mv_23 t553.1, .int .i64 t553.2]), (77, mv_23 t553.1), (78, .int .i64 t553.2)] ?_
                   refine JL.nil ?_
                   refine JY.ranD (ba 18 131071) ?_
                   refine JY.pur (hi := rfl) 17 (ba 18 262143) (.int .i64 t553.2) (some 9) want ?_
                   refine JY.done ?_
                   refine JQ.blk_normal ?_
                   refine JQ.then_normal ?_
                   exact JQ.meet (l555, t553.2) ((some ⟨g509, o510, none⟩), c290) H1 (fun _ h => Heap.to (Heap.pick [0, 2] (by decide) h))
                 · refine J.cond_false h552 ?_
                   refine J.skip ?_
                   refine JQ.blk_normal ?_
                   refine JQ.then_normal ?_
                   exact JQ.meet (g288, 0) ((some ⟨g509, o510, none⟩), c290) H1 (fun _ h => Heap.to (Heap.pick [0, 2] (by decide) h))
           · clear H1
             rintro ⟨g532, e536⟩ ⟨Aa533, c534⟩ H1
             replace H1 : corrupt_table.k22 x295 g532 e536 = some st1 := H1
             unfold corrupt_table.k22 at H1
             refine JQ.sub [(1, .int .i64 time5), (6, .slice Aa533 g532.length c534), (9, .int .i64 e536), (14, .slice (some ⟨g501, o502, none⟩) l1.length c293), (15, .int .i64 (l1.length : Int)), (16, .int .i64 x295)] ?_
             refine JQ.turn (Δ' := [At.row Aa533 c534 23 fl_Cx.kd g532 false, At.rd (some ⟨g501, o502, none⟩) c293 fl_Spoil.kd l1 true]) (fun _ h => h.to) ?_
             refine J.sr ?_
             refine JL.mv (.int .i64 e536) ?_
             refine JL.pur (.bool (!decide (e536 = 0))) (some 81) ?_
             refine JL.es [(1, .int .i64 time5), (6, .slice Aa533 g532.length c534), (9, .int .i64 e536), (14, .slice (some ⟨g501, o502, none⟩) l1.length c293), (15, .int .i64 (l1.length : Int)), (16, .int .i64 x295), (81, .bool (!decide (e536 = 0)))] ?_
             rcases ite_cases H1 with ⟨h537, H1⟩ | ⟨h537, H1⟩
             · refine J.cond_true h537 ?_
               refine J.sr ?_
               refine JL.mv (.int .i64 e536) ?_
               refine JL.as (.slice none 0 0) ?_
               refine JL.as (.int .i64 e536) ?_
               refine JL.es [(4, .slice none 0 0), (5, .int .i64 e536)] ?_
               refine JQ.mask [] [false, false] ?_
               refine J.ret ?_
               refine JQ.blk_ret ?_
               refine JQ.then_ret ?_
               refine JQ.then_ret ?_
               refine JQ.blk_ret ?_
               refine JQ.met_ret ?_
               refine JQ.then_ret ?_
               rw [hr1 _ (Option.some.inj H1).symm, fin_ret] at H0
               obtain rfl := Option.some.inj H0
               exact JQ.done' (rs := [.tmp 4, .tmp 5]) (vs := [.slice none 0 0, .int .i64 e536]) [At.row none 0 23 fl_Cx.kd ([] : List Cx) false] (.inr rfl) ⟨by kernel_rfl, by kernel_rfl, trivial⟩ (fun _ h => Heap.to (Heap.addRow0 (α := Cx) 23 fl_Cx.kd false h)) ⟨none, 0, rfl, rfl⟩
             · refine J.cond_false h537 ?_
               refine J.skip ?_
               refine JQ.blk_normal ?_
               refine JQ.then_normal ?_
               exact JQ.meet g532 (Aa533, c534, (some ⟨g501, o502, none⟩), c293) H1 (fun _ h => Heap.to h)
     · clear H1
       rintro g492 ⟨Aa493, c494, Aa496, c497⟩ H1
       replace H1 : corrupt_table.k20 x295 g492 = some st1 := H1
       unfold corrupt_table.k20 at H1
       refine JQ.sub [(1, .int .i64 time5), (6, .slice Aa493 g492.length c494), (14, .slice Aa496 l1.length c497), (15, .int .i64 (l1.length : Int)), (16, .int .i64 x295)] ?_
       refine JQ.turn (Δ' := [At.row Aa493 c494 23 fl_Cx.kd g492 false, At.rd Aa496 c497 fl_Spoil.kd l1 true]) (fun _ h => h.to) ?_
       refine J.region ?_
       refine JL.pur (.int .i64 (w64 (x295 + 1))) (some 83) ?_
       refine JL.mv (.int .i64 (w64 (x295 + 1))) ?_
       refine JL.en ?_
       exact JQ.again (g492, w64 (x295 + 1)) (Aa493, c494, Aa496, c497) (Option.some.inj H1).symm (fun _ h => Heap.to h)
   · refine J.cond_false h430 ?_
     refine J.exit ?_
     refine JQ.then_exit ?_
     refine JQ.then_exit ?_
     refine JQ.blk_exit ?_
     rw [hb1 _ (Option.some.inj H1).symm, fin_brk] at H0
     exact JQ.met g288 (Aa289, c290) H0 (fun _ h => Heap.to (Heap.pick [0] (by decide) h))
 · clear hit H0
   rintro g426 ⟨Aa427, c428⟩ H0
   replace H0 : corrupt_table.k17 g426 = some r := H0
   unfold corrupt_table.k17 at H0
   refine JQ.sub [(6, .slice Aa427 g426.length c428)] ?_
   refine JQ.turn (Δ' := [At.row Aa427 c428 23 fl_Cx.kd g426 false]) (fun _ h => h.to) ?_
   refine JQ.then_normal ?_
   refine J.sr ?_
   refine JL.mv (.slice Aa427 g426.length c428) ?_
   refine JL.as (.slice Aa427 g426.length c428) ?_
   refine JL.as (.int .i64 0) ?_
   refine JL.es [(4, .slice Aa427 g426.length c428), (5, .int .i64 0)] ?_
   refine J.ret ?_
   obtain rfl := Option.some.inj H0
   exact JQ.done' (rs := [.tmp 4, .tmp 5]) (vs := [.slice Aa427 g426.length c428, .int .i64 0]) [At.row Aa427 c428 23 fl_Cx.kd g426 false] (.inr rfl) ⟨by kernel_rfl, by kernel_rfl, trivial⟩ (fun _ h => Heap.to h) ⟨Aa427, c428, rfl, rfl⟩

theorem corrupt_Table.ok (l1 : (List Spoil)) (Aa2 : Option Addr) (c3 : Nat) (time5 : Int) (r : ((List Cx) × Int)) (H0 : corrupt_Table.f l1 time5 = some r) :
    Does Try.prog 8 [.slice Aa2 l1.length c3, .int .i64 time5].toArray [At.rd Aa2 c3 fl_Spoil.kd l1 true] [] false (fun v Δ => ∃ A1001 : Option Addr, ∃ c1001 : Nat, v = .tuple #[.slice A1001 r.1.length c1001, .int .i64 r.2] ∧ Δ = [At.row A1001 c1001 23 fl_Cx.kd r.1 false]) := by
 refine Does.body (vs := [.slice Aa2 l1.length c3, .int .i64 time5]) Try.func8 rfl ⟨.inl rfl, trivial⟩ trivial fun w S => ?_
 unfold corrupt_Table.f at H0
 refine J.sr ?_
 refine JL.as (.slice none 0 0) ?_
 refine JL.as (.int .i64 0) ?_
 refine JL.es [(0, .slice Aa2 l1.length c3), (1, .int .i64 time5)] ?_
 refine J.seq ?_
 refine J.join (T := Bool) (G := Unit) (fun t => corrupt_Table.k1 l1 time5 t = some r) (fun t g => [(0, .slice Aa2 l1.length c3), (1, .int .i64 time5), (11, .bool t)]) (fun t g => [At.rd Aa2 c3 fl_Spoil.kd l1 true]) ?_ ?_
 · refine J.region ?_
   refine JL.mv (.int .i64 time5) ?_
   refine JL.pur (.bool (decide (time5 < 0))) (some 7) ?_
   refine JL.mv (.bool (decide (time5 < 0))) ?_
   rcases ite_cases H0 with ⟨h18, H0⟩ | ⟨h18, H0⟩
   · refine JL.off 2 8 false (some 9) h18 ?_
     refine JL.off 2 8 false (some 10) h18 ?_
     refine JL.val (.bool true) (some 11) (gives_pickT h18) ?_
     refine JL.en ?_
     exact JQ.meet true () H0 (fun _ h => Heap.to h)
   · refine JL.on 2 8 h18 ?_
     refine JL.mv (.int .i64 time5) ?_
     refine JL.on 2 8 h18 ?_
     refine JL.pur (.bool (decide (32 ≤ time5))) (some 10) ?_
     refine JL.val (.bool (decide (32 ≤ time5))) (some 11) (gives_pickF h18) ?_
     refine JL.en ?_
     exact JQ.meet (decide (32 ≤ time5)) () H0 (fun _ h => Heap.to h)
 · clear H0
   rintro x7 ⟨⟩ H0
   replace H0 : corrupt_Table.k1 l1 time5 x7 = some r := H0
   unfold corrupt_Table.k1 at H0
   refine JQ.sub [(0, .slice Aa2 l1.length c3), (1, .int .i64 time5), (11, .bool x7)] ?_
   refine JQ.turn (Δ' := [At.rd Aa2 c3 fl_Spoil.kd l1 true]) (fun _ h => h.to) ?_
   rcases ite_cases H0 with ⟨h8, H0⟩ | ⟨h8, H0⟩
   · refine J.cond_true h8 ?_
     refine J.sr ?_
     refine JL.as (.slice none 0 0) ?_
     refine JL.as (.int .i64 2) ?_
     refine JL.es [(4, .slice none 0 0), (5, .int .i64 2)] ?_
     refine JQ.mask [] [false] ?_
     refine J.ret ?_
     refine JQ.then_ret ?_
     obtain rfl := Option.some.inj H0
     exact JQ.done' (rs := [.tmp 4, .tmp 5]) (vs := [.slice none 0 0, .int .i64 2]) [At.row none 0 23 fl_Cx.kd ([] : List Cx) false] (.inr rfl) ⟨by kernel_rfl, by kernel_rfl, trivial⟩ (fun _ h => Heap.to (Heap.addRow0 (α := Cx) 23 fl_Cx.kd false h)) ⟨none, 0, rfl, rfl⟩
   · refine J.cond_false h8 ?_
     refine J.skip ?_
     refine JQ.ts [(0, .slice Aa2 l1.length c3), (1, .int .i64 time5)] ?_
     refine J.seq ?_
     refine J.sr ?_
     refine JL.mv (.slice Aa2 l1.length c3) ?_
     refine JL.pur (.int .i64 (l1.length : Int)) (some 13) ?_
     refine JL.pur (.bool (decide (8 < (l1.length : Int)))) (some 14) ?_
     refine JL.es [(0, .slice Aa2 l1.length c3), (1, .int .i64 time5), (14, .bool (decide (8 < (l1.length : Int))))] ?_
     rcases ite_cases H0 with ⟨h9, H0⟩ | ⟨h9, H0⟩
     · refine J.cond_true h9 ?_
       refine J.sr ?_
       refine JL.as (.slice none 0 0) ?_
       refine JL.as (.int .i64 4) ?_
       refine JL.es [(4, .slice none 0 0), (5, .int .i64 4)] ?_
       refine JQ.mask [] [false] ?_
       refine J.ret ?_
       refine JQ.then_ret ?_
       obtain rfl := Option.some.inj H0
       exact JQ.done' (rs := [.tmp 4, .tmp 5]) (vs := [.slice none 0 0, .int .i64 4]) [At.row none 0 23 fl_Cx.kd ([] : List Cx) false] (.inr rfl) ⟨by kernel_rfl, by kernel_rfl, trivial⟩ (fun _ h => Heap.to (Heap.addRow0 (α := Cx) 23 fl_Cx.kd false h)) ⟨none, 0, rfl, rfl⟩
     · refine J.cond_false h9 ?_
       refine J.skip ?_
       refine JQ.ts [(0, .slice Aa2 l1.length c3), (1, .int .i64 time5)] ?_
       refine J.seq ?_
       refine J.sr ?_
       refine JL.mv (.slice Aa2 l1.length c3) ?_
       obtain ⟨t10, hc11, H0⟩ := bind_some H0
       refine JL.call [] [] [] (slices_ContainsFunc__api_Spoil_api_Spoil__corrupt_Table_1.ok l1 Aa2 c3 _ hc11) ⟨pre_any 0 (view_rd Aa2 c3 fl_Spoil.kd l1 true true), trivial⟩ ?_
       rintro _ _ ⟨rfl, rfl⟩
       refine JL.es [(0, .slice Aa2 l1.length c3), (1, .int .i64 time5), (16, .bool t10)] ?_
       rcases ite_cases H0 with ⟨h12, H0⟩ | ⟨h12, H0⟩
       · refine J.cond_true h12 ?_
         refine J.sr ?_
         refine JL.as (.slice none 0 0) ?_
         refine JL.as (.int .i64 8) ?_
         refine JL.es [(4, .slice none 0 0), (5, .int .i64 8)] ?_
         refine JQ.mask [] [false] ?_
         refine J.ret ?_
         refine JQ.then_ret ?_
         obtain rfl := Option.some.inj H0
         exact JQ.done' (rs := [.tmp 4, .tmp 5]) (vs := [.slice none 0 0, .int .i64 8]) [At.row none 0 23 fl_Cx.kd ([] : List Cx) false] (.inr rfl) ⟨by kernel_rfl, by kernel_rfl, trivial⟩ (fun _ h => Heap.to (Heap.addRow0 (α := Cx) 23 fl_Cx.kd false h)) ⟨none, 0, rfl, rfl⟩
       · refine J.cond_false h12 ?_
         refine J.skip ?_
         refine JQ.ts [(0, .slice Aa2 l1.length c3), (1, .int .i64 time5)] ?_
         refine J.sr ?_
         refine JL.mv (.slice Aa2 l1.length c3) ?_
         refine JL.mv (.int .i64 time5) ?_
         obtain ⟨t13, hc14, H0⟩ := bind_some H0
         refine JL.call [] [] [] (corrupt_table.ok l1 Aa2 c3 time5 _ hc14) ⟨pre_any 0 (view_rd Aa2 c3 fl_Spoil.kd l1 true true), trivial⟩ ?_
         rintro _ _ ⟨Aa15, c16, rfl, rfl⟩
         refine JL.pur (.slice Aa15 t13.1.length c16) (some 20) ?_
         refine JL.pur (.int .i64 t13.2) (some 21) ?_
         refine JL.as (.slice Aa15 t13.1.length c16) ?_
         refine JL.as (.int .i64 t13.2) ?_
         refine JL.es [(4, .slice Aa15 t13.1.length c16), (5, .int .i64 t13.2)] ?_
         refine JQ.mask [At.row Aa15 c16 23 fl_Cx.kd t13.1 false] [false, true] ?_
         refine J.ret ?_
         obtain rfl := Option.some.inj H0
         exact JQ.done' (rs := [.tmp 4, .tmp 5]) (vs := [.slice Aa15 t13.1.length c16, .int .i64 t13.2]) [At.row Aa15 c16 23 fl_Cx.kd t13.1 false] (.inr rfl) ⟨by kernel_rfl, by kernel_rfl, trivial⟩ (fun _ h => Heap.to h) ⟨Aa15, c16, rfl, rfl⟩

theorem closure_Check.ok (l1 : (List Vis)) (Aa2 : Option Addr) (c3 : Nat) (r : Int) (H0 : closure_Check.f l1 = some r) :
    Does Try.prog 32 [.slice Aa2 l1.length c3].toArray [At.rd Aa2 c3 fl_Vis.kd l1 true] [] false (fun v Δ => v = .int .i64 r ∧ Δ = []) := by
 refine Does.body (vs := [.slice Aa2 l1.length c3]) Try.func32 rfl ⟨.inl rfl, trivial⟩ trivial fun w S => ?_
 unfold closure_Check.f at H0
 refine J.sr ?_
 refine JL.as (.int .i64 0) ?_
 refine JL.es [(0, .slice Aa2 l1.length c3)] ?_
 refine J.seq ?_
 refine J.sr ?_
 refine JL.mv (.slice Aa2 l1.length c3) ?_
 refine JL.pur (.int .i64 (l1.length : Int)) (some 7) ?_
 refine JL.pur (.bool (decide (64 < (l1.length : Int)))) (some 8) ?_
 refine JL.es [(0, .slice Aa2 l1.length c3), (8, .bool (decide (64 < (l1.length : Int))))] ?_
 rcases ite_cases H0 with ⟨h5, H0⟩ | ⟨h5, H0⟩
 · refine J.cond_true h5 ?_
   refine J.sr ?_
   refine JL.as (.int .i64 4) ?_
   refine JL.es [(2, .int .i64 4)] ?_
   refine JQ.mask [] [false] ?_
   refine J.ret ?_
   refine JQ.then_ret ?_
   obtain rfl := Option.some.inj H0
   exact JQ.done' (rs := [.tmp 2]) (vs := [.int .i64 4]) [] (.inr rfl) ⟨by kernel_rfl, trivial⟩ (fun _ h => Heap.to h) ⟨rfl, rfl⟩
 · refine J.cond_false h5 ?_
   refine J.skip ?_
   refine JQ.ts [(0, .slice Aa2 l1.length c3)] ?_
   refine J.sr ?_
   refine JL.mkMap mv_78 mv_3 fun b6 => ?_
   refine JL.as (.map (some b6)) ?_
   refine JL.es [(0, .slice Aa2 l1.length c3), (3, .map (some b6))] ?_
   refine J.seq ?_
   refine J.sr ?_
   refine JL.mv (.slice Aa2 l1.length c3) ?_
   refine JL.pur (.int .i64 (l1.length : Int)) (some 11) ?_
   refine JL.mv (.int .i64 0) ?_
   refine JL.en ?_
   obtain ⟨o1, hit, H0⟩ := bind_some H0
   refine J.loop (σ := ((List (Pair × Int)) × Int)) (τ := List (Pair × Int)) (G := ((Option Addr) × Nat)) (G' := ((Option Addr) × Nat)) _ o1 (fun s g => [(0, .slice g.1 l1.length g.2), (3, .map (some b6)), (10, .slice g.1 l1.length g.2), (11, .int .i64 (l1.length : Int)), (12, .int .i64 s.2)]) (fun s g => [At.rd g.1 g.2 fl_Vis.kd l1 true, At.mp b6 mv_78 mv_3 s.1]) (fun t => closure_Check.k11 l1 t = some r) (fun t g => [(0, .slice g.1 l1.length g.2), (3, .map (some b6))]) (fun t g => [At.rd g.1 g.2 fl_Vis.kd l1 true, At.mp b6 mv_78 mv_3 t]) (([] : List (Pair × Int)), 0) (Aa2, c3) hit (fun _ h => Heap.to h) ?_ ?_
   · clear hit
     rintro ⟨m142, x143⟩ ⟨Aa139, c140⟩ st1 H1 hb1 hr1
     replace H1 : closure_Check.s10 l1 m142 x143 = some st1 := H1
     unfold closure_Check.s10 at H1
     refine JQ.sub [(0, .slice Aa139 l1.length c140), (3, .map (some b6)), (10, .slice Aa139 l1.length c140), (11, .int .i64 (l1.length : Int)), (12, .int .i64 x143)] ?_
     refine JQ.turn (Δ' := [At.rd Aa139 c140 fl_Vis.kd l1 true, At.mp b6 mv_78 mv_3 m142]) (fun _ h => h.to) ?_
     refine J.sr ?_
     refine JL.pur (.bool (decide (x143 < (l1.length : Int)))) (some 13) ?_
     refine JL.en ?_
     refine J.seq ?_
     rcases ite_cases H1 with ⟨h210, H1⟩ | ⟨h210, H1⟩
     · refine J.cond_true h210 ?_
       refine J.skip ?_
       refine JQ.ts [(0, .slice Aa139 l1.length c140), (3, .map (some b6)), (10, .slice Aa139 l1.length c140), (11, .int .i64 (l1.length : Int)), (12, .int .i64 x143)] ?_
       refine J.join (T := List (Pair × Int)) (G := ((Option Addr) × Nat)) (fun t => closure_Check.k13 x143 t = some st1) (fun t g => [(0, .slice g.1 l1.length g.2), (3, .map (some b6)), (10, .slice g.1 l1.length g.2), (11, .int .i64 (l1.length : Int)), (12, .int .i64 x143)]) (fun t g => [At.rd g.1 g.2 fl_Vis.kd l1 true, At.mp b6 mv_78 mv_3 t]) ?_ ?_
       · refine J.block ?_
         refine J.sr ?_
         obtain ⟨⟨h243, h244⟩, H1⟩ := ite_must H1
         refine JL.ixAddr 0 6 c140 .i64 (elems_rd Aa139 c140 fl_Vis.kd l1 true) Try.underlying48 tySize_47 h243 h244 fun g245 o246 hA => ?_
         subst hA
         refine JL.val (mv_47 (ix l1 x143)) (some 15) (gives_loadEl (f := fl_Vis) 0 0 x143 (elems_rd (some ⟨g245, o246, none⟩) c140 fl_Vis.kd l1 true) h243 h244 tySize_47 (.inl ⟨tyAgg_47, rfl⟩)) ?_
         refine JL.alloc (cl_47 zv_47) fun b247 => ?_
         refine JL.store 2 b247 0 47 (cl_47 zv_47) (cl_47 (ix l1 x143)) tySize_47 ?_
         refine JL.es [(0, .slice (some ⟨g245, o246, none⟩) l1.length c140), (3, .map (some b6)), (5, .pointer (some ⟨b247, 0, none⟩)), (10, .slice (some ⟨g245, o246, none⟩) l1.length c140), (11, .int .i64 (l1.length : Int)), (12, .int .i64 x143)] ?_
         refine J.seq ?_
         refine J.join (T := Bool) (G := Unit) (fun t => closure_Check.k14 l1 m142 x143 t = some st1) (fun t g => [(0, .slice (some ⟨g245, o246, none⟩) l1.length c140), (3, .map (some b6)), (5, .pointer (some ⟨b247, 0, none⟩)), (10, .slice (some ⟨g245, o246, none⟩) l1.length c140), (11, .int .i64 (l1.length : Int)), (12, .int .i64 x143), (41, .bool t)]) (fun t g => [At.rd (some ⟨g245, o246, none⟩) c140 fl_Vis.kd l1 true, At.mp b6 mv_78 mv_3 m142, At.box b247 47 (cl_47 (ix l1 x143))]) ?_ ?_
         · refine J.region ?_
           refine JL.pur (.pointer (some ⟨b247, 0, none⟩)) (some 16) ?_
           refine JL.val (.int .i64 ((ix l1 x143).I)) (some 17) (yields_load_box 2 0 (holds_box b247 47 (cl_47 (ix l1 x143))) tyAgg_3) ?_
           refine JL.pur (.bool (decide ((ix l1 x143).I < 0))) (some 18) ?_
           refine JL.mv (.bool (decide ((ix l1 x143).I < 0))) ?_
           rcases ite_cases H1 with ⟨h265, H1⟩ | ⟨h265, H1⟩
           · refine JL.off 3 19 false (some 20) h265 ?_
             refine JL.off 3 19 false (some 21) h265 ?_
             refine JL.off 3 19 false (some 22) h265 ?_
             refine JL.off 3 19 false (some 23) h265 ?_
             refine JL.off 3 19 false (some 24) h265 ?_
             refine JL.val (.bool true) (some 25) (gives_pickT h265) ?_
             refine JL.mv (.bool true) ?_
             refine JL.off 10 26 false (some 27) rfl ?_
             refine JL.off 10 26 false (some 28) rfl ?_
             refine JL.off 10 26 false (some 29) rfl ?_
             refine JL.val (.bool true) (some 30) (gives_pickT rfl) ?_
             refine JL.mv (.bool true) ?_
             refine JL.off 15 31 false (some 32) rfl ?_
             refine JL.off 15 31 false (some 33) rfl ?_
             refine JL.off 15 31 false (some 34) rfl ?_
             refine JL.val (.bool true) (some 35) (gives_pickT rfl) ?_
             refine JL.mv (.bool true) ?_
             refine JL.off 20 36 false (some 37) rfl ?_
             refine JL.off 20 36 false (some 38) rfl ?_
             refine JL.off 20 36 false (some 39) rfl ?_
             refine JL.off 20 36 false (some 40) rfl ?_
             refine JL.val (.bool true) (some 41) (gives_pickT rfl) ?_
             refine JL.en ?_
             exact JQ.meet true () H1 (fun _ h => Heap.to h)
           · refine JL.on 3 19 h265 ?_
             refine JL.pur (.pointer (some ⟨b247, 0, none⟩)) (some 20) ?_
             refine JL.on 3 19 h265 ?_
             refine JL.val (.int .i64 ((ix l1 x143).I)) (some 21) (yields_load_box 2 0 (holds_box b247 47 (cl_47 (ix l1 x143))) tyAgg_3) ?_
             refine JL.on 3 19 h265 ?_
             refine JL.pur (.pointer (some ⟨b247, 1, none⟩)) (some 22) ?_
             refine JL.on 3 19 h265 ?_
             refine JL.val (.int .i64 ((ix l1 x143).J)) (some 23) (yields_load_box 2 1 (holds_box b247 47 (cl_47 (ix l1 x143))) tyAgg_3) ?_
             refine JL.on 3 19 h265 ?_
             refine JL.pur (.bool (decide ((ix l1 x143).J ≤ (ix l1 x143).I))) (some 24) ?_
             refine JL.val (.bool (decide ((ix l1 x143).J ≤ (ix l1 x143).I))) (some 25) (gives_pickF h265) ?_
             refine JL.mv (.bool (decide ((ix l1 x143).J ≤ (ix l1 x143).I))) ?_
             rcases ite_cases H1 with ⟨h266, H1⟩ | ⟨h266, H1⟩
             · refine JL.off 10 26 false (some 27) h266 ?_
               refine JL.off 10 26 false (some 28) h266 ?_
               refine JL.off 10 26 false (some 29) h266 ?_
               refine JL.val (.bool true) (some 30) (gives_pickT h266) ?_
               refine JL.mv (.bool true) ?_
               refine JL.off 15 31 false (some 32) rfl ?_
               refine JL.off 15 31 false (some 33) rfl ?_
               refine JL.off 15 31 false (some 34) rfl ?_
               refine JL.val (.bool true) (some 35) (gives_pickT rfl) ?_
               refine JL.mv (.bool true) ?_
               refine JL.off 20 36 false (some 37) rfl ?_
               refine JL.off 20 36 false (some 38) rfl ?_
               refine JL.off 20 36 false (some 39) rfl ?_
               refine JL.off 20 36 false (some 40) rfl ?_
               refine JL.val (.bool true) (some 41) (gives_pickT rfl) ?_
               refine JL.en ?_
               exact JQ.meet true () H1 (fun _ h => Heap.to h)
             · refine JL.on 10 26 h266 ?_
               refine JL.pur (.pointer (some ⟨b247, 1, none⟩)) (some 27) ?_
               refine JL.on 10 26 h266 ?_
               refine JL.val (.int .i64 ((ix l1 x143).J)) (some 28) (yields_load_box 2 1 (holds_box b247 47 (cl_47 (ix l1 x143))) tyAgg_3) ?_
               refine JL.on 10 26 h266 ?_
               refine JL.pur (.bool (decide (8 ≤ (ix l1 x143).J))) (some 29) ?_
               refine JL.val (.bool (decide (8 ≤ (ix l1 x143).J))) (some 30) (gives_pickF h266) ?_
               refine JL.mv (.bool (decide (8 ≤ (ix l1 x143).J))) ?_
               rcases ite_cases H1 with ⟨h267, H1⟩ | ⟨h267, H1⟩
               · refine JL.off 15 31 false (some 32) h267 ?_
                 refine JL.off 15 31 false (some 33) h267 ?_
                 refine JL.off 15 31 false (some 34) h267 ?_
                 refine JL.val (.bool true) (some 35) (gives_pickT h267) ?_
                 refine JL.mv (.bool true) ?_
                 refine JL.off 20 36 false (some 37) rfl ?_
                 refine JL.off 20 36 false (some 38) rfl ?_
                 refine JL.off 20 36 false (some 39) rfl ?_
                 refine JL.off 20 36 false (some 40) rfl ?_
                 refine JL.val (.bool true) (some 41) (gives_pickT rfl) ?_
                 refine JL.en ?_
                 exact JQ.meet true () H1 (fun _ h => Heap.to h)
               · refine JL.on 15 31 h267 ?_
                 refine JL.pur (.pointer (some ⟨b247, 5, none⟩)) (some 32) ?_
                 refine JL.on 15 31 h267 ?_
                 refine JL.val (.int .i64 ((ix l1 x143).N)) (some 33) (yields_load_box 2 5 (holds_box b247 47 (cl_47 (ix l1 x143))) tyAgg_3) ?_
                 refine JL.on 15 31 h267 ?_
                 refine JL.pur (.bool (decide ((ix l1 x143).N < 0))) (some 34) ?_
                 refine JL.val (.bool (decide ((ix l1 x143).N < 0))) (some 35) (gives_pickF h267) ?_
                 refine JL.mv (.bool (decide ((ix l1 x143).N < 0))) ?_
                 rcases ite_cases H1 with ⟨h268, H1⟩ | ⟨h268, H1⟩
                 · refine JL.off 20 36 false (some 37) h268 ?_
                   refine JL.off 20 36 false (some 38) h268 ?_
                   refine JL.off 20 36 false (some 39) h268 ?_
                   refine JL.off 20 36 false (some 40) h268 ?_
                   refine JL.val (.bool true) (some 41) (gives_pickT h268) ?_
                   refine JL.en ?_
                   exact JQ.meet true () H1 (fun _ h => Heap.to h)
                 · refine JL.on 20 36 h268 ?_
                   refine JL.pur (.pointer (some ⟨b247, 2, none⟩)) (some 37) ?_
                   refine JL.on 20 36 h268 ?_
                   refine JL.val (mv_23 ((ix l1 x143).V)) (some 38) (yields_load_boxes 2 2 (cl_23 ((ix l1 x143).V)) (holds_box b247 47 (cl_47 (ix l1 x143))) tyAgg_23 tySize_23) ?_
                   refine JL.on 20 36 h268 ?_
                   obtain ⟨t269, hc270, H1⟩ := bind_some H1
                   refine JL.call [] [] [] (cx_Check.ok ((ix l1 x143).V) _ hc270) trivial ?_
                   rintro _ _ ⟨rfl, rfl⟩
                   refine JL.on 20 36 h268 ?_
                   refine JL.pur (.bool (!decide (t269 = 0))) (some 40) ?_
                   refine JL.val (.bool (!decide (t269 = 0))) (some 41) (gives_pickF h268) ?_
                   refine JL.en ?_
                   exact JQ.meet (!decide (t269 = 0)) () H1 (fun _ h => Heap.to h)
         · clear H1
           rintro x254 ⟨⟩ H1
           replace H1 : closure_Check.k14 l1 m142 x143 x254 = some st1 := H1
           unfold closure_Check.k14 at H1
           refine JQ.sub [(0, .slice (some ⟨g245, o246, none⟩) l1.length c140), (3, .map (some b6)), (5, .pointer (some ⟨b247, 0, none⟩)), (10, .slice (some ⟨g245, o246, none⟩) l1.length c140), (11, .int .i64 (l1.length : Int)), (12, .int .i64 x143), (41, .bool x254)] ?_
           refine JQ.turn (Δ' := [At.rd (some ⟨g245, o246, none⟩) c140 fl_Vis.kd l1 true, At.mp b6 mv_78 mv_3 m142, At.box b247 47 (cl_47 (ix l1 x143))]) (fun _ h => h.to) ?_
           rcases ite_cases H1 with ⟨h255, H1⟩ | ⟨h255, H1⟩
           · refine J.cond_true h255 ?_
             refine J.sr ?_
             refine JL.as (.int .i64 8) ?_
             refine JL.es [(2, .int .i64 8)] ?_
             refine JQ.mask [] [false, false, false] ?_
             refine J.ret ?_
             refine JQ.then_ret ?_
             refine JQ.blk_ret ?_
             refine JQ.then_ret ?_
             refine JQ.then_ret ?_
             refine JQ.blk_ret ?_
             refine JQ.met_ret ?_
             refine JQ.then_ret ?_
             rw [hr1 _ (Option.some.inj H1).symm, fin_ret] at H0
             obtain rfl := Option.some.inj H0
             exact JQ.done' (rs := [.tmp 2]) (vs := [.int .i64 8]) [] (.inr rfl) ⟨by kernel_rfl, trivial⟩ (fun _ h => Heap.to h) ⟨rfl, rfl⟩
           · refine J.cond_false h255 ?_
             refine J.skip ?_
             refine JQ.ts [(0, .slice (some ⟨g245, o246, none⟩) l1.length c140), (3, .map (some b6)), (5, .pointer (some ⟨b247, 0, none⟩)), (10, .slice (some ⟨g245, o246, none⟩) l1.length c140), (11, .int .i64 (l1.length : Int)), (12, .int .i64 x143)] ?_
             obtain ⟨m256, em256, H1⟩ := lt_some H1
             obtain ⟨m258, em258, H1⟩ := lt_some H1
             refine JY.startM [true, false, true] [] (ba 11 0) ?_
             refine JY.pur (hi := rfl) 0 (ba 11 1) (.map (some b6)) (some 42) want ?_
             refine JY.pur (hi := rfl) 1 (ba 11 3) (.pointer (some ⟨b247, 0, none⟩)) (some 43) want ?_
             refine JY.take (hi := rfl) 2 (ba 11 7) (.int .i64 ((ix l1 x143).I)) (some 44) [true, false, true] want (yields_load_box 1 0 (holds_box b247 47 (cl_47 (ix l1 x143))) tyAgg_3) ?_
             refine JY.pur (hi := rfl) 3 (ba 11 15) (.pointer (some ⟨b247, 1, none⟩)) (some 45) want ?_
             refine JY.take (hi := rfl) 4 (ba 11 31) (.int .i64 ((ix l1 x143).J)) (some 46) [true, false, true] want (yields_load_box 1 1 (holds_box b247 47 (cl_47 (ix l1 x143))) tyAgg_3) ?_
             refine JY.pur (hi := rfl) 5 (ba 11 63) (.agg #[.int .i64 ((ix l1 x143).I), .int .i64 ((ix l1 x143).J)]) (some 47) want ?_
             refine JY.all [6, 8] ⟨⟨_, rfl, ?_⟩, ⟨_, rfl, ?_⟩, trivial⟩
             · refine JL.val (.int .i64 (mgetD m142 (⟨((ix l1 x143).I), ((ix l1 x143).J)⟩ : Pair) 0)) (some 48) (gives_mapGet (b := b6) (l := m142) (ek := mv_78) (ev := mv_3) 1 false 0 (⟨((ix l1 x143).I), ((ix l1 x143).J)⟩ : Pair) (.int .i64 (mgetD m142 (⟨((ix l1 x143).I), ((ix l1 x143).J)⟩ : Pair) 0)) mk_78 Try.underlying76 mz_3 rfl) ?_
               refine JL.nil ?_
               refine JY.ran (ba 11 127) [true, false, true] ?_
               refine JY.pur (hi := rfl) 7 (ba 11 255) (.int .i64 (w64 ((mgetD m142 (⟨((ix l1 x143).I), ((ix l1 x143).J)⟩ : Pair) 0) + 1))) (some 49) want ?_
               refine JY.all [8] ⟨⟨_, rfl, ?_⟩, trivial⟩
               refine JL.mapEntry (b := b6) (l := m142) (ek := mv_78) (ev := mv_3) 1 0 (⟨((ix l1 x143).I), ((ix l1 x143).J)⟩ : Pair) mk_78 Try.underlying76 mz_3 ?_
               rw [em256]
               intro s260
               refine JL.nil ?_
               refine JY.ran (ba 11 511) [true, false, true] ?_
               refine JY.pur (hi := rfl) 9 (ba 11 1023) (.int .i64 (s260 : Int)) (some 51) want ?_
               refine JY.all [10] ⟨⟨_, rfl, ?_⟩, trivial⟩
               refine JL.entryStore (b := b6) (l := m256) (ek := mv_78) (ev := mv_3) (s := s260) 1 (⟨((ix l1 x143).I), ((ix l1 x143).J)⟩ : Pair) (w64 ((mgetD m142 (⟨((ix l1 x143).I), ((ix l1 x143).J)⟩ : Pair) 0) + 1)) ?_
               rw [em258]
               refine JL.nil ?_
               refine JY.ran (ba 11 2047) [true, false, true] ?_
               refine JY.done ?_
               refine JQ.blk_normal ?_
               refine JQ.then_normal ?_
               exact JQ.meet m258 ((some ⟨g245, o246, none⟩), c140) H1 (fun _ h => Heap.to (Heap.pick [0, 1] (by decide) h))
             · refine JL.mapEntry (b := b6) (l := m142) (ek := mv_78) (ev := mv_3) 1 0 (⟨((ix l1 x143).I), ((ix l1 x143).J)⟩ : Pair) mk_78 Try.underlying76 mz_3 ?_
               rw [em256]
               intro s263
               refine JL.nil ?_
               refine JY.ran (ba 11 319) [true, false, true] ?_
               refine JY.pur (hi := rfl) 9 (ba 11 831) (.int .i64 (s263 : Int)) (some 51) want ?_
               refine JY.all [6] ⟨⟨_, rfl, ?_⟩, trivial⟩
               refine JL.val (.int .i64 (mgetD m142 (⟨((ix l1 x143).I), ((ix l1 x143).J)⟩ : Pair) 0)) (some 48) (gives_mapGetE (b := b6) (l := m142) (l2 := m256) (s := s263) (ek := mv_78) (ev := mv_3) 1 0 (⟨((ix l1 x143).I), ((ix l1 x143).J)⟩ : Pair) (.int .i64 (mgetD m142 (⟨((ix l1 x143).I), ((ix l1 x143).J)⟩ : Pair) 0)) em256 mk_78 Try.underlying76 mz_3 rfl) ?_
               refine JL.nil ?_
               refine JY.ran (ba 11 895) [true, false, true] ?_
               refine JY.pur (hi := rfl) 7 (ba 11 1023) (.int .i64 (w64 ((mgetD m142 (⟨((ix l1 x143).I), ((ix l1 x143).J)⟩ : Pair) 0) + 1))) (some 49) want ?_
               refine JY.all [10] ⟨⟨_, rfl, ?_⟩, trivial⟩
               refine JL.entryStore (b := b6) (l := m256) (ek := mv_78) (ev := mv_3) (s := s263) 1 (⟨((ix l1 x143).I), ((ix l1 x143).J)⟩ : Pair) (w64 ((mgetD m142 (⟨((ix l1 x143).I), ((ix l1 x143).J)⟩ : Pair) 0) + 1)) ?_
               rw [em258]
               refine JL.nil ?_
               refine JY.ran (ba 11 2047) [true, false, true] ?_
               refine JY.done ?_
               refine JQ.blk_normal ?_
               refine JQ.then_normal ?_
               exact JQ.meet m258 ((some ⟨g245, o246, none⟩), c140) H1 (fun _ h => Heap.to (Heap.pick [0, 1] (by decide) h))
       · clear H1
         rintro m242 ⟨Aa239, c240⟩ H1
         replace H1 : closure_Check.k13 x143 m242 = some st1 := H1
         unfold closure_Check.k13 at H1
         refine JQ.sub [(0, .slice Aa239 l1.length c240), (3, .map (some b6)), (10, .slice Aa239 l1.length c240), (11, .int .i64 (l1.length : Int)), (12, .int .i64 x143)] ?_
         refine JQ.turn (Δ' := [At.rd Aa239 c240 fl_Vis.kd l1 true, At.mp b6 mv_78 mv_3 m242]) (fun _ h => h.to) ?_
         refine J.region ?_
         refine JL.pur (.int .i64 (w64 (x143 + 1))) (some 52) ?_
         refine JL.mv (.int .i64 (w64 (x143 + 1))) ?_
         refine JL.en ?_
         exact JQ.again (m242, w64 (x143 + 1)) (Aa239, c240) (Option.some.inj H1).symm (fun _ h => Heap.to h)
     · refine J.cond_false h210 ?_
       refine J.exit ?_
       refine JQ.then_exit ?_
       refine JQ.then_exit ?_
       refine JQ.blk_exit ?_
       rw [hb1 _ (Option.some.inj H1).symm, fin_brk] at H0
       exact JQ.met m142 (Aa139, c140) H0 (fun _ h => Heap.to h)
   · clear hit H0
     rintro m208 ⟨Aa205, c206⟩ H0
     replace H0 : closure_Check.k11 l1 m208 = some r := H0
     unfold closure_Check.k11 at H0
     refine JQ.sub [(0, .slice Aa205 l1.length c206), (3, .map (some b6))] ?_
     refine JQ.turn (Δ' := [At.rd Aa205 c206 fl_Vis.kd l1 true, At.mp b6 mv_78 mv_3 m208]) (fun _ h => h.to) ?_
     refine JQ.then_normal ?_
     refine J.seq ?_
     refine J.sr ?_
     refine JL.mv (.map (some b6)) ?_
     refine JL.val (.int .i64 (m208.length : Int)) (some 54) (gives_mapLen (b := b6) (l := m208) (ek := mv_78) (ev := mv_3) 1 Try.underlying76) ?_
     refine JL.mv (.slice Aa205 l1.length c206) ?_
     refine JL.pur (.int .i64 (l1.length : Int)) (some 56) ?_
     refine JL.pur (.bool (decide ((m208.length : Int) < (l1.length : Int)))) (some 57) ?_
     refine JL.es [(57, .bool (decide ((m208.length : Int) < (l1.length : Int))))] ?_
     refine JQ.mask [] [false, false] ?_
     rcases ite_cases H0 with ⟨h209, H0⟩ | ⟨h209, H0⟩
     · refine J.cond_true h209 ?_
       refine J.sr ?_
       refine JL.as (.int .i64 14) ?_
       refine JL.es [(2, .int .i64 14)] ?_
       refine J.ret ?_
       refine JQ.then_ret ?_
       obtain rfl := Option.some.inj H0
       exact JQ.done' (rs := [.tmp 2]) (vs := [.int .i64 14]) [] (.inr rfl) ⟨by kernel_rfl, trivial⟩ (fun _ h => Heap.to h) ⟨rfl, rfl⟩
     · refine J.cond_false h209 ?_
       refine J.skip ?_
       refine JQ.ts [] ?_
       refine J.sr ?_
       refine JL.as (.int .i64 0) ?_
       refine JL.en ?_
       refine J.ret ?_
       obtain rfl := Option.some.inj H0
       exact JQ.done' (rs := [.tmp 2]) (vs := [.int .i64 0]) [] (.inr rfl) ⟨by kernel_rfl, trivial⟩ (fun _ h => Heap.to h) ⟨rfl, rfl⟩

theorem corrupt_baselines_1.ok (v1 : Vis) (w2 : Vis) (r : Bool) (H0 : corrupt_baselines_1.f v1 w2 = some r) :
    Does Try.prog 50 [mv_47 v1, mv_47 w2].toArray [] [] false (fun v Δ => v = .bool r ∧ Δ = []) := by
 refine Does.body (vs := [mv_47 v1, mv_47 w2]) Try.func50 rfl trivial trivial fun w S => ?_
 unfold corrupt_baselines_1.f at H0
 refine J.sr ?_
 refine JL.box (cl_47 v1) fun b3 => ?_
 refine JL.box (cl_47 w2) fun b4 => ?_
 refine JL.as (.bool false) ?_
 refine JL.es [(2, .pointer (some ⟨b3, 0, none⟩)), (3, .pointer (some ⟨b4, 0, none⟩))] ?_
 refine J.sr ?_
 refine JL.pur (.pointer (some ⟨b3, 0, none⟩)) (some 5) ?_
 refine JL.val (.int .i64 v1.I) (some 6) (yields_load_box 0 0 (holds_box b3 47 (cl_47 v1)) tyAgg_3) ?_
 refine JL.pur (.pointer (some ⟨b4, 0, none⟩)) (some 7) ?_
 refine JL.val (.int .i64 w2.I) (some 8) (yields_load_box 1 0 (holds_box b4 47 (cl_47 w2)) tyAgg_3) ?_
 refine JL.pur (.bool (decide (v1.I = w2.I))) (some 9) ?_
 refine JL.mv (.bool (decide (v1.I = w2.I))) ?_
 rcases ite_cases H0 with ⟨h5, H0⟩ | ⟨h5, H0⟩
 · refine JL.on 5 10 h5 ?_
   refine JL.pur (.pointer (some ⟨b3, 1, none⟩)) (some 11) ?_
   refine JL.on 5 10 h5 ?_
   refine JL.val (.int .i64 v1.J) (some 12) (yields_load_box 0 1 (holds_box b3 47 (cl_47 v1)) tyAgg_3) ?_
   refine JL.on 5 10 h5 ?_
   refine JL.pur (.pointer (some ⟨b4, 1, none⟩)) (some 13) ?_
   refine JL.on 5 10 h5 ?_
   refine JL.val (.int .i64 w2.J) (some 14) (yields_load_box 1 1 (holds_box b4 47 (cl_47 w2)) tyAgg_3) ?_
   refine JL.on 5 10 h5 ?_
   refine JL.pur (.bool (decide (v1.J = w2.J))) (some 15) ?_
   refine JL.val (.bool (decide (v1.J = w2.J))) (some 16) (gives_pickT h5) ?_
   refine JL.as (.bool (decide (v1.J = w2.J))) ?_
   refine JL.es [(4, .bool (decide (v1.J = w2.J)))] ?_
   refine JQ.mask [] [false, false] ?_
   refine J.ret ?_
   obtain rfl := Option.some.inj H0
   exact JQ.done' (rs := [.tmp 4]) (vs := [.bool (decide (v1.J = w2.J))]) [] (.inr rfl) ⟨by kernel_rfl, trivial⟩ (fun _ h => Heap.to h) ⟨rfl, rfl⟩
 · refine JL.off 5 10 true (some 11) h5 ?_
   refine JL.off 5 10 true (some 12) h5 ?_
   refine JL.off 5 10 true (some 13) h5 ?_
   refine JL.off 5 10 true (some 14) h5 ?_
   refine JL.off 5 10 true (some 15) h5 ?_
   refine JL.val (.bool false) (some 16) (gives_pickF h5) ?_
   refine JL.as (.bool false) ?_
   refine JL.es [(4, .bool false)] ?_
   refine JQ.mask [] [false, false] ?_
   refine J.ret ?_
   obtain rfl := Option.some.inj H0
   exact JQ.done' (rs := [.tmp 4]) (vs := [.bool false]) [] (.inr rfl) ⟨by kernel_rfl, trivial⟩ (fun _ h => Heap.to h) ⟨rfl, rfl⟩

theorem slices_EqualFunc__api_Vis_api_Vis_api_Vis_api_Vis__corrupt_baselines_1.ok (s1 : (List Vis)) (Aa2 : Option Addr) (c3 : Nat) (s5 : (List Vis)) (Aa6 : Option Addr) (c7 : Nat) (r : Bool) (H0 : slices_EqualFunc__api_Vis_api_Vis_api_Vis_api_Vis__corrupt_baselines_1.f s1 s5 = some r) :
    Does Try.prog 49 [.slice Aa2 s1.length c3, .slice Aa6 s5.length c7, .func (.func 50) #[] #[]].toArray [At.rd Aa2 c3 fl_Vis.kd s1 true, At.rd Aa6 c7 fl_Vis.kd s5 true] [] false (fun v Δ => v = .bool r ∧ Δ = []) := by
 refine Does.body (vs := [.slice Aa2 s1.length c3, .slice Aa6 s5.length c7, .func (.func 50) #[] #[]]) Try.func49 rfl ⟨.inl rfl, .inl rfl, trivial⟩ trivial fun w S => ?_
 unfold slices_EqualFunc__api_Vis_api_Vis_api_Vis_api_Vis__corrupt_baselines_1.f at H0
 refine J.sr ?_
 refine JL.as (.bool false) ?_
 refine JL.es [(0, .slice Aa2 s1.length c3), (1, .slice Aa6 s5.length c7), (2, .func (.func 50) #[] #[])] ?_
 refine J.seq ?_
 refine J.sr ?_
 refine JL.mv (.slice Aa2 s1.length c3) ?_
 refine JL.pur (.int .i64 (s1.length : Int)) (some 11) ?_
 refine JL.mv (.slice Aa6 s5.length c7) ?_
 refine JL.pur (.int .i64 (s5.length : Int)) (some 13) ?_
 refine JL.pur (.bool (!decide ((s1.length : Int) = (s5.length : Int)))) (some 14) ?_
 refine JL.es [(0, .slice Aa2 s1.length c3), (1, .slice Aa6 s5.length c7), (2, .func (.func 50) #[] #[]), (14, .bool (!decide ((s1.length : Int) = (s5.length : Int))))] ?_
 rcases ite_cases H0 with ⟨h9, H0⟩ | ⟨h9, H0⟩
 · refine J.cond_true h9 ?_
   refine J.sr ?_
   refine JL.as (.bool false) ?_
   refine JL.es [(6, .bool false)] ?_
   refine JQ.mask [] [false, false] ?_
   refine J.ret ?_
   refine JQ.then_ret ?_
   obtain rfl := Option.some.inj H0
   exact JQ.done' (rs := [.tmp 6]) (vs := [.bool false]) [] (.inr rfl) ⟨by kernel_rfl, trivial⟩ (fun _ h => Heap.to h) ⟨rfl, rfl⟩
 · refine J.cond_false h9 ?_
   refine J.skip ?_
   refine JQ.ts [(0, .slice Aa2 s1.length c3), (1, .slice Aa6 s5.length c7), (2, .func (.func 50) #[] #[])] ?_
   refine J.seq ?_
   refine J.sr ?_
   refine JL.mv (.slice Aa2 s1.length c3) ?_
   refine JL.pur (.int .i64 (s1.length : Int)) (some 16) ?_
   refine JL.mv (.int .i64 0) ?_
   refine JL.es [(1, .slice Aa6 s5.length c7), (2, .func (.func 50) #[] #[]), (15, .slice Aa2 s1.length c3), (16, .int .i64 (s1.length : Int)), (17, .int .i64 0)] ?_
   obtain ⟨o1, hit, H0⟩ := bind_some H0
   refine J.loop (σ := Int) (τ := Unit) (G := Unit) (G' := Unit) _ o1 (fun s g => [(1, .slice Aa6 s5.length c7), (2, .func (.func 50) #[] #[]), (15, .slice Aa2 s1.length c3), (16, .int .i64 (s1.length : Int)), (17, .int .i64 s)]) (fun s g => [At.rd Aa6 c7 fl_Vis.kd s5 true, At.rd Aa2 c3 fl_Vis.kd s1 true]) (fun t => slices_EqualFunc__api_Vis_api_Vis_api_Vis_api_Vis__corrupt_baselines_1.k2 = some r) (fun t g => []) (fun t g => []) 0 () hit (fun _ h => Heap.to (Heap.pick [1, 0] (by decide) h)) ?_ ?_
   · clear hit
     rintro x40 ⟨⟩ st1 H1 hb1 hr1
     replace H1 : slices_EqualFunc__api_Vis_api_Vis_api_Vis_api_Vis__corrupt_baselines_1.s1 s1 s5 x40 = some st1 := H1
     unfold slices_EqualFunc__api_Vis_api_Vis_api_Vis_api_Vis__corrupt_baselines_1.s1 at H1
     refine JQ.sub [(1, .slice Aa6 s5.length c7), (2, .func (.func 50) #[] #[]), (15, .slice Aa2 s1.length c3), (16, .int .i64 (s1.length : Int)), (17, .int .i64 x40)] ?_
     refine JQ.turn (Δ' := [At.rd Aa6 c7 fl_Vis.kd s5 true, At.rd Aa2 c3 fl_Vis.kd s1 true]) (fun _ h => h.to) ?_
     refine J.sr ?_
     refine JL.pur (.bool (decide (x40 < (s1.length : Int)))) (some 18) ?_
     refine JL.en ?_
     refine J.seq ?_
     rcases ite_cases H1 with ⟨h55, H1⟩ | ⟨h55, H1⟩
     · refine J.cond_true h55 ?_
       refine J.skip ?_
       refine JQ.ts [(1, .slice Aa6 s5.length c7), (2, .func (.func 50) #[] #[]), (15, .slice Aa2 s1.length c3), (16, .int .i64 (s1.length : Int)), (17, .int .i64 x40)] ?_
       refine J.seq ?_
       refine J.block ?_
       refine J.sr ?_
       refine JL.mv (.int .i64 x40) ?_
       obtain ⟨⟨h56, h57⟩, H1⟩ := ite_must H1
       refine JL.ixAddr 1 6 c3 .i64 (elems_rd Aa2 c3 fl_Vis.kd s1 true) Try.underlying48 tySize_47 h56 h57 fun g58 o59 hA => ?_
       subst hA
       refine JL.val (mv_47 (ix s1 x40)) (some 21) (gives_loadEl (f := fl_Vis) 1 0 x40 (elems_rd (some ⟨g58, o59, none⟩) c3 fl_Vis.kd s1 true) h56 h57 tySize_47 (.inl ⟨tyAgg_47, rfl⟩)) ?_
       refine JL.alloc (cl_47 zv_47) fun b60 => ?_
       refine JL.as (.int .i64 x40) ?_
       refine JL.store 2 b60 0 47 (cl_47 zv_47) (cl_47 (ix s1 x40)) tySize_47 ?_
       refine JL.es [(1, .slice Aa6 s5.length c7), (2, .func (.func 50) #[] #[]), (7, .int .i64 x40), (8, .pointer (some ⟨b60, 0, none⟩)), (15, .slice (some ⟨g58, o59, none⟩) s1.length c3), (16, .int .i64 (s1.length : Int)), (17, .int .i64 x40)] ?_
       refine J.sr ?_
       refine JL.mv (.slice Aa6 s5.length c7) ?_
       refine JL.mv (.int .i64 x40) ?_
       obtain ⟨⟨h61, h62⟩, H1⟩ := ite_must H1
       refine JL.ixAddr 0 6 c7 .i64 (elems_rd Aa6 c7 fl_Vis.kd s5 true) Try.underlying48 tySize_47 h61 h62 fun g63 o64 hA => ?_
       subst hA
       refine JL.val (mv_47 (ix s5 x40)) (some 25) (gives_loadEl (f := fl_Vis) 0 0 x40 (elems_rd (some ⟨g63, o64, none⟩) c7 fl_Vis.kd s5 true) h61 h62 tySize_47 (.inl ⟨tyAgg_47, rfl⟩)) ?_
       refine JL.alloc (cl_47 zv_47) fun b65 => ?_
       refine JL.store 3 b65 0 47 (cl_47 zv_47) (cl_47 (ix s5 x40)) tySize_47 ?_
       refine JL.es [(1, .slice (some ⟨g63, o64, none⟩) s5.length c7), (2, .func (.func 50) #[] #[]), (8, .pointer (some ⟨b60, 0, none⟩)), (9, .pointer (some ⟨b65, 0, none⟩)), (15, .slice (some ⟨g58, o59, none⟩) s1.length c3), (16, .int .i64 (s1.length : Int)), (17, .int .i64 x40)] ?_
       refine J.sr ?_
       refine JL.mv (.func (.func 50) #[] #[]) ?_
       refine JL.val (mv_47 (ix s1 x40)) (some 27) (yields_load_boxes 2 0 (cl_47 (ix s1 x40)) (holds_box b60 47 (cl_47 (ix s1 x40))) tyAgg_47 tySize_47) ?_
       refine JL.val (mv_47 (ix s5 x40)) (some 28) (yields_load_boxes 3 0 (cl_47 (ix s5 x40)) (holds_box b65 47 (cl_47 (ix s5 x40))) tyAgg_47 tySize_47) ?_
       obtain ⟨t66, hc67, H1⟩ := bind_some H1
       refine JL.call [] [] [] (corrupt_baselines_1.ok (ix s1 x40) (ix s5 x40) _ hc67) trivial ?_
       rintro _ _ ⟨rfl, rfl⟩
       refine JL.pur (.bool (!t66)) (some 30) ?_
       refine JL.es [(1, .slice (some ⟨g63, o64, none⟩) s5.length c7), (2, .func (.func 50) #[] #[]), (15, .slice (some ⟨g58, o59, none⟩) s1.length c3), (16, .int .i64 (s1.length : Int)), (17, .int .i64 x40), (30, .bool (!t66))] ?_
       refine JQ.mask [At.rd (some ⟨g63, o64, none⟩) c7 fl_Vis.kd s5 true, At.rd (some ⟨g58, o59, none⟩) c3 fl_Vis.kd s1 true] [true, true, false, false] ?_
       rcases ite_cases H1 with ⟨h68, H1⟩ | ⟨h68, H1⟩
       · refine J.cond_true h68 ?_
         refine J.sr ?_
         refine JL.as (.bool false) ?_
         refine JL.es [(6, .bool false)] ?_
         refine JQ.mask [] [false, false] ?_
         refine J.ret ?_
         refine JQ.blk_ret ?_
         refine JQ.then_ret ?_
         refine JQ.then_ret ?_
         refine JQ.blk_ret ?_
         refine JQ.met_ret ?_
         refine JQ.then_ret ?_
         rw [hr1 _ (Option.some.inj H1).symm, fin_ret] at H0
         obtain rfl := Option.some.inj H0
         exact JQ.done' (rs := [.tmp 6]) (vs := [.bool false]) [] (.inr rfl) ⟨by kernel_rfl, trivial⟩ (fun _ h => Heap.to h) ⟨rfl, rfl⟩
       · refine J.cond_false h68 ?_
         refine J.skip ?_
         refine JQ.blk_normal ?_
         refine JQ.ts [(1, .slice (some ⟨g63, o64, none⟩) s5.length c7), (2, .func (.func 50) #[] #[]), (15, .slice (some ⟨g58, o59, none⟩) s1.length c3), (16, .int .i64 (s1.length : Int)), (17, .int .i64 x40)] ?_
         refine J.region ?_
         refine JL.pur (.int .i64 (w64 (x40 + 1))) (some 31) ?_
         refine JL.mv (.int .i64 (w64 (x40 + 1))) ?_
         refine JL.en ?_
         exact JQ.again (w64 (x40 + 1)) () (Option.some.inj H1).symm (fun _ h => Heap.to h)
     · refine J.cond_false h55 ?_
       refine J.exit ?_
       refine JQ.then_exit ?_
       refine JQ.then_exit ?_
       refine JQ.blk_exit ?_
       rw [hb1 _ (Option.some.inj H1).symm, fin_brk] at H0
       exact JQ.met () () H0 (fun _ h => Heap.to (Heap.pick [] (by decide) h))
   · clear hit H0
     rintro ⟨⟩ ⟨⟩ H0
     replace H0 : slices_EqualFunc__api_Vis_api_Vis_api_Vis_api_Vis__corrupt_baselines_1.k2 = some r := H0
     unfold slices_EqualFunc__api_Vis_api_Vis_api_Vis_api_Vis__corrupt_baselines_1.k2 at H0
     refine JQ.sub [] ?_
     refine JQ.turn (Δ' := []) (fun _ h => h.to) ?_
     refine JQ.then_normal ?_
     refine J.sr ?_
     refine JL.as (.bool true) ?_
     refine JL.en ?_
     refine J.ret ?_
     obtain rfl := Option.some.inj H0
     exact JQ.done' (rs := [.tmp 6]) (vs := [.bool true]) [] (.inr rfl) ⟨by kernel_rfl, trivial⟩ (fun _ h => Heap.to h) ⟨rfl, rfl⟩

theorem corrupt_baselines.ok (a1 : (List Vis)) (Aa2 : Option Addr) (c3 : Nat) (b5 : (List Vis)) (Aa6 : Option Addr) (c7 : Nat) (r : Bool) (H0 : corrupt_baselines.f a1 b5 = some r) :
    Does Try.prog 35 [.slice Aa2 a1.length c3, .slice Aa6 b5.length c7].toArray [At.rd Aa2 c3 fl_Vis.kd a1 true, At.rd Aa6 c7 fl_Vis.kd b5 true] [] false (fun v Δ => v = .bool r ∧ Δ = []) := by
 refine Does.body (vs := [.slice Aa2 a1.length c3, .slice Aa6 b5.length c7]) Try.func35 rfl ⟨.inl rfl, .inl rfl, trivial⟩ trivial fun w S => ?_
 unfold corrupt_baselines.f at H0
 refine J.sr ?_
 refine JL.as (.bool false) ?_
 refine JL.es [(0, .slice Aa2 a1.length c3), (1, .slice Aa6 b5.length c7)] ?_
 refine J.sr ?_
 refine JL.mv (.slice Aa2 a1.length c3) ?_
 refine JL.mv (.slice Aa6 b5.length c7) ?_
 obtain ⟨t9, hc10, H0⟩ := bind_some H0
 refine JL.call [] [] [] (slices_EqualFunc__api_Vis_api_Vis_api_Vis_api_Vis__corrupt_baselines_1.ok a1 Aa2 c3 b5 Aa6 c7 _ hc10) ⟨pre_any 0 (view_rd Aa2 c3 fl_Vis.kd a1 true true), ⟨pre_any 1 (view_rd Aa6 c7 fl_Vis.kd b5 true true), trivial⟩⟩ ?_
 rintro _ _ ⟨rfl, rfl⟩
 refine JL.as (.bool t9) ?_
 refine JL.es [(4, .bool t9)] ?_
 refine JQ.mask [] [false, false] ?_
 refine J.ret ?_
 obtain rfl := Option.some.inj H0
 exact JQ.done' (rs := [.tmp 4]) (vs := [.bool t9]) [] (.inr rfl) ⟨by kernel_rfl, trivial⟩ (fun _ h => Heap.to h) ⟨rfl, rfl⟩

theorem corrupt_Check_1.ok (l1 : (List Vis)) (Aa2 : Option Addr) (c3 : Nat) (v5 : (List (List Vis))) (b6 : Nat) (Aa7 : Option Addr) (c8 : Nat) (r : Bool) (H0 : corrupt_Check_1.f l1 v5 = some r) :
    Does Try.prog 34 [.slice Aa2 l1.length c3, .pointer (some ⟨b6, 0, none⟩)].toArray [At.rd Aa2 c3 fl_Vis.kd l1 true, At.rd Aa7 c8 fl_Vis.kd.sl v5 true] [At.box b6 37 [.slice Aa7 v5.length c8]] false (fun v Δ => v = .bool r ∧ Δ = [At.box b6 37 [.slice Aa7 v5.length c8]]) := by
 refine Does.body (vs := [.slice Aa2 l1.length c3, .pointer (some ⟨b6, 0, none⟩)]) Try.func34 rfl ⟨.inl rfl, .inl rfl, trivial⟩ ⟨.inr (fun _ _ _ h => h), trivial⟩ fun w S => ?_
 unfold corrupt_Check_1.f at H0
 refine J.sr ?_
 refine JL.as (.bool false) ?_
 refine JL.es [(0, .slice Aa2 l1.length c3), (1, .pointer (some ⟨b6, 0, none⟩))] ?_
 refine J.sr ?_
 refine JL.val (.slice Aa7 v5.length c8) (some 4) (yields_load_box 2 0 (holds_box b6 37 [.slice Aa7 v5.length c8]) tyAgg_37) ?_
 obtain ⟨⟨h10, h11⟩, H0⟩ := ite_must H0
 refine JL.ixAddr 1 1 c8 .i64 (elems_rd Aa7 c8 fl_Vis.kd.sl v5 true) Try.underlying37 tySize_48 h10 h11 fun g12 o13 hA => ?_
 subst hA
 refine JL.loadEl (fun q : Option Addr × Nat => [.slice q.1 (ix v5 0).length q.2]) (fun q : Option Addr × Nat => [At.rd q.1 q.2 fl_Vis.kd (ix v5 0) true]) (fun q : Option Addr × Nat => .slice q.1 (ix v5 0).length q.2) (off := 0) 1 (elems_rd (some ⟨g12, o13, none⟩) c8 fl_Vis.kd.sl v5 true) (opens_sl fl_Vis.kd _ _) h10 h11 tySize_48 (.inr ⟨tyAgg_48, rfl, fun _ => rfl⟩) ?_
 rintro ⟨Aa14, c15⟩
 refine JL.mv (.slice Aa2 l1.length c3) ?_
 obtain ⟨t17, hc18, H0⟩ := bind_some H0
 refine JL.call [] [] [] (corrupt_baselines.ok (ix v5 0) Aa14 c15 l1 Aa2 c3 _ hc18) ⟨pre_any 3 (view_rd Aa14 c15 fl_Vis.kd (ix v5 0) true true), ⟨pre_any 0 (view_rd Aa2 c3 fl_Vis.kd l1 true true), trivial⟩⟩ ?_
 rintro _ _ ⟨rfl, rfl⟩
 refine JL.pur (.bool (!t17)) (some 9) ?_
 refine JL.as (.bool (!t17)) ?_
 refine JL.es [(3, .bool (!t17))] ?_
 refine JQ.mask [At.rd (some ⟨g12, o13, none⟩) c8 fl_Vis.kd.sl v5 true, At.box b6 37 [.slice (some ⟨g12, o13, none⟩) v5.length c8]] [false, true, true, false] ?_
 refine J.ret ?_
 obtain rfl := Option.some.inj H0
 exact JQ.done' (rs := [.tmp 3]) (vs := [.bool (!t17)]) [At.box b6 37 [.slice (some ⟨g12, o13, none⟩) v5.length c8]] (.inr rfl) ⟨by kernel_rfl, trivial⟩ (fun _ h => Heap.to (Heap.pick [1] (by decide) h)) ⟨rfl, rfl⟩

theorem slices_IndexFunc__api_Vis_api_Vis__corrupt_Check_1.ok (s1 : (List (List Vis))) (Aa2 : Option Addr) (c3 : Nat) (v5 : (List (List Vis))) (b6 : Nat) (Aa7 : Option Addr) (c8 : Nat) (r : Int) (H0 : slices_IndexFunc__api_Vis_api_Vis__corrupt_Check_1.f s1 v5 = some r) :
    Does Try.prog 48 [.slice Aa2 s1.length c3, .func (.func 34) #[] #[.pointer (some ⟨b6, 0, none⟩)]].toArray [At.rd Aa2 c3 fl_Vis.kd.sl s1 true, At.rd Aa7 c8 fl_Vis.kd.sl v5 true] [At.box b6 37 [.slice Aa7 v5.length c8]] false (fun v Δ => v = .int .i64 r ∧ Δ = [At.box b6 37 [.slice Aa7 v5.length c8]]) := by
 refine Does.body (vs := [.slice Aa2 s1.length c3, .func (.func 34) #[] #[.pointer (some ⟨b6, 0, none⟩)]]) Try.func48 rfl ⟨.inl rfl, .inl rfl, trivial⟩ ⟨.inr (fun _ _ _ h => h), trivial⟩ fun w S => ?_
 unfold slices_IndexFunc__api_Vis_api_Vis__corrupt_Check_1.f at H0
 refine J.sr ?_
 refine JL.as (.int .i64 0) ?_
 refine JL.es [(0, .slice Aa2 s1.length c3), (1, .func (.func 34) #[] #[.pointer (some ⟨b6, 0, none⟩)])] ?_
 refine J.seq ?_
 refine J.sr ?_
 refine JL.mv (.slice Aa2 s1.length c3) ?_
 refine JL.pur (.int .i64 (s1.length : Int)) (some 7) ?_
 refine JL.mv (.int .i64 0) ?_
 refine JL.es [(0, .slice Aa2 s1.length c3), (1, .func (.func 34) #[] #[.pointer (some ⟨b6, 0, none⟩)]), (7, .int .i64 (s1.length : Int)), (8, .int .i64 0)] ?_
 obtain ⟨o1, hit, H0⟩ := bind_some H0
 refine J.loop (σ := Int) (τ := Unit) (G := Unit) (G' := Unit) _ o1 (fun s g => [(0, .slice Aa2 s1.length c3), (1, .func (.func 34) #[] #[.pointer (some ⟨b6, 0, none⟩)]), (7, .int .i64 (s1.length : Int)), (8, .int .i64 s)]) (fun s g => [At.rd Aa2 c3 fl_Vis.kd.sl s1 true, At.box b6 37 [.slice Aa7 v5.length c8], At.rd Aa7 c8 fl_Vis.kd.sl v5 true]) (fun t => slices_IndexFunc__api_Vis_api_Vis__corrupt_Check_1.k2 = some r) (fun t g => []) (fun t g => [At.box b6 37 [.slice Aa7 v5.length c8], At.rd Aa7 c8 fl_Vis.kd.sl v5 true]) 0 () hit (fun _ h => Heap.to (Heap.pick [0, 2, 1] (by decide) h)) ?_ ?_
 · clear hit
   rintro x34 ⟨⟩ st1 H1 hb1 hr1
   replace H1 : slices_IndexFunc__api_Vis_api_Vis__corrupt_Check_1.s1 s1 v5 x34 = some st1 := H1
   unfold slices_IndexFunc__api_Vis_api_Vis__corrupt_Check_1.s1 at H1
   refine JQ.sub [(0, .slice Aa2 s1.length c3), (1, .func (.func 34) #[] #[.pointer (some ⟨b6, 0, none⟩)]), (7, .int .i64 (s1.length : Int)), (8, .int .i64 x34)] ?_
   refine JQ.turn (Δ' := [At.rd Aa2 c3 fl_Vis.kd.sl s1 true, At.box b6 37 [.slice Aa7 v5.length c8], At.rd Aa7 c8 fl_Vis.kd.sl v5 true]) (fun _ h => h.to) ?_
   refine J.sr ?_
   refine JL.pur (.bool (decide (x34 < (s1.length : Int)))) (some 9) ?_
   refine JL.en ?_
   refine J.seq ?_
   rcases ite_cases H1 with ⟨h46, H1⟩ | ⟨h46, H1⟩
   · refine J.cond_true h46 ?_
     refine J.skip ?_
     refine JQ.ts [(0, .slice Aa2 s1.length c3), (1, .func (.func 34) #[] #[.pointer (some ⟨b6, 0, none⟩)]), (7, .int .i64 (s1.length : Int)), (8, .int .i64 x34)] ?_
     refine J.seq ?_
     refine J.block ?_
     refine J.sr ?_
     refine JL.mv (.int .i64 x34) ?_
     refine JL.as (.int .i64 x34) ?_
     refine JL.es [(0, .slice Aa2 s1.length c3), (1, .func (.func 34) #[] #[.pointer (some ⟨b6, 0, none⟩)]), (5, .int .i64 x34), (7, .int .i64 (s1.length : Int)), (8, .int .i64 x34)] ?_
     refine J.sr ?_
     refine JL.mv (.func (.func 34) #[] #[.pointer (some ⟨b6, 0, none⟩)]) ?_
     refine JL.mv (.slice Aa2 s1.length c3) ?_
     refine JL.mv (.int .i64 x34) ?_
     obtain ⟨⟨h47, h48⟩, H1⟩ := ite_must H1
     refine JL.ixAddr 0 1 c3 .i64 (elems_rd Aa2 c3 fl_Vis.kd.sl s1 true) Try.underlying37 tySize_48 h47 h48 fun g49 o50 hA => ?_
     subst hA
     refine JL.loadEl (fun q : Option Addr × Nat => [.slice q.1 (ix s1 x34).length q.2]) (fun q : Option Addr × Nat => [At.rd q.1 q.2 fl_Vis.kd (ix s1 x34) true]) (fun q : Option Addr × Nat => .slice q.1 (ix s1 x34).length q.2) (off := 0) 0 (elems_rd (some ⟨g49, o50, none⟩) c3 fl_Vis.kd.sl s1 true) (opens_sl fl_Vis.kd _ _) h47 h48 tySize_48 (.inr ⟨tyAgg_48, rfl, fun _ => rfl⟩) ?_
     rintro ⟨Aa51, c52⟩
     obtain ⟨t54, hc55, H1⟩ := bind_some H1
     refine JL.call [] [.pointer (some ⟨b6, 0, none⟩)] [false, true] (corrupt_Check_1.ok (ix s1 x34) Aa51 c52 v5 b6 Aa7 c8 _ hc55) ⟨pre_any 2 (view_rd Aa51 c52 fl_Vis.kd (ix s1 x34) true true), ⟨pre_any 1 (view_rd Aa7 c8 fl_Vis.kd.sl v5 true true), trivial⟩⟩ ?_
     rintro _ _ ⟨rfl, rfl⟩
     refine JL.es [(0, .slice (some ⟨g49, o50, none⟩) s1.length c3), (1, .func (.func 34) #[] #[.pointer (some ⟨b6, 0, none⟩)]), (5, .int .i64 x34), (7, .int .i64 (s1.length : Int)), (8, .int .i64 x34), (16, .bool t54)] ?_
     refine JQ.mask [At.rd (some ⟨g49, o50, none⟩) c3 fl_Vis.kd.sl s1 true, At.rd Aa7 c8 fl_Vis.kd.sl v5 true, At.box b6 37 [.slice Aa7 v5.length c8]] [true, true, false, true] ?_
     rcases ite_cases H1 with ⟨h56, H1⟩ | ⟨h56, H1⟩
     · refine J.cond_true h56 ?_
       refine J.sr ?_
       refine JL.mv (.int .i64 x34) ?_
       refine JL.as (.int .i64 x34) ?_
       refine JL.es [(4, .int .i64 x34)] ?_
       refine JQ.mask [At.rd Aa7 c8 fl_Vis.kd.sl v5 true, At.box b6 37 [.slice Aa7 v5.length c8]] [false, true, true] ?_
       refine J.ret ?_
       refine JQ.blk_ret ?_
       refine JQ.then_ret ?_
       refine JQ.then_ret ?_
       refine JQ.blk_ret ?_
       refine JQ.met_ret ?_
       refine JQ.then_ret ?_
       rw [hr1 _ (Option.some.inj H1).symm, fin_ret] at H0
       obtain rfl := Option.some.inj H0
       exact JQ.done' (rs := [.tmp 4]) (vs := [.int .i64 x34]) [At.box b6 37 [.slice Aa7 v5.length c8]] (.inr rfl) ⟨by kernel_rfl, trivial⟩ (fun _ h => Heap.to (Heap.pick [1] (by decide) h)) ⟨rfl, rfl⟩
     · refine J.cond_false h56 ?_
       refine J.skip ?_
       refine JQ.blk_normal ?_
       refine JQ.ts [(0, .slice (some ⟨g49, o50, none⟩) s1.length c3), (1, .func (.func 34) #[] #[.pointer (some ⟨b6, 0, none⟩)]), (7, .int .i64 (s1.length : Int)), (8, .int .i64 x34)] ?_
       refine J.region ?_
       refine JL.pur (.int .i64 (w64 (x34 + 1))) (some 18) ?_
       refine JL.mv (.int .i64 (w64 (x34 + 1))) ?_
       refine JL.en ?_
       exact JQ.again (w64 (x34 + 1)) () (Option.some.inj H1).symm (fun _ h => Heap.to (Heap.pick [0, 2, 1] (by decide) h))
   · refine J.cond_false h46 ?_
     refine J.exit ?_
     refine JQ.then_exit ?_
     refine JQ.then_exit ?_
     refine JQ.blk_exit ?_
     rw [hb1 _ (Option.some.inj H1).symm, fin_brk] at H0
     exact JQ.met () () H0 (fun _ h => Heap.to (Heap.pick [1, 2] (by decide) h))
 · clear hit H0
   rintro ⟨⟩ ⟨⟩ H0
   replace H0 : slices_IndexFunc__api_Vis_api_Vis__corrupt_Check_1.k2 = some r := H0
   unfold slices_IndexFunc__api_Vis_api_Vis__corrupt_Check_1.k2 at H0
   refine JQ.sub [] ?_
   refine JQ.turn (Δ' := [At.box b6 37 [.slice Aa7 v5.length c8], At.rd Aa7 c8 fl_Vis.kd.sl v5 true]) (fun _ h => h.to) ?_
   refine JQ.then_normal ?_
   refine J.sr ?_
   refine JL.as (.int .i64 (-1)) ?_
   refine JL.en ?_
   refine J.ret ?_
   obtain rfl := Option.some.inj H0
   exact JQ.done' (rs := [.tmp 4]) (vs := [.int .i64 (-1)]) [At.box b6 37 [.slice Aa7 v5.length c8]] (.inr rfl) ⟨by kernel_rfl, trivial⟩ (fun _ h => Heap.to (Heap.pick [0] (by decide) h)) ⟨rfl, rfl⟩

theorem slices_ContainsFunc__api_Vis_api_Vis__corrupt_Check_1.ok (s1 : (List (List Vis))) (Aa2 : Option Addr) (c3 : Nat) (v5 : (List (List Vis))) (b6 : Nat) (Aa7 : Option Addr) (c8 : Nat) (r : Bool) (H0 : slices_ContainsFunc__api_Vis_api_Vis__corrupt_Check_1.f s1 v5 = some r) :
    Does Try.prog 33 [.slice Aa2 s1.length c3, .func (.func 34) #[] #[.pointer (some ⟨b6, 0, none⟩)]].toArray [At.rd Aa2 c3 fl_Vis.kd.sl s1 true, At.rd Aa7 c8 fl_Vis.kd.sl v5 true] [At.box b6 37 [.slice Aa7 v5.length c8]] false (fun v Δ => v = .bool r ∧ Δ = [At.box b6 37 [.slice Aa7 v5.length c8]]) := by
 refine Does.body (vs := [.slice Aa2 s1.length c3, .func (.func 34) #[] #[.pointer (some ⟨b6, 0, none⟩)]]) Try.func33 rfl ⟨.inl rfl, .inl rfl, trivial⟩ ⟨.inr (fun _ _ _ h => h), trivial⟩ fun w S => ?_
 unfold slices_ContainsFunc__api_Vis_api_Vis__corrupt_Check_1.f at H0
 refine J.sr ?_
 refine JL.as (.bool false) ?_
 refine JL.es [(0, .slice Aa2 s1.length c3), (1, .func (.func 34) #[] #[.pointer (some ⟨b6, 0, none⟩)])] ?_
 refine J.sr ?_
 refine JL.mv (.slice Aa2 s1.length c3) ?_
 refine JL.mv (.func (.func 34) #[] #[.pointer (some ⟨b6, 0, none⟩)]) ?_
 obtain ⟨t10, hc11, H0⟩ := bind_some H0
 refine JL.call [] [] [false, false, true] (slices_IndexFunc__api_Vis_api_Vis__corrupt_Check_1.ok s1 Aa2 c3 v5 b6 Aa7 c8 _ hc11) ⟨pre_any 0 (view_rd Aa2 c3 fl_Vis.kd.sl s1 true true), ⟨pre_any 1 (view_rd Aa7 c8 fl_Vis.kd.sl v5 true true), trivial⟩⟩ ?_
 rintro _ _ ⟨rfl, rfl⟩
 refine JL.pur (.bool (decide (0 ≤ t10))) (some 8) ?_
 refine JL.as (.bool (decide (0 ≤ t10))) ?_
 refine JL.es [(4, .bool (decide (0 ≤ t10)))] ?_
 refine JQ.mask [At.rd Aa7 c8 fl_Vis.kd.sl v5 true, At.box b6 37 [.slice Aa7 v5.length c8]] [false, true, true] ?_
 refine J.ret ?_
 obtain rfl := Option.some.inj H0
 exact JQ.done' (rs := [.tmp 4]) (vs := [.bool (decide (0 ≤ t10))]) [At.box b6 37 [.slice Aa7 v5.length c8]] (.inr rfl) ⟨by kernel_rfl, trivial⟩ (fun _ h => Heap.to (Heap.pick [1] (by decide) h)) ⟨rfl, rfl⟩

theorem corrupt_Check.ok (s1 : (List (List Vis))) (Aa2 : Option Addr) (c3 : Nat) (r : Int) (H0 : corrupt_Check.f s1 = some r) :
    Does Try.prog 16 [.slice Aa2 s1.length c3].toArray [At.rd Aa2 c3 fl_Vis.kd.sl s1 true] [] false (fun v Δ => v = .int .i64 r ∧ Δ = []) := by
 refine Does.body (vs := [.slice Aa2 s1.length c3]) Try.func16 rfl ⟨.inl rfl, trivial⟩ trivial fun w S => ?_
 unfold corrupt_Check.f at H0
 refine J.sr ?_
 refine JL.box [.slice Aa2 s1.length c3] fun b5 => ?_
 refine JL.as (.int .i64 0) ?_
 refine JL.es [(1, .pointer (some ⟨b5, 0, none⟩))] ?_
 refine J.seq ?_
 refine J.sr ?_
 refine JL.val (.slice Aa2 s1.length c3) (some 6) (yields_load_box 1 0 (holds_box b5 37 [.slice Aa2 s1.length c3]) tyAgg_37) ?_
 refine JL.pur (.int .i64 (s1.length : Int)) (some 7) ?_
 refine JL.pur (.bool (decide (32 < (s1.length : Int)))) (some 8) ?_
 refine JL.es [(1, .pointer (some ⟨b5, 0, none⟩)), (8, .bool (decide (32 < (s1.length : Int))))] ?_
 rcases ite_cases H0 with ⟨h6, H0⟩ | ⟨h6, H0⟩
 · refine J.cond_true h6 ?_
   refine J.sr ?_
   refine JL.as (.int .i64 4) ?_
   refine JL.es [(2, .int .i64 4)] ?_
   refine JQ.mask [] [false, false] ?_
   refine J.ret ?_
   refine JQ.then_ret ?_
   obtain rfl := Option.some.inj H0
   exact JQ.done' (rs := [.tmp 2]) (vs := [.int .i64 4]) [] (.inr rfl) ⟨by kernel_rfl, trivial⟩ (fun _ h => Heap.to h) ⟨rfl, rfl⟩
 · refine J.cond_false h6 ?_
   refine J.skip ?_
   refine JQ.ts [(1, .pointer (some ⟨b5, 0, none⟩))] ?_
   refine J.seq ?_
   refine J.sr ?_
   refine JL.val (.slice Aa2 s1.length c3) (some 9) (yields_load_box 1 0 (holds_box b5 37 [.slice Aa2 s1.length c3]) tyAgg_37) ?_
   refine JL.pur (.int .i64 (s1.length : Int)) (some 10) ?_
   refine JL.mv (.int .i64 0) ?_
   refine JL.en ?_
   obtain ⟨o1, hit, H0⟩ := bind_some H0
   refine J.loop (σ := Int) (τ := Unit) (G := Unit) (G' := Unit) _ o1 (fun s g => [(1, .pointer (some ⟨b5, 0, none⟩)), (9, .slice Aa2 s1.length c3), (10, .int .i64 (s1.length : Int)), (11, .int .i64 s)]) (fun s g => [At.box b5 37 [.slice Aa2 s1.length c3], At.rd Aa2 c3 fl_Vis.kd.sl s1 true]) (fun t => corrupt_Check.k2 s1 = some r) (fun t g => [(1, .pointer (some ⟨b5, 0, none⟩))]) (fun t g => [At.box b5 37 [.slice Aa2 s1.length c3], At.rd Aa2 c3 fl_Vis.kd.sl s1 true]) 0 () hit (fun _ h => Heap.to (Heap.pick [1, 0] (by decide) h)) ?_ ?_
   · clear hit
     rintro x31 ⟨⟩ st1 H1 hb1 hr1
     replace H1 : corrupt_Check.s1 s1 x31 = some st1 := H1
     unfold corrupt_Check.s1 at H1
     refine JQ.sub [(1, .pointer (some ⟨b5, 0, none⟩)), (9, .slice Aa2 s1.length c3), (10, .int .i64 (s1.length : Int)), (11, .int .i64 x31)] ?_
     refine JQ.turn (Δ' := [At.box b5 37 [.slice Aa2 s1.length c3], At.rd Aa2 c3 fl_Vis.kd.sl s1 true]) (fun _ h => h.to) ?_
     refine J.sr ?_
     refine JL.pur (.bool (decide (x31 < (s1.length : Int)))) (some 12) ?_
     refine JL.en ?_
     refine J.seq ?_
     rcases ite_cases H1 with ⟨h46, H1⟩ | ⟨h46, H1⟩
     · refine J.cond_true h46 ?_
       refine J.skip ?_
       refine JQ.ts [(1, .pointer (some ⟨b5, 0, none⟩)), (9, .slice Aa2 s1.length c3), (10, .int .i64 (s1.length : Int)), (11, .int .i64 x31)] ?_
       refine J.seq ?_
       refine J.block ?_
       refine J.sr ?_
       obtain ⟨⟨h47, h48⟩, H1⟩ := ite_must H1
       refine JL.ixAddr 1 1 c3 .i64 (elems_rd Aa2 c3 fl_Vis.kd.sl s1 true) Try.underlying37 tySize_48 h47 h48 fun g49 o50 hA => ?_
       subst hA
       refine JL.loadEl (fun q : Option Addr × Nat => [.slice q.1 (ix s1 x31).length q.2]) (fun q : Option Addr × Nat => [At.rd q.1 q.2 fl_Vis.kd (ix s1 x31) true]) (fun q : Option Addr × Nat => .slice q.1 (ix s1 x31).length q.2) (off := 0) 1 (elems_rd (some ⟨g49, o50, none⟩) c3 fl_Vis.kd.sl s1 true) (opens_sl fl_Vis.kd _ _) h47 h48 tySize_48 (.inr ⟨tyAgg_48, rfl, fun _ => rfl⟩) ?_
       rintro ⟨Aa51, c52⟩
       refine JL.as (.slice Aa51 (ix s1 x31).length c52) ?_
       refine JL.es [(1, .pointer (some ⟨b5, 0, none⟩)), (4, .slice Aa51 (ix s1 x31).length c52), (9, .slice (some ⟨g49, o50, none⟩) s1.length c3), (10, .int .i64 (s1.length : Int)), (11, .int .i64 x31)] ?_
       refine J.sr ?_
       refine JL.mv (.slice Aa51 (ix s1 x31).length c52) ?_
       obtain ⟨t54, hc55, H1⟩ := bind_some H1
       refine JL.call [] [] [] (closure_Check.ok (ix s1 x31) Aa51 c52 _ hc55) ⟨pre_any 2 (view_rd Aa51 c52 fl_Vis.kd (ix s1 x31) true true), trivial⟩ ?_
       rintro _ _ ⟨rfl, rfl⟩
       refine JL.as (.int .i64 t54) ?_
       refine JL.es [(1, .pointer (some ⟨b5, 0, none⟩)), (5, .int .i64 t54), (9, .slice (some ⟨g49, o50, none⟩) s1.length c3), (10, .int .i64 (s1.length : Int)), (11, .int .i64 x31)] ?_
       refine JQ.mask [At.box b5 37 [.slice (some ⟨g49, o50, none⟩) s1.length c3], At.rd (some ⟨g49, o50, none⟩) c3 fl_Vis.kd.sl s1 true] [true, true, false] ?_
       refine J.sr ?_
       refine JL.mv (.int .i64 t54) ?_
       refine JL.pur (.bool (!decide (t54 = 0))) (some 18) ?_
       refine JL.es [(1, .pointer (some ⟨b5, 0, none⟩)), (5, .int .i64 t54), (9, .slice (some ⟨g49, o50, none⟩) s1.length c3), (10, .int .i64 (s1.length : Int)), (11, .int .i64 x31), (18, .bool (!decide (t54 = 0)))] ?_
       rcases ite_cases H1 with ⟨h56, H1⟩ | ⟨h56, H1⟩
       · refine J.cond_true h56 ?_
         refine J.sr ?_
         refine JL.mv (.int .i64 t54) ?_
         refine JL.as (.int .i64 t54) ?_
         refine JL.es [(2, .int .i64 t54)] ?_
         refine JQ.mask [] [false, false] ?_
         refine J.ret ?_
         refine JQ.blk_ret ?_
         refine JQ.then_ret ?_
         refine JQ.then_ret ?_
         refine JQ.blk_ret ?_
         refine JQ.met_ret ?_
         refine JQ.then_ret ?_
         rw [hr1 _ (Option.some.inj H1).symm, fin_ret] at H0
         obtain rfl := Option.some.inj H0
         exact JQ.done' (rs := [.tmp 2]) (vs := [.int .i64 t54]) [] (.inr rfl) ⟨by kernel_rfl, trivial⟩ (fun _ h => Heap.to h) ⟨rfl, rfl⟩
       · refine J.cond_false h56 ?_
         refine J.skip ?_
         refine JQ.blk_normal ?_
         refine JQ.ts [(1, .pointer (some ⟨b5, 0, none⟩)), (9, .slice (some ⟨g49, o50, none⟩) s1.length c3), (10, .int .i64 (s1.length : Int)), (11, .int .i64 x31)] ?_
         refine J.region ?_
         refine JL.pur (.int .i64 (w64 (x31 + 1))) (some 20) ?_
         refine JL.mv (.int .i64 (w64 (x31 + 1))) ?_
         refine JL.en ?_
         exact JQ.again (w64 (x31 + 1)) () (Option.some.inj H1).symm (fun _ h => Heap.to h)
     · refine J.cond_false h46 ?_
       refine J.exit ?_
       refine JQ.then_exit ?_
       refine JQ.then_exit ?_
       refine JQ.blk_exit ?_
       rw [hb1 _ (Option.some.inj H1).symm, fin_brk] at H0
       exact JQ.met () () H0 (fun _ h => Heap.to h)
   · clear hit H0
     rintro ⟨⟩ ⟨⟩ H0
     replace H0 : corrupt_Check.k2 s1 = some r := H0
     unfold corrupt_Check.k2 at H0
     refine JQ.sub [(1, .pointer (some ⟨b5, 0, none⟩))] ?_
     refine JQ.turn (Δ' := [At.box b5 37 [.slice Aa2 s1.length c3], At.rd Aa2 c3 fl_Vis.kd.sl s1 true]) (fun _ h => h.to) ?_
     refine JQ.then_normal ?_
     refine J.seq ?_
     refine J.sr ?_
     refine JL.val (.slice Aa2 s1.length c3) (some 21) (yields_load_box 0 0 (holds_box b5 37 [.slice Aa2 s1.length c3]) tyAgg_37) ?_
     refine JL.pur (.func (.func 34) #[] #[.pointer (some ⟨b5, 0, none⟩)]) (some 22) ?_
     obtain ⟨t43, hc44, H0⟩ := bind_some H0
     refine JL.call [] [] [true] (slices_ContainsFunc__api_Vis_api_Vis__corrupt_Check_1.ok s1 Aa2 c3 s1 b5 Aa2 c3 _ hc44) ⟨pre_any 0 (view_rd Aa2 c3 fl_Vis.kd.sl s1 true true), ⟨pre_any 0 (view_rd Aa2 c3 fl_Vis.kd.sl s1 true true), trivial⟩⟩ ?_
     rintro _ _ ⟨rfl, rfl⟩
     refine JL.es [(23, .bool t43)] ?_
     refine JQ.mask [] [false, false] ?_
     rcases ite_cases H0 with ⟨h45, H0⟩ | ⟨h45, H0⟩
     · refine J.cond_true h45 ?_
       refine J.sr ?_
       refine JL.as (.int .i64 8) ?_
       refine JL.es [(2, .int .i64 8)] ?_
       refine J.ret ?_
       refine JQ.then_ret ?_
       obtain rfl := Option.some.inj H0
       exact JQ.done' (rs := [.tmp 2]) (vs := [.int .i64 8]) [] (.inr rfl) ⟨by kernel_rfl, trivial⟩ (fun _ h => Heap.to h) ⟨rfl, rfl⟩
     · refine J.cond_false h45 ?_
       refine J.skip ?_
       refine JQ.ts [] ?_
       refine J.sr ?_
       refine JL.as (.int .i64 0) ?_
       refine JL.en ?_
       refine J.ret ?_
       obtain rfl := Option.some.inj H0
       exact JQ.done' (rs := [.tmp 2]) (vs := [.int .i64 0]) [] (.inr rfl) ⟨by kernel_rfl, trivial⟩ (fun _ h => Heap.to h) ⟨rfl, rfl⟩

theorem corrupt_Spoil_1.ok (g1 : (List Cx)) (Aa2 : Option Addr) (c3 : Nat) (r : ((List Cx) × Int)) (H0 : corrupt_Spoil_1.f g1 = some r) :
    Does Try.prog 30 [.slice Aa2 g1.length c3].toArray [At.rd Aa2 c3 fl_Cx.kd g1 true] [] true (fun v Δ => ∃ A1001 : Option Addr, ∃ c1001 : Nat, v = .tuple #[.slice A1001 r.1.length c1001, .int .i64 r.2] ∧ Δ = [At.rd A1001 c1001 fl_Cx.kd r.1 true]) := by
 refine Does.body (vs := [.slice Aa2 g1.length c3]) Try.func30 rfl ⟨.inl rfl, trivial⟩ trivial fun w S => ?_
 unfold corrupt_Spoil_1.f at H0
 refine J.sr ?_
 refine JL.as (.slice none 0 0) ?_
 refine JL.as (.int .i64 0) ?_
 refine JL.es [(0, .slice Aa2 g1.length c3)] ?_
 refine J.sr ?_
 refine JL.mv (.slice Aa2 g1.length c3) ?_
 refine JL.as (.slice Aa2 g1.length c3) ?_
 refine JL.as (.int .i64 0) ?_
 refine JL.es [(2, .slice Aa2 g1.length c3), (3, .int .i64 0)] ?_
 refine J.ret ?_
 obtain rfl := Option.some.inj H0
 exact JQ.done' (rs := [.tmp 2, .tmp 3]) (vs := [.slice Aa2 g1.length c3, .int .i64 0]) [At.rd Aa2 c3 fl_Cx.kd g1 true] (.inr rfl) ⟨by kernel_rfl, by kernel_rfl, trivial⟩ (fun _ h => Heap.to h) ⟨Aa2, c3, rfl, rfl⟩

theorem gain_zero.ok (a1 : Cx) (r : Bool) (H0 : gain_zero.f a1 = some r) :
    Does Try.prog 75 [mv_23 a1].toArray [] [] false (fun v Δ => v = .bool r ∧ Δ = []) := by
 refine Does.body (vs := [mv_23 a1]) Try.func75 rfl trivial trivial fun w S => ?_
 unfold gain_zero.f at H0
 refine J.sr ?_
 refine JL.box (cl_23 a1) fun b2 => ?_
 refine JL.as (.bool false) ?_
 refine JL.es [(1, .pointer (some ⟨b2, 0, none⟩))] ?_
 refine J.sr ?_
 refine JL.pur (.pointer (some ⟨b2, 0, none⟩)) (some 3) ?_
 refine JL.val (.int .i64 a1.Re) (some 4) (yields_load_box 0 0 (holds_box b2 23 (cl_23 a1)) tyAgg_2) ?_
 refine JL.pur (.bool (decide (a1.Re = 0))) (some 5) ?_
 refine JL.mv (.bool (decide (a1.Re = 0))) ?_
 rcases ite_cases H0 with ⟨h3, H0⟩ | ⟨h3, H0⟩
 · refine JL.on 3 6 h3 ?_
   refine JL.pur (.pointer (some ⟨b2, 1, none⟩)) (some 7) ?_
   refine JL.on 3 6 h3 ?_
   refine JL.val (.int .i64 a1.Im) (some 8) (yields_load_box 0 1 (holds_box b2 23 (cl_23 a1)) tyAgg_2) ?_
   refine JL.on 3 6 h3 ?_
   refine JL.pur (.bool (decide (a1.Im = 0))) (some 9) ?_
   refine JL.val (.bool (decide (a1.Im = 0))) (some 10) (gives_pickT h3) ?_
   refine JL.as (.bool (decide (a1.Im = 0))) ?_
   refine JL.es [(2, .bool (decide (a1.Im = 0)))] ?_
   refine JQ.mask [] [false] ?_
   refine J.ret ?_
   obtain rfl := Option.some.inj H0
   exact JQ.done' (rs := [.tmp 2]) (vs := [.bool (decide (a1.Im = 0))]) [] (.inr rfl) ⟨by kernel_rfl, trivial⟩ (fun _ h => Heap.to h) ⟨rfl, rfl⟩
 · refine JL.off 3 6 true (some 7) h3 ?_
   refine JL.off 3 6 true (some 8) h3 ?_
   refine JL.off 3 6 true (some 9) h3 ?_
   refine JL.val (.bool false) (some 10) (gives_pickF h3) ?_
   refine JL.as (.bool false) ?_
   refine JL.es [(2, .bool false)] ?_
   refine JQ.mask [] [false] ?_
   refine J.ret ?_
   obtain rfl := Option.some.inj H0
   exact JQ.done' (rs := [.tmp 2]) (vs := [.bool false]) [] (.inr rfl) ⟨by kernel_rfl, trivial⟩ (fun _ h => Heap.to h) ⟨rfl, rfl⟩

theorem gain_Check_1.ok (a1 : Cx) (r : Bool) (H0 : gain_Check_1.f a1 = some r) :
    Does Try.prog 74 [mv_23 a1].toArray [] [] false (fun v Δ => v = .bool r ∧ Δ = []) := by
 refine Does.body (vs := [mv_23 a1]) Try.func74 rfl trivial trivial fun w S => ?_
 unfold gain_Check_1.f at H0
 refine J.sr ?_
 refine JL.box (cl_23 a1) fun b2 => ?_
 refine JL.as (.bool false) ?_
 refine JL.es [(1, .pointer (some ⟨b2, 0, none⟩))] ?_
 refine J.sr ?_
 refine JL.val (mv_23 a1) (some 3) (yields_load_boxes 0 0 (cl_23 a1) (holds_box b2 23 (cl_23 a1)) tyAgg_23 tySize_23) ?_
 obtain ⟨t3, hc4, H0⟩ := bind_some H0
 refine JL.call [] [] [] (cx_Check.ok a1 _ hc4) trivial ?_
 rintro _ _ ⟨rfl, rfl⟩
 refine JL.pur (.bool (!decide (t3 = 0))) (some 5) ?_
 refine JL.mv (.bool (!decide (t3 = 0))) ?_
 rcases ite_cases H0 with ⟨h5, H0⟩ | ⟨h5, H0⟩
 · refine JL.off 3 6 false (some 7) h5 ?_
   refine JL.off 3 6 false (some 8) h5 ?_
   refine JL.val (.bool true) (some 9) (gives_pickT h5) ?_
   refine JL.as (.bool true) ?_
   refine JL.es [(2, .bool true)] ?_
   refine JQ.mask [] [false] ?_
   refine J.ret ?_
   obtain rfl := Option.some.inj H0
   exact JQ.done' (rs := [.tmp 2]) (vs := [.bool true]) [] (.inr rfl) ⟨by kernel_rfl, trivial⟩ (fun _ h => Heap.to h) ⟨rfl, rfl⟩
 · refine JL.on 3 6 h5 ?_
   refine JL.val (mv_23 a1) (some 7) (yields_load_boxes 0 0 (cl_23 a1) (holds_box b2 23 (cl_23 a1)) tyAgg_23 tySize_23) ?_
   refine JL.on 3 6 h5 ?_
   obtain ⟨t6, hc7, H0⟩ := bind_some H0
   refine JL.call [] [] [] (gain_zero.ok a1 _ hc7) trivial ?_
   rintro _ _ ⟨rfl, rfl⟩
   refine JL.val (.bool t6) (some 9) (gives_pickF h5) ?_
   refine JL.as (.bool t6) ?_
   refine JL.es [(2, .bool t6)] ?_
   refine JQ.mask [] [false] ?_
   refine J.ret ?_
   obtain rfl := Option.some.inj H0
   exact JQ.done' (rs := [.tmp 2]) (vs := [.bool t6]) [] (.inr rfl) ⟨by kernel_rfl, trivial⟩ (fun _ h => Heap.to h) ⟨rfl, rfl⟩

theorem slices_IndexFunc__api_Cx_api_Cx__gain_Check_1.ok (s1 : (List Cx)) (Aa2 : Option Addr) (c3 : Nat) (r : Int) (H0 : slices_IndexFunc__api_Cx_api_Cx__gain_Check_1.f s1 = some r) :
    Does Try.prog 88 [.slice Aa2 s1.length c3, .func (.func 74) #[] #[]].toArray [At.rd Aa2 c3 fl_Cx.kd s1 true] [] false (fun v Δ => v = .int .i64 r ∧ Δ = []) := by
 refine Does.body (vs := [.slice Aa2 s1.length c3, .func (.func 74) #[] #[]]) Try.func88 rfl ⟨.inl rfl, trivial⟩ trivial fun w S => ?_
 unfold slices_IndexFunc__api_Cx_api_Cx__gain_Check_1.f at H0
 refine J.sr ?_
 refine JL.as (.int .i64 0) ?_
 refine JL.es [(0, .slice Aa2 s1.length c3), (1, .func (.func 74) #[] #[])] ?_
 refine J.seq ?_
 refine J.sr ?_
 refine JL.mv (.slice Aa2 s1.length c3) ?_
 refine JL.pur (.int .i64 (s1.length : Int)) (some 7) ?_
 refine JL.mv (.int .i64 0) ?_
 refine JL.es [(0, .slice Aa2 s1.length c3), (1, .func (.func 74) #[] #[]), (7, .int .i64 (s1.length : Int)), (8, .int .i64 0)] ?_
 obtain ⟨o1, hit, H0⟩ := bind_some H0
 refine J.loop (σ := Int) (τ := Unit) (G := Unit) (G' := Unit) _ o1 (fun s g => [(0, .slice Aa2 s1.length c3), (1, .func (.func 74) #[] #[]), (7, .int .i64 (s1.length : Int)), (8, .int .i64 s)]) (fun s g => [At.rd Aa2 c3 fl_Cx.kd s1 true]) (fun t => slices_IndexFunc__api_Cx_api_Cx__gain_Check_1.k2 = some r) (fun t g => []) (fun t g => []) 0 () hit (fun _ h => Heap.to h) ?_ ?_
 · clear hit
   rintro x23 ⟨⟩ st1 H1 hb1 hr1
   replace H1 : slices_IndexFunc__api_Cx_api_Cx__gain_Check_1.s1 s1 x23 = some st1 := H1
   unfold slices_IndexFunc__api_Cx_api_Cx__gain_Check_1.s1 at H1
   refine JQ.sub [(0, .slice Aa2 s1.length c3), (1, .func (.func 74) #[] #[]), (7, .int .i64 (s1.length : Int)), (8, .int .i64 x23)] ?_
   refine JQ.turn (Δ' := [At.rd Aa2 c3 fl_Cx.kd s1 true]) (fun _ h => h.to) ?_
   refine J.sr ?_
   refine JL.pur (.bool (decide (x23 < (s1.length : Int)))) (some 9) ?_
   refine JL.en ?_
   refine J.seq ?_
   rcases ite_cases H1 with ⟨h32, H1⟩ | ⟨h32, H1⟩
   · refine J.cond_true h32 ?_
     refine J.skip ?_
     refine JQ.ts [(0, .slice Aa2 s1.length c3), (1, .func (.func 74) #[] #[]), (7, .int .i64 (s1.length : Int)), (8, .int .i64 x23)] ?_
     refine J.seq ?_
     refine J.block ?_
     refine J.sr ?_
     refine JL.mv (.int .i64 x23) ?_
     refine JL.as (.int .i64 x23) ?_
     refine JL.es [(0, .slice Aa2 s1.length c3), (1, .func (.func 74) #[] #[]), (5, .int .i64 x23), (7, .int .i64 (s1.length : Int)), (8, .int .i64 x23)] ?_
     refine J.sr ?_
     refine JL.mv (.func (.func 74) #[] #[]) ?_
     refine JL.mv (.slice Aa2 s1.length c3) ?_
     refine JL.mv (.int .i64 x23) ?_
     obtain ⟨⟨h33, h34⟩, H1⟩ := ite_must H1
     refine JL.ixAddr 0 3 c3 .i64 (elems_rd Aa2 c3 fl_Cx.kd s1 true) Try.underlying28 tySize_23 h33 h34 fun g35 o36 hA => ?_
     subst hA
     refine JL.val (mv_23 (ix s1 x23)) (some 15) (gives_loadEl (f := fl_Cx) 0 0 x23 (elems_rd (some ⟨g35, o36, none⟩) c3 fl_Cx.kd s1 true) h33 h34 tySize_23 (.inl ⟨tyAgg_23, rfl⟩)) ?_
     obtain ⟨t37, hc38, H1⟩ := bind_some H1
     refine JL.call [] [] [] (gain_Check_1.ok (ix s1 x23) _ hc38) trivial ?_
     rintro _ _ ⟨rfl, rfl⟩
     refine JL.es [(0, .slice (some ⟨g35, o36, none⟩) s1.length c3), (1, .func (.func 74) #[] #[]), (5, .int .i64 x23), (7, .int .i64 (s1.length : Int)), (8, .int .i64 x23), (16, .bool t37)] ?_
     rcases ite_cases H1 with ⟨h39, H1⟩ | ⟨h39, H1⟩
     · refine J.cond_true h39 ?_
       refine J.sr ?_
       refine JL.mv (.int .i64 x23) ?_
       refine JL.as (.int .i64 x23) ?_
       refine JL.es [(4, .int .i64 x23)] ?_
       refine JQ.mask [] [false] ?_
       refine J.ret ?_
       refine JQ.blk_ret ?_
       refine JQ.then_ret ?_
       refine JQ.then_ret ?_
       refine JQ.blk_ret ?_
       refine JQ.met_ret ?_
       refine JQ.then_ret ?_
       rw [hr1 _ (Option.some.inj H1).symm, fin_ret] at H0
       obtain rfl := Option.some.inj H0
       exact JQ.done' (rs := [.tmp 4]) (vs := [.int .i64 x23]) [] (.inr rfl) ⟨by kernel_rfl, trivial⟩ (fun _ h => Heap.to h) ⟨rfl, rfl⟩
     · refine J.cond_false h39 ?_
       refine J.skip ?_
       refine JQ.blk_normal ?_
       refine JQ.ts [(0, .slice (some ⟨g35, o36, none⟩) s1.length c3), (1, .func (.func 74) #[] #[]), (7, .int .i64 (s1.length : Int)), (8, .int .i64 x23)] ?_
       refine J.region ?_
       refine JL.pur (.int .i64 (w64 (x23 + 1))) (some 18) ?_
       refine JL.mv (.int .i64 (w64 (x23 + 1))) ?_
       refine JL.en ?_
       exact JQ.again (w64 (x23 + 1)) () (Option.some.inj H1).symm (fun _ h => Heap.to h)
   · refine J.cond_false h32 ?_
     refine J.exit ?_
     refine JQ.then_exit ?_
     refine JQ.then_exit ?_
     refine JQ.blk_exit ?_
     rw [hb1 _ (Option.some.inj H1).symm, fin_brk] at H0
     exact JQ.met () () H0 (fun _ h => Heap.to (Heap.pick [] (by decide) h))
 · clear hit H0
   rintro ⟨⟩ ⟨⟩ H0
   replace H0 : slices_IndexFunc__api_Cx_api_Cx__gain_Check_1.k2 = some r := H0
   unfold slices_IndexFunc__api_Cx_api_Cx__gain_Check_1.k2 at H0
   refine JQ.sub [] ?_
   refine JQ.turn (Δ' := []) (fun _ h => h.to) ?_
   refine JQ.then_normal ?_
   refine J.sr ?_
   refine JL.as (.int .i64 (-1)) ?_
   refine JL.en ?_
   refine J.ret ?_
   obtain rfl := Option.some.inj H0
   exact JQ.done' (rs := [.tmp 4]) (vs := [.int .i64 (-1)]) [] (.inr rfl) ⟨by kernel_rfl, trivial⟩ (fun _ h => Heap.to h) ⟨rfl, rfl⟩

theorem slices_ContainsFunc__api_Cx_api_Cx__gain_Check_1.ok (s1 : (List Cx)) (Aa2 : Option Addr) (c3 : Nat) (r : Bool) (H0 : slices_ContainsFunc__api_Cx_api_Cx__gain_Check_1.f s1 = some r) :
    Does Try.prog 73 [.slice Aa2 s1.length c3, .func (.func 74) #[] #[]].toArray [At.rd Aa2 c3 fl_Cx.kd s1 true] [] false (fun v Δ => v = .bool r ∧ Δ = []) := by
 refine Does.body (vs := [.slice Aa2 s1.length c3, .func (.func 74) #[] #[]]) Try.func73 rfl ⟨.inl rfl, trivial⟩ trivial fun w S => ?_
 unfold slices_ContainsFunc__api_Cx_api_Cx__gain_Check_1.f at H0
 refine J.sr ?_
 refine JL.as (.bool false) ?_
 refine JL.es [(0, .slice Aa2 s1.length c3), (1, .func (.func 74) #[] #[])] ?_
 refine J.sr ?_
 refine JL.mv (.slice Aa2 s1.length c3) ?_
 refine JL.mv (.func (.func 74) #[] #[]) ?_
 obtain ⟨t5, hc6, H0⟩ := bind_some H0
 refine JL.call [] [] [] (slices_IndexFunc__api_Cx_api_Cx__gain_Check_1.ok s1 Aa2 c3 _ hc6) ⟨pre_any 0 (view_rd Aa2 c3 fl_Cx.kd s1 true true), trivial⟩ ?_
 rintro _ _ ⟨rfl, rfl⟩
 refine JL.pur (.bool (decide (0 ≤ t5))) (some 8) ?_
 refine JL.as (.bool (decide (0 ≤ t5))) ?_
 refine JL.es [(4, .bool (decide (0 ≤ t5)))] ?_
 refine JQ.mask [] [false] ?_
 refine J.ret ?_
 obtain rfl := Option.some.inj H0
 exact JQ.done' (rs := [.tmp 4]) (vs := [.bool (decide (0 ≤ t5))]) [] (.inr rfl) ⟨by kernel_rfl, trivial⟩ (fun _ h => Heap.to h) ⟨rfl, rfl⟩

theorem gain_Check.ok (g1 : (List Cx)) (Aa2 : Option Addr) (c3 : Nat) (r : Int) (H0 : gain_Check.f g1 = some r) :
    Does Try.prog 51 [.slice Aa2 g1.length c3].toArray [At.rd Aa2 c3 fl_Cx.kd g1 true] [] false (fun v Δ => v = .int .i64 r ∧ Δ = []) := by
 refine Does.body (vs := [.slice Aa2 g1.length c3]) Try.func51 rfl ⟨.inl rfl, trivial⟩ trivial fun w S => ?_
 unfold gain_Check.f at H0
 refine J.sr ?_
 refine JL.as (.int .i64 0) ?_
 refine JL.es [(0, .slice Aa2 g1.length c3)] ?_
 refine J.seq ?_
 refine J.sr ?_
 refine JL.mv (.slice Aa2 g1.length c3) ?_
 refine JL.pur (.int .i64 (g1.length : Int)) (some 4) ?_
 refine JL.pur (.bool (decide (8 < (g1.length : Int)))) (some 5) ?_
 refine JL.es [(0, .slice Aa2 g1.length c3), (5, .bool (decide (8 < (g1.length : Int))))] ?_
 rcases ite_cases H0 with ⟨h5, H0⟩ | ⟨h5, H0⟩
 · refine J.cond_true h5 ?_
   refine J.sr ?_
   refine JL.as (.int .i64 4) ?_
   refine JL.es [(2, .int .i64 4)] ?_
   refine JQ.mask [] [false] ?_
   refine J.ret ?_
   refine JQ.then_ret ?_
   obtain rfl := Option.some.inj H0
   exact JQ.done' (rs := [.tmp 2]) (vs := [.int .i64 4]) [] (.inr rfl) ⟨by kernel_rfl, trivial⟩ (fun _ h => Heap.to h) ⟨rfl, rfl⟩
 · refine J.cond_false h5 ?_
   refine J.skip ?_
   refine JQ.ts [(0, .slice Aa2 g1.length c3)] ?_
   refine J.seq ?_
   refine J.join (T := Bool) (G := Unit) (fun t => gain_Check.k1 t = some r) (fun t g => [(12, .bool t)]) (fun t g => []) ?_ ?_
   · refine J.region ?_
     refine JL.mv (.slice Aa2 g1.length c3) ?_
     refine JL.pur (.int .i64 (g1.length : Int)) (some 7) ?_
     refine JL.pur (.bool (decide ((g1.length : Int) = 0))) (some 8) ?_
     refine JL.mv (.bool (decide ((g1.length : Int) = 0))) ?_
     rcases ite_cases H0 with ⟨h11, H0⟩ | ⟨h11, H0⟩
     · refine JL.off 3 9 false (some 10) h11 ?_
       refine JL.off 3 9 false (some 11) h11 ?_
       refine JL.val (.bool true) (some 12) (gives_pickT h11) ?_
       refine JL.en ?_
       exact JQ.meet true () H0 (fun _ h => Heap.to (Heap.pick [] (by decide) h))
     · refine JL.on 3 9 h11 ?_
       refine JL.mv (.slice Aa2 g1.length c3) ?_
       refine JL.on 3 9 h11 ?_
       obtain ⟨t12, hc13, H0⟩ := bind_some H0
       refine JL.call [] [] [] (slices_ContainsFunc__api_Cx_api_Cx__gain_Check_1.ok g1 Aa2 c3 _ hc13) ⟨pre_any 0 (view_rd Aa2 c3 fl_Cx.kd g1 true true), trivial⟩ ?_
       rintro _ _ ⟨rfl, rfl⟩
       refine JL.val (.bool t12) (some 12) (gives_pickF h11) ?_
       refine JL.en ?_
       exact JQ.meet t12 () H0 (fun _ h => Heap.to (Heap.pick [] (by decide) h))
   · clear H0
     rintro x9 ⟨⟩ H0
     replace H0 : gain_Check.k1 x9 = some r := H0
     unfold gain_Check.k1 at H0
     refine JQ.sub [(12, .bool x9)] ?_
     refine JQ.turn (Δ' := []) (fun _ h => h.to) ?_
     rcases ite_cases H0 with ⟨h10, H0⟩ | ⟨h10, H0⟩
     · refine J.cond_true h10 ?_
       refine J.sr ?_
       refine JL.as (.int .i64 8) ?_
       refine JL.es [(2, .int .i64 8)] ?_
       refine J.ret ?_
       refine JQ.then_ret ?_
       obtain rfl := Option.some.inj H0
       exact JQ.done' (rs := [.tmp 2]) (vs := [.int .i64 8]) [] (.inr rfl) ⟨by kernel_rfl, trivial⟩ (fun _ h => Heap.to h) ⟨rfl, rfl⟩
     · refine J.cond_false h10 ?_
       refine J.skip ?_
       refine JQ.ts [] ?_
       refine J.sr ?_
       refine JL.as (.int .i64 0) ?_
       refine JL.en ?_
       refine J.ret ?_
       obtain rfl := Option.some.inj H0
       exact JQ.done' (rs := [.tmp 2]) (vs := [.int .i64 0]) [] (.inr rfl) ⟨by kernel_rfl, trivial⟩ (fun _ h => Heap.to h) ⟨rfl, rfl⟩

theorem gain_Act_1.ok (v1 : Vis) (v2 : (List Cx)) (b3 : Nat) (Aa4 : Option Addr) (c5 : Nat) (r : Bool) (H0 : gain_Act_1.f v1 v2 = some r) :
    Does Try.prog 68 [mv_47 v1, .pointer (some ⟨b3, 0, none⟩)].toArray [At.rd Aa4 c5 fl_Cx.kd v2 true] [At.box b3 28 [.slice Aa4 v2.length c5]] false (fun v Δ => v = .bool r ∧ Δ = [At.box b3 28 [.slice Aa4 v2.length c5]]) := by
 refine Does.body (vs := [mv_47 v1, .pointer (some ⟨b3, 0, none⟩)]) Try.func68 rfl ⟨.inl rfl, trivial⟩ ⟨.inr (fun _ _ _ h => h), trivial⟩ fun w S => ?_
 unfold gain_Act_1.f at H0
 refine J.sr ?_
 refine JL.box (cl_47 v1) fun b7 => ?_
 refine JL.as (.bool false) ?_
 refine JL.es [(1, .pointer (some ⟨b3, 0, none⟩)), (2, .pointer (some ⟨b7, 0, none⟩))] ?_
 refine J.sr ?_
 refine JL.pur (.pointer (some ⟨b7, 0, none⟩)) (some 4) ?_
 refine JL.val (.int .i64 v1.I) (some 5) (yields_load_box 2 0 (holds_box b7 47 (cl_47 v1)) tyAgg_3) ?_
 refine JL.pur (.bool (decide (v1.I < 0))) (some 6) ?_
 refine JL.mv (.bool (decide (v1.I < 0))) ?_
 rcases ite_cases H0 with ⟨h8, H0⟩ | ⟨h8, H0⟩
 · refine JL.off 3 7 false (some 8) h8 ?_
   refine JL.off 3 7 false (some 9) h8 ?_
   refine JL.off 3 7 false (some 10) h8 ?_
   refine JL.off 3 7 false (some 11) h8 ?_
   refine JL.off 3 7 false (some 12) h8 ?_
   refine JL.val (.bool true) (some 13) (gives_pickT h8) ?_
   refine JL.mv (.bool true) ?_
   refine JL.off 10 14 false (some 15) rfl ?_
   refine JL.off 10 14 false (some 16) rfl ?_
   refine JL.off 10 14 false (some 17) rfl ?_
   refine JL.off 10 14 false (some 18) rfl ?_
   refine JL.off 10 14 false (some 19) rfl ?_
   refine JL.val (.bool true) (some 20) (gives_pickT rfl) ?_
   refine JL.mv (.bool true) ?_
   refine JL.off 17 21 false (some 22) rfl ?_
   refine JL.off 17 21 false (some 23) rfl ?_
   refine JL.off 17 21 false (some 24) rfl ?_
   refine JL.val (.bool true) (some 25) (gives_pickT rfl) ?_
   refine JL.mv (.bool true) ?_
   refine JL.off 22 26 false (some 27) rfl ?_
   refine JL.off 22 26 false (some 28) rfl ?_
   refine JL.off 22 26 false (some 29) rfl ?_
   refine JL.off 22 26 false (some 30) rfl ?_
   refine JL.val (.bool true) (some 31) (gives_pickT rfl) ?_
   refine JL.as (.bool true) ?_
   refine JL.es [(3, .bool true)] ?_
   refine JQ.mask [At.rd Aa4 c5 fl_Cx.kd v2 true, At.box b3 28 [.slice Aa4 v2.length c5]] [true, true, false] ?_
   refine J.ret ?_
   obtain rfl := Option.some.inj H0
   exact JQ.done' (rs := [.tmp 3]) (vs := [.bool true]) [At.box b3 28 [.slice Aa4 v2.length c5]] (.inr rfl) ⟨by kernel_rfl, trivial⟩ (fun _ h => Heap.to (Heap.pick [1] (by decide) h)) ⟨rfl, rfl⟩
 · refine JL.on 3 7 h8 ?_
   refine JL.pur (.pointer (some ⟨b7, 1, none⟩)) (some 8) ?_
   refine JL.on 3 7 h8 ?_
   refine JL.val (.int .i64 v1.J) (some 9) (yields_load_box 2 1 (holds_box b7 47 (cl_47 v1)) tyAgg_3) ?_
   refine JL.on 3 7 h8 ?_
   refine JL.pur (.pointer (some ⟨b7, 0, none⟩)) (some 10) ?_
   refine JL.on 3 7 h8 ?_
   refine JL.val (.int .i64 v1.I) (some 11) (yields_load_box 2 0 (holds_box b7 47 (cl_47 v1)) tyAgg_3) ?_
   refine JL.on 3 7 h8 ?_
   refine JL.pur (.bool (decide (v1.J ≤ v1.I))) (some 12) ?_
   refine JL.val (.bool (decide (v1.J ≤ v1.I))) (some 13) (gives_pickF h8) ?_
   refine JL.mv (.bool (decide (v1.J ≤ v1.I))) ?_
   rcases ite_cases H0 with ⟨h9, H0⟩ | ⟨h9, H0⟩
   · refine JL.off 10 14 false (some 15) h9 ?_
     refine JL.off 10 14 false (some 16) h9 ?_
     refine JL.off 10 14 false (some 17) h9 ?_
     refine JL.off 10 14 false (some 18) h9 ?_
     refine JL.off 10 14 false (some 19) h9 ?_
     refine JL.val (.bool true) (some 20) (gives_pickT h9) ?_
     refine JL.mv (.bool true) ?_
     refine JL.off 17 21 false (some 22) rfl ?_
     refine JL.off 17 21 false (some 23) rfl ?_
     refine JL.off 17 21 false (some 24) rfl ?_
     refine JL.val (.bool true) (some 25) (gives_pickT rfl) ?_
     refine JL.mv (.bool true) ?_
     refine JL.off 22 26 false (some 27) rfl ?_
     refine JL.off 22 26 false (some 28) rfl ?_
     refine JL.off 22 26 false (some 29) rfl ?_
     refine JL.off 22 26 false (some 30) rfl ?_
     refine JL.val (.bool true) (some 31) (gives_pickT rfl) ?_
     refine JL.as (.bool true) ?_
     refine JL.es [(3, .bool true)] ?_
     refine JQ.mask [At.rd Aa4 c5 fl_Cx.kd v2 true, At.box b3 28 [.slice Aa4 v2.length c5]] [true, true, false] ?_
     refine J.ret ?_
     obtain rfl := Option.some.inj H0
     exact JQ.done' (rs := [.tmp 3]) (vs := [.bool true]) [At.box b3 28 [.slice Aa4 v2.length c5]] (.inr rfl) ⟨by kernel_rfl, trivial⟩ (fun _ h => Heap.to (Heap.pick [1] (by decide) h)) ⟨rfl, rfl⟩
   · refine JL.on 10 14 h9 ?_
     refine JL.pur (.pointer (some ⟨b7, 1, none⟩)) (some 15) ?_
     refine JL.on 10 14 h9 ?_
     refine JL.val (.int .i64 v1.J) (some 16) (yields_load_box 2 1 (holds_box b7 47 (cl_47 v1)) tyAgg_3) ?_
     refine JL.on 10 14 h9 ?_
     refine JL.val (.slice Aa4 v2.length c5) (some 17) (yields_load_box 1 0 (holds_box b3 28 [.slice Aa4 v2.length c5]) tyAgg_28) ?_
     refine JL.on 10 14 h9 ?_
     refine JL.pur (.int .i64 (v2.length : Int)) (some 18) ?_
     refine JL.on 10 14 h9 ?_
     refine JL.pur (.bool (decide ((v2.length : Int) ≤ v1.J))) (some 19) ?_
     refine JL.val (.bool (decide ((v2.length : Int) ≤ v1.J))) (some 20) (gives_pickF h9) ?_
     refine JL.mv (.bool (decide ((v2.length : Int) ≤ v1.J))) ?_
     rcases ite_cases H0 with ⟨h10, H0⟩ | ⟨h10, H0⟩
     · refine JL.off 17 21 false (some 22) h10 ?_
       refine JL.off 17 21 false (some 23) h10 ?_
       refine JL.off 17 21 false (some 24) h10 ?_
       refine JL.val (.bool true) (some 25) (gives_pickT h10) ?_
       refine JL.mv (.bool true) ?_
       refine JL.off 22 26 false (some 27) rfl ?_
       refine JL.off 22 26 false (some 28) rfl ?_
       refine JL.off 22 26 false (some 29) rfl ?_
       refine JL.off 22 26 false (some 30) rfl ?_
       refine JL.val (.bool true) (some 31) (gives_pickT rfl) ?_
       refine JL.as (.bool true) ?_
       refine JL.es [(3, .bool true)] ?_
       refine JQ.mask [At.rd Aa4 c5 fl_Cx.kd v2 true, At.box b3 28 [.slice Aa4 v2.length c5]] [true, true, false] ?_
       refine J.ret ?_
       obtain rfl := Option.some.inj H0
       exact JQ.done' (rs := [.tmp 3]) (vs := [.bool true]) [At.box b3 28 [.slice Aa4 v2.length c5]] (.inr rfl) ⟨by kernel_rfl, trivial⟩ (fun _ h => Heap.to (Heap.pick [1] (by decide) h)) ⟨rfl, rfl⟩
     · refine JL.on 17 21 h10 ?_
       refine JL.pur (.pointer (some ⟨b7, 5, none⟩)) (some 22) ?_
       refine JL.on 17 21 h10 ?_
       refine JL.val (.int .i64 v1.N) (some 23) (yields_load_box 2 5 (holds_box b7 47 (cl_47 v1)) tyAgg_3) ?_
       refine JL.on 17 21 h10 ?_
       refine JL.pur (.bool (decide (v1.N < 0))) (some 24) ?_
       refine JL.val (.bool (decide (v1.N < 0))) (some 25) (gives_pickF h10) ?_
       refine JL.mv (.bool (decide (v1.N < 0))) ?_
       rcases ite_cases H0 with ⟨h11, H0⟩ | ⟨h11, H0⟩
       · refine JL.off 22 26 false (some 27) h11 ?_
         refine JL.off 22 26 false (some 28) h11 ?_
         refine JL.off 22 26 false (some 29) h11 ?_
         refine JL.off 22 26 false (some 30) h11 ?_
         refine JL.val (.bool true) (some 31) (gives_pickT h11) ?_
         refine JL.as (.bool true) ?_
         refine JL.es [(3, .bool true)] ?_
         refine JQ.mask [At.rd Aa4 c5 fl_Cx.kd v2 true, At.box b3 28 [.slice Aa4 v2.length c5]] [true, true, false] ?_
         refine J.ret ?_
         obtain rfl := Option.some.inj H0
         exact JQ.done' (rs := [.tmp 3]) (vs := [.bool true]) [At.box b3 28 [.slice Aa4 v2.length c5]] (.inr rfl) ⟨by kernel_rfl, trivial⟩ (fun _ h => Heap.to (Heap.pick [1] (by decide) h)) ⟨rfl, rfl⟩
       · refine JL.on 22 26 h11 ?_
         refine JL.pur (.pointer (some ⟨b7, 2, none⟩)) (some 27) ?_
         refine JL.on 22 26 h11 ?_
         refine JL.val (mv_23 v1.V) (some 28) (yields_load_boxes 2 2 (cl_23 v1.V) (holds_box b7 47 (cl_47 v1)) tyAgg_23 tySize_23) ?_
         refine JL.on 22 26 h11 ?_
         obtain ⟨t12, hc13, H0⟩ := bind_some H0
         refine JL.call [] [] [] (cx_Check.ok v1.V _ hc13) trivial ?_
         rintro _ _ ⟨rfl, rfl⟩
         refine JL.on 22 26 h11 ?_
         refine JL.pur (.bool (!decide (t12 = 0))) (some 30) ?_
         refine JL.val (.bool (!decide (t12 = 0))) (some 31) (gives_pickF h11) ?_
         refine JL.as (.bool (!decide (t12 = 0))) ?_
         refine JL.es [(3, .bool (!decide (t12 = 0)))] ?_
         refine JQ.mask [At.rd Aa4 c5 fl_Cx.kd v2 true, At.box b3 28 [.slice Aa4 v2.length c5]] [true, true, false] ?_
         refine J.ret ?_
         obtain rfl := Option.some.inj H0
         exact JQ.done' (rs := [.tmp 3]) (vs := [.bool (!decide (t12 = 0))]) [At.box b3 28 [.slice Aa4 v2.length c5]] (.inr rfl) ⟨by kernel_rfl, trivial⟩ (fun _ h => Heap.to (Heap.pick [1] (by decide) h)) ⟨rfl, rfl⟩

theorem slices_IndexFunc__api_Vis_api_Vis__gain_Act_1.ok (s1 : (List Vis)) (Aa2 : Option Addr) (c3 : Nat) (v5 : (List Cx)) (b6 : Nat) (Aa7 : Option Addr) (c8 : Nat) (r : Int) (H0 : slices_IndexFunc__api_Vis_api_Vis__gain_Act_1.f s1 v5 = some r) :
    Does Try.prog 87 [.slice Aa2 s1.length c3, .func (.func 68) #[] #[.pointer (some ⟨b6, 0, none⟩)]].toArray [At.rd Aa2 c3 fl_Vis.kd s1 true, At.rd Aa7 c8 fl_Cx.kd v5 true] [At.box b6 28 [.slice Aa7 v5.length c8]] false (fun v Δ => v = .int .i64 r ∧ Δ = [At.box b6 28 [.slice Aa7 v5.length c8]]) := by
 refine Does.body (vs := [.slice Aa2 s1.length c3, .func (.func 68) #[] #[.pointer (some ⟨b6, 0, none⟩)]]) Try.func87 rfl ⟨.inl rfl, .inl rfl, trivial⟩ ⟨.inr (fun _ _ _ h => h), trivial⟩ fun w S => ?_
 unfold slices_IndexFunc__api_Vis_api_Vis__gain_Act_1.f at H0
 refine J.sr ?_
 refine JL.as (.int .i64 0) ?_
 refine JL.es [(0, .slice Aa2 s1.length c3), (1, .func (.func 68) #[] #[.pointer (some ⟨b6, 0, none⟩)])] ?_
 refine J.seq ?_
 refine J.sr ?_
 refine JL.mv (.slice Aa2 s1.length c3) ?_
 refine JL.pur (.int .i64 (s1.length : Int)) (some 7) ?_
 refine JL.mv (.int .i64 0) ?_
 refine JL.es [(0, .slice Aa2 s1.length c3), (1, .func (.func 68) #[] #[.pointer (some ⟨b6, 0, none⟩)]), (7, .int .i64 (s1.length : Int)), (8, .int .i64 0)] ?_
 obtain ⟨o1, hit, H0⟩ := bind_some H0
 refine J.loop (σ := Int) (τ := Unit) (G := Unit) (G' := Unit) _ o1 (fun s g => [(0, .slice Aa2 s1.length c3), (1, .func (.func 68) #[] #[.pointer (some ⟨b6, 0, none⟩)]), (7, .int .i64 (s1.length : Int)), (8, .int .i64 s)]) (fun s g => [At.rd Aa2 c3 fl_Vis.kd s1 true, At.box b6 28 [.slice Aa7 v5.length c8], At.rd Aa7 c8 fl_Cx.kd v5 true]) (fun t => slices_IndexFunc__api_Vis_api_Vis__gain_Act_1.k2 = some r) (fun t g => []) (fun t g => [At.box b6 28 [.slice Aa7 v5.length c8], At.rd Aa7 c8 fl_Cx.kd v5 true]) 0 () hit (fun _ h => Heap.to (Heap.pick [0, 2, 1] (by decide) h)) ?_ ?_
 · clear hit
   rintro x28 ⟨⟩ st1 H1 hb1 hr1
   replace H1 : slices_IndexFunc__api_Vis_api_Vis__gain_Act_1.s1 s1 v5 x28 = some st1 := H1
   unfold slices_IndexFunc__api_Vis_api_Vis__gain_Act_1.s1 at H1
   refine JQ.sub [(0, .slice Aa2 s1.length c3), (1, .func (.func 68) #[] #[.pointer (some ⟨b6, 0, none⟩)]), (7, .int .i64 (s1.length : Int)), (8, .int .i64 x28)] ?_
   refine JQ.turn (Δ' := [At.rd Aa2 c3 fl_Vis.kd s1 true, At.box b6 28 [.slice Aa7 v5.length c8], At.rd Aa7 c8 fl_Cx.kd v5 true]) (fun _ h => h.to) ?_
   refine J.sr ?_
   refine JL.pur (.bool (decide (x28 < (s1.length : Int)))) (some 9) ?_
   refine JL.en ?_
   refine J.seq ?_
   rcases ite_cases H1 with ⟨h37, H1⟩ | ⟨h37, H1⟩
   · refine J.cond_true h37 ?_
     refine J.skip ?_
     refine JQ.ts [(0, .slice Aa2 s1.length c3), (1, .func (.func 68) #[] #[.pointer (some ⟨b6, 0, none⟩)]), (7, .int .i64 (s1.length : Int)), (8, .int .i64 x28)] ?_
     refine J.seq ?_
     refine J.block ?_
     refine J.sr ?_
     refine JL.mv (.int .i64 x28) ?_
     refine JL.as (.int .i64 x28) ?_
     refine JL.es [(0, .slice Aa2 s1.length c3), (1, .func (.func 68) #[] #[.pointer (some ⟨b6, 0, none⟩)]), (5, .int .i64 x28), (7, .int .i64 (s1.length : Int)), (8, .int .i64 x28)] ?_
     refine J.sr ?_
     refine JL.mv (.func (.func 68) #[] #[.pointer (some ⟨b6, 0, none⟩)]) ?_
     refine JL.mv (.slice Aa2 s1.length c3) ?_
     refine JL.mv (.int .i64 x28) ?_
     obtain ⟨⟨h38, h39⟩, H1⟩ := ite_must H1
     refine JL.ixAddr 0 6 c3 .i64 (elems_rd Aa2 c3 fl_Vis.kd s1 true) Try.underlying48 tySize_47 h38 h39 fun g40 o41 hA => ?_
     subst hA
     refine JL.val (mv_47 (ix s1 x28)) (some 15) (gives_loadEl (f := fl_Vis) 0 0 x28 (elems_rd (some ⟨g40, o41, none⟩) c3 fl_Vis.kd s1 true) h38 h39 tySize_47 (.inl ⟨tyAgg_47, rfl⟩)) ?_
     obtain ⟨t42, hc43, H1⟩ := bind_some H1
     refine JL.call [] [.pointer (some ⟨b6, 0, none⟩)] [false, true] (gain_Act_1.ok (ix s1 x28) v5 b6 Aa7 c8 _ hc43) ⟨pre_any 1 (view_rd Aa7 c8 fl_Cx.kd v5 true true), trivial⟩ ?_
     rintro _ _ ⟨rfl, rfl⟩
     refine JL.es [(0, .slice (some ⟨g40, o41, none⟩) s1.length c3), (1, .func (.func 68) #[] #[.pointer (some ⟨b6, 0, none⟩)]), (5, .int .i64 x28), (7, .int .i64 (s1.length : Int)), (8, .int .i64 x28), (16, .bool t42)] ?_
     rcases ite_cases H1 with ⟨h44, H1⟩ | ⟨h44, H1⟩
     · refine J.cond_true h44 ?_
       refine J.sr ?_
       refine JL.mv (.int .i64 x28) ?_
       refine JL.as (.int .i64 x28) ?_
       refine JL.es [(4, .int .i64 x28)] ?_
       refine JQ.mask [At.rd Aa7 c8 fl_Cx.kd v5 true, At.box b6 28 [.slice Aa7 v5.length c8]] [false, true, true] ?_
       refine J.ret ?_
       refine JQ.blk_ret ?_
       refine JQ.then_ret ?_
       refine JQ.then_ret ?_
       refine JQ.blk_ret ?_
       refine JQ.met_ret ?_
       refine JQ.then_ret ?_
       rw [hr1 _ (Option.some.inj H1).symm, fin_ret] at H0
       obtain rfl := Option.some.inj H0
       exact JQ.done' (rs := [.tmp 4]) (vs := [.int .i64 x28]) [At.box b6 28 [.slice Aa7 v5.length c8]] (.inr rfl) ⟨by kernel_rfl, trivial⟩ (fun _ h => Heap.to (Heap.pick [1] (by decide) h)) ⟨rfl, rfl⟩
     · refine J.cond_false h44 ?_
       refine J.skip ?_
       refine JQ.blk_normal ?_
       refine JQ.ts [(0, .slice (some ⟨g40, o41, none⟩) s1.length c3), (1, .func (.func 68) #[] #[.pointer (some ⟨b6, 0, none⟩)]), (7, .int .i64 (s1.length : Int)), (8, .int .i64 x28)] ?_
       refine J.region ?_
       refine JL.pur (.int .i64 (w64 (x28 + 1))) (some 18) ?_
       refine JL.mv (.int .i64 (w64 (x28 + 1))) ?_
       refine JL.en ?_
       exact JQ.again (w64 (x28 + 1)) () (Option.some.inj H1).symm (fun _ h => Heap.to (Heap.pick [0, 2, 1] (by decide) h))
   · refine J.cond_false h37 ?_
     refine J.exit ?_
     refine JQ.then_exit ?_
     refine JQ.then_exit ?_
     refine JQ.blk_exit ?_
     rw [hb1 _ (Option.some.inj H1).symm, fin_brk] at H0
     exact JQ.met () () H0 (fun _ h => Heap.to (Heap.pick [1, 2] (by decide) h))
 · clear hit H0
   rintro ⟨⟩ ⟨⟩ H0
   replace H0 : slices_IndexFunc__api_Vis_api_Vis__gain_Act_1.k2 = some r := H0
   unfold slices_IndexFunc__api_Vis_api_Vis__gain_Act_1.k2 at H0
   refine JQ.sub [] ?_
   refine JQ.turn (Δ' := [At.box b6 28 [.slice Aa7 v5.length c8], At.rd Aa7 c8 fl_Cx.kd v5 true]) (fun _ h => h.to) ?_
   refine JQ.then_normal ?_
   refine J.sr ?_
   refine JL.as (.int .i64 (-1)) ?_
   refine JL.en ?_
   refine J.ret ?_
   obtain rfl := Option.some.inj H0
   exact JQ.done' (rs := [.tmp 4]) (vs := [.int .i64 (-1)]) [At.box b6 28 [.slice Aa7 v5.length c8]] (.inr rfl) ⟨by kernel_rfl, trivial⟩ (fun _ h => Heap.to (Heap.pick [0] (by decide) h)) ⟨rfl, rfl⟩

theorem slices_ContainsFunc__api_Vis_api_Vis__gain_Act_1.ok (s1 : (List Vis)) (Aa2 : Option Addr) (c3 : Nat) (v5 : (List Cx)) (b6 : Nat) (Aa7 : Option Addr) (c8 : Nat) (r : Bool) (H0 : slices_ContainsFunc__api_Vis_api_Vis__gain_Act_1.f s1 v5 = some r) :
    Does Try.prog 69 [.slice Aa2 s1.length c3, .func (.func 68) #[] #[.pointer (some ⟨b6, 0, none⟩)]].toArray [At.rd Aa2 c3 fl_Vis.kd s1 true, At.rd Aa7 c8 fl_Cx.kd v5 true] [At.box b6 28 [.slice Aa7 v5.length c8]] false (fun v Δ => v = .bool r ∧ Δ = [At.box b6 28 [.slice Aa7 v5.length c8]]) := by
 refine Does.body (vs := [.slice Aa2 s1.length c3, .func (.func 68) #[] #[.pointer (some ⟨b6, 0, none⟩)]]) Try.func69 rfl ⟨.inl rfl, .inl rfl, trivial⟩ ⟨.inr (fun _ _ _ h => h), trivial⟩ fun w S => ?_
 unfold slices_ContainsFunc__api_Vis_api_Vis__gain_Act_1.f at H0
 refine J.sr ?_
 refine JL.as (.bool false) ?_
 refine JL.es [(0, .slice Aa2 s1.length c3), (1, .func (.func 68) #[] #[.pointer (some ⟨b6, 0, none⟩)])] ?_
 refine J.sr ?_
 refine JL.mv (.slice Aa2 s1.length c3) ?_
 refine JL.mv (.func (.func 68) #[] #[.pointer (some ⟨b6, 0, none⟩)]) ?_
 obtain ⟨t10, hc11, H0⟩ := bind_some H0
 refine JL.call [] [] [false, false, true] (slices_IndexFunc__api_Vis_api_Vis__gain_Act_1.ok s1 Aa2 c3 v5 b6 Aa7 c8 _ hc11) ⟨pre_any 0 (view_rd Aa2 c3 fl_Vis.kd s1 true true), ⟨pre_any 1 (view_rd Aa7 c8 fl_Cx.kd v5 true true), trivial⟩⟩ ?_
 rintro _ _ ⟨rfl, rfl⟩
 refine JL.pur (.bool (decide (0 ≤ t10))) (some 8) ?_
 refine JL.as (.bool (decide (0 ≤ t10))) ?_
 refine JL.es [(4, .bool (decide (0 ≤ t10)))] ?_
 refine JQ.mask [At.rd Aa7 c8 fl_Cx.kd v5 true, At.box b6 28 [.slice Aa7 v5.length c8]] [false, true, true] ?_
 refine J.ret ?_
 obtain rfl := Option.some.inj H0
 exact JQ.done' (rs := [.tmp 4]) (vs := [.bool (decide (0 ≤ t10))]) [At.box b6 28 [.slice Aa7 v5.length c8]] (.inr rfl) ⟨by kernel_rfl, trivial⟩ (fun _ h => Heap.to (Heap.pick [1] (by decide) h)) ⟨rfl, rfl⟩

theorem gain_times.ok (a1 : Cx) (b2 : Cx) (r : (Cx × Int)) (H0 : gain_times.f a1 b2 = some r) :
    Does Try.prog 72 [mv_23 a1, mv_23 b2].toArray [] [] false (fun v Δ => v = .tuple #[mv_23 r.1, .int .i64 r.2] ∧ Δ = []) := by
 refine Does.body (vs := [mv_23 a1, mv_23 b2]) Try.func72 rfl trivial trivial fun w S => ?_
 unfold gain_times.f at H0
 refine J.sr ?_
 refine JL.box (cl_23 a1) fun b3 => ?_
 refine JL.box (cl_23 b2) fun b4 => ?_
 refine JL.alloc (cl_23 zv_23) fun b5 => ?_
 refine JL.as (.int .i64 0) ?_
 refine JL.es [(2, .pointer (some ⟨b3, 0, none⟩)), (3, .pointer (some ⟨b4, 0, none⟩)), (4, .pointer (some ⟨b5, 0, none⟩))] ?_
 refine J.sr ?_
 refine JL.pur (.pointer (some ⟨b4, 1, none⟩)) (some 6) ?_
 refine JL.val (.int .i64 b2.Im) (some 7) (yields_load_box 1 1 (holds_box b4 23 (cl_23 b2)) tyAgg_2) ?_
 refine JL.pur (.int .i64 (w64 (0 - b2.Im))) (some 8) ?_
 refine JL.pur (.pointer (some ⟨b4, 1, none⟩)) (some 9) ?_
 refine JL.store 1 b4 1 23 (cl_23 b2) [.int .i64 b2.Re, .int .i64 (w64 (0 - b2.Im)), .int .i64 b2.Den] tySize_2 ?_
 refine JL.es [(2, .pointer (some ⟨b3, 0, none⟩)), (3, .pointer (some ⟨b4, 0, none⟩)), (4, .pointer (some ⟨b5, 0, none⟩))] ?_
 refine J.sr ?_
 refine JL.val (mv_23 a1) (some 10) (yields_load_boxes 0 0 (cl_23 a1) (holds_box b3 23 (cl_23 a1)) tyAgg_23 tySize_23) ?_
 refine JL.val (.agg #[.int .i64 b2.Re, .int .i64 (w64 (0 - b2.Im)), .int .i64 b2.Den]) (some 11) (yields_load_boxes 1 0 [.int .i64 b2.Re, .int .i64 (w64 (0 - b2.Im)), .int .i64 b2.Den] (holds_box b4 23 [.int .i64 b2.Re, .int .i64 (w64 (0 - b2.Im)), .int .i64 b2.Den]) tyAgg_23 tySize_23) ?_
 obtain ⟨t6, hc7, H0⟩ := bind_some H0
 refine JL.call [] [] [] (cx_Mul.ok a1 (⟨b2.Re, (w64 (0 - b2.Im)), b2.Den⟩ : Cx) _ hc7) trivial ?_
 rintro _ _ ⟨rfl, rfl⟩
 refine JL.pur (mv_23 t6.1) (some 13) ?_
 refine JL.pur (.int .i64 t6.2) (some 14) ?_
 refine JL.store 2 b5 0 23 (cl_23 zv_23) (cl_23 t6.1) tySize_23 ?_
 refine JL.as (.int .i64 t6.2) ?_
 refine JL.es [(4, .pointer (some ⟨b5, 0, none⟩)), (5, .int .i64 t6.2)] ?_
 refine JQ.mask [At.box b5 23 (cl_23 t6.1)] [false, false, true] ?_
 refine J.ret ?_
 obtain rfl := Option.some.inj H0
 exact JQ.done' (rs := [.cell 4 23, .tmp 5]) (vs := [.agg #[.int .i64 t6.1.Re, .int .i64 t6.1.Im, .int .i64 t6.1.Den], .int .i64 t6.2]) [] (.inr rfl) ⟨⟨b5, 0, _, _, by kernel_rfl, by kernel_rfl, holds_box b5 23 (cl_23 t6.1), .inl ⟨tyAgg_23, tySize_23, rfl⟩⟩, by kernel_rfl, trivial⟩ (fun _ h => Heap.to (Heap.pick [] (by decide) h)) ⟨rfl, rfl⟩

theorem gain_Act_2.ok (a1 : Int) (v2 : Vis) (v3 : (List Cx)) (b4 : Nat) (Aa5 : Option Addr) (c6 : Nat) (r : (Vis × Int)) (H0 : gain_Act_2.f a1 v2 v3 = some r) :
    Does Try.prog 71 [.int .i64 a1, mv_47 v2, .pointer (some ⟨b4, 0, none⟩)].toArray [At.rd Aa5 c6 fl_Cx.kd v3 true] [At.box b4 28 [.slice Aa5 v3.length c6]] false (fun v Δ => v = .tuple #[mv_47 r.1, .int .i64 r.2] ∧ Δ = [At.box b4 28 [.slice Aa5 v3.length c6]]) := by
 refine Does.body (vs := [.int .i64 a1, mv_47 v2, .pointer (some ⟨b4, 0, none⟩)]) Try.func71 rfl ⟨.inl rfl, trivial⟩ ⟨.inr (fun _ _ _ h => h), trivial⟩ fun w S => ?_
 unfold gain_Act_2.f at H0
 refine J.sr ?_
 refine JL.box (cl_47 v2) fun b8 => ?_
 refine JL.alloc (cl_47 zv_47) fun b9 => ?_
 refine JL.as (.int .i64 0) ?_
 refine JL.es [(2, .pointer (some ⟨b4, 0, none⟩)), (4, .pointer (some ⟨b8, 0, none⟩)), (5, .pointer (some ⟨b9, 0, none⟩))] ?_
 refine J.join (T := (Cx × Int)) (G := Nat) (fun t => gain_Act_2.k1 v2 v3 t.1 t.2 = some r) (fun t g => [(2, .pointer (some ⟨b4, 0, none⟩)), (4, .pointer (some ⟨b8, 0, none⟩)), (5, .pointer (some ⟨b9, 0, none⟩)), (7, .pointer (some ⟨g, 0, none⟩)), (8, .int .i64 t.2)]) (fun t g => [At.box b4 28 [.slice Aa5 v3.length c6], At.rd Aa5 c6 fl_Cx.kd v3 true, At.box b8 47 (cl_47 v2), At.box b9 47 (cl_47 zv_47), At.box g 23 (cl_23 t.1)]) ?_ ?_
 · obtain ⟨⟨h48, h49⟩, H0⟩ := ite_must H0
   obtain ⟨t52, hc53, H0⟩ := bind_some H0
   refine JQ.openA 0 (elems_rd Aa5 c6 fl_Cx.kd v3 true) h48 h49 fun g55 o56 hA => ?_
   subst hA
   refine JY.start [12] (ba 14 0) ?_
   refine JY.take (hi := rfl) 0 (ba 14 1) (.slice (some ⟨g55, o56, none⟩) v3.length c6) (some 10) [true, true, true, true] want (yields_load_box 1 0 (holds_box b4 28 [.slice (some ⟨g55, o56, none⟩) v3.length c6]) tyAgg_28) ?_
   refine JY.pur (hi := rfl) 1 (ba 14 3) (.pointer (some ⟨b8, 0, none⟩)) (some 11) want ?_
   refine JY.take (hi := rfl) 2 (ba 14 7) (.int .i64 v2.I) (some 12) [true, true, true, true] want (yields_load_box 2 0 (holds_box b8 47 (cl_47 v2)) tyAgg_3) ?_
   obtain ⟨h57, h58⟩ : 0 ≤ v2.I ∧ v2.I < (v3.length : Int) := ⟨h48, h49⟩
   refine JY.puw (hi := rfl) 3 (ba 14 15) (.pointer (some ⟨g55, o56 + v2.I.toNat * 3, none⟩)) (some 13) want (givesW_ixSl (g := g55) (o := o56) (n := v3.length) (i := v2.I) 3 c6 .i64 Try.underlying28 tySize_23 h57 h58) ?_
   refine JY.take (hi := rfl) 4 (ba 14 31) (mv_23 (ix v3 v2.I)) (some 14) [true, true, true, true] want (gives_loadEl (f := fl_Cx) 0 0 v2.I (elems_rd (some ⟨g55, o56, none⟩) c6 fl_Cx.kd v3 true) h57 h58 tySize_23 (.inl ⟨tyAgg_23, rfl⟩)) ?_
   refine JY.pur (hi := rfl) 5 (ba 14 63) (.pointer (some ⟨b8, 2, none⟩)) (some 15) want ?_
   refine JY.take (hi := rfl) 6 (ba 14 127) (mv_23 v2.V) (some 16) [true, true, true, true] want (yields_load_boxes 2 2 (cl_23 v2.V) (holds_box b8 47 (cl_47 v2)) tyAgg_23 tySize_23) ?_
   refine JY.all [7, 11] ⟨⟨_, rfl, ?_⟩, ⟨_, rfl, ?_⟩, trivial⟩
   · refine JL.call [] [] [] (cx_Mul.ok (ix v3 v2.I) v2.V _ hc53) trivial ?_
     rintro _ _ ⟨rfl, rfl⟩
     refine JL.nil ?_
     refine JY.ran (ba 14 255) [true, true, true, true] ?_
     refine JY.pur (hi := rfl) 8 (ba 14 511) (.tuple #[mv_23 t52.1, .int .i64 t52.2]) (some 9) want ?_
     refine JY.pur (hi := rfl) 9 (ba 14 1023) (mv_23 t52.1) (some 18) want ?_
     refine JY.pur (hi := rfl) 10 (ba 14 2047) (.int .i64 t52.2) (some 19) want ?_
     refine JY.all [11] ⟨⟨_, rfl, ?_⟩, trivial⟩
     refine JL.alloc (cl_23 zv_23) fun b63 => ?_
     refine JL.nil ?_
     refine JY.ran (ba 14 4095) [true, true, true, true, false] ?_
     refine JY.all [12] ⟨⟨_, rfl, ?_⟩, trivial⟩
     refine JL.store 4 b63 0 23 (cl_23 zv_23) (cl_23 t52.1) tySize_23 ?_
     refine JL.nil ?_
     refine JY.ranD (ba 14 8191) ?_
     refine JY.pur (hi := rfl) 13 (ba 14 16383) (.int .i64 t52.2) (some 8) want ?_
     refine JY.done ?_
     refine JQ.then_normal ?_
     exact JQ.meet (t52.1, t52.2) b63 H0 (fun _ h => Heap.to (Heap.pick [1, 0, 2, 3, 4] (by decide) h))
   · refine JL.alloc (cl_23 zv_23) fun b64 => ?_
     refine JL.nil ?_
     refine JY.ran (ba 14 2175) [true, true, true, true, false] ?_
     refine JY.all [7] ⟨⟨_, rfl, ?_⟩, trivial⟩
     refine JL.call [] [] [] (cx_Mul.ok (ix v3 v2.I) v2.V _ hc53) trivial ?_
     rintro _ _ ⟨rfl, rfl⟩
     refine JL.nil ?_
     refine JY.ran (ba 14 2303) [true, true, true, true, false] ?_
     refine JY.pur (hi := rfl) 8 (ba 14 2559) (.tuple #[mv_23 t52.1, .int .i64 t52.2]) (some 9) want ?_
     refine JY.pur (hi := rfl) 9 (ba 14 3071) (mv_23 t52.1) (some 18) want ?_
     refine JY.pur (hi := rfl) 10 (ba 14 4095) (.int .i64 t52.2) (some 19) want ?_
     refine JY.all [12] ⟨⟨_, rfl, ?_⟩, trivial⟩
     refine JL.store 4 b64 0 23 (cl_23 zv_23) (cl_23 t52.1) tySize_23 ?_
     refine JL.nil ?_
     refine JY.ranD (ba 14 8191) ?_
     refine JY.pur (hi := rfl) 13 (ba 14 16383) (.int .i64 t52.2) (some 8) want ?_
     refine JY.done ?_
     refine JQ.then_normal ?_
     exact JQ.meet (t52.1, t52.2) b64 H0 (fun _ h => Heap.to (Heap.pick [1, 0, 2, 3, 4] (by decide) h))
 · clear H0
   rintro ⟨p31, e32⟩ b29 H0
   replace H0 : gain_Act_2.k1 v2 v3 p31 e32 = some r := H0
   unfold gain_Act_2.k1 at H0
   refine JQ.sub [(2, .pointer (some ⟨b4, 0, none⟩)), (4, .pointer (some ⟨b8, 0, none⟩)), (5, .pointer (some ⟨b9, 0, none⟩)), (7, .pointer (some ⟨b29, 0, none⟩)), (8, .int .i64 e32)] ?_
   refine JQ.turn (Δ' := [At.box b4 28 [.slice Aa5 v3.length c6], At.rd Aa5 c6 fl_Cx.kd v3 true, At.box b8 47 (cl_47 v2), At.box b9 47 (cl_47 zv_47), At.box b29 23 (cl_23 p31)]) (fun _ h => h.to) ?_
   refine J.seq ?_
   refine J.sr ?_
   refine JL.mv (.int .i64 e32) ?_
   refine JL.pur (.bool (!decide (e32 = 0))) (some 21) ?_
   refine JL.es [(2, .pointer (some ⟨b4, 0, none⟩)), (4, .pointer (some ⟨b8, 0, none⟩)), (5, .pointer (some ⟨b9, 0, none⟩)), (7, .pointer (some ⟨b29, 0, none⟩)), (8, .int .i64 e32), (21, .bool (!decide (e32 = 0)))] ?_
   rcases ite_cases H0 with ⟨h33, H0⟩ | ⟨h33, H0⟩
   · refine J.cond_true h33 ?_
     refine J.sr ?_
     refine JL.val (mv_47 v2) (some 22) (yields_load_boxes 2 0 (cl_47 v2) (holds_box b8 47 (cl_47 v2)) tyAgg_47 tySize_47) ?_
     refine JL.mv (.int .i64 e32) ?_
     refine JL.store 3 b9 0 47 (cl_47 zv_47) (cl_47 v2) tySize_47 ?_
     refine JL.as (.int .i64 e32) ?_
     refine JL.es [(5, .pointer (some ⟨b9, 0, none⟩)), (6, .int .i64 e32)] ?_
     refine JQ.mask [At.box b4 28 [.slice Aa5 v3.length c6], At.rd Aa5 c6 fl_Cx.kd v3 true, At.box b9 47 (cl_47 v2)] [true, true, false, true, false] ?_
     refine J.ret ?_
     refine JQ.then_ret ?_
     obtain rfl := Option.some.inj H0
     exact JQ.done' (rs := [.cell 5 47, .tmp 6]) (vs := [.agg #[.int .i64 v2.I, .int .i64 v2.J, .int .i64 v2.V.Re, .int .i64 v2.V.Im, .int .i64 v2.V.Den, .int .i64 v2.N], .int .i64 e32]) [At.box b4 28 [.slice Aa5 v3.length c6]] (.inr rfl) ⟨⟨b9, 2, _, _, by kernel_rfl, by kernel_rfl, holds_box b9 47 (cl_47 v2), .inl ⟨tyAgg_47, tySize_47, rfl⟩⟩, by kernel_rfl, trivial⟩ (fun _ h => Heap.to (Heap.pick [0] (by decide) h)) ⟨rfl, rfl⟩
   · refine J.cond_false h33 ?_
     refine J.skip ?_
     refine JQ.ts [(2, .pointer (some ⟨b4, 0, none⟩)), (4, .pointer (some ⟨b8, 0, none⟩)), (5, .pointer (some ⟨b9, 0, none⟩)), (7, .pointer (some ⟨b29, 0, none⟩))] ?_
     refine J.seq ?_
     obtain ⟨⟨h34, h35⟩, H0⟩ := ite_must H0
     obtain ⟨t38, hc39, H0⟩ := bind_some H0
     refine JQ.openA 1 (elems_rd Aa5 c6 fl_Cx.kd v3 true) h34 h35 fun g40 o41 hA => ?_
     subst hA
     refine JY.start [11] (ba 13 0) ?_
     refine JY.take (hi := rfl) 0 (ba 13 1) (mv_23 p31) (some 25) [true, true, true, true, true] want (yields_load_boxes 4 0 (cl_23 p31) (holds_box b29 23 (cl_23 p31)) tyAgg_23 tySize_23) ?_
     refine JY.take (hi := rfl) 1 (ba 13 3) (.slice (some ⟨g40, o41, none⟩) v3.length c6) (some 26) [true, true, true, true, true] want (yields_load_box 0 0 (holds_box b4 28 [.slice (some ⟨g40, o41, none⟩) v3.length c6]) tyAgg_28) ?_
     refine JY.pur (hi := rfl) 2 (ba 13 7) (.pointer (some ⟨b8, 1, none⟩)) (some 27) want ?_
     refine JY.take (hi := rfl) 3 (ba 13 15) (.int .i64 v2.J) (some 28) [true, true, true, true, true] want (yields_load_box 2 1 (holds_box b8 47 (cl_47 v2)) tyAgg_3) ?_
     obtain ⟨h42, h43⟩ : 0 ≤ v2.J ∧ v2.J < (v3.length : Int) := ⟨h34, h35⟩
     refine JY.puw (hi := rfl) 4 (ba 13 31) (.pointer (some ⟨g40, o41 + v2.J.toNat * 3, none⟩)) (some 29) want (givesW_ixSl (g := g40) (o := o41) (n := v3.length) (i := v2.J) 3 c6 .i64 Try.underlying28 tySize_23 h42 h43) ?_
     refine JY.take (hi := rfl) 5 (ba 13 63) (mv_23 (ix v3 v2.J)) (some 30) [true, true, true, true, true] want (gives_loadEl (f := fl_Cx) 1 0 v2.J (elems_rd (some ⟨g40, o41, none⟩) c6 fl_Cx.kd v3 true) h42 h43 tySize_23 (.inl ⟨tyAgg_23, rfl⟩)) ?_
     refine JY.all [6] ⟨⟨_, rfl, ?_⟩, trivial⟩
     refine JL.call [] [] [] (gain_times.ok p31 (ix v3 v2.J) _ hc39) trivial ?_
     rintro _ _ ⟨rfl, rfl⟩
     refine JL.nil ?_
     refine JY.ran (ba 13 127) [true, true, true, true, true] ?_
     refine JY.pur (hi := rfl) 7 (ba 13 255) (.tuple #[mv_23 t38.1, .int .i64 t38.2]) (some 24) want ?_
     refine JY.pur (hi := rfl) 8 (ba 13 511) (mv_23 t38.1) (some 32) want ?_
     refine JY.pur (hi := rfl) 9 (ba 13 1023) (.int .i64 t38.2) (some 33) want ?_
     refine JY.pur (hi := rfl) 10 (ba 13 2047) (.pointer (some ⟨b8, 2, none⟩)) (some 34) want ?_
     refine JY.all [11] ⟨⟨_, rfl, ?_⟩, trivial⟩
     refine JL.store 2 b8 2 47 (cl_47 v2) [.int .i64 v2.I, .int .i64 v2.J, .int .i64 t38.1.Re, .int .i64 t38.1.Im, .int .i64 t38.1.Den, .int .i64 v2.N] tySize_23 ?_
     refine JL.nil ?_
     refine JY.ranD (ba 13 4095) ?_
     refine JY.pur (hi := rfl) 12 (ba 13 8191) (.int .i64 t38.2) (some 8) want ?_
     refine JY.done ?_
     refine JQ.ts [(4, .pointer (some ⟨b8, 0, none⟩)), (5, .pointer (some ⟨b9, 0, none⟩)), (8, .int .i64 t38.2)] ?_
     refine JQ.mask [At.box b4 28 [.slice (some ⟨g40, o41, none⟩) v3.length c6], At.rd (some ⟨g40, o41, none⟩) c6 fl_Cx.kd v3 true, At.box b8 47 [.int .i64 v2.I, .int .i64 v2.J, .int .i64 t38.1.Re, .int .i64 t38.1.Im, .int .i64 t38.1.Den, .int .i64 v2.N], At.box b9 47 (cl_47 zv_47)] [true, true, true, true, false] ?_
     refine J.sr ?_
     refine JL.val (.agg #[.int .i64 v2.I, .int .i64 v2.J, .int .i64 t38.1.Re, .int .i64 t38.1.Im, .int .i64 t38.1.Den, .int .i64 v2.N]) (some 35) (yields_load_boxes 2 0 [.int .i64 v2.I, .int .i64 v2.J, .int .i64 t38.1.Re, .int .i64 t38.1.Im, .int .i64 t38.1.Den, .int .i64 v2.N] (holds_box b8 47 [.int .i64 v2.I, .int .i64 v2.J, .int .i64 t38.1.Re, .int .i64 t38.1.Im, .int .i64 t38.1.Den, .int .i64 v2.N]) tyAgg_47 tySize_47) ?_
     refine JL.mv (.int .i64 t38.2) ?_
     refine JL.store 3 b9 0 47 (cl_47 zv_47) [.int .i64 v2.I, .int .i64 v2.J, .int .i64 t38.1.Re, .int .i64 t38.1.Im, .int .i64 t38.1.Den, .int .i64 v2.N] tySize_47 ?_
     refine JL.as (.int .i64 t38.2) ?_
     refine JL.es [(5, .pointer (some ⟨b9, 0, none⟩)), (6, .int .i64 t38.2)] ?_
     refine JQ.mask [At.box b4 28 [.slice (some ⟨g40, o41, none⟩) v3.length c6], At.rd (some ⟨g40, o41, none⟩) c6 fl_Cx.kd v3 true, At.box b9 47 [.int .i64 v2.I, .int .i64 v2.J, .int .i64 t38.1.Re, .int .i64 t38.1.Im, .int .i64 t38.1.Den, .int .i64 v2.N]] [true, true, false, true] ?_
     refine J.ret ?_
     obtain rfl := Option.some.inj H0
     exact JQ.done' (rs := [.cell 5 47, .tmp 6]) (vs := [.agg #[.int .i64 v2.I, .int .i64 v2.J, .int .i64 t38.1.Re, .int .i64 t38.1.Im, .int .i64 t38.1.Den, .int .i64 v2.N], .int .i64 t38.2]) [At.box b4 28 [.slice (some ⟨g40, o41, none⟩) v3.length c6]] (.inr rfl) ⟨⟨b9, 2, _, _, by kernel_rfl, by kernel_rfl, holds_box b9 47 [.int .i64 v2.I, .int .i64 v2.J, .int .i64 t38.1.Re, .int .i64 t38.1.Im, .int .i64 t38.1.Den, .int .i64 v2.N], .inl ⟨tyAgg_47, tySize_47, rfl⟩⟩, by kernel_rfl, trivial⟩ (fun _ h => Heap.to (Heap.pick [0] (by decide) h)) ⟨rfl, rfl⟩

theorem gain_made__api_Vis_api_Vis__gain_Act_2.ok (l1 : (List Vis)) (Aa2 : Option Addr) (c3 : Nat) (v5 : (List Cx)) (b6 : Nat) (Aa7 : Option Addr) (c8 : Nat) (r : ((List Vis) × Int)) (H0 : gain_made__api_Vis_api_Vis__gain_Act_2.f l1 v5 = some r) :
    Does Try.prog 70 [.slice Aa2 l1.length c3, .func (.func 71) #[] #[.pointer (some ⟨b6, 0, none⟩)]].toArray [At.rd Aa2 c3 fl_Vis.kd l1 true, At.rd Aa7 c8 fl_Cx.kd v5 true] [At.box b6 28 [.slice Aa7 v5.length c8]] false (fun v Δ => ∃ A1001 : Option Addr, ∃ c1001 : Nat, v = .tuple #[.slice A1001 r.1.length c1001, .int .i64 r.2] ∧ Δ = [At.box b6 28 [.slice Aa7 v5.length c8], At.row A1001 c1001 47 fl_Vis.kd r.1 false]) := by
 refine Does.body (vs := [.slice Aa2 l1.length c3, .func (.func 71) #[] #[.pointer (some ⟨b6, 0, none⟩)]]) Try.func70 rfl ⟨.inl rfl, .inl rfl, trivial⟩ ⟨.inr (fun _ _ _ h => h), trivial⟩ fun w S => ?_
 unfold gain_made__api_Vis_api_Vis__gain_Act_2.f at H0
 refine J.sr ?_
 refine JL.as (.slice none 0 0) ?_
 refine JL.as (.int .i64 0) ?_
 refine JL.es [(0, .slice Aa2 l1.length c3), (1, .func (.func 71) #[] #[.pointer (some ⟨b6, 0, none⟩)])] ?_
 refine J.sr ?_
 refine JL.as (.slice none 0 0) ?_
 refine JL.en ?_
 refine J.seq ?_
 refine J.sr ?_
 refine JL.mv (.slice Aa2 l1.length c3) ?_
 refine JL.pur (.int .i64 (l1.length : Int)) (some 12) ?_
 refine JL.mv (.int .i64 0) ?_
 refine JL.es [(1, .func (.func 71) #[] #[.pointer (some ⟨b6, 0, none⟩)]), (6, .slice none 0 0), (11, .slice Aa2 l1.length c3), (12, .int .i64 (l1.length : Int)), (13, .int .i64 0)] ?_
 obtain ⟨o1, hit, H0⟩ := bind_some H0
 refine J.loop (σ := ((List Vis) × Int)) (τ := List Vis) (G := ((Option Addr) × Nat)) (G' := ((Option Addr) × Nat)) _ o1 (fun s g => [(1, .func (.func 71) #[] #[.pointer (some ⟨b6, 0, none⟩)]), (6, .slice g.1 s.1.length g.2), (11, .slice Aa2 l1.length c3), (12, .int .i64 (l1.length : Int)), (13, .int .i64 s.2)]) (fun s g => [At.box b6 28 [.slice Aa7 v5.length c8], At.rd Aa7 c8 fl_Cx.kd v5 true, At.row g.1 g.2 47 fl_Vis.kd s.1 false, At.rd Aa2 c3 fl_Vis.kd l1 true]) (fun t => gain_made__api_Vis_api_Vis__gain_Act_2.k2 t = some r) (fun t g => [(6, .slice g.1 t.length g.2)]) (fun t g => [At.row g.1 g.2 47 fl_Vis.kd t false, At.box b6 28 [.slice Aa7 v5.length c8], At.rd Aa7 c8 fl_Cx.kd v5 true]) ([], 0) (none, 0) hit (fun _ h => Heap.to (Heap.pick [2, 1, 3, 0] (by decide) (Heap.addRow0 (α := Vis) 47 fl_Vis.kd false h))) ?_ ?_
 · clear hit
   rintro ⟨out49, x53⟩ ⟨Aa50, c51⟩ st1 H1 hb1 hr1
   replace H1 : gain_made__api_Vis_api_Vis__gain_Act_2.s1 l1 v5 out49 x53 = some st1 := H1
   unfold gain_made__api_Vis_api_Vis__gain_Act_2.s1 at H1
   refine JQ.sub [(1, .func (.func 71) #[] #[.pointer (some ⟨b6, 0, none⟩)]), (6, .slice Aa50 out49.length c51), (11, .slice Aa2 l1.length c3), (12, .int .i64 (l1.length : Int)), (13, .int .i64 x53)] ?_
   refine JQ.turn (Δ' := [At.box b6 28 [.slice Aa7 v5.length c8], At.rd Aa7 c8 fl_Cx.kd v5 true, At.row Aa50 c51 47 fl_Vis.kd out49 false, At.rd Aa2 c3 fl_Vis.kd l1 true]) (fun _ h => h.to) ?_
   refine J.sr ?_
   refine JL.pur (.bool (decide (x53 < (l1.length : Int)))) (some 14) ?_
   refine JL.en ?_
   refine J.seq ?_
   rcases ite_cases H1 with ⟨h72, H1⟩ | ⟨h72, H1⟩
   · refine J.cond_true h72 ?_
     refine J.skip ?_
     refine JQ.ts [(1, .func (.func 71) #[] #[.pointer (some ⟨b6, 0, none⟩)]), (6, .slice Aa50 out49.length c51), (11, .slice Aa2 l1.length c3), (12, .int .i64 (l1.length : Int)), (13, .int .i64 x53)] ?_
     refine J.seq ?_
     refine J.block ?_
     refine J.sr ?_
     refine JL.mv (.int .i64 x53) ?_
     obtain ⟨⟨h73, h74⟩, H1⟩ := ite_must H1
     refine JL.ixAddr 3 6 c3 .i64 (elems_rd Aa2 c3 fl_Vis.kd l1 true) Try.underlying48 tySize_47 h73 h74 fun g75 o76 hA => ?_
     subst hA
     refine JL.val (mv_47 (ix l1 x53)) (some 17) (gives_loadEl (f := fl_Vis) 3 0 x53 (elems_rd (some ⟨g75, o76, none⟩) c3 fl_Vis.kd l1 true) h73 h74 tySize_47 (.inl ⟨tyAgg_47, rfl⟩)) ?_
     refine JL.alloc (cl_47 zv_47) fun b77 => ?_
     refine JL.as (.int .i64 x53) ?_
     refine JL.store 4 b77 0 47 (cl_47 zv_47) (cl_47 (ix l1 x53)) tySize_47 ?_
     refine JL.es [(1, .func (.func 71) #[] #[.pointer (some ⟨b6, 0, none⟩)]), (6, .slice Aa50 out49.length c51), (7, .int .i64 x53), (8, .pointer (some ⟨b77, 0, none⟩)), (11, .slice (some ⟨g75, o76, none⟩) l1.length c3), (12, .int .i64 (l1.length : Int)), (13, .int .i64 x53)] ?_
     refine J.sr ?_
     refine JL.mv (.func (.func 71) #[] #[.pointer (some ⟨b6, 0, none⟩)]) ?_
     refine JL.mv (.int .i64 x53) ?_
     refine JL.val (mv_47 (ix l1 x53)) (some 21) (yields_load_boxes 4 0 (cl_47 (ix l1 x53)) (holds_box b77 47 (cl_47 (ix l1 x53))) tyAgg_47 tySize_47) ?_
     obtain ⟨t78, hc79, H1⟩ := bind_some H1
     refine JL.call [] [.pointer (some ⟨b6, 0, none⟩)] [true] (gain_Act_2.ok x53 (ix l1 x53) v5 b6 Aa7 c8 _ hc79) ⟨pre_any 0 (view_rd Aa7 c8 fl_Cx.kd v5 true true), trivial⟩ ?_
     rintro _ _ ⟨rfl, rfl⟩
     refine JL.mv (.tuple #[mv_47 t78.1, .int .i64 t78.2]) ?_
     refine JL.pur (mv_47 t78.1) (some 23) ?_
     refine JL.pur (.int .i64 t78.2) (some 24) ?_
     refine JL.alloc (cl_47 zv_47) fun b80 => ?_
     refine JL.store 5 b80 0 47 (cl_47 zv_47) (cl_47 t78.1) tySize_47 ?_
     refine JL.as (.int .i64 t78.2) ?_
     refine JL.es [(1, .func (.func 71) #[] #[.pointer (some ⟨b6, 0, none⟩)]), (6, .slice Aa50 out49.length c51), (9, .pointer (some ⟨b80, 0, none⟩)), (10, .int .i64 t78.2), (11, .slice (some ⟨g75, o76, none⟩) l1.length c3), (12, .int .i64 (l1.length : Int)), (13, .int .i64 x53)] ?_
     refine JQ.mask [At.rd Aa7 c8 fl_Cx.kd v5 true, At.row Aa50 c51 47 fl_Vis.kd out49 false, At.rd (some ⟨g75, o76, none⟩) c3 fl_Vis.kd l1 true, At.box b6 28 [.slice Aa7 v5.length c8], At.box b80 47 (cl_47 t78.1)] [true, true, true, false, true, true] ?_
     refine J.seq ?_
     refine J.sr ?_
     refine JL.mv (.int .i64 t78.2) ?_
     refine JL.pur (.bool (!decide (t78.2 = 0))) (some 26) ?_
     refine JL.es [(1, .func (.func 71) #[] #[.pointer (some ⟨b6, 0, none⟩)]), (6, .slice Aa50 out49.length c51), (9, .pointer (some ⟨b80, 0, none⟩)), (11, .slice (some ⟨g75, o76, none⟩) l1.length c3), (12, .int .i64 (l1.length : Int)), (13, .int .i64 x53), (26, .bool (!decide (t78.2 = 0)))] ?_
     rcases ite_cases H1 with ⟨h81, H1⟩ | ⟨h81, H1⟩
     · refine J.cond_true h81 ?_
       refine J.sr ?_
       refine JL.as (.slice none 0 0) ?_
       refine JL.as (.int .i64 16) ?_
       refine JL.es [(4, .slice none 0 0), (5, .int .i64 16)] ?_
       refine JQ.mask [At.rd Aa7 c8 fl_Cx.kd v5 true, At.box b6 28 [.slice Aa7 v5.length c8]] [true, false, false, true, false] ?_
       refine J.ret ?_
       refine JQ.then_ret ?_
       refine JQ.blk_ret ?_
       refine JQ.then_ret ?_
       refine JQ.then_ret ?_
       refine JQ.blk_ret ?_
       refine JQ.met_ret ?_
       refine JQ.then_ret ?_
       rw [hr1 _ (Option.some.inj H1).symm, fin_ret] at H0
       obtain rfl := Option.some.inj H0
       exact JQ.done' (rs := [.tmp 4, .tmp 5]) (vs := [.slice none 0 0, .int .i64 16]) [At.box b6 28 [.slice Aa7 v5.length c8], At.row none 0 47 fl_Vis.kd ([] : List Vis) false] (.inr rfl) ⟨by kernel_rfl, by kernel_rfl, trivial⟩ (fun _ h => Heap.to (Heap.pick [1, 2] (by decide) (Heap.addRow0 (α := Vis) 47 fl_Vis.kd false h))) ⟨none, 0, rfl, rfl⟩
     · refine J.cond_false h81 ?_
       refine J.skip ?_
       refine JQ.ts [(1, .func (.func 71) #[] #[.pointer (some ⟨b6, 0, none⟩)]), (6, .slice Aa50 out49.length c51), (9, .pointer (some ⟨b80, 0, none⟩)), (11, .slice (some ⟨g75, o76, none⟩) l1.length c3), (12, .int .i64 (l1.length : Int)), (13, .int .i64 x53)] ?_
       refine J.region ?_
       refine JL.mv (.slice Aa50 out49.length c51) ?_
       refine JL.val (mv_47 t78.1) (some 28) (yields_load_boxes 4 0 (cl_47 t78.1) (holds_box b80 47 (cl_47 t78.1)) tyAgg_47 tySize_47) ?_
       refine JL.buildSl 47 fl_Vis.kd (([t78.1] : List Vis) : List Vis) [.int .i64 t78.1.I, .int .i64 t78.1.J, .int .i64 t78.1.V.Re, .int .i64 t78.1.V.Im, .int .i64 t78.1.V.Den, .int .i64 t78.1.N] false (closes_fl rfl) fun b82 => ?_
       obtain ⟨h85, H1⟩ := ite_must H1
       refine JL.append false false 1 5 Aa50 c51 1 out49 (elems_row (some ⟨b82, 0, none⟩) 1 47 fl_Vis.kd ([t78.1] : List Vis) false) Try.underlying48 info_47 (by omega) (by omega) (fun h => h) (.inr ⟨_, rfl⟩) fun Aa83 c84 => ?_
       refine JL.as (.slice Aa83 (out49 ++ ([t78.1] : List Vis)).length c84) ?_
       refine JL.end_ ?_
       refine JQ.blk_normal ?_
       refine JQ.ts [(1, .func (.func 71) #[] #[.pointer (some ⟨b6, 0, none⟩)]), (6, .slice Aa83 (out49 ++ ([t78.1] : List Vis)).length c84), (11, .slice (some ⟨g75, o76, none⟩) l1.length c3), (12, .int .i64 (l1.length : Int)), (13, .int .i64 x53)] ?_
       refine JQ.mask [At.rd Aa7 c8 fl_Cx.kd v5 true, At.row Aa83 c84 47 fl_Vis.kd (out49 ++ ([t78.1] : List Vis)) false, At.rd (some ⟨g75, o76, none⟩) c3 fl_Vis.kd l1 true, At.box b6 28 [.slice Aa7 v5.length c8]] [true, true, true, true, false, false] ?_
       refine J.region ?_
       refine JL.pur (.int .i64 (w64 (x53 + 1))) (some 31) ?_
       refine JL.mv (.int .i64 (w64 (x53 + 1))) ?_
       refine JL.en ?_
       exact JQ.again ((out49 ++ ([t78.1] : List Vis)), w64 (x53 + 1)) (Aa83, c84) (Option.some.inj H1).symm (fun _ h => Heap.to (Heap.pick [3, 0, 1, 2] (by decide) h))
   · refine J.cond_false h72 ?_
     refine J.exit ?_
     refine JQ.then_exit ?_
     refine JQ.then_exit ?_
     refine JQ.blk_exit ?_
     rw [hb1 _ (Option.some.inj H1).symm, fin_brk] at H0
     exact JQ.met out49 (Aa50, c51) H0 (fun _ h => Heap.to (Heap.pick [2, 0, 1] (by decide) h))
 · clear hit H0
   rintro out68 ⟨Aa69, c70⟩ H0
   replace H0 : gain_made__api_Vis_api_Vis__gain_Act_2.k2 out68 = some r := H0
   unfold gain_made__api_Vis_api_Vis__gain_Act_2.k2 at H0
   refine JQ.sub [(6, .slice Aa69 out68.length c70)] ?_
   refine JQ.turn (Δ' := [At.row Aa69 c70 47 fl_Vis.kd out68 false, At.box b6 28 [.slice Aa7 v5.length c8], At.rd Aa7 c8 fl_Cx.kd v5 true]) (fun _ h => h.to) ?_
   refine JQ.then_normal ?_
   refine J.sr ?_
   refine JL.mv (.slice Aa69 out68.length c70) ?_
   refine JL.as (.slice Aa69 out68.length c70) ?_
   refine JL.as (.int .i64 0) ?_
   refine JL.es [(4, .slice Aa69 out68.length c70), (5, .int .i64 0)] ?_
   refine J.ret ?_
   obtain rfl := Option.some.inj H0
   exact JQ.done' (rs := [.tmp 4, .tmp 5]) (vs := [.slice Aa69 out68.length c70, .int .i64 0]) [At.box b6 28 [.slice Aa7 v5.length c8], At.row Aa69 c70 47 fl_Vis.kd out68 false] (.inr rfl) ⟨by kernel_rfl, by kernel_rfl, trivial⟩ (fun _ h => Heap.to (Heap.pick [1, 0] (by decide) h)) ⟨Aa69, c70, rfl, rfl⟩

theorem gain_Act.ok (g1 : (List Cx)) (Aa2 : Option Addr) (c3 : Nat) (l5 : (List Vis)) (Aa6 : Option Addr) (c7 : Nat) (r : ((List Vis) × Int)) (H0 : gain_Act.f g1 l5 = some r) :
    Does Try.prog 47 [.slice Aa2 g1.length c3, .slice Aa6 l5.length c7].toArray [At.rd Aa2 c3 fl_Cx.kd g1 true, At.rd Aa6 c7 fl_Vis.kd l5 true] [] false (fun v Δ => ∃ A1001 : Option Addr, ∃ c1001 : Nat, v = .tuple #[.slice A1001 r.1.length c1001, .int .i64 r.2] ∧ Δ = [At.row A1001 c1001 47 fl_Vis.kd r.1 false]) := by
 refine Does.body (vs := [.slice Aa2 g1.length c3, .slice Aa6 l5.length c7]) Try.func47 rfl ⟨.inl rfl, .inl rfl, trivial⟩ trivial fun w S => ?_
 unfold gain_Act.f at H0
 refine J.sr ?_
 refine JL.box [.slice Aa2 g1.length c3] fun b9 => ?_
 refine JL.as (.slice none 0 0) ?_
 refine JL.as (.int .i64 0) ?_
 refine JL.es [(1, .slice Aa6 l5.length c7), (2, .pointer (some ⟨b9, 0, none⟩))] ?_
 refine J.seq ?_
 refine J.sr ?_
 refine JL.val (.slice Aa2 g1.length c3) (some 8) (yields_load_box 2 0 (holds_box b9 28 [.slice Aa2 g1.length c3]) tyAgg_28) ?_
 obtain ⟨t10, hc11, H0⟩ := bind_some H0
 refine JL.call [] [] [] (gain_Check.ok g1 Aa2 c3 _ hc11) ⟨pre_any 0 (view_rd Aa2 c3 fl_Cx.kd g1 true true), trivial⟩ ?_
 rintro _ _ ⟨rfl, rfl⟩
 refine JL.as (.int .i64 t10) ?_
 refine JL.es [(1, .slice Aa6 l5.length c7), (2, .pointer (some ⟨b9, 0, none⟩)), (6, .int .i64 t10)] ?_
 refine J.sr ?_
 refine JL.mv (.int .i64 t10) ?_
 refine JL.pur (.bool (!decide (t10 = 0))) (some 11) ?_
 refine JL.es [(1, .slice Aa6 l5.length c7), (2, .pointer (some ⟨b9, 0, none⟩)), (6, .int .i64 t10), (11, .bool (!decide (t10 = 0)))] ?_
 rcases ite_cases H0 with ⟨h12, H0⟩ | ⟨h12, H0⟩
 · refine J.cond_true h12 ?_
   refine J.sr ?_
   refine JL.mv (.int .i64 t10) ?_
   refine JL.as (.slice none 0 0) ?_
   refine JL.as (.int .i64 t10) ?_
   refine JL.es [(4, .slice none 0 0), (5, .int .i64 t10)] ?_
   refine JQ.mask [] [false, false, false] ?_
   refine J.ret ?_
   refine JQ.then_ret ?_
   obtain rfl := Option.some.inj H0
   exact JQ.done' (rs := [.tmp 4, .tmp 5]) (vs := [.slice none 0 0, .int .i64 t10]) [At.row none 0 47 fl_Vis.kd ([] : List Vis) false] (.inr rfl) ⟨by kernel_rfl, by kernel_rfl, trivial⟩ (fun _ h => Heap.to (Heap.addRow0 (α := Vis) 47 fl_Vis.kd false h)) ⟨none, 0, rfl, rfl⟩
 · refine J.cond_false h12 ?_
   refine J.skip ?_
   refine JQ.ts [(1, .slice Aa6 l5.length c7), (2, .pointer (some ⟨b9, 0, none⟩))] ?_
   refine J.seq ?_
   refine J.sr ?_
   refine JL.mv (.slice Aa6 l5.length c7) ?_
   refine JL.pur (.int .i64 (l5.length : Int)) (some 14) ?_
   refine JL.pur (.bool (decide (64 < (l5.length : Int)))) (some 15) ?_
   refine JL.es [(1, .slice Aa6 l5.length c7), (2, .pointer (some ⟨b9, 0, none⟩)), (15, .bool (decide (64 < (l5.length : Int))))] ?_
   rcases ite_cases H0 with ⟨h13, H0⟩ | ⟨h13, H0⟩
   · refine J.cond_true h13 ?_
     refine J.sr ?_
     refine JL.as (.slice none 0 0) ?_
     refine JL.as (.int .i64 4) ?_
     refine JL.es [(4, .slice none 0 0), (5, .int .i64 4)] ?_
     refine JQ.mask [] [false, false, false] ?_
     refine J.ret ?_
     refine JQ.then_ret ?_
     obtain rfl := Option.some.inj H0
     exact JQ.done' (rs := [.tmp 4, .tmp 5]) (vs := [.slice none 0 0, .int .i64 4]) [At.row none 0 47 fl_Vis.kd ([] : List Vis) false] (.inr rfl) ⟨by kernel_rfl, by kernel_rfl, trivial⟩ (fun _ h => Heap.to (Heap.addRow0 (α := Vis) 47 fl_Vis.kd false h)) ⟨none, 0, rfl, rfl⟩
   · refine J.cond_false h13 ?_
     refine J.skip ?_
     refine JQ.ts [(1, .slice Aa6 l5.length c7), (2, .pointer (some ⟨b9, 0, none⟩))] ?_
     refine J.sr ?_
     refine JL.pur (.func (.func 68) #[] #[.pointer (some ⟨b9, 0, none⟩)]) (some 16) ?_
     refine JL.as (.func (.func 68) #[] #[.pointer (some ⟨b9, 0, none⟩)]) ?_
     refine JL.es [(1, .slice Aa6 l5.length c7), (2, .pointer (some ⟨b9, 0, none⟩)), (7, .func (.func 68) #[] #[.pointer (some ⟨b9, 0, none⟩)])] ?_
     refine J.seq ?_
     refine J.sr ?_
     refine JL.mv (.slice Aa6 l5.length c7) ?_
     refine JL.mv (.func (.func 68) #[] #[.pointer (some ⟨b9, 0, none⟩)]) ?_
     obtain ⟨t14, hc15, H0⟩ := bind_some H0
     refine JL.call [] [] [false, false, true] (slices_ContainsFunc__api_Vis_api_Vis__gain_Act_1.ok l5 Aa6 c7 g1 b9 Aa2 c3 _ hc15) ⟨pre_any 1 (view_rd Aa6 c7 fl_Vis.kd l5 true true), ⟨pre_any 0 (view_rd Aa2 c3 fl_Cx.kd g1 true true), trivial⟩⟩ ?_
     rintro _ _ ⟨rfl, rfl⟩
     refine JL.es [(1, .slice Aa6 l5.length c7), (2, .pointer (some ⟨b9, 0, none⟩)), (19, .bool t14)] ?_
     rcases ite_cases H0 with ⟨h16, H0⟩ | ⟨h16, H0⟩
     · refine J.cond_true h16 ?_
       refine J.sr ?_
       refine JL.as (.slice none 0 0) ?_
       refine JL.as (.int .i64 8) ?_
       refine JL.es [(4, .slice none 0 0), (5, .int .i64 8)] ?_
       refine JQ.mask [] [false, false, false] ?_
       refine J.ret ?_
       refine JQ.then_ret ?_
       obtain rfl := Option.some.inj H0
       exact JQ.done' (rs := [.tmp 4, .tmp 5]) (vs := [.slice none 0 0, .int .i64 8]) [At.row none 0 47 fl_Vis.kd ([] : List Vis) false] (.inr rfl) ⟨by kernel_rfl, by kernel_rfl, trivial⟩ (fun _ h => Heap.to (Heap.addRow0 (α := Vis) 47 fl_Vis.kd false h)) ⟨none, 0, rfl, rfl⟩
     · refine J.cond_false h16 ?_
       refine J.skip ?_
       refine JQ.ts [(1, .slice Aa6 l5.length c7), (2, .pointer (some ⟨b9, 0, none⟩))] ?_
       refine J.sr ?_
       refine JL.mv (.slice Aa6 l5.length c7) ?_
       refine JL.pur (.func (.func 71) #[] #[.pointer (some ⟨b9, 0, none⟩)]) (some 21) ?_
       obtain ⟨t17, hc18, H0⟩ := bind_some H0
       refine JL.call [] [] [false, false, true] (gain_made__api_Vis_api_Vis__gain_Act_2.ok l5 Aa6 c7 g1 b9 Aa2 c3 _ hc18) ⟨pre_any 1 (view_rd Aa6 c7 fl_Vis.kd l5 true true), ⟨pre_any 0 (view_rd Aa2 c3 fl_Cx.kd g1 true true), trivial⟩⟩ ?_
       rintro _ _ ⟨Aa19, c20, rfl, rfl⟩
       refine JL.pur (.slice Aa19 t17.1.length c20) (some 23) ?_
       refine JL.pur (.int .i64 t17.2) (some 24) ?_
       refine JL.as (.slice Aa19 t17.1.length c20) ?_
       refine JL.as (.int .i64 t17.2) ?_
       refine JL.es [(4, .slice Aa19 t17.1.length c20), (5, .int .i64 t17.2)] ?_
       refine JQ.mask [At.row Aa19 c20 47 fl_Vis.kd t17.1 false] [false, false, false, true] ?_
       refine J.ret ?_
       obtain rfl := Option.some.inj H0
       exact JQ.done' (rs := [.tmp 4, .tmp 5]) (vs := [.slice Aa19 t17.1.length c20, .int .i64 t17.2]) [At.row Aa19 c20 47 fl_Vis.kd t17.1 false] (.inr rfl) ⟨by kernel_rfl, by kernel_rfl, trivial⟩ (fun _ h => Heap.to h) ⟨Aa19, c20, rfl, rfl⟩


end Go.Proofs.Ytifpegepdgmmbaa.M
