import Derived.Test.YtiepcikippcfaaaGw23
import Derived.Test.YtiepcikippcfaaaProg
import Derived.Test.YtiepcikippcfaaaM0
import Derived.Test.YtiepcikippcfaaaShelf
import Derived.Test.YtiepcikippcfaaaPCmpAccum
set_option linter.unusedVariables false
set_option linter.unusedSimpArgs false
set_option maxRecDepth 100000
set_option maxHeartbeats 8000000
namespace Go.Proofs.Ytiepcikippcfaaa.M
open Go.GW Go.Proofs

def zv_74 : Wide := (⟨(⟨0, 0⟩ : Count)⟩ : Wide)
def zv_56 : Lag := (⟨0, 0⟩ : Lag)
def zv_51 : Gap := (⟨0, 0⟩ : Gap)
def zv_49 : Count := (⟨0, 0⟩ : Count)
def zv_37 : Frac := (⟨0, 0⟩ : Frac)
def mv_74 (x : Wide) : Value := .agg #[.int .i64 x.Count.Hi, .int .i64 x.Count.Lo]
def cl_74 (x : Wide) : List Value := [.int .i64 x.Count.Hi, .int .i64 x.Count.Lo]
def mv_56 (x : Lag) : Value := .agg #[.int .i64 x.Sum, .int .i64 x.N]
def cl_56 (x : Lag) : List Value := [.int .i64 x.Sum, .int .i64 x.N]
def mv_51 (x : Gap) : Value := .agg #[.int .i64 x.At, .int .i64 x.Many]
def cl_51 (x : Gap) : List Value := [.int .i64 x.At, .int .i64 x.Many]
def mv_49 (x : Count) : Value := .agg #[.int .i64 x.Hi, .int .i64 x.Lo]
def cl_49 (x : Count) : List Value := [.int .i64 x.Hi, .int .i64 x.Lo]
def mv_37 (x : Frac) : Value := .agg #[.int .i64 x.Num, .int .i64 x.Den]
def cl_37 (x : Frac) : List Value := [.int .i64 x.Num, .int .i64 x.Den]
theorem eqg_37 : Try.prog.eqGuardType Try.prog.depth 37 = false := by kernel_rfl
theorem eqd_37 (d : Nat) (x y : Frac) (w : World) : (Op.equalIn (d + 2) 37 (.agg #[.int .i64 x.Num, .int .i64 x.Den]) (.agg #[.int .i64 y.Num, .int .i64 y.Den])).run Try.prog w = .ok (decide (x = y)) w := by
  have h : decide (x = y) = (decide (x.Num = y.Num) && (decide (x.Den = y.Den) && true)) := by cases x; cases y; simp
  rw [h]
  exact eqs_of Try.underlying37 (eqf_cons (eq_int d 2 .i64 x.Num y.Num w Try.underlying2) (eqf_cons (eq_int d 2 .i64 x.Den y.Den w Try.underlying2) eqf_nil))
theorem eqt_37 (x y : Frac) (w : World) : (Op.equal 37 (.agg #[.int .i64 x.Num, .int .i64 x.Den]) (.agg #[.int .i64 y.Num, .int .i64 y.Den])).run Try.prog w = .ok (decide (x = y)) w := eqd_37 9998 x y w
theorem eqg_49 : Try.prog.eqGuardType Try.prog.depth 49 = false := by kernel_rfl
theorem eqd_49 (d : Nat) (x y : Count) (w : World) : (Op.equalIn (d + 2) 49 (.agg #[.int .i64 x.Hi, .int .i64 x.Lo]) (.agg #[.int .i64 y.Hi, .int .i64 y.Lo])).run Try.prog w = .ok (decide (x = y)) w := by
  have h : decide (x = y) = (decide (x.Hi = y.Hi) && (decide (x.Lo = y.Lo) && true)) := by cases x; cases y; simp
  rw [h]
  exact eqs_of Try.underlying49 (eqf_cons (eq_int d 2 .i64 x.Hi y.Hi w Try.underlying2) (eqf_cons (eq_int d 2 .i64 x.Lo y.Lo w Try.underlying2) eqf_nil))
theorem eqt_49 (x y : Count) (w : World) : (Op.equal 49 (.agg #[.int .i64 x.Hi, .int .i64 x.Lo]) (.agg #[.int .i64 y.Hi, .int .i64 y.Lo])).run Try.prog w = .ok (decide (x = y)) w := eqd_49 9998 x y w
theorem eqg_51 : Try.prog.eqGuardType Try.prog.depth 51 = false := by kernel_rfl
theorem eqd_51 (d : Nat) (x y : Gap) (w : World) : (Op.equalIn (d + 2) 51 (.agg #[.int .i64 x.At, .int .i64 x.Many]) (.agg #[.int .i64 y.At, .int .i64 y.Many])).run Try.prog w = .ok (decide (x = y)) w := by
  have h : decide (x = y) = (decide (x.At = y.At) && (decide (x.Many = y.Many) && true)) := by cases x; cases y; simp
  rw [h]
  exact eqs_of Try.underlying51 (eqf_cons (eq_int d 3 .i64 x.At y.At w Try.underlying3) (eqf_cons (eq_int d 3 .i64 x.Many y.Many w Try.underlying3) eqf_nil))
theorem eqt_51 (x y : Gap) (w : World) : (Op.equal 51 (.agg #[.int .i64 x.At, .int .i64 x.Many]) (.agg #[.int .i64 y.At, .int .i64 y.Many])).run Try.prog w = .ok (decide (x = y)) w := eqd_51 9998 x y w
theorem info_49 : (Try.prog.info? 49).map (fun i => (i.zero, i.size, i.bytes)) = some (some (.agg #[.int .i64 0, .int .i64 0]), 2, 16) := by kernel_rfl
theorem info_51 : (Try.prog.info? 51).map (fun i => (i.zero, i.size, i.bytes)) = some (some (.agg #[.int .i64 0, .int .i64 0]), 2, 16) := by kernel_rfl
theorem tyAgg_2 : tyAgg Try.prog 2 = some false := by kernel_rfl
theorem tyAgg_3 : tyAgg Try.prog 3 = some false := by kernel_rfl
theorem tyAgg_22 : tyAgg Try.prog 22 = some false := by kernel_rfl
theorem tyAgg_23 : tyAgg Try.prog 23 = some false := by kernel_rfl
theorem tyAgg_25 : tyAgg Try.prog 25 = some true := by kernel_rfl
theorem tyAgg_37 : tyAgg Try.prog 37 = some true := by kernel_rfl
theorem tyAgg_49 : tyAgg Try.prog 49 = some true := by kernel_rfl
theorem tyAgg_51 : tyAgg Try.prog 51 = some true := by kernel_rfl
theorem tyAgg_56 : tyAgg Try.prog 56 = some true := by kernel_rfl
theorem tyAgg_74 : tyAgg Try.prog 74 = some true := by kernel_rfl
theorem tySize_2 : tySize Try.prog 2 = some 1 := by kernel_rfl
theorem tySize_3 : tySize Try.prog 3 = some 1 := by kernel_rfl
theorem tySize_22 : tySize Try.prog 22 = some 1 := by kernel_rfl
theorem tySize_23 : tySize Try.prog 23 = some 1 := by kernel_rfl
theorem tySize_25 : tySize Try.prog 25 = some 3 := by kernel_rfl
theorem tySize_37 : tySize Try.prog 37 = some 2 := by kernel_rfl
theorem tySize_49 : tySize Try.prog 49 = some 2 := by kernel_rfl
theorem tySize_51 : tySize Try.prog 51 = some 2 := by kernel_rfl
theorem tySize_56 : tySize Try.prog 56 = some 2 := by kernel_rfl
theorem tySize_74 : tySize Try.prog 74 = some 2 := by kernel_rfl
theorem accum_New.ok (most1 : Int) (r : (Acc × Int)) (H0 : accum_New.f most1 = some r) :
    Does Try.prog 19 [.int .i64 most1].toArray [] [] false (fun v Δ => ∃ A1001 : Option Addr, ∃ c1001 : Nat, ∃ A1002 : Option Addr, ∃ c1002 : Nat, ∃ A1003 : Option Addr, ∃ c1003 : Nat, v = .tuple #[.agg #[.slice A1001 r.1.Sums.length c1001, .slice A1002 r.1.Ns.length c1002, .slice A1003 r.1.Spans.length c1003], .int .i64 r.2] ∧ Δ = [At.row A1001 c1001 49 fl_Count.kd r.1.Sums false, At.row A1002 c1002 49 fl_Count.kd r.1.Ns false, At.row A1003 c1003 51 fl_Gap.kd r.1.Spans false]) := by
 refine Does.body (vs := [.int .i64 most1]) Try.func19 rfl trivial trivial fun w S => ?_
 unfold accum_New.f at H0
 refine J.sr ?_
 refine JL.alloc [.slice none 0 0, .slice none 0 0, .slice none 0 0] fun b2 => ?_
 refine JL.as (.int .i64 0) ?_
 refine JL.es [(0, .int .i64 most1), (2, .pointer (some ⟨b2, 0, none⟩))] ?_
 refine J.seq ?_
 refine J.join (T := Bool) (G := Unit) (fun t => accum_New.k1 most1 t = some r) (fun t g => [(0, .int .i64 most1), (2, .pointer (some ⟨b2, 0, none⟩)), (10, .bool t)]) (fun t g => [At.box b2 25 [.slice none 0 0, .slice none 0 0, .slice none 0 0]]) ?_ ?_
 · refine J.region ?_
   refine JL.mv (.int .i64 most1) ?_
   refine JL.pur (.bool (decide (most1 < 0))) (some 6) ?_
   refine JL.mv (.bool (decide (most1 < 0))) ?_
   rcases ite_cases H0 with ⟨h31, H0⟩ | ⟨h31, H0⟩
   · refine JL.off 2 7 false (some 8) h31 ?_
     refine JL.off 2 7 false (some 9) h31 ?_
     refine JL.val (.bool true) (some 10) (gives_pickT h31) ?_
     refine JL.en ?_
     exact JQ.meet true () H0 (fun _ h => Heap.to h)
   · refine JL.on 2 7 h31 ?_
     refine JL.mv (.int .i64 most1) ?_
     refine JL.on 2 7 h31 ?_
     refine JL.pur (.bool (decide (255 < most1))) (some 9) ?_
     refine JL.val (.bool (decide (255 < most1))) (some 10) (gives_pickF h31) ?_
     refine JL.en ?_
     exact JQ.meet (decide (255 < most1)) () H0 (fun _ h => Heap.to h)
 · clear H0
   rintro x4 ⟨⟩ H0
   replace H0 : accum_New.k1 most1 x4 = some r := H0
   unfold accum_New.k1 at H0
   refine JQ.sub [(0, .int .i64 most1), (2, .pointer (some ⟨b2, 0, none⟩)), (10, .bool x4)] ?_
   refine JQ.turn (Δ' := [At.box b2 25 [.slice none 0 0, .slice none 0 0, .slice none 0 0]]) (fun _ h => h.to) ?_
   rcases ite_cases H0 with ⟨h5, H0⟩ | ⟨h5, H0⟩
   · refine J.cond_true h5 ?_
     refine J.sr ?_
     refine JL.pur (.agg #[.slice none 0 0, .slice none 0 0, .slice none 0 0]) (some 11) ?_
     refine JL.store 0 b2 0 25 [.slice none 0 0, .slice none 0 0, .slice none 0 0] [.slice none 0 0, .slice none 0 0, .slice none 0 0] tySize_25 ?_
     refine JL.as (.int .i64 2) ?_
     refine JL.es [(2, .pointer (some ⟨b2, 0, none⟩)), (3, .int .i64 2)] ?_
     refine J.ret ?_
     refine JQ.then_ret ?_
     obtain rfl := Option.some.inj H0
     exact JQ.done' (rs := [.cell 2 25, .tmp 3]) (vs := [.agg #[.slice none 0 0, .slice none 0 0, .slice none 0 0], .int .i64 2]) [At.row none 0 49 fl_Count.kd ([] : List Count) false, At.row none 0 49 fl_Count.kd ([] : List Count) false, At.row none 0 51 fl_Gap.kd ([] : List Gap) false] (.inr rfl) ⟨⟨b2, 0, _, _, by kernel_rfl, by kernel_rfl, holds_box b2 25 [.slice none 0 0, .slice none 0 0, .slice none 0 0], .inl ⟨tyAgg_25, tySize_25, rfl⟩⟩, by kernel_rfl, trivial⟩ (fun _ h => Heap.to (Heap.pick [1, 2, 3] (by decide) (Heap.addRow0 (α := Gap) 51 fl_Gap.kd false (Heap.addRow0 (α := Count) 49 fl_Count.kd false (Heap.addRow0 (α := Count) 49 fl_Count.kd false h))))) ⟨none, 0, none, 0, none, 0, rfl, rfl⟩
   · refine J.cond_false h5 ?_
     refine J.skip ?_
     refine JQ.ts [(0, .int .i64 most1), (2, .pointer (some ⟨b2, 0, none⟩))] ?_
     refine J.sr ?_
     refine JL.mv (.int .i64 most1) ?_
     refine JL.pur (.int .i64 (w64 (2 * most1))) (some 13) ?_
     refine JL.pur (.int .i64 (w64 ((w64 (2 * most1)) + 1))) (some 14) ?_
     obtain ⟨n6, en6, H0⟩ := lt_some H0
     refine JL.as' (k := .i64) n6 en6 ?_
     refine JL.es [(2, .pointer (some ⟨b2, 0, none⟩)), (4, .int .i64 n6)] ?_
     refine J.seq ?_
     obtain ⟨⟨h8, h9, h10⟩, H0⟩ := ite_must H0
     obtain ⟨⟨h12, h13, h14⟩, H0⟩ := ite_must H0
     refine JY.startM [false] [] (ba 7 0) ?_
     refine JY.pur (hi := rfl) 0 (ba 7 1) (.int .i64 n6) (some 15) want ?_
     refine JY.pur (hi := rfl) 2 (ba 7 5) (.int .i64 n6) (some 17) want ?_
     refine JY.all [1, 3] ⟨⟨_, rfl, ?_⟩, ⟨_, rfl, ?_⟩, trivial⟩
     · obtain ⟨h16, h17, h18⟩ : 0 ≤ n6 ∧ n6 ≤ n6 ∧ n6 ≤ 17592186044416 := ⟨h12, h13, h14⟩
       refine JL.makeSl 49 fl_Count.kd ((⟨0, 0⟩ : Count) : Count) Try.underlying22 info_49 (fun _ _ => rfl) h16 h17 (by omega) (by omega) fun b15 => ?_
       refine JL.nil ?_
       refine JY.ran (ba 7 7) [false, false] ?_
       refine JY.all [3] ⟨⟨_, rfl, ?_⟩, trivial⟩
       obtain ⟨h20, h21, h22⟩ : 0 ≤ n6 ∧ n6 ≤ n6 ∧ n6 ≤ 17592186044416 := ⟨h12, h13, h14⟩
       refine JL.makeSl 49 fl_Count.kd ((⟨0, 0⟩ : Count) : Count) Try.underlying22 info_49 (fun _ _ => rfl) h20 h21 (by omega) (by omega) fun b19 => ?_
       refine JL.nil ?_
       refine JY.ran (ba 7 15) [false, false, false] ?_
       refine JY.pur (hi := rfl) 4 (ba 7 31) (.agg #[.slice (some ⟨b15, 0, none⟩) (List.replicate n6.toNat ((⟨0, 0⟩ : Count) : Count)).length n6.toNat, .slice (some ⟨b19, 0, none⟩) (List.replicate n6.toNat ((⟨0, 0⟩ : Count) : Count)).length n6.toNat, .slice none 0 0]) (some 19) want ?_
       refine JY.all [5] ⟨⟨_, rfl, ?_⟩, trivial⟩
       refine JL.store 0 b2 0 25 [.slice none 0 0, .slice none 0 0, .slice none 0 0] [.slice (some ⟨b15, 0, none⟩) (List.replicate n6.toNat ((⟨0, 0⟩ : Count) : Count)).length n6.toNat, .slice (some ⟨b19, 0, none⟩) (List.replicate n6.toNat ((⟨0, 0⟩ : Count) : Count)).length n6.toNat, .slice none 0 0] tySize_25 ?_
       refine JL.nil ?_
       refine JY.ran (ba 7 63) [false, false, false] ?_
       refine JY.pur (hi := rfl) 6 (ba 7 127) (.int .i64 0) (some 3) want ?_
       refine JY.done ?_
       refine JQ.ts [(2, .pointer (some ⟨b2, 0, none⟩)), (3, .int .i64 0)] ?_
       refine J.ret ?_
       obtain rfl := Option.some.inj H0
       exact JQ.done' (rs := [.cell 2 25, .tmp 3]) (vs := [.agg #[.slice (some ⟨b15, 0, none⟩) (List.replicate n6.toNat ((⟨0, 0⟩ : Count) : Count)).length n6.toNat, .slice (some ⟨b19, 0, none⟩) (List.replicate n6.toNat ((⟨0, 0⟩ : Count) : Count)).length n6.toNat, .slice none 0 0], .int .i64 0]) [At.row (some ⟨b15, 0, none⟩) n6.toNat 49 fl_Count.kd (List.replicate n6.toNat ((⟨0, 0⟩ : Count) : Count)) false, At.row (some ⟨b19, 0, none⟩) n6.toNat 49 fl_Count.kd (List.replicate n6.toNat ((⟨0, 0⟩ : Count) : Count)) false, At.row none 0 51 fl_Gap.kd ([] : List Gap) false] (.inr rfl) ⟨⟨b2, 0, _, _, by kernel_rfl, by kernel_rfl, holds_box b2 25 [.slice (some ⟨b15, 0, none⟩) (List.replicate n6.toNat ((⟨0, 0⟩ : Count) : Count)).length n6.toNat, .slice (some ⟨b19, 0, none⟩) (List.replicate n6.toNat ((⟨0, 0⟩ : Count) : Count)).length n6.toNat, .slice none 0 0], .inl ⟨tyAgg_25, tySize_25, rfl⟩⟩, by kernel_rfl, trivial⟩ (fun _ h => Heap.to (Heap.pick [1, 2, 3] (by decide) (Heap.addRow0 (α := Gap) 51 fl_Gap.kd false h))) ⟨(some ⟨b15, 0, none⟩), n6.toNat, (some ⟨b19, 0, none⟩), n6.toNat, none, 0, rfl, rfl⟩
     · obtain ⟨h24, h25, h26⟩ : 0 ≤ n6 ∧ n6 ≤ n6 ∧ n6 ≤ 17592186044416 := ⟨h12, h13, h14⟩
       refine JL.makeSl 49 fl_Count.kd ((⟨0, 0⟩ : Count) : Count) Try.underlying22 info_49 (fun _ _ => rfl) h24 h25 (by omega) (by omega) fun b23 => ?_
       refine JL.nil ?_
       refine JY.ran (ba 7 13) [false, false] ?_
       refine JY.all [1] ⟨⟨_, rfl, ?_⟩, trivial⟩
       obtain ⟨h28, h29, h30⟩ : 0 ≤ n6 ∧ n6 ≤ n6 ∧ n6 ≤ 17592186044416 := ⟨h12, h13, h14⟩
       refine JL.makeSl 49 fl_Count.kd ((⟨0, 0⟩ : Count) : Count) Try.underlying22 info_49 (fun _ _ => rfl) h28 h29 (by omega) (by omega) fun b27 => ?_
       refine JL.nil ?_
       refine JY.ran (ba 7 15) [false, false, false] ?_
       refine JY.pur (hi := rfl) 4 (ba 7 31) (.agg #[.slice (some ⟨b27, 0, none⟩) (List.replicate n6.toNat ((⟨0, 0⟩ : Count) : Count)).length n6.toNat, .slice (some ⟨b23, 0, none⟩) (List.replicate n6.toNat ((⟨0, 0⟩ : Count) : Count)).length n6.toNat, .slice none 0 0]) (some 19) want ?_
       refine JY.all [5] ⟨⟨_, rfl, ?_⟩, trivial⟩
       refine JL.store 0 b2 0 25 [.slice none 0 0, .slice none 0 0, .slice none 0 0] [.slice (some ⟨b27, 0, none⟩) (List.replicate n6.toNat ((⟨0, 0⟩ : Count) : Count)).length n6.toNat, .slice (some ⟨b23, 0, none⟩) (List.replicate n6.toNat ((⟨0, 0⟩ : Count) : Count)).length n6.toNat, .slice none 0 0] tySize_25 ?_
       refine JL.nil ?_
       refine JY.ran (ba 7 63) [false, false, false] ?_
       refine JY.pur (hi := rfl) 6 (ba 7 127) (.int .i64 0) (some 3) want ?_
       refine JY.done ?_
       refine JQ.ts [(2, .pointer (some ⟨b2, 0, none⟩)), (3, .int .i64 0)] ?_
       refine J.ret ?_
       obtain rfl := Option.some.inj H0
       exact JQ.done' (rs := [.cell 2 25, .tmp 3]) (vs := [.agg #[.slice (some ⟨b27, 0, none⟩) (List.replicate n6.toNat ((⟨0, 0⟩ : Count) : Count)).length n6.toNat, .slice (some ⟨b23, 0, none⟩) (List.replicate n6.toNat ((⟨0, 0⟩ : Count) : Count)).length n6.toNat, .slice none 0 0], .int .i64 0]) [At.row (some ⟨b27, 0, none⟩) n6.toNat 49 fl_Count.kd (List.replicate n6.toNat ((⟨0, 0⟩ : Count) : Count)) false, At.row (some ⟨b23, 0, none⟩) n6.toNat 49 fl_Count.kd (List.replicate n6.toNat ((⟨0, 0⟩ : Count) : Count)) false, At.row none 0 51 fl_Gap.kd ([] : List Gap) false] (.inr rfl) ⟨⟨b2, 0, _, _, by kernel_rfl, by kernel_rfl, holds_box b2 25 [.slice (some ⟨b27, 0, none⟩) (List.replicate n6.toNat ((⟨0, 0⟩ : Count) : Count)).length n6.toNat, .slice (some ⟨b23, 0, none⟩) (List.replicate n6.toNat ((⟨0, 0⟩ : Count) : Count)).length n6.toNat, .slice none 0 0], .inl ⟨tyAgg_25, tySize_25, rfl⟩⟩, by kernel_rfl, trivial⟩ (fun _ h => Heap.to (Heap.pick [2, 1, 3] (by decide) (Heap.addRow0 (α := Gap) 51 fl_Gap.kd false h))) ⟨(some ⟨b27, 0, none⟩), n6.toNat, (some ⟨b23, 0, none⟩), n6.toNat, none, 0, rfl, rfl⟩

theorem accum_wide_valid.ok (w1 : Wide) (r : Bool) (H0 : accum_wide_valid.f w1 = some r) :
    Does Try.prog 35 [mv_74 w1].toArray [] [] false (fun v Δ => v = .bool r ∧ Δ = []) := by
 refine Does.body (vs := [mv_74 w1]) Try.func35 rfl trivial trivial fun w S => ?_
 unfold accum_wide_valid.f at H0
 refine J.sr ?_
 refine JL.box (cl_74 w1) fun b2 => ?_
 refine JL.as (.bool false) ?_
 refine JL.es [(1, .pointer (some ⟨b2, 0, none⟩))] ?_
 refine J.sr ?_
 refine JL.pur (.pointer (some ⟨b2, 0, none⟩)) (some 3) ?_
 refine JL.pur (.pointer (some ⟨b2, 1, none⟩)) (some 4) ?_
 refine JL.val (.int .i64 w1.Count.Lo) (some 5) (yields_load_box 0 1 (holds_box b2 74 (cl_74 w1)) tyAgg_2) ?_
 refine JL.pur (.bool (decide (0 ≤ w1.Count.Lo))) (some 6) ?_
 refine JL.mv (.bool (decide (0 ≤ w1.Count.Lo))) ?_
 rcases ite_cases H0 with ⟨h3, H0⟩ | ⟨h3, H0⟩
 · refine JL.on 4 7 h3 ?_
   refine JL.pur (.pointer (some ⟨b2, 0, none⟩)) (some 8) ?_
   refine JL.on 4 7 h3 ?_
   refine JL.pur (.pointer (some ⟨b2, 1, none⟩)) (some 9) ?_
   refine JL.on 4 7 h3 ?_
   refine JL.val (.int .i64 w1.Count.Lo) (some 10) (yields_load_box 0 1 (holds_box b2 74 (cl_74 w1)) tyAgg_2) ?_
   refine JL.on 4 7 h3 ?_
   refine JL.pur (.bool (decide (w1.Count.Lo < 1000000000))) (some 11) ?_
   refine JL.val (.bool (decide (w1.Count.Lo < 1000000000))) (some 12) (gives_pickT h3) ?_
   refine JL.mv (.bool (decide (w1.Count.Lo < 1000000000))) ?_
   rcases ite_cases H0 with ⟨h4, H0⟩ | ⟨h4, H0⟩
   · refine JL.on 10 13 h4 ?_
     refine JL.pur (.pointer (some ⟨b2, 0, none⟩)) (some 14) ?_
     refine JL.on 10 13 h4 ?_
     refine JL.pur (.pointer (some ⟨b2, 0, none⟩)) (some 15) ?_
     refine JL.on 10 13 h4 ?_
     refine JL.val (.int .i64 w1.Count.Hi) (some 16) (yields_load_box 0 0 (holds_box b2 74 (cl_74 w1)) tyAgg_2) ?_
     refine JL.on 10 13 h4 ?_
     refine JL.pur (.bool (decide ((-1000000000) ≤ w1.Count.Hi))) (some 17) ?_
     refine JL.val (.bool (decide ((-1000000000) ≤ w1.Count.Hi))) (some 18) (gives_pickT h4) ?_
     refine JL.mv (.bool (decide ((-1000000000) ≤ w1.Count.Hi))) ?_
     rcases ite_cases H0 with ⟨h5, H0⟩ | ⟨h5, H0⟩
     · refine JL.on 16 19 h5 ?_
       refine JL.pur (.pointer (some ⟨b2, 0, none⟩)) (some 20) ?_
       refine JL.on 16 19 h5 ?_
       refine JL.pur (.pointer (some ⟨b2, 0, none⟩)) (some 21) ?_
       refine JL.on 16 19 h5 ?_
       refine JL.val (.int .i64 w1.Count.Hi) (some 22) (yields_load_box 0 0 (holds_box b2 74 (cl_74 w1)) tyAgg_2) ?_
       refine JL.on 16 19 h5 ?_
       refine JL.pur (.bool (decide (w1.Count.Hi < 1000000000))) (some 23) ?_
       refine JL.val (.bool (decide (w1.Count.Hi < 1000000000))) (some 24) (gives_pickT h5) ?_
       refine JL.as (.bool (decide (w1.Count.Hi < 1000000000))) ?_
       refine JL.es [(2, .bool (decide (w1.Count.Hi < 1000000000)))] ?_
       refine JQ.mask [] [false] ?_
       refine J.ret ?_
       obtain rfl := Option.some.inj H0
       exact JQ.done' (rs := [.tmp 2]) (vs := [.bool (decide (w1.Count.Hi < 1000000000))]) [] (.inr rfl) ⟨by kernel_rfl, trivial⟩ (fun _ h => Heap.to h) ⟨rfl, rfl⟩
     · refine JL.off 16 19 true (some 20) h5 ?_
       refine JL.off 16 19 true (some 21) h5 ?_
       refine JL.off 16 19 true (some 22) h5 ?_
       refine JL.off 16 19 true (some 23) h5 ?_
       refine JL.val (.bool false) (some 24) (gives_pickF h5) ?_
       refine JL.as (.bool false) ?_
       refine JL.es [(2, .bool false)] ?_
       refine JQ.mask [] [false] ?_
       refine J.ret ?_
       obtain rfl := Option.some.inj H0
       exact JQ.done' (rs := [.tmp 2]) (vs := [.bool false]) [] (.inr rfl) ⟨by kernel_rfl, trivial⟩ (fun _ h => Heap.to h) ⟨rfl, rfl⟩
   · refine JL.off 10 13 true (some 14) h4 ?_
     refine JL.off 10 13 true (some 15) h4 ?_
     refine JL.off 10 13 true (some 16) h4 ?_
     refine JL.off 10 13 true (some 17) h4 ?_
     refine JL.val (.bool false) (some 18) (gives_pickF h4) ?_
     refine JL.mv (.bool false) ?_
     refine JL.off 16 19 true (some 20) rfl ?_
     refine JL.off 16 19 true (some 21) rfl ?_
     refine JL.off 16 19 true (some 22) rfl ?_
     refine JL.off 16 19 true (some 23) rfl ?_
     refine JL.val (.bool false) (some 24) (gives_pickF rfl) ?_
     refine JL.as (.bool false) ?_
     refine JL.es [(2, .bool false)] ?_
     refine JQ.mask [] [false] ?_
     refine J.ret ?_
     obtain rfl := Option.some.inj H0
     exact JQ.done' (rs := [.tmp 2]) (vs := [.bool false]) [] (.inr rfl) ⟨by kernel_rfl, trivial⟩ (fun _ h => Heap.to h) ⟨rfl, rfl⟩
 · refine JL.off 4 7 true (some 8) h3 ?_
   refine JL.off 4 7 true (some 9) h3 ?_
   refine JL.off 4 7 true (some 10) h3 ?_
   refine JL.off 4 7 true (some 11) h3 ?_
   refine JL.val (.bool false) (some 12) (gives_pickF h3) ?_
   refine JL.mv (.bool false) ?_
   refine JL.off 10 13 true (some 14) rfl ?_
   refine JL.off 10 13 true (some 15) rfl ?_
   refine JL.off 10 13 true (some 16) rfl ?_
   refine JL.off 10 13 true (some 17) rfl ?_
   refine JL.val (.bool false) (some 18) (gives_pickF rfl) ?_
   refine JL.mv (.bool false) ?_
   refine JL.off 16 19 true (some 20) rfl ?_
   refine JL.off 16 19 true (some 21) rfl ?_
   refine JL.off 16 19 true (some 22) rfl ?_
   refine JL.off 16 19 true (some 23) rfl ?_
   refine JL.val (.bool false) (some 24) (gives_pickF rfl) ?_
   refine JL.as (.bool false) ?_
   refine JL.es [(2, .bool false)] ?_
   refine JQ.mask [] [false] ?_
   refine J.ret ?_
   obtain rfl := Option.some.inj H0
   exact JQ.done' (rs := [.tmp 2]) (vs := [.bool false]) [] (.inr rfl) ⟨by kernel_rfl, trivial⟩ (fun _ h => Heap.to h) ⟨rfl, rfl⟩

theorem accum_Check_1.ok (c1 : Count) (v2 : Int) (b3 : Nat) (r : Bool) (H0 : accum_Check_1.f c1 v2 = some r) :
    Does Try.prog 34 [mv_49 c1, .pointer (some ⟨b3, 0, none⟩)].toArray [] [At.box b3 2 [.int .i64 v2]] false (fun v Δ => v = .bool r ∧ Δ = [At.box b3 2 [.int .i64 v2]]) := by
 refine Does.body (vs := [mv_49 c1, .pointer (some ⟨b3, 0, none⟩)]) Try.func34 rfl trivial ⟨.inr (fun _ _ _ h => h), trivial⟩ fun w S => ?_
 unfold accum_Check_1.f at H0
 refine J.sr ?_
 refine JL.box (cl_49 c1) fun b4 => ?_
 refine JL.as (.bool false) ?_
 refine JL.es [(1, .pointer (some ⟨b3, 0, none⟩)), (2, .pointer (some ⟨b4, 0, none⟩))] ?_
 refine J.sr ?_
 refine JL.val (mv_49 c1) (some 4) (yields_load_boxes 1 0 (cl_49 c1) (holds_box b4 49 (cl_49 c1)) tyAgg_49 tySize_49) ?_
 refine JL.pur (.agg #[.int .i64 c1.Hi, .int .i64 c1.Lo]) (some 5) ?_
 obtain ⟨t5, hc6, H0⟩ := bind_some H0
 refine JL.call [] [] [] (accum_wide_valid.ok (⟨c1⟩ : Wide) _ hc6) trivial ?_
 rintro _ _ ⟨rfl, rfl⟩
 refine JL.pur (.bool (!t5)) (some 7) ?_
 refine JL.mv (.bool (!t5)) ?_
 rcases ite_cases H0 with ⟨h7, H0⟩ | ⟨h7, H0⟩
 · refine JL.off 4 8 false (some 9) h7 ?_
   refine JL.off 4 8 false (some 10) h7 ?_
   refine JL.off 4 8 false (some 11) h7 ?_
   refine JL.off 4 8 false (some 12) h7 ?_
   refine JL.val (.bool true) (some 13) (gives_pickT h7) ?_
   refine JL.as (.bool true) ?_
   refine JL.es [(3, .bool true)] ?_
   refine JQ.mask [At.box b3 2 [.int .i64 v2]] [true, false] ?_
   refine J.ret ?_
   obtain rfl := Option.some.inj H0
   exact JQ.done' (rs := [.tmp 3]) (vs := [.bool true]) [At.box b3 2 [.int .i64 v2]] (.inr rfl) ⟨by kernel_rfl, trivial⟩ (fun _ h => Heap.to h) ⟨rfl, rfl⟩
 · refine JL.on 4 8 h7 ?_
   refine JL.pur (.pointer (some ⟨b4, 0, none⟩)) (some 9) ?_
   refine JL.on 4 8 h7 ?_
   refine JL.val (.int .i64 c1.Hi) (some 10) (yields_load_box 1 0 (holds_box b4 49 (cl_49 c1)) tyAgg_2) ?_
   refine JL.on 4 8 h7 ?_
   refine JL.val (.int .i64 v2) (some 11) (yields_load_box 0 0 (holds_box b3 2 [.int .i64 v2]) tyAgg_2) ?_
   refine JL.on 4 8 h7 ?_
   refine JL.pur (.bool (decide (c1.Hi < v2))) (some 12) ?_
   refine JL.val (.bool (decide (c1.Hi < v2))) (some 13) (gives_pickF h7) ?_
   refine JL.as (.bool (decide (c1.Hi < v2))) ?_
   refine JL.es [(3, .bool (decide (c1.Hi < v2)))] ?_
   refine JQ.mask [At.box b3 2 [.int .i64 v2]] [true, false] ?_
   refine J.ret ?_
   obtain rfl := Option.some.inj H0
   exact JQ.done' (rs := [.tmp 3]) (vs := [.bool (decide (c1.Hi < v2))]) [At.box b3 2 [.int .i64 v2]] (.inr rfl) ⟨by kernel_rfl, trivial⟩ (fun _ h => Heap.to h) ⟨rfl, rfl⟩

theorem slices_IndexFunc__api_Count_api_Count__accum_Check_1.ok (s1 : (List Count)) (Aa2 : Option Addr) (c3 : Nat) (v5 : Int) (b6 : Nat) (r : Int) (H0 : slices_IndexFunc__api_Count_api_Count__accum_Check_1.f s1 v5 = some r) :
    Does Try.prog 53 [.slice Aa2 s1.length c3, .func (.func 34) #[] #[.pointer (some ⟨b6, 0, none⟩)]].toArray [At.rd Aa2 c3 fl_Count.kd s1 true] [At.box b6 2 [.int .i64 v5]] false (fun v Δ => v = .int .i64 r ∧ Δ = [At.box b6 2 [.int .i64 v5]]) := by
 refine Does.body (vs := [.slice Aa2 s1.length c3, .func (.func 34) #[] #[.pointer (some ⟨b6, 0, none⟩)]]) Try.func53 rfl ⟨.inl rfl, trivial⟩ ⟨.inr (fun _ _ _ h => h), trivial⟩ fun w S => ?_
 unfold slices_IndexFunc__api_Count_api_Count__accum_Check_1.f at H0
 refine J.sr ?_
 refine JL.as (.int .i64 0) ?_
 refine JL.es [(0, .slice Aa2 s1.length c3), (1, .func (.func 34) #[] #[.pointer (some ⟨b6, 0, none⟩)])] ?_
 refine J.seq ?_
 refine J.sr ?_
 refine JL.mv (.slice Aa2 s1.length c3) ?_
 refine JL.pur (.int .i64 (s1.length : Int)) (some 7) ?_
 refine JL.mv (.int .i64 0) ?_
 refine JL.es [(0, .slice Aa2 s1.length c3), (1, .func (.func 34) #[] #[.pointer (some ⟨b6, 0, none⟩)]), (7, .int .i64 (s1.length : Int)), (8, .int .i64 0)] ?_
 obtain ⟨o1, hit, H0⟩ := bind_some H0
 refine J.loop (σ := Int) (τ := Unit) (G := Unit) (G' := Unit) _ o1 (fun s g => [(0, .slice Aa2 s1.length c3), (1, .func (.func 34) #[] #[.pointer (some ⟨b6, 0, none⟩)]), (7, .int .i64 (s1.length : Int)), (8, .int .i64 s)]) (fun s g => [At.rd Aa2 c3 fl_Count.kd s1 true, At.box b6 2 [.int .i64 v5]]) (fun t => slices_IndexFunc__api_Count_api_Count__accum_Check_1.k2 = some r) (fun t g => []) (fun t g => [At.box b6 2 [.int .i64 v5]]) 0 () hit (fun _ h => Heap.to h) ?_ ?_
 · clear hit
   rintro x25 ⟨⟩ st1 H1 hb1 hr1
   replace H1 : slices_IndexFunc__api_Count_api_Count__accum_Check_1.s1 s1 v5 x25 = some st1 := H1
   unfold slices_IndexFunc__api_Count_api_Count__accum_Check_1.s1 at H1
   refine JQ.sub [(0, .slice Aa2 s1.length c3), (1, .func (.func 34) #[] #[.pointer (some ⟨b6, 0, none⟩)]), (7, .int .i64 (s1.length : Int)), (8, .int .i64 x25)] ?_
   refine JQ.turn (Δ' := [At.rd Aa2 c3 fl_Count.kd s1 true, At.box b6 2 [.int .i64 v5]]) (fun _ h => h.to) ?_
   refine J.sr ?_
   refine JL.pur (.bool (decide (x25 < (s1.length : Int)))) (some 9) ?_
   refine JL.en ?_
   refine J.seq ?_
   rcases ite_cases H1 with ⟨h34, H1⟩ | ⟨h34, H1⟩
   · refine J.cond_true h34 ?_
     refine J.skip ?_
     refine JQ.ts [(0, .slice Aa2 s1.length c3), (1, .func (.func 34) #[] #[.pointer (some ⟨b6, 0, none⟩)]), (7, .int .i64 (s1.length : Int)), (8, .int .i64 x25)] ?_
     refine J.seq ?_
     refine J.block ?_
     refine J.sr ?_
     refine JL.mv (.int .i64 x25) ?_
     refine JL.as (.int .i64 x25) ?_
     refine JL.es [(0, .slice Aa2 s1.length c3), (1, .func (.func 34) #[] #[.pointer (some ⟨b6, 0, none⟩)]), (5, .int .i64 x25), (7, .int .i64 (s1.length : Int)), (8, .int .i64 x25)] ?_
     refine J.sr ?_
     refine JL.mv (.func (.func 34) #[] #[.pointer (some ⟨b6, 0, none⟩)]) ?_
     refine JL.mv (.slice Aa2 s1.length c3) ?_
     refine JL.mv (.int .i64 x25) ?_
     obtain ⟨⟨h35, h36⟩, H1⟩ := ite_must H1
     refine JL.ixAddr 0 2 c3 .i64 (elems_rd Aa2 c3 fl_Count.kd s1 true) Try.underlying22 tySize_49 h35 h36 fun g37 o38 hA => ?_
     subst hA
     refine JL.val (mv_49 (ix s1 x25)) (some 15) (gives_loadEl (f := fl_Count) 0 0 x25 (elems_rd (some ⟨g37, o38, none⟩) c3 fl_Count.kd s1 true) h35 h36 tySize_49 (.inl ⟨tyAgg_49, rfl⟩)) ?_
     obtain ⟨t39, hc40, H1⟩ := bind_some H1
     refine JL.call [] [.pointer (some ⟨b6, 0, none⟩)] [false, true] (accum_Check_1.ok (ix s1 x25) v5 b6 _ hc40) trivial ?_
     rintro _ _ ⟨rfl, rfl⟩
     refine JL.es [(0, .slice (some ⟨g37, o38, none⟩) s1.length c3), (1, .func (.func 34) #[] #[.pointer (some ⟨b6, 0, none⟩)]), (5, .int .i64 x25), (7, .int .i64 (s1.length : Int)), (8, .int .i64 x25), (16, .bool t39)] ?_
     rcases ite_cases H1 with ⟨h41, H1⟩ | ⟨h41, H1⟩
     · refine J.cond_true h41 ?_
       refine J.sr ?_
       refine JL.mv (.int .i64 x25) ?_
       refine JL.as (.int .i64 x25) ?_
       refine JL.es [(4, .int .i64 x25)] ?_
       refine JQ.mask [At.box b6 2 [.int .i64 v5]] [false, true] ?_
       refine J.ret ?_
       refine JQ.blk_ret ?_
       refine JQ.then_ret ?_
       refine JQ.then_ret ?_
       refine JQ.blk_ret ?_
       refine JQ.met_ret ?_
       refine JQ.then_ret ?_
       rw [hr1 _ (Option.some.inj H1).symm, fin_ret] at H0
       obtain rfl := Option.some.inj H0
       exact JQ.done' (rs := [.tmp 4]) (vs := [.int .i64 x25]) [At.box b6 2 [.int .i64 v5]] (.inr rfl) ⟨by kernel_rfl, trivial⟩ (fun _ h => Heap.to h) ⟨rfl, rfl⟩
     · refine J.cond_false h41 ?_
       refine J.skip ?_
       refine JQ.blk_normal ?_
       refine JQ.ts [(0, .slice (some ⟨g37, o38, none⟩) s1.length c3), (1, .func (.func 34) #[] #[.pointer (some ⟨b6, 0, none⟩)]), (7, .int .i64 (s1.length : Int)), (8, .int .i64 x25)] ?_
       refine J.region ?_
       refine JL.pur (.int .i64 (w64 (x25 + 1))) (some 18) ?_
       refine JL.mv (.int .i64 (w64 (x25 + 1))) ?_
       refine JL.en ?_
       exact JQ.again (w64 (x25 + 1)) () (Option.some.inj H1).symm (fun _ h => Heap.to h)
   · refine J.cond_false h34 ?_
     refine J.exit ?_
     refine JQ.then_exit ?_
     refine JQ.then_exit ?_
     refine JQ.blk_exit ?_
     rw [hb1 _ (Option.some.inj H1).symm, fin_brk] at H0
     exact JQ.met () () H0 (fun _ h => Heap.to (Heap.pick [1] (by decide) h))
 · clear hit H0
   rintro ⟨⟩ ⟨⟩ H0
   replace H0 : slices_IndexFunc__api_Count_api_Count__accum_Check_1.k2 = some r := H0
   unfold slices_IndexFunc__api_Count_api_Count__accum_Check_1.k2 at H0
   refine JQ.sub [] ?_
   refine JQ.turn (Δ' := [At.box b6 2 [.int .i64 v5]]) (fun _ h => h.to) ?_
   refine JQ.then_normal ?_
   refine J.sr ?_
   refine JL.as (.int .i64 (-1)) ?_
   refine JL.en ?_
   refine J.ret ?_
   obtain rfl := Option.some.inj H0
   exact JQ.done' (rs := [.tmp 4]) (vs := [.int .i64 (-1)]) [At.box b6 2 [.int .i64 v5]] (.inr rfl) ⟨by kernel_rfl, trivial⟩ (fun _ h => Heap.to h) ⟨rfl, rfl⟩

theorem slices_ContainsFunc__api_Count_api_Count__accum_Check_1.ok (s1 : (List Count)) (Aa2 : Option Addr) (c3 : Nat) (v5 : Int) (b6 : Nat) (r : Bool) (H0 : slices_ContainsFunc__api_Count_api_Count__accum_Check_1.f s1 v5 = some r) :
    Does Try.prog 36 [.slice Aa2 s1.length c3, .func (.func 34) #[] #[.pointer (some ⟨b6, 0, none⟩)]].toArray [At.rd Aa2 c3 fl_Count.kd s1 true] [At.box b6 2 [.int .i64 v5]] false (fun v Δ => v = .bool r ∧ Δ = [At.box b6 2 [.int .i64 v5]]) := by
 refine Does.body (vs := [.slice Aa2 s1.length c3, .func (.func 34) #[] #[.pointer (some ⟨b6, 0, none⟩)]]) Try.func36 rfl ⟨.inl rfl, trivial⟩ ⟨.inr (fun _ _ _ h => h), trivial⟩ fun w S => ?_
 unfold slices_ContainsFunc__api_Count_api_Count__accum_Check_1.f at H0
 refine J.sr ?_
 refine JL.as (.bool false) ?_
 refine JL.es [(0, .slice Aa2 s1.length c3), (1, .func (.func 34) #[] #[.pointer (some ⟨b6, 0, none⟩)])] ?_
 refine J.sr ?_
 refine JL.mv (.slice Aa2 s1.length c3) ?_
 refine JL.mv (.func (.func 34) #[] #[.pointer (some ⟨b6, 0, none⟩)]) ?_
 obtain ⟨t7, hc8, H0⟩ := bind_some H0
 refine JL.call [] [] [false, true] (slices_IndexFunc__api_Count_api_Count__accum_Check_1.ok s1 Aa2 c3 v5 b6 _ hc8) ⟨pre_any 0 (view_rd Aa2 c3 fl_Count.kd s1 true true), trivial⟩ ?_
 rintro _ _ ⟨rfl, rfl⟩
 refine JL.pur (.bool (decide (0 ≤ t7))) (some 8) ?_
 refine JL.as (.bool (decide (0 ≤ t7))) ?_
 refine JL.es [(4, .bool (decide (0 ≤ t7)))] ?_
 refine JQ.mask [At.box b6 2 [.int .i64 v5]] [false, true] ?_
 refine J.ret ?_
 obtain rfl := Option.some.inj H0
 exact JQ.done' (rs := [.tmp 4]) (vs := [.bool (decide (0 ≤ t7))]) [At.box b6 2 [.int .i64 v5]] (.inr rfl) ⟨by kernel_rfl, trivial⟩ (fun _ h => Heap.to h) ⟨rfl, rfl⟩

theorem accum_runs.ok (l1 : (List Gap)) (Aa2 : Option Addr) (c3 : Nat) (r : Bool) (H0 : accum_runs.f l1 = some r) :
    Does Try.prog 37 [.slice Aa2 l1.length c3].toArray [At.rd Aa2 c3 fl_Gap.kd l1 true] [] false (fun v Δ => v = .bool r ∧ Δ = []) := by
 refine Does.body (vs := [.slice Aa2 l1.length c3]) Try.func37 rfl ⟨.inl rfl, trivial⟩ trivial fun w S => ?_
 unfold accum_runs.f at H0
 refine J.sr ?_
 refine JL.as (.bool false) ?_
 refine JL.es [(0, .slice Aa2 l1.length c3)] ?_
 refine J.sr ?_
 refine JL.as (.int .i64 0) ?_
 refine JL.en ?_
 refine J.seq ?_
 refine J.sr ?_
 refine JL.mv (.slice Aa2 l1.length c3) ?_
 refine JL.pur (.int .i64 (l1.length : Int)) (some 7) ?_
 refine JL.mv (.int .i64 0) ?_
 refine JL.es [(3, .int .i64 0), (6, .slice Aa2 l1.length c3), (7, .int .i64 (l1.length : Int)), (8, .int .i64 0)] ?_
 obtain ⟨o1, hit, H0⟩ := bind_some H0
 refine J.loop (σ := (Int × Int)) (τ := Unit) (G := ((Option Addr) × Nat)) (G' := Unit) _ o1 (fun s g => [(3, .int .i64 s.1), (6, .slice g.1 l1.length g.2), (7, .int .i64 (l1.length : Int)), (8, .int .i64 s.2)]) (fun s g => [At.rd g.1 g.2 fl_Gap.kd l1 true]) (fun t => accum_runs.k5 = some r) (fun t g => []) (fun t g => []) (0, 0) (Aa2, c3) hit (fun _ h => Heap.to h) ?_ ?_
 · clear hit
   rintro ⟨free45, x49⟩ ⟨Aa46, c47⟩ st1 H1 hb1 hr1
   replace H1 : accum_runs.s4 l1 free45 x49 = some st1 := H1
   unfold accum_runs.s4 at H1
   refine JQ.sub [(3, .int .i64 free45), (6, .slice Aa46 l1.length c47), (7, .int .i64 (l1.length : Int)), (8, .int .i64 x49)] ?_
   refine JQ.turn (Δ' := [At.rd Aa46 c47 fl_Gap.kd l1 true]) (fun _ h => h.to) ?_
   refine J.sr ?_
   refine JL.pur (.bool (decide (x49 < (l1.length : Int)))) (some 9) ?_
   refine JL.en ?_
   refine J.seq ?_
   rcases ite_cases H1 with ⟨h65, H1⟩ | ⟨h65, H1⟩
   · refine J.cond_true h65 ?_
     refine J.skip ?_
     refine JQ.ts [(3, .int .i64 free45), (6, .slice Aa46 l1.length c47), (7, .int .i64 (l1.length : Int)), (8, .int .i64 x49)] ?_
     refine J.seq ?_
     refine J.block ?_
     refine J.sr ?_
     obtain ⟨⟨h66, h67⟩, H1⟩ := ite_must H1
     refine JL.ixAddr 0 2 c47 .i64 (elems_rd Aa46 c47 fl_Gap.kd l1 true) Try.underlying23 tySize_51 h66 h67 fun g68 o69 hA => ?_
     subst hA
     refine JL.val (mv_51 (ix l1 x49)) (some 11) (gives_loadEl (f := fl_Gap) 0 0 x49 (elems_rd (some ⟨g68, o69, none⟩) c47 fl_Gap.kd l1 true) h66 h67 tySize_51 (.inl ⟨tyAgg_51, rfl⟩)) ?_
     refine JL.alloc (cl_51 zv_51) fun b70 => ?_
     refine JL.store 1 b70 0 51 (cl_51 zv_51) (cl_51 (ix l1 x49)) tySize_51 ?_
     refine JL.es [(3, .int .i64 free45), (5, .pointer (some ⟨b70, 0, none⟩)), (6, .slice (some ⟨g68, o69, none⟩) l1.length c47), (7, .int .i64 (l1.length : Int)), (8, .int .i64 x49)] ?_
     refine J.seq ?_
     refine J.join (T := Bool) (G := Unit) (fun t => accum_runs.k6 l1 x49 t = some st1) (fun t g => [(5, .pointer (some ⟨b70, 0, none⟩)), (6, .slice (some ⟨g68, o69, none⟩) l1.length c47), (7, .int .i64 (l1.length : Int)), (8, .int .i64 x49), (33, .bool t)]) (fun t g => [At.box b70 51 (cl_51 (ix l1 x49)), At.rd (some ⟨g68, o69, none⟩) c47 fl_Gap.kd l1 true]) ?_ ?_
     · refine J.region ?_
       refine JL.pur (.pointer (some ⟨b70, 0, none⟩)) (some 12) ?_
       refine JL.val (.int .i64 ((ix l1 x49).At)) (some 13) (yields_load_box 1 0 (holds_box b70 51 (cl_51 (ix l1 x49))) tyAgg_3) ?_
       refine JL.mv (.int .i64 free45) ?_
       refine JL.pur (.bool (decide ((ix l1 x49).At < free45))) (some 15) ?_
       refine JL.mv (.bool (decide ((ix l1 x49).At < free45))) ?_
       rcases ite_cases H1 with ⟨h77, H1⟩ | ⟨h77, H1⟩
       · refine JL.off 4 16 false (some 17) h77 ?_
         refine JL.off 4 16 false (some 18) h77 ?_
         refine JL.off 4 16 false (some 19) h77 ?_
         refine JL.val (.bool true) (some 20) (gives_pickT h77) ?_
         refine JL.mv (.bool true) ?_
         refine JL.off 9 21 false (some 22) rfl ?_
         refine JL.off 9 21 false (some 23) rfl ?_
         refine JL.off 9 21 false (some 24) rfl ?_
         refine JL.val (.bool true) (some 25) (gives_pickT rfl) ?_
         refine JL.mv (.bool true) ?_
         refine JL.off 14 26 false (some 27) rfl ?_
         refine JL.off 14 26 false (some 28) rfl ?_
         refine JL.off 14 26 false (some 29) rfl ?_
         refine JL.off 14 26 false (some 30) rfl ?_
         refine JL.off 14 26 false (some 31) rfl ?_
         refine JL.off 14 26 false (some 32) rfl ?_
         refine JL.val (.bool true) (some 33) (gives_pickT rfl) ?_
         refine JL.en ?_
         exact JQ.meet true () H1 (fun _ h => Heap.to (Heap.pick [1, 0] (by decide) h))
       · refine JL.on 4 16 h77 ?_
         refine JL.pur (.pointer (some ⟨b70, 1, none⟩)) (some 17) ?_
         refine JL.on 4 16 h77 ?_
         refine JL.val (.int .i64 ((ix l1 x49).Many)) (some 18) (yields_load_box 1 1 (holds_box b70 51 (cl_51 (ix l1 x49))) tyAgg_3) ?_
         refine JL.on 4 16 h77 ?_
         refine JL.pur (.bool (decide ((ix l1 x49).Many < 1))) (some 19) ?_
         refine JL.val (.bool (decide ((ix l1 x49).Many < 1))) (some 20) (gives_pickF h77) ?_
         refine JL.mv (.bool (decide ((ix l1 x49).Many < 1))) ?_
         rcases ite_cases H1 with ⟨h78, H1⟩ | ⟨h78, H1⟩
         · refine JL.off 9 21 false (some 22) h78 ?_
           refine JL.off 9 21 false (some 23) h78 ?_
           refine JL.off 9 21 false (some 24) h78 ?_
           refine JL.val (.bool true) (some 25) (gives_pickT h78) ?_
           refine JL.mv (.bool true) ?_
           refine JL.off 14 26 false (some 27) rfl ?_
           refine JL.off 14 26 false (some 28) rfl ?_
           refine JL.off 14 26 false (some 29) rfl ?_
           refine JL.off 14 26 false (some 30) rfl ?_
           refine JL.off 14 26 false (some 31) rfl ?_
           refine JL.off 14 26 false (some 32) rfl ?_
           refine JL.val (.bool true) (some 33) (gives_pickT rfl) ?_
           refine JL.en ?_
           exact JQ.meet true () H1 (fun _ h => Heap.to (Heap.pick [1, 0] (by decide) h))
         · refine JL.on 9 21 h78 ?_
           refine JL.pur (.pointer (some ⟨b70, 0, none⟩)) (some 22) ?_
           refine JL.on 9 21 h78 ?_
           refine JL.val (.int .i64 ((ix l1 x49).At)) (some 23) (yields_load_box 1 0 (holds_box b70 51 (cl_51 (ix l1 x49))) tyAgg_3) ?_
           refine JL.on 9 21 h78 ?_
           refine JL.pur (.bool (decide (1000000000 < (ix l1 x49).At))) (some 24) ?_
           refine JL.val (.bool (decide (1000000000 < (ix l1 x49).At))) (some 25) (gives_pickF h78) ?_
           refine JL.mv (.bool (decide (1000000000 < (ix l1 x49).At))) ?_
           rcases ite_cases H1 with ⟨h79, H1⟩ | ⟨h79, H1⟩
           · refine JL.off 14 26 false (some 27) h79 ?_
             refine JL.off 14 26 false (some 28) h79 ?_
             refine JL.off 14 26 false (some 29) h79 ?_
             refine JL.off 14 26 false (some 30) h79 ?_
             refine JL.off 14 26 false (some 31) h79 ?_
             refine JL.off 14 26 false (some 32) h79 ?_
             refine JL.val (.bool true) (some 33) (gives_pickT h79) ?_
             refine JL.en ?_
             exact JQ.meet true () H1 (fun _ h => Heap.to (Heap.pick [1, 0] (by decide) h))
           · refine JL.on 14 26 h79 ?_
             refine JL.pur (.pointer (some ⟨b70, 1, none⟩)) (some 27) ?_
             refine JL.on 14 26 h79 ?_
             refine JL.val (.int .i64 ((ix l1 x49).Many)) (some 28) (yields_load_box 1 1 (holds_box b70 51 (cl_51 (ix l1 x49))) tyAgg_3) ?_
             refine JL.on 14 26 h79 ?_
             refine JL.pur (.pointer (some ⟨b70, 0, none⟩)) (some 29) ?_
             refine JL.on 14 26 h79 ?_
             refine JL.val (.int .i64 ((ix l1 x49).At)) (some 30) (yields_load_box 1 0 (holds_box b70 51 (cl_51 (ix l1 x49))) tyAgg_3) ?_
             refine JL.on 14 26 h79 ?_
             refine JL.pur (.int .i64 (w64 (1000000000 - ((ix l1 x49).At)))) (some 31) ?_
             refine JL.on 14 26 h79 ?_
             refine JL.pur (.bool (decide (w64 (1000000000 - ((ix l1 x49).At)) < (ix l1 x49).Many))) (some 32) ?_
             refine JL.val (.bool (decide (w64 (1000000000 - ((ix l1 x49).At)) < (ix l1 x49).Many))) (some 33) (gives_pickF h79) ?_
             refine JL.en ?_
             exact JQ.meet (decide (w64 (1000000000 - ((ix l1 x49).At)) < (ix l1 x49).Many)) () H1 (fun _ h => Heap.to (Heap.pick [1, 0] (by decide) h))
     · clear H1
       rintro x74 ⟨⟩ H1
       replace H1 : accum_runs.k6 l1 x49 x74 = some st1 := H1
       unfold accum_runs.k6 at H1
       refine JQ.sub [(5, .pointer (some ⟨b70, 0, none⟩)), (6, .slice (some ⟨g68, o69, none⟩) l1.length c47), (7, .int .i64 (l1.length : Int)), (8, .int .i64 x49), (33, .bool x74)] ?_
       refine JQ.turn (Δ' := [At.box b70 51 (cl_51 (ix l1 x49)), At.rd (some ⟨g68, o69, none⟩) c47 fl_Gap.kd l1 true]) (fun _ h => h.to) ?_
       rcases ite_cases H1 with ⟨h75, H1⟩ | ⟨h75, H1⟩
       · refine J.cond_true h75 ?_
         refine J.sr ?_
         refine JL.as (.bool false) ?_
         refine JL.es [(2, .bool false)] ?_
         refine JQ.mask [] [false, false] ?_
         refine J.ret ?_
         refine JQ.then_ret ?_
         refine JQ.blk_ret ?_
         refine JQ.then_ret ?_
         refine JQ.then_ret ?_
         refine JQ.blk_ret ?_
         refine JQ.met_ret ?_
         refine JQ.then_ret ?_
         rw [hr1 _ (Option.some.inj H1).symm, fin_ret] at H0
         obtain rfl := Option.some.inj H0
         exact JQ.done' (rs := [.tmp 2]) (vs := [.bool false]) [] (.inr rfl) ⟨by kernel_rfl, trivial⟩ (fun _ h => Heap.to h) ⟨rfl, rfl⟩
       · refine J.cond_false h75 ?_
         refine J.skip ?_
         refine JQ.ts [(5, .pointer (some ⟨b70, 0, none⟩)), (6, .slice (some ⟨g68, o69, none⟩) l1.length c47), (7, .int .i64 (l1.length : Int)), (8, .int .i64 x49)] ?_
         refine J.region ?_
         refine JL.pur (.pointer (some ⟨b70, 0, none⟩)) (some 34) ?_
         refine JL.val (.int .i64 ((ix l1 x49).At)) (some 35) (yields_load_box 0 0 (holds_box b70 51 (cl_51 (ix l1 x49))) tyAgg_3) ?_
         refine JL.pur (.pointer (some ⟨b70, 1, none⟩)) (some 36) ?_
         refine JL.val (.int .i64 ((ix l1 x49).Many)) (some 37) (yields_load_box 0 1 (holds_box b70 51 (cl_51 (ix l1 x49))) tyAgg_3) ?_
         refine JL.pur (.int .i64 (w64 (((ix l1 x49).At) + ((ix l1 x49).Many)))) (some 38) ?_
         refine JL.pur (.int .i64 (w64 ((w64 (((ix l1 x49).At) + ((ix l1 x49).Many))) + 1))) (some 39) ?_
         obtain ⟨free76, efree76, H1⟩ := lt_some H1
         refine JL.as' (k := .i64) free76 efree76 ?_
         refine JL.end_ ?_
         refine JQ.blk_normal ?_
         refine JQ.ts [(3, .int .i64 free76), (6, .slice (some ⟨g68, o69, none⟩) l1.length c47), (7, .int .i64 (l1.length : Int)), (8, .int .i64 x49)] ?_
         refine JQ.mask [At.rd (some ⟨g68, o69, none⟩) c47 fl_Gap.kd l1 true] [false, true] ?_
         refine J.region ?_
         refine JL.pur (.int .i64 (w64 (x49 + 1))) (some 40) ?_
         refine JL.mv (.int .i64 (w64 (x49 + 1))) ?_
         refine JL.en ?_
         exact JQ.again (free76, w64 (x49 + 1)) ((some ⟨g68, o69, none⟩), c47) (Option.some.inj H1).symm (fun _ h => Heap.to h)
   · refine J.cond_false h65 ?_
     refine J.exit ?_
     refine JQ.then_exit ?_
     refine JQ.then_exit ?_
     refine JQ.blk_exit ?_
     rw [hb1 _ (Option.some.inj H1).symm, fin_brk] at H0
     exact JQ.met () () H0 (fun _ h => Heap.to (Heap.pick [] (by decide) h))
 · clear hit H0
   rintro ⟨⟩ ⟨⟩ H0
   replace H0 : accum_runs.k5 = some r := H0
   unfold accum_runs.k5 at H0
   refine JQ.sub [] ?_
   refine JQ.turn (Δ' := []) (fun _ h => h.to) ?_
   refine JQ.then_normal ?_
   refine J.sr ?_
   refine JL.as (.bool true) ?_
   refine JL.en ?_
   refine J.ret ?_
   obtain rfl := Option.some.inj H0
   exact JQ.done' (rs := [.tmp 2]) (vs := [.bool true]) [] (.inr rfl) ⟨by kernel_rfl, trivial⟩ (fun _ h => Heap.to h) ⟨rfl, rfl⟩

theorem accum_Check.ok (a1 : Acc) (Aa2 : Option Addr) (c3 : Nat) (Aa5 : Option Addr) (c6 : Nat) (Aa8 : Option Addr) (c9 : Nat) (r : Int) (H0 : accum_Check.f a1 = some r) :
    Does Try.prog 18 [.agg #[.slice Aa2 a1.Sums.length c3, .slice Aa5 a1.Ns.length c6, .slice Aa8 a1.Spans.length c9]].toArray [At.rd Aa2 c3 fl_Count.kd a1.Sums true, At.rd Aa5 c6 fl_Count.kd a1.Ns true, At.rd Aa8 c9 fl_Gap.kd a1.Spans true] [] false (fun v Δ => v = .int .i64 r ∧ Δ = []) := by
 refine Does.body (vs := [.agg #[.slice Aa2 a1.Sums.length c3, .slice Aa5 a1.Ns.length c6, .slice Aa8 a1.Spans.length c9]]) Try.func18 rfl ⟨.inl rfl, .inl rfl, .inl rfl, trivial⟩ trivial fun w S => ?_
 unfold accum_Check.f at H0
 refine J.sr ?_
 refine JL.box [.slice Aa2 a1.Sums.length c3, .slice Aa5 a1.Ns.length c6, .slice Aa8 a1.Spans.length c9] fun b11 => ?_
 refine JL.as (.int .i64 0) ?_
 refine JL.es [(1, .pointer (some ⟨b11, 0, none⟩))] ?_
 refine J.seq ?_
 refine J.join (T := Bool) (G := Unit) (fun t => accum_Check.k1 a1 t = some r) (fun t g => [(1, .pointer (some ⟨b11, 0, none⟩)), (20, .bool t)]) (fun t g => [At.box b11 25 [.slice Aa2 a1.Sums.length c3, .slice Aa5 a1.Ns.length c6, .slice Aa8 a1.Spans.length c9], At.rd Aa2 c3 fl_Count.kd a1.Sums true, At.rd Aa5 c6 fl_Count.kd a1.Ns true, At.rd Aa8 c9 fl_Gap.kd a1.Spans true]) ?_ ?_
 · refine J.region ?_
   refine JL.pur (.pointer (some ⟨b11, 0, none⟩)) (some 5) ?_
   refine JL.val (.slice Aa2 a1.Sums.length c3) (some 6) (yields_load_box 3 0 (holds_box b11 25 [.slice Aa2 a1.Sums.length c3, .slice Aa5 a1.Ns.length c6, .slice Aa8 a1.Spans.length c9]) tyAgg_22) ?_
   refine JL.pur (.int .i64 (a1.Sums.length : Int)) (some 7) ?_
   refine JL.pur (.bool (decide (511 < (a1.Sums.length : Int)))) (some 8) ?_
   refine JL.mv (.bool (decide (511 < (a1.Sums.length : Int)))) ?_
   rcases ite_cases H0 with ⟨h36, H0⟩ | ⟨h36, H0⟩
   · refine JL.off 4 9 false (some 10) h36 ?_
     refine JL.off 4 9 false (some 11) h36 ?_
     refine JL.off 4 9 false (some 12) h36 ?_
     refine JL.off 4 9 false (some 13) h36 ?_
     refine JL.val (.bool true) (some 14) (gives_pickT h36) ?_
     refine JL.mv (.bool true) ?_
     refine JL.off 10 15 false (some 16) rfl ?_
     refine JL.off 10 15 false (some 17) rfl ?_
     refine JL.off 10 15 false (some 18) rfl ?_
     refine JL.off 10 15 false (some 19) rfl ?_
     refine JL.val (.bool true) (some 20) (gives_pickT rfl) ?_
     refine JL.en ?_
     exact JQ.meet true () H0 (fun _ h => Heap.to (Heap.pick [3, 0, 1, 2] (by decide) h))
   · refine JL.on 4 9 h36 ?_
     refine JL.pur (.pointer (some ⟨b11, 1, none⟩)) (some 10) ?_
     refine JL.on 4 9 h36 ?_
     refine JL.val (.slice Aa5 a1.Ns.length c6) (some 11) (yields_load_box 3 1 (holds_box b11 25 [.slice Aa2 a1.Sums.length c3, .slice Aa5 a1.Ns.length c6, .slice Aa8 a1.Spans.length c9]) tyAgg_22) ?_
     refine JL.on 4 9 h36 ?_
     refine JL.pur (.int .i64 (a1.Ns.length : Int)) (some 12) ?_
     refine JL.on 4 9 h36 ?_
     refine JL.pur (.bool (decide (511 < (a1.Ns.length : Int)))) (some 13) ?_
     refine JL.val (.bool (decide (511 < (a1.Ns.length : Int)))) (some 14) (gives_pickF h36) ?_
     refine JL.mv (.bool (decide (511 < (a1.Ns.length : Int)))) ?_
     rcases ite_cases H0 with ⟨h37, H0⟩ | ⟨h37, H0⟩
     · refine JL.off 10 15 false (some 16) h37 ?_
       refine JL.off 10 15 false (some 17) h37 ?_
       refine JL.off 10 15 false (some 18) h37 ?_
       refine JL.off 10 15 false (some 19) h37 ?_
       refine JL.val (.bool true) (some 20) (gives_pickT h37) ?_
       refine JL.en ?_
       exact JQ.meet true () H0 (fun _ h => Heap.to (Heap.pick [3, 0, 1, 2] (by decide) h))
     · refine JL.on 10 15 h37 ?_
       refine JL.pur (.pointer (some ⟨b11, 2, none⟩)) (some 16) ?_
       refine JL.on 10 15 h37 ?_
       refine JL.val (.slice Aa8 a1.Spans.length c9) (some 17) (yields_load_box 3 2 (holds_box b11 25 [.slice Aa2 a1.Sums.length c3, .slice Aa5 a1.Ns.length c6, .slice Aa8 a1.Spans.length c9]) tyAgg_23) ?_
       refine JL.on 10 15 h37 ?_
       refine JL.pur (.int .i64 (a1.Spans.length : Int)) (some 18) ?_
       refine JL.on 10 15 h37 ?_
       refine JL.pur (.bool (decide (64 < (a1.Spans.length : Int)))) (some 19) ?_
       refine JL.val (.bool (decide (64 < (a1.Spans.length : Int)))) (some 20) (gives_pickF h37) ?_
       refine JL.en ?_
       exact JQ.meet (decide (64 < (a1.Spans.length : Int))) () H0 (fun _ h => Heap.to (Heap.pick [3, 0, 1, 2] (by decide) h))
 · clear H0
   rintro x14 ⟨⟩ H0
   replace H0 : accum_Check.k1 a1 x14 = some r := H0
   unfold accum_Check.k1 at H0
   refine JQ.sub [(1, .pointer (some ⟨b11, 0, none⟩)), (20, .bool x14)] ?_
   refine JQ.turn (Δ' := [At.box b11 25 [.slice Aa2 a1.Sums.length c3, .slice Aa5 a1.Ns.length c6, .slice Aa8 a1.Spans.length c9], At.rd Aa2 c3 fl_Count.kd a1.Sums true, At.rd Aa5 c6 fl_Count.kd a1.Ns true, At.rd Aa8 c9 fl_Gap.kd a1.Spans true]) (fun _ h => h.to) ?_
   rcases ite_cases H0 with ⟨h15, H0⟩ | ⟨h15, H0⟩
   · refine J.cond_true h15 ?_
     refine J.sr ?_
     refine JL.as (.int .i64 4) ?_
     refine JL.es [(2, .int .i64 4)] ?_
     refine JQ.mask [] [false, false, false, false] ?_
     refine J.ret ?_
     refine JQ.then_ret ?_
     obtain rfl := Option.some.inj H0
     exact JQ.done' (rs := [.tmp 2]) (vs := [.int .i64 4]) [] (.inr rfl) ⟨by kernel_rfl, trivial⟩ (fun _ h => Heap.to h) ⟨rfl, rfl⟩
   · refine J.cond_false h15 ?_
     refine J.skip ?_
     refine JQ.ts [(1, .pointer (some ⟨b11, 0, none⟩))] ?_
     refine J.sr ?_
     refine JL.alloc [.int .i64 0] fun b16 => ?_
     refine JL.store 4 b16 0 2 [.int .i64 0] [.int .i64 (-1000000000)] tySize_2 ?_
     refine JL.en ?_
     refine J.sr ?_
     refine JL.pur (.func (.func 34) #[] #[.pointer (some ⟨b16, 0, none⟩)]) (some 21) ?_
     refine JL.as (.func (.func 34) #[] #[.pointer (some ⟨b16, 0, none⟩)]) ?_
     refine JL.es [(1, .pointer (some ⟨b11, 0, none⟩)), (3, .pointer (some ⟨b16, 0, none⟩)), (4, .func (.func 34) #[] #[.pointer (some ⟨b16, 0, none⟩)])] ?_
     refine J.seq ?_
     refine J.join (T := Bool) (G := Unit) (fun t => accum_Check.k2 a1 t = some r) (fun t g => [(1, .pointer (some ⟨b11, 0, none⟩)), (3, .pointer (some ⟨b16, 0, none⟩)), (4, .func (.func 34) #[] #[.pointer (some ⟨b16, 0, none⟩)]), (47, .bool t)]) (fun t g => [At.box b11 25 [.slice Aa2 a1.Sums.length c3, .slice Aa5 a1.Ns.length c6, .slice Aa8 a1.Spans.length c9], At.rd Aa2 c3 fl_Count.kd a1.Sums true, At.rd Aa5 c6 fl_Count.kd a1.Ns true, At.rd Aa8 c9 fl_Gap.kd a1.Spans true, At.box b16 2 [.int .i64 (-1000000000)]]) ?_ ?_
     · refine J.region ?_
       refine JL.pur (.pointer (some ⟨b11, 0, none⟩)) (some 22) ?_
       refine JL.val (.slice Aa2 a1.Sums.length c3) (some 23) (yields_load_box 0 0 (holds_box b11 25 [.slice Aa2 a1.Sums.length c3, .slice Aa5 a1.Ns.length c6, .slice Aa8 a1.Spans.length c9]) tyAgg_22) ?_
       refine JL.pur (.int .i64 (a1.Sums.length : Int)) (some 24) ?_
       refine JL.pur (.int .i64 (Int.tmod (a1.Sums.length : Int) 2)) (some 25) ?_
       refine JL.pur (.bool (decide (Int.tmod (a1.Sums.length : Int) 2 = 0))) (some 26) ?_
       refine JL.mv (.bool (decide (Int.tmod (a1.Sums.length : Int) 2 = 0))) ?_
       rcases ite_cases H0 with ⟨h29, H0⟩ | ⟨h29, H0⟩
       · refine JL.off 5 27 false (some 28) h29 ?_
         refine JL.off 5 27 false (some 29) h29 ?_
         refine JL.off 5 27 false (some 30) h29 ?_
         refine JL.off 5 27 false (some 31) h29 ?_
         refine JL.off 5 27 false (some 32) h29 ?_
         refine JL.off 5 27 false (some 33) h29 ?_
         refine JL.off 5 27 false (some 34) h29 ?_
         refine JL.val (.bool true) (some 35) (gives_pickT h29) ?_
         refine JL.mv (.bool true) ?_
         refine JL.off 14 36 false (some 37) rfl ?_
         refine JL.off 14 36 false (some 38) rfl ?_
         refine JL.off 14 36 false (some 39) rfl ?_
         refine JL.off 14 36 false (some 40) rfl ?_
         refine JL.val (.bool true) (some 41) (gives_pickT rfl) ?_
         refine JL.mv (.bool true) ?_
         refine JL.off 20 42 false (some 43) rfl ?_
         refine JL.off 20 42 false (some 44) rfl ?_
         refine JL.off 20 42 false (some 45) rfl ?_
         refine JL.off 20 42 false (some 46) rfl ?_
         refine JL.val (.bool true) (some 47) (gives_pickT rfl) ?_
         refine JL.en ?_
         exact JQ.meet true () H0 (fun _ h => Heap.to h)
       · refine JL.on 5 27 h29 ?_
         refine JL.pur (.pointer (some ⟨b11, 1, none⟩)) (some 28) ?_
         refine JL.on 5 27 h29 ?_
         refine JL.val (.slice Aa5 a1.Ns.length c6) (some 29) (yields_load_box 0 1 (holds_box b11 25 [.slice Aa2 a1.Sums.length c3, .slice Aa5 a1.Ns.length c6, .slice Aa8 a1.Spans.length c9]) tyAgg_22) ?_
         refine JL.on 5 27 h29 ?_
         refine JL.pur (.int .i64 (a1.Ns.length : Int)) (some 30) ?_
         refine JL.on 5 27 h29 ?_
         refine JL.pur (.pointer (some ⟨b11, 0, none⟩)) (some 31) ?_
         refine JL.on 5 27 h29 ?_
         refine JL.val (.slice Aa2 a1.Sums.length c3) (some 32) (yields_load_box 0 0 (holds_box b11 25 [.slice Aa2 a1.Sums.length c3, .slice Aa5 a1.Ns.length c6, .slice Aa8 a1.Spans.length c9]) tyAgg_22) ?_
         refine JL.on 5 27 h29 ?_
         refine JL.pur (.int .i64 (a1.Sums.length : Int)) (some 33) ?_
         refine JL.on 5 27 h29 ?_
         refine JL.pur (.bool (!decide ((a1.Ns.length : Int) = (a1.Sums.length : Int)))) (some 34) ?_
         refine JL.val (.bool (!decide ((a1.Ns.length : Int) = (a1.Sums.length : Int)))) (some 35) (gives_pickF h29) ?_
         refine JL.mv (.bool (!decide ((a1.Ns.length : Int) = (a1.Sums.length : Int)))) ?_
         rcases ite_cases H0 with ⟨h30, H0⟩ | ⟨h30, H0⟩
         · refine JL.off 14 36 false (some 37) h30 ?_
           refine JL.off 14 36 false (some 38) h30 ?_
           refine JL.off 14 36 false (some 39) h30 ?_
           refine JL.off 14 36 false (some 40) h30 ?_
           refine JL.val (.bool true) (some 41) (gives_pickT h30) ?_
           refine JL.mv (.bool true) ?_
           refine JL.off 20 42 false (some 43) rfl ?_
           refine JL.off 20 42 false (some 44) rfl ?_
           refine JL.off 20 42 false (some 45) rfl ?_
           refine JL.off 20 42 false (some 46) rfl ?_
           refine JL.val (.bool true) (some 47) (gives_pickT rfl) ?_
           refine JL.en ?_
           exact JQ.meet true () H0 (fun _ h => Heap.to h)
         · refine JL.on 14 36 h30 ?_
           refine JL.pur (.pointer (some ⟨b11, 0, none⟩)) (some 37) ?_
           refine JL.on 14 36 h30 ?_
           refine JL.val (.slice Aa2 a1.Sums.length c3) (some 38) (yields_load_box 0 0 (holds_box b11 25 [.slice Aa2 a1.Sums.length c3, .slice Aa5 a1.Ns.length c6, .slice Aa8 a1.Spans.length c9]) tyAgg_22) ?_
           refine JL.on 14 36 h30 ?_
           refine JL.mv (.func (.func 34) #[] #[.pointer (some ⟨b16, 0, none⟩)]) ?_
           refine JL.on 14 36 h30 ?_
           obtain ⟨t31, hc32, H0⟩ := bind_some H0
           refine JL.call [] [] [false, false, false, false, true] (slices_ContainsFunc__api_Count_api_Count__accum_Check_1.ok a1.Sums Aa2 c3 (-1000000000) b16 _ hc32) ⟨pre_any 1 (view_rd Aa2 c3 fl_Count.kd a1.Sums true true), trivial⟩ ?_
           rintro _ _ ⟨rfl, rfl⟩
           refine JL.val (.bool t31) (some 41) (gives_pickF h30) ?_
           refine JL.mv (.bool t31) ?_
           rcases ite_cases H0 with ⟨h33, H0⟩ | ⟨h33, H0⟩
           · refine JL.off 20 42 false (some 43) h33 ?_
             refine JL.off 20 42 false (some 44) h33 ?_
             refine JL.off 20 42 false (some 45) h33 ?_
             refine JL.off 20 42 false (some 46) h33 ?_
             refine JL.val (.bool true) (some 47) (gives_pickT h33) ?_
             refine JL.en ?_
             exact JQ.meet true () H0 (fun _ h => Heap.to h)
           · refine JL.on 20 42 h33 ?_
             refine JL.pur (.pointer (some ⟨b11, 2, none⟩)) (some 43) ?_
             refine JL.on 20 42 h33 ?_
             refine JL.val (.slice Aa8 a1.Spans.length c9) (some 44) (yields_load_box 0 2 (holds_box b11 25 [.slice Aa2 a1.Sums.length c3, .slice Aa5 a1.Ns.length c6, .slice Aa8 a1.Spans.length c9]) tyAgg_23) ?_
             refine JL.on 20 42 h33 ?_
             obtain ⟨t34, hc35, H0⟩ := bind_some H0
             refine JL.call [] [] [] (accum_runs.ok a1.Spans Aa8 c9 _ hc35) ⟨pre_any 3 (view_rd Aa8 c9 fl_Gap.kd a1.Spans true true), trivial⟩ ?_
             rintro _ _ ⟨rfl, rfl⟩
             refine JL.on 20 42 h33 ?_
             refine JL.pur (.bool (!t34)) (some 46) ?_
             refine JL.val (.bool (!t34)) (some 47) (gives_pickF h33) ?_
             refine JL.en ?_
             exact JQ.meet (!t34) () H0 (fun _ h => Heap.to h)
     · clear H0
       rintro x24 ⟨⟩ H0
       replace H0 : accum_Check.k2 a1 x24 = some r := H0
       unfold accum_Check.k2 at H0
       refine JQ.sub [(1, .pointer (some ⟨b11, 0, none⟩)), (3, .pointer (some ⟨b16, 0, none⟩)), (4, .func (.func 34) #[] #[.pointer (some ⟨b16, 0, none⟩)]), (47, .bool x24)] ?_
       refine JQ.turn (Δ' := [At.box b11 25 [.slice Aa2 a1.Sums.length c3, .slice Aa5 a1.Ns.length c6, .slice Aa8 a1.Spans.length c9], At.rd Aa2 c3 fl_Count.kd a1.Sums true, At.rd Aa5 c6 fl_Count.kd a1.Ns true, At.rd Aa8 c9 fl_Gap.kd a1.Spans true, At.box b16 2 [.int .i64 (-1000000000)]]) (fun _ h => h.to) ?_
       rcases ite_cases H0 with ⟨h25, H0⟩ | ⟨h25, H0⟩
       · refine J.cond_true h25 ?_
         refine J.sr ?_
         refine JL.as (.int .i64 8) ?_
         refine JL.es [(2, .int .i64 8)] ?_
         refine JQ.mask [] [false, false, false, false, false] ?_
         refine J.ret ?_
         refine JQ.then_ret ?_
         obtain rfl := Option.some.inj H0
         exact JQ.done' (rs := [.tmp 2]) (vs := [.int .i64 8]) [] (.inr rfl) ⟨by kernel_rfl, trivial⟩ (fun _ h => Heap.to h) ⟨rfl, rfl⟩
       · refine J.cond_false h25 ?_
         refine J.skip ?_
         refine JQ.ts [(1, .pointer (some ⟨b11, 0, none⟩)), (3, .pointer (some ⟨b16, 0, none⟩)), (4, .func (.func 34) #[] #[.pointer (some ⟨b16, 0, none⟩)])] ?_
         refine J.sr ?_
         refine JL.store 4 b16 0 2 [.int .i64 (-1000000000)] [.int .i64 0] tySize_2 ?_
         refine JL.es [(1, .pointer (some ⟨b11, 0, none⟩)), (4, .func (.func 34) #[] #[.pointer (some ⟨b16, 0, none⟩)])] ?_
         refine J.seq ?_
         refine J.sr ?_
         refine JL.pur (.pointer (some ⟨b11, 1, none⟩)) (some 48) ?_
         refine JL.val (.slice Aa5 a1.Ns.length c6) (some 49) (yields_load_box 0 1 (holds_box b11 25 [.slice Aa2 a1.Sums.length c3, .slice Aa5 a1.Ns.length c6, .slice Aa8 a1.Spans.length c9]) tyAgg_22) ?_
         refine JL.mv (.func (.func 34) #[] #[.pointer (some ⟨b16, 0, none⟩)]) ?_
         obtain ⟨t26, hc27, H0⟩ := bind_some H0
         refine JL.call [] [] [false, false, false, false, true] (slices_ContainsFunc__api_Count_api_Count__accum_Check_1.ok a1.Ns Aa5 c6 0 b16 _ hc27) ⟨pre_any 2 (view_rd Aa5 c6 fl_Count.kd a1.Ns true true), trivial⟩ ?_
         rintro _ _ ⟨rfl, rfl⟩
         refine JL.es [(51, .bool t26)] ?_
         refine JQ.mask [] [false, false, false, false, false] ?_
         rcases ite_cases H0 with ⟨h28, H0⟩ | ⟨h28, H0⟩
         · refine J.cond_true h28 ?_
           refine J.sr ?_
           refine JL.as (.int .i64 8) ?_
           refine JL.es [(2, .int .i64 8)] ?_
           refine J.ret ?_
           refine JQ.then_ret ?_
           obtain rfl := Option.some.inj H0
           exact JQ.done' (rs := [.tmp 2]) (vs := [.int .i64 8]) [] (.inr rfl) ⟨by kernel_rfl, trivial⟩ (fun _ h => Heap.to h) ⟨rfl, rfl⟩
         · refine J.cond_false h28 ?_
           refine J.skip ?_
           refine JQ.ts [] ?_
           refine J.sr ?_
           refine JL.as (.int .i64 0) ?_
           refine JL.en ?_
           refine J.ret ?_
           obtain rfl := Option.some.inj H0
           exact JQ.done' (rs := [.tmp 2]) (vs := [.int .i64 0]) [] (.inr rfl) ⟨by kernel_rfl, trivial⟩ (fun _ h => Heap.to h) ⟨rfl, rfl⟩

theorem lag_Check_1.ok (x1 : Lag) (r : Bool) (H0 : lag_Check_1.f x1 = some r) :
    Does Try.prog 54 [mv_56 x1].toArray [] [] false (fun v Δ => v = .bool r ∧ Δ = []) := by
 refine Does.body (vs := [mv_56 x1]) Try.func54 rfl trivial trivial fun w S => ?_
 unfold lag_Check_1.f at H0
 refine J.sr ?_
 refine JL.box (cl_56 x1) fun b2 => ?_
 refine JL.as (.bool false) ?_
 refine JL.es [(1, .pointer (some ⟨b2, 0, none⟩))] ?_
 refine J.sr ?_
 refine JL.pur (.pointer (some ⟨b2, 1, none⟩)) (some 3) ?_
 refine JL.val (.int .i64 x1.N) (some 4) (yields_load_box 0 1 (holds_box b2 56 (cl_56 x1)) tyAgg_3) ?_
 refine JL.pur (.bool (decide (x1.N < 0))) (some 5) ?_
 refine JL.mv (.bool (decide (x1.N < 0))) ?_
 rcases ite_cases H0 with ⟨h3, H0⟩ | ⟨h3, H0⟩
 · refine JL.off 3 6 false (some 7) h3 ?_
   refine JL.off 3 6 false (some 8) h3 ?_
   refine JL.off 3 6 false (some 9) h3 ?_
   refine JL.val (.bool true) (some 10) (gives_pickT h3) ?_
   refine JL.mv (.bool true) ?_
   refine JL.off 8 11 false (some 12) rfl ?_
   refine JL.off 8 11 false (some 13) rfl ?_
   refine JL.off 8 11 false (some 14) rfl ?_
   refine JL.off 8 11 false (some 15) rfl ?_
   refine JL.off 8 11 false (some 16) rfl ?_
   refine JL.off 8 11 false (some 17) rfl ?_
   refine JL.val (.bool true) (some 18) (gives_pickT rfl) ?_
   refine JL.mv (.bool true) ?_
   refine JL.off 16 19 false (some 20) rfl ?_
   refine JL.off 16 19 false (some 21) rfl ?_
   refine JL.off 16 19 false (some 22) rfl ?_
   refine JL.off 16 19 false (some 23) rfl ?_
   refine JL.off 16 19 false (some 24) rfl ?_
   refine JL.off 16 19 false (some 25) rfl ?_
   refine JL.val (.bool true) (some 26) (gives_pickT rfl) ?_
   refine JL.mv (.bool true) ?_
   refine JL.off 24 27 false (some 28) rfl ?_
   refine JL.off 24 27 false (some 29) rfl ?_
   refine JL.off 24 27 false (some 30) rfl ?_
   refine JL.off 24 27 false (some 31) rfl ?_
   refine JL.off 24 27 false (some 32) rfl ?_
   refine JL.off 24 27 false (some 33) rfl ?_
   refine JL.off 24 27 false (some 34) rfl ?_
   refine JL.val (.bool true) (some 35) (gives_pickT rfl) ?_
   refine JL.as (.bool true) ?_
   refine JL.es [(2, .bool true)] ?_
   refine JQ.mask [] [false] ?_
   refine J.ret ?_
   obtain rfl := Option.some.inj H0
   exact JQ.done' (rs := [.tmp 2]) (vs := [.bool true]) [] (.inr rfl) ⟨by kernel_rfl, trivial⟩ (fun _ h => Heap.to h) ⟨rfl, rfl⟩
 · refine JL.on 3 6 h3 ?_
   refine JL.pur (.pointer (some ⟨b2, 1, none⟩)) (some 7) ?_
   refine JL.on 3 6 h3 ?_
   refine JL.val (.int .i64 x1.N) (some 8) (yields_load_box 0 1 (holds_box b2 56 (cl_56 x1)) tyAgg_3) ?_
   refine JL.on 3 6 h3 ?_
   refine JL.pur (.bool (decide (256 < x1.N))) (some 9) ?_
   refine JL.val (.bool (decide (256 < x1.N))) (some 10) (gives_pickF h3) ?_
   refine JL.mv (.bool (decide (256 < x1.N))) ?_
   rcases ite_cases H0 with ⟨h4, H0⟩ | ⟨h4, H0⟩
   · refine JL.off 8 11 false (some 12) h4 ?_
     refine JL.off 8 11 false (some 13) h4 ?_
     refine JL.off 8 11 false (some 14) h4 ?_
     refine JL.off 8 11 false (some 15) h4 ?_
     refine JL.off 8 11 false (some 16) h4 ?_
     refine JL.off 8 11 false (some 17) h4 ?_
     refine JL.val (.bool true) (some 18) (gives_pickT h4) ?_
     refine JL.mv (.bool true) ?_
     refine JL.off 16 19 false (some 20) rfl ?_
     refine JL.off 16 19 false (some 21) rfl ?_
     refine JL.off 16 19 false (some 22) rfl ?_
     refine JL.off 16 19 false (some 23) rfl ?_
     refine JL.off 16 19 false (some 24) rfl ?_
     refine JL.off 16 19 false (some 25) rfl ?_
     refine JL.val (.bool true) (some 26) (gives_pickT rfl) ?_
     refine JL.mv (.bool true) ?_
     refine JL.off 24 27 false (some 28) rfl ?_
     refine JL.off 24 27 false (some 29) rfl ?_
     refine JL.off 24 27 false (some 30) rfl ?_
     refine JL.off 24 27 false (some 31) rfl ?_
     refine JL.off 24 27 false (some 32) rfl ?_
     refine JL.off 24 27 false (some 33) rfl ?_
     refine JL.off 24 27 false (some 34) rfl ?_
     refine JL.val (.bool true) (some 35) (gives_pickT rfl) ?_
     refine JL.as (.bool true) ?_
     refine JL.es [(2, .bool true)] ?_
     refine JQ.mask [] [false] ?_
     refine J.ret ?_
     obtain rfl := Option.some.inj H0
     exact JQ.done' (rs := [.tmp 2]) (vs := [.bool true]) [] (.inr rfl) ⟨by kernel_rfl, trivial⟩ (fun _ h => Heap.to h) ⟨rfl, rfl⟩
   · refine JL.on 8 11 h4 ?_
     refine JL.pur (.pointer (some ⟨b2, 0, none⟩)) (some 12) ?_
     refine JL.on 8 11 h4 ?_
     refine JL.val (.int .i64 x1.Sum) (some 13) (yields_load_box 0 0 (holds_box b2 56 (cl_56 x1)) tyAgg_3) ?_
     refine JL.on 8 11 h4 ?_
     refine JL.pur (.pointer (some ⟨b2, 1, none⟩)) (some 14) ?_
     refine JL.on 8 11 h4 ?_
     refine JL.val (.int .i64 x1.N) (some 15) (yields_load_box 0 1 (holds_box b2 56 (cl_56 x1)) tyAgg_3) ?_
     refine JL.on 8 11 h4 ?_
     refine JL.pur (.int .i64 (w64 (9 * x1.N))) (some 16) ?_
     refine JL.on 8 11 h4 ?_
     refine JL.pur (.bool (decide (w64 (9 * x1.N) < x1.Sum))) (some 17) ?_
     refine JL.val (.bool (decide (w64 (9 * x1.N) < x1.Sum))) (some 18) (gives_pickF h4) ?_
     refine JL.mv (.bool (decide (w64 (9 * x1.N) < x1.Sum))) ?_
     rcases ite_cases H0 with ⟨h5, H0⟩ | ⟨h5, H0⟩
     · refine JL.off 16 19 false (some 20) h5 ?_
       refine JL.off 16 19 false (some 21) h5 ?_
       refine JL.off 16 19 false (some 22) h5 ?_
       refine JL.off 16 19 false (some 23) h5 ?_
       refine JL.off 16 19 false (some 24) h5 ?_
       refine JL.off 16 19 false (some 25) h5 ?_
       refine JL.val (.bool true) (some 26) (gives_pickT h5) ?_
       refine JL.mv (.bool true) ?_
       refine JL.off 24 27 false (some 28) rfl ?_
       refine JL.off 24 27 false (some 29) rfl ?_
       refine JL.off 24 27 false (some 30) rfl ?_
       refine JL.off 24 27 false (some 31) rfl ?_
       refine JL.off 24 27 false (some 32) rfl ?_
       refine JL.off 24 27 false (some 33) rfl ?_
       refine JL.off 24 27 false (some 34) rfl ?_
       refine JL.val (.bool true) (some 35) (gives_pickT rfl) ?_
       refine JL.as (.bool true) ?_
       refine JL.es [(2, .bool true)] ?_
       refine JQ.mask [] [false] ?_
       refine J.ret ?_
       obtain rfl := Option.some.inj H0
       exact JQ.done' (rs := [.tmp 2]) (vs := [.bool true]) [] (.inr rfl) ⟨by kernel_rfl, trivial⟩ (fun _ h => Heap.to h) ⟨rfl, rfl⟩
     · refine JL.on 16 19 h5 ?_
       refine JL.pur (.pointer (some ⟨b2, 0, none⟩)) (some 20) ?_
       refine JL.on 16 19 h5 ?_
       refine JL.val (.int .i64 x1.Sum) (some 21) (yields_load_box 0 0 (holds_box b2 56 (cl_56 x1)) tyAgg_3) ?_
       refine JL.on 16 19 h5 ?_
       refine JL.pur (.pointer (some ⟨b2, 1, none⟩)) (some 22) ?_
       refine JL.on 16 19 h5 ?_
       refine JL.val (.int .i64 x1.N) (some 23) (yields_load_box 0 1 (holds_box b2 56 (cl_56 x1)) tyAgg_3) ?_
       refine JL.on 16 19 h5 ?_
       refine JL.pur (.int .i64 (w64 ((-9) * x1.N))) (some 24) ?_
       refine JL.on 16 19 h5 ?_
       refine JL.pur (.bool (decide (x1.Sum < w64 ((-9) * x1.N)))) (some 25) ?_
       refine JL.val (.bool (decide (x1.Sum < w64 ((-9) * x1.N)))) (some 26) (gives_pickF h5) ?_
       refine JL.mv (.bool (decide (x1.Sum < w64 ((-9) * x1.N)))) ?_
       rcases ite_cases H0 with ⟨h6, H0⟩ | ⟨h6, H0⟩
       · refine JL.off 24 27 false (some 28) h6 ?_
         refine JL.off 24 27 false (some 29) h6 ?_
         refine JL.off 24 27 false (some 30) h6 ?_
         refine JL.off 24 27 false (some 31) h6 ?_
         refine JL.off 24 27 false (some 32) h6 ?_
         refine JL.off 24 27 false (some 33) h6 ?_
         refine JL.off 24 27 false (some 34) h6 ?_
         refine JL.val (.bool true) (some 35) (gives_pickT h6) ?_
         refine JL.as (.bool true) ?_
         refine JL.es [(2, .bool true)] ?_
         refine JQ.mask [] [false] ?_
         refine J.ret ?_
         obtain rfl := Option.some.inj H0
         exact JQ.done' (rs := [.tmp 2]) (vs := [.bool true]) [] (.inr rfl) ⟨by kernel_rfl, trivial⟩ (fun _ h => Heap.to h) ⟨rfl, rfl⟩
       · refine JL.on 24 27 h6 ?_
         refine JL.pur (.pointer (some ⟨b2, 0, none⟩)) (some 28) ?_
         refine JL.on 24 27 h6 ?_
         refine JL.val (.int .i64 x1.Sum) (some 29) (yields_load_box 0 0 (holds_box b2 56 (cl_56 x1)) tyAgg_3) ?_
         refine JL.on 24 27 h6 ?_
         refine JL.pur (.pointer (some ⟨b2, 1, none⟩)) (some 30) ?_
         refine JL.on 24 27 h6 ?_
         refine JL.val (.int .i64 x1.N) (some 31) (yields_load_box 0 1 (holds_box b2 56 (cl_56 x1)) tyAgg_3) ?_
         refine JL.on 24 27 h6 ?_
         refine JL.pur (.int .i64 (w64 (x1.Sum - x1.N))) (some 32) ?_
         refine JL.on 24 27 h6 ?_
         refine JL.pur (.int .i64 (Int.tmod (w64 (x1.Sum - x1.N)) 2)) (some 33) ?_
         refine JL.on 24 27 h6 ?_
         refine JL.pur (.bool (!decide (Int.tmod (w64 (x1.Sum - x1.N)) 2 = 0))) (some 34) ?_
         refine JL.val (.bool (!decide (Int.tmod (w64 (x1.Sum - x1.N)) 2 = 0))) (some 35) (gives_pickF h6) ?_
         refine JL.as (.bool (!decide (Int.tmod (w64 (x1.Sum - x1.N)) 2 = 0))) ?_
         refine JL.es [(2, .bool (!decide (Int.tmod (w64 (x1.Sum - x1.N)) 2 = 0)))] ?_
         refine JQ.mask [] [false] ?_
         refine J.ret ?_
         obtain rfl := Option.some.inj H0
         exact JQ.done' (rs := [.tmp 2]) (vs := [.bool (!decide (Int.tmod (w64 (x1.Sum - x1.N)) 2 = 0))]) [] (.inr rfl) ⟨by kernel_rfl, trivial⟩ (fun _ h => Heap.to h) ⟨rfl, rfl⟩

theorem slices_IndexFunc__api_Lag_api_Lag__lag_Check_1.ok (s1 : (List Lag)) (Aa2 : Option Addr) (c3 : Nat) (r : Int) (H0 : slices_IndexFunc__api_Lag_api_Lag__lag_Check_1.f s1 = some r) :
    Does Try.prog 62 [.slice Aa2 s1.length c3, .func (.func 54) #[] #[]].toArray [At.rd Aa2 c3 fl_Lag.kd s1 true] [] false (fun v Δ => v = .int .i64 r ∧ Δ = []) := by
 refine Does.body (vs := [.slice Aa2 s1.length c3, .func (.func 54) #[] #[]]) Try.func62 rfl ⟨.inl rfl, trivial⟩ trivial fun w S => ?_
 unfold slices_IndexFunc__api_Lag_api_Lag__lag_Check_1.f at H0
 refine J.sr ?_
 refine JL.as (.int .i64 0) ?_
 refine JL.es [(0, .slice Aa2 s1.length c3), (1, .func (.func 54) #[] #[])] ?_
 refine J.seq ?_
 refine J.sr ?_
 refine JL.mv (.slice Aa2 s1.length c3) ?_
 refine JL.pur (.int .i64 (s1.length : Int)) (some 7) ?_
 refine JL.mv (.int .i64 0) ?_
 refine JL.es [(0, .slice Aa2 s1.length c3), (1, .func (.func 54) #[] #[]), (7, .int .i64 (s1.length : Int)), (8, .int .i64 0)] ?_
 obtain ⟨o1, hit, H0⟩ := bind_some H0
 refine J.loop (σ := Int) (τ := Unit) (G := Unit) (G' := Unit) _ o1 (fun s g => [(0, .slice Aa2 s1.length c3), (1, .func (.func 54) #[] #[]), (7, .int .i64 (s1.length : Int)), (8, .int .i64 s)]) (fun s g => [At.rd Aa2 c3 fl_Lag.kd s1 true]) (fun t => slices_IndexFunc__api_Lag_api_Lag__lag_Check_1.k2 = some r) (fun t g => []) (fun t g => []) 0 () hit (fun _ h => Heap.to h) ?_ ?_
 · clear hit
   rintro x23 ⟨⟩ st1 H1 hb1 hr1
   replace H1 : slices_IndexFunc__api_Lag_api_Lag__lag_Check_1.s1 s1 x23 = some st1 := H1
   unfold slices_IndexFunc__api_Lag_api_Lag__lag_Check_1.s1 at H1
   refine JQ.sub [(0, .slice Aa2 s1.length c3), (1, .func (.func 54) #[] #[]), (7, .int .i64 (s1.length : Int)), (8, .int .i64 x23)] ?_
   refine JQ.turn (Δ' := [At.rd Aa2 c3 fl_Lag.kd s1 true]) (fun _ h => h.to) ?_
   refine J.sr ?_
   refine JL.pur (.bool (decide (x23 < (s1.length : Int)))) (some 9) ?_
   refine JL.en ?_
   refine J.seq ?_
   rcases ite_cases H1 with ⟨h32, H1⟩ | ⟨h32, H1⟩
   · refine J.cond_true h32 ?_
     refine J.skip ?_
     refine JQ.ts [(0, .slice Aa2 s1.length c3), (1, .func (.func 54) #[] #[]), (7, .int .i64 (s1.length : Int)), (8, .int .i64 x23)] ?_
     refine J.seq ?_
     refine J.block ?_
     refine J.sr ?_
     refine JL.mv (.int .i64 x23) ?_
     refine JL.as (.int .i64 x23) ?_
     refine JL.es [(0, .slice Aa2 s1.length c3), (1, .func (.func 54) #[] #[]), (5, .int .i64 x23), (7, .int .i64 (s1.length : Int)), (8, .int .i64 x23)] ?_
     refine J.sr ?_
     refine JL.mv (.func (.func 54) #[] #[]) ?_
     refine JL.mv (.slice Aa2 s1.length c3) ?_
     refine JL.mv (.int .i64 x23) ?_
     obtain ⟨⟨h33, h34⟩, H1⟩ := ite_must H1
     refine JL.ixAddr 0 2 c3 .i64 (elems_rd Aa2 c3 fl_Lag.kd s1 true) Try.underlying57 tySize_56 h33 h34 fun g35 o36 hA => ?_
     subst hA
     refine JL.val (mv_56 (ix s1 x23)) (some 15) (gives_loadEl (f := fl_Lag) 0 0 x23 (elems_rd (some ⟨g35, o36, none⟩) c3 fl_Lag.kd s1 true) h33 h34 tySize_56 (.inl ⟨tyAgg_56, rfl⟩)) ?_
     obtain ⟨t37, hc38, H1⟩ := bind_some H1
     refine JL.call [] [] [] (lag_Check_1.ok (ix s1 x23) _ hc38) trivial ?_
     rintro _ _ ⟨rfl, rfl⟩
     refine JL.es [(0, .slice (some ⟨g35, o36, none⟩) s1.length c3), (1, .func (.func 54) #[] #[]), (5, .int .i64 x23), (7, .int .i64 (s1.length : Int)), (8, .int .i64 x23), (16, .bool t37)] ?_
     rcases ite_cases H1 with ⟨h39, H1⟩ | ⟨h39, H1⟩
     · refine J.cond_true h39 ?_
       refine J.sr ?_
       refine JL.mv (.int .i64 x23) ?_
       refine JL.as (.int .i64 x23) ?_
       refine JL.es [(4, .int .i64 x23)] ?_
       refine JQ.mask [] [false] ?_
       refine J.ret ?_
       refine JQ.blk_ret ?_
       refine JQ.then_ret ?_
       refine JQ.then_ret ?_
       refine JQ.blk_ret ?_
       refine JQ.met_ret ?_
       refine JQ.then_ret ?_
       rw [hr1 _ (Option.some.inj H1).symm, fin_ret] at H0
       obtain rfl := Option.some.inj H0
       exact JQ.done' (rs := [.tmp 4]) (vs := [.int .i64 x23]) [] (.inr rfl) ⟨by kernel_rfl, trivial⟩ (fun _ h => Heap.to h) ⟨rfl, rfl⟩
     · refine J.cond_false h39 ?_
       refine J.skip ?_
       refine JQ.blk_normal ?_
       refine JQ.ts [(0, .slice (some ⟨g35, o36, none⟩) s1.length c3), (1, .func (.func 54) #[] #[]), (7, .int .i64 (s1.length : Int)), (8, .int .i64 x23)] ?_
       refine J.region ?_
       refine JL.pur (.int .i64 (w64 (x23 + 1))) (some 18) ?_
       refine JL.mv (.int .i64 (w64 (x23 + 1))) ?_
       refine JL.en ?_
       exact JQ.again (w64 (x23 + 1)) () (Option.some.inj H1).symm (fun _ h => Heap.to h)
   · refine J.cond_false h32 ?_
     refine J.exit ?_
     refine JQ.then_exit ?_
     refine JQ.then_exit ?_
     refine JQ.blk_exit ?_
     rw [hb1 _ (Option.some.inj H1).symm, fin_brk] at H0
     exact JQ.met () () H0 (fun _ h => Heap.to (Heap.pick [] (by decide) h))
 · clear hit H0
   rintro ⟨⟩ ⟨⟩ H0
   replace H0 : slices_IndexFunc__api_Lag_api_Lag__lag_Check_1.k2 = some r := H0
   unfold slices_IndexFunc__api_Lag_api_Lag__lag_Check_1.k2 at H0
   refine JQ.sub [] ?_
   refine JQ.turn (Δ' := []) (fun _ h => h.to) ?_
   refine JQ.then_normal ?_
   refine J.sr ?_
   refine JL.as (.int .i64 (-1)) ?_
   refine JL.en ?_
   refine J.ret ?_
   obtain rfl := Option.some.inj H0
   exact JQ.done' (rs := [.tmp 4]) (vs := [.int .i64 (-1)]) [] (.inr rfl) ⟨by kernel_rfl, trivial⟩ (fun _ h => Heap.to h) ⟨rfl, rfl⟩

theorem slices_ContainsFunc__api_Lag_api_Lag__lag_Check_1.ok (s1 : (List Lag)) (Aa2 : Option Addr) (c3 : Nat) (r : Bool) (H0 : slices_ContainsFunc__api_Lag_api_Lag__lag_Check_1.f s1 = some r) :
    Does Try.prog 55 [.slice Aa2 s1.length c3, .func (.func 54) #[] #[]].toArray [At.rd Aa2 c3 fl_Lag.kd s1 true] [] false (fun v Δ => v = .bool r ∧ Δ = []) := by
 refine Does.body (vs := [.slice Aa2 s1.length c3, .func (.func 54) #[] #[]]) Try.func55 rfl ⟨.inl rfl, trivial⟩ trivial fun w S => ?_
 unfold slices_ContainsFunc__api_Lag_api_Lag__lag_Check_1.f at H0
 refine J.sr ?_
 refine JL.as (.bool false) ?_
 refine JL.es [(0, .slice Aa2 s1.length c3), (1, .func (.func 54) #[] #[])] ?_
 refine J.sr ?_
 refine JL.mv (.slice Aa2 s1.length c3) ?_
 refine JL.mv (.func (.func 54) #[] #[]) ?_
 obtain ⟨t5, hc6, H0⟩ := bind_some H0
 refine JL.call [] [] [] (slices_IndexFunc__api_Lag_api_Lag__lag_Check_1.ok s1 Aa2 c3 _ hc6) ⟨pre_any 0 (view_rd Aa2 c3 fl_Lag.kd s1 true true), trivial⟩ ?_
 rintro _ _ ⟨rfl, rfl⟩
 refine JL.pur (.bool (decide (0 ≤ t5))) (some 8) ?_
 refine JL.as (.bool (decide (0 ≤ t5))) ?_
 refine JL.es [(4, .bool (decide (0 ≤ t5)))] ?_
 refine JQ.mask [] [false] ?_
 refine J.ret ?_
 obtain rfl := Option.some.inj H0
 exact JQ.done' (rs := [.tmp 4]) (vs := [.bool (decide (0 ≤ t5))]) [] (.inr rfl) ⟨by kernel_rfl, trivial⟩ (fun _ h => Heap.to h) ⟨rfl, rfl⟩

theorem lag_Check.ok (l1 : (List Lag)) (Aa2 : Option Addr) (c3 : Nat) (r : Int) (H0 : lag_Check.f l1 = some r) :
    Does Try.prog 38 [.slice Aa2 l1.length c3].toArray [At.rd Aa2 c3 fl_Lag.kd l1 true] [] false (fun v Δ => v = .int .i64 r ∧ Δ = []) := by
 refine Does.body (vs := [.slice Aa2 l1.length c3]) Try.func38 rfl ⟨.inl rfl, trivial⟩ trivial fun w S => ?_
 unfold lag_Check.f at H0
 refine J.sr ?_
 refine JL.as (.int .i64 0) ?_
 refine JL.es [(0, .slice Aa2 l1.length c3)] ?_
 refine J.seq ?_
 refine J.sr ?_
 refine JL.mv (.slice Aa2 l1.length c3) ?_
 refine JL.pur (.int .i64 (l1.length : Int)) (some 5) ?_
 refine JL.pur (.bool (decide (511 < (l1.length : Int)))) (some 6) ?_
 refine JL.es [(0, .slice Aa2 l1.length c3), (6, .bool (decide (511 < (l1.length : Int))))] ?_
 rcases ite_cases H0 with ⟨h5, H0⟩ | ⟨h5, H0⟩
 · refine J.cond_true h5 ?_
   refine J.sr ?_
   refine JL.as (.int .i64 4) ?_
   refine JL.es [(2, .int .i64 4)] ?_
   refine JQ.mask [] [false] ?_
   refine J.ret ?_
   refine JQ.then_ret ?_
   obtain rfl := Option.some.inj H0
   exact JQ.done' (rs := [.tmp 2]) (vs := [.int .i64 4]) [] (.inr rfl) ⟨by kernel_rfl, trivial⟩ (fun _ h => Heap.to h) ⟨rfl, rfl⟩
 · refine J.cond_false h5 ?_
   refine J.skip ?_
   refine JQ.ts [(0, .slice Aa2 l1.length c3)] ?_
   refine J.sr ?_
   refine JL.as (.func (.func 54) #[] #[]) ?_
   refine JL.en ?_
   refine J.seq ?_
   refine J.join (T := Bool) (G := Unit) (fun t => lag_Check.k1 t = some r) (fun t g => [(15, .bool t)]) (fun t g => []) ?_ ?_
   · refine J.region ?_
     refine JL.mv (.slice Aa2 l1.length c3) ?_
     refine JL.pur (.int .i64 (l1.length : Int)) (some 8) ?_
     refine JL.pur (.int .i64 (Int.tmod (l1.length : Int) 2)) (some 9) ?_
     refine JL.pur (.bool (decide (Int.tmod (l1.length : Int) 2 = 0))) (some 10) ?_
     refine JL.mv (.bool (decide (Int.tmod (l1.length : Int) 2 = 0))) ?_
     rcases ite_cases H0 with ⟨h11, H0⟩ | ⟨h11, H0⟩
     · refine JL.off 4 11 false (some 12) h11 ?_
       refine JL.off 4 11 false (some 13) h11 ?_
       refine JL.off 4 11 false (some 14) h11 ?_
       refine JL.val (.bool true) (some 15) (gives_pickT h11) ?_
       refine JL.en ?_
       exact JQ.meet true () H0 (fun _ h => Heap.to (Heap.pick [] (by decide) h))
     · refine JL.on 4 11 h11 ?_
       refine JL.mv (.slice Aa2 l1.length c3) ?_
       refine JL.on 4 11 h11 ?_
       refine JL.mv (.func (.func 54) #[] #[]) ?_
       refine JL.on 4 11 h11 ?_
       obtain ⟨t12, hc13, H0⟩ := bind_some H0
       refine JL.call [] [] [] (slices_ContainsFunc__api_Lag_api_Lag__lag_Check_1.ok l1 Aa2 c3 _ hc13) ⟨pre_any 0 (view_rd Aa2 c3 fl_Lag.kd l1 true true), trivial⟩ ?_
       rintro _ _ ⟨rfl, rfl⟩
       refine JL.val (.bool t12) (some 15) (gives_pickF h11) ?_
       refine JL.en ?_
       exact JQ.meet t12 () H0 (fun _ h => Heap.to (Heap.pick [] (by decide) h))
   · clear H0
     rintro x9 ⟨⟩ H0
     replace H0 : lag_Check.k1 x9 = some r := H0
     unfold lag_Check.k1 at H0
     refine JQ.sub [(15, .bool x9)] ?_
     refine JQ.turn (Δ' := []) (fun _ h => h.to) ?_
     rcases ite_cases H0 with ⟨h10, H0⟩ | ⟨h10, H0⟩
     · refine J.cond_true h10 ?_
       refine J.sr ?_
       refine JL.as (.int .i64 8) ?_
       refine JL.es [(2, .int .i64 8)] ?_
       refine J.ret ?_
       refine JQ.then_ret ?_
       obtain rfl := Option.some.inj H0
       exact JQ.done' (rs := [.tmp 2]) (vs := [.int .i64 8]) [] (.inr rfl) ⟨by kernel_rfl, trivial⟩ (fun _ h => Heap.to h) ⟨rfl, rfl⟩
     · refine J.cond_false h10 ?_
       refine J.skip ?_
       refine JQ.ts [] ?_
       refine J.sr ?_
       refine JL.as (.int .i64 0) ?_
       refine JL.en ?_
       refine J.ret ?_
       obtain rfl := Option.some.inj H0
       exact JQ.done' (rs := [.tmp 2]) (vs := [.int .i64 0]) [] (.inr rfl) ⟨by kernel_rfl, trivial⟩ (fun _ h => Heap.to h) ⟨rfl, rfl⟩

theorem accum_of.ok (n1 : Int) (r : Wide) (H0 : accum_of.f n1 = some r) :
    Does Try.prog 39 [.int .i64 n1].toArray [] [] false (fun v Δ => v = mv_74 r ∧ Δ = []) := by
 refine Does.body (vs := [.int .i64 n1]) Try.func39 rfl trivial trivial fun w S => ?_
 unfold accum_of.f at H0
 refine J.sr ?_
 refine JL.alloc (cl_74 zv_74) fun b2 => ?_
 refine JL.en ?_
 refine J.sr ?_
 refine JL.mv (.int .i64 n1) ?_
 refine JL.pur (.int .i64 (w64 (Int.tdiv n1 1000000000))) (some 6) ?_
 refine JL.mv (.int .i64 n1) ?_
 refine JL.pur (.int .i64 (Int.tmod n1 1000000000)) (some 8) ?_
 obtain ⟨hi3, ehi3, H0⟩ := lt_some H0
 refine JL.as' (k := .i64) hi3 ehi3 ?_
 obtain ⟨lo4, elo4, H0⟩ := lt_some H0
 refine JL.as' (k := .i64) lo4 elo4 ?_
 refine JL.es [(2, .pointer (some ⟨b2, 0, none⟩)), (3, .int .i64 hi3), (4, .int .i64 lo4)] ?_
 refine J.join (T := (Int × Int)) (G := Unit) (fun t => accum_of.k1 t.1 t.2 = some r) (fun t g => [(2, .pointer (some ⟨b2, 0, none⟩)), (3, .int .i64 t.1), (4, .int .i64 t.2)]) (fun t g => [At.box b2 74 (cl_74 zv_74)]) ?_ ?_
 · refine J.sr ?_
   refine JL.mv (.int .i64 lo4) ?_
   refine JL.pur (.bool (decide (lo4 < 0))) (some 10) ?_
   refine JL.es [(2, .pointer (some ⟨b2, 0, none⟩)), (3, .int .i64 hi3), (4, .int .i64 lo4), (10, .bool (decide (lo4 < 0)))] ?_
   rcases ite_cases H0 with ⟨h9, H0⟩ | ⟨h9, H0⟩
   · refine J.cond_true h9 ?_
     refine J.region ?_
     refine JL.mv (.int .i64 hi3) ?_
     refine JL.pur (.int .i64 (w64 (hi3 - 1))) (some 12) ?_
     refine JL.mv (.int .i64 lo4) ?_
     refine JL.pur (.int .i64 (w64 (lo4 + 1000000000))) (some 14) ?_
     refine JL.as (.int .i64 (w64 (hi3 - 1))) ?_
     obtain ⟨lo10, elo10, H0⟩ := lt_some H0
     refine JL.as' (k := .i64) lo10 elo10 ?_
     refine JL.en ?_
     exact JQ.meet (w64 (hi3 - 1), lo10) () H0 (fun _ h => Heap.to h)
   · refine J.cond_false h9 ?_
     refine J.skip ?_
     refine JQ.then_normal ?_
     exact JQ.meet (hi3, lo4) () H0 (fun _ h => Heap.to h)
 · clear H0
   rintro ⟨hi7, lo8⟩ ⟨⟩ H0
   replace H0 : accum_of.k1 hi7 lo8 = some r := H0
   unfold accum_of.k1 at H0
   refine JQ.sub [(2, .pointer (some ⟨b2, 0, none⟩)), (3, .int .i64 hi7), (4, .int .i64 lo8)] ?_
   refine JQ.turn (Δ' := [At.box b2 74 (cl_74 zv_74)]) (fun _ h => h.to) ?_
   refine J.sr ?_
   refine JL.mv (.int .i64 hi7) ?_
   refine JL.mv (.int .i64 lo8) ?_
   refine JL.pur (.agg #[.int .i64 hi7, .int .i64 lo8]) (some 17) ?_
   refine JL.pur (.agg #[.int .i64 hi7, .int .i64 lo8]) (some 18) ?_
   refine JL.store 0 b2 0 74 (cl_74 zv_74) [.int .i64 hi7, .int .i64 lo8] tySize_74 ?_
   refine JL.es [(2, .pointer (some ⟨b2, 0, none⟩))] ?_
   refine J.ret ?_
   obtain rfl := Option.some.inj H0
   exact JQ.done' (rs := [.cell 2 74]) (vs := [.agg #[.int .i64 hi7, .int .i64 lo8]]) [] (.inr rfl) ⟨⟨b2, 0, _, _, by kernel_rfl, by kernel_rfl, holds_box b2 74 [.int .i64 hi7, .int .i64 lo8], .inl ⟨tyAgg_74, tySize_74, rfl⟩⟩, trivial⟩ (fun _ h => Heap.to (Heap.pick [] (by decide) h)) ⟨rfl, rfl⟩

theorem slices_Grow__api_Gap_api_Gap__nil.ok (n1 : Int) (r : (List Gap)) (H0 : slices_Grow__api_Gap_api_Gap__nil.f n1 = some r) :
    Does Try.prog 63 [.slice none 0 0, .int .i64 n1].toArray [] [] false (fun v Δ => ∃ A1001 : Option Addr, ∃ c1001 : Nat, v = .slice A1001 r.length c1001 ∧ Δ = [At.row A1001 c1001 51 fl_Gap.kd r false]) := by
 refine Does.body (vs := [.slice none 0 0, .int .i64 n1]) Try.func63 rfl trivial trivial fun w S => ?_
 unfold slices_Grow__api_Gap_api_Gap__nil.f at H0
 refine J.sr ?_
 refine JL.as (.slice none 0 0) ?_
 refine JL.es [(0, .slice none 0 0), (1, .int .i64 n1)] ?_
 refine J.seq ?_
 refine J.sr ?_
 refine JL.mv (.int .i64 n1) ?_
 refine JL.pur (.bool (decide (n1 < 0))) (some 6) ?_
 refine JL.es [(0, .slice none 0 0), (1, .int .i64 n1), (6, .bool (decide (n1 < 0)))] ?_
 rcases ite_cases H0 with ⟨h3, H0⟩ | ⟨h3, H0⟩
 · refine J.cond_true h3 ?_
   refine J.region ?_
   cases H0
 · refine J.cond_false h3 ?_
   refine J.skip ?_
   refine JQ.ts [(0, .slice none 0 0), (1, .int .i64 n1)] ?_
   refine J.seq ?_
   refine J.sr ?_
   refine JL.mv (.int .i64 n1) ?_
   refine JL.mv (.slice none 0 0) ?_
   refine JL.pur (.int .i64 0) (some 10) ?_
   refine JL.mv (.slice none 0 0) ?_
   refine JL.pur (.int .i64 0) (some 12) ?_
   refine JL.pur (.int .i64 0) (some 13) ?_
   refine JL.pur (.int .i64 (w64 (n1 - 0))) (some 14) ?_
   refine JL.as (.int .i64 (w64 (n1 - 0))) ?_
   refine JL.es [(0, .slice none 0 0), (1, .int .i64 (w64 (n1 - 0)))] ?_
   refine J.sr ?_
   refine JL.mv (.int .i64 (w64 (n1 - 0))) ?_
   refine JL.pur (.bool (decide (0 < w64 (n1 - 0)))) (some 16) ?_
   refine JL.es [(0, .slice none 0 0), (1, .int .i64 (w64 (n1 - 0))), (16, .bool (decide (0 < w64 (n1 - 0))))] ?_
   rcases ite_cases H0 with ⟨h4, H0⟩ | ⟨h4, H0⟩
   · refine J.cond_true h4 ?_
     refine J.region ?_
     refine JL.mv (.slice none 0 0) ?_
     refine JL.mv (.slice none 0 0) ?_
     refine JL.pur (.int .i64 0) (some 19) ?_
     refine JL.pur (.slice none 0 0) (some 20) ?_
     refine JL.mv (.int .i64 (w64 (n1 - 0))) ?_
     obtain ⟨⟨h8, h9⟩, H0⟩ := ite_must H0
     refine JL.appendZeros .i64 .i64 51 fl_Gap.kd ((⟨0, 0⟩ : Gap) : Gap) (w64 (n1 - 0)) Try.underlying23 Try.underlying3 info_51 (fun _ _ => rfl) h8 (by omega) (by omega) fun Aa5 c6 => ?_
     refine JL.mv (.slice none 0 0) ?_
     refine JL.pur (.int .i64 0) (some 24) ?_
     obtain ⟨⟨h10, h11⟩, H0⟩ := ite_must H0
     refine JL.cutOwn .i64 0 0 Aa5 c6 51 fl_Gap.kd (List.replicate (w64 (n1 - 0)).toNat ((⟨0, 0⟩ : Gap) : Gap)) false Try.underlying23 tySize_51 h10 h11 ?_
     refine JL.as (.slice Aa5 ((List.replicate (w64 (n1 - 0)).toNat ((⟨0, 0⟩ : Gap) : Gap)).take (0 : Int).toNat).length c6) ?_
     refine JL.es [(0, .slice Aa5 ((List.replicate (w64 (n1 - 0)).toNat ((⟨0, 0⟩ : Gap) : Gap)).take (0 : Int).toNat).length c6)] ?_
     refine J.sr ?_
     refine JL.mv (.slice Aa5 ((List.replicate (w64 (n1 - 0)).toNat ((⟨0, 0⟩ : Gap) : Gap)).take (0 : Int).toNat).length c6) ?_
     refine JL.as (.slice Aa5 ((List.replicate (w64 (n1 - 0)).toNat ((⟨0, 0⟩ : Gap) : Gap)).take (0 : Int).toNat).length c6) ?_
     refine JL.es [(4, .slice Aa5 ((List.replicate (w64 (n1 - 0)).toNat ((⟨0, 0⟩ : Gap) : Gap)).take (0 : Int).toNat).length c6)] ?_
     refine J.ret ?_
     obtain rfl := Option.some.inj H0
     exact JQ.done' (rs := [.tmp 4]) (vs := [.slice Aa5 ((List.replicate (w64 (n1 - 0)).toNat ((⟨0, 0⟩ : Gap) : Gap)).take (0 : Int).toNat).length c6]) [At.row Aa5 c6 51 fl_Gap.kd ((List.replicate (w64 (n1 - 0)).toNat ((⟨0, 0⟩ : Gap) : Gap)).take (0 : Int).toNat) false] (.inr rfl) ⟨by kernel_rfl, trivial⟩ (fun _ h => Heap.to h) ⟨Aa5, c6, rfl, rfl⟩
   · refine J.cond_false h4 ?_
     refine J.skip ?_
     refine JQ.ts [(0, .slice none 0 0)] ?_
     refine J.sr ?_
     refine JL.mv (.slice none 0 0) ?_
     refine JL.as (.slice none 0 0) ?_
     refine JL.es [(4, .slice none 0 0)] ?_
     refine J.ret ?_
     obtain rfl := Option.some.inj H0
     exact JQ.done' (rs := [.tmp 4]) (vs := [.slice none 0 0]) [At.row none 0 51 fl_Gap.kd ([] : List Gap) false] (.inr rfl) ⟨by kernel_rfl, trivial⟩ (fun _ h => Heap.to (Heap.addRow0 (α := Gap) 51 fl_Gap.kd false h)) ⟨none, 0, rfl, rfl⟩

theorem slices_Concat__api_Gap_api_Gap.ok (slices1 : (List (List Gap))) (Aa2 : Option Addr) (c3 : Nat) (r : (List Gap)) (H0 : slices_Concat__api_Gap_api_Gap.f slices1 = some r) :
    Does Try.prog 57 [.slice Aa2 slices1.length c3].toArray [At.rd Aa2 c3 fl_Gap.kd.sl slices1 true] [] false (fun v Δ => ∃ A1001 : Option Addr, ∃ c1001 : Nat, v = .slice A1001 r.length c1001 ∧ Δ = [At.row A1001 c1001 51 fl_Gap.kd r false]) := by
 refine Does.body (vs := [.slice Aa2 slices1.length c3]) Try.func57 rfl ⟨.inl rfl, trivial⟩ trivial fun w S => ?_
 unfold slices_Concat__api_Gap_api_Gap.f at H0
 refine J.sr ?_
 refine JL.as (.slice none 0 0) ?_
 refine JL.es [(0, .slice Aa2 slices1.length c3)] ?_
 refine J.sr ?_
 refine JL.as (.int .i64 0) ?_
 refine JL.en ?_
 refine J.seq ?_
 refine J.sr ?_
 refine JL.mv (.slice Aa2 slices1.length c3) ?_
 refine JL.pur (.int .i64 (slices1.length : Int)) (some 10) ?_
 refine JL.mv (.int .i64 0) ?_
 refine JL.en ?_
 obtain ⟨o1, hit, H0⟩ := bind_some H0
 refine J.loop (σ := (Int × Int)) (τ := Int) (G := Unit) (G' := Unit) _ o1 (fun s g => [(0, .slice Aa2 slices1.length c3), (3, .int .i64 s.1), (9, .slice Aa2 slices1.length c3), (10, .int .i64 (slices1.length : Int)), (11, .int .i64 s.2)]) (fun s g => [At.rd Aa2 c3 fl_Gap.kd.sl slices1 true]) (fun t => slices_Concat__api_Gap_api_Gap.k2 slices1 t = some r) (fun t g => [(0, .slice Aa2 slices1.length c3), (3, .int .i64 t)]) (fun t g => [At.rd Aa2 c3 fl_Gap.kd.sl slices1 true]) (0, 0) () hit (fun _ h => Heap.to h) ?_ ?_
 · clear hit
   rintro ⟨size47, x48⟩ ⟨⟩ st1 H1 hb1 hr1
   replace H1 : slices_Concat__api_Gap_api_Gap.s1 slices1 size47 x48 = some st1 := H1
   unfold slices_Concat__api_Gap_api_Gap.s1 at H1
   refine JQ.sub [(0, .slice Aa2 slices1.length c3), (3, .int .i64 size47), (9, .slice Aa2 slices1.length c3), (10, .int .i64 (slices1.length : Int)), (11, .int .i64 x48)] ?_
   refine JQ.turn (Δ' := [At.rd Aa2 c3 fl_Gap.kd.sl slices1 true]) (fun _ h => h.to) ?_
   refine J.sr ?_
   refine JL.pur (.bool (decide (x48 < (slices1.length : Int)))) (some 12) ?_
   refine JL.en ?_
   refine J.seq ?_
   rcases ite_cases H1 with ⟨h137, H1⟩ | ⟨h137, H1⟩
   · refine J.cond_true h137 ?_
     refine J.skip ?_
     refine JQ.ts [(0, .slice Aa2 slices1.length c3), (3, .int .i64 size47), (9, .slice Aa2 slices1.length c3), (10, .int .i64 (slices1.length : Int)), (11, .int .i64 x48)] ?_
     refine J.seq ?_
     refine J.block ?_
     refine J.sr ?_
     obtain ⟨⟨h147, h148⟩, H1⟩ := ite_must H1
     refine JL.ixAddr 0 1 c3 .i64 (elems_rd Aa2 c3 fl_Gap.kd.sl slices1 true) Try.underlying109 tySize_23 h147 h148 fun g149 o150 hA => ?_
     subst hA
     refine JL.loadEl (fun q : Option Addr × Nat => [.slice q.1 (ix slices1 x48).length q.2]) (fun q : Option Addr × Nat => [At.rd q.1 q.2 fl_Gap.kd (ix slices1 x48) true]) (fun q : Option Addr × Nat => .slice q.1 (ix slices1 x48).length q.2) (off := 0) 0 (elems_rd (some ⟨g149, o150, none⟩) c3 fl_Gap.kd.sl slices1 true) (opens_sl fl_Gap.kd _ _) h147 h148 tySize_23 (.inr ⟨tyAgg_23, rfl, fun _ => rfl⟩) ?_
     rintro ⟨Aa151, c152⟩
     refine JL.as (.slice Aa151 (ix slices1 x48).length c152) ?_
     refine JL.es [(0, .slice (some ⟨g149, o150, none⟩) slices1.length c3), (3, .int .i64 size47), (5, .slice Aa151 (ix slices1 x48).length c152), (9, .slice (some ⟨g149, o150, none⟩) slices1.length c3), (10, .int .i64 (slices1.length : Int)), (11, .int .i64 x48)] ?_
     refine J.sr ?_
     refine JL.mv (.int .i64 size47) ?_
     refine JL.mv (.slice Aa151 (ix slices1 x48).length c152) ?_
     refine JL.pur (.int .i64 ((ix slices1 x48).length : Int)) (some 17) ?_
     refine JL.pur (.int .i64 (w64 (size47 + ((ix slices1 x48).length : Int)))) (some 18) ?_
     obtain ⟨size154, esize154, H1⟩ := lt_some H1
     refine JL.as' (k := .i64) size154 esize154 ?_
     refine JL.es [(0, .slice (some ⟨g149, o150, none⟩) slices1.length c3), (3, .int .i64 size154), (9, .slice (some ⟨g149, o150, none⟩) slices1.length c3), (10, .int .i64 (slices1.length : Int)), (11, .int .i64 x48)] ?_
     refine JQ.mask [At.rd (some ⟨g149, o150, none⟩) c3 fl_Gap.kd.sl slices1 true] [true, false] ?_
     refine J.sr ?_
     refine JL.mv (.int .i64 size154) ?_
     refine JL.pur (.bool (decide (size154 < 0))) (some 20) ?_
     refine JL.es [(0, .slice (some ⟨g149, o150, none⟩) slices1.length c3), (3, .int .i64 size154), (9, .slice (some ⟨g149, o150, none⟩) slices1.length c3), (10, .int .i64 (slices1.length : Int)), (11, .int .i64 x48), (20, .bool (decide (size154 < 0)))] ?_
     rcases ite_cases H1 with ⟨h155, H1⟩ | ⟨h155, H1⟩
     · refine J.cond_true h155 ?_
       refine J.region ?_
       cases H1
     · refine J.cond_false h155 ?_
       refine J.skip ?_
       refine JQ.blk_normal ?_
       refine JQ.ts [(0, .slice (some ⟨g149, o150, none⟩) slices1.length c3), (3, .int .i64 size154), (9, .slice (some ⟨g149, o150, none⟩) slices1.length c3), (10, .int .i64 (slices1.length : Int)), (11, .int .i64 x48)] ?_
       refine J.region ?_
       refine JL.pur (.int .i64 (w64 (x48 + 1))) (some 22) ?_
       refine JL.mv (.int .i64 (w64 (x48 + 1))) ?_
       refine JL.en ?_
       exact JQ.again (size154, w64 (x48 + 1)) () (Option.some.inj H1).symm (fun _ h => Heap.to h)
   · refine J.cond_false h137 ?_
     refine J.exit ?_
     refine JQ.then_exit ?_
     refine JQ.then_exit ?_
     refine JQ.blk_exit ?_
     rw [hb1 _ (Option.some.inj H1).symm, fin_brk] at H0
     exact JQ.met size47 () H0 (fun _ h => Heap.to h)
 · clear hit H0
   rintro size68 ⟨⟩ H0
   replace H0 : slices_Concat__api_Gap_api_Gap.k2 slices1 size68 = some r := H0
   unfold slices_Concat__api_Gap_api_Gap.k2 at H0
   refine JQ.sub [(0, .slice Aa2 slices1.length c3), (3, .int .i64 size68)] ?_
   refine JQ.turn (Δ' := [At.rd Aa2 c3 fl_Gap.kd.sl slices1 true]) (fun _ h => h.to) ?_
   refine JQ.then_normal ?_
   refine J.sr ?_
   refine JL.mv (.int .i64 size68) ?_
   obtain ⟨t69, hc70, H0⟩ := bind_some H0
   refine JL.call [] [] [] (slices_Grow__api_Gap_api_Gap__nil.ok size68 _ hc70) trivial ?_
   rintro _ _ ⟨Aa71, c72, rfl, rfl⟩
   refine JL.as (.slice Aa71 t69.length c72) ?_
   refine JL.es [(0, .slice Aa2 slices1.length c3), (6, .slice Aa71 t69.length c72)] ?_
   refine J.seq ?_
   refine J.sr ?_
   refine JL.mv (.slice Aa2 slices1.length c3) ?_
   refine JL.pur (.int .i64 (slices1.length : Int)) (some 26) ?_
   refine JL.mv (.int .i64 0) ?_
   refine JL.es [(6, .slice Aa71 t69.length c72), (25, .slice Aa2 slices1.length c3), (26, .int .i64 (slices1.length : Int)), (27, .int .i64 0)] ?_
   obtain ⟨o1, hit, H0⟩ := bind_some H0
   refine J.loop (σ := ((List Gap) × Int)) (τ := List Gap) (G := ((Option Addr) × Nat)) (G' := ((Option Addr) × Nat)) _ o1 (fun s g => [(6, .slice g.1 s.1.length g.2), (25, .slice Aa2 slices1.length c3), (26, .int .i64 (slices1.length : Int)), (27, .int .i64 s.2)]) (fun s g => [At.row g.1 g.2 51 fl_Gap.kd s.1 false, At.rd Aa2 c3 fl_Gap.kd.sl slices1 true]) (fun t => slices_Concat__api_Gap_api_Gap.k4 t = some r) (fun t g => [(6, .slice g.1 t.length g.2)]) (fun t g => [At.row g.1 g.2 51 fl_Gap.kd t false]) (t69, 0) (Aa71, c72) hit (fun _ h => Heap.to (Heap.pick [1, 0] (by decide) h)) ?_ ?_
   · clear hit
     rintro ⟨newslice106, x110⟩ ⟨Aa107, c108⟩ st1 H1 hb1 hr1
     replace H1 : slices_Concat__api_Gap_api_Gap.s3 slices1 newslice106 x110 = some st1 := H1
     unfold slices_Concat__api_Gap_api_Gap.s3 at H1
     refine JQ.sub [(6, .slice Aa107 newslice106.length c108), (25, .slice Aa2 slices1.length c3), (26, .int .i64 (slices1.length : Int)), (27, .int .i64 x110)] ?_
     refine JQ.turn (Δ' := [At.row Aa107 c108 51 fl_Gap.kd newslice106 false, At.rd Aa2 c3 fl_Gap.kd.sl slices1 true]) (fun _ h => h.to) ?_
     refine J.sr ?_
     refine JL.pur (.bool (decide (x110 < (slices1.length : Int)))) (some 28) ?_
     refine JL.en ?_
     refine J.seq ?_
     rcases ite_cases H1 with ⟨h126, H1⟩ | ⟨h126, H1⟩
     · refine J.cond_true h126 ?_
       refine J.skip ?_
       refine JQ.ts [(6, .slice Aa107 newslice106.length c108), (25, .slice Aa2 slices1.length c3), (26, .int .i64 (slices1.length : Int)), (27, .int .i64 x110)] ?_
       refine J.seq ?_
       refine J.block ?_
       refine J.sr ?_
       obtain ⟨⟨h127, h128⟩, H1⟩ := ite_must H1
       refine JL.ixAddr 1 1 c3 .i64 (elems_rd Aa2 c3 fl_Gap.kd.sl slices1 true) Try.underlying109 tySize_23 h127 h128 fun g129 o130 hA => ?_
       subst hA
       refine JL.loadEl (fun q : Option Addr × Nat => [.slice q.1 (ix slices1 x110).length q.2]) (fun q : Option Addr × Nat => [At.rd q.1 q.2 fl_Gap.kd (ix slices1 x110) true]) (fun q : Option Addr × Nat => .slice q.1 (ix slices1 x110).length q.2) (off := 0) 1 (elems_rd (some ⟨g129, o130, none⟩) c3 fl_Gap.kd.sl slices1 true) (opens_sl fl_Gap.kd _ _) h127 h128 tySize_23 (.inr ⟨tyAgg_23, rfl, fun _ => rfl⟩) ?_
       rintro ⟨Aa131, c132⟩
       refine JL.as (.slice Aa131 (ix slices1 x110).length c132) ?_
       refine JL.es [(6, .slice Aa107 newslice106.length c108), (8, .slice Aa131 (ix slices1 x110).length c132), (25, .slice (some ⟨g129, o130, none⟩) slices1.length c3), (26, .int .i64 (slices1.length : Int)), (27, .int .i64 x110)] ?_
       refine J.region ?_
       refine JL.mv (.slice Aa107 newslice106.length c108) ?_
       refine JL.mv (.slice Aa131 (ix slices1 x110).length c132) ?_
       obtain ⟨h136, H1⟩ := ite_must H1
       refine JL.append false false 0 2 Aa107 c108 c132 newslice106 (elems_rd Aa131 c132 fl_Gap.kd (ix slices1 x110) true) Try.underlying23 info_51 (by omega) (by omega) (fun h => h) (.inr ⟨_, rfl⟩) fun Aa134 c135 => ?_
       refine JL.as (.slice Aa134 (newslice106 ++ (ix slices1 x110)).length c135) ?_
       refine JL.end_ ?_
       refine JQ.blk_normal ?_
       refine JQ.ts [(6, .slice Aa134 (newslice106 ++ (ix slices1 x110)).length c135), (25, .slice (some ⟨g129, o130, none⟩) slices1.length c3), (26, .int .i64 (slices1.length : Int)), (27, .int .i64 x110)] ?_
       refine JQ.mask [At.row Aa134 c135 51 fl_Gap.kd (newslice106 ++ (ix slices1 x110)) false, At.rd (some ⟨g129, o130, none⟩) c3 fl_Gap.kd.sl slices1 true] [true, true, false] ?_
       refine J.region ?_
       refine JL.pur (.int .i64 (w64 (x110 + 1))) (some 34) ?_
       refine JL.mv (.int .i64 (w64 (x110 + 1))) ?_
       refine JL.en ?_
       exact JQ.again ((newslice106 ++ (ix slices1 x110)), w64 (x110 + 1)) (Aa134, c135) (Option.some.inj H1).symm (fun _ h => Heap.to h)
     · refine J.cond_false h126 ?_
       refine J.exit ?_
       refine JQ.then_exit ?_
       refine JQ.then_exit ?_
       refine JQ.blk_exit ?_
       rw [hb1 _ (Option.some.inj H1).symm, fin_brk] at H0
       exact JQ.met newslice106 (Aa107, c108) H0 (fun _ h => Heap.to (Heap.pick [0] (by decide) h))
   · clear hit H0
     rintro newslice122 ⟨Aa123, c124⟩ H0
     replace H0 : slices_Concat__api_Gap_api_Gap.k4 newslice122 = some r := H0
     unfold slices_Concat__api_Gap_api_Gap.k4 at H0
     refine JQ.sub [(6, .slice Aa123 newslice122.length c124)] ?_
     refine JQ.turn (Δ' := [At.row Aa123 c124 51 fl_Gap.kd newslice122 false]) (fun _ h => h.to) ?_
     refine JQ.then_normal ?_
     refine J.sr ?_
     refine JL.mv (.slice Aa123 newslice122.length c124) ?_
     refine JL.as (.slice Aa123 newslice122.length c124) ?_
     refine JL.es [(2, .slice Aa123 newslice122.length c124)] ?_
     refine J.ret ?_
     obtain rfl := Option.some.inj H0
     exact JQ.done' (rs := [.tmp 2]) (vs := [.slice Aa123 newslice122.length c124]) [At.row Aa123 c124 51 fl_Gap.kd newslice122 false] (.inr rfl) ⟨by kernel_rfl, trivial⟩ (fun _ h => Heap.to h) ⟨Aa123, c124, rfl, rfl⟩

theorem cmp_isNaN__int.ok (x1 : Int) (r : Bool) (H0 : cmp_isNaN__int.f x1 = some r) :
    Does Try.prog 66 [.int .i64 x1].toArray [] [] false (fun v Δ => v = .bool r ∧ Δ = []) := by
 refine Does.body (vs := [.int .i64 x1]) Try.func66 rfl trivial trivial fun w S => ?_
 unfold cmp_isNaN__int.f at H0
 refine J.sr ?_
 refine JL.as (.bool false) ?_
 refine JL.es [(0, .int .i64 x1)] ?_
 refine J.sr ?_
 refine JL.mv (.int .i64 x1) ?_
 refine JL.mv (.int .i64 x1) ?_
 refine JL.pur (.bool (!decide (x1 = x1))) (some 5) ?_
 refine JL.as (.bool (!decide (x1 = x1))) ?_
 refine JL.es [(2, .bool (!decide (x1 = x1)))] ?_
 refine J.ret ?_
 obtain rfl := Option.some.inj H0
 exact JQ.done' (rs := [.tmp 2]) (vs := [.bool (!decide (x1 = x1))]) [] (.inr rfl) ⟨by kernel_rfl, trivial⟩ (fun _ h => Heap.to h) ⟨rfl, rfl⟩

theorem cmp_Compare__int.ok (x1 : Int) (y2 : Int) (r : Int) (H0 : cmp_Compare__int.f x1 y2 = some r) :
    Does Try.prog 60 [.int .i64 x1, .int .i64 y2].toArray [] [] false (fun v Δ => v = .int .i64 r ∧ Δ = []) := by
 refine Does.body (vs := [.int .i64 x1, .int .i64 y2]) Try.func60 rfl trivial trivial fun w S => ?_
 unfold cmp_Compare__int.f at H0
 refine J.sr ?_
 refine JL.as (.int .i64 0) ?_
 refine JL.es [(0, .int .i64 x1), (1, .int .i64 y2)] ?_
 refine J.sr ?_
 refine JL.mv (.int .i64 x1) ?_
 obtain ⟨t3, hc4, H0⟩ := bind_some H0
 refine JL.call [] [] [] (cmp_isNaN__int.ok x1 _ hc4) trivial ?_
 rintro _ _ ⟨rfl, rfl⟩
 refine JL.as (.bool t3) ?_
 refine JL.es [(0, .int .i64 x1), (1, .int .i64 y2), (5, .bool t3)] ?_
 refine J.sr ?_
 refine JL.mv (.int .i64 y2) ?_
 obtain ⟨t5, hc6, H0⟩ := bind_some H0
 refine JL.call [] [] [] (cmp_isNaN__int.ok y2 _ hc6) trivial ?_
 rintro _ _ ⟨rfl, rfl⟩
 refine JL.as (.bool t5) ?_
 refine JL.es [(0, .int .i64 x1), (1, .int .i64 y2), (5, .bool t3), (6, .bool t5)] ?_
 refine J.seq ?_
 refine J.sr ?_
 refine JL.mv (.bool t3) ?_
 refine JL.es [(0, .int .i64 x1), (1, .int .i64 y2), (6, .bool t5), (11, .bool t3)] ?_
 rcases ite_cases H0 with ⟨h7, H0⟩ | ⟨h7, H0⟩
 · refine J.cond_true h7 ?_
   refine J.seq ?_
   refine J.sr ?_
   refine JL.mv (.bool t5) ?_
   refine JL.es [(12, .bool t5)] ?_
   rcases ite_cases H0 with ⟨h8, H0⟩ | ⟨h8, H0⟩
   · refine J.cond_true h8 ?_
     refine J.sr ?_
     refine JL.as (.int .i64 0) ?_
     refine JL.es [(4, .int .i64 0)] ?_
     refine J.ret ?_
     refine JQ.then_ret ?_
     refine JQ.then_ret ?_
     obtain rfl := Option.some.inj H0
     exact JQ.done' (rs := [.tmp 4]) (vs := [.int .i64 0]) [] (.inr rfl) ⟨by kernel_rfl, trivial⟩ (fun _ h => Heap.to h) ⟨rfl, rfl⟩
   · refine J.cond_false h8 ?_
     refine J.skip ?_
     refine JQ.ts [] ?_
     refine J.sr ?_
     refine JL.as (.int .i64 (-1)) ?_
     refine JL.en ?_
     refine J.ret ?_
     refine JQ.then_ret ?_
     obtain rfl := Option.some.inj H0
     exact JQ.done' (rs := [.tmp 4]) (vs := [.int .i64 (-1)]) [] (.inr rfl) ⟨by kernel_rfl, trivial⟩ (fun _ h => Heap.to h) ⟨rfl, rfl⟩
 · refine J.cond_false h7 ?_
   refine J.skip ?_
   refine JQ.ts [(0, .int .i64 x1), (1, .int .i64 y2), (6, .bool t5)] ?_
   refine J.seq ?_
   refine J.sr ?_
   refine JL.mv (.bool t5) ?_
   refine JL.es [(0, .int .i64 x1), (1, .int .i64 y2), (13, .bool t5)] ?_
   rcases ite_cases H0 with ⟨h9, H0⟩ | ⟨h9, H0⟩
   · refine J.cond_true h9 ?_
     refine J.sr ?_
     refine JL.as (.int .i64 1) ?_
     refine JL.es [(4, .int .i64 1)] ?_
     refine J.ret ?_
     refine JQ.then_ret ?_
     obtain rfl := Option.some.inj H0
     exact JQ.done' (rs := [.tmp 4]) (vs := [.int .i64 1]) [] (.inr rfl) ⟨by kernel_rfl, trivial⟩ (fun _ h => Heap.to h) ⟨rfl, rfl⟩
   · refine J.cond_false h9 ?_
     refine J.skip ?_
     refine JQ.ts [(0, .int .i64 x1), (1, .int .i64 y2)] ?_
     refine J.seq ?_
     refine J.sr ?_
     refine JL.mv (.int .i64 x1) ?_
     refine JL.mv (.int .i64 y2) ?_
     refine JL.pur (.bool (decide (x1 < y2))) (some 16) ?_
     refine JL.es [(0, .int .i64 x1), (1, .int .i64 y2), (16, .bool (decide (x1 < y2)))] ?_
     rcases ite_cases H0 with ⟨h10, H0⟩ | ⟨h10, H0⟩
     · refine J.cond_true h10 ?_
       refine J.sr ?_
       refine JL.as (.int .i64 (-1)) ?_
       refine JL.es [(4, .int .i64 (-1))] ?_
       refine J.ret ?_
       refine JQ.then_ret ?_
       obtain rfl := Option.some.inj H0
       exact JQ.done' (rs := [.tmp 4]) (vs := [.int .i64 (-1)]) [] (.inr rfl) ⟨by kernel_rfl, trivial⟩ (fun _ h => Heap.to h) ⟨rfl, rfl⟩
     · refine J.cond_false h10 ?_
       refine J.skip ?_
       refine JQ.ts [(0, .int .i64 x1), (1, .int .i64 y2)] ?_
       refine J.seq ?_
       refine J.sr ?_
       refine JL.mv (.int .i64 x1) ?_
       refine JL.mv (.int .i64 y2) ?_
       refine JL.pur (.bool (decide (y2 < x1))) (some 19) ?_
       refine JL.es [(19, .bool (decide (y2 < x1)))] ?_
       rcases ite_cases H0 with ⟨h11, H0⟩ | ⟨h11, H0⟩
       · refine J.cond_true h11 ?_
         refine J.sr ?_
         refine JL.as (.int .i64 1) ?_
         refine JL.es [(4, .int .i64 1)] ?_
         refine J.ret ?_
         refine JQ.then_ret ?_
         obtain rfl := Option.some.inj H0
         exact JQ.done' (rs := [.tmp 4]) (vs := [.int .i64 1]) [] (.inr rfl) ⟨by kernel_rfl, trivial⟩ (fun _ h => Heap.to h) ⟨rfl, rfl⟩
       · refine J.cond_false h11 ?_
         refine J.skip ?_
         refine JQ.ts [] ?_
         refine J.sr ?_
         refine JL.as (.int .i64 0) ?_
         refine JL.en ?_
         refine J.ret ?_
         obtain rfl := Option.some.inj H0
         exact JQ.done' (rs := [.tmp 4]) (vs := [.int .i64 0]) [] (.inr rfl) ⟨by kernel_rfl, trivial⟩ (fun _ h => Heap.to h) ⟨rfl, rfl⟩

theorem accum_join_1.ok (x1 : Gap) (y2 : Gap) (r : Int) (H0 : accum_join_1.f x1 y2 = some r) :
    Does Try.prog 59 [mv_51 x1, mv_51 y2].toArray [] [] false (fun v Δ => v = .int .i64 r ∧ Δ = []) := by
 refine Does.body (vs := [mv_51 x1, mv_51 y2]) Try.func59 rfl trivial trivial fun w S => ?_
 unfold accum_join_1.f at H0
 refine J.sr ?_
 refine JL.box (cl_51 x1) fun b3 => ?_
 refine JL.box (cl_51 y2) fun b4 => ?_
 refine JL.as (.int .i64 0) ?_
 refine JL.es [(2, .pointer (some ⟨b3, 0, none⟩)), (3, .pointer (some ⟨b4, 0, none⟩))] ?_
 refine J.sr ?_
 refine JL.pur (.pointer (some ⟨b3, 0, none⟩)) (some 5) ?_
 refine JL.val (.int .i64 x1.At) (some 6) (yields_load_box 0 0 (holds_box b3 51 (cl_51 x1)) tyAgg_3) ?_
 refine JL.pur (.pointer (some ⟨b4, 0, none⟩)) (some 7) ?_
 refine JL.val (.int .i64 y2.At) (some 8) (yields_load_box 1 0 (holds_box b4 51 (cl_51 y2)) tyAgg_3) ?_
 obtain ⟨t5, hc6, H0⟩ := bind_some H0
 refine JL.call [] [] [] (cmp_Compare__int.ok x1.At y2.At _ hc6) trivial ?_
 rintro _ _ ⟨rfl, rfl⟩
 refine JL.as (.int .i64 t5) ?_
 refine JL.es [(4, .int .i64 t5)] ?_
 refine JQ.mask [] [false, false] ?_
 refine J.ret ?_
 obtain rfl := Option.some.inj H0
 exact JQ.done' (rs := [.tmp 4]) (vs := [.int .i64 t5]) [] (.inr rfl) ⟨by kernel_rfl, trivial⟩ (fun _ h => Heap.to h) ⟨rfl, rfl⟩

theorem does_sort_58_59 (xs ys : List Gap) (A : Option Addr) (c : Nat) (h : xs.length ≤ 4611686018427387903) (hs : sortF pc_accum_join_1 cf_accum_join_1 xs = some ys) : Does Try.prog 58 [.slice A xs.length c, .func (.func 59) #[] #[]].toArray [] [At.row A c 51 fl_Gap.kd xs false] false (fun v Δ => v = .tuple #[] ∧ Δ = [At.row A c 51 fl_Gap.kd ys false]) :=
  does_sortF fl_Gap pc_accum_join_1 accum_join_1.f cf_accum_join_1 cmpM_accum_join_1 (fun β hI enc hk h1 cf hO blk off cap d w hc hH hb hs => by
      have := @Proofs.AnyQ.slices_SortFunc_eq _ _ β hI Try.sortF58 2 (gw_isAgg tyAgg_51) (gw_sizeOf tySize_51) enc hk h1 cf hO 59 #[] blk off cap d w (Proofs.enters_of Try.func59 (by kernel_rfl) rfl) hc hH hb hs
      exact this)
    (fun a cap w => Proofs.AnyF.slices_SortFunc_none Try.sortF58 a cap (.func (.func 59) #[] #[]) w)
    (fun x y r hr => accum_join_1.ok x y r hr) xs ys A c 51 h hs

theorem accum_join.ok (a1 : (List Gap)) (Aa2 : Option Addr) (c3 : Nat) (b5 : (List Gap)) (Aa6 : Option Addr) (c7 : Nat) (r : ((List Gap) × Int)) (H0 : accum_join.f a1 b5 = some r) :
    Does Try.prog 47 [.slice Aa2 a1.length c3, .slice Aa6 b5.length c7].toArray [At.rd Aa2 c3 fl_Gap.kd a1 true, At.rd Aa6 c7 fl_Gap.kd b5 true] [] false (fun v Δ => ∃ A1001 : Option Addr, ∃ c1001 : Nat, v = .tuple #[.slice A1001 r.1.length c1001, .int .i64 r.2] ∧ Δ = [At.row A1001 c1001 51 fl_Gap.kd r.1 false]) := by
 refine Does.body (vs := [.slice Aa2 a1.length c3, .slice Aa6 b5.length c7]) Try.func47 rfl ⟨.inl rfl, .inl rfl, trivial⟩ trivial fun w S => ?_
 unfold accum_join.f at H0
 refine J.sr ?_
 refine JL.as (.slice none 0 0) ?_
 refine JL.as (.int .i64 0) ?_
 refine JL.es [(0, .slice Aa2 a1.length c3), (1, .slice Aa6 b5.length c7)] ?_
 refine J.sr ?_
 refine JL.mv (.slice Aa2 a1.length c3) ?_
 refine JL.mv (.slice Aa6 b5.length c7) ?_
 refine JL.buildSl 23 fl_Gap.kd.sl (([a1, b5] : List (List Gap)) : List (List Gap)) [.slice Aa2 a1.length c3, .slice Aa6 b5.length c7] true (closes_sl 0 true (fun h => h) (closes_sl 1 true (fun h => h) (closes_nil))) fun b9 => ?_
 obtain ⟨t10, hc11, H0⟩ := bind_some H0
 refine JL.call [] [] [] (slices_Concat__api_Gap_api_Gap.ok ([a1, b5] : List (List Gap)) (some ⟨b9, 0, none⟩) 2 _ hc11) ⟨pre_view 2 (view_row (some ⟨b9, 0, none⟩) 2 23 fl_Gap.kd.sl ([a1, b5] : List (List Gap)) true true), trivial⟩ ?_
 rintro _ _ ⟨Aa12, c13, rfl, rfl⟩
 refine JL.as (.slice Aa12 t10.length c13) ?_
 refine JL.es [(6, .slice Aa12 t10.length c13)] ?_
 refine JQ.mask [At.row Aa12 c13 51 fl_Gap.kd t10 false] [false, false, false, true] ?_
 refine J.sr ?_
 refine JL.mv (.slice Aa12 t10.length c13) ?_
 obtain ⟨h16, H0⟩ := ite_must H0
 obtain ⟨l15, hcl15, H0⟩ := bind_some H0
 refine JL.call [] [] [true] (does_sort_58_59 t10 l15 Aa12 c13 h16 hcl15) trivial ?_
 rintro _ _ ⟨rfl, rfl⟩
 have nl15 : t10.length = l15.length := sortF_length hcl15 cmpM_accum_join_1.self
 refine JQ.len (fun n : Nat => [(6, .slice Aa12 n c13), (15, .slice Aa12 n c13), (16, .tuple #[])]) nl15 ?_
 refine JQ.sub [(6, .slice Aa12 l15.length c13), (15, .slice Aa12 l15.length c13), (16, .tuple #[])] ?_
 refine JL.es [(6, .slice Aa12 l15.length c13)] ?_
 refine J.sr ?_
 refine JL.as (.slice none 0 0) ?_
 refine JL.en ?_
 refine J.seq ?_
 refine J.sr ?_
 refine JL.mv (.slice Aa12 l15.length c13) ?_
 refine JL.pur (.int .i64 (l15.length : Int)) (some 18) ?_
 refine JL.mv (.int .i64 0) ?_
 refine JL.es [(7, .slice none 0 0), (17, .slice Aa12 l15.length c13), (18, .int .i64 (l15.length : Int)), (19, .int .i64 0)] ?_
 obtain ⟨o1, hit, H0⟩ := bind_some H0
 refine J.loop (σ := ((List Gap) × Int)) (τ := List Gap) (G := ((Option Addr) × Nat × (Option Addr) × Nat)) (G' := ((Option Addr) × Nat)) _ o1 (fun s g => [(7, .slice g.1 s.1.length g.2.1), (17, .slice g.2.2.1 l15.length g.2.2.2), (18, .int .i64 (l15.length : Int)), (19, .int .i64 s.2)]) (fun s g => [At.row g.1 g.2.1 51 fl_Gap.kd s.1 false, At.row g.2.2.1 g.2.2.2 51 fl_Gap.kd l15 false]) (fun t => accum_join.k11 t = some r) (fun t g => [(7, .slice g.1 t.length g.2)]) (fun t g => [At.row g.1 g.2 51 fl_Gap.kd t false]) ([], 0) (none, 0, Aa12, c13) hit (fun _ h => Heap.to (Heap.pick [1, 0] (by decide) (Heap.addRow0 (α := Gap) 51 fl_Gap.kd false h))) ?_ ?_
 · clear hit
   rintro ⟨out267, x274⟩ ⟨Aa268, c269, Aa271, c272⟩ st1 H1 hb1 hr1
   replace H1 : accum_join.s10 l15 out267 x274 = some st1 := H1
   unfold accum_join.s10 at H1
   refine JQ.sub [(7, .slice Aa268 out267.length c269), (17, .slice Aa271 l15.length c272), (18, .int .i64 (l15.length : Int)), (19, .int .i64 x274)] ?_
   refine JQ.turn (Δ' := [At.row Aa268 c269 51 fl_Gap.kd out267 false, At.row Aa271 c272 51 fl_Gap.kd l15 false]) (fun _ h => h.to) ?_
   refine J.sr ?_
   refine JL.pur (.bool (decide (x274 < (l15.length : Int)))) (some 20) ?_
   refine JL.en ?_
   refine J.seq ?_
   rcases ite_cases H1 with ⟨h383, H1⟩ | ⟨h383, H1⟩
   · refine J.cond_true h383 ?_
     refine J.skip ?_
     refine JQ.ts [(7, .slice Aa268 out267.length c269), (17, .slice Aa271 l15.length c272), (18, .int .i64 (l15.length : Int)), (19, .int .i64 x274)] ?_
     refine J.join (T := List Gap) (G := ((Option Addr) × Nat × (Option Addr) × Nat)) (fun t => accum_join.k13 x274 t = some st1) (fun t g => [(7, .slice g.1 t.length g.2.1), (17, .slice g.2.2.1 l15.length g.2.2.2), (18, .int .i64 (l15.length : Int)), (19, .int .i64 x274)]) (fun t g => [At.row g.1 g.2.1 51 fl_Gap.kd t false, At.row g.2.2.1 g.2.2.2 51 fl_Gap.kd l15 false]) ?_ ?_
     · refine J.block ?_
       refine J.sr ?_
       obtain ⟨⟨h439, h440⟩, H1⟩ := ite_must H1
       refine JL.ixAddr 1 2 c272 .i64 (elems_row Aa271 c272 51 fl_Gap.kd l15 false) Try.underlying23 tySize_51 h439 h440 fun g441 o442 hA => ?_
       subst hA
       refine JL.val (mv_51 (ix l15 x274)) (some 22) (gives_loadEl (f := fl_Gap) 1 0 x274 (elems_row (some ⟨g441, o442, none⟩) c272 51 fl_Gap.kd l15 false) h439 h440 tySize_51 (.inl ⟨tyAgg_51, rfl⟩)) ?_
       refine JL.alloc (cl_51 zv_51) fun b443 => ?_
       refine JL.store 2 b443 0 51 (cl_51 zv_51) (cl_51 (ix l15 x274)) tySize_51 ?_
       refine JL.es [(7, .slice Aa268 out267.length c269), (9, .pointer (some ⟨b443, 0, none⟩)), (17, .slice (some ⟨g441, o442, none⟩) l15.length c272), (18, .int .i64 (l15.length : Int)), (19, .int .i64 x274)] ?_
       refine J.sr ?_
       refine JL.mv (.slice Aa268 out267.length c269) ?_
       refine JL.pur (.int .i64 (out267.length : Int)) (some 24) ?_
       obtain ⟨n444, en444, H1⟩ := lt_some H1
       refine JL.as' (k := .i64) n444 en444 ?_
       refine JL.es [(7, .slice Aa268 out267.length c269), (9, .pointer (some ⟨b443, 0, none⟩)), (10, .int .i64 n444), (17, .slice (some ⟨g441, o442, none⟩) l15.length c272), (18, .int .i64 (l15.length : Int)), (19, .int .i64 x274)] ?_
       refine J.seq ?_
       refine J.join (T := Bool) (G := Unit) (fun t => accum_join.k14 l15 out267 x274 n444 t = some st1) (fun t g => [(7, .slice Aa268 out267.length c269), (9, .pointer (some ⟨b443, 0, none⟩)), (10, .int .i64 n444), (17, .slice (some ⟨g441, o442, none⟩) l15.length c272), (18, .int .i64 (l15.length : Int)), (19, .int .i64 x274), (44, .bool t)]) (fun t g => [At.row Aa268 c269 51 fl_Gap.kd out267 false, At.box b443 51 (cl_51 (ix l15 x274)), At.row (some ⟨g441, o442, none⟩) c272 51 fl_Gap.kd l15 false]) ?_ ?_
       · refine J.draw ?_
         refine QL.mv (.int .i64 n444) ?_
         refine QL.pur (.bool (decide (n444 = 0))) (some 26) ?_
         refine QL.mv (.bool (decide (n444 = 0))) ?_
         rcases ite_cases H1 with ⟨h478, H1⟩ | ⟨h478, H1⟩
         · refine QL.off 2 27 false (some 28) h478 ?_
           refine QL.off 2 27 false (some 29) h478 ?_
           refine QL.off 2 27 false (some 30) h478 ?_
           refine QL.off 2 27 false (some 31) h478 ?_
           refine QL.off 2 27 false (some 32) h478 ?_
           refine QL.off 2 27 false (some 33) h478 ?_
           refine QL.off 2 27 false (some 34) h478 ?_
           refine QL.off 2 27 false (some 35) h478 ?_
           refine QL.off 2 27 false (some 36) h478 ?_
           refine QL.off 2 27 false (some 37) h478 ?_
           refine QL.off 2 27 false (some 38) h478 ?_
           refine QL.off 2 27 false (some 39) h478 ?_
           refine QL.off 2 27 false (some 40) h478 ?_
           refine QL.off 2 27 false (some 41) h478 ?_
           refine QL.off 2 27 false (some 42) h478 ?_
           refine QL.off 2 27 false (some 43) h478 ?_
           refine QL.val (.bool true) (some 44) (gives_pickT h478) ?_
           refine QL.nil ?_
           refine JA.nil ?_
           refine JQ.then_normal ?_
           exact JQ.meet true () H1 (fun _ h => Heap.to (Heap.pick [0, 2, 1] (by decide) h))
         · refine QL.on 2 27 h478 ?_
           refine QL.mv (.slice Aa268 out267.length c269) ?_
           refine QL.on 2 27 h478 ?_
           refine QL.mv (.int .i64 n444) ?_
           refine QL.on 2 27 h478 ?_
           refine QL.pur (.int .i64 (w64 (n444 - 1))) (some 30) ?_
           refine QL.on 2 27 h478 ?_
           obtain ⟨⟨h479, h480⟩, H1⟩ := ite_must H1
           refine QL.ixAddr 0 2 c269 .i64 (elems_row Aa268 c269 51 fl_Gap.kd out267 false) Try.underlying23 tySize_51 h479 h480 fun g481 o482 hA => ?_
           subst hA
           refine QL.on 2 27 h478 ?_
           refine QL.pur (.pointer (some ⟨g481, o482 + (w64 (n444 - 1)).toNat * 2, none⟩)) (some 32) ?_
           refine QL.on 2 27 h478 ?_
           refine QL.val (.int .i64 ((ix out267 (w64 (n444 - 1))).At)) (some 33) (gives_loadEl (f := fl_Gap) 0 0 (w64 (n444 - 1)) (elems_row (some ⟨g481, o482, none⟩) c269 51 fl_Gap.kd out267 false) h479 h480 tySize_3 (.inr ⟨tyAgg_3, rfl, rfl⟩)) ?_
           refine QL.on 2 27 h478 ?_
           refine QL.mv (.slice (some ⟨g481, o482, none⟩) out267.length c269) ?_
           refine QL.on 2 27 h478 ?_
           refine QL.mv (.int .i64 n444) ?_
           refine QL.on 2 27 h478 ?_
           refine QL.pur (.int .i64 (w64 (n444 - 1))) (some 36) ?_
           refine QL.on 2 27 h478 ?_
           refine QL.ixAddr' 0 2 c269 .i64 (elems_row (some ⟨g481, o482, none⟩) c269 51 fl_Gap.kd out267 false) Try.underlying23 tySize_51 h479 h480 ?_
           refine QL.on 2 27 h478 ?_
           refine QL.pur (.pointer (some ⟨g481, o482 + (w64 (n444 - 1)).toNat * 2 + 1, none⟩)) (some 38) ?_
           refine QL.on 2 27 h478 ?_
           refine QL.val (.int .i64 ((ix out267 (w64 (n444 - 1))).Many)) (some 39) (gives_loadEl (f := fl_Gap) 0 1 (w64 (n444 - 1)) (elems_row (some ⟨g481, o482, none⟩) c269 51 fl_Gap.kd out267 false) h479 h480 tySize_3 (.inr ⟨tyAgg_3, rfl, rfl⟩)) ?_
           refine QL.on 2 27 h478 ?_
           refine QL.pur (.int .i64 (w64 (((ix out267 (w64 (n444 - 1))).At) + ((ix out267 (w64 (n444 - 1))).Many)))) (some 40) ?_
           refine QL.on 2 27 h478 ?_
           refine QL.pur (.pointer (some ⟨b443, 0, none⟩)) (some 41) ?_
           refine QL.on 2 27 h478 ?_
           refine QL.val (.int .i64 ((ix l15 x274).At)) (some 42) (yields_load_box 2 0 (holds_box b443 51 (cl_51 (ix l15 x274))) tyAgg_3) ?_
           refine QL.on 2 27 h478 ?_
           refine QL.pur (.bool (decide (w64 (((ix out267 (w64 (n444 - 1))).At) + ((ix out267 (w64 (n444 - 1))).Many)) < (ix l15 x274).At))) (some 43) ?_
           refine QL.val (.bool (decide (w64 (((ix out267 (w64 (n444 - 1))).At) + ((ix out267 (w64 (n444 - 1))).Many)) < (ix l15 x274).At))) (some 44) (gives_pickF h478) ?_
           refine QL.nil ?_
           refine JA.nil ?_
           refine JQ.then_normal ?_
           exact JQ.meet (decide (w64 (((ix out267 (w64 (n444 - 1))).At) + ((ix out267 (w64 (n444 - 1))).Many)) < (ix l15 x274).At)) () H1 (fun _ h => Heap.to (Heap.pick [0, 2, 1] (by decide) h))
       · clear H1
         rintro x454 ⟨⟩ H1
         replace H1 : accum_join.k14 l15 out267 x274 n444 x454 = some st1 := H1
         unfold accum_join.k14 at H1
         refine JQ.sub [(7, .slice Aa268 out267.length c269), (9, .pointer (some ⟨b443, 0, none⟩)), (10, .int .i64 n444), (17, .slice (some ⟨g441, o442, none⟩) l15.length c272), (18, .int .i64 (l15.length : Int)), (19, .int .i64 x274), (44, .bool x454)] ?_
         refine JQ.turn (Δ' := [At.row Aa268 c269 51 fl_Gap.kd out267 false, At.box b443 51 (cl_51 (ix l15 x274)), At.row (some ⟨g441, o442, none⟩) c272 51 fl_Gap.kd l15 false]) (fun _ h => h.to) ?_
         rcases ite_cases H1 with ⟨h455, H1⟩ | ⟨h455, H1⟩
         · refine J.cond_true h455 ?_
           refine J.sr ?_
           refine JL.mv (.slice Aa268 out267.length c269) ?_
           refine JL.val (mv_51 (ix l15 x274)) (some 46) (yields_load_boxes 1 0 (cl_51 (ix l15 x274)) (holds_box b443 51 (cl_51 (ix l15 x274))) tyAgg_51 tySize_51) ?_
           refine JL.buildSl 51 fl_Gap.kd (([(ix l15 x274)] : List Gap) : List Gap) [.int .i64 ((ix l15 x274).At), .int .i64 ((ix l15 x274).Many)] false (closes_fl rfl) fun b456 => ?_
           obtain ⟨h459, H1⟩ := ite_must H1
           refine JL.append false false 0 3 Aa268 c269 1 out267 (elems_row (some ⟨b456, 0, none⟩) 1 51 fl_Gap.kd ([(ix l15 x274)] : List Gap) false) Try.underlying23 info_51 (by omega) (by omega) (fun h => h) (.inr ⟨_, rfl⟩) fun Aa457 c458 => ?_
           refine JL.as (.slice Aa457 (out267 ++ ([(ix l15 x274)] : List Gap)).length c458) ?_
           refine JL.es [(7, .slice Aa457 (out267 ++ ([(ix l15 x274)] : List Gap)).length c458), (17, .slice (some ⟨g441, o442, none⟩) l15.length c272), (18, .int .i64 (l15.length : Int)), (19, .int .i64 x274)] ?_
           refine JQ.mask [At.row Aa457 c458 51 fl_Gap.kd (out267 ++ ([(ix l15 x274)] : List Gap)) false, At.row (some ⟨g441, o442, none⟩) c272 51 fl_Gap.kd l15 false] [true, false, true, false] ?_
           refine J.exit ?_
           refine JQ.then_exit ?_
           refine JQ.blk_exit ?_
           refine JQ.then_normal ?_
           exact JQ.meet (out267 ++ ([(ix l15 x274)] : List Gap)) (Aa457, c458, (some ⟨g441, o442, none⟩), c272) H1 (fun _ h => Heap.to h)
         · refine J.cond_false h455 ?_
           refine J.skip ?_
           refine JQ.ts [(7, .slice Aa268 out267.length c269), (9, .pointer (some ⟨b443, 0, none⟩)), (10, .int .i64 n444), (17, .slice (some ⟨g441, o442, none⟩) l15.length c272), (18, .int .i64 (l15.length : Int)), (19, .int .i64 x274)] ?_
           refine J.seq ?_
           refine J.seq ?_
           refine J.draw ?_
           refine QL.mv (.slice Aa268 out267.length c269) ?_
           refine QL.mv (.int .i64 n444) ?_
           refine QL.pur (.int .i64 (w64 (n444 - 1))) (some 51) ?_
           obtain ⟨⟨h460, h461⟩, H1⟩ := ite_must H1
           refine QL.ixAddr 0 2 c269 .i64 (elems_row Aa268 c269 51 fl_Gap.kd out267 false) Try.underlying23 tySize_51 h460 h461 fun g462 o463 hA => ?_
           subst hA
           refine QL.pur (.pointer (some ⟨g462, o463 + (w64 (n444 - 1)).toNat * 2, none⟩)) (some 53) ?_
           refine QL.val (.int .i64 ((ix out267 (w64 (n444 - 1))).At)) (some 54) (gives_loadEl (f := fl_Gap) 0 0 (w64 (n444 - 1)) (elems_row (some ⟨g462, o463, none⟩) c269 51 fl_Gap.kd out267 false) h460 h461 tySize_3 (.inr ⟨tyAgg_3, rfl, rfl⟩)) ?_
           refine QL.mv (.slice (some ⟨g462, o463, none⟩) out267.length c269) ?_
           refine QL.mv (.int .i64 n444) ?_
           refine QL.pur (.int .i64 (w64 (n444 - 1))) (some 57) ?_
           refine QL.ixAddr' 0 2 c269 .i64 (elems_row (some ⟨g462, o463, none⟩) c269 51 fl_Gap.kd out267 false) Try.underlying23 tySize_51 h460 h461 ?_
           refine QL.pur (.pointer (some ⟨g462, o463 + (w64 (n444 - 1)).toNat * 2 + 1, none⟩)) (some 59) ?_
           refine QL.val (.int .i64 ((ix out267 (w64 (n444 - 1))).Many)) (some 60) (gives_loadEl (f := fl_Gap) 0 1 (w64 (n444 - 1)) (elems_row (some ⟨g462, o463, none⟩) c269 51 fl_Gap.kd out267 false) h460 h461 tySize_3 (.inr ⟨tyAgg_3, rfl, rfl⟩)) ?_
           refine QL.pur (.int .i64 (w64 (((ix out267 (w64 (n444 - 1))).At) + ((ix out267 (w64 (n444 - 1))).Many)))) (some 61) ?_
           refine QL.pur (.pointer (some ⟨b443, 0, none⟩)) (some 62) ?_
           refine QL.val (.int .i64 ((ix l15 x274).At)) (some 63) (yields_load_box 1 0 (holds_box b443 51 (cl_51 (ix l15 x274))) tyAgg_3) ?_
           refine QL.pur (.bool (decide ((ix l15 x274).At < w64 (((ix out267 (w64 (n444 - 1))).At) + ((ix out267 (w64 (n444 - 1))).Many))))) (some 64) ?_
           refine QL.nil ?_
           refine JA.nil ?_
           refine JQ.ts [(7, .slice (some ⟨g462, o463, none⟩) out267.length c269), (9, .pointer (some ⟨b443, 0, none⟩)), (10, .int .i64 n444), (17, .slice (some ⟨g441, o442, none⟩) l15.length c272), (18, .int .i64 (l15.length : Int)), (19, .int .i64 x274), (64, .bool (decide ((ix l15 x274).At < w64 (((ix out267 (w64 (n444 - 1))).At) + ((ix out267 (w64 (n444 - 1))).Many)))))] ?_
           rcases ite_cases H1 with ⟨h468, H1⟩ | ⟨h468, H1⟩
           · refine J.cond_true h468 ?_
             refine J.sr ?_
             refine JL.as (.slice none 0 0) ?_
             refine JL.as (.int .i64 14) ?_
             refine JL.es [(4, .slice none 0 0), (5, .int .i64 14)] ?_
             refine JQ.mask [] [false, false, false] ?_
             refine J.ret ?_
             refine JQ.then_ret ?_
             refine JQ.blk_ret ?_
             refine JQ.then_ret ?_
             refine JQ.then_ret ?_
             refine JQ.blk_ret ?_
             refine JQ.met_ret ?_
             refine JQ.then_ret ?_
             rw [hr1 _ (Option.some.inj H1).symm, fin_ret] at H0
             obtain rfl := Option.some.inj H0
             exact JQ.done' (rs := [.tmp 4, .tmp 5]) (vs := [.slice none 0 0, .int .i64 14]) [At.row none 0 51 fl_Gap.kd ([] : List Gap) false] (.inr rfl) ⟨by kernel_rfl, by kernel_rfl, trivial⟩ (fun _ h => Heap.to (Heap.addRow0 (α := Gap) 51 fl_Gap.kd false h)) ⟨none, 0, rfl, rfl⟩
           · refine J.cond_false h468 ?_
             refine J.skip ?_
             refine JQ.ts [(7, .slice (some ⟨g462, o463, none⟩) out267.length c269), (9, .pointer (some ⟨b443, 0, none⟩)), (10, .int .i64 n444), (17, .slice (some ⟨g441, o442, none⟩) l15.length c272), (18, .int .i64 (l15.length : Int)), (19, .int .i64 x274)] ?_
             refine J.drawT 11 ?_
             refine QL.mv (.slice (some ⟨g462, o463, none⟩) out267.length c269) ?_
             refine QL.mv (.int .i64 n444) ?_
             refine QL.pur (.int .i64 (w64 (n444 - 1))) (some 67) ?_
             refine QL.ixAddr' 0 2 c269 .i64 (elems_row (some ⟨g462, o463, none⟩) c269 51 fl_Gap.kd out267 false) Try.underlying23 tySize_51 h460 h461 ?_
             refine QL.pur (.pointer (some ⟨g462, o463 + (w64 (n444 - 1)).toNat * 2 + 1, none⟩)) (some 69) ?_
             refine QL.val (.int .i64 ((ix out267 (w64 (n444 - 1))).Many)) (some 70) (gives_loadEl (f := fl_Gap) 0 1 (w64 (n444 - 1)) (elems_row (some ⟨g462, o463, none⟩) c269 51 fl_Gap.kd out267 false) h460 h461 tySize_3 (.inr ⟨tyAgg_3, rfl, rfl⟩)) ?_
             refine QL.pur (.pointer (some ⟨b443, 1, none⟩)) (some 71) ?_
             refine QL.val (.int .i64 ((ix l15 x274).Many)) (some 72) (yields_load_box 1 1 (holds_box b443 51 (cl_51 (ix l15 x274))) tyAgg_3) ?_
             refine QL.pur (.int .i64 (w64 (((ix out267 (w64 (n444 - 1))).Many) + ((ix l15 x274).Many)))) (some 73) ?_
             refine QL.ixAddr' 0 2 c269 .i64 (elems_row (some ⟨g462, o463, none⟩) c269 51 fl_Gap.kd out267 false) Try.underlying23 tySize_51 h460 h461 ?_
             refine QL.pur (.pointer (some ⟨g462, o463 + (w64 (n444 - 1)).toNat * 2 + 1, none⟩)) (some 75) ?_
             refine QL.nil ?_
             refine JA.nil ?_
             refine JL.storeEl (E := 51) g462 o463 1 c269 0 fl_Gap out267 (w64 (n444 - 1)) false (⟨((ix out267 (w64 (n444 - 1))).At), (w64 (((ix out267 (w64 (n444 - 1))).Many) + ((ix l15 x274).Many)))⟩ : Gap) h460 h461 tySize_3 ?_
             obtain ⟨l477, el477, H1⟩ := lt_some H1
             have nl477 : out267.length = l477.length := by rw [← el477, List.length_set]
             rw [el477]
             refine JQ.len (fun n : Nat => [(7, .slice (some ⟨g462, o463, none⟩) n c269), (9, .pointer (some ⟨b443, 0, none⟩)), (10, .int .i64 n444), (17, .slice (some ⟨g441, o442, none⟩) l15.length c272), (18, .int .i64 (l15.length : Int)), (19, .int .i64 x274), (65, .slice (some ⟨g462, o463, none⟩) n c269), (66, .int .i64 n444), (67, .int .i64 (w64 (n444 - 1))), (70, .int .i64 ((ix out267 (w64 (n444 - 1))).Many)), (71, .pointer (some ⟨b443, 1, none⟩)), (72, .int .i64 ((ix l15 x274).Many)), (73, .int .i64 (w64 (((ix out267 (w64 (n444 - 1))).Many) + ((ix l15 x274).Many))))]) nl477 ?_
             refine JQ.sub [(7, .slice (some ⟨g462, o463, none⟩) l477.length c269), (9, .pointer (some ⟨b443, 0, none⟩)), (10, .int .i64 n444), (17, .slice (some ⟨g441, o442, none⟩) l15.length c272), (18, .int .i64 (l15.length : Int)), (19, .int .i64 x274), (65, .slice (some ⟨g462, o463, none⟩) l477.length c269), (66, .int .i64 n444), (67, .int .i64 (w64 (n444 - 1))), (70, .int .i64 ((ix out267 (w64 (n444 - 1))).Many)), (71, .pointer (some ⟨b443, 1, none⟩)), (72, .int .i64 ((ix l15 x274).Many)), (73, .int .i64 (w64 (((ix out267 (w64 (n444 - 1))).Many) + ((ix l15 x274).Many))))] ?_
             refine JL.end_ ?_
             refine JQ.blk_normal ?_
             refine JQ.then_normal ?_
             exact JQ.meet l477 ((some ⟨g462, o463, none⟩), c269, (some ⟨g441, o442, none⟩), c272) H1 (fun _ h => Heap.to (Heap.pick [0, 2] (by decide) h))
     · clear H1
       rintro out432 ⟨Aa433, c434, Aa436, c437⟩ H1
       replace H1 : accum_join.k13 x274 out432 = some st1 := H1
       unfold accum_join.k13 at H1
       refine JQ.sub [(7, .slice Aa433 out432.length c434), (17, .slice Aa436 l15.length c437), (18, .int .i64 (l15.length : Int)), (19, .int .i64 x274)] ?_
       refine JQ.turn (Δ' := [At.row Aa433 c434 51 fl_Gap.kd out432 false, At.row Aa436 c437 51 fl_Gap.kd l15 false]) (fun _ h => h.to) ?_
       refine J.region ?_
       refine JL.pur (.int .i64 (w64 (x274 + 1))) (some 76) ?_
       refine JL.mv (.int .i64 (w64 (x274 + 1))) ?_
       refine JL.en ?_
       exact JQ.again (out432, w64 (x274 + 1)) (Aa433, c434, Aa436, c437) (Option.some.inj H1).symm (fun _ h => Heap.to h)
   · refine J.cond_false h383 ?_
     refine J.exit ?_
     refine JQ.then_exit ?_
     refine JQ.then_exit ?_
     refine JQ.blk_exit ?_
     rw [hb1 _ (Option.some.inj H1).symm, fin_brk] at H0
     exact JQ.met out267 (Aa268, c269) H0 (fun _ h => Heap.to (Heap.pick [0] (by decide) h))
 · clear hit H0
   rintro out379 ⟨Aa380, c381⟩ H0
   replace H0 : accum_join.k11 out379 = some r := H0
   unfold accum_join.k11 at H0
   refine JQ.sub [(7, .slice Aa380 out379.length c381)] ?_
   refine JQ.turn (Δ' := [At.row Aa380 c381 51 fl_Gap.kd out379 false]) (fun _ h => h.to) ?_
   refine JQ.then_normal ?_
   refine J.sr ?_
   refine JL.mv (.slice Aa380 out379.length c381) ?_
   refine JL.as (.slice Aa380 out379.length c381) ?_
   refine JL.as (.int .i64 0) ?_
   refine JL.es [(4, .slice Aa380 out379.length c381), (5, .int .i64 0)] ?_
   refine J.ret ?_
   obtain rfl := Option.some.inj H0
   exact JQ.done' (rs := [.tmp 4, .tmp 5]) (vs := [.slice Aa380 out379.length c381, .int .i64 0]) [At.row Aa380 c381 51 fl_Gap.kd out379 false] (.inr rfl) ⟨by kernel_rfl, by kernel_rfl, trivial⟩ (fun _ h => Heap.to h) ⟨Aa380, c381, rfl, rfl⟩

theorem accum_wide_plus.ok (w1 : Wide) (v2 : Wide) (r : Wide) (H0 : accum_wide_plus.f w1 v2 = some r) :
    Does Try.prog 61 [mv_74 w1, mv_74 v2].toArray [] [] false (fun v Δ => v = mv_74 r ∧ Δ = []) := by
 refine Does.body (vs := [mv_74 w1, mv_74 v2]) Try.func61 rfl trivial trivial fun w S => ?_
 unfold accum_wide_plus.f at H0
 refine J.sr ?_
 refine JL.box (cl_74 w1) fun b3 => ?_
 refine JL.box (cl_74 v2) fun b4 => ?_
 refine JL.alloc (cl_74 zv_74) fun b5 => ?_
 refine JL.es [(2, .pointer (some ⟨b3, 0, none⟩)), (3, .pointer (some ⟨b4, 0, none⟩)), (4, .pointer (some ⟨b5, 0, none⟩))] ?_
 refine J.sr ?_
 refine JL.pur (.pointer (some ⟨b3, 0, none⟩)) (some 5) ?_
 refine JL.pur (.pointer (some ⟨b3, 0, none⟩)) (some 6) ?_
 refine JL.val (.int .i64 w1.Count.Hi) (some 7) (yields_load_box 0 0 (holds_box b3 74 (cl_74 w1)) tyAgg_2) ?_
 refine JL.pur (.pointer (some ⟨b4, 0, none⟩)) (some 8) ?_
 refine JL.pur (.pointer (some ⟨b4, 0, none⟩)) (some 9) ?_
 refine JL.val (.int .i64 v2.Count.Hi) (some 10) (yields_load_box 1 0 (holds_box b4 74 (cl_74 v2)) tyAgg_2) ?_
 refine JL.pur (.int .i64 (w64 (w1.Count.Hi + v2.Count.Hi))) (some 11) ?_
 refine JL.pur (.pointer (some ⟨b3, 0, none⟩)) (some 12) ?_
 refine JL.pur (.pointer (some ⟨b3, 0, none⟩)) (some 13) ?_
 refine JL.store 0 b3 0 74 (cl_74 w1) [.int .i64 (w64 (w1.Count.Hi + v2.Count.Hi)), .int .i64 w1.Count.Lo] tySize_2 ?_
 refine JL.es [(2, .pointer (some ⟨b3, 0, none⟩)), (3, .pointer (some ⟨b4, 0, none⟩)), (4, .pointer (some ⟨b5, 0, none⟩))] ?_
 refine J.sr ?_
 refine JL.pur (.pointer (some ⟨b3, 0, none⟩)) (some 14) ?_
 refine JL.pur (.pointer (some ⟨b3, 1, none⟩)) (some 15) ?_
 refine JL.val (.int .i64 w1.Count.Lo) (some 16) (yields_load_box 0 1 (holds_box b3 74 [.int .i64 (w64 (w1.Count.Hi + v2.Count.Hi)), .int .i64 w1.Count.Lo]) tyAgg_2) ?_
 refine JL.pur (.pointer (some ⟨b4, 0, none⟩)) (some 17) ?_
 refine JL.pur (.pointer (some ⟨b4, 1, none⟩)) (some 18) ?_
 refine JL.val (.int .i64 v2.Count.Lo) (some 19) (yields_load_box 1 1 (holds_box b4 74 (cl_74 v2)) tyAgg_2) ?_
 refine JL.pur (.int .i64 (w64 (w1.Count.Lo + v2.Count.Lo))) (some 20) ?_
 refine JL.pur (.pointer (some ⟨b3, 0, none⟩)) (some 21) ?_
 refine JL.pur (.pointer (some ⟨b3, 1, none⟩)) (some 22) ?_
 refine JL.store 0 b3 1 74 [.int .i64 (w64 (w1.Count.Hi + v2.Count.Hi)), .int .i64 w1.Count.Lo] [.int .i64 (w64 (w1.Count.Hi + v2.Count.Hi)), .int .i64 (w64 (w1.Count.Lo + v2.Count.Lo))] tySize_2 ?_
 refine JL.es [(2, .pointer (some ⟨b3, 0, none⟩)), (4, .pointer (some ⟨b5, 0, none⟩))] ?_
 refine JQ.mask [At.box b3 74 [.int .i64 (w64 (w1.Count.Hi + v2.Count.Hi)), .int .i64 (w64 (w1.Count.Lo + v2.Count.Lo))], At.box b5 74 (cl_74 zv_74)] [true, false, true] ?_
 refine J.join (T := Wide) (G := Unit) (fun t => accum_wide_plus.k1 t = some r) (fun t g => [(2, .pointer (some ⟨b3, 0, none⟩)), (4, .pointer (some ⟨b5, 0, none⟩))]) (fun t g => [At.box b3 74 (cl_74 t), At.box b5 74 (cl_74 zv_74)]) ?_ ?_
 · refine J.sr ?_
   refine JL.pur (.pointer (some ⟨b3, 0, none⟩)) (some 23) ?_
   refine JL.pur (.pointer (some ⟨b3, 1, none⟩)) (some 24) ?_
   refine JL.val (.int .i64 (w64 (w1.Count.Lo + v2.Count.Lo))) (some 25) (yields_load_box 0 1 (holds_box b3 74 [.int .i64 (w64 (w1.Count.Hi + v2.Count.Hi)), .int .i64 (w64 (w1.Count.Lo + v2.Count.Lo))]) tyAgg_2) ?_
   refine JL.pur (.bool (decide (1000000000 ≤ w64 (w1.Count.Lo + v2.Count.Lo)))) (some 26) ?_
   refine JL.es [(2, .pointer (some ⟨b3, 0, none⟩)), (4, .pointer (some ⟨b5, 0, none⟩)), (26, .bool (decide (1000000000 ≤ w64 (w1.Count.Lo + v2.Count.Lo))))] ?_
   rcases ite_cases H0 with ⟨h8, H0⟩ | ⟨h8, H0⟩
   · refine J.cond_true h8 ?_
     refine J.sr ?_
     refine JL.pur (.pointer (some ⟨b3, 0, none⟩)) (some 27) ?_
     refine JL.pur (.pointer (some ⟨b3, 0, none⟩)) (some 28) ?_
     refine JL.val (.int .i64 (w64 (w1.Count.Hi + v2.Count.Hi))) (some 29) (yields_load_box 0 0 (holds_box b3 74 [.int .i64 (w64 (w1.Count.Hi + v2.Count.Hi)), .int .i64 (w64 (w1.Count.Lo + v2.Count.Lo))]) tyAgg_2) ?_
     refine JL.pur (.int .i64 (w64 ((w64 (w1.Count.Hi + v2.Count.Hi)) + 1))) (some 30) ?_
     refine JL.pur (.pointer (some ⟨b3, 0, none⟩)) (some 31) ?_
     refine JL.pur (.pointer (some ⟨b3, 0, none⟩)) (some 32) ?_
     refine JL.store 0 b3 0 74 [.int .i64 (w64 (w1.Count.Hi + v2.Count.Hi)), .int .i64 (w64 (w1.Count.Lo + v2.Count.Lo))] [.int .i64 (w64 ((w64 (w1.Count.Hi + v2.Count.Hi)) + 1)), .int .i64 (w64 (w1.Count.Lo + v2.Count.Lo))] tySize_2 ?_
     refine JL.es [(2, .pointer (some ⟨b3, 0, none⟩)), (4, .pointer (some ⟨b5, 0, none⟩))] ?_
     refine J.region ?_
     refine JL.pur (.pointer (some ⟨b3, 0, none⟩)) (some 33) ?_
     refine JL.pur (.pointer (some ⟨b3, 1, none⟩)) (some 34) ?_
     refine JL.val (.int .i64 (w64 (w1.Count.Lo + v2.Count.Lo))) (some 35) (yields_load_box 0 1 (holds_box b3 74 [.int .i64 (w64 ((w64 (w1.Count.Hi + v2.Count.Hi)) + 1)), .int .i64 (w64 (w1.Count.Lo + v2.Count.Lo))]) tyAgg_2) ?_
     refine JL.pur (.int .i64 (w64 ((w64 (w1.Count.Lo + v2.Count.Lo)) - 1000000000))) (some 36) ?_
     refine JL.pur (.pointer (some ⟨b3, 0, none⟩)) (some 37) ?_
     refine JL.pur (.pointer (some ⟨b3, 1, none⟩)) (some 38) ?_
     refine JL.store 0 b3 1 74 [.int .i64 (w64 ((w64 (w1.Count.Hi + v2.Count.Hi)) + 1)), .int .i64 (w64 (w1.Count.Lo + v2.Count.Lo))] [.int .i64 (w64 ((w64 (w1.Count.Hi + v2.Count.Hi)) + 1)), .int .i64 (w64 ((w64 (w1.Count.Lo + v2.Count.Lo)) - 1000000000))] tySize_2 ?_
     refine JL.en ?_
     exact JQ.meet (⟨(⟨(w64 ((w64 (w1.Count.Hi + v2.Count.Hi)) + 1)), (w64 ((w64 (w1.Count.Lo + v2.Count.Lo)) - 1000000000))⟩ : Count)⟩ : Wide) () H0 (fun _ h => Heap.to h)
   · refine J.cond_false h8 ?_
     refine J.skip ?_
     refine JQ.then_normal ?_
     exact JQ.meet (⟨(⟨(w64 (w1.Count.Hi + v2.Count.Hi)), (w64 (w1.Count.Lo + v2.Count.Lo))⟩ : Count)⟩ : Wide) () H0 (fun _ h => Heap.to h)
 · clear H0
   rintro w7 ⟨⟩ H0
   replace H0 : accum_wide_plus.k1 w7 = some r := H0
   unfold accum_wide_plus.k1 at H0
   refine JQ.sub [(2, .pointer (some ⟨b3, 0, none⟩)), (4, .pointer (some ⟨b5, 0, none⟩))] ?_
   refine JQ.turn (Δ' := [At.box b3 74 (cl_74 w7), At.box b5 74 (cl_74 zv_74)]) (fun _ h => h.to) ?_
   refine J.sr ?_
   refine JL.val (mv_74 w7) (some 39) (yields_load_boxes 0 0 (cl_74 w7) (holds_box b3 74 (cl_74 w7)) tyAgg_74 tySize_74) ?_
   refine JL.store 1 b5 0 74 (cl_74 zv_74) (cl_74 w7) tySize_74 ?_
   refine JL.es [(4, .pointer (some ⟨b5, 0, none⟩))] ?_
   refine JQ.mask [At.box b5 74 (cl_74 w7)] [false, true] ?_
   refine J.ret ?_
   obtain rfl := Option.some.inj H0
   exact JQ.done' (rs := [.cell 4 74]) (vs := [.agg #[.int .i64 w7.Count.Hi, .int .i64 w7.Count.Lo]]) [] (.inr rfl) ⟨⟨b5, 0, _, _, by kernel_rfl, by kernel_rfl, holds_box b5 74 (cl_74 w7), .inl ⟨tyAgg_74, tySize_74, rfl⟩⟩, trivial⟩ (fun _ h => Heap.to (Heap.pick [] (by decide) h)) ⟨rfl, rfl⟩

theorem accum_sum.ok (a1 : (List Count)) (Aa2 : Option Addr) (c3 : Nat) (b5 : (List Count)) (Aa6 : Option Addr) (c7 : Nat) (r : ((List Count) × Bool)) (H0 : accum_sum.f a1 b5 = some r) :
    Does Try.prog 48 [.slice Aa2 a1.length c3, .slice Aa6 b5.length c7].toArray [At.rd Aa2 c3 fl_Count.kd a1 true, At.rd Aa6 c7 fl_Count.kd b5 true] [] false (fun v Δ => ∃ A1001 : Option Addr, ∃ c1001 : Nat, v = .tuple #[.slice A1001 r.1.length c1001, .bool r.2] ∧ Δ = [At.row A1001 c1001 49 fl_Count.kd r.1 false]) := by
 refine Does.body (vs := [.slice Aa2 a1.length c3, .slice Aa6 b5.length c7]) Try.func48 rfl ⟨.inl rfl, .inl rfl, trivial⟩ trivial fun w S => ?_
 unfold accum_sum.f at H0
 refine J.sr ?_
 refine JL.as (.slice none 0 0) ?_
 refine JL.as (.bool false) ?_
 refine JL.es [(0, .slice Aa2 a1.length c3), (1, .slice Aa6 b5.length c7)] ?_
 refine J.sr ?_
 refine JL.as (.slice none 0 0) ?_
 refine JL.en ?_
 refine J.seq ?_
 refine J.sr ?_
 refine JL.mv (.slice Aa2 a1.length c3) ?_
 refine JL.pur (.int .i64 (a1.length : Int)) (some 11) ?_
 refine JL.mv (.int .i64 0) ?_
 refine JL.es [(1, .slice Aa6 b5.length c7), (6, .slice none 0 0), (10, .slice Aa2 a1.length c3), (11, .int .i64 (a1.length : Int)), (12, .int .i64 0)] ?_
 obtain ⟨o1, hit, H0⟩ := bind_some H0
 refine J.loop (σ := ((List Count) × Int)) (τ := List Count) (G := ((Option Addr) × Nat)) (G' := ((Option Addr) × Nat)) _ o1 (fun s g => [(1, .slice Aa6 b5.length c7), (6, .slice g.1 s.1.length g.2), (10, .slice Aa2 a1.length c3), (11, .int .i64 (a1.length : Int)), (12, .int .i64 s.2)]) (fun s g => [At.rd Aa6 c7 fl_Count.kd b5 true, At.row g.1 g.2 49 fl_Count.kd s.1 false, At.rd Aa2 c3 fl_Count.kd a1 true]) (fun t => accum_sum.k2 t = some r) (fun t g => [(6, .slice g.1 t.length g.2)]) (fun t g => [At.row g.1 g.2 49 fl_Count.kd t false]) ([], 0) (none, 0) hit (fun _ h => Heap.to (Heap.pick [1, 2, 0] (by decide) (Heap.addRow0 (α := Count) 49 fl_Count.kd false h))) ?_ ?_
 · clear hit
   rintro ⟨out60, x64⟩ ⟨Aa61, c62⟩ st1 H1 hb1 hr1
   replace H1 : accum_sum.s1 a1 b5 out60 x64 = some st1 := H1
   unfold accum_sum.s1 at H1
   refine JQ.sub [(1, .slice Aa6 b5.length c7), (6, .slice Aa61 out60.length c62), (10, .slice Aa2 a1.length c3), (11, .int .i64 (a1.length : Int)), (12, .int .i64 x64)] ?_
   refine JQ.turn (Δ' := [At.rd Aa6 c7 fl_Count.kd b5 true, At.row Aa61 c62 49 fl_Count.kd out60 false, At.rd Aa2 c3 fl_Count.kd a1 true]) (fun _ h => h.to) ?_
   refine J.sr ?_
   refine JL.pur (.bool (decide (x64 < (a1.length : Int)))) (some 13) ?_
   refine JL.en ?_
   refine J.seq ?_
   rcases ite_cases H1 with ⟨h89, H1⟩ | ⟨h89, H1⟩
   · refine J.cond_true h89 ?_
     refine J.skip ?_
     refine JQ.ts [(1, .slice Aa6 b5.length c7), (6, .slice Aa61 out60.length c62), (10, .slice Aa2 a1.length c3), (11, .int .i64 (a1.length : Int)), (12, .int .i64 x64)] ?_
     refine J.seq ?_
     refine J.block ?_
     refine J.sr ?_
     refine JL.mv (.int .i64 x64) ?_
     obtain ⟨⟨h90, h91⟩, H1⟩ := ite_must H1
     refine JL.ixAddr 2 2 c3 .i64 (elems_rd Aa2 c3 fl_Count.kd a1 true) Try.underlying22 tySize_49 h90 h91 fun g92 o93 hA => ?_
     subst hA
     refine JL.val (mv_49 (ix a1 x64)) (some 16) (gives_loadEl (f := fl_Count) 2 0 x64 (elems_rd (some ⟨g92, o93, none⟩) c3 fl_Count.kd a1 true) h90 h91 tySize_49 (.inl ⟨tyAgg_49, rfl⟩)) ?_
     refine JL.alloc (cl_49 zv_49) fun b94 => ?_
     refine JL.as (.int .i64 x64) ?_
     refine JL.store 3 b94 0 49 (cl_49 zv_49) (cl_49 (ix a1 x64)) tySize_49 ?_
     refine JL.es [(1, .slice Aa6 b5.length c7), (6, .slice Aa61 out60.length c62), (7, .int .i64 x64), (8, .pointer (some ⟨b94, 0, none⟩)), (10, .slice (some ⟨g92, o93, none⟩) a1.length c3), (11, .int .i64 (a1.length : Int)), (12, .int .i64 x64)] ?_
     refine J.seq ?_
     refine J.drawA 9 [⟨8, 9, 74, [.int .i64 0, .int .i64 0]⟩] ?_ (by simp only [List.mem_cons, List.not_mem_nil, or_false, forall_eq_or_imp, forall_eq]; exact ⟨by decide, ⟨_, _, _, rfl⟩, by kernel_rfl⟩)
     refine QL.val (mv_49 (ix a1 x64)) (some 17) (yields_load_boxes 3 0 (cl_49 (ix a1 x64)) (holds_box b94 49 (cl_49 (ix a1 x64))) tyAgg_49 tySize_49) ?_
     refine QL.pur (.agg #[.int .i64 ((ix a1 x64).Hi), .int .i64 ((ix a1 x64).Lo)]) (some 18) ?_
     refine QL.mv (.slice Aa6 b5.length c7) ?_
     refine QL.mv (.int .i64 x64) ?_
     obtain ⟨⟨h95, h96⟩, H1⟩ := ite_must H1
     refine QL.ixAddr 0 2 c7 .i64 (elems_rd Aa6 c7 fl_Count.kd b5 true) Try.underlying22 tySize_49 h95 h96 fun g97 o98 hA => ?_
     subst hA
     refine QL.val (mv_49 (ix b5 x64)) (some 22) (gives_loadEl (f := fl_Count) 0 0 x64 (elems_rd (some ⟨g97, o98, none⟩) c7 fl_Count.kd b5 true) h95 h96 tySize_49 (.inl ⟨tyAgg_49, rfl⟩)) ?_
     refine QL.pur (.agg #[.int .i64 ((ix b5 x64).Hi), .int .i64 ((ix b5 x64).Lo)]) (some 23) ?_
     obtain ⟨t99, hc100, H1⟩ := bind_some H1
     refine QL.call [] [] (accum_wide_plus.ok (⟨(ix a1 x64)⟩ : Wide) (⟨(ix b5 x64)⟩ : Wide) _ hc100) trivial ?_
     refine QL.skipA ?_
     refine QL.nil ?_
     refine JA.alloc fun b101 => ?_
     refine JA.nil ?_
     refine JL.store 4 b101 0 74 (cl_74 zv_74) (cl_74 t99) tySize_74 ?_
     refine JL.es [(1, .slice (some ⟨g97, o98, none⟩) b5.length c7), (6, .slice Aa61 out60.length c62), (9, .pointer (some ⟨b101, 0, none⟩)), (10, .slice (some ⟨g92, o93, none⟩) a1.length c3), (11, .int .i64 (a1.length : Int)), (12, .int .i64 x64)] ?_
     refine JQ.mask [At.rd (some ⟨g97, o98, none⟩) c7 fl_Count.kd b5 true, At.row Aa61 c62 49 fl_Count.kd out60 false, At.rd (some ⟨g92, o93, none⟩) c3 fl_Count.kd a1 true, At.box b101 74 (cl_74 t99)] [true, true, true, false, true] ?_
     refine J.seq ?_
     refine J.sr ?_
     refine JL.val (mv_74 t99) (some 25) (yields_load_boxes 3 0 (cl_74 t99) (holds_box b101 74 (cl_74 t99)) tyAgg_74 tySize_74) ?_
     obtain ⟨t102, hc103, H1⟩ := bind_some H1
     refine JL.call [] [] [] (accum_wide_valid.ok t99 _ hc103) trivial ?_
     rintro _ _ ⟨rfl, rfl⟩
     refine JL.pur (.bool (!t102)) (some 27) ?_
     refine JL.es [(1, .slice (some ⟨g97, o98, none⟩) b5.length c7), (6, .slice Aa61 out60.length c62), (9, .pointer (some ⟨b101, 0, none⟩)), (10, .slice (some ⟨g92, o93, none⟩) a1.length c3), (11, .int .i64 (a1.length : Int)), (12, .int .i64 x64), (27, .bool (!t102))] ?_
     rcases ite_cases H1 with ⟨h104, H1⟩ | ⟨h104, H1⟩
     · refine J.cond_true h104 ?_
       refine J.sr ?_
       refine JL.as (.slice none 0 0) ?_
       refine JL.as (.bool false) ?_
       refine JL.es [(4, .slice none 0 0), (5, .bool false)] ?_
       refine JQ.mask [] [false, false, false, false] ?_
       refine J.ret ?_
       refine JQ.then_ret ?_
       refine JQ.blk_ret ?_
       refine JQ.then_ret ?_
       refine JQ.then_ret ?_
       refine JQ.blk_ret ?_
       refine JQ.met_ret ?_
       refine JQ.then_ret ?_
       rw [hr1 _ (Option.some.inj H1).symm, fin_ret] at H0
       obtain rfl := Option.some.inj H0
       exact JQ.done' (rs := [.tmp 4, .tmp 5]) (vs := [.slice none 0 0, .bool false]) [At.row none 0 49 fl_Count.kd ([] : List Count) false] (.inr rfl) ⟨by kernel_rfl, by kernel_rfl, trivial⟩ (fun _ h => Heap.to (Heap.addRow0 (α := Count) 49 fl_Count.kd false h)) ⟨none, 0, rfl, rfl⟩
     · refine J.cond_false h104 ?_
       refine J.skip ?_
       refine JQ.ts [(1, .slice (some ⟨g97, o98, none⟩) b5.length c7), (6, .slice Aa61 out60.length c62), (9, .pointer (some ⟨b101, 0, none⟩)), (10, .slice (some ⟨g92, o93, none⟩) a1.length c3), (11, .int .i64 (a1.length : Int)), (12, .int .i64 x64)] ?_
       refine J.region ?_
       refine JL.mv (.slice Aa61 out60.length c62) ?_
       refine JL.pur (.pointer (some ⟨b101, 0, none⟩)) (some 29) ?_
       refine JL.val (mv_49 t99.Count) (some 30) (yields_load_boxes 3 0 (cl_49 t99.Count) (holds_box b101 74 (cl_74 t99)) tyAgg_49 tySize_49) ?_
       refine JL.buildSl 49 fl_Count.kd (([t99.Count] : List Count) : List Count) [.int .i64 t99.Count.Hi, .int .i64 t99.Count.Lo] false (closes_fl rfl) fun b105 => ?_
       obtain ⟨h108, H1⟩ := ite_must H1
       refine JL.append false false 1 4 Aa61 c62 1 out60 (elems_row (some ⟨b105, 0, none⟩) 1 49 fl_Count.kd ([t99.Count] : List Count) false) Try.underlying22 info_49 (by omega) (by omega) (fun h => h) (.inr ⟨_, rfl⟩) fun Aa106 c107 => ?_
       refine JL.as (.slice Aa106 (out60 ++ ([t99.Count] : List Count)).length c107) ?_
       refine JL.end_ ?_
       refine JQ.blk_normal ?_
       refine JQ.ts [(1, .slice (some ⟨g97, o98, none⟩) b5.length c7), (6, .slice Aa106 (out60 ++ ([t99.Count] : List Count)).length c107), (10, .slice (some ⟨g92, o93, none⟩) a1.length c3), (11, .int .i64 (a1.length : Int)), (12, .int .i64 x64)] ?_
       refine JQ.mask [At.rd (some ⟨g97, o98, none⟩) c7 fl_Count.kd b5 true, At.row Aa106 c107 49 fl_Count.kd (out60 ++ ([t99.Count] : List Count)) false, At.rd (some ⟨g92, o93, none⟩) c3 fl_Count.kd a1 true] [true, true, true, false, false] ?_
       refine J.region ?_
       refine JL.pur (.int .i64 (w64 (x64 + 1))) (some 33) ?_
       refine JL.mv (.int .i64 (w64 (x64 + 1))) ?_
       refine JL.en ?_
       exact JQ.again ((out60 ++ ([t99.Count] : List Count)), w64 (x64 + 1)) (Aa106, c107) (Option.some.inj H1).symm (fun _ h => Heap.to h)
   · refine J.cond_false h89 ?_
     refine J.exit ?_
     refine JQ.then_exit ?_
     refine JQ.then_exit ?_
     refine JQ.blk_exit ?_
     rw [hb1 _ (Option.some.inj H1).symm, fin_brk] at H0
     exact JQ.met out60 (Aa61, c62) H0 (fun _ h => Heap.to (Heap.pick [1] (by decide) h))
 · clear hit H0
   rintro out85 ⟨Aa86, c87⟩ H0
   replace H0 : accum_sum.k2 out85 = some r := H0
   unfold accum_sum.k2 at H0
   refine JQ.sub [(6, .slice Aa86 out85.length c87)] ?_
   refine JQ.turn (Δ' := [At.row Aa86 c87 49 fl_Count.kd out85 false]) (fun _ h => h.to) ?_
   refine JQ.then_normal ?_
   refine J.sr ?_
   refine JL.mv (.slice Aa86 out85.length c87) ?_
   refine JL.as (.slice Aa86 out85.length c87) ?_
   refine JL.as (.bool true) ?_
   refine JL.es [(4, .slice Aa86 out85.length c87), (5, .bool true)] ?_
   refine J.ret ?_
   obtain rfl := Option.some.inj H0
   exact JQ.done' (rs := [.tmp 4, .tmp 5]) (vs := [.slice Aa86 out85.length c87, .bool true]) [At.row Aa86 c87 49 fl_Count.kd out85 false] (.inr rfl) ⟨by kernel_rfl, by kernel_rfl, trivial⟩ (fun _ h => Heap.to h) ⟨Aa86, c87, rfl, rfl⟩

theorem accum_merge.ok (a1 : Acc) (Aa2 : Option Addr) (c3 : Nat) (Aa5 : Option Addr) (c6 : Nat) (Aa8 : Option Addr) (c9 : Nat) (b11 : Acc) (Aa12 : Option Addr) (c13 : Nat) (Aa15 : Option Addr) (c16 : Nat) (Aa18 : Option Addr) (c19 : Nat) (r : (Acc × Int)) (H0 : accum_merge.f a1 b11 = some r) :
    Does Try.prog 28 [.agg #[.slice Aa2 a1.Sums.length c3, .slice Aa5 a1.Ns.length c6, .slice Aa8 a1.Spans.length c9], .agg #[.slice Aa12 b11.Sums.length c13, .slice Aa15 b11.Ns.length c16, .slice Aa18 b11.Spans.length c19]].toArray [At.rd Aa2 c3 fl_Count.kd a1.Sums true, At.rd Aa5 c6 fl_Count.kd a1.Ns true, At.rd Aa8 c9 fl_Gap.kd a1.Spans true, At.rd Aa12 c13 fl_Count.kd b11.Sums true, At.rd Aa15 c16 fl_Count.kd b11.Ns true, At.rd Aa18 c19 fl_Gap.kd b11.Spans true] [] false (fun v Δ => ∃ A1001 : Option Addr, ∃ c1001 : Nat, ∃ A1002 : Option Addr, ∃ c1002 : Nat, ∃ A1003 : Option Addr, ∃ c1003 : Nat, v = .tuple #[.agg #[.slice A1001 r.1.Sums.length c1001, .slice A1002 r.1.Ns.length c1002, .slice A1003 r.1.Spans.length c1003], .int .i64 r.2] ∧ Δ = [At.row A1001 c1001 49 fl_Count.kd r.1.Sums false, At.row A1002 c1002 49 fl_Count.kd r.1.Ns false, At.row A1003 c1003 51 fl_Gap.kd r.1.Spans false]) := by
 refine Does.body (vs := [.agg #[.slice Aa2 a1.Sums.length c3, .slice Aa5 a1.Ns.length c6, .slice Aa8 a1.Spans.length c9], .agg #[.slice Aa12 b11.Sums.length c13, .slice Aa15 b11.Ns.length c16, .slice Aa18 b11.Spans.length c19]]) Try.func28 rfl ⟨.inl rfl, .inl rfl, .inl rfl, .inl rfl, .inl rfl, .inl rfl, trivial⟩ trivial fun w S => ?_
 unfold accum_merge.f at H0
 refine J.sr ?_
 refine JL.box [.slice Aa2 a1.Sums.length c3, .slice Aa5 a1.Ns.length c6, .slice Aa8 a1.Spans.length c9] fun b21 => ?_
 refine JL.box [.slice Aa12 b11.Sums.length c13, .slice Aa15 b11.Ns.length c16, .slice Aa18 b11.Spans.length c19] fun b22 => ?_
 refine JL.alloc [.slice none 0 0, .slice none 0 0, .slice none 0 0] fun b23 => ?_
 refine JL.as (.int .i64 0) ?_
 refine JL.es [(2, .pointer (some ⟨b21, 0, none⟩)), (3, .pointer (some ⟨b22, 0, none⟩)), (4, .pointer (some ⟨b23, 0, none⟩))] ?_
 refine J.sr ?_
 refine JL.pur (.pointer (some ⟨b21, 2, none⟩)) (some 13) ?_
 refine JL.val (.slice Aa8 a1.Spans.length c9) (some 14) (yields_load_box 6 2 (holds_box b21 25 [.slice Aa2 a1.Sums.length c3, .slice Aa5 a1.Ns.length c6, .slice Aa8 a1.Spans.length c9]) tyAgg_23) ?_
 refine JL.pur (.pointer (some ⟨b22, 2, none⟩)) (some 15) ?_
 refine JL.val (.slice Aa18 b11.Spans.length c19) (some 16) (yields_load_box 7 2 (holds_box b22 25 [.slice Aa12 b11.Sums.length c13, .slice Aa15 b11.Ns.length c16, .slice Aa18 b11.Spans.length c19]) tyAgg_23) ?_
 obtain ⟨t24, hc25, H0⟩ := bind_some H0
 refine JL.call [] [] [] (accum_join.ok a1.Spans Aa8 c9 b11.Spans Aa18 c19 _ hc25) ⟨pre_any 2 (view_rd Aa8 c9 fl_Gap.kd a1.Spans true true), ⟨pre_any 5 (view_rd Aa18 c19 fl_Gap.kd b11.Spans true true), trivial⟩⟩ ?_
 rintro _ _ ⟨Aa26, c27, rfl, rfl⟩
 refine JL.mv (.tuple #[.slice Aa26 t24.1.length c27, .int .i64 t24.2]) ?_
 refine JL.pur (.slice Aa26 t24.1.length c27) (some 18) ?_
 refine JL.pur (.int .i64 t24.2) (some 19) ?_
 refine JL.as (.slice Aa26 t24.1.length c27) ?_
 refine JL.as (.int .i64 t24.2) ?_
 refine JL.es [(2, .pointer (some ⟨b21, 0, none⟩)), (3, .pointer (some ⟨b22, 0, none⟩)), (4, .pointer (some ⟨b23, 0, none⟩)), (6, .slice Aa26 t24.1.length c27), (7, .int .i64 t24.2)] ?_
 refine J.seq ?_
 refine J.sr ?_
 refine JL.mv (.int .i64 t24.2) ?_
 refine JL.pur (.bool (!decide (t24.2 = 0))) (some 21) ?_
 refine JL.es [(2, .pointer (some ⟨b21, 0, none⟩)), (3, .pointer (some ⟨b22, 0, none⟩)), (4, .pointer (some ⟨b23, 0, none⟩)), (6, .slice Aa26 t24.1.length c27), (7, .int .i64 t24.2), (21, .bool (!decide (t24.2 = 0)))] ?_
 rcases ite_cases H0 with ⟨h29, H0⟩ | ⟨h29, H0⟩
 · refine J.cond_true h29 ?_
   refine J.sr ?_
   refine JL.pur (.agg #[.slice none 0 0, .slice none 0 0, .slice none 0 0]) (some 22) ?_
   refine JL.mv (.int .i64 t24.2) ?_
   refine JL.store 8 b23 0 25 [.slice none 0 0, .slice none 0 0, .slice none 0 0] [.slice none 0 0, .slice none 0 0, .slice none 0 0] tySize_25 ?_
   refine JL.as (.int .i64 t24.2) ?_
   refine JL.es [(4, .pointer (some ⟨b23, 0, none⟩)), (5, .int .i64 t24.2)] ?_
   refine JQ.mask [At.box b23 25 [.slice none 0 0, .slice none 0 0, .slice none 0 0]] [false, false, false, false, false, false, false, false, true, false] ?_
   refine J.ret ?_
   refine JQ.then_ret ?_
   obtain rfl := Option.some.inj H0
   exact JQ.done' (rs := [.cell 4 25, .tmp 5]) (vs := [.agg #[.slice none 0 0, .slice none 0 0, .slice none 0 0], .int .i64 t24.2]) [At.row none 0 49 fl_Count.kd ([] : List Count) false, At.row none 0 49 fl_Count.kd ([] : List Count) false, At.row none 0 51 fl_Gap.kd ([] : List Gap) false] (.inr rfl) ⟨⟨b23, 0, _, _, by kernel_rfl, by kernel_rfl, holds_box b23 25 [.slice none 0 0, .slice none 0 0, .slice none 0 0], .inl ⟨tyAgg_25, tySize_25, rfl⟩⟩, by kernel_rfl, trivial⟩ (fun _ h => Heap.to (Heap.pick [1, 2, 3] (by decide) (Heap.addRow0 (α := Gap) 51 fl_Gap.kd false (Heap.addRow0 (α := Count) 49 fl_Count.kd false (Heap.addRow0 (α := Count) 49 fl_Count.kd false h))))) ⟨none, 0, none, 0, none, 0, rfl, rfl⟩
 · refine J.cond_false h29 ?_
   refine J.skip ?_
   refine JQ.ts [(2, .pointer (some ⟨b21, 0, none⟩)), (3, .pointer (some ⟨b22, 0, none⟩)), (4, .pointer (some ⟨b23, 0, none⟩)), (6, .slice Aa26 t24.1.length c27)] ?_
   refine J.sr ?_
   refine JL.pur (.pointer (some ⟨b21, 0, none⟩)) (some 25) ?_
   refine JL.val (.slice Aa2 a1.Sums.length c3) (some 26) (yields_load_box 6 0 (holds_box b21 25 [.slice Aa2 a1.Sums.length c3, .slice Aa5 a1.Ns.length c6, .slice Aa8 a1.Spans.length c9]) tyAgg_22) ?_
   refine JL.pur (.pointer (some ⟨b22, 0, none⟩)) (some 27) ?_
   refine JL.val (.slice Aa12 b11.Sums.length c13) (some 28) (yields_load_box 7 0 (holds_box b22 25 [.slice Aa12 b11.Sums.length c13, .slice Aa15 b11.Ns.length c16, .slice Aa18 b11.Spans.length c19]) tyAgg_22) ?_
   obtain ⟨t30, hc31, H0⟩ := bind_some H0
   refine JL.call [] [] [] (accum_sum.ok a1.Sums Aa2 c3 b11.Sums Aa12 c13 _ hc31) ⟨pre_any 0 (view_rd Aa2 c3 fl_Count.kd a1.Sums true true), ⟨pre_any 3 (view_rd Aa12 c13 fl_Count.kd b11.Sums true true), trivial⟩⟩ ?_
   rintro _ _ ⟨Aa32, c33, rfl, rfl⟩
   refine JL.mv (.tuple #[.slice Aa32 t30.1.length c33, .bool t30.2]) ?_
   refine JL.pur (.slice Aa32 t30.1.length c33) (some 30) ?_
   refine JL.pur (.bool t30.2) (some 31) ?_
   refine JL.as (.slice Aa32 t30.1.length c33) ?_
   refine JL.as (.bool t30.2) ?_
   refine JL.es [(2, .pointer (some ⟨b21, 0, none⟩)), (3, .pointer (some ⟨b22, 0, none⟩)), (4, .pointer (some ⟨b23, 0, none⟩)), (6, .slice Aa26 t24.1.length c27), (8, .slice Aa32 t30.1.length c33), (9, .bool t30.2)] ?_
   refine J.sr ?_
   refine JL.pur (.pointer (some ⟨b21, 1, none⟩)) (some 33) ?_
   refine JL.val (.slice Aa5 a1.Ns.length c6) (some 34) (yields_load_box 6 1 (holds_box b21 25 [.slice Aa2 a1.Sums.length c3, .slice Aa5 a1.Ns.length c6, .slice Aa8 a1.Spans.length c9]) tyAgg_22) ?_
   refine JL.pur (.pointer (some ⟨b22, 1, none⟩)) (some 35) ?_
   refine JL.val (.slice Aa15 b11.Ns.length c16) (some 36) (yields_load_box 7 1 (holds_box b22 25 [.slice Aa12 b11.Sums.length c13, .slice Aa15 b11.Ns.length c16, .slice Aa18 b11.Spans.length c19]) tyAgg_22) ?_
   obtain ⟨t35, hc36, H0⟩ := bind_some H0
   refine JL.call [] [] [] (accum_sum.ok a1.Ns Aa5 c6 b11.Ns Aa15 c16 _ hc36) ⟨pre_any 1 (view_rd Aa5 c6 fl_Count.kd a1.Ns true true), ⟨pre_any 4 (view_rd Aa15 c16 fl_Count.kd b11.Ns true true), trivial⟩⟩ ?_
   rintro _ _ ⟨Aa37, c38, rfl, rfl⟩
   refine JL.mv (.tuple #[.slice Aa37 t35.1.length c38, .bool t35.2]) ?_
   refine JL.pur (.slice Aa37 t35.1.length c38) (some 38) ?_
   refine JL.pur (.bool t35.2) (some 39) ?_
   refine JL.as (.slice Aa37 t35.1.length c38) ?_
   refine JL.as (.bool t35.2) ?_
   refine JL.es [(4, .pointer (some ⟨b23, 0, none⟩)), (6, .slice Aa26 t24.1.length c27), (8, .slice Aa32 t30.1.length c33), (9, .bool t30.2), (10, .slice Aa37 t35.1.length c38), (11, .bool t35.2)] ?_
   refine JQ.mask [At.box b23 25 [.slice none 0 0, .slice none 0 0, .slice none 0 0], At.row Aa26 c27 51 fl_Gap.kd t24.1 false, At.row Aa32 c33 49 fl_Count.kd t30.1 false, At.row Aa37 c38 49 fl_Count.kd t35.1 false] [false, false, false, false, false, false, false, false, true, true, true, true] ?_
   refine J.seq ?_
   refine J.join (T := Bool) (G := Unit) (fun t => accum_merge.k1 t24 t30 t35 t = some r) (fun t g => [(4, .pointer (some ⟨b23, 0, none⟩)), (6, .slice Aa26 t24.1.length c27), (8, .slice Aa32 t30.1.length c33), (10, .slice Aa37 t35.1.length c38), (45, .bool t)]) (fun t g => [At.box b23 25 [.slice none 0 0, .slice none 0 0, .slice none 0 0], At.row Aa26 c27 51 fl_Gap.kd t24.1 false, At.row Aa32 c33 49 fl_Count.kd t30.1 false, At.row Aa37 c38 49 fl_Count.kd t35.1 false]) ?_ ?_
   · refine J.region ?_
     refine JL.mv (.bool t30.2) ?_
     refine JL.pur (.bool (!t30.2)) (some 41) ?_
     refine JL.mv (.bool (!t30.2)) ?_
     rcases ite_cases H0 with ⟨h44, H0⟩ | ⟨h44, H0⟩
     · refine JL.off 2 42 false (some 43) h44 ?_
       refine JL.off 2 42 false (some 44) h44 ?_
       refine JL.val (.bool true) (some 45) (gives_pickT h44) ?_
       refine JL.en ?_
       exact JQ.meet true () H0 (fun _ h => Heap.to h)
     · refine JL.on 2 42 h44 ?_
       refine JL.mv (.bool t35.2) ?_
       refine JL.on 2 42 h44 ?_
       refine JL.pur (.bool (!t35.2)) (some 44) ?_
       refine JL.val (.bool (!t35.2)) (some 45) (gives_pickF h44) ?_
       refine JL.en ?_
       exact JQ.meet (!t35.2) () H0 (fun _ h => Heap.to h)
   · clear H0
     rintro x41 ⟨⟩ H0
     replace H0 : accum_merge.k1 t24 t30 t35 x41 = some r := H0
     unfold accum_merge.k1 at H0
     refine JQ.sub [(4, .pointer (some ⟨b23, 0, none⟩)), (6, .slice Aa26 t24.1.length c27), (8, .slice Aa32 t30.1.length c33), (10, .slice Aa37 t35.1.length c38), (45, .bool x41)] ?_
     refine JQ.turn (Δ' := [At.box b23 25 [.slice none 0 0, .slice none 0 0, .slice none 0 0], At.row Aa26 c27 51 fl_Gap.kd t24.1 false, At.row Aa32 c33 49 fl_Count.kd t30.1 false, At.row Aa37 c38 49 fl_Count.kd t35.1 false]) (fun _ h => h.to) ?_
     rcases ite_cases H0 with ⟨h42, H0⟩ | ⟨h42, H0⟩
     · refine J.cond_true h42 ?_
       refine J.sr ?_
       refine JL.pur (.agg #[.slice none 0 0, .slice none 0 0, .slice none 0 0]) (some 46) ?_
       refine JL.store 0 b23 0 25 [.slice none 0 0, .slice none 0 0, .slice none 0 0] [.slice none 0 0, .slice none 0 0, .slice none 0 0] tySize_25 ?_
       refine JL.as (.int .i64 16) ?_
       refine JL.es [(4, .pointer (some ⟨b23, 0, none⟩)), (5, .int .i64 16)] ?_
       refine JQ.mask [At.box b23 25 [.slice none 0 0, .slice none 0 0, .slice none 0 0]] [true, false, false, false] ?_
       refine J.ret ?_
       refine JQ.then_ret ?_
       obtain rfl := Option.some.inj H0
       exact JQ.done' (rs := [.cell 4 25, .tmp 5]) (vs := [.agg #[.slice none 0 0, .slice none 0 0, .slice none 0 0], .int .i64 16]) [At.row none 0 49 fl_Count.kd ([] : List Count) false, At.row none 0 49 fl_Count.kd ([] : List Count) false, At.row none 0 51 fl_Gap.kd ([] : List Gap) false] (.inr rfl) ⟨⟨b23, 0, _, _, by kernel_rfl, by kernel_rfl, holds_box b23 25 [.slice none 0 0, .slice none 0 0, .slice none 0 0], .inl ⟨tyAgg_25, tySize_25, rfl⟩⟩, by kernel_rfl, trivial⟩ (fun _ h => Heap.to (Heap.pick [1, 2, 3] (by decide) (Heap.addRow0 (α := Gap) 51 fl_Gap.kd false (Heap.addRow0 (α := Count) 49 fl_Count.kd false (Heap.addRow0 (α := Count) 49 fl_Count.kd false h))))) ⟨none, 0, none, 0, none, 0, rfl, rfl⟩
     · refine J.cond_false h42 ?_
       refine J.skip ?_
       refine JQ.ts [(4, .pointer (some ⟨b23, 0, none⟩)), (6, .slice Aa26 t24.1.length c27), (8, .slice Aa32 t30.1.length c33), (10, .slice Aa37 t35.1.length c38)] ?_
       refine J.seq ?_
       refine J.sr ?_
       refine JL.mv (.slice Aa26 t24.1.length c27) ?_
       refine JL.pur (.int .i64 (t24.1.length : Int)) (some 48) ?_
       refine JL.pur (.bool (decide (64 < (t24.1.length : Int)))) (some 49) ?_
       refine JL.es [(4, .pointer (some ⟨b23, 0, none⟩)), (6, .slice Aa26 t24.1.length c27), (8, .slice Aa32 t30.1.length c33), (10, .slice Aa37 t35.1.length c38), (49, .bool (decide (64 < (t24.1.length : Int))))] ?_
       rcases ite_cases H0 with ⟨h43, H0⟩ | ⟨h43, H0⟩
       · refine J.cond_true h43 ?_
         refine J.sr ?_
         refine JL.pur (.agg #[.slice none 0 0, .slice none 0 0, .slice none 0 0]) (some 50) ?_
         refine JL.store 0 b23 0 25 [.slice none 0 0, .slice none 0 0, .slice none 0 0] [.slice none 0 0, .slice none 0 0, .slice none 0 0] tySize_25 ?_
         refine JL.as (.int .i64 4) ?_
         refine JL.es [(4, .pointer (some ⟨b23, 0, none⟩)), (5, .int .i64 4)] ?_
         refine JQ.mask [At.box b23 25 [.slice none 0 0, .slice none 0 0, .slice none 0 0]] [true, false, false, false] ?_
         refine J.ret ?_
         refine JQ.then_ret ?_
         obtain rfl := Option.some.inj H0
         exact JQ.done' (rs := [.cell 4 25, .tmp 5]) (vs := [.agg #[.slice none 0 0, .slice none 0 0, .slice none 0 0], .int .i64 4]) [At.row none 0 49 fl_Count.kd ([] : List Count) false, At.row none 0 49 fl_Count.kd ([] : List Count) false, At.row none 0 51 fl_Gap.kd ([] : List Gap) false] (.inr rfl) ⟨⟨b23, 0, _, _, by kernel_rfl, by kernel_rfl, holds_box b23 25 [.slice none 0 0, .slice none 0 0, .slice none 0 0], .inl ⟨tyAgg_25, tySize_25, rfl⟩⟩, by kernel_rfl, trivial⟩ (fun _ h => Heap.to (Heap.pick [1, 2, 3] (by decide) (Heap.addRow0 (α := Gap) 51 fl_Gap.kd false (Heap.addRow0 (α := Count) 49 fl_Count.kd false (Heap.addRow0 (α := Count) 49 fl_Count.kd false h))))) ⟨none, 0, none, 0, none, 0, rfl, rfl⟩
       · refine J.cond_false h43 ?_
         refine J.skip ?_
         refine JQ.ts [(4, .pointer (some ⟨b23, 0, none⟩)), (6, .slice Aa26 t24.1.length c27), (8, .slice Aa32 t30.1.length c33), (10, .slice Aa37 t35.1.length c38)] ?_
         refine J.sr ?_
         refine JL.mv (.slice Aa32 t30.1.length c33) ?_
         refine JL.mv (.slice Aa37 t35.1.length c38) ?_
         refine JL.mv (.slice Aa26 t24.1.length c27) ?_
         refine JL.pur (.agg #[.slice Aa32 t30.1.length c33, .slice Aa37 t35.1.length c38, .slice Aa26 t24.1.length c27]) (some 54) ?_
         refine JL.store 0 b23 0 25 [.slice none 0 0, .slice none 0 0, .slice none 0 0] [.slice Aa32 t30.1.length c33, .slice Aa37 t35.1.length c38, .slice Aa26 t24.1.length c27] tySize_25 ?_
         refine JL.as (.int .i64 0) ?_
         refine JL.es [(4, .pointer (some ⟨b23, 0, none⟩)), (5, .int .i64 0)] ?_
         refine J.ret ?_
         obtain rfl := Option.some.inj H0
         exact JQ.done' (rs := [.cell 4 25, .tmp 5]) (vs := [.agg #[.slice Aa32 t30.1.length c33, .slice Aa37 t35.1.length c38, .slice Aa26 t24.1.length c27], .int .i64 0]) [At.row Aa32 c33 49 fl_Count.kd t30.1 false, At.row Aa37 c38 49 fl_Count.kd t35.1 false, At.row Aa26 c27 51 fl_Gap.kd t24.1 false] (.inr rfl) ⟨⟨b23, 0, _, _, by kernel_rfl, by kernel_rfl, holds_box b23 25 [.slice Aa32 t30.1.length c33, .slice Aa37 t35.1.length c38, .slice Aa26 t24.1.length c27], .inl ⟨tyAgg_25, tySize_25, rfl⟩⟩, by kernel_rfl, trivial⟩ (fun _ h => Heap.to (Heap.pick [2, 3, 1] (by decide) h)) ⟨Aa32, c33, Aa37, c38, Aa26, c27, rfl, rfl⟩

theorem accum_Add.ok (a1 : Acc) (Aa2 : Option Addr) (c3 : Nat) (Aa5 : Option Addr) (c6 : Nat) (Aa8 : Option Addr) (c9 : Nat) (l11 : (List Lag)) (Aa12 : Option Addr) (c13 : Nat) (at15 : Int) (many16 : Int) (r : (Acc × Int)) (H0 : accum_Add.f a1 l11 at15 many16 = some r) :
    Does Try.prog 20 [.agg #[.slice Aa2 a1.Sums.length c3, .slice Aa5 a1.Ns.length c6, .slice Aa8 a1.Spans.length c9], .slice Aa12 l11.length c13, .int .i64 at15, .int .i64 many16].toArray [At.rd Aa2 c3 fl_Count.kd a1.Sums true, At.rd Aa5 c6 fl_Count.kd a1.Ns true, At.rd Aa8 c9 fl_Gap.kd a1.Spans true, At.rd Aa12 c13 fl_Lag.kd l11 true] [] false (fun v Δ => ∃ A1001 : Option Addr, ∃ c1001 : Nat, ∃ A1002 : Option Addr, ∃ c1002 : Nat, ∃ A1003 : Option Addr, ∃ c1003 : Nat, v = .tuple #[.agg #[.slice A1001 r.1.Sums.length c1001, .slice A1002 r.1.Ns.length c1002, .slice A1003 r.1.Spans.length c1003], .int .i64 r.2] ∧ Δ = [At.row A1001 c1001 49 fl_Count.kd r.1.Sums false, At.row A1002 c1002 49 fl_Count.kd r.1.Ns false, At.row A1003 c1003 51 fl_Gap.kd r.1.Spans false]) := by
 refine Does.body (vs := [.agg #[.slice Aa2 a1.Sums.length c3, .slice Aa5 a1.Ns.length c6, .slice Aa8 a1.Spans.length c9], .slice Aa12 l11.length c13, .int .i64 at15, .int .i64 many16]) Try.func20 rfl ⟨.inl rfl, .inl rfl, .inl rfl, .inl rfl, trivial⟩ trivial fun w S => ?_
 unfold accum_Add.f at H0
 refine J.sr ?_
 refine JL.box [.slice Aa2 a1.Sums.length c3, .slice Aa5 a1.Ns.length c6, .slice Aa8 a1.Spans.length c9] fun b17 => ?_
 refine JL.alloc [.slice none 0 0, .slice none 0 0, .slice none 0 0] fun b18 => ?_
 refine JL.as (.int .i64 0) ?_
 refine JL.es [(1, .slice Aa12 l11.length c13), (2, .int .i64 at15), (3, .int .i64 many16), (4, .pointer (some ⟨b17, 0, none⟩)), (8, .pointer (some ⟨b18, 0, none⟩))] ?_
 refine J.seq ?_
 refine J.sr ?_
 refine JL.val (.agg #[.slice Aa2 a1.Sums.length c3, .slice Aa5 a1.Ns.length c6, .slice Aa8 a1.Spans.length c9]) (some 15) (yields_load_boxes 4 0 [.slice Aa2 a1.Sums.length c3, .slice Aa5 a1.Ns.length c6, .slice Aa8 a1.Spans.length c9] (holds_box b17 25 [.slice Aa2 a1.Sums.length c3, .slice Aa5 a1.Ns.length c6, .slice Aa8 a1.Spans.length c9]) tyAgg_25 tySize_25) ?_
 obtain ⟨t19, hc20, H0⟩ := bind_some H0
 refine JL.call [] [] [] (accum_Check.ok a1 Aa2 c3 Aa5 c6 Aa8 c9 _ hc20) ⟨pre_any 0 (view_rd Aa2 c3 fl_Count.kd a1.Sums true true), ⟨pre_any 1 (view_rd Aa5 c6 fl_Count.kd a1.Ns true true), ⟨pre_any 2 (view_rd Aa8 c9 fl_Gap.kd a1.Spans true true), trivial⟩⟩⟩ ?_
 rintro _ _ ⟨rfl, rfl⟩
 refine JL.as (.int .i64 t19) ?_
 refine JL.es [(1, .slice Aa12 l11.length c13), (2, .int .i64 at15), (3, .int .i64 many16), (4, .pointer (some ⟨b17, 0, none⟩)), (8, .pointer (some ⟨b18, 0, none⟩)), (10, .int .i64 t19)] ?_
 refine J.sr ?_
 refine JL.mv (.int .i64 t19) ?_
 refine JL.pur (.bool (!decide (t19 = 0))) (some 18) ?_
 refine JL.es [(1, .slice Aa12 l11.length c13), (2, .int .i64 at15), (3, .int .i64 many16), (4, .pointer (some ⟨b17, 0, none⟩)), (8, .pointer (some ⟨b18, 0, none⟩)), (10, .int .i64 t19), (18, .bool (!decide (t19 = 0)))] ?_
 rcases ite_cases H0 with ⟨h21, H0⟩ | ⟨h21, H0⟩
 · refine J.cond_true h21 ?_
   refine J.sr ?_
   refine JL.pur (.agg #[.slice none 0 0, .slice none 0 0, .slice none 0 0]) (some 19) ?_
   refine JL.mv (.int .i64 t19) ?_
   refine JL.store 5 b18 0 25 [.slice none 0 0, .slice none 0 0, .slice none 0 0] [.slice none 0 0, .slice none 0 0, .slice none 0 0] tySize_25 ?_
   refine JL.as (.int .i64 t19) ?_
   refine JL.es [(8, .pointer (some ⟨b18, 0, none⟩)), (9, .int .i64 t19)] ?_
   refine JQ.mask [At.box b18 25 [.slice none 0 0, .slice none 0 0, .slice none 0 0]] [false, false, false, false, false, true] ?_
   refine J.ret ?_
   refine JQ.then_ret ?_
   obtain rfl := Option.some.inj H0
   exact JQ.done' (rs := [.cell 8 25, .tmp 9]) (vs := [.agg #[.slice none 0 0, .slice none 0 0, .slice none 0 0], .int .i64 t19]) [At.row none 0 49 fl_Count.kd ([] : List Count) false, At.row none 0 49 fl_Count.kd ([] : List Count) false, At.row none 0 51 fl_Gap.kd ([] : List Gap) false] (.inr rfl) ⟨⟨b18, 0, _, _, by kernel_rfl, by kernel_rfl, holds_box b18 25 [.slice none 0 0, .slice none 0 0, .slice none 0 0], .inl ⟨tyAgg_25, tySize_25, rfl⟩⟩, by kernel_rfl, trivial⟩ (fun _ h => Heap.to (Heap.pick [1, 2, 3] (by decide) (Heap.addRow0 (α := Gap) 51 fl_Gap.kd false (Heap.addRow0 (α := Count) 49 fl_Count.kd false (Heap.addRow0 (α := Count) 49 fl_Count.kd false h))))) ⟨none, 0, none, 0, none, 0, rfl, rfl⟩
 · refine J.cond_false h21 ?_
   refine J.skip ?_
   refine JQ.ts [(1, .slice Aa12 l11.length c13), (2, .int .i64 at15), (3, .int .i64 many16), (4, .pointer (some ⟨b17, 0, none⟩)), (8, .pointer (some ⟨b18, 0, none⟩))] ?_
   refine J.seq ?_
   refine J.sr ?_
   refine JL.mv (.slice Aa12 l11.length c13) ?_
   obtain ⟨t22, hc23, H0⟩ := bind_some H0
   refine JL.call [] [] [] (lag_Check.ok l11 Aa12 c13 _ hc23) ⟨pre_any 3 (view_rd Aa12 c13 fl_Lag.kd l11 true true), trivial⟩ ?_
   rintro _ _ ⟨rfl, rfl⟩
   refine JL.as (.int .i64 t22) ?_
   refine JL.es [(1, .slice Aa12 l11.length c13), (2, .int .i64 at15), (3, .int .i64 many16), (4, .pointer (some ⟨b17, 0, none⟩)), (8, .pointer (some ⟨b18, 0, none⟩)), (11, .int .i64 t22)] ?_
   refine J.sr ?_
   refine JL.mv (.int .i64 t22) ?_
   refine JL.pur (.bool (!decide (t22 = 0))) (some 24) ?_
   refine JL.es [(1, .slice Aa12 l11.length c13), (2, .int .i64 at15), (3, .int .i64 many16), (4, .pointer (some ⟨b17, 0, none⟩)), (8, .pointer (some ⟨b18, 0, none⟩)), (11, .int .i64 t22), (24, .bool (!decide (t22 = 0)))] ?_
   rcases ite_cases H0 with ⟨h24, H0⟩ | ⟨h24, H0⟩
   · refine J.cond_true h24 ?_
     refine J.sr ?_
     refine JL.pur (.agg #[.slice none 0 0, .slice none 0 0, .slice none 0 0]) (some 25) ?_
     refine JL.mv (.int .i64 t22) ?_
     refine JL.store 5 b18 0 25 [.slice none 0 0, .slice none 0 0, .slice none 0 0] [.slice none 0 0, .slice none 0 0, .slice none 0 0] tySize_25 ?_
     refine JL.as (.int .i64 t22) ?_
     refine JL.es [(8, .pointer (some ⟨b18, 0, none⟩)), (9, .int .i64 t22)] ?_
     refine JQ.mask [At.box b18 25 [.slice none 0 0, .slice none 0 0, .slice none 0 0]] [false, false, false, false, false, true] ?_
     refine J.ret ?_
     refine JQ.then_ret ?_
     obtain rfl := Option.some.inj H0
     exact JQ.done' (rs := [.cell 8 25, .tmp 9]) (vs := [.agg #[.slice none 0 0, .slice none 0 0, .slice none 0 0], .int .i64 t22]) [At.row none 0 49 fl_Count.kd ([] : List Count) false, At.row none 0 49 fl_Count.kd ([] : List Count) false, At.row none 0 51 fl_Gap.kd ([] : List Gap) false] (.inr rfl) ⟨⟨b18, 0, _, _, by kernel_rfl, by kernel_rfl, holds_box b18 25 [.slice none 0 0, .slice none 0 0, .slice none 0 0], .inl ⟨tyAgg_25, tySize_25, rfl⟩⟩, by kernel_rfl, trivial⟩ (fun _ h => Heap.to (Heap.pick [1, 2, 3] (by decide) (Heap.addRow0 (α := Gap) 51 fl_Gap.kd false (Heap.addRow0 (α := Count) 49 fl_Count.kd false (Heap.addRow0 (α := Count) 49 fl_Count.kd false h))))) ⟨none, 0, none, 0, none, 0, rfl, rfl⟩
   · refine J.cond_false h24 ?_
     refine J.skip ?_
     refine JQ.ts [(1, .slice Aa12 l11.length c13), (2, .int .i64 at15), (3, .int .i64 many16), (4, .pointer (some ⟨b17, 0, none⟩)), (8, .pointer (some ⟨b18, 0, none⟩))] ?_
     refine J.seq ?_
     refine J.join (T := Bool) (G := Unit) (fun t => accum_Add.k1 a1 l11 at15 many16 t = some r) (fun t g => [(1, .slice Aa12 l11.length c13), (2, .int .i64 at15), (3, .int .i64 many16), (4, .pointer (some ⟨b17, 0, none⟩)), (8, .pointer (some ⟨b18, 0, none⟩)), (50, .bool t)]) (fun t g => [At.rd Aa12 c13 fl_Lag.kd l11 true, At.box b17 25 [.slice Aa2 a1.Sums.length c3, .slice Aa5 a1.Ns.length c6, .slice Aa8 a1.Spans.length c9], At.rd Aa2 c3 fl_Count.kd a1.Sums true, At.rd Aa5 c6 fl_Count.kd a1.Ns true, At.rd Aa8 c9 fl_Gap.kd a1.Spans true, At.box b18 25 [.slice none 0 0, .slice none 0 0, .slice none 0 0]]) ?_ ?_
     · refine J.region ?_
       refine JL.mv (.slice Aa12 l11.length c13) ?_
       refine JL.pur (.int .i64 (l11.length : Int)) (some 28) ?_
       refine JL.pur (.pointer (some ⟨b17, 0, none⟩)) (some 29) ?_
       refine JL.val (.slice Aa2 a1.Sums.length c3) (some 30) (yields_load_box 4 0 (holds_box b17 25 [.slice Aa2 a1.Sums.length c3, .slice Aa5 a1.Ns.length c6, .slice Aa8 a1.Spans.length c9]) tyAgg_22) ?_
       refine JL.pur (.int .i64 (a1.Sums.length : Int)) (some 31) ?_
       refine JL.pur (.bool (!decide ((l11.length : Int) = (a1.Sums.length : Int)))) (some 32) ?_
       refine JL.mv (.bool (!decide ((l11.length : Int) = (a1.Sums.length : Int)))) ?_
       rcases ite_cases H0 with ⟨h153, H0⟩ | ⟨h153, H0⟩
       · refine JL.off 6 33 false (some 34) h153 ?_
         refine JL.off 6 33 false (some 35) h153 ?_
         refine JL.val (.bool true) (some 36) (gives_pickT h153) ?_
         refine JL.mv (.bool true) ?_
         refine JL.off 10 37 false (some 38) rfl ?_
         refine JL.off 10 37 false (some 39) rfl ?_
         refine JL.val (.bool true) (some 40) (gives_pickT rfl) ?_
         refine JL.mv (.bool true) ?_
         refine JL.off 14 41 false (some 42) rfl ?_
         refine JL.off 14 41 false (some 43) rfl ?_
         refine JL.val (.bool true) (some 44) (gives_pickT rfl) ?_
         refine JL.mv (.bool true) ?_
         refine JL.off 18 45 false (some 46) rfl ?_
         refine JL.off 18 45 false (some 47) rfl ?_
         refine JL.off 18 45 false (some 48) rfl ?_
         refine JL.off 18 45 false (some 49) rfl ?_
         refine JL.val (.bool true) (some 50) (gives_pickT rfl) ?_
         refine JL.en ?_
         exact JQ.meet true () H0 (fun _ h => Heap.to (Heap.pick [3, 4, 0, 1, 2, 5] (by decide) h))
       · refine JL.on 6 33 h153 ?_
         refine JL.mv (.int .i64 many16) ?_
         refine JL.on 6 33 h153 ?_
         refine JL.pur (.bool (decide (many16 < 1))) (some 35) ?_
         refine JL.val (.bool (decide (many16 < 1))) (some 36) (gives_pickF h153) ?_
         refine JL.mv (.bool (decide (many16 < 1))) ?_
         rcases ite_cases H0 with ⟨h154, H0⟩ | ⟨h154, H0⟩
         · refine JL.off 10 37 false (some 38) h154 ?_
           refine JL.off 10 37 false (some 39) h154 ?_
           refine JL.val (.bool true) (some 40) (gives_pickT h154) ?_
           refine JL.mv (.bool true) ?_
           refine JL.off 14 41 false (some 42) rfl ?_
           refine JL.off 14 41 false (some 43) rfl ?_
           refine JL.val (.bool true) (some 44) (gives_pickT rfl) ?_
           refine JL.mv (.bool true) ?_
           refine JL.off 18 45 false (some 46) rfl ?_
           refine JL.off 18 45 false (some 47) rfl ?_
           refine JL.off 18 45 false (some 48) rfl ?_
           refine JL.off 18 45 false (some 49) rfl ?_
           refine JL.val (.bool true) (some 50) (gives_pickT rfl) ?_
           refine JL.en ?_
           exact JQ.meet true () H0 (fun _ h => Heap.to (Heap.pick [3, 4, 0, 1, 2, 5] (by decide) h))
         · refine JL.on 10 37 h154 ?_
           refine JL.mv (.int .i64 many16) ?_
           refine JL.on 10 37 h154 ?_
           refine JL.pur (.bool (decide (256 < many16))) (some 39) ?_
           refine JL.val (.bool (decide (256 < many16))) (some 40) (gives_pickF h154) ?_
           refine JL.mv (.bool (decide (256 < many16))) ?_
           rcases ite_cases H0 with ⟨h155, H0⟩ | ⟨h155, H0⟩
           · refine JL.off 14 41 false (some 42) h155 ?_
             refine JL.off 14 41 false (some 43) h155 ?_
             refine JL.val (.bool true) (some 44) (gives_pickT h155) ?_
             refine JL.mv (.bool true) ?_
             refine JL.off 18 45 false (some 46) rfl ?_
             refine JL.off 18 45 false (some 47) rfl ?_
             refine JL.off 18 45 false (some 48) rfl ?_
             refine JL.off 18 45 false (some 49) rfl ?_
             refine JL.val (.bool true) (some 50) (gives_pickT rfl) ?_
             refine JL.en ?_
             exact JQ.meet true () H0 (fun _ h => Heap.to (Heap.pick [3, 4, 0, 1, 2, 5] (by decide) h))
           · refine JL.on 14 41 h155 ?_
             refine JL.mv (.int .i64 at15) ?_
             refine JL.on 14 41 h155 ?_
             refine JL.pur (.bool (decide (at15 < 0))) (some 43) ?_
             refine JL.val (.bool (decide (at15 < 0))) (some 44) (gives_pickF h155) ?_
             refine JL.mv (.bool (decide (at15 < 0))) ?_
             rcases ite_cases H0 with ⟨h156, H0⟩ | ⟨h156, H0⟩
             · refine JL.off 18 45 false (some 46) h156 ?_
               refine JL.off 18 45 false (some 47) h156 ?_
               refine JL.off 18 45 false (some 48) h156 ?_
               refine JL.off 18 45 false (some 49) h156 ?_
               refine JL.val (.bool true) (some 50) (gives_pickT h156) ?_
               refine JL.en ?_
               exact JQ.meet true () H0 (fun _ h => Heap.to (Heap.pick [3, 4, 0, 1, 2, 5] (by decide) h))
             · refine JL.on 18 45 h156 ?_
               refine JL.mv (.int .i64 at15) ?_
               refine JL.on 18 45 h156 ?_
               refine JL.mv (.int .i64 many16) ?_
               refine JL.on 18 45 h156 ?_
               refine JL.pur (.int .i64 (w64 (1000000000 - many16))) (some 48) ?_
               refine JL.on 18 45 h156 ?_
               refine JL.pur (.bool (decide (w64 (1000000000 - many16) < at15))) (some 49) ?_
               refine JL.val (.bool (decide (w64 (1000000000 - many16) < at15))) (some 50) (gives_pickF h156) ?_
               refine JL.en ?_
               exact JQ.meet (decide (w64 (1000000000 - many16) < at15)) () H0 (fun _ h => Heap.to (Heap.pick [3, 4, 0, 1, 2, 5] (by decide) h))
     · clear H0
       rintro x29 ⟨⟩ H0
       replace H0 : accum_Add.k1 a1 l11 at15 many16 x29 = some r := H0
       unfold accum_Add.k1 at H0
       refine JQ.sub [(1, .slice Aa12 l11.length c13), (2, .int .i64 at15), (3, .int .i64 many16), (4, .pointer (some ⟨b17, 0, none⟩)), (8, .pointer (some ⟨b18, 0, none⟩)), (50, .bool x29)] ?_
       refine JQ.turn (Δ' := [At.rd Aa12 c13 fl_Lag.kd l11 true, At.box b17 25 [.slice Aa2 a1.Sums.length c3, .slice Aa5 a1.Ns.length c6, .slice Aa8 a1.Spans.length c9], At.rd Aa2 c3 fl_Count.kd a1.Sums true, At.rd Aa5 c6 fl_Count.kd a1.Ns true, At.rd Aa8 c9 fl_Gap.kd a1.Spans true, At.box b18 25 [.slice none 0 0, .slice none 0 0, .slice none 0 0]]) (fun _ h => h.to) ?_
       rcases ite_cases H0 with ⟨h30, H0⟩ | ⟨h30, H0⟩
       · refine J.cond_true h30 ?_
         refine J.sr ?_
         refine JL.pur (.agg #[.slice none 0 0, .slice none 0 0, .slice none 0 0]) (some 51) ?_
         refine JL.store 5 b18 0 25 [.slice none 0 0, .slice none 0 0, .slice none 0 0] [.slice none 0 0, .slice none 0 0, .slice none 0 0] tySize_25 ?_
         refine JL.as (.int .i64 2) ?_
         refine JL.es [(8, .pointer (some ⟨b18, 0, none⟩)), (9, .int .i64 2)] ?_
         refine JQ.mask [At.box b18 25 [.slice none 0 0, .slice none 0 0, .slice none 0 0]] [false, false, false, false, false, true] ?_
         refine J.ret ?_
         refine JQ.then_ret ?_
         obtain rfl := Option.some.inj H0
         exact JQ.done' (rs := [.cell 8 25, .tmp 9]) (vs := [.agg #[.slice none 0 0, .slice none 0 0, .slice none 0 0], .int .i64 2]) [At.row none 0 49 fl_Count.kd ([] : List Count) false, At.row none 0 49 fl_Count.kd ([] : List Count) false, At.row none 0 51 fl_Gap.kd ([] : List Gap) false] (.inr rfl) ⟨⟨b18, 0, _, _, by kernel_rfl, by kernel_rfl, holds_box b18 25 [.slice none 0 0, .slice none 0 0, .slice none 0 0], .inl ⟨tyAgg_25, tySize_25, rfl⟩⟩, by kernel_rfl, trivial⟩ (fun _ h => Heap.to (Heap.pick [1, 2, 3] (by decide) (Heap.addRow0 (α := Gap) 51 fl_Gap.kd false (Heap.addRow0 (α := Count) 49 fl_Count.kd false (Heap.addRow0 (α := Count) 49 fl_Count.kd false h))))) ⟨none, 0, none, 0, none, 0, rfl, rfl⟩
       · refine J.cond_false h30 ?_
         refine J.skip ?_
         refine JQ.ts [(1, .slice Aa12 l11.length c13), (2, .int .i64 at15), (3, .int .i64 many16), (4, .pointer (some ⟨b17, 0, none⟩)), (8, .pointer (some ⟨b18, 0, none⟩))] ?_
         refine J.sr ?_
         refine JL.mv (.int .i64 at15) ?_
         refine JL.mv (.int .i64 many16) ?_
         refine JL.pur (.agg #[.int .i64 at15, .int .i64 many16]) (some 54) ?_
         refine JL.buildSl 51 fl_Gap.kd (([(⟨at15, many16⟩ : Gap)] : List Gap) : List Gap) [.int .i64 at15, .int .i64 many16] false (closes_fl rfl) fun b31 => ?_
         refine JL.pur (.agg #[.slice none 0 0, .slice none 0 0, .slice (some ⟨b31, 0, none⟩) ([(⟨at15, many16⟩ : Gap)] : List Gap).length 1]) (some 56) ?_
         refine JL.alloc [.slice none 0 0, .slice none 0 0, .slice none 0 0] fun b32 => ?_
         refine JL.store 7 b32 0 25 [.slice none 0 0, .slice none 0 0, .slice none 0 0] [.slice none 0 0, .slice none 0 0, .slice (some ⟨b31, 0, none⟩) ([(⟨at15, many16⟩ : Gap)] : List Gap).length 1] tySize_25 ?_
         refine JL.es [(1, .slice Aa12 l11.length c13), (4, .pointer (some ⟨b17, 0, none⟩)), (8, .pointer (some ⟨b18, 0, none⟩)), (12, .pointer (some ⟨b32, 0, none⟩))] ?_
         refine J.seq ?_
         refine J.sr ?_
         refine JL.mv (.slice Aa12 l11.length c13) ?_
         refine JL.pur (.int .i64 (l11.length : Int)) (some 58) ?_
         refine JL.mv (.int .i64 0) ?_
         refine JL.es [(4, .pointer (some ⟨b17, 0, none⟩)), (8, .pointer (some ⟨b18, 0, none⟩)), (12, .pointer (some ⟨b32, 0, none⟩)), (57, .slice Aa12 l11.length c13), (58, .int .i64 (l11.length : Int)), (59, .int .i64 0)] ?_
         obtain ⟨o1, hit, H0⟩ := bind_some H0
         refine J.loop (σ := ((List Count) × (List Count) × Int)) (τ := ((List Count) × (List Count))) (G := ((Option Addr) × Nat × (Option Addr) × Nat)) (G' := ((Option Addr) × Nat × (Option Addr) × Nat)) _ o1 (fun s g => [(4, .pointer (some ⟨b17, 0, none⟩)), (8, .pointer (some ⟨b18, 0, none⟩)), (12, .pointer (some ⟨b32, 0, none⟩)), (57, .slice Aa12 l11.length c13), (58, .int .i64 (l11.length : Int)), (59, .int .i64 s.2.2)]) (fun s g => [At.box b17 25 [.slice Aa2 a1.Sums.length c3, .slice Aa5 a1.Ns.length c6, .slice Aa8 a1.Spans.length c9], At.rd Aa2 c3 fl_Count.kd a1.Sums true, At.rd Aa5 c6 fl_Count.kd a1.Ns true, At.rd Aa8 c9 fl_Gap.kd a1.Spans true, At.box b18 25 [.slice none 0 0, .slice none 0 0, .slice none 0 0], At.box b32 25 [.slice g.1 s.1.length g.2.1, .slice g.2.2.1 s.2.1.length g.2.2.2, .slice (some ⟨b31, 0, none⟩) ([(⟨at15, many16⟩ : Gap)] : List Gap).length 1], At.row g.1 g.2.1 49 fl_Count.kd s.1 false, At.row g.2.2.1 g.2.2.2 49 fl_Count.kd s.2.1 false, At.row (some ⟨b31, 0, none⟩) 1 51 fl_Gap.kd ([(⟨at15, many16⟩ : Gap)] : List Gap) false, At.rd Aa12 c13 fl_Lag.kd l11 true]) (fun t => accum_Add.k3 a1 at15 many16 t.1 t.2 = some r) (fun t g => [(4, .pointer (some ⟨b17, 0, none⟩)), (8, .pointer (some ⟨b18, 0, none⟩)), (12, .pointer (some ⟨b32, 0, none⟩))]) (fun t g => [At.box b17 25 [.slice Aa2 a1.Sums.length c3, .slice Aa5 a1.Ns.length c6, .slice Aa8 a1.Spans.length c9], At.rd Aa2 c3 fl_Count.kd a1.Sums true, At.rd Aa5 c6 fl_Count.kd a1.Ns true, At.rd Aa8 c9 fl_Gap.kd a1.Spans true, At.box b18 25 [.slice none 0 0, .slice none 0 0, .slice none 0 0], At.box b32 25 [.slice g.1 t.1.length g.2.1, .slice g.2.2.1 t.2.length g.2.2.2, .slice (some ⟨b31, 0, none⟩) ([(⟨at15, many16⟩ : Gap)] : List Gap).length 1], At.row g.1 g.2.1 49 fl_Count.kd t.1 false, At.row g.2.2.1 g.2.2.2 49 fl_Count.kd t.2 false, At.row (some ⟨b31, 0, none⟩) 1 51 fl_Gap.kd ([(⟨at15, many16⟩ : Gap)] : List Gap) false]) ([], [], 0) (none, 0, none, 0) hit (fun _ h => Heap.to (Heap.pick [1, 2, 3, 4, 5, 7, 8, 9, 6, 0] (by decide) (Heap.addRow0 (α := Count) 49 fl_Count.kd false (Heap.addRow0 (α := Count) 49 fl_Count.kd false h)))) ?_ ?_
         · clear hit
           rintro ⟨b89, b93, x97⟩ ⟨Aa90, c91, Aa94, c95⟩ st1 H1 hb1 hr1
           replace H1 : accum_Add.s2 l11 b89 b93 x97 = some st1 := H1
           unfold accum_Add.s2 at H1
           refine JQ.sub [(4, .pointer (some ⟨b17, 0, none⟩)), (8, .pointer (some ⟨b18, 0, none⟩)), (12, .pointer (some ⟨b32, 0, none⟩)), (57, .slice Aa12 l11.length c13), (58, .int .i64 (l11.length : Int)), (59, .int .i64 x97)] ?_
           refine JQ.turn (Δ' := [At.box b17 25 [.slice Aa2 a1.Sums.length c3, .slice Aa5 a1.Ns.length c6, .slice Aa8 a1.Spans.length c9], At.rd Aa2 c3 fl_Count.kd a1.Sums true, At.rd Aa5 c6 fl_Count.kd a1.Ns true, At.rd Aa8 c9 fl_Gap.kd a1.Spans true, At.box b18 25 [.slice none 0 0, .slice none 0 0, .slice none 0 0], At.box b32 25 [.slice Aa90 b89.length c91, .slice Aa94 b93.length c95, .slice (some ⟨b31, 0, none⟩) ([(⟨at15, many16⟩ : Gap)] : List Gap).length 1], At.row Aa90 c91 49 fl_Count.kd b89 false, At.row Aa94 c95 49 fl_Count.kd b93 false, At.row (some ⟨b31, 0, none⟩) 1 51 fl_Gap.kd ([(⟨at15, many16⟩ : Gap)] : List Gap) false, At.rd Aa12 c13 fl_Lag.kd l11 true]) (fun _ h => h.to) ?_
           refine J.sr ?_
           refine JL.pur (.bool (decide (x97 < (l11.length : Int)))) (some 60) ?_
           refine JL.en ?_
           refine J.seq ?_
           rcases ite_cases H1 with ⟨h135, H1⟩ | ⟨h135, H1⟩
           · refine J.cond_true h135 ?_
             refine J.skip ?_
             refine JQ.ts [(4, .pointer (some ⟨b17, 0, none⟩)), (8, .pointer (some ⟨b18, 0, none⟩)), (12, .pointer (some ⟨b32, 0, none⟩)), (57, .slice Aa12 l11.length c13), (58, .int .i64 (l11.length : Int)), (59, .int .i64 x97)] ?_
             refine J.seq ?_
             refine J.block ?_
             refine J.sr ?_
             obtain ⟨⟨h136, h137⟩, H1⟩ := ite_must H1
             refine JL.ixAddr 9 2 c13 .i64 (elems_rd Aa12 c13 fl_Lag.kd l11 true) Try.underlying57 tySize_56 h136 h137 fun g138 o139 hA => ?_
             subst hA
             refine JL.val (mv_56 (ix l11 x97)) (some 62) (gives_loadEl (f := fl_Lag) 9 0 x97 (elems_rd (some ⟨g138, o139, none⟩) c13 fl_Lag.kd l11 true) h136 h137 tySize_56 (.inl ⟨tyAgg_56, rfl⟩)) ?_
             refine JL.alloc (cl_56 zv_56) fun b140 => ?_
             refine JL.store 10 b140 0 56 (cl_56 zv_56) (cl_56 (ix l11 x97)) tySize_56 ?_
             refine JL.es [(4, .pointer (some ⟨b17, 0, none⟩)), (8, .pointer (some ⟨b18, 0, none⟩)), (12, .pointer (some ⟨b32, 0, none⟩)), (14, .pointer (some ⟨b140, 0, none⟩)), (57, .slice (some ⟨g138, o139, none⟩) l11.length c13), (58, .int .i64 (l11.length : Int)), (59, .int .i64 x97)] ?_
             refine J.seq ?_
             obtain ⟨t141, hc142, H1⟩ := bind_some H1
             obtain ⟨h146, H1⟩ := ite_must H1
             refine JY.startM [true, true, true, true, true, true, false, true, true, true, true] [9] (ba 10 0) ?_
             refine JY.pur (hi := rfl) 0 (ba 10 1) (.pointer (some ⟨b32, 0, none⟩)) (some 63) want ?_
             refine JY.take (hi := rfl) 1 (ba 10 3) (.slice Aa90 b89.length c91) (some 64) [true, true, true, true, true, true, false, true, true, true, true] want (yields_load_box 5 0 (holds_box b32 25 [.slice Aa90 b89.length c91, .slice Aa94 b93.length c95, .slice (some ⟨b31, 0, none⟩) ([(⟨at15, many16⟩ : Gap)] : List Gap).length 1]) tyAgg_22) ?_
             refine JY.pur (hi := rfl) 2 (ba 10 7) (.pointer (some ⟨b140, 0, none⟩)) (some 65) want ?_
             refine JY.take (hi := rfl) 3 (ba 10 15) (.int .i64 ((ix l11 x97).Sum)) (some 66) [true, true, true, true, true, true, false, true, true, true, true] want (yields_load_box 9 0 (holds_box b140 56 (cl_56 (ix l11 x97))) tyAgg_3) ?_
             refine JY.all [4] ⟨⟨_, rfl, ?_⟩, trivial⟩
             refine JL.call [] [] [] (accum_of.ok ((ix l11 x97).Sum) _ hc142) trivial ?_
             rintro _ _ ⟨rfl, rfl⟩
             refine JL.nil ?_
             refine JY.ran (ba 10 31) [true, true, true, true, true, true, false, true, true, true, true] ?_
             refine JY.pur (hi := rfl) 5 (ba 10 63) (mv_49 t141.Count) (some 68) want ?_
             refine JY.all [6] ⟨⟨_, rfl, ?_⟩, trivial⟩
             refine JL.buildSl 49 fl_Count.kd (([t141.Count] : List Count) : List Count) [.int .i64 t141.Count.Hi, .int .i64 t141.Count.Lo] false (closes_fl rfl) fun b149 => ?_
             refine JL.nil ?_
             refine JY.ran (ba 10 127) [true, true, true, true, true, true, false, true, true, true, true, false] ?_
             refine JY.all [7] ⟨⟨_, rfl, ?_⟩, trivial⟩
             obtain h152 : b89.length + ([t141.Count] : List Count).length ≤ 8796093022208 := h146
             refine JL.append false false 6 11 Aa90 c91 1 b89 (elems_row (some ⟨b149, 0, none⟩) 1 49 fl_Count.kd ([t141.Count] : List Count) false) Try.underlying22 info_49 (by omega) (by omega) (fun h => h) (.inr ⟨_, rfl⟩) fun Aa150 c151 => ?_
             refine JL.nil ?_
             refine JY.ran (ba 10 255) [true, true, true, true, true, true, false, true, true, true, true, false] ?_
             refine JY.pur (hi := rfl) 8 (ba 10 511) (.pointer (some ⟨b32, 0, none⟩)) (some 71) want ?_
             refine JY.all [9] ⟨⟨_, rfl, ?_⟩, trivial⟩
             refine JL.store 5 b32 0 25 [.slice Aa90 b89.length c91, .slice Aa94 b93.length c95, .slice (some ⟨b31, 0, none⟩) ([(⟨at15, many16⟩ : Gap)] : List Gap).length 1] [.slice Aa150 (b89 ++ ([t141.Count] : List Count)).length c151, .slice Aa94 b93.length c95, .slice (some ⟨b31, 0, none⟩) ([(⟨at15, many16⟩ : Gap)] : List Gap).length 1] tySize_22 ?_
             refine JL.nil ?_
             refine JY.ranD (ba 10 1023) ?_
             refine JY.done ?_
             refine JQ.ts [(4, .pointer (some ⟨b17, 0, none⟩)), (8, .pointer (some ⟨b18, 0, none⟩)), (12, .pointer (some ⟨b32, 0, none⟩)), (14, .pointer (some ⟨b140, 0, none⟩)), (57, .slice (some ⟨g138, o139, none⟩) l11.length c13), (58, .int .i64 (l11.length : Int)), (59, .int .i64 x97)] ?_
             refine JQ.mask [At.box b17 25 [.slice Aa2 a1.Sums.length c3, .slice Aa5 a1.Ns.length c6, .slice Aa8 a1.Spans.length c9], At.rd Aa2 c3 fl_Count.kd a1.Sums true, At.rd Aa5 c6 fl_Count.kd a1.Ns true, At.rd Aa8 c9 fl_Gap.kd a1.Spans true, At.box b18 25 [.slice none 0 0, .slice none 0 0, .slice none 0 0], At.box b32 25 [.slice Aa150 (b89 ++ ([t141.Count] : List Count)).length c151, .slice Aa94 b93.length c95, .slice (some ⟨b31, 0, none⟩) ([(⟨at15, many16⟩ : Gap)] : List Gap).length 1], At.row Aa150 c151 49 fl_Count.kd (b89 ++ ([t141.Count] : List Count)) false, At.row Aa94 c95 49 fl_Count.kd b93 false, At.row (some ⟨b31, 0, none⟩) 1 51 fl_Gap.kd ([(⟨at15, many16⟩ : Gap)] : List Gap) false, At.rd (some ⟨g138, o139, none⟩) c13 fl_Lag.kd l11 true, At.box b140 56 (cl_56 (ix l11 x97))] [true, true, true, true, true, true, true, true, true, true, true, false] ?_
             obtain ⟨t1147, hc1148, H1⟩ := bind_some H1
             obtain ⟨h1152, H1⟩ := ite_must H1
             refine JY.startM [true, true, true, true, true, true, true, false, true, true, true] [9] (ba 10 0) ?_
             refine JY.pur (hi := rfl) 0 (ba 10 1) (.pointer (some ⟨b32, 1, none⟩)) (some 72) want ?_
             refine JY.take (hi := rfl) 1 (ba 10 3) (.slice Aa94 b93.length c95) (some 73) [true, true, true, true, true, true, true, false, true, true, true] want (yields_load_box 5 1 (holds_box b32 25 [.slice Aa150 (b89 ++ ([t141.Count] : List Count)).length c151, .slice Aa94 b93.length c95, .slice (some ⟨b31, 0, none⟩) ([(⟨at15, many16⟩ : Gap)] : List Gap).length 1]) tyAgg_22) ?_
             refine JY.pur (hi := rfl) 2 (ba 10 7) (.pointer (some ⟨b140, 1, none⟩)) (some 74) want ?_
             refine JY.take (hi := rfl) 3 (ba 10 15) (.int .i64 ((ix l11 x97).N)) (some 75) [true, true, true, true, true, true, true, false, true, true, true] want (yields_load_box 9 1 (holds_box b140 56 (cl_56 (ix l11 x97))) tyAgg_3) ?_
             refine JY.all [4] ⟨⟨_, rfl, ?_⟩, trivial⟩
             refine JL.call [] [] [] (accum_of.ok ((ix l11 x97).N) _ hc1148) trivial ?_
             rintro _ _ ⟨rfl, rfl⟩
             refine JL.nil ?_
             refine JY.ran (ba 10 31) [true, true, true, true, true, true, true, false, true, true, true] ?_
             refine JY.pur (hi := rfl) 5 (ba 10 63) (mv_49 t1147.Count) (some 77) want ?_
             refine JY.all [6] ⟨⟨_, rfl, ?_⟩, trivial⟩
             refine JL.buildSl 49 fl_Count.kd (([t1147.Count] : List Count) : List Count) [.int .i64 t1147.Count.Hi, .int .i64 t1147.Count.Lo] false (closes_fl rfl) fun b1155 => ?_
             refine JL.nil ?_
             refine JY.ran (ba 10 127) [true, true, true, true, true, true, true, false, true, true, true, false] ?_
             refine JY.all [7] ⟨⟨_, rfl, ?_⟩, trivial⟩
             obtain h1158 : b93.length + ([t1147.Count] : List Count).length ≤ 8796093022208 := h1152
             refine JL.append false false 7 11 Aa94 c95 1 b93 (elems_row (some ⟨b1155, 0, none⟩) 1 49 fl_Count.kd ([t1147.Count] : List Count) false) Try.underlying22 info_49 (by omega) (by omega) (fun h => h) (.inr ⟨_, rfl⟩) fun Aa1156 c1157 => ?_
             refine JL.nil ?_
             refine JY.ran (ba 10 255) [true, true, true, true, true, true, true, false, true, true, true, false] ?_
             refine JY.pur (hi := rfl) 8 (ba 10 511) (.pointer (some ⟨b32, 1, none⟩)) (some 80) want ?_
             refine JY.all [9] ⟨⟨_, rfl, ?_⟩, trivial⟩
             refine JL.store 5 b32 1 25 [.slice Aa150 (b89 ++ ([t141.Count] : List Count)).length c151, .slice Aa94 b93.length c95, .slice (some ⟨b31, 0, none⟩) ([(⟨at15, many16⟩ : Gap)] : List Gap).length 1] [.slice Aa150 (b89 ++ ([t141.Count] : List Count)).length c151, .slice Aa1156 (b93 ++ ([t1147.Count] : List Count)).length c1157, .slice (some ⟨b31, 0, none⟩) ([(⟨at15, many16⟩ : Gap)] : List Gap).length 1] tySize_22 ?_
             refine JL.nil ?_
             refine JY.ranD (ba 10 1023) ?_
             refine JY.done ?_
             refine JQ.blk_normal ?_
             refine JQ.ts [(4, .pointer (some ⟨b17, 0, none⟩)), (8, .pointer (some ⟨b18, 0, none⟩)), (12, .pointer (some ⟨b32, 0, none⟩)), (57, .slice (some ⟨g138, o139, none⟩) l11.length c13), (58, .int .i64 (l11.length : Int)), (59, .int .i64 x97)] ?_
             refine JQ.mask [At.box b17 25 [.slice Aa2 a1.Sums.length c3, .slice Aa5 a1.Ns.length c6, .slice Aa8 a1.Spans.length c9], At.rd Aa2 c3 fl_Count.kd a1.Sums true, At.rd Aa5 c6 fl_Count.kd a1.Ns true, At.rd Aa8 c9 fl_Gap.kd a1.Spans true, At.box b18 25 [.slice none 0 0, .slice none 0 0, .slice none 0 0], At.box b32 25 [.slice Aa150 (b89 ++ ([t141.Count] : List Count)).length c151, .slice Aa1156 (b93 ++ ([t1147.Count] : List Count)).length c1157, .slice (some ⟨b31, 0, none⟩) ([(⟨at15, many16⟩ : Gap)] : List Gap).length 1], At.row Aa150 c151 49 fl_Count.kd (b89 ++ ([t141.Count] : List Count)) false, At.row Aa1156 c1157 49 fl_Count.kd (b93 ++ ([t1147.Count] : List Count)) false, At.row (some ⟨b31, 0, none⟩) 1 51 fl_Gap.kd ([(⟨at15, many16⟩ : Gap)] : List Gap) false, At.rd (some ⟨g138, o139, none⟩) c13 fl_Lag.kd l11 true] [true, true, true, true, true, true, true, true, true, true, false, false] ?_
             refine J.region ?_
             refine JL.pur (.int .i64 (w64 (x97 + 1))) (some 81) ?_
             refine JL.mv (.int .i64 (w64 (x97 + 1))) ?_
             refine JL.en ?_
             exact JQ.again ((b89 ++ ([t141.Count] : List Count)), (b93 ++ ([t1147.Count] : List Count)), w64 (x97 + 1)) (Aa150, c151, Aa1156, c1157) (Option.some.inj H1).symm (fun _ h => Heap.to h)
           · refine J.cond_false h135 ?_
             refine J.exit ?_
             refine JQ.then_exit ?_
             refine JQ.then_exit ?_
             refine JQ.blk_exit ?_
             rw [hb1 _ (Option.some.inj H1).symm, fin_brk] at H0
             exact JQ.met (b89, b93) (Aa90, c91, Aa94, c95) H0 (fun _ h => Heap.to (Heap.pick [0, 1, 2, 3, 4, 5, 6, 7, 8] (by decide) h))
         · clear hit H0
           rintro ⟨b116, b120⟩ ⟨Aa117, c118, Aa121, c122⟩ H0
           replace H0 : accum_Add.k3 a1 at15 many16 b116 b120 = some r := H0
           unfold accum_Add.k3 at H0
           refine JQ.sub [(4, .pointer (some ⟨b17, 0, none⟩)), (8, .pointer (some ⟨b18, 0, none⟩)), (12, .pointer (some ⟨b32, 0, none⟩))] ?_
           refine JQ.turn (Δ' := [At.box b17 25 [.slice Aa2 a1.Sums.length c3, .slice Aa5 a1.Ns.length c6, .slice Aa8 a1.Spans.length c9], At.rd Aa2 c3 fl_Count.kd a1.Sums true, At.rd Aa5 c6 fl_Count.kd a1.Ns true, At.rd Aa8 c9 fl_Gap.kd a1.Spans true, At.box b18 25 [.slice none 0 0, .slice none 0 0, .slice none 0 0], At.box b32 25 [.slice Aa117 b116.length c118, .slice Aa121 b120.length c122, .slice (some ⟨b31, 0, none⟩) ([(⟨at15, many16⟩ : Gap)] : List Gap).length 1], At.row Aa117 c118 49 fl_Count.kd b116 false, At.row Aa121 c122 49 fl_Count.kd b120 false, At.row (some ⟨b31, 0, none⟩) 1 51 fl_Gap.kd ([(⟨at15, many16⟩ : Gap)] : List Gap) false]) (fun _ h => h.to) ?_
           refine JQ.then_normal ?_
           refine J.sr ?_
           refine JL.val (.agg #[.slice Aa2 a1.Sums.length c3, .slice Aa5 a1.Ns.length c6, .slice Aa8 a1.Spans.length c9]) (some 82) (yields_load_boxes 0 0 [.slice Aa2 a1.Sums.length c3, .slice Aa5 a1.Ns.length c6, .slice Aa8 a1.Spans.length c9] (holds_box b17 25 [.slice Aa2 a1.Sums.length c3, .slice Aa5 a1.Ns.length c6, .slice Aa8 a1.Spans.length c9]) tyAgg_25 tySize_25) ?_
           refine JL.val (.agg #[.slice Aa117 b116.length c118, .slice Aa121 b120.length c122, .slice (some ⟨b31, 0, none⟩) ([(⟨at15, many16⟩ : Gap)] : List Gap).length 1]) (some 83) (yields_load_boxes 5 0 [.slice Aa117 b116.length c118, .slice Aa121 b120.length c122, .slice (some ⟨b31, 0, none⟩) ([(⟨at15, many16⟩ : Gap)] : List Gap).length 1] (holds_box b32 25 [.slice Aa117 b116.length c118, .slice Aa121 b120.length c122, .slice (some ⟨b31, 0, none⟩) ([(⟨at15, many16⟩ : Gap)] : List Gap).length 1]) tyAgg_25 tySize_25) ?_
           obtain ⟨t124, hc125, H0⟩ := bind_some H0
           refine JL.call [] [] [] (accum_merge.ok a1 Aa2 c3 Aa5 c6 Aa8 c9 (⟨b116, b120, ([(⟨at15, many16⟩ : Gap)] : List Gap)⟩ : Acc) Aa117 c118 Aa121 c122 (some ⟨b31, 0, none⟩) 1 _ hc125) ⟨pre_any 1 (view_rd Aa2 c3 fl_Count.kd a1.Sums true true), ⟨pre_any 2 (view_rd Aa5 c6 fl_Count.kd a1.Ns true true), ⟨pre_any 3 (view_rd Aa8 c9 fl_Gap.kd a1.Spans true true), ⟨pre_view 6 (view_row Aa117 c118 49 fl_Count.kd b116 false true), ⟨pre_view 7 (view_row Aa121 c122 49 fl_Count.kd b120 false true), ⟨pre_view 8 (view_row (some ⟨b31, 0, none⟩) 1 51 fl_Gap.kd ([(⟨at15, many16⟩ : Gap)] : List Gap) false true), trivial⟩⟩⟩⟩⟩⟩ ?_
           rintro _ _ ⟨Aa126, c127, Aa129, c130, Aa132, c133, rfl, rfl⟩
           refine JL.pur (.agg #[.slice Aa126 t124.1.Sums.length c127, .slice Aa129 t124.1.Ns.length c130, .slice Aa132 t124.1.Spans.length c133]) (some 85) ?_
           refine JL.pur (.int .i64 t124.2) (some 86) ?_
           refine JL.store 4 b18 0 25 [.slice none 0 0, .slice none 0 0, .slice none 0 0] [.slice Aa126 t124.1.Sums.length c127, .slice Aa129 t124.1.Ns.length c130, .slice Aa132 t124.1.Spans.length c133] tySize_25 ?_
           refine JL.as (.int .i64 t124.2) ?_
           refine JL.es [(8, .pointer (some ⟨b18, 0, none⟩)), (9, .int .i64 t124.2)] ?_
           refine JQ.mask [At.box b18 25 [.slice Aa126 t124.1.Sums.length c127, .slice Aa129 t124.1.Ns.length c130, .slice Aa132 t124.1.Spans.length c133], At.row Aa126 c127 49 fl_Count.kd t124.1.Sums false, At.row Aa129 c130 49 fl_Count.kd t124.1.Ns false, At.row Aa132 c133 51 fl_Gap.kd t124.1.Spans false] [false, false, false, false, true, false, false, false, false, true, true, true] ?_
           refine J.ret ?_
           obtain rfl := Option.some.inj H0
           exact JQ.done' (rs := [.cell 8 25, .tmp 9]) (vs := [.agg #[.slice Aa126 t124.1.Sums.length c127, .slice Aa129 t124.1.Ns.length c130, .slice Aa132 t124.1.Spans.length c133], .int .i64 t124.2]) [At.row Aa126 c127 49 fl_Count.kd t124.1.Sums false, At.row Aa129 c130 49 fl_Count.kd t124.1.Ns false, At.row Aa132 c133 51 fl_Gap.kd t124.1.Spans false] (.inr rfl) ⟨⟨b18, 0, _, _, by kernel_rfl, by kernel_rfl, holds_box b18 25 [.slice Aa126 t124.1.Sums.length c127, .slice Aa129 t124.1.Ns.length c130, .slice Aa132 t124.1.Spans.length c133], .inl ⟨tyAgg_25, tySize_25, rfl⟩⟩, by kernel_rfl, trivial⟩ (fun _ h => Heap.to (Heap.pick [1, 2, 3] (by decide) h)) ⟨Aa126, c127, Aa129, c130, Aa132, c133, rfl, rfl⟩

theorem accum_wide_value.ok (w1 : Wide) (r : Int) (H0 : accum_wide_value.f w1 = some r) :
    Does Try.prog 32 [mv_74 w1].toArray [] [] false (fun v Δ => v = .int .i64 r ∧ Δ = []) := by
 refine Does.body (vs := [mv_74 w1]) Try.func32 rfl trivial trivial fun w S => ?_
 unfold accum_wide_value.f at H0
 refine J.sr ?_
 refine JL.box (cl_74 w1) fun b2 => ?_
 refine JL.as (.int .i64 0) ?_
 refine JL.es [(1, .pointer (some ⟨b2, 0, none⟩))] ?_
 refine J.sr ?_
 refine JL.pur (.pointer (some ⟨b2, 0, none⟩)) (some 3) ?_
 refine JL.pur (.pointer (some ⟨b2, 0, none⟩)) (some 4) ?_
 refine JL.val (.int .i64 w1.Count.Hi) (some 5) (yields_load_box 0 0 (holds_box b2 74 (cl_74 w1)) tyAgg_2) ?_
 refine JL.pur (.int .i64 (w64 (w1.Count.Hi * 1000000000))) (some 6) ?_
 refine JL.pur (.pointer (some ⟨b2, 0, none⟩)) (some 7) ?_
 refine JL.pur (.pointer (some ⟨b2, 1, none⟩)) (some 8) ?_
 refine JL.val (.int .i64 w1.Count.Lo) (some 9) (yields_load_box 0 1 (holds_box b2 74 (cl_74 w1)) tyAgg_2) ?_
 refine JL.pur (.int .i64 (w64 ((w64 (w1.Count.Hi * 1000000000)) + w1.Count.Lo))) (some 10) ?_
 refine JL.as (.int .i64 (w64 ((w64 (w1.Count.Hi * 1000000000)) + w1.Count.Lo))) ?_
 refine JL.es [(2, .int .i64 (w64 ((w64 (w1.Count.Hi * 1000000000)) + w1.Count.Lo)))] ?_
 refine JQ.mask [] [false] ?_
 refine J.ret ?_
 obtain rfl := Option.some.inj H0
 exact JQ.done' (rs := [.tmp 2]) (vs := [.int .i64 (w64 ((w64 (w1.Count.Hi * 1000000000)) + w1.Count.Lo))]) [] (.inr rfl) ⟨by kernel_rfl, trivial⟩ (fun _ h => Heap.to h) ⟨rfl, rfl⟩

theorem accum_Value.ok (a1 : Acc) (Aa2 : Option Addr) (c3 : Nat) (Aa5 : Option Addr) (c6 : Nat) (Aa8 : Option Addr) (c9 : Nat) (lag11 : Int) (r : (Int × Int × Int)) (H0 : accum_Value.f a1 lag11 = some r) :
    Does Try.prog 11 [.agg #[.slice Aa2 a1.Sums.length c3, .slice Aa5 a1.Ns.length c6, .slice Aa8 a1.Spans.length c9], .int .i64 lag11].toArray [At.rd Aa2 c3 fl_Count.kd a1.Sums true, At.rd Aa5 c6 fl_Count.kd a1.Ns true, At.rd Aa8 c9 fl_Gap.kd a1.Spans true] [] false (fun v Δ => v = .tuple #[.int .i64 r.1, .int .i64 r.2.1, .int .i64 r.2.2] ∧ Δ = []) := by
 refine Does.body (vs := [.agg #[.slice Aa2 a1.Sums.length c3, .slice Aa5 a1.Ns.length c6, .slice Aa8 a1.Spans.length c9], .int .i64 lag11]) Try.func11 rfl ⟨.inl rfl, .inl rfl, .inl rfl, trivial⟩ trivial fun w S => ?_
 unfold accum_Value.f at H0
 refine J.sr ?_
 refine JL.box [.slice Aa2 a1.Sums.length c3, .slice Aa5 a1.Ns.length c6, .slice Aa8 a1.Spans.length c9] fun b12 => ?_
 refine JL.as (.int .i64 0) ?_
 refine JL.as (.int .i64 0) ?_
 refine JL.as (.int .i64 0) ?_
 refine JL.es [(1, .int .i64 lag11), (2, .pointer (some ⟨b12, 0, none⟩))] ?_
 refine J.seq ?_
 refine J.sr ?_
 refine JL.val (.agg #[.slice Aa2 a1.Sums.length c3, .slice Aa5 a1.Ns.length c6, .slice Aa8 a1.Spans.length c9]) (some 9) (yields_load_boxes 3 0 [.slice Aa2 a1.Sums.length c3, .slice Aa5 a1.Ns.length c6, .slice Aa8 a1.Spans.length c9] (holds_box b12 25 [.slice Aa2 a1.Sums.length c3, .slice Aa5 a1.Ns.length c6, .slice Aa8 a1.Spans.length c9]) tyAgg_25 tySize_25) ?_
 obtain ⟨t13, hc14, H0⟩ := bind_some H0
 refine JL.call [] [] [] (accum_Check.ok a1 Aa2 c3 Aa5 c6 Aa8 c9 _ hc14) ⟨pre_any 0 (view_rd Aa2 c3 fl_Count.kd a1.Sums true true), ⟨pre_any 1 (view_rd Aa5 c6 fl_Count.kd a1.Ns true true), ⟨pre_any 2 (view_rd Aa8 c9 fl_Gap.kd a1.Spans true true), trivial⟩⟩⟩ ?_
 rintro _ _ ⟨rfl, rfl⟩
 refine JL.as (.int .i64 t13) ?_
 refine JL.es [(1, .int .i64 lag11), (2, .pointer (some ⟨b12, 0, none⟩)), (7, .int .i64 t13)] ?_
 refine J.sr ?_
 refine JL.mv (.int .i64 t13) ?_
 refine JL.pur (.bool (!decide (t13 = 0))) (some 12) ?_
 refine JL.es [(1, .int .i64 lag11), (2, .pointer (some ⟨b12, 0, none⟩)), (7, .int .i64 t13), (12, .bool (!decide (t13 = 0)))] ?_
 rcases ite_cases H0 with ⟨h15, H0⟩ | ⟨h15, H0⟩
 · refine J.cond_true h15 ?_
   refine J.sr ?_
   refine JL.mv (.int .i64 t13) ?_
   refine JL.as (.int .i64 0) ?_
   refine JL.as (.int .i64 0) ?_
   refine JL.as (.int .i64 t13) ?_
   refine JL.es [(4, .int .i64 0), (5, .int .i64 0), (6, .int .i64 t13)] ?_
   refine JQ.mask [] [false, false, false, false] ?_
   refine J.ret ?_
   refine JQ.then_ret ?_
   obtain rfl := Option.some.inj H0
   exact JQ.done' (rs := [.tmp 4, .tmp 5, .tmp 6]) (vs := [.int .i64 0, .int .i64 0, .int .i64 t13]) [] (.inr rfl) ⟨by kernel_rfl, by kernel_rfl, by kernel_rfl, trivial⟩ (fun _ h => Heap.to h) ⟨rfl, rfl⟩
 · refine J.cond_false h15 ?_
   refine J.skip ?_
   refine JQ.ts [(1, .int .i64 lag11), (2, .pointer (some ⟨b12, 0, none⟩))] ?_
   refine J.sr ?_
   refine JL.pur (.pointer (some ⟨b12, 0, none⟩)) (some 14) ?_
   refine JL.val (.slice Aa2 a1.Sums.length c3) (some 15) (yields_load_box 3 0 (holds_box b12 25 [.slice Aa2 a1.Sums.length c3, .slice Aa5 a1.Ns.length c6, .slice Aa8 a1.Spans.length c9]) tyAgg_22) ?_
   refine JL.pur (.int .i64 (a1.Sums.length : Int)) (some 16) ?_
   refine JL.pur (.int .i64 (w64 (Int.tdiv (a1.Sums.length : Int) 2))) (some 17) ?_
   obtain ⟨most16, emost16, H0⟩ := lt_some H0
   refine JL.as' (k := .i64) most16 emost16 ?_
   refine JL.es [(1, .int .i64 lag11), (2, .pointer (some ⟨b12, 0, none⟩)), (8, .int .i64 most16)] ?_
   refine J.seq ?_
   refine J.join (T := Bool) (G := Unit) (fun t => accum_Value.k1 a1 lag11 most16 t = some r) (fun t g => [(1, .int .i64 lag11), (2, .pointer (some ⟨b12, 0, none⟩)), (8, .int .i64 most16), (26, .bool t)]) (fun t g => [At.box b12 25 [.slice Aa2 a1.Sums.length c3, .slice Aa5 a1.Ns.length c6, .slice Aa8 a1.Spans.length c9], At.rd Aa2 c3 fl_Count.kd a1.Sums true, At.rd Aa5 c6 fl_Count.kd a1.Ns true, At.rd Aa8 c9 fl_Gap.kd a1.Spans true]) ?_ ?_
   · refine J.region ?_
     refine JL.mv (.int .i64 lag11) ?_
     refine JL.mv (.int .i64 most16) ?_
     refine JL.pur (.int .i64 (w64 (0 - most16))) (some 20) ?_
     refine JL.pur (.bool (decide (lag11 < w64 (0 - most16)))) (some 21) ?_
     refine JL.mv (.bool (decide (lag11 < w64 (0 - most16)))) ?_
     rcases ite_cases H0 with ⟨h32, H0⟩ | ⟨h32, H0⟩
     · refine JL.off 4 22 false (some 23) h32 ?_
       refine JL.off 4 22 false (some 24) h32 ?_
       refine JL.off 4 22 false (some 25) h32 ?_
       refine JL.val (.bool true) (some 26) (gives_pickT h32) ?_
       refine JL.en ?_
       exact JQ.meet true () H0 (fun _ h => Heap.to (Heap.pick [3, 0, 1, 2] (by decide) h))
     · refine JL.on 4 22 h32 ?_
       refine JL.mv (.int .i64 lag11) ?_
       refine JL.on 4 22 h32 ?_
       refine JL.mv (.int .i64 most16) ?_
       refine JL.on 4 22 h32 ?_
       refine JL.pur (.bool (decide (most16 < lag11))) (some 25) ?_
       refine JL.val (.bool (decide (most16 < lag11))) (some 26) (gives_pickF h32) ?_
       refine JL.en ?_
       exact JQ.meet (decide (most16 < lag11)) () H0 (fun _ h => Heap.to (Heap.pick [3, 0, 1, 2] (by decide) h))
   · clear H0
     rintro x18 ⟨⟩ H0
     replace H0 : accum_Value.k1 a1 lag11 most16 x18 = some r := H0
     unfold accum_Value.k1 at H0
     refine JQ.sub [(1, .int .i64 lag11), (2, .pointer (some ⟨b12, 0, none⟩)), (8, .int .i64 most16), (26, .bool x18)] ?_
     refine JQ.turn (Δ' := [At.box b12 25 [.slice Aa2 a1.Sums.length c3, .slice Aa5 a1.Ns.length c6, .slice Aa8 a1.Spans.length c9], At.rd Aa2 c3 fl_Count.kd a1.Sums true, At.rd Aa5 c6 fl_Count.kd a1.Ns true, At.rd Aa8 c9 fl_Gap.kd a1.Spans true]) (fun _ h => h.to) ?_
     rcases ite_cases H0 with ⟨h19, H0⟩ | ⟨h19, H0⟩
     · refine J.cond_true h19 ?_
       refine J.sr ?_
       refine JL.as (.int .i64 0) ?_
       refine JL.as (.int .i64 0) ?_
       refine JL.as (.int .i64 2) ?_
       refine JL.es [(4, .int .i64 0), (5, .int .i64 0), (6, .int .i64 2)] ?_
       refine JQ.mask [] [false, false, false, false] ?_
       refine J.ret ?_
       refine JQ.then_ret ?_
       obtain rfl := Option.some.inj H0
       exact JQ.done' (rs := [.tmp 4, .tmp 5, .tmp 6]) (vs := [.int .i64 0, .int .i64 0, .int .i64 2]) [] (.inr rfl) ⟨by kernel_rfl, by kernel_rfl, by kernel_rfl, trivial⟩ (fun _ h => Heap.to h) ⟨rfl, rfl⟩
     · refine J.cond_false h19 ?_
       refine J.skip ?_
       refine JQ.ts [(1, .int .i64 lag11), (2, .pointer (some ⟨b12, 0, none⟩)), (8, .int .i64 most16)] ?_
       refine J.seq ?_
       refine J.draw ?_
       refine QL.pur (.pointer (some ⟨b12, 0, none⟩)) (some 27) ?_
       refine QL.val (.slice Aa2 a1.Sums.length c3) (some 28) (yields_load_box 0 0 (holds_box b12 25 [.slice Aa2 a1.Sums.length c3, .slice Aa5 a1.Ns.length c6, .slice Aa8 a1.Spans.length c9]) tyAgg_22) ?_
       refine QL.mv (.int .i64 lag11) ?_
       refine QL.mv (.int .i64 most16) ?_
       refine QL.pur (.int .i64 (w64 (lag11 + most16))) (some 31) ?_
       obtain ⟨⟨h20, h21⟩, H0⟩ := ite_must H0
       refine QL.ixAddr 1 2 c3 .i64 (elems_rd Aa2 c3 fl_Count.kd a1.Sums true) Try.underlying22 tySize_49 h20 h21 fun g22 o23 hA => ?_
       subst hA
       refine QL.val (mv_49 (ix a1.Sums (w64 (lag11 + most16)))) (some 33) (gives_loadEl (f := fl_Count) 1 0 (w64 (lag11 + most16)) (elems_rd (some ⟨g22, o23, none⟩) c3 fl_Count.kd a1.Sums true) h20 h21 tySize_49 (.inl ⟨tyAgg_49, rfl⟩)) ?_
       refine QL.pur (.agg #[.int .i64 ((ix a1.Sums (w64 (lag11 + most16))).Hi), .int .i64 ((ix a1.Sums (w64 (lag11 + most16))).Lo)]) (some 34) ?_
       obtain ⟨t24, hc25, H0⟩ := bind_some H0
       refine QL.call [] [] (accum_wide_value.ok (⟨(ix a1.Sums (w64 (lag11 + most16)))⟩ : Wide) _ hc25) trivial ?_
       refine QL.pur (.pointer (some ⟨b12, 1, none⟩)) (some 36) ?_
       refine QL.val (.slice Aa5 a1.Ns.length c6) (some 37) (yields_load_box 0 1 (holds_box b12 25 [.slice (some ⟨g22, o23, none⟩) a1.Sums.length c3, .slice Aa5 a1.Ns.length c6, .slice Aa8 a1.Spans.length c9]) tyAgg_22) ?_
       refine QL.mv (.int .i64 lag11) ?_
       refine QL.mv (.int .i64 most16) ?_
       refine QL.pur (.int .i64 (w64 (lag11 + most16))) (some 40) ?_
       obtain ⟨⟨h26, h27⟩, H0⟩ := ite_must H0
       refine QL.ixAddr 2 2 c6 .i64 (elems_rd Aa5 c6 fl_Count.kd a1.Ns true) Try.underlying22 tySize_49 h26 h27 fun g28 o29 hA => ?_
       subst hA
       refine QL.val (mv_49 (ix a1.Ns (w64 (lag11 + most16)))) (some 42) (gives_loadEl (f := fl_Count) 2 0 (w64 (lag11 + most16)) (elems_rd (some ⟨g28, o29, none⟩) c6 fl_Count.kd a1.Ns true) h26 h27 tySize_49 (.inl ⟨tyAgg_49, rfl⟩)) ?_
       refine QL.pur (.agg #[.int .i64 ((ix a1.Ns (w64 (lag11 + most16))).Hi), .int .i64 ((ix a1.Ns (w64 (lag11 + most16))).Lo)]) (some 43) ?_
       obtain ⟨t30, hc31, H0⟩ := bind_some H0
       refine QL.call [] [] (accum_wide_value.ok (⟨(ix a1.Ns (w64 (lag11 + most16)))⟩ : Wide) _ hc31) trivial ?_
       refine QL.as (.int .i64 t24) ?_
       refine QL.as (.int .i64 t30) ?_
       refine QL.as (.int .i64 0) ?_
       refine QL.nil ?_
       refine JA.nil ?_
       refine JQ.ts [(4, .int .i64 t24), (5, .int .i64 t30), (6, .int .i64 0)] ?_
       refine JQ.mask [] [false, false, false, false] ?_
       refine J.ret ?_
       obtain rfl := Option.some.inj H0
       exact JQ.done' (rs := [.tmp 4, .tmp 5, .tmp 6]) (vs := [.int .i64 t24, .int .i64 t30, .int .i64 0]) [] (.inr rfl) ⟨by kernel_rfl, by kernel_rfl, by kernel_rfl, trivial⟩ (fun _ h => Heap.to h) ⟨rfl, rfl⟩

theorem frac_abs.ok (n1 : Int) (r : Int) (H0 : frac_abs.f n1 = some r) :
    Does Try.prog 50 [.int .i64 n1].toArray [] [] false (fun v Δ => v = .int .u64 r ∧ Δ = []) := by
 refine Does.body (vs := [.int .i64 n1]) Try.func50 rfl trivial trivial fun w S => ?_
 unfold frac_abs.f at H0
 refine J.sr ?_
 refine JL.as (.int .u64 0) ?_
 refine JL.es [(0, .int .i64 n1)] ?_
 refine J.seq ?_
 refine J.sr ?_
 refine JL.mv (.int .i64 n1) ?_
 refine JL.pur (.bool (decide (n1 < 0))) (some 4) ?_
 refine JL.es [(0, .int .i64 n1), (4, .bool (decide (n1 < 0)))] ?_
 rcases ite_cases H0 with ⟨h2, H0⟩ | ⟨h2, H0⟩
 · refine J.cond_true h2 ?_
   refine J.sr ?_
   refine JL.mv (.int .i64 n1) ?_
   refine JL.pur (.int .u64 (wu64 n1)) (some 6) ?_
   refine JL.pur (.int .u64 (wu64 (0 - wu64 n1))) (some 7) ?_
   refine JL.as (.int .u64 (wu64 (0 - wu64 n1))) ?_
   refine JL.es [(2, .int .u64 (wu64 (0 - wu64 n1)))] ?_
   refine J.ret ?_
   refine JQ.then_ret ?_
   obtain rfl := Option.some.inj H0
   exact JQ.done' (rs := [.tmp 2]) (vs := [.int .u64 (wu64 (0 - wu64 n1))]) [] (.inr rfl) ⟨by kernel_rfl, trivial⟩ (fun _ h => Heap.to h) ⟨rfl, rfl⟩
 · refine J.cond_false h2 ?_
   refine J.skip ?_
   refine JQ.ts [(0, .int .i64 n1)] ?_
   refine J.sr ?_
   refine JL.mv (.int .i64 n1) ?_
   refine JL.pur (.int .u64 (wu64 n1)) (some 9) ?_
   refine JL.as (.int .u64 (wu64 n1)) ?_
   refine JL.es [(2, .int .u64 (wu64 n1))] ?_
   refine J.ret ?_
   obtain rfl := Option.some.inj H0
   exact JQ.done' (rs := [.tmp 2]) (vs := [.int .u64 (wu64 n1)]) [] (.inr rfl) ⟨by kernel_rfl, trivial⟩ (fun _ h => Heap.to h) ⟨rfl, rfl⟩

theorem frac_gcd.ok (a1 : Int) (b2 : Int) (r : Int) (H0 : frac_gcd.f a1 b2 = some r) :
    Does Try.prog 51 [.int .u64 a1, .int .u64 b2].toArray [] [] false (fun v Δ => v = .int .u64 r ∧ Δ = []) := by
 refine Does.body (vs := [.int .u64 a1, .int .u64 b2]) Try.func51 rfl trivial trivial fun w S => ?_
 unfold frac_gcd.f at H0
 refine J.sr ?_
 refine JL.as (.int .u64 0) ?_
 refine JL.es [(0, .int .u64 a1), (1, .int .u64 b2)] ?_
 refine J.seq ?_
 obtain ⟨o1, hit, H0⟩ := bind_some H0
 refine J.loop (σ := (Int × Int)) (τ := Int) (G := Unit) (G' := Unit) _ o1 (fun s g => [(0, .int .u64 s.1), (1, .int .u64 s.2)]) (fun s g => []) (fun t => frac_gcd.k2 t = some r) (fun t g => [(0, .int .u64 t)]) (fun t g => []) (a1, b2) () hit (fun _ h => Heap.to h) ?_ ?_
 · clear hit
   rintro ⟨a11, b12⟩ ⟨⟩ st1 H1 hb1 hr1
   replace H1 : frac_gcd.s1 a11 b12 = some st1 := H1
   unfold frac_gcd.s1 at H1
   refine JQ.sub [(0, .int .u64 a11), (1, .int .u64 b12)] ?_
   refine JQ.turn (Δ' := []) (fun _ h => h.to) ?_
   refine J.seq ?_
   refine J.sr ?_
   refine JL.mv (.int .u64 b12) ?_
   refine JL.pur (.bool (decide (0 < b12))) (some 6) ?_
   refine JL.es [(0, .int .u64 a11), (1, .int .u64 b12), (6, .bool (decide (0 < b12)))] ?_
   rcases ite_cases H1 with ⟨h17, H1⟩ | ⟨h17, H1⟩
   · refine J.cond_true h17 ?_
     refine J.skip ?_
     refine JQ.ts [(0, .int .u64 a11), (1, .int .u64 b12)] ?_
     refine J.block ?_
     refine J.draw ?_
     refine QL.mv (.int .u64 b12) ?_
     refine QL.mv (.int .u64 a11) ?_
     refine QL.mv (.int .u64 b12) ?_
     obtain ⟨h18, H1⟩ := ite_must H1
     refine QL.val (.int .u64 (Int.tmod a11 b12)) (some 10) (gives_rem .u64 a11 b12 h18) ?_
     refine QL.as (.int .u64 b12) ?_
     obtain ⟨b19, eb19, H1⟩ := lt_some H1
     refine QL.as' (k := .u64) b19 eb19 ?_
     refine QL.nil ?_
     refine JA.nil ?_
     refine JQ.blk_normal ?_
     refine JQ.then_normal ?_
     exact JQ.again (b12, b19) () (Option.some.inj H1).symm (fun _ h => Heap.to h)
   · refine J.cond_false h17 ?_
     refine J.exit ?_
     refine JQ.then_exit ?_
     refine JQ.then_exit ?_
     refine JQ.blk_exit ?_
     rw [hb1 _ (Option.some.inj H1).symm, fin_brk] at H0
     exact JQ.met a11 () H0 (fun _ h => Heap.to h)
 · clear hit H0
   rintro a16 ⟨⟩ H0
   replace H0 : frac_gcd.k2 a16 = some r := H0
   unfold frac_gcd.k2 at H0
   refine JQ.sub [(0, .int .u64 a16)] ?_
   refine JQ.turn (Δ' := []) (fun _ h => h.to) ?_
   refine JQ.then_normal ?_
   refine J.sr ?_
   refine JL.mv (.int .u64 a16) ?_
   refine JL.as (.int .u64 a16) ?_
   refine JL.es [(4, .int .u64 a16)] ?_
   refine J.ret ?_
   obtain rfl := Option.some.inj H0
   exact JQ.done' (rs := [.tmp 4]) (vs := [.int .u64 a16]) [] (.inr rfl) ⟨by kernel_rfl, trivial⟩ (fun _ h => Heap.to h) ⟨rfl, rfl⟩

theorem frac_made.ok (minus1 : Bool) (num2 : Int) (den3 : Int) (r : (Frac × Int)) (H0 : frac_made.f minus1 num2 den3 = some r) :
    Does Try.prog 52 [.bool minus1, .int .u64 num2, .int .u64 den3].toArray [] [] false (fun v Δ => v = .tuple #[mv_37 r.1, .int .i64 r.2] ∧ Δ = []) := by
 refine Does.body (vs := [.bool minus1, .int .u64 num2, .int .u64 den3]) Try.func52 rfl trivial trivial fun w S => ?_
 unfold frac_made.f at H0
 refine J.sr ?_
 refine JL.alloc (cl_37 zv_37) fun b4 => ?_
 refine JL.as (.int .i64 0) ?_
 refine JL.es [(0, .bool minus1), (1, .int .u64 num2), (2, .int .u64 den3), (6, .pointer (some ⟨b4, 0, none⟩))] ?_
 refine J.seq ?_
 refine J.join (T := Bool) (G := Unit) (fun t => frac_made.k1 minus1 num2 den3 t = some r) (fun t g => [(0, .bool minus1), (1, .int .u64 num2), (2, .int .u64 den3), (6, .pointer (some ⟨b4, 0, none⟩)), (14, .bool t)]) (fun t g => [At.box b4 37 (cl_37 zv_37)]) ?_ ?_
 · refine J.region ?_
   refine JL.mv (.int .u64 num2) ?_
   refine JL.pur (.bool (decide (1000000000000000000 < num2))) (some 10) ?_
   refine JL.mv (.bool (decide (1000000000000000000 < num2))) ?_
   rcases ite_cases H0 with ⟨h12, H0⟩ | ⟨h12, H0⟩
   · refine JL.off 2 11 false (some 12) h12 ?_
     refine JL.off 2 11 false (some 13) h12 ?_
     refine JL.val (.bool true) (some 14) (gives_pickT h12) ?_
     refine JL.en ?_
     exact JQ.meet true () H0 (fun _ h => Heap.to h)
   · refine JL.on 2 11 h12 ?_
     refine JL.mv (.int .u64 den3) ?_
     refine JL.on 2 11 h12 ?_
     refine JL.pur (.bool (decide (1000000000000000000 < den3))) (some 13) ?_
     refine JL.val (.bool (decide (1000000000000000000 < den3))) (some 14) (gives_pickF h12) ?_
     refine JL.en ?_
     exact JQ.meet (decide (1000000000000000000 < den3)) () H0 (fun _ h => Heap.to h)
 · clear H0
   rintro x6 ⟨⟩ H0
   replace H0 : frac_made.k1 minus1 num2 den3 x6 = some r := H0
   unfold frac_made.k1 at H0
   refine JQ.sub [(0, .bool minus1), (1, .int .u64 num2), (2, .int .u64 den3), (6, .pointer (some ⟨b4, 0, none⟩)), (14, .bool x6)] ?_
   refine JQ.turn (Δ' := [At.box b4 37 (cl_37 zv_37)]) (fun _ h => h.to) ?_
   rcases ite_cases H0 with ⟨h7, H0⟩ | ⟨h7, H0⟩
   · refine J.cond_true h7 ?_
     refine J.sr ?_
     refine JL.pur (mv_37 zv_37) (some 15) ?_
     refine JL.store 0 b4 0 37 (cl_37 zv_37) (cl_37 zv_37) tySize_37 ?_
     refine JL.as (.int .i64 16) ?_
     refine JL.es [(6, .pointer (some ⟨b4, 0, none⟩)), (7, .int .i64 16)] ?_
     refine J.ret ?_
     refine JQ.then_ret ?_
     obtain rfl := Option.some.inj H0
     exact JQ.done' (rs := [.cell 6 37, .tmp 7]) (vs := [.agg #[.int .i64 0, .int .i64 0], .int .i64 16]) [] (.inr rfl) ⟨⟨b4, 0, _, _, by kernel_rfl, by kernel_rfl, holds_box b4 37 (cl_37 zv_37), .inl ⟨tyAgg_37, tySize_37, rfl⟩⟩, by kernel_rfl, trivial⟩ (fun _ h => Heap.to (Heap.pick [] (by decide) h)) ⟨rfl, rfl⟩
   · refine J.cond_false h7 ?_
     refine J.skip ?_
     refine JQ.ts [(0, .bool minus1), (1, .int .u64 num2), (2, .int .u64 den3), (6, .pointer (some ⟨b4, 0, none⟩))] ?_
     refine J.sr ?_
     refine JL.mv (.int .u64 num2) ?_
     refine JL.pur (.int .i64 (w64 num2)) (some 17) ?_
     refine JL.mv (.int .u64 den3) ?_
     refine JL.pur (.int .i64 (w64 den3)) (some 19) ?_
     refine JL.pur (.agg #[.int .i64 (w64 num2), .int .i64 (w64 den3)]) (some 20) ?_
     refine JL.alloc (cl_37 zv_37) fun b8 => ?_
     refine JL.store 1 b8 0 37 (cl_37 zv_37) [.int .i64 (w64 num2), .int .i64 (w64 den3)] tySize_37 ?_
     refine JL.es [(0, .bool minus1), (6, .pointer (some ⟨b4, 0, none⟩)), (8, .pointer (some ⟨b8, 0, none⟩))] ?_
     refine J.join (T := Frac) (G := Unit) (fun t => frac_made.k2 t = some r) (fun t g => [(6, .pointer (some ⟨b4, 0, none⟩)), (8, .pointer (some ⟨b8, 0, none⟩))]) (fun t g => [At.box b4 37 (cl_37 zv_37), At.box b8 37 (cl_37 t)]) ?_ ?_
     · refine J.sr ?_
       refine JL.mv (.bool minus1) ?_
       refine JL.es [(6, .pointer (some ⟨b4, 0, none⟩)), (8, .pointer (some ⟨b8, 0, none⟩)), (21, .bool minus1)] ?_
       rcases ite_cases H0 with ⟨h11, H0⟩ | ⟨h11, H0⟩
       · refine J.cond_true h11 ?_
         refine J.region ?_
         refine JL.pur (.pointer (some ⟨b8, 0, none⟩)) (some 22) ?_
         refine JL.val (.int .i64 (w64 num2)) (some 23) (yields_load_box 1 0 (holds_box b8 37 [.int .i64 (w64 num2), .int .i64 (w64 den3)]) tyAgg_2) ?_
         refine JL.pur (.int .i64 (w64 (0 - w64 num2))) (some 24) ?_
         refine JL.pur (.pointer (some ⟨b8, 0, none⟩)) (some 25) ?_
         refine JL.store 1 b8 0 37 [.int .i64 (w64 num2), .int .i64 (w64 den3)] [.int .i64 (w64 (0 - w64 num2)), .int .i64 (w64 den3)] tySize_2 ?_
         refine JL.en ?_
         exact JQ.meet (⟨(w64 (0 - w64 num2)), (w64 den3)⟩ : Frac) () H0 (fun _ h => Heap.to h)
       · refine J.cond_false h11 ?_
         refine J.skip ?_
         refine JQ.then_normal ?_
         exact JQ.meet (⟨(w64 num2), (w64 den3)⟩ : Frac) () H0 (fun _ h => Heap.to h)
     · clear H0
       rintro a10 ⟨⟩ H0
       replace H0 : frac_made.k2 a10 = some r := H0
       unfold frac_made.k2 at H0
       refine JQ.sub [(6, .pointer (some ⟨b4, 0, none⟩)), (8, .pointer (some ⟨b8, 0, none⟩))] ?_
       refine JQ.turn (Δ' := [At.box b4 37 (cl_37 zv_37), At.box b8 37 (cl_37 a10)]) (fun _ h => h.to) ?_
       refine J.sr ?_
       refine JL.val (mv_37 a10) (some 26) (yields_load_boxes 1 0 (cl_37 a10) (holds_box b8 37 (cl_37 a10)) tyAgg_37 tySize_37) ?_
       refine JL.store 0 b4 0 37 (cl_37 zv_37) (cl_37 a10) tySize_37 ?_
       refine JL.as (.int .i64 0) ?_
       refine JL.es [(6, .pointer (some ⟨b4, 0, none⟩)), (7, .int .i64 0)] ?_
       refine JQ.mask [At.box b4 37 (cl_37 a10)] [true, false] ?_
       refine J.ret ?_
       obtain rfl := Option.some.inj H0
       exact JQ.done' (rs := [.cell 6 37, .tmp 7]) (vs := [.agg #[.int .i64 a10.Num, .int .i64 a10.Den], .int .i64 0]) [] (.inr rfl) ⟨⟨b4, 0, _, _, by kernel_rfl, by kernel_rfl, holds_box b4 37 (cl_37 a10), .inl ⟨tyAgg_37, tySize_37, rfl⟩⟩, by kernel_rfl, trivial⟩ (fun _ h => Heap.to (Heap.pick [] (by decide) h)) ⟨rfl, rfl⟩

theorem frac_Make.ok (num1 : Int) (den2 : Int) (r : (Frac × Int)) (H0 : frac_Make.f num1 den2 = some r) :
    Does Try.prog 33 [.int .i64 num1, .int .i64 den2].toArray [] [] false (fun v Δ => v = .tuple #[mv_37 r.1, .int .i64 r.2] ∧ Δ = []) := by
 refine Does.body (vs := [.int .i64 num1, .int .i64 den2]) Try.func33 rfl trivial trivial fun w S => ?_
 unfold frac_Make.f at H0
 refine J.sr ?_
 refine JL.alloc (cl_37 zv_37) fun b3 => ?_
 refine JL.as (.int .i64 0) ?_
 refine JL.es [(0, .int .i64 num1), (1, .int .i64 den2), (4, .pointer (some ⟨b3, 0, none⟩))] ?_
 refine J.seq ?_
 refine J.sr ?_
 refine JL.mv (.int .i64 den2) ?_
 refine JL.pur (.bool (decide (den2 = 0))) (some 10) ?_
 refine JL.es [(0, .int .i64 num1), (1, .int .i64 den2), (4, .pointer (some ⟨b3, 0, none⟩)), (10, .bool (decide (den2 = 0)))] ?_
 rcases ite_cases H0 with ⟨h4, H0⟩ | ⟨h4, H0⟩
 · refine J.cond_true h4 ?_
   refine J.sr ?_
   refine JL.pur (mv_37 zv_37) (some 11) ?_
   refine JL.store 0 b3 0 37 (cl_37 zv_37) (cl_37 zv_37) tySize_37 ?_
   refine JL.as (.int .i64 18) ?_
   refine JL.es [(4, .pointer (some ⟨b3, 0, none⟩)), (5, .int .i64 18)] ?_
   refine J.ret ?_
   refine JQ.then_ret ?_
   obtain rfl := Option.some.inj H0
   exact JQ.done' (rs := [.cell 4 37, .tmp 5]) (vs := [.agg #[.int .i64 0, .int .i64 0], .int .i64 18]) [] (.inr rfl) ⟨⟨b3, 0, _, _, by kernel_rfl, by kernel_rfl, holds_box b3 37 (cl_37 zv_37), .inl ⟨tyAgg_37, tySize_37, rfl⟩⟩, by kernel_rfl, trivial⟩ (fun _ h => Heap.to (Heap.pick [] (by decide) h)) ⟨rfl, rfl⟩
 · refine J.cond_false h4 ?_
   refine J.skip ?_
   refine JQ.ts [(0, .int .i64 num1), (1, .int .i64 den2), (4, .pointer (some ⟨b3, 0, none⟩))] ?_
   refine J.sr ?_
   refine JL.mv (.int .i64 num1) ?_
   obtain ⟨t5, hc6, H0⟩ := bind_some H0
   refine JL.call [] [] [] (frac_abs.ok num1 _ hc6) trivial ?_
   rintro _ _ ⟨rfl, rfl⟩
   refine JL.mv (.int .i64 den2) ?_
   obtain ⟨t7, hc8, H0⟩ := bind_some H0
   refine JL.call [] [] [] (frac_abs.ok den2 _ hc8) trivial ?_
   rintro _ _ ⟨rfl, rfl⟩
   refine JL.as (.int .u64 t5) ?_
   refine JL.as (.int .u64 t7) ?_
   refine JL.es [(0, .int .i64 num1), (1, .int .i64 den2), (4, .pointer (some ⟨b3, 0, none⟩)), (6, .int .u64 t5), (7, .int .u64 t7)] ?_
   refine J.sr ?_
   refine JL.mv (.int .u64 t5) ?_
   refine JL.mv (.int .u64 t7) ?_
   obtain ⟨t9, hc10, H0⟩ := bind_some H0
   refine JL.call [] [] [] (frac_gcd.ok t5 t7 _ hc10) trivial ?_
   rintro _ _ ⟨rfl, rfl⟩
   refine JL.as (.int .u64 t9) ?_
   refine JL.es [(0, .int .i64 num1), (1, .int .i64 den2), (4, .pointer (some ⟨b3, 0, none⟩)), (6, .int .u64 t5), (7, .int .u64 t7), (8, .int .u64 t9)] ?_
   refine J.seq ?_
   refine J.drawT 14 ?_
   refine QL.mv (.int .i64 num1) ?_
   refine QL.pur (.bool (decide (num1 < 0))) (some 20) ?_
   refine QL.mv (.int .i64 den2) ?_
   refine QL.pur (.bool (decide (den2 < 0))) (some 22) ?_
   refine QL.pur (.bool (!((decide (num1 < 0)) == (decide (den2 < 0))))) (some 23) ?_
   refine QL.mv (.int .u64 t5) ?_
   refine QL.mv (.int .u64 t9) ?_
   obtain ⟨h11, H0⟩ := ite_must H0
   refine QL.val (.int .u64 (wu64 (Int.tdiv t5 t9))) (some 26) (gives_quo .u64 t5 t9 h11) ?_
   refine QL.mv (.int .u64 t7) ?_
   refine QL.mv (.int .u64 t9) ?_
   obtain ⟨h12, H0⟩ := ite_must H0
   refine QL.val (.int .u64 (wu64 (Int.tdiv t7 t9))) (some 29) (gives_quo .u64 t7 t9 h12) ?_
   obtain ⟨t13, hc14, H0⟩ := bind_some H0
   refine QL.call [] [] (frac_made.ok (!((decide (num1 < 0)) == (decide (den2 < 0)))) (wu64 (Int.tdiv t5 t9)) (wu64 (Int.tdiv t7 t9)) _ hc14) trivial ?_
   refine QL.pur (mv_37 t13.1) (some 31) ?_
   refine QL.pur (.int .i64 t13.2) (some 32) ?_
   refine QL.nil ?_
   refine JA.nil ?_
   refine JL.store 0 b3 0 37 (cl_37 zv_37) (cl_37 t13.1) tySize_37 ?_
   refine JL.as (.int .i64 t13.2) ?_
   refine JL.es [(4, .pointer (some ⟨b3, 0, none⟩)), (5, .int .i64 t13.2)] ?_
   refine J.ret ?_
   obtain rfl := Option.some.inj H0
   exact JQ.done' (rs := [.cell 4 37, .tmp 5]) (vs := [.agg #[.int .i64 t13.1.Num, .int .i64 t13.1.Den], .int .i64 t13.2]) [] (.inr rfl) ⟨⟨b3, 0, _, _, by kernel_rfl, by kernel_rfl, holds_box b3 37 (cl_37 t13.1), .inl ⟨tyAgg_37, tySize_37, rfl⟩⟩, by kernel_rfl, trivial⟩ (fun _ h => Heap.to (Heap.pick [] (by decide) h)) ⟨rfl, rfl⟩

theorem accum_Mean.ok (a1 : Acc) (Aa2 : Option Addr) (c3 : Nat) (Aa5 : Option Addr) (c6 : Nat) (Aa8 : Option Addr) (c9 : Nat) (lag11 : Int) (r : (Frac × Int)) (H0 : accum_Mean.f a1 lag11 = some r) :
    Does Try.prog 13 [.agg #[.slice Aa2 a1.Sums.length c3, .slice Aa5 a1.Ns.length c6, .slice Aa8 a1.Spans.length c9], .int .i64 lag11].toArray [At.rd Aa2 c3 fl_Count.kd a1.Sums true, At.rd Aa5 c6 fl_Count.kd a1.Ns true, At.rd Aa8 c9 fl_Gap.kd a1.Spans true] [] false (fun v Δ => v = .tuple #[mv_37 r.1, .int .i64 r.2] ∧ Δ = []) := by
 refine Does.body (vs := [.agg #[.slice Aa2 a1.Sums.length c3, .slice Aa5 a1.Ns.length c6, .slice Aa8 a1.Spans.length c9], .int .i64 lag11]) Try.func13 rfl ⟨.inl rfl, .inl rfl, .inl rfl, trivial⟩ trivial fun w S => ?_
 unfold accum_Mean.f at H0
 refine J.sr ?_
 refine JL.box [.slice Aa2 a1.Sums.length c3, .slice Aa5 a1.Ns.length c6, .slice Aa8 a1.Spans.length c9] fun b12 => ?_
 refine JL.alloc (cl_37 zv_37) fun b13 => ?_
 refine JL.as (.int .i64 0) ?_
 refine JL.es [(1, .int .i64 lag11), (2, .pointer (some ⟨b12, 0, none⟩)), (4, .pointer (some ⟨b13, 0, none⟩))] ?_
 refine J.sr ?_
 refine JL.val (.agg #[.slice Aa2 a1.Sums.length c3, .slice Aa5 a1.Ns.length c6, .slice Aa8 a1.Spans.length c9]) (some 10) (yields_load_boxes 3 0 [.slice Aa2 a1.Sums.length c3, .slice Aa5 a1.Ns.length c6, .slice Aa8 a1.Spans.length c9] (holds_box b12 25 [.slice Aa2 a1.Sums.length c3, .slice Aa5 a1.Ns.length c6, .slice Aa8 a1.Spans.length c9]) tyAgg_25 tySize_25) ?_
 refine JL.mv (.int .i64 lag11) ?_
 obtain ⟨t14, hc15, H0⟩ := bind_some H0
 refine JL.call [] [] [] (accum_Value.ok a1 Aa2 c3 Aa5 c6 Aa8 c9 lag11 _ hc15) ⟨pre_any 0 (view_rd Aa2 c3 fl_Count.kd a1.Sums true true), ⟨pre_any 1 (view_rd Aa5 c6 fl_Count.kd a1.Ns true true), ⟨pre_any 2 (view_rd Aa8 c9 fl_Gap.kd a1.Spans true true), trivial⟩⟩⟩ ?_
 rintro _ _ ⟨rfl, rfl⟩
 refine JL.mv (.tuple #[.int .i64 t14.1, .int .i64 t14.2.1, .int .i64 t14.2.2]) ?_
 refine JL.pur (.int .i64 t14.1) (some 13) ?_
 refine JL.pur (.int .i64 t14.2.1) (some 14) ?_
 refine JL.pur (.int .i64 t14.2.2) (some 15) ?_
 refine JL.as (.int .i64 t14.1) ?_
 refine JL.as (.int .i64 t14.2.1) ?_
 refine JL.as (.int .i64 t14.2.2) ?_
 refine JL.es [(4, .pointer (some ⟨b13, 0, none⟩)), (6, .int .i64 t14.1), (7, .int .i64 t14.2.1), (8, .int .i64 t14.2.2)] ?_
 refine JQ.mask [At.box b13 37 (cl_37 zv_37)] [false, false, false, false, true] ?_
 refine J.seq ?_
 refine J.sr ?_
 refine JL.mv (.int .i64 t14.2.2) ?_
 refine JL.pur (.bool (!decide (t14.2.2 = 0))) (some 17) ?_
 refine JL.es [(4, .pointer (some ⟨b13, 0, none⟩)), (6, .int .i64 t14.1), (7, .int .i64 t14.2.1), (8, .int .i64 t14.2.2), (17, .bool (!decide (t14.2.2 = 0)))] ?_
 rcases ite_cases H0 with ⟨h16, H0⟩ | ⟨h16, H0⟩
 · refine J.cond_true h16 ?_
   refine J.sr ?_
   refine JL.pur (mv_37 zv_37) (some 18) ?_
   refine JL.mv (.int .i64 t14.2.2) ?_
   refine JL.store 0 b13 0 37 (cl_37 zv_37) (cl_37 zv_37) tySize_37 ?_
   refine JL.as (.int .i64 t14.2.2) ?_
   refine JL.es [(4, .pointer (some ⟨b13, 0, none⟩)), (5, .int .i64 t14.2.2)] ?_
   refine J.ret ?_
   refine JQ.then_ret ?_
   obtain rfl := Option.some.inj H0
   exact JQ.done' (rs := [.cell 4 37, .tmp 5]) (vs := [.agg #[.int .i64 0, .int .i64 0], .int .i64 t14.2.2]) [] (.inr rfl) ⟨⟨b13, 0, _, _, by kernel_rfl, by kernel_rfl, holds_box b13 37 (cl_37 zv_37), .inl ⟨tyAgg_37, tySize_37, rfl⟩⟩, by kernel_rfl, trivial⟩ (fun _ h => Heap.to (Heap.pick [] (by decide) h)) ⟨rfl, rfl⟩
 · refine J.cond_false h16 ?_
   refine J.skip ?_
   refine JQ.ts [(4, .pointer (some ⟨b13, 0, none⟩)), (6, .int .i64 t14.1), (7, .int .i64 t14.2.1)] ?_
   refine J.seq ?_
   refine J.sr ?_
   refine JL.mv (.int .i64 t14.2.1) ?_
   refine JL.pur (.bool (decide (t14.2.1 = 0))) (some 21) ?_
   refine JL.es [(4, .pointer (some ⟨b13, 0, none⟩)), (6, .int .i64 t14.1), (7, .int .i64 t14.2.1), (21, .bool (decide (t14.2.1 = 0)))] ?_
   rcases ite_cases H0 with ⟨h17, H0⟩ | ⟨h17, H0⟩
   · refine J.cond_true h17 ?_
     refine J.sr ?_
     refine JL.pur (mv_37 zv_37) (some 22) ?_
     refine JL.store 0 b13 0 37 (cl_37 zv_37) (cl_37 zv_37) tySize_37 ?_
     refine JL.as (.int .i64 18) ?_
     refine JL.es [(4, .pointer (some ⟨b13, 0, none⟩)), (5, .int .i64 18)] ?_
     refine J.ret ?_
     refine JQ.then_ret ?_
     obtain rfl := Option.some.inj H0
     exact JQ.done' (rs := [.cell 4 37, .tmp 5]) (vs := [.agg #[.int .i64 0, .int .i64 0], .int .i64 18]) [] (.inr rfl) ⟨⟨b13, 0, _, _, by kernel_rfl, by kernel_rfl, holds_box b13 37 (cl_37 zv_37), .inl ⟨tyAgg_37, tySize_37, rfl⟩⟩, by kernel_rfl, trivial⟩ (fun _ h => Heap.to (Heap.pick [] (by decide) h)) ⟨rfl, rfl⟩
   · refine J.cond_false h17 ?_
     refine J.skip ?_
     refine JQ.ts [(4, .pointer (some ⟨b13, 0, none⟩)), (6, .int .i64 t14.1), (7, .int .i64 t14.2.1)] ?_
     refine J.sr ?_
     refine JL.mv (.int .i64 t14.1) ?_
     refine JL.mv (.int .i64 t14.2.1) ?_
     obtain ⟨t18, hc19, H0⟩ := bind_some H0
     refine JL.call [] [] [] (frac_Make.ok t14.1 t14.2.1 _ hc19) trivial ?_
     rintro _ _ ⟨rfl, rfl⟩
     refine JL.pur (mv_37 t18.1) (some 26) ?_
     refine JL.pur (.int .i64 t18.2) (some 27) ?_
     refine JL.store 0 b13 0 37 (cl_37 zv_37) (cl_37 t18.1) tySize_37 ?_
     refine JL.as (.int .i64 t18.2) ?_
     refine JL.es [(4, .pointer (some ⟨b13, 0, none⟩)), (5, .int .i64 t18.2)] ?_
     refine J.ret ?_
     obtain rfl := Option.some.inj H0
     exact JQ.done' (rs := [.cell 4 37, .tmp 5]) (vs := [.agg #[.int .i64 t18.1.Num, .int .i64 t18.1.Den], .int .i64 t18.2]) [] (.inr rfl) ⟨⟨b13, 0, _, _, by kernel_rfl, by kernel_rfl, holds_box b13 37 (cl_37 t18.1), .inl ⟨tyAgg_37, tySize_37, rfl⟩⟩, by kernel_rfl, trivial⟩ (fun _ h => Heap.to (Heap.pick [] (by decide) h)) ⟨rfl, rfl⟩

theorem accum_Times.ok (a1 : Acc) (Aa2 : Option Addr) (c3 : Nat) (Aa5 : Option Addr) (c6 : Nat) (Aa8 : Option Addr) (c9 : Nat) (r : (Int × Int)) (H0 : accum_Times.f a1 = some r) :
    Does Try.prog 15 [.agg #[.slice Aa2 a1.Sums.length c3, .slice Aa5 a1.Ns.length c6, .slice Aa8 a1.Spans.length c9]].toArray [At.rd Aa2 c3 fl_Count.kd a1.Sums true, At.rd Aa5 c6 fl_Count.kd a1.Ns true, At.rd Aa8 c9 fl_Gap.kd a1.Spans true] [] false (fun v Δ => v = .tuple #[.int .i64 r.1, .int .i64 r.2] ∧ Δ = []) := by
 refine Does.body (vs := [.agg #[.slice Aa2 a1.Sums.length c3, .slice Aa5 a1.Ns.length c6, .slice Aa8 a1.Spans.length c9]]) Try.func15 rfl ⟨.inl rfl, .inl rfl, .inl rfl, trivial⟩ trivial fun w S => ?_
 unfold accum_Times.f at H0
 refine J.sr ?_
 refine JL.box [.slice Aa2 a1.Sums.length c3, .slice Aa5 a1.Ns.length c6, .slice Aa8 a1.Spans.length c9] fun b11 => ?_
 refine JL.as (.int .i64 0) ?_
 refine JL.as (.int .i64 0) ?_
 refine JL.es [(1, .pointer (some ⟨b11, 0, none⟩))] ?_
 refine J.seq ?_
 refine J.sr ?_
 refine JL.val (.agg #[.slice Aa2 a1.Sums.length c3, .slice Aa5 a1.Ns.length c6, .slice Aa8 a1.Spans.length c9]) (some 8) (yields_load_boxes 3 0 [.slice Aa2 a1.Sums.length c3, .slice Aa5 a1.Ns.length c6, .slice Aa8 a1.Spans.length c9] (holds_box b11 25 [.slice Aa2 a1.Sums.length c3, .slice Aa5 a1.Ns.length c6, .slice Aa8 a1.Spans.length c9]) tyAgg_25 tySize_25) ?_
 obtain ⟨t12, hc13, H0⟩ := bind_some H0
 refine JL.call [] [] [] (accum_Check.ok a1 Aa2 c3 Aa5 c6 Aa8 c9 _ hc13) ⟨pre_any 0 (view_rd Aa2 c3 fl_Count.kd a1.Sums true true), ⟨pre_any 1 (view_rd Aa5 c6 fl_Count.kd a1.Ns true true), ⟨pre_any 2 (view_rd Aa8 c9 fl_Gap.kd a1.Spans true true), trivial⟩⟩⟩ ?_
 rintro _ _ ⟨rfl, rfl⟩
 refine JL.as (.int .i64 t12) ?_
 refine JL.es [(1, .pointer (some ⟨b11, 0, none⟩)), (4, .int .i64 t12)] ?_
 refine J.sr ?_
 refine JL.mv (.int .i64 t12) ?_
 refine JL.pur (.bool (!decide (t12 = 0))) (some 11) ?_
 refine JL.es [(1, .pointer (some ⟨b11, 0, none⟩)), (4, .int .i64 t12), (11, .bool (!decide (t12 = 0)))] ?_
 rcases ite_cases H0 with ⟨h14, H0⟩ | ⟨h14, H0⟩
 · refine J.cond_true h14 ?_
   refine J.sr ?_
   refine JL.mv (.int .i64 t12) ?_
   refine JL.as (.int .i64 0) ?_
   refine JL.as (.int .i64 t12) ?_
   refine JL.es [(2, .int .i64 0), (3, .int .i64 t12)] ?_
   refine JQ.mask [] [false, false, false, false] ?_
   refine J.ret ?_
   refine JQ.then_ret ?_
   obtain rfl := Option.some.inj H0
   exact JQ.done' (rs := [.tmp 2, .tmp 3]) (vs := [.int .i64 0, .int .i64 t12]) [] (.inr rfl) ⟨by kernel_rfl, by kernel_rfl, trivial⟩ (fun _ h => Heap.to h) ⟨rfl, rfl⟩
 · refine J.cond_false h14 ?_
   refine J.skip ?_
   refine JQ.ts [(1, .pointer (some ⟨b11, 0, none⟩))] ?_
   refine J.sr ?_
   refine JL.as (.int .i64 0) ?_
   refine JL.en ?_
   refine J.seq ?_
   refine J.sr ?_
   refine JL.pur (.pointer (some ⟨b11, 2, none⟩)) (some 13) ?_
   refine JL.val (.slice Aa8 a1.Spans.length c9) (some 14) (yields_load_box 3 2 (holds_box b11 25 [.slice Aa2 a1.Sums.length c3, .slice Aa5 a1.Ns.length c6, .slice Aa8 a1.Spans.length c9]) tyAgg_23) ?_
   refine JL.pur (.int .i64 (a1.Spans.length : Int)) (some 15) ?_
   refine JL.mv (.int .i64 0) ?_
   refine JL.es [(5, .int .i64 0), (14, .slice Aa8 a1.Spans.length c9), (15, .int .i64 (a1.Spans.length : Int)), (16, .int .i64 0)] ?_
   refine JQ.mask [At.rd Aa8 c9 fl_Gap.kd a1.Spans true] [false, false, true, false] ?_
   obtain ⟨o1, hit, H0⟩ := bind_some H0
   refine J.loop (σ := (Int × Int)) (τ := Int) (G := Unit) (G' := Unit) _ o1 (fun s g => [(5, .int .i64 s.1), (14, .slice Aa8 a1.Spans.length c9), (15, .int .i64 (a1.Spans.length : Int)), (16, .int .i64 s.2)]) (fun s g => [At.rd Aa8 c9 fl_Gap.kd a1.Spans true]) (fun t => accum_Times.k2 t = some r) (fun t g => [(5, .int .i64 t)]) (fun t g => []) (0, 0) () hit (fun _ h => Heap.to h) ?_ ?_
   · clear hit
     rintro ⟨n33, x34⟩ ⟨⟩ st1 H1 hb1 hr1
     replace H1 : accum_Times.s1 a1 n33 x34 = some st1 := H1
     unfold accum_Times.s1 at H1
     refine JQ.sub [(5, .int .i64 n33), (14, .slice Aa8 a1.Spans.length c9), (15, .int .i64 (a1.Spans.length : Int)), (16, .int .i64 x34)] ?_
     refine JQ.turn (Δ' := [At.rd Aa8 c9 fl_Gap.kd a1.Spans true]) (fun _ h => h.to) ?_
     refine J.sr ?_
     refine JL.pur (.bool (decide (x34 < (a1.Spans.length : Int)))) (some 17) ?_
     refine JL.en ?_
     refine J.seq ?_
     rcases ite_cases H1 with ⟨h43, H1⟩ | ⟨h43, H1⟩
     · refine J.cond_true h43 ?_
       refine J.skip ?_
       refine JQ.ts [(5, .int .i64 n33), (14, .slice Aa8 a1.Spans.length c9), (15, .int .i64 (a1.Spans.length : Int)), (16, .int .i64 x34)] ?_
       refine J.seq ?_
       refine J.block ?_
       refine J.sr ?_
       obtain ⟨⟨h44, h45⟩, H1⟩ := ite_must H1
       refine JL.ixAddr 0 2 c9 .i64 (elems_rd Aa8 c9 fl_Gap.kd a1.Spans true) Try.underlying23 tySize_51 h44 h45 fun g46 o47 hA => ?_
       subst hA
       refine JL.val (mv_51 (ix a1.Spans x34)) (some 19) (gives_loadEl (f := fl_Gap) 0 0 x34 (elems_rd (some ⟨g46, o47, none⟩) c9 fl_Gap.kd a1.Spans true) h44 h45 tySize_51 (.inl ⟨tyAgg_51, rfl⟩)) ?_
       refine JL.alloc (cl_51 zv_51) fun b48 => ?_
       refine JL.store 1 b48 0 51 (cl_51 zv_51) (cl_51 (ix a1.Spans x34)) tySize_51 ?_
       refine JL.es [(5, .int .i64 n33), (7, .pointer (some ⟨b48, 0, none⟩)), (14, .slice (some ⟨g46, o47, none⟩) a1.Spans.length c9), (15, .int .i64 (a1.Spans.length : Int)), (16, .int .i64 x34)] ?_
       refine J.region ?_
       refine JL.mv (.int .i64 n33) ?_
       refine JL.pur (.pointer (some ⟨b48, 1, none⟩)) (some 21) ?_
       refine JL.val (.int .i64 ((ix a1.Spans x34).Many)) (some 22) (yields_load_box 1 1 (holds_box b48 51 (cl_51 (ix a1.Spans x34))) tyAgg_3) ?_
       refine JL.pur (.int .i64 (w64 (n33 + ((ix a1.Spans x34).Many)))) (some 23) ?_
       obtain ⟨n49, en49, H1⟩ := lt_some H1
       refine JL.as' (k := .i64) n49 en49 ?_
       refine JL.end_ ?_
       refine JQ.blk_normal ?_
       refine JQ.ts [(5, .int .i64 n49), (14, .slice (some ⟨g46, o47, none⟩) a1.Spans.length c9), (15, .int .i64 (a1.Spans.length : Int)), (16, .int .i64 x34)] ?_
       refine JQ.mask [At.rd (some ⟨g46, o47, none⟩) c9 fl_Gap.kd a1.Spans true] [true, false] ?_
       refine J.region ?_
       refine JL.pur (.int .i64 (w64 (x34 + 1))) (some 24) ?_
       refine JL.mv (.int .i64 (w64 (x34 + 1))) ?_
       refine JL.en ?_
       exact JQ.again (n49, w64 (x34 + 1)) () (Option.some.inj H1).symm (fun _ h => Heap.to h)
     · refine J.cond_false h43 ?_
       refine J.exit ?_
       refine JQ.then_exit ?_
       refine JQ.then_exit ?_
       refine JQ.blk_exit ?_
       rw [hb1 _ (Option.some.inj H1).symm, fin_brk] at H0
       exact JQ.met n33 () H0 (fun _ h => Heap.to (Heap.pick [] (by decide) h))
   · clear hit H0
     rintro n42 ⟨⟩ H0
     replace H0 : accum_Times.k2 n42 = some r := H0
     unfold accum_Times.k2 at H0
     refine JQ.sub [(5, .int .i64 n42)] ?_
     refine JQ.turn (Δ' := []) (fun _ h => h.to) ?_
     refine JQ.then_normal ?_
     refine J.sr ?_
     refine JL.mv (.int .i64 n42) ?_
     refine JL.as (.int .i64 n42) ?_
     refine JL.as (.int .i64 0) ?_
     refine JL.es [(2, .int .i64 n42), (3, .int .i64 0)] ?_
     refine J.ret ?_
     obtain rfl := Option.some.inj H0
     exact JQ.done' (rs := [.tmp 2, .tmp 3]) (vs := [.int .i64 n42, .int .i64 0]) [] (.inr rfl) ⟨by kernel_rfl, by kernel_rfl, trivial⟩ (fun _ h => Heap.to h) ⟨rfl, rfl⟩


end Go.Proofs.Ytiepcikippcfaaa.M
