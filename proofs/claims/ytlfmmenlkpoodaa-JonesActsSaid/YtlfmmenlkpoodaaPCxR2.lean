/- Plain laws: the reference's complex numbers and matrices come to the same answers. -/
import Derived.Test.YtlfmmenlkpoodaaPCxR1
set_option linter.unusedVariables false
set_option linter.unusedSimpArgs false
set_option maxRecDepth 100000
namespace Go.Proofs.Ytlfmmenlkpoodaa.M
open Go.GW Go.Proofs
theorem ref_adj_eq (a : A4 Cx) : ref33_adjoint.f a = some ⟨ap a.e0, ap a.e2, ap a.e1, ap a.e3⟩ := by
  simp [ref33_adjoint.f, ref26_Apart.f, ap]
theorem ref_both_eq {x y z w : Cx} (hx : ¬ badCx x) (hy : ¬ badCx y) (hz : ¬ badCx z) (hw : ¬ badCx w) : ref33_both.f x y z w = some ((cellS x y z w).1, decide ((cellS x y z w).2 = 0)) := by
  unfold ref33_both.f ref33_both.k1
  simp only [ref_mul_eq, Option.bind_some, ref_add_eq]
  rcases mul_cases hx hy with ⟨h1, h2⟩ | h1 <;> rcases mul_cases hz hw with ⟨h3, h4⟩ | h3 <;> simp [cellS, h1, h3]

theorem rm_s0 (a b out : A4 Cx) (g : ¬ badCx a.e0) (g' : ¬ badCx a.e1) (k : ¬ badCx b.e0) (k' : ¬ badCx b.e2) : ref33_Mul.s25 a b 0 out 0 = some (if (cellS a.e0 b.e0 a.e1 b.e2).2 = 0 then .next (A4.ofL (([out.e0, out.e1, out.e2, out.e3] : List Cx).set 0 (cellS a.e0 b.e0 a.e1 b.e2).1), 1) else .ret (.ret (zJ, 16))) := by
  unfold ref33_Mul.s25
  have e1 : w64 (2 * 0) = 0 := by decide
  have e2 : w64 (0 + 1) = 1 := by decide
  have e3 : w64 (2 + 0) = 2 := by decide
  have e4 : w64 (0 + 0) = 0 := by decide
  have e5 : w64 (0 + 1) = 1 := by decide
  simp only [e1, e2, e3, ref33_Mul.k27, e4, e5, lt']
  have hb := ref_both_eq g k g' k'
  simp only [ix]
  simp
  rw [show ref33_both.f ⟨a.e0.Re, a.e0.Im, a.e0.Den⟩ ⟨b.e0.Re, b.e0.Im, b.e0.Den⟩ ⟨a.e1.Re, a.e1.Im, a.e1.Den⟩ ⟨b.e2.Re, b.e2.Im, b.e2.Den⟩ = _ from hb]
  by_cases h : (cellS a.e0 b.e0 a.e1 b.e2).2 = 0 <;> simp [h]
theorem rm_s1 (a b out : A4 Cx) (g : ¬ badCx a.e0) (g' : ¬ badCx a.e1) (k : ¬ badCx b.e1) (k' : ¬ badCx b.e3) : ref33_Mul.s25 a b 0 out 1 = some (if (cellS a.e0 b.e1 a.e1 b.e3).2 = 0 then .next (A4.ofL (([out.e0, out.e1, out.e2, out.e3] : List Cx).set 1 (cellS a.e0 b.e1 a.e1 b.e3).1), 2) else .ret (.ret (zJ, 16))) := by
  unfold ref33_Mul.s25
  have e1 : w64 (2 * 0) = 0 := by decide
  have e2 : w64 (0 + 1) = 1 := by decide
  have e3 : w64 (2 + 1) = 3 := by decide
  have e4 : w64 (0 + 1) = 1 := by decide
  have e5 : w64 (1 + 1) = 2 := by decide
  simp only [e1, e2, e3, ref33_Mul.k27, e4, e5, lt']
  have hb := ref_both_eq g k g' k'
  simp only [ix]
  simp
  rw [show ref33_both.f ⟨a.e0.Re, a.e0.Im, a.e0.Den⟩ ⟨b.e1.Re, b.e1.Im, b.e1.Den⟩ ⟨a.e1.Re, a.e1.Im, a.e1.Den⟩ ⟨b.e3.Re, b.e3.Im, b.e3.Den⟩ = _ from hb]
  by_cases h : (cellS a.e0 b.e1 a.e1 b.e3).2 = 0 <;> simp [h]
theorem rm_s2 (a b out : A4 Cx) (g : ¬ badCx a.e2) (g' : ¬ badCx a.e3) (k : ¬ badCx b.e0) (k' : ¬ badCx b.e2) : ref33_Mul.s25 a b 1 out 0 = some (if (cellS a.e2 b.e0 a.e3 b.e2).2 = 0 then .next (A4.ofL (([out.e0, out.e1, out.e2, out.e3] : List Cx).set 2 (cellS a.e2 b.e0 a.e3 b.e2).1), 1) else .ret (.ret (zJ, 16))) := by
  unfold ref33_Mul.s25
  have e1 : w64 (2 * 1) = 2 := by decide
  have e2 : w64 (2 + 1) = 3 := by decide
  have e3 : w64 (2 + 0) = 2 := by decide
  have e4 : w64 (2 + 0) = 2 := by decide
  have e5 : w64 (0 + 1) = 1 := by decide
  simp only [e1, e2, e3, ref33_Mul.k27, e4, e5, lt']
  have hb := ref_both_eq g k g' k'
  simp only [ix]
  simp
  rw [show ref33_both.f ⟨a.e2.Re, a.e2.Im, a.e2.Den⟩ ⟨b.e0.Re, b.e0.Im, b.e0.Den⟩ ⟨a.e3.Re, a.e3.Im, a.e3.Den⟩ ⟨b.e2.Re, b.e2.Im, b.e2.Den⟩ = _ from hb]
  by_cases h : (cellS a.e2 b.e0 a.e3 b.e2).2 = 0 <;> simp [h]
theorem rm_s3 (a b out : A4 Cx) (g : ¬ badCx a.e2) (g' : ¬ badCx a.e3) (k : ¬ badCx b.e1) (k' : ¬ badCx b.e3) : ref33_Mul.s25 a b 1 out 1 = some (if (cellS a.e2 b.e1 a.e3 b.e3).2 = 0 then .next (A4.ofL (([out.e0, out.e1, out.e2, out.e3] : List Cx).set 3 (cellS a.e2 b.e1 a.e3 b.e3).1), 2) else .ret (.ret (zJ, 16))) := by
  unfold ref33_Mul.s25
  have e1 : w64 (2 * 1) = 2 := by decide
  have e2 : w64 (2 + 1) = 3 := by decide
  have e3 : w64 (2 + 1) = 3 := by decide
  have e4 : w64 (2 + 1) = 3 := by decide
  have e5 : w64 (1 + 1) = 2 := by decide
  simp only [e1, e2, e3, ref33_Mul.k27, e4, e5, lt']
  have hb := ref_both_eq g k g' k'
  simp only [ix]
  simp
  rw [show ref33_both.f ⟨a.e2.Re, a.e2.Im, a.e2.Den⟩ ⟨b.e1.Re, b.e1.Im, b.e1.Den⟩ ⟨a.e3.Re, a.e3.Im, a.e3.Den⟩ ⟨b.e3.Re, b.e3.Im, b.e3.Den⟩ = _ from hb]
  by_cases h : (cellS a.e2 b.e1 a.e3 b.e3).2 = 0 <;> simp [h]
theorem rm_row0 (a b : A4 Cx) (hv : valJ a = true) (hw : valJ b = true) : ref33_Mul.s20 a b zJ 0 = some (if (cellS a.e0 b.e0 a.e1 b.e2).2 = 0 then if (cellS a.e0 b.e1 a.e1 b.e3).2 = 0 then .next (⟨(cellS a.e0 b.e0 a.e1 b.e2).1, (cellS a.e0 b.e1 a.e1 b.e3).1, ⟨0, 0, 0⟩, ⟨0, 0, 0⟩⟩, 1) else .ret (zJ, 16) else .ret (zJ, 16)) := by
  obtain ⟨g0, g1, g2, g3⟩ := val_good hv
  obtain ⟨k0, k1, k2, k3⟩ := val_good hw
  unfold ref33_Mul.s20
  by_cases c0 : (cellS a.e0 b.e0 a.e1 b.e2).2 = 0
  · rw [iter_next (s' := (⟨(cellS a.e0 b.e0 a.e1 b.e2).1, ⟨0, 0, 0⟩, ⟨0, 0, 0⟩, ⟨0, 0, 0⟩⟩, 1)) (by simp only [rm_s0 a b _ g0 g1 k0 k2, c0, if_true]; simp [A4.ofL, ix])]
    by_cases c1 : (cellS a.e0 b.e1 a.e1 b.e3).2 = 0
    · rw [iter_next (s' := (⟨(cellS a.e0 b.e0 a.e1 b.e2).1, (cellS a.e0 b.e1 a.e1 b.e3).1, ⟨0, 0, 0⟩, ⟨0, 0, 0⟩⟩, 2)) (by simp only [rm_s1 a b _ g0 g1 k1 k3, c1, if_true]; simp [A4.ofL, ix]), iter_brk (t := ⟨(cellS a.e0 b.e0 a.e1 b.e2).1, (cellS a.e0 b.e1 a.e1 b.e3).1, ⟨0, 0, 0⟩, ⟨0, 0, 0⟩⟩) (by simp [ref33_Mul.s25])]
      simp [fin, ref33_Mul.k26, c0, c1]; decide
    · rw [iter_ret (v := .ret (zJ, 16)) (by simp only [rm_s1 a b _ g0 g1 k1 k3, c1, if_false])]
      simp [fin, c0, c1]
  · rw [iter_ret (v := .ret (zJ, 16)) (by simp only [rm_s0 a b _ g0 g1 k0 k2, c0, if_false])]
    simp [fin, c0]
theorem rm_row1 (a b : A4 Cx) (hv : valJ a = true) (hw : valJ b = true) : ref33_Mul.s20 a b ⟨(cellS a.e0 b.e0 a.e1 b.e2).1, (cellS a.e0 b.e1 a.e1 b.e3).1, ⟨0, 0, 0⟩, ⟨0, 0, 0⟩⟩ 1 = some (if (cellS a.e2 b.e0 a.e3 b.e2).2 = 0 then if (cellS a.e2 b.e1 a.e3 b.e3).2 = 0 then .next (⟨(cellS a.e0 b.e0 a.e1 b.e2).1, (cellS a.e0 b.e1 a.e1 b.e3).1, (cellS a.e2 b.e0 a.e3 b.e2).1, (cellS a.e2 b.e1 a.e3 b.e3).1⟩, 2) else .ret (zJ, 16) else .ret (zJ, 16)) := by
  obtain ⟨g0, g1, g2, g3⟩ := val_good hv
  obtain ⟨k0, k1, k2, k3⟩ := val_good hw
  unfold ref33_Mul.s20
  by_cases c0 : (cellS a.e2 b.e0 a.e3 b.e2).2 = 0
  · rw [iter_next (s' := (⟨(cellS a.e0 b.e0 a.e1 b.e2).1, (cellS a.e0 b.e1 a.e1 b.e3).1, (cellS a.e2 b.e0 a.e3 b.e2).1, ⟨0, 0, 0⟩⟩, 1)) (by simp only [rm_s2 a b _ g2 g3 k0 k2, c0, if_true]; simp [A4.ofL, ix])]
    by_cases c1 : (cellS a.e2 b.e1 a.e3 b.e3).2 = 0
    · rw [iter_next (s' := (⟨(cellS a.e0 b.e0 a.e1 b.e2).1, (cellS a.e0 b.e1 a.e1 b.e3).1, (cellS a.e2 b.e0 a.e3 b.e2).1, (cellS a.e2 b.e1 a.e3 b.e3).1⟩, 2)) (by simp only [rm_s3 a b _ g2 g3 k1 k3, c1, if_true]; simp [A4.ofL, ix]), iter_brk (t := ⟨(cellS a.e0 b.e0 a.e1 b.e2).1, (cellS a.e0 b.e1 a.e1 b.e3).1, (cellS a.e2 b.e0 a.e3 b.e2).1, (cellS a.e2 b.e1 a.e3 b.e3).1⟩) (by simp [ref33_Mul.s25])]
      simp [fin, ref33_Mul.k26, c0, c1]; decide
    · rw [iter_ret (v := .ret (zJ, 16)) (by simp only [rm_s3 a b _ g2 g3 k1 k3, c1, if_false])]
      simp [fin, c0, c1]
  · rw [iter_ret (v := .ret (zJ, 16)) (by simp only [rm_s2 a b _ g2 g3 k0 k2, c0, if_false])]
    simp [fin, c0]
theorem ref_mulJ_eq (a b : A4 Cx) : ref33_Mul.f a b = some (mulJ a b) := by
  unfold ref33_Mul.f mulJ
  rw [ref_valid_eq, Option.bind_some, ref_valid_eq]
  cases hv : valJ a with
  | false => simp [ref33_Mul.k1]
  | true =>
    cases hw : valJ b with
    | false => simp [ref33_Mul.k1]
    | true =>
      simp only [Bool.not_true, Bool.false_eq_true, if_false, Option.bind_some, ref33_Mul.k1, and_self, if_true]
      have r0 := rm_row0 a b hv hw
      have r1 := rm_row1 a b hv hw
      by_cases c0 : (cellS a.e0 b.e0 a.e1 b.e2).2 = 0
      · by_cases c1 : (cellS a.e0 b.e1 a.e1 b.e3).2 = 0
        · simp only [c0, c1, if_true] at r0
          rw [iter_next (s' := (⟨(cellS a.e0 b.e0 a.e1 b.e2).1, (cellS a.e0 b.e1 a.e1 b.e3).1, ⟨0, 0, 0⟩, ⟨0, 0, 0⟩⟩, 1)) r0]
          by_cases c2 : (cellS a.e2 b.e0 a.e3 b.e2).2 = 0
          · by_cases c3 : (cellS a.e2 b.e1 a.e3 b.e3).2 = 0
            · simp only [c2, c3, if_true] at r1
              rw [iter_next (s' := (⟨(cellS a.e0 b.e0 a.e1 b.e2).1, (cellS a.e0 b.e1 a.e1 b.e3).1, (cellS a.e2 b.e0 a.e3 b.e2).1, (cellS a.e2 b.e1 a.e3 b.e3).1⟩, 2)) r1, iter_brk (t := ⟨(cellS a.e0 b.e0 a.e1 b.e2).1, (cellS a.e0 b.e1 a.e1 b.e3).1, (cellS a.e2 b.e0 a.e3 b.e2).1, (cellS a.e2 b.e1 a.e3 b.e3).1⟩) (by simp [ref33_Mul.s20])]
              simp [fin, ref33_Mul.k21, c0, c1, c2, c3]
            · simp only [c2, c3, if_true, if_false] at r1
              rw [iter_ret r1]; simp [fin, c0, c1, c2, c3]
          · simp only [c2, if_false] at r1
            rw [iter_ret r1]; simp [fin, c0, c1, c2]
        · simp only [c0, c1, if_true, if_false] at r0
          rw [iter_ret r0]; simp [fin, c0, c1]
      · simp only [c0, if_false] at r0
        rw [iter_ret r0]; simp [fin, c0]

theorem ref_tail {p q d n e : Int} (hd : 1 ≤ d) (he : 1 ≤ e) (hn : 1 ≤ n) (hp : W p) (hq : W q) (hg : Nat.gcd (Nat.gcd (p * d).natAbs (q * d).natAbs) (n * e).natAbs = 1) : ref25_Div.k2 d n p q e = some (finS p q d n e) := by
  unfold ref25_Div.k2 ref25_Div.k3 finS
  have d0 : ¬ d = 0 := by omega
  have e0 : ¬ e = 0 := by omega
  simp only [d0, e0, not_false_eq_true, if_true, decide_eq_true_eq, abs_fits hd hp, abs_fits hd hq, pos_fits he hn]
  by_cases h1 : B (p * d)
  · by_cases h2 : B (q * d)
    · by_cases h3 : B (n * e)
      · have hz : 1 ≤ n * e := by
          have := Int.mul_pos (show 0 < n by omega) (show 0 < e by omega)
          omega
        rw [w64_id (x := p * d) (by omega) (by omega), w64_id (x := q * d) (by omega) (by omega), w64_id (x := n * e) (by omega) (by omega), ref_made_eq _ _ _ (by omega) (by omega) (by omega) (by omega), red_one hz hg h1 h2 h3]
        simp [h1, h2, h3]
      · simp [h1, h2, h3]
    · simp [h1, h2]
  · simp [h1]

/-- The reference's way from P, Q, N on. -/
theorem ref_way {P Q N D E : Int} (k : QOk P Q N D E) :
    ((ref25_Gcd.f P Q).bind fun t15 => ((ref25_Gcd.f t15 N).bind fun t17 => (if ¬ t17 = 0 then (if ¬ t17 = 0 then (if ¬ t17 = 0 then lt' (w64 (Int.tdiv P t17)) fun p22 => lt' (w64 (Int.tdiv Q t17)) fun q23 => lt' (w64 (Int.tdiv N t17)) fun n24 => ((ref25_Gcd.f D E).bind fun t25 => (if ¬ t25 = 0 then (if ¬ t25 = 0 then lt' (w64 (Int.tdiv D t25)) fun d29 => lt' (w64 (Int.tdiv E t25)) fun e30 => ((ref25_Gcd.f d29 n24).bind fun t31 => (if ¬ t31 = 0 then (if ¬ t31 = 0 then lt' (w64 (Int.tdiv d29 t31)) fun d35 => lt' (w64 (Int.tdiv n24 t31)) fun n36 => ((ref25_Gcd.f p22 q23).bind fun t37 => ((ref25_Gcd.f t37 e30).bind fun t39 => (if (decide (0 < t39)) = true then (if ¬ t39 = 0 then (if ¬ t39 = 0 then (if ¬ t39 = 0 then lt' (w64 (Int.tdiv p22 t39)) fun p69 => lt' (w64 (Int.tdiv q23 t39)) fun q70 => lt' (w64 (Int.tdiv e30 t39)) fun e71 => ref25_Div.k2 d35 n36 p69 q70 e71 else none) else none) else none) else ref25_Div.k2 d35 n36 p22 q23 e30))) else none) else none)) else none) else none)) else none) else none) else none))) = some (quoS P Q N D E) := by
  unfold quoS
  simp only []
  obtain ⟨kp, kq, kn, kd, ke⟩ := id k
  generalize hg : Nat.gcd (Nat.gcd P.natAbs Q.natAbs) N.natAbs = g
  generalize hh : Nat.gcd D.natAbs E.natAbs = h
  generalize hi : Nat.gcd (Int.tdiv D h).natAbs (Int.tdiv N g).natAbs = i
  generalize hj : Nat.gcd (Nat.gcd (Int.tdiv P g).natAbs (Int.tdiv Q g).natAbs) (Int.tdiv E h).natAbs = j
  have F := qf k hg.symm hh.symm hi.symm hj.symm
  have g0 : ¬ (g : Int) = 0 := by have := F.g0; omega
  have h0 : ¬ (h : Int) = 0 := by have := F.h0; omega
  have i0 : ¬ (i : Int) = 0 := by have := F.i0; omega
  have j0 : ¬ (j : Int) = 0 := by have := F.j0; omega
  have jp : (0 : Int) < (j : Int) := by have := F.j0; omega
  have n1 := F.n1
  have d1 := F.d1
  have e1 := F.e1
  have n2 := F.n2
  have d2 := F.d2
  have e2 := F.e2
  have gW : W ((Nat.gcd P.natAbs Q.natAbs : Nat) : Int) := by
    rcases Nat.eq_zero_or_pos P.natAbs with hp | hp
    · rw [hp, Nat.gcd_zero_left]; omega
    · have := Nat.gcd_le_left Q.natAbs hp; omega
  have fW : W ((Nat.gcd (Int.tdiv P g).natAbs (Int.tdiv Q g).natAbs : Nat) : Int) := by
    have hp1 := F.p1
    have hq1 := F.q1
    rcases Nat.eq_zero_or_pos (Int.tdiv P g).natAbs with hp | hp
    · rw [hp, Nat.gcd_zero_left]; omega
    · have := Nat.gcd_le_left (Int.tdiv Q g).natAbs hp; omega
  rw [ref_gcd P Q kp kq, Option.bind_some, ref_gcd _ N gW (by omega), Int.natAbs_natCast, hg, Option.bind_some]
  simp only [g0, not_false_eq_true, if_true, lt', w64W F.p1, w64W F.q1, w64W (show W (Int.tdiv N g) by omega)]
  rw [ref_gcd D E (by omega) (by omega), hh, Option.bind_some]
  simp only [h0, not_false_eq_true, if_true, w64W (show W (Int.tdiv D h) by omega), w64W (show W (Int.tdiv E h) by omega)]
  rw [ref_gcd _ _ (show W (Int.tdiv D h) by omega) (show W (Int.tdiv N g) by omega), hi, Option.bind_some]
  simp only [i0, not_false_eq_true, if_true, w64W (show W (Int.tdiv (Int.tdiv D h) i) by omega), w64W (show W (Int.tdiv (Int.tdiv N g) i) by omega)]
  rw [ref_gcd _ _ F.p1 F.q1, Option.bind_some, ref_gcd _ _ fW (show W (Int.tdiv E h) by omega), Int.natAbs_natCast, hj, Option.bind_some]
  simp only [jp, decide_true, if_true, j0, not_false_eq_true, w64W F.p2, w64W F.q2, w64W (show W (Int.tdiv (Int.tdiv E h) j) by omega)]
  exact ref_tail d2.1 e2.1 n2.1 F.p2 F.q2 F.cop
theorem ref_div_eq (a b : Cx) : ref25_Div.f a b = some (divS a b) := by
  unfold ref25_Div.f divS
  rw [ref_both2, Option.bind_some]
  rcases chk2_cases a b with h | h
  · obtain ⟨ga, gb⟩ := good_of h
    simp only [h, decide_true, Bool.not_true, Bool.false_eq_true, if_false, if_true, decide_eq_true_eq]
    by_cases hb : b.Re = 0 ∧ b.Im = 0
    · simp [hb, nz, ref25_Div.k1]
    · have hb' : nz b := hb
      have hk : (if b.Re = 0 then ref25_Div.k1 a b (decide (b.Im = 0)) else ref25_Div.k1 a b false) = ref25_Div.k1 a b false := by
        by_cases h1 : b.Re = 0
        · have h2 : ¬ b.Im = 0 := fun h2 => hb ⟨h1, h2⟩
          simp [h1, h2]
        · simp [h1]
      rw [hk]
      simp only [hb', if_true, ref25_Div.k1, Bool.false_eq_true, if_false]
      have k := div_ok ga gb hb'
      obtain ⟨a1, a2, a3, a4⟩ := good_bounds ga
      obtain ⟨b1, b2, b3, b4⟩ := good_bounds gb
      have m1 := mul_bound a1 b1
      have m2 := mul_bound a2 b2
      have m3 := mul_bound a2 b1
      have m4 := mul_bound a1 b2
      have m5 := mul_bound b1 b1
      have m6 := mul_bound b2 b2
      rw [w64W (x := a.Re * b.Re) (by omega), w64W (x := a.Im * b.Im) (by omega), w64W (x := a.Im * b.Re) (by omega), w64W (x := a.Re * b.Im) (by omega), w64W (x := b.Re * b.Re) (by omega), w64W (x := b.Im * b.Im) (by omega), w64W k.p, w64W k.q, w64W (show W (b.Re * b.Re + b.Im * b.Im) by have := k.n; omega)]
      exact ref_way k
  · simp [h]
theorem ri_s0 (t4 : Cx × Int) (out : A4 Cx) : ref33_Inv.s4 t4 out 0 = some (if (divS out.e0 t4.1).2 = 0 then .next (⟨(divS out.e0 t4.1).1, out.e1, out.e2, out.e3⟩, 1) else .ret (zJ, 16)) := by
  have e1 : w64 (0 + 1) = 1 := by decide
  obtain ⟨D, hD⟩ : ∃ D : Cx → Cx × Int, ∀ x, divS x t4.1 = D x := ⟨fun x => divS x t4.1, fun _ => rfl⟩
  simp only [ref33_Inv.s4, ref33_Inv.k6, ref_div_eq, hD, lt', e1]
  by_cases h : (D out.e0).2 = 0 <;> simp [ix, A4.ofL, h]
theorem ri_s1 (t4 : Cx × Int) (out : A4 Cx) : ref33_Inv.s4 t4 out 1 = some (if (divS out.e1 t4.1).2 = 0 then .next (⟨out.e0, (divS out.e1 t4.1).1, out.e2, out.e3⟩, 2) else .ret (zJ, 16)) := by
  have e1 : w64 (1 + 1) = 2 := by decide
  obtain ⟨D, hD⟩ : ∃ D : Cx → Cx × Int, ∀ x, divS x t4.1 = D x := ⟨fun x => divS x t4.1, fun _ => rfl⟩
  simp only [ref33_Inv.s4, ref33_Inv.k6, ref_div_eq, hD, lt', e1]
  by_cases h : (D out.e1).2 = 0 <;> simp [ix, A4.ofL, h]
theorem ri_s2 (t4 : Cx × Int) (out : A4 Cx) : ref33_Inv.s4 t4 out 2 = some (if (divS out.e2 t4.1).2 = 0 then .next (⟨out.e0, out.e1, (divS out.e2 t4.1).1, out.e3⟩, 3) else .ret (zJ, 16)) := by
  have e1 : w64 (2 + 1) = 3 := by decide
  obtain ⟨D, hD⟩ : ∃ D : Cx → Cx × Int, ∀ x, divS x t4.1 = D x := ⟨fun x => divS x t4.1, fun _ => rfl⟩
  simp only [ref33_Inv.s4, ref33_Inv.k6, ref_div_eq, hD, lt', e1]
  by_cases h : (D out.e2).2 = 0 <;> simp [ix, A4.ofL, h]
theorem ri_s3 (t4 : Cx × Int) (out : A4 Cx) : ref33_Inv.s4 t4 out 3 = some (if (divS out.e3 t4.1).2 = 0 then .next (⟨out.e0, out.e1, out.e2, (divS out.e3 t4.1).1⟩, 4) else .ret (zJ, 16)) := by
  have e1 : w64 (3 + 1) = 4 := by decide
  obtain ⟨D, hD⟩ : ∃ D : Cx → Cx × Int, ∀ x, divS x t4.1 = D x := ⟨fun x => divS x t4.1, fun _ => rfl⟩
  simp only [ref33_Inv.s4, ref33_Inv.k6, ref_div_eq, hD, lt', e1]
  by_cases h : (D out.e3).2 = 0 <;> simp [ix, A4.ofL, h]
theorem ri_s4 (t4 : Cx × Int) (out : A4 Cx) : ref33_Inv.s4 t4 out 4 = some (.brk out) := by simp [ref33_Inv.s4]
theorem ref_inv_eq (a : A4 Cx) : ref33_Inv.f a = some (invS a) := by
  unfold ref33_Inv.f invS
  rw [ref_det_eq, Option.bind_some]
  by_cases hd : (detS a).2 = 0
  · obtain ⟨hv, gd⟩ := det_good hd
    obtain ⟨g0, g1, g2, g3⟩ := val_good hv
    simp only [hd, decide_true, Bool.not_true, Bool.false_eq_true, if_false, if_true, rzero_eq, Option.bind_some, decide_eq_true_eq]
    by_cases hz : (detS a).1.Re = 0 ∧ (detS a).1.Im = 0
    · simp [hz, nz]
    · have hz' : nz (detS a).1 := hz
      simp only [hz, if_false, hz', if_true, ref_neg_eq g1, ref_neg_eq g2, Option.bind_some]
      show ((iter (fun (s : A4 Cx × Int) => ref33_Inv.s4 (detS a) s.1 s.2) ((⟨a.e3, (negC a.e1), (negC a.e2), a.e0⟩ : A4 Cx), 0)).bind fun o1 => fin o1 fun t => ref33_Inv.k5 t) = _
      by_cases c0 : (divS a.e3 (detS a).1).2 = 0
      · skip
        by_cases c1 : (divS (negC a.e1) (detS a).1).2 = 0
        · skip
          by_cases c2 : (divS (negC a.e2) (detS a).1).2 = 0
          · skip
            by_cases c3 : (divS a.e0 (detS a).1).2 = 0
            · skip
              rw [show iter (fun (s : A4 Cx × Int) => ref33_Inv.s4 (detS a) s.1 s.2) ((⟨a.e3, (negC a.e1), (negC a.e2), a.e0⟩ : A4 Cx), 0) = some (.brk (⟨(divS a.e3 (detS a).1).1, (divS (negC a.e1) (detS a).1).1, (divS (negC a.e2) (detS a).1).1, (divS a.e0 (detS a).1).1⟩ : A4 Cx)) from (iter_next ((ri_s0 (detS a) ⟨a.e3, (negC a.e1), (negC a.e2), a.e0⟩).trans (congrArg some (if_pos c0)))).trans ((iter_next ((ri_s1 (detS a) ⟨(divS a.e3 (detS a).1).1, (negC a.e1), (negC a.e2), a.e0⟩).trans (congrArg some (if_pos c1)))).trans ((iter_next ((ri_s2 (detS a) ⟨(divS a.e3 (detS a).1).1, (divS (negC a.e1) (detS a).1).1, (negC a.e2), a.e0⟩).trans (congrArg some (if_pos c2)))).trans ((iter_next ((ri_s3 (detS a) ⟨(divS a.e3 (detS a).1).1, (divS (negC a.e1) (detS a).1).1, (divS (negC a.e2) (detS a).1).1, a.e0⟩).trans (congrArg some (if_pos c3)))).trans (iter_brk (ri_s4 (detS a) ⟨(divS a.e3 (detS a).1).1, (divS (negC a.e1) (detS a).1).1, (divS (negC a.e2) (detS a).1).1, (divS a.e0 (detS a).1).1⟩)))))]
              simp only [Option.bind_some, fin, ref33_Inv.k5, c0, c1, c2, c3, if_true]
            · rw [show iter (fun (s : A4 Cx × Int) => ref33_Inv.s4 (detS a) s.1 s.2) ((⟨a.e3, (negC a.e1), (negC a.e2), a.e0⟩ : A4 Cx), 0) = some (.ret (zJ, 16)) from (iter_next ((ri_s0 (detS a) ⟨a.e3, (negC a.e1), (negC a.e2), a.e0⟩).trans (congrArg some (if_pos c0)))).trans ((iter_next ((ri_s1 (detS a) ⟨(divS a.e3 (detS a).1).1, (negC a.e1), (negC a.e2), a.e0⟩).trans (congrArg some (if_pos c1)))).trans ((iter_next ((ri_s2 (detS a) ⟨(divS a.e3 (detS a).1).1, (divS (negC a.e1) (detS a).1).1, (negC a.e2), a.e0⟩).trans (congrArg some (if_pos c2)))).trans (iter_ret ((ri_s3 (detS a) ⟨(divS a.e3 (detS a).1).1, (divS (negC a.e1) (detS a).1).1, (divS (negC a.e2) (detS a).1).1, a.e0⟩).trans (congrArg some (if_neg c3))))))]
              simp [fin, c0, c1, c2, c3]
          · rw [show iter (fun (s : A4 Cx × Int) => ref33_Inv.s4 (detS a) s.1 s.2) ((⟨a.e3, (negC a.e1), (negC a.e2), a.e0⟩ : A4 Cx), 0) = some (.ret (zJ, 16)) from (iter_next ((ri_s0 (detS a) ⟨a.e3, (negC a.e1), (negC a.e2), a.e0⟩).trans (congrArg some (if_pos c0)))).trans ((iter_next ((ri_s1 (detS a) ⟨(divS a.e3 (detS a).1).1, (negC a.e1), (negC a.e2), a.e0⟩).trans (congrArg some (if_pos c1)))).trans (iter_ret ((ri_s2 (detS a) ⟨(divS a.e3 (detS a).1).1, (divS (negC a.e1) (detS a).1).1, (negC a.e2), a.e0⟩).trans (congrArg some (if_neg c2)))))]
            simp [fin, c0, c1, c2]
        · rw [show iter (fun (s : A4 Cx × Int) => ref33_Inv.s4 (detS a) s.1 s.2) ((⟨a.e3, (negC a.e1), (negC a.e2), a.e0⟩ : A4 Cx), 0) = some (.ret (zJ, 16)) from (iter_next ((ri_s0 (detS a) ⟨a.e3, (negC a.e1), (negC a.e2), a.e0⟩).trans (congrArg some (if_pos c0)))).trans (iter_ret ((ri_s1 (detS a) ⟨(divS a.e3 (detS a).1).1, (negC a.e1), (negC a.e2), a.e0⟩).trans (congrArg some (if_neg c1))))]
          simp [fin, c0, c1]
      · rw [show iter (fun (s : A4 Cx × Int) => ref33_Inv.s4 (detS a) s.1 s.2) ((⟨a.e3, (negC a.e1), (negC a.e2), a.e0⟩ : A4 Cx), 0) = some (.ret (zJ, 16)) from iter_ret ((ri_s0 (detS a) ⟨a.e3, (negC a.e1), (negC a.e2), a.e0⟩).trans (congrArg some (if_neg c0)))]
        simp [fin, c0]
  · simp [hd]
end Go.Proofs.Ytlfmmenlkpoodaa.M
