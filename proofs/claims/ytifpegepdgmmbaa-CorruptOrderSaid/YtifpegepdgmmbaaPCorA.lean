/- Tables of events: what a table's numbers are worth. -/
import Derived.Test.YtifpegepdgmmbaaPCyQ
import Derived.Test.YtifpegepdgmmbaaC0
set_option linter.unusedVariables false
set_option linter.unusedSimpArgs false
set_option maxRecDepth 100000
namespace Go.Proofs.Ytifpegepdgmmbaa.M
open Go.GW Go.Proofs
abbrev Q2 := Rat × Rat
def q2mul (a b : Q2) : Q2 := (a.1 * b.1 - a.2 * b.2, a.1 * b.2 + a.2 * b.1)
def q2one : Q2 := (1, 0)
theorem q2_assoc (a b c : Q2) : q2mul (q2mul a b) c = q2mul a (q2mul b c) := by
  unfold q2mul
  ext <;> (simp only; grind)
theorem q2_comm (a b : Q2) : q2mul a b = q2mul b a := by
  unfold q2mul
  ext <;> (simp only; grind)
theorem q2_one (a : Q2) : q2mul a q2one = a := by
  unfold q2mul q2one
  ext <;> (simp only; grind)
theorem one_q2 (a : Q2) : q2mul q2one a = a := by rw [q2_comm, q2_one]
/-- A good number that is worth w. -/
def IsQ (a : Cx) (w : Q2) : Prop := Is a w.1 w.2
theorem IsQ.uniq {a b : Cx} {w : Q2} (h1 : IsQ a w) (h2 : IsQ b w) : a = b := Is.uniq h1 h2
theorem IsQ.mul {a b : Cx} {v w : Q2} (h1 : IsQ a v) (h2 : IsQ b w) (h : (mulS a b).2 = 0) : IsQ (mulS a b).1 (q2mul v w) := mul_is h1 h2 h
theorem isQ_one : IsQ ⟨1, 0, 1⟩ q2one := by
  refine ⟨one_good, ?_, ?_⟩
  · unfold vr q2one; simp; grind
  · unfold vi q2one; simp; grind

/-! ### Quarter turns -/
def iq (n : Nat) : Q2 := if n % 4 = 0 then (1, 0) else if n % 4 = 1 then (0, 1) else if n % 4 = 2 then (-1, 0) else (0, -1)
theorem gand_c : (List.range 128).all (fun k => decide (gand .i64 (k : Int) 3 = ((k % 4 : Nat) : Int))) = true := by kernel_rfl
theorem gand3 {k : Nat} (h : k < 128) : gand .i64 (k : Int) 3 = ((k % 4 : Nat) : Int) := of_decide_eq_true (List.all_eq_true.1 gand_c k (List.mem_range.2 h))
theorem good_turn {a : Cx} (h : ¬ badCx a) : ¬ badCx ⟨-a.Im, a.Re, a.Den⟩ := by
  unfold badCx at h ⊢
  simp only [not_or, Int.natAbs_neg] at h ⊢
  obtain ⟨h1, h2, h3, h4, h5, h6, h7⟩ := h
  rw [Nat.gcd_comm a.Im.natAbs a.Re.natAbs]
  exact ⟨h1, h2, by omega, by omega, h3, h4, h7⟩
theorem is_turn {a : Cx} {w : Q2} (h : IsQ a w) : IsQ ⟨-a.Im, a.Re, a.Den⟩ (q2mul w (0, 1)) := by
  obtain ⟨g, e1, e2⟩ := h
  refine ⟨good_turn g, ?_, ?_⟩
  · unfold vi at e2
    unfold vr q2mul
    simp only
    rw [← e2]
    push_cast
    grind
  · unfold vr at e1
    unfold vi q2mul
    simp only
    rw [← e1]
    grind
theorem turn_ok {a : Cx} {w : Q2} (h : IsQ a w) {k : Nat} (hk : k < 128) : ∃ b, cx_Turn.f a (k : Int) = some (b, 0) ∧ IsQ b (q2mul w (iq k)) := by
  have g := h.good
  obtain ⟨b1, b2, _, _⟩ := good_bounds g
  have hc : chkCx a = 0 := (chk_zero a).2 g
  have n1 : w64 (0 - a.Im) = -a.Im := by rw [w64_id (by omega) (by omega)]; omega
  have n2 : w64 (0 - a.Re) = -a.Re := by rw [w64_id (by omega) (by omega)]; omega
  have t1 := is_turn h
  have t2 := is_turn t1
  have t3 := is_turn t2
  simp only [Int.neg_neg] at t2 t3
  unfold cx_Turn.f
  rw [cx_check_eq, Option.bind_some, hc, gand3 hk, n1, n2]
  rw [if_neg (by decide)]
  by_cases h1 : k % 4 = 1
  · rw [decide_eq_true (show ((k % 4 : Nat) : Int) = 1 by omega), if_pos rfl]
    refine ⟨_, rfl, ?_⟩
    have : iq k = (0, 1) := by unfold iq; rw [if_neg (by omega), if_pos h1]
    rw [this]
    exact t1
  rw [decide_eq_false (show ¬ ((k % 4 : Nat) : Int) = 1 by omega), if_neg Bool.false_ne_true]
  by_cases h2 : k % 4 = 2
  · rw [decide_eq_true (show ((k % 4 : Nat) : Int) = 2 by omega), if_pos rfl]
    refine ⟨_, rfl, ?_⟩
    have : iq k = q2mul (0, 1) (0, 1) := by
      unfold iq
      rw [if_neg (by omega), if_neg h1, if_pos h2]
      unfold q2mul
      ext <;> (simp only; grind)
    rw [this, ← q2_assoc]
    exact t2
  rw [decide_eq_false (show ¬ ((k % 4 : Nat) : Int) = 2 by omega), if_neg Bool.false_ne_true]
  by_cases h3 : k % 4 = 3
  · rw [decide_eq_true (show ((k % 4 : Nat) : Int) = 3 by omega), if_pos rfl]
    refine ⟨_, rfl, ?_⟩
    have : iq k = q2mul (q2mul (0, 1) (0, 1)) (0, 1) := by
      unfold iq
      rw [if_neg (by omega), if_neg h1, if_neg h2]
      unfold q2mul
      ext <;> (simp only; grind)
    rw [this, ← q2_assoc, ← q2_assoc]
    exact t3
  · rw [decide_eq_false (show ¬ ((k % 4 : Nat) : Int) = 3 by omega), if_neg Bool.false_ne_true]
    refine ⟨a, rfl, ?_⟩
    have : iq k = q2one := by unfold iq; rw [if_pos (by omega)]; rfl
    rw [this, q2_one]
    exact h

/-! ### Events -/
def evW (x : Spoil) (t : Int) : Q2 := if t < x.From ∨ x.To ≤ t then q2one else if x.Kind = 1 then (vr x.V, vi x.V) else if x.Kind = 2 then iq x.Q.toNat else iq (x.Q.toNat * (t - x.From).toNat)
def wth : List Spoil → Int → Nat → Q2
  | [], _, _ => q2one
  | x :: l, t, i => q2mul (if x.Station.toNat = i then evW x t else q2one) (wth l t i)
theorem wth_append (l m : List Spoil) (t : Int) (i : Nat) : wth (l ++ m) t i = q2mul (wth l t i) (wth m t i) := by
  induction l with
  | nil => rw [List.nil_append, wth, one_q2]
  | cons x l ih => rw [List.cons_append, wth, wth, ih, q2_assoc]
theorem wth_reverse (l : List Spoil) (t : Int) (i : Nat) : wth l.reverse t i = wth l t i := by
  induction l with
  | nil => rfl
  | cons x l ih => rw [List.reverse_cons, wth_append, ih, wth, wth, wth, q2_one, q2_comm]
end Go.Proofs.Ytifpegepdgmmbaa.M
