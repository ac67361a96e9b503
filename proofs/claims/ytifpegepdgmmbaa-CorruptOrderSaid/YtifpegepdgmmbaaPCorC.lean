/- A table at a time, and what acts by it. -/
import Derived.Test.YtifpegepdgmmbaaPCorB
set_option linter.unusedVariables false
set_option linter.unusedSimpArgs false
set_option maxRecDepth 100000
namespace Go.Proofs.Ytifpegepdgmmbaa.M
open Go.GW Go.Proofs
theorem tab_one (t : Int) : TabOk [] t (List.replicate 8 ⟨1, 0, 1⟩) := by
  refine ⟨rfl, fun i hi => ?_⟩
  have : ix (List.replicate 8 (⟨1, 0, 1⟩ : Cx)) (i : Int) = ⟨1, 0, 1⟩ := by rw [ix_at (by rw [List.length_replicate]; exact hi)]; exact List.getElem_replicate _
  rw [this]
  exact isQ_one
theorem tab_loop {l : List Spoil} {time : Int} (h0 : 0 ≤ time) (h1 : time < 32) (hl : l.length ≤ 8) (hv : ∀ x ∈ l, Ev x) : ∀ (k n : Nat) (g : List Cx), n + k = l.length → TabOk (l.take n) time g →
    (∃ g', iter (fun (s : (List Cx) × Int) => corrupt_table.s16 l time s.1 s.2) (g, (n : Int)) = some (.brk g') ∧ TabOk l time g') ∨ ∃ e, iter (fun (s : (List Cx) × Int) => corrupt_table.s16 l time s.1 s.2) (g, (n : Int)) = some (.ret ([], e)) ∧ ¬ e = 0
  | 0, n, g, h, hg => by
    left
    refine ⟨g, iter_brk ?_, ?_⟩
    · show corrupt_table.s16 l time g (n : Int) = _
      unfold corrupt_table.s16
      rw [decide_eq_false (by omega), if_neg Bool.false_ne_true]
    · rw [List.take_of_length_le (by omega)] at hg
      exact hg
  | k + 1, n, g, h, hg => by
    rcases tab_step h0 h1 hl hv (n := n) (by omega) hg with ⟨g', h2, h3⟩ | ⟨e, h2, h3⟩
    · rw [iter_next (s' := (g', ((n + 1 : Nat) : Int))) h2]
      exact tab_loop h0 h1 hl hv k (n + 1) g' (by omega) h3
    · exact .inr ⟨e, iter_ret h2, h3⟩
theorem table_cases {l : List Spoil} {time : Int} (h0 : 0 ≤ time) (h1 : time < 32) (hl : l.length ≤ 8) (hv : ∀ x ∈ l, Ev x) : (∃ g, corrupt_table.f l time = some (g, 0) ∧ TabOk l time g) ∨ ∃ e, corrupt_table.f l time = some ([], e) ∧ ¬ e = 0 := by
  unfold corrupt_table.f
  rw [rep_eq, Option.bind_some]
  rcases tab_loop h0 h1 hl hv l.length 0 _ (by omega) (tab_one time) with ⟨g, h2, h3⟩ | ⟨e, h2, h3⟩
  · left
    refine ⟨g, ?_, h3⟩
    refine (congrArg (fun o => Option.bind o _) h2).trans ?_
    rfl
  · right
    refine ⟨e, ?_, h3⟩
    refine (congrArg (fun o => Option.bind o _) h2).trans ?_
    rfl
theorem Table_cases (l : List Spoil) {time : Int} (h0 : 0 ≤ time) (h1 : time < 32) (hl : l.length ≤ 8) : (∃ g, corrupt_Table.f l time = some (g, 0) ∧ TabOk l time g) ∨ ∃ g e, corrupt_Table.f l time = some (g, e) ∧ ¬ e = 0 := by
  unfold corrupt_Table.f
  rw [decide_eq_false (by omega), if_neg Bool.false_ne_true, decide_eq_false (by omega)]
  unfold corrupt_Table.k1
  rw [if_neg Bool.false_ne_true, decide_eq_false (by omega), if_neg Bool.false_ne_true]
  rcases contains_cases l (by omega) with h | ⟨h, hv⟩
  · right
    exact ⟨[], 8, by rw [h]; rfl, by decide⟩
  · rw [h, Option.bind_some, if_neg Bool.false_ne_true]
    rcases table_cases h0 h1 hl hv with ⟨g, h2, h3⟩ | ⟨e, h2, h3⟩
    · exact .inl ⟨g, by rw [h2]; rfl, h3⟩
    · exact .inr ⟨[], e, by rw [h2]; rfl, h3⟩

/-! ### Acting -/
structure VisOk (v : Vis) : Prop where
  i0 : 0 ≤ v.I
  ij : v.I < v.J
  j8 : v.J < 8
  good : ¬ badCx v.V
def conjQ (w : Q2) : Q2 := (w.1, -w.2)
/-- What a table of these worths makes of a visibility. -/
structure Acted (W : Nat → Q2) (v w : Vis) : Prop where
  i : w.I = v.I
  j : w.J = v.J
  n : w.N = v.N
  v : IsQ w.V (q2mul (q2mul (W v.I.toNat) (vr v.V, vi v.V)) (conjQ (W v.J.toNat)))
theorem Acted.uniq {W : Nat → Q2} {v a b : Vis} (h1 : Acted W v a) (h2 : Acted W v b) : a = b := by
  obtain ⟨i1, j1, n1, v1⟩ := h1
  obtain ⟨i2, j2, n2, v2⟩ := h2
  have := v1.uniq v2
  cases a; cases b; simp_all
theorem conj_is {a : Cx} {w : Q2} (h : IsQ a w) : IsQ ⟨a.Re, -a.Im, a.Den⟩ (conjQ w) := by
  obtain ⟨g, e1, e2⟩ := h
  refine ⟨?_, ?_, ?_⟩
  · unfold badCx at g ⊢
    simp only [not_or, Int.natAbs_neg] at g ⊢
    obtain ⟨h1, h2, h3, h4, h5, h6, h7⟩ := g
    exact ⟨h1, h2, h3, h4, by omega, by omega, h7⟩
  · exact e1
  · unfold vi at e2 ⊢
    unfold conjQ
    simp only
    rw [← e2]
    push_cast
    grind
theorem act_one {W : Nat → Q2} {g : List Cx} (hl : g.length = 8) (hg : ∀ i : Nat, i < 8 → IsQ (ix g (i : Int)) (W i)) {v : Vis} (hv : VisOk v) (k : Int) :
    (∃ w, gain_Act_2.f k v g = some (w, 0) ∧ Acted W v w) ∨ ∃ w e, gain_Act_2.f k v g = some (w, e) ∧ ¬ e = 0 := by
  obtain ⟨i0, ij, j8, good⟩ := hv
  obtain ⟨i, hi⟩ : ∃ i : Nat, v.I = (i : Int) := ⟨v.I.toNat, by omega⟩
  obtain ⟨j, hj⟩ : ∃ j : Nat, v.J = (j : Int) := ⟨v.J.toNat, by omega⟩
  have gi := hg i (by omega)
  have gj := hg j (by omega)
  obtain ⟨bb1, bb2, _, _⟩ := good_bounds gj.good
  have nj : w64 (0 - (ix g (j : Int)).Im) = -(ix g (j : Int)).Im := by rw [w64_id (by omega) (by omega)]; omega
  have cj := conj_is gj
  unfold gain_Act_2.f
  rw [hi, if_pos ⟨by omega, by omega⟩, cx_mul_eq, Option.bind_some]
  unfold gain_Act_2.k1
  rcases mul_cases gi.good good with ⟨m1, _⟩ | m1
  · have h1 : IsQ (mulS (ix g (i : Int)) v.V).1 (q2mul (W i) (vr v.V, vi v.V)) := gi.mul ⟨good, rfl, rfl⟩ m1
    rw [m1, if_neg (by decide), hj, if_pos ⟨by omega, by omega⟩]
    unfold gain_times.f
    rw [cx_mul_eq, nj, Option.bind_some, Option.bind_some]
    rcases mul_cases h1.good cj.good with ⟨m2, _⟩ | m2
    · left
      refine ⟨⟨v.I, (j : Int), (mulS (mulS (ix g (i : Int)) v.V).1 ⟨(ix g (j : Int)).Re, -(ix g (j : Int)).Im, (ix g (j : Int)).Den⟩).1, v.N⟩, ?_, rfl, hj.symm, rfl, ?_⟩
      · dsimp only
        rw [m2]
      · rw [hi, hj, Int.toNat_natCast, Int.toNat_natCast]
        exact h1.mul cj m2
    · right
      exact ⟨_, 16, by rw [m2], by decide⟩
  · right
    exact ⟨_, 16, by rw [m1]; rfl, by decide⟩
end Go.Proofs.Ytifpegepdgmmbaa.M
