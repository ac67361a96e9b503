/- Plain laws: the reference's complex numbers and matrices come to the same answers. -/
import Derived.Test.YtlfmmenlkpoodaaPCxInv
set_option linter.unusedVariables false
set_option linter.unusedSimpArgs false
set_option maxRecDepth 100000
namespace Go.Proofs.Ytlfmmenlkpoodaa.M
open Go.GW Go.Proofs
theorem ref_made_eq (re im den : Int) (h1 : W re) (h2 : W im) (h3 : W den) (hd : den ≠ 0) : ref25_made.f re im den = some (red re im den) := by
  unfold ref25_made.f red
  have hg : W ((Nat.gcd re.natAbs im.natAbs : Nat) : Int) := by
    have : Nat.gcd re.natAbs im.natAbs ≤ 9223372036854775807 := by
      rcases Nat.eq_zero_or_pos re.natAbs with h0 | h0
      · rw [h0]; simp; omega
      · exact Nat.le_trans (Nat.gcd_le_left _ h0) (by omega)
    omega
  simp only [hd, decide_false, Bool.false_eq_true, if_false]
  rw [ref_gcd_eq _ _ h1 h2, Option.bind_some, ref_gcd_eq _ _ hg h3, Option.bind_some, Int.natAbs_natCast]
  have hp := gcd_pos (a := re.natAbs) (b := im.natAbs) hd
  have hl := gcd_le (a := re.natAbs) (b := im.natAbs) hd h3
  generalize Nat.gcd (Nat.gcd re.natAbs im.natAbs) den.natAbs = g at *
  have key : ∀ G : Int, G ≠ 0 → ref25_made.k1 re im den G = some (if chkCx ⟨Int.tdiv re G, Int.tdiv im G, Int.tdiv den G⟩ = 0 then ((⟨Int.tdiv re G, Int.tdiv im G, Int.tdiv den G⟩ : Cx), 0) else (⟨0, 0, 0⟩, 16)) := by
    intro G hG
    unfold ref25_made.k1
    have t1 := tdiv_bound (g := G) h1
    have t2 := tdiv_bound (g := G) h2
    have t3 := tdiv_bound (g := G) h3
    simp only [hG, not_false_eq_true, if_true, w64_id (show -9223372036854775808 ≤ Int.tdiv re G by omega) (by omega), w64_id (show -9223372036854775808 ≤ Int.tdiv im G by omega) (by omega), w64_id (show -9223372036854775808 ≤ Int.tdiv den G by omega) (by omega), ref_check_eq, Option.bind_some]
    by_cases hc : chkCx ⟨Int.tdiv re G, Int.tdiv im G, Int.tdiv den G⟩ = 0 <;> simp [hc]
  simp only [decide_eq_true_eq]
  by_cases hn : den < 0
  · simp only [hn, if_true]
    rw [w64_id (by omega) (by omega), show (0 : Int) - (g : Int) = -(g : Int) by omega, key _ (by omega)]
  · simp only [hn, if_false]
    rw [key _ (by omega)]

theorem ref_both2 (a b : Cx) : ref25_Both.f a b = some (chk2 a b) := by
  unfold ref25_Both.f chk2
  rw [ref_check_eq, Option.bind_some, ref_check_eq]
  rcases chk_cases a with ⟨h1, _⟩ | ⟨h1, _⟩ <;> rcases chk_cases b with ⟨h2, _⟩ | ⟨h2, _⟩ <;> simp [h1, h2, ref25_Both.k1]
theorem ref_mul_eq (a b : Cx) : ref25_Mul.f a b = some (mulS a b) := by
  unfold ref25_Mul.f mulS
  rw [ref_both2]
  by_cases h : chk2 a b = 0
  · obtain ⟨ga, gb⟩ := good_of h
    obtain ⟨a1, a2, a3, a4⟩ := good_bounds ga
    obtain ⟨b1, b2, b3, b4⟩ := good_bounds gb
    have m1 := mul_bound a1 b1
    have m2 := mul_bound a2 b2
    have m3 := mul_bound a1 b2
    have m4 := mul_bound a2 b1
    have m5 := mul_bound a3 b3
    have hd := den_ne a4 b4
    simp only [Option.bind_some, h, decide_true, Bool.not_true, Bool.false_eq_true, if_false, if_true]
    rw [w64_id (x := a.Re * b.Re) (by omega) (by omega), w64_id (x := a.Im * b.Im) (by omega) (by omega), w64_id (x := a.Re * b.Im) (by omega) (by omega), w64_id (x := a.Im * b.Re) (by omega) (by omega), w64_id (x := a.Den * b.Den) (by omega) (by omega), w64_id (by omega) (by omega), w64_id (by omega) (by omega), ref_made_eq _ _ _ (by omega) (by omega) (by omega) hd]
    rfl
  · simp [h]
theorem ref_add_eq (a b : Cx) : ref25_Add.f a b = some (addS a b) := by
  unfold ref25_Add.f addS
  rw [ref_both2]
  by_cases h : chk2 a b = 0
  · obtain ⟨ga, gb⟩ := good_of h
    obtain ⟨a1, a2, a3, a4⟩ := good_bounds ga
    obtain ⟨b1, b2, b3, b4⟩ := good_bounds gb
    have m1 := mul_bound a1 b3
    have m2 := mul_bound b1 a3
    have m3 := mul_bound a2 b3
    have m4 := mul_bound b2 a3
    have m5 := mul_bound a3 b3
    have hd := den_ne a4 b4
    simp only [Option.bind_some, h, decide_true, Bool.not_true, Bool.false_eq_true, if_false, if_true]
    rw [w64_id (x := a.Re * b.Den) (by omega) (by omega), w64_id (x := b.Re * a.Den) (by omega) (by omega), w64_id (x := a.Im * b.Den) (by omega) (by omega), w64_id (x := b.Im * a.Den) (by omega) (by omega), w64_id (x := a.Den * b.Den) (by omega) (by omega), w64_id (by omega) (by omega), w64_id (by omega) (by omega), ref_made_eq _ _ _ (by omega) (by omega) (by omega) hd]
    rfl
  · simp [h]
theorem ref_neg_eq {b : Cx} (h : ¬ badCx b) : ref25_Neg.f b = some ⟨-b.Re, -b.Im, b.Den⟩ := by
  obtain ⟨b1, b2, b3, b4⟩ := good_bounds h
  unfold ref25_Neg.f
  rw [w64_id (by omega) (by omega), w64_id (by omega) (by omega), show 0 - b.Re = -b.Re by omega, show 0 - b.Im = -b.Im by omega]
theorem ref_sub_eq (a b : Cx) : ref25_Sub.f a b = some (subS a b) := by
  unfold ref25_Sub.f subS
  rw [ref_both2]
  by_cases h : chk2 a b = 0
  · obtain ⟨ga, gb⟩ := good_of h
    simp only [Option.bind_some, h, decide_true, Bool.not_true, Bool.false_eq_true, if_false, if_true]
    rw [ref_neg_eq gb, Option.bind_some, ref_add_eq]
    have h2 : chk2 a ⟨-b.Re, -b.Im, b.Den⟩ = 0 := by
      unfold chk2
      rcases chk_cases a with ⟨h1, _⟩ | ⟨_, h3⟩
      · rcases chk_cases ⟨-b.Re, -b.Im, b.Den⟩ with ⟨h4, _⟩ | ⟨_, h5⟩
        · simp [h1, h4]
        · exact absurd ((bad_neg b).1 h5) gb
      · exact absurd h3 ga
    simp only [addS, h2, if_true, Option.bind_some]
    rw [show a.Re * b.Den + -b.Re * a.Den = a.Re * b.Den - b.Re * a.Den by rw [Int.neg_mul]; omega, show a.Im * b.Den + -b.Im * a.Den = a.Im * b.Den - b.Im * a.Den by rw [Int.neg_mul]; omega]
  · simp [h]

theorem ref_det_eq (a : A4 Cx) : ref33_Det.f a = some (detS a) := by
  unfold ref33_Det.f detS
  rw [ref_valid_eq, Option.bind_some]
  cases hv : valJ a with
  | false => simp
  | true =>
    obtain ⟨g0, g1, g2, g3⟩ := val_good hv
    simp only [Bool.not_true, Bool.false_eq_true, if_false, if_true, ref_mul_eq, Option.bind_some, ref33_Det.k1, ref_sub_eq]
    rcases mul_cases g0 g3 with ⟨h1, h2⟩ | h1 <;> rcases mul_cases g1 g2 with ⟨h3, h4⟩ | h3 <;> simp [h1, h3]
    rcases sub_cases h2 h4 with ⟨h5, _⟩ | h5
    · simp [h5]; exact Prod.ext rfl h5.symm
    · simp [h5]
end Go.Proofs.Ytlfmmenlkpoodaa.M
