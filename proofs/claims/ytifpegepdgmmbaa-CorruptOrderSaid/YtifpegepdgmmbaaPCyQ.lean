/- What numbers are worth, and products (the part of PCxQ that stands without matrices). -/
import Derived.Test.YtifpegepdgmmbaaPCy
set_option linter.unusedVariables false
set_option linter.unusedSimpArgs false
set_option maxRecDepth 100000
namespace Go.Proofs.Ytifpegepdgmmbaa.M
open Go.GW Go.Proofs
theorem red_cases (re im den : Int) : ((red re im den).2 = 0 ∧ ¬ badCx (red re im den).1) ∨ red re im den = (⟨0, 0, 0⟩, 16) := by
  unfold red
  simp only []
  generalize (if den < 0 then -((Nat.gcd (Nat.gcd re.natAbs im.natAbs) den.natAbs : Nat) : Int) else ((Nat.gcd (Nat.gcd re.natAbs im.natAbs) den.natAbs : Nat) : Int)) = g
  rcases chk_cases ⟨Int.tdiv re g, Int.tdiv im g, Int.tdiv den g⟩ with ⟨h1, h2⟩ | ⟨h1, h2⟩
  · left; simp [h1, h2]
  · right; simp [h1]
theorem mul_cases {a b : Cx} (ha : ¬ badCx a) (hb : ¬ badCx b) : ((mulS a b).2 = 0 ∧ ¬ badCx (mulS a b).1) ∨ mulS a b = (⟨0, 0, 0⟩, 16) := by
  unfold mulS; rw [if_pos (good2 ha hb)]; exact red_cases _ _ _
theorem tdiv_ex {x : Int} {g : Nat} (h : g ∣ x.natAbs) : x = (g : Int) * Int.tdiv x g := by
  have h1 : (g : Int) ∣ x := Int.ofNat_dvd_left.2 h
  exact (Int.mul_tdiv_cancel' h1).symm
def vr (a : Cx) : Rat := (a.Re : Rat) / (a.Den : Rat)
def vi (a : Cx) : Rat := (a.Im : Rat) / (a.Den : Rat)
theorem ne_cast {x : Int} (h : x ≠ 0) : (x : Rat) ≠ 0 := by exact_mod_cast h
theorem cross {p q d e : Int} (hd : d ≠ 0) (he : e ≠ 0) (h : (p : Rat) / (d : Rat) = (q : Rat) / (e : Rat)) : p * e = q * d := by
  have hd' := ne_cast hd
  have he' := ne_cast he
  have h1 : (p : Rat) * (e : Rat) = (q : Rat) * (d : Rat) := by grind
  exact_mod_cast h1
theorem den_ge {a : Cx} (h : ¬ badCx a) : 1 ≤ a.Den := (good_bounds h).2.2.2
theorem uniq {a b : Cx} (ga : ¬ badCx a) (gb : ¬ badCx b) (h1 : vr a = vr b) (h2 : vi a = vi b) : a = b := by
  have da := den_ge ga
  have db := den_ge gb
  have e1 : a.Re * b.Den = b.Re * a.Den := cross (by omega) (by omega) h1
  have e2 : a.Im * b.Den = b.Im * a.Den := cross (by omega) (by omega) h2
  have ca : Nat.gcd (Nat.gcd a.Re.natAbs a.Im.natAbs) a.Den.natAbs = 1 := by
    unfold badCx at ga; simp only [not_or] at ga; simpa using ga.2.2.2.2.2.2
  have cb : Nat.gcd (Nat.gcd b.Re.natAbs b.Im.natAbs) b.Den.natAbs = 1 := by
    unfold badCx at gb; simp only [not_or] at gb; simpa using gb.2.2.2.2.2.2
  have f1 : a.Re.natAbs * b.Den.natAbs = b.Re.natAbs * a.Den.natAbs := by rw [← Int.natAbs_mul, e1, Int.natAbs_mul]
  have f2 : a.Im.natAbs * b.Den.natAbs = b.Im.natAbs * a.Den.natAbs := by rw [← Int.natAbs_mul, e2, Int.natAbs_mul]
  have k1 : Nat.gcd (Nat.gcd (a.Re.natAbs * b.Den.natAbs) (a.Im.natAbs * b.Den.natAbs)) (a.Den.natAbs * b.Den.natAbs) = b.Den.natAbs := by
    rw [Nat.gcd_mul_right, Nat.gcd_mul_right, ca, Nat.one_mul]
  have k2 : Nat.gcd (Nat.gcd (b.Re.natAbs * a.Den.natAbs) (b.Im.natAbs * a.Den.natAbs)) (b.Den.natAbs * a.Den.natAbs) = a.Den.natAbs := by
    rw [Nat.gcd_mul_right, Nat.gcd_mul_right, cb, Nat.one_mul]
  rw [f1, f2, Nat.mul_comm a.Den.natAbs] at k1
  have hden : a.Den = b.Den := by
    have := k2.symm.trans k1
    omega
  have r1 : a.Re = b.Re := by
    rw [hden] at e1
    exact Int.eq_of_mul_eq_mul_right (by omega) e1
  have r2 : a.Im = b.Im := by
    rw [hden] at e2
    exact Int.eq_of_mul_eq_mul_right (by omega) e2
  cases a; cases b; simp_all

/-- A good number that is worth x + y i. -/
structure Is (a : Cx) (x y : Rat) : Prop where
  good : ¬ badCx a
  re : vr a = x
  im : vi a = y
theorem Is.of {a : Cx} (g : ¬ badCx a) : Is a (vr a) (vi a) := ⟨g, rfl, rfl⟩
theorem Is.uniq {a b : Cx} {x y : Rat} (h1 : Is a x y) (h2 : Is b x y) : a = b := M.uniq h1.good h2.good (h1.re.trans h2.re.symm) (h1.im.trans h2.im.symm)
theorem Is.to {a : Cx} {x y z w : Rat} (h : Is a x y) (e1 : x = z) (e2 : y = w) : Is a z w := ⟨h.good, h.re.trans e1, h.im.trans e2⟩
theorem quot {p d : Int} {g : Int} (hg : g ≠ 0) (hd : d ≠ 0) (h1 : p = g * Int.tdiv p g) (h2 : d = g * Int.tdiv d g) : ((Int.tdiv p g : Int) : Rat) / ((Int.tdiv d g : Int) : Rat) = (p : Rat) / (d : Rat) := by
  have hd2 : Int.tdiv d g ≠ 0 := fun h => by rw [h, Int.mul_zero] at h2; exact hd h2
  have c1 : (p : Rat) = (g : Rat) * ((Int.tdiv p g : Int) : Rat) := by exact_mod_cast h1
  have c2 : (d : Rat) = (g : Rat) * ((Int.tdiv d g : Int) : Rat) := by exact_mod_cast h2
  have n1 := ne_cast hg
  have n2 := ne_cast hd2
  rw [c1, c2]
  generalize ((Int.tdiv p g : Int) : Rat) = u at *
  generalize ((Int.tdiv d g : Int) : Rat) = v at *
  grind
theorem red_is {re im den : Int} (hd : den ≠ 0) (h : (red re im den).2 = 0) : Is (red re im den).1 ((re : Rat) / (den : Rat)) ((im : Rat) / (den : Rat)) := by
  rcases red_cases re im den with ⟨_, h2⟩ | h2
  · have hg := gcd_pos (a := re.natAbs) (b := im.natAbs) hd
    have d1 : Nat.gcd (Nat.gcd re.natAbs im.natAbs) den.natAbs ∣ re.natAbs := Nat.dvd_trans (Nat.gcd_dvd_left _ _) (Nat.gcd_dvd_left _ _)
    have d2 : Nat.gcd (Nat.gcd re.natAbs im.natAbs) den.natAbs ∣ im.natAbs := Nat.dvd_trans (Nat.gcd_dvd_left _ _) (Nat.gcd_dvd_right _ _)
    have d3 : Nat.gcd (Nat.gcd re.natAbs im.natAbs) den.natAbs ∣ den.natAbs := Nat.gcd_dvd_right _ _
    refine ⟨h2, ?_, ?_⟩ <;>
    · unfold red at h ⊢
      simp only [] at h ⊢
      generalize Nat.gcd (Nat.gcd re.natAbs im.natAbs) den.natAbs = g at *
      have key : ∀ G : Int, (G = g ∨ G = -g) → ∀ x : Int, g ∣ x.natAbs → x = G * Int.tdiv x G := by
        intro G hG x hx
        have h1 : (g : Int) ∣ x := Int.ofNat_dvd_left.2 hx
        have h2 : G ∣ x := by rcases hG with rfl | rfl; exact h1; exact (Int.neg_dvd).2 h1
        exact (Int.mul_tdiv_cancel' h2).symm
      generalize hG : (if den < 0 then -((g : Nat) : Int) else ((g : Nat) : Int)) = G at *
      have hG' : G = g ∨ G = -g := by rw [← hG]; split; exact .inr rfl; exact .inl rfl
      have hG0 : G ≠ 0 := by rcases hG' with h | h <;> omega
      by_cases hc : chkCx ⟨Int.tdiv re G, Int.tdiv im G, Int.tdiv den G⟩ = 0
      · rw [if_pos hc]
        first | exact quot hG0 hd (key G hG' _ d1) (key G hG' _ d3) | exact quot hG0 hd (key G hG' _ d2) (key G hG' _ d3)
      · rw [if_neg hc] at h; simp at h
  · rw [h2] at h; simp at h
theorem mul_ne {x y : Int} (h1 : 1 ≤ x) (h2 : 1 ≤ y) : x * y ≠ 0 := Int.mul_ne_zero (by omega) (by omega)
theorem mul_is {a b : Cx} {x y z w : Rat} (ha : Is a x y) (hb : Is b z w) (h : (mulS a b).2 = 0) : Is (mulS a b).1 (x * z - y * w) (x * w + y * z) := by
  have da := den_ge ha.good
  have db := den_ge hb.good
  unfold mulS at h ⊢
  rw [if_pos (good2 ha.good hb.good)] at h ⊢
  obtain ⟨g1, e1, e2⟩ := ha
  obtain ⟨g2, e3, e4⟩ := hb
  subst e1 e2 e3 e4
  have n1 := ne_cast (show a.Den ≠ 0 by omega)
  have n2 := ne_cast (show b.Den ≠ 0 by omega)
  refine (red_is (mul_ne da db) h).to ?_ ?_ <;> (simp only [vr, vi]; push_cast; grind)
end Go.Proofs.Ytifpegepdgmmbaa.M
