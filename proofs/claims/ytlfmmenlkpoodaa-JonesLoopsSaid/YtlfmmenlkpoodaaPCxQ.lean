/- Plain laws of the complex numbers with rational parts: what they are worth, and that two that are worth the same are one. -/
import Derived.Test.YtlfmmenlkpoodaaPCxInv
set_option linter.unusedVariables false
set_option linter.unusedSimpArgs false
set_option maxRecDepth 100000
namespace Go.Proofs.Ytlfmmenlkpoodaa.M
open Go.GW Go.Proofs

theorem tdiv_ex {x : Int} {g : Nat} (h : g ∣ x.natAbs) : x = (g : Int) * Int.tdiv x g := by
  have h1 : (g : Int) ∣ x := Int.ofNat_dvd_left.2 h
  exact (Int.mul_tdiv_cancel' h1).symm
def vr (a : Cx) : Rat := (a.Re : Rat) / (a.Den : Rat)
def vi (a : Cx) : Rat := (a.Im : Rat) / (a.Den : Rat)
theorem ne_cast {x : Int} (h : x ≠ 0) : (x : Rat) ≠ 0 := by exact_mod_cast h
theorem cross {p q d e : Int} (hd : d ≠ 0) (he : e ≠ 0) (h : (p : Rat) / (d : Rat) = (q : Rat) / (e : Rat)) : p * e = q * d := by
  have hd' := ne_cast hd
  have he' := ne_cast he
  have h1 : (p : Rat) * (e : Rat) = (q : Rat) * (d : Rat) := by grind
  exact_mod_cast h1
theorem den_ge {a : Cx} (h : ¬ badCx a) : 1 ≤ a.Den := (good_bounds h).2.2.2
theorem uniq {a b : Cx} (ga : ¬ badCx a) (gb : ¬ badCx b) (h1 : vr a = vr b) (h2 : vi a = vi b) : a = b := by
  have da := den_ge ga
  have db := den_ge gb
  have e1 : a.Re * b.Den = b.Re * a.Den := cross (by omega) (by omega) h1
  have e2 : a.Im * b.Den = b.Im * a.Den := cross (by omega) (by omega) h2
  have ca : Nat.gcd (Nat.gcd a.Re.natAbs a.Im.natAbs) a.Den.natAbs = 1 := by
    unfold badCx at ga; simp only [not_or] at ga; simpa using ga.2.2.2.2.2.2
  have cb : Nat.gcd (Nat.gcd b.Re.natAbs b.Im.natAbs) b.Den.natAbs = 1 := by
    unfold badCx at gb; simp only [not_or] at gb; simpa using gb.2.2.2.2.2.2
  have f1 : a.Re.natAbs * b.Den.natAbs = b.Re.natAbs * a.Den.natAbs := by rw [← Int.natAbs_mul, e1, Int.natAbs_mul]
  have f2 : a.Im.natAbs * b.Den.natAbs = b.Im.natAbs * a.Den.natAbs := by rw [← Int.natAbs_mul, e2, Int.natAbs_mul]
  have k1 : Nat.gcd (Nat.gcd (a.Re.natAbs * b.Den.natAbs) (a.Im.natAbs * b.Den.natAbs)) (a.Den.natAbs * b.Den.natAbs) = b.Den.natAbs := by
    rw [Nat.gcd_mul_right, Nat.gcd_mul_right, ca, Nat.one_mul]
  have k2 : Nat.gcd (Nat.gcd (b.Re.natAbs * a.Den.natAbs) (b.Im.natAbs * a.Den.natAbs)) (b.Den.natAbs * a.Den.natAbs) = a.Den.natAbs := by
    rw [Nat.gcd_mul_right, Nat.gcd_mul_right, cb, Nat.one_mul]
  rw [f1, f2, Nat.mul_comm a.Den.natAbs] at k1
  have hden : a.Den = b.Den := by
    have := k2.symm.trans k1
    omega
  have r1 : a.Re = b.Re := by
    rw [hden] at e1
    exact Int.eq_of_mul_eq_mul_right (by omega) e1
  have r2 : a.Im = b.Im := by
    rw [hden] at e2
    exact Int.eq_of_mul_eq_mul_right (by omega) e2
  cases a; cases b; simp_all

/-- A good number that is worth x + y i. -/
structure Is (a : Cx) (x y : Rat) : Prop where
  good : ¬ badCx a
  re : vr a = x
  im : vi a = y
theorem Is.of {a : Cx} (g : ¬ badCx a) : Is a (vr a) (vi a) := ⟨g, rfl, rfl⟩
theorem Is.uniq {a b : Cx} {x y : Rat} (h1 : Is a x y) (h2 : Is b x y) : a = b := M.uniq h1.good h2.good (h1.re.trans h2.re.symm) (h1.im.trans h2.im.symm)
theorem Is.to {a : Cx} {x y z w : Rat} (h : Is a x y) (e1 : x = z) (e2 : y = w) : Is a z w := ⟨h.good, h.re.trans e1, h.im.trans e2⟩
theorem quot {p d : Int} {g : Int} (hg : g ≠ 0) (hd : d ≠ 0) (h1 : p = g * Int.tdiv p g) (h2 : d = g * Int.tdiv d g) : ((Int.tdiv p g : Int) : Rat) / ((Int.tdiv d g : Int) : Rat) = (p : Rat) / (d : Rat) := by
  have hd2 : Int.tdiv d g ≠ 0 := fun h => by rw [h, Int.mul_zero] at h2; exact hd h2
  have c1 : (p : Rat) = (g : Rat) * ((Int.tdiv p g : Int) : Rat) := by exact_mod_cast h1
  have c2 : (d : Rat) = (g : Rat) * ((Int.tdiv d g : Int) : Rat) := by exact_mod_cast h2
  have n1 := ne_cast hg
  have n2 := ne_cast hd2
  rw [c1, c2]
  generalize ((Int.tdiv p g : Int) : Rat) = u at *
  generalize ((Int.tdiv d g : Int) : Rat) = v at *
  grind
theorem red_is {re im den : Int} (hd : den ≠ 0) (h : (red re im den).2 = 0) : Is (red re im den).1 ((re : Rat) / (den : Rat)) ((im : Rat) / (den : Rat)) := by
  rcases red_cases re im den with ⟨_, h2⟩ | h2
  · have hg := gcd_pos (a := re.natAbs) (b := im.natAbs) hd
    have d1 : Nat.gcd (Nat.gcd re.natAbs im.natAbs) den.natAbs ∣ re.natAbs := Nat.dvd_trans (Nat.gcd_dvd_left _ _) (Nat.gcd_dvd_left _ _)
    have d2 : Nat.gcd (Nat.gcd re.natAbs im.natAbs) den.natAbs ∣ im.natAbs := Nat.dvd_trans (Nat.gcd_dvd_left _ _) (Nat.gcd_dvd_right _ _)
    have d3 : Nat.gcd (Nat.gcd re.natAbs im.natAbs) den.natAbs ∣ den.natAbs := Nat.gcd_dvd_right _ _
    refine ⟨h2, ?_, ?_⟩ <;>
    · unfold red at h ⊢
      simp only [] at h ⊢
      generalize Nat.gcd (Nat.gcd re.natAbs im.natAbs) den.natAbs = g at *
      have key : ∀ G : Int, (G = g ∨ G = -g) → ∀ x : Int, g ∣ x.natAbs → x = G * Int.tdiv x G := by
        intro G hG x hx
        have h1 : (g : Int) ∣ x := Int.ofNat_dvd_left.2 hx
        have h2 : G ∣ x := by rcases hG with rfl | rfl; exact h1; exact (Int.neg_dvd).2 h1
        exact (Int.mul_tdiv_cancel' h2).symm
      generalize hG : (if den < 0 then -((g : Nat) : Int) else ((g : Nat) : Int)) = G at *
      have hG' : G = g ∨ G = -g := by rw [← hG]; split; exact .inr rfl; exact .inl rfl
      have hG0 : G ≠ 0 := by rcases hG' with h | h <;> omega
      by_cases hc : chkCx ⟨Int.tdiv re G, Int.tdiv im G, Int.tdiv den G⟩ = 0
      · rw [if_pos hc]
        first | exact quot hG0 hd (key G hG' _ d1) (key G hG' _ d3) | exact quot hG0 hd (key G hG' _ d2) (key G hG' _ d3)
      · rw [if_neg hc] at h; simp at h
  · rw [h2] at h; simp at h
theorem mul_ne {x y : Int} (h1 : 1 ≤ x) (h2 : 1 ≤ y) : x * y ≠ 0 := Int.mul_ne_zero (by omega) (by omega)
theorem mul_is {a b : Cx} {x y z w : Rat} (ha : Is a x y) (hb : Is b z w) (h : (mulS a b).2 = 0) : Is (mulS a b).1 (x * z - y * w) (x * w + y * z) := by
  have da := den_ge ha.good
  have db := den_ge hb.good
  unfold mulS at h ⊢
  rw [if_pos (good2 ha.good hb.good)] at h ⊢
  obtain ⟨g1, e1, e2⟩ := ha
  obtain ⟨g2, e3, e4⟩ := hb
  subst e1 e2 e3 e4
  have n1 := ne_cast (show a.Den ≠ 0 by omega)
  have n2 := ne_cast (show b.Den ≠ 0 by omega)
  refine (red_is (mul_ne da db) h).to ?_ ?_ <;> (simp only [vr, vi]; push_cast; grind)
theorem add_is {a b : Cx} {x y z w : Rat} (ha : Is a x y) (hb : Is b z w) (h : (addS a b).2 = 0) : Is (addS a b).1 (x + z) (y + w) := by
  have da := den_ge ha.good
  have db := den_ge hb.good
  unfold addS at h ⊢
  rw [if_pos (good2 ha.good hb.good)] at h ⊢
  obtain ⟨g1, e1, e2⟩ := ha
  obtain ⟨g2, e3, e4⟩ := hb
  subst e1 e2 e3 e4
  have n1 := ne_cast (show a.Den ≠ 0 by omega)
  have n2 := ne_cast (show b.Den ≠ 0 by omega)
  refine (red_is (mul_ne da db) h).to ?_ ?_ <;> (simp only [vr, vi]; push_cast; grind)
theorem sub_is {a b : Cx} {x y z w : Rat} (ha : Is a x y) (hb : Is b z w) (h : (subS a b).2 = 0) : Is (subS a b).1 (x - z) (y - w) := by
  have da := den_ge ha.good
  have db := den_ge hb.good
  unfold subS at h ⊢
  rw [if_pos (good2 ha.good hb.good)] at h ⊢
  obtain ⟨g1, e1, e2⟩ := ha
  obtain ⟨g2, e3, e4⟩ := hb
  subst e1 e2 e3 e4
  have n1 := ne_cast (show a.Den ≠ 0 by omega)
  have n2 := ne_cast (show b.Den ≠ 0 by omega)
  refine (red_is (mul_ne da db) h).to ?_ ?_ <;> (simp only [vr, vi]; push_cast; grind)
theorem neg_is {a : Cx} {x y : Rat} (ha : Is a x y) : Is (negC a) (-x) (-y) := by
  obtain ⟨g, e1, e2⟩ := ha
  subst e1 e2
  refine ⟨negC_good g, ?_, ?_⟩ <;> (simp only [negC, vr, vi]; push_cast; grind)
theorem ap_neg {a : Cx} (g : ¬ badCx a) : ap a = ⟨a.Re, -a.Im, a.Den⟩ := by
  obtain ⟨h1, h2, h3, h4⟩ := good_bounds g
  unfold ap
  rw [w64_id (by omega) (by omega), Int.zero_sub]
theorem ap_good {a : Cx} (g : ¬ badCx a) : ¬ badCx (ap a) := by
  rw [ap_neg g]
  unfold badCx at g ⊢
  simp only [Int.natAbs_neg] at g ⊢
  omega
theorem ap_is {a : Cx} {x y : Rat} (ha : Is a x y) : Is (ap a) x (-y) := by
  obtain ⟨g, e1, e2⟩ := ha
  subst e1 e2
  refine ⟨ap_good g, ?_, ?_⟩ <;> (rw [ap_neg g]; simp only [vr, vi])
  push_cast
  grind
/-- The parts of one over z + w i. -/
def qr (z w : Rat) : Rat := z / (z * z + w * w)
def qi (z w : Rat) : Rat := -w / (z * z + w * w)
theorem rat_sq {x : Rat} : 0 ≤ x * x := by
  rcases Rat.le_total (a := 0) (b := x) with h | h
  · exact Rat.mul_nonneg h h
  · have := Rat.mul_nonneg (a := -x) (b := -x) (by grind) (by grind)
    grind
theorem sq_ne {z w : Rat} (h : ¬ (z = 0 ∧ w = 0)) : z * z + w * w ≠ 0 := by
  intro hh
  have h1 := rat_sq (x := z)
  have h2 := rat_sq (x := w)
  have h3 : z * z = 0 := by grind
  have h4 : w * w = 0 := by grind
  exact h ⟨by grind, by grind⟩
theorem q_one {z w : Rat} (h : ¬ (z = 0 ∧ w = 0)) : z * qr z w - w * qi z w = 1 ∧ z * qi z w + w * qr z w = 0 := by
  have := sq_ne h
  unfold qr qi
  constructor <;> grind
theorem quoRat {P N D E p n d e g h i j : Rat} (hN : N ≠ 0) (hE : E ≠ 0) (h1 : P = g * (j * p)) (h2 : D = h * (i * d)) (h3 : N = g * (i * n)) (h4 : E = h * (j * e)) : (p * d) / (n * e) = (P * D) / (N * E) := by
  have : g ≠ 0 := by grind
  have : j ≠ 0 := by grind
  have : h ≠ 0 := by grind
  have : i ≠ 0 := by grind
  rw [h1, h2, h3, h4]
  grind
theorem quo_val {a b c d D E : Rat} (hD : D ≠ 0) (hE : E ≠ 0) (hN : c * c + d * d ≠ 0) : ((a * c + b * d) * D) / ((c * c + d * d) * E) = (a / E) * qr (c / D) (d / D) - (b / E) * qi (c / D) (d / D) ∧ ((b * c - a * d) * D) / ((c * c + d * d) * E) = (a / E) * qi (c / D) (d / D) + (b / E) * qr (c / D) (d / D) := by
  have h1 : (c / D) * (c / D) + (d / D) * (d / D) = (c * c + d * d) / (D * D) := by grind
  unfold qr qi
  rw [h1]
  have h2 : (c / D) / ((c * c + d * d) / (D * D)) = c * D / (c * c + d * d) := by grind
  have h3 : -(d / D) / ((c * c + d * d) / (D * D)) = - (d * D) / (c * c + d * d) := by grind
  rw [h2, h3]
  constructor <;> grind
theorem nz_val {b : Cx} (g : ¬ badCx b) (h : nz b) : ¬ (vr b = 0 ∧ vi b = 0) := by
  have db := den_ge g
  have n2 := ne_cast (show b.Den ≠ 0 by omega)
  rintro ⟨h1, h2⟩
  unfold vr at h1
  unfold vi at h2
  have e1 : (b.Re : Rat) = 0 := by grind
  have e2 : (b.Im : Rat) = 0 := by grind
  exact h ⟨by exact_mod_cast e1, by exact_mod_cast e2⟩
theorem nz_of {b : Cx} (h : ¬ (vr b = 0 ∧ vi b = 0)) : nz b := by
  rintro ⟨h1, h2⟩
  apply h
  unfold vr vi
  rw [h1, h2]
  constructor <;> grind
theorem div_is {a b : Cx} {x y z w : Rat} (ha : Is a x y) (hb : Is b z w) (hz : nz b) (h : (divS a b).2 = 0) : Is (divS a b).1 (x * qr z w - y * qi z w) (x * qi z w + y * qr z w) := by
  have da := den_ge ha.good
  have db := den_ge hb.good
  have k := div_ok ha.good hb.good hz
  unfold divS at h ⊢
  rw [if_pos (good2 ha.good hb.good), if_pos hz] at h ⊢
  obtain ⟨g1, e1, e2⟩ := ha
  obtain ⟨g2, e3, e4⟩ := hb
  subst e1 e2 e3 e4
  have n1 := ne_cast (show a.Den ≠ 0 by omega)
  have n2 := ne_cast (show b.Den ≠ 0 by omega)
  have hN : (b.Re : Rat) * b.Re + (b.Im : Rat) * b.Im ≠ 0 := by
    have := k.n
    have h1 : b.Re * b.Re + b.Im * b.Im ≠ 0 := by omega
    exact_mod_cast h1
  obtain ⟨v1, v2⟩ := quo_val (a := a.Re) (b := a.Im) n2 n1 hN
  have v1' : ((a.Re * b.Re + a.Im * b.Im : Int) : Rat) * (b.Den : Rat) / (((b.Re * b.Re + b.Im * b.Im : Int) : Rat) * (a.Den : Rat)) = vr a * qr (vr b) (vi b) - vi a * qi (vr b) (vi b) := by push_cast; exact v1
  have v2' : ((a.Im * b.Re - a.Re * b.Im : Int) : Rat) * (b.Den : Rat) / (((b.Re * b.Re + b.Im * b.Im : Int) : Rat) * (a.Den : Rat)) = vr a * qi (vr b) (vi b) + vi a * qr (vr b) (vi b) := by push_cast; exact v2
  rw [← v1', ← v2']
  clear v1 v2 v1' v2' hN n1 n2
  generalize a.Re * b.Re + a.Im * b.Im = P at *
  generalize a.Im * b.Re - a.Re * b.Im = Q at *
  generalize b.Re * b.Re + b.Im * b.Im = N at *
  generalize b.Den = D at *
  generalize a.Den = E at *
  unfold quoS at h ⊢
  simp only [] at h ⊢
  generalize hg : Nat.gcd (Nat.gcd P.natAbs Q.natAbs) N.natAbs = g at *
  generalize hh : Nat.gcd D.natAbs E.natAbs = hh' at *
  generalize hi : Nat.gcd (Int.tdiv D hh').natAbs (Int.tdiv N g).natAbs = i at *
  generalize hj : Nat.gcd (Nat.gcd (Int.tdiv P g).natAbs (Int.tdiv Q g).natAbs) (Int.tdiv E hh').natAbs = j at *
  have F := qf k hg.symm hh.symm hi.symm hj.symm
  have gn : g ∣ N.natAbs := by rw [← hg]; exact Nat.gcd_dvd_right _ _
  have gp : g ∣ P.natAbs := by rw [← hg]; exact Nat.dvd_trans (Nat.gcd_dvd_left _ _) (Nat.gcd_dvd_left _ _)
  have gq : g ∣ Q.natAbs := by rw [← hg]; exact Nat.dvd_trans (Nat.gcd_dvd_left _ _) (Nat.gcd_dvd_right _ _)
  have hD : hh' ∣ D.natAbs := by rw [← hh]; exact Nat.gcd_dvd_left _ _
  have hE : hh' ∣ E.natAbs := by rw [← hh]; exact Nat.gcd_dvd_right _ _
  have iD : i ∣ (Int.tdiv D hh').natAbs := by rw [← hi]; exact Nat.gcd_dvd_left _ _
  have iN : i ∣ (Int.tdiv N g).natAbs := by rw [← hi]; exact Nat.gcd_dvd_right _ _
  have jE : j ∣ (Int.tdiv E hh').natAbs := by rw [← hj]; exact Nat.gcd_dvd_right _ _
  have jP : j ∣ (Int.tdiv P g).natAbs := by rw [← hj]; exact Nat.dvd_trans (Nat.gcd_dvd_left _ _) (Nat.gcd_dvd_left _ _)
  have jQ : j ∣ (Int.tdiv Q g).natAbs := by rw [← hj]; exact Nat.dvd_trans (Nat.gcd_dvd_left _ _) (Nat.gcd_dvd_right _ _)
  have xP := tdiv_ex gp
  have xQ := tdiv_ex gq
  have xN := tdiv_ex gn
  have xD := tdiv_ex hD
  have xE := tdiv_ex hE
  have yP := tdiv_ex jP
  have yQ := tdiv_ex jQ
  have yN := tdiv_ex iN
  have yD := tdiv_ex iD
  have yE := tdiv_ex jE
  have d2 := F.d2
  have n2 := F.n2
  have e2 := F.e2
  have cop := F.cop
  have rN : (N : Rat) ≠ 0 := ne_cast (by have := k.n; omega)
  have rE : (E : Rat) ≠ 0 := ne_cast (by have := k.e; omega)
  generalize Int.tdiv (Int.tdiv P g) j = p at *
  generalize Int.tdiv (Int.tdiv Q g) j = q at *
  generalize Int.tdiv (Int.tdiv N g) i = n at *
  generalize Int.tdiv (Int.tdiv D hh') i = d at *
  generalize Int.tdiv (Int.tdiv E hh') j = e at *
  rw [yP] at xP
  rw [yQ] at xQ
  rw [yN] at xN
  rw [yD] at xD
  rw [yE] at xE
  have cP : (P : Rat) = (g : Int) * ((j : Int) * (p : Rat)) := by exact_mod_cast xP
  have cQ : (Q : Rat) = (g : Int) * ((j : Int) * (q : Rat)) := by exact_mod_cast xQ
  have cN : (N : Rat) = (g : Int) * ((i : Int) * (n : Rat)) := by exact_mod_cast xN
  have cD : (D : Rat) = (hh' : Int) * ((i : Int) * (d : Rat)) := by exact_mod_cast xD
  have cE : (E : Rat) = (hh' : Int) * ((j : Int) * (e : Rat)) := by exact_mod_cast xE
  unfold finS at h ⊢
  by_cases hB : B (p * d) ∧ B (q * d) ∧ B (n * e)
  · rw [if_pos hB]
    have hne : 1 ≤ n * e := by
      have := Int.mul_pos (show 0 < n by omega) (show 0 < e by omega)
      omega
    refine ⟨?_, ?_, ?_⟩
    · unfold badCx
      simp only [cop]
      omega
    · unfold vr
      push_cast
      exact quoRat rN rE cP cD cN cE
    · unfold vi
      push_cast
      exact quoRat rN rE cQ cD cN cE
  · rw [if_neg hB] at h; simp at h
end Go.Proofs.Ytlfmmenlkpoodaa.M
