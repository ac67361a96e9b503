/- Plain laws of matrices of complex numbers with rational parts: what they are worth. -/
import Derived.Test.YtlfmmenlkpoodaaPCxQ
set_option linter.unusedVariables false
set_option linter.unusedSimpArgs false
set_option maxRecDepth 100000
namespace Go.Proofs.Ytlfmmenlkpoodaa.M
open Go.GW Go.Proofs

/-- A matrix of complex numbers: ai + bi i. -/
structure MQ where
  a0 : Rat
  b0 : Rat
  a1 : Rat
  b1 : Rat
  a2 : Rat
  b2 : Rat
  a3 : Rat
  b3 : Rat
theorem MQ.ext' {p q : MQ} (h0 : p.a0 = q.a0) (k0 : p.b0 = q.b0) (h1 : p.a1 = q.a1) (k1 : p.b1 = q.b1) (h2 : p.a2 = q.a2) (k2 : p.b2 = q.b2) (h3 : p.a3 = q.a3) (k3 : p.b3 = q.b3) : p = q := by
  cases p; cases q; simp_all
def MQ.mul (p q : MQ) : MQ :=
  ⟨(p.a0 * q.a0 - p.b0 * q.b0) + (p.a1 * q.a2 - p.b1 * q.b2), (p.a0 * q.b0 + p.b0 * q.a0) + (p.a1 * q.b2 + p.b1 * q.a2),
   (p.a0 * q.a1 - p.b0 * q.b1) + (p.a1 * q.a3 - p.b1 * q.b3), (p.a0 * q.b1 + p.b0 * q.a1) + (p.a1 * q.b3 + p.b1 * q.a3),
   (p.a2 * q.a0 - p.b2 * q.b0) + (p.a3 * q.a2 - p.b3 * q.b2), (p.a2 * q.b0 + p.b2 * q.a0) + (p.a3 * q.b2 + p.b3 * q.a2),
   (p.a2 * q.a1 - p.b2 * q.b1) + (p.a3 * q.a3 - p.b3 * q.b3), (p.a2 * q.b1 + p.b2 * q.a1) + (p.a3 * q.b3 + p.b3 * q.a3)⟩
def MQ.adj (p : MQ) : MQ := ⟨p.a0, -p.b0, p.a2, -p.b2, p.a1, -p.b1, p.a3, -p.b3⟩
def MQ.one : MQ := ⟨1, 0, 0, 0, 0, 0, 1, 0⟩
def MQ.dr (p : MQ) : Rat := (p.a0 * p.a3 - p.b0 * p.b3) - (p.a1 * p.a2 - p.b1 * p.b2)
def MQ.di (p : MQ) : Rat := (p.a0 * p.b3 + p.b0 * p.a3) - (p.a1 * p.b2 + p.b1 * p.a2)
def MQ.sc (p : MQ) (u v : Rat) : MQ :=
  ⟨p.a3 * u - p.b3 * v, p.a3 * v + p.b3 * u, -p.a1 * u - -p.b1 * v, -p.a1 * v + -p.b1 * u, -p.a2 * u - -p.b2 * v, -p.a2 * v + -p.b2 * u, p.a0 * u - p.b0 * v, p.a0 * v + p.b0 * u⟩
def MQ.inv (p : MQ) : MQ := p.sc (qr p.dr p.di) (qi p.dr p.di)
theorem MQ.mul_assoc (p q r : MQ) : (p.mul q).mul r = p.mul (q.mul r) := by
  apply MQ.ext' <;> (simp only [MQ.mul]; grind)
theorem MQ.mul_one (p : MQ) : p.mul MQ.one = p := by apply MQ.ext' <;> (simp only [MQ.mul, MQ.one]; grind)
theorem MQ.one_mul (p : MQ) : MQ.one.mul p = p := by apply MQ.ext' <;> (simp only [MQ.mul, MQ.one]; grind)
theorem MQ.adj_mul (p q : MQ) : (p.mul q).adj = q.adj.mul p.adj := by apply MQ.ext' <;> (simp only [MQ.mul, MQ.adj]; grind)
theorem MQ.tr_comm (p q : MQ) : (p.mul q).a0 + (p.mul q).a3 = (q.mul p).a0 + (q.mul p).a3 ∧ (p.mul q).b0 + (p.mul q).b3 = (q.mul p).b0 + (q.mul p).b3 := by
  simp only [MQ.mul]; constructor <;> grind
theorem MQ.det_mul (p q : MQ) : (p.mul q).dr = p.dr * q.dr - p.di * q.di ∧ (p.mul q).di = p.dr * q.di + p.di * q.dr := by
  simp only [MQ.mul, MQ.dr, MQ.di]; constructor <;> grind
theorem MQ.mul_sc (p : MQ) {u v : Rat} (h1 : p.dr * u - p.di * v = 1) (h2 : p.dr * v + p.di * u = 0) : p.mul (p.sc u v) = MQ.one ∧ (p.sc u v).mul p = MQ.one := by
  constructor
  · apply MQ.ext'
    · refine Eq.trans ?_ h1; simp only [MQ.mul, MQ.sc, MQ.dr, MQ.di]; grind
    · refine Eq.trans ?_ h2; simp only [MQ.mul, MQ.sc, MQ.dr, MQ.di]; grind
    · simp only [MQ.mul, MQ.sc, MQ.one]; grind
    · simp only [MQ.mul, MQ.sc, MQ.one]; grind
    · simp only [MQ.mul, MQ.sc, MQ.one]; grind
    · simp only [MQ.mul, MQ.sc, MQ.one]; grind
    · refine Eq.trans ?_ h1; simp only [MQ.mul, MQ.sc, MQ.dr, MQ.di]; grind
    · refine Eq.trans ?_ h2; simp only [MQ.mul, MQ.sc, MQ.dr, MQ.di]; grind
  · apply MQ.ext'
    · refine Eq.trans ?_ h1; simp only [MQ.mul, MQ.sc, MQ.dr, MQ.di]; grind
    · refine Eq.trans ?_ h2; simp only [MQ.mul, MQ.sc, MQ.dr, MQ.di]; grind
    · simp only [MQ.mul, MQ.sc, MQ.one]; grind
    · simp only [MQ.mul, MQ.sc, MQ.one]; grind
    · simp only [MQ.mul, MQ.sc, MQ.one]; grind
    · simp only [MQ.mul, MQ.sc, MQ.one]; grind
    · refine Eq.trans ?_ h1; simp only [MQ.mul, MQ.sc, MQ.dr, MQ.di]; grind
    · refine Eq.trans ?_ h2; simp only [MQ.mul, MQ.sc, MQ.dr, MQ.di]; grind
theorem MQ.mul_inv (p : MQ) (h : ¬ (p.dr = 0 ∧ p.di = 0)) : p.mul p.inv = MQ.one ∧ p.inv.mul p = MQ.one := by
  obtain ⟨h1, h2⟩ := q_one h
  exact p.mul_sc h1 h2

/-- A good matrix that is worth p. -/
structure IsJ (a : A4 Cx) (p : MQ) : Prop where
  e0 : Is a.e0 p.a0 p.b0
  e1 : Is a.e1 p.a1 p.b1
  e2 : Is a.e2 p.a2 p.b2
  e3 : Is a.e3 p.a3 p.b3
def mq (a : A4 Cx) : MQ := ⟨vr a.e0, vi a.e0, vr a.e1, vi a.e1, vr a.e2, vi a.e2, vr a.e3, vi a.e3⟩
theorem IsJ.of {a : A4 Cx} (h : valJ a = true) : IsJ a (mq a) := by
  obtain ⟨h0, h1, h2, h3⟩ := val_good h
  exact ⟨Is.of h0, Is.of h1, Is.of h2, Is.of h3⟩
theorem IsJ.valid {a : A4 Cx} {p : MQ} (h : IsJ a p) : valJ a = true := by
  unfold valJ badJ
  simp [h.e0.good, h.e1.good, h.e2.good, h.e3.good]
theorem IsJ.uniq {a b : A4 Cx} {p : MQ} (h1 : IsJ a p) (h2 : IsJ b p) : a = b := by
  have e0 := h1.e0.uniq h2.e0
  have e1 := h1.e1.uniq h2.e1
  have e2 := h1.e2.uniq h2.e2
  have e3 := h1.e3.uniq h2.e3
  cases a; cases b; simp_all
theorem IsJ.to {a : A4 Cx} {p q : MQ} (h : IsJ a p) (e : p = q) : IsJ a q := e ▸ h
theorem cell_is {x y z w : Cx} {xa xb ya yb za zb wa wb : Rat} (hx : Is x xa xb) (hy : Is y ya yb) (hz : Is z za zb) (hw : Is w wa wb) (h : (cellS x y z w).2 = 0) :
    Is (cellS x y z w).1 ((xa * ya - xb * yb) + (za * wa - zb * wb)) ((xa * yb + xb * ya) + (za * wb + zb * wa)) := by
  unfold cellS at h ⊢
  by_cases hc : (mulS x y).2 = 0 ∧ (mulS z w).2 = 0
  · rw [if_pos hc] at h ⊢
    exact add_is (mul_is hx hy hc.1) (mul_is hz hw hc.2) h
  · rw [if_neg hc] at h; simp at h
theorem mulJ_is {a b : A4 Cx} {p q : MQ} (ha : IsJ a p) (hb : IsJ b q) (h : (mulJ a b).2 = 0) : IsJ (mulJ a b).1 (p.mul q) := by
  unfold mulJ at h ⊢
  rw [if_pos ⟨ha.valid, hb.valid⟩] at h ⊢
  by_cases c0 : (cellS a.e0 b.e0 a.e1 b.e2).2 = 0
  · by_cases c1 : (cellS a.e0 b.e1 a.e1 b.e3).2 = 0
    · by_cases c2 : (cellS a.e2 b.e0 a.e3 b.e2).2 = 0
      · by_cases c3 : (cellS a.e2 b.e1 a.e3 b.e3).2 = 0
        · rw [if_pos c0, if_pos c1, if_pos c2, if_pos c3]
          exact ⟨cell_is ha.e0 hb.e0 ha.e1 hb.e2 c0, cell_is ha.e0 hb.e1 ha.e1 hb.e3 c1, cell_is ha.e2 hb.e0 ha.e3 hb.e2 c2, cell_is ha.e2 hb.e1 ha.e3 hb.e3 c3⟩
        · rw [if_pos c0, if_pos c1, if_pos c2, if_neg c3] at h; simp at h
      · rw [if_pos c0, if_pos c1, if_neg c2] at h; simp at h
    · rw [if_pos c0, if_neg c1] at h; simp at h
  · rw [if_neg c0] at h; simp at h
theorem mulJ_cases {a b : A4 Cx} (ha : valJ a = true) (hb : valJ b = true) : (mulJ a b).2 = 0 ∨ mulJ a b = (zJ, 16) := by
  unfold mulJ
  rw [if_pos ⟨ha, hb⟩]
  split
  · split
    · split
      · split
        · exact .inl rfl
        · exact .inr rfl
      · exact .inr rfl
    · exact .inr rfl
  · exact .inr rfl
theorem detS_is {a : A4 Cx} {p : MQ} (ha : IsJ a p) (h : (detS a).2 = 0) : Is (detS a).1 p.dr p.di := by
  unfold detS at h ⊢
  rw [if_pos ha.valid] at h ⊢
  by_cases hc : (mulS a.e0 a.e3).2 = 0 ∧ (mulS a.e1 a.e2).2 = 0
  · rw [if_pos hc] at h ⊢
    exact sub_is (mul_is ha.e0 ha.e3 hc.1) (mul_is ha.e1 ha.e2 hc.2) h
  · rw [if_neg hc] at h; simp at h
theorem detS_cases {a : A4 Cx} (ha : valJ a = true) : (detS a).2 = 0 ∨ detS a = (⟨0, 0, 0⟩, 16) := by
  obtain ⟨g0, g1, g2, g3⟩ := val_good ha
  unfold detS
  rw [if_pos ha]
  by_cases hc : (mulS a.e0 a.e3).2 = 0 ∧ (mulS a.e1 a.e2).2 = 0
  · rw [if_pos hc]
    rcases mul_cases g0 g3 with ⟨_, h1⟩ | h1
    · rcases mul_cases g1 g2 with ⟨_, h2⟩ | h2
      · rcases sub_cases h1 h2 with ⟨h3, _⟩ | h3
        · exact .inl h3
        · exact .inr h3
      · have := hc.2; rw [h2] at this; simp at this
    · have := hc.1; rw [h1] at this; simp at this
  · rw [if_neg hc]; exact .inr rfl
theorem trS_is {a : A4 Cx} {p : MQ} (ha : IsJ a p) (h : (trS a).2 = 0) : Is (trS a).1 (p.a0 + p.a3) (p.b0 + p.b3) := by
  unfold trS at h ⊢
  rw [if_pos ha.valid] at h ⊢
  exact add_is ha.e0 ha.e3 h
theorem adj_is {a : A4 Cx} {p : MQ} (ha : IsJ a p) : adjS a = (⟨ap a.e0, ap a.e2, ap a.e1, ap a.e3⟩, 0) ∧ IsJ ⟨ap a.e0, ap a.e2, ap a.e1, ap a.e3⟩ p.adj := by
  unfold adjS
  rw [if_pos ha.valid]
  exact ⟨rfl, ap_is ha.e0, ap_is ha.e2, ap_is ha.e1, ap_is ha.e3⟩
theorem inv_is {a : A4 Cx} {p : MQ} (ha : IsJ a p) (h : (invS a).2 = 0) : IsJ (invS a).1 p.inv ∧ ¬ (p.dr = 0 ∧ p.di = 0) := by
  unfold invS at h ⊢
  by_cases hd : (detS a).2 = 0
  · rw [if_pos hd] at h ⊢
    by_cases hz : nz (detS a).1
    · rw [if_pos hz] at h ⊢
      have id' := detS_is ha hd
      have hn : ¬ (p.dr = 0 ∧ p.di = 0) := by
        have := nz_val id'.good hz
        rw [id'.re, id'.im] at this
        exact this
      by_cases c0 : (divS a.e3 (detS a).1).2 = 0
      · by_cases c1 : (divS (negC a.e1) (detS a).1).2 = 0
        · by_cases c2 : (divS (negC a.e2) (detS a).1).2 = 0
          · by_cases c3 : (divS a.e0 (detS a).1).2 = 0
            · rw [if_pos c0, if_pos c1, if_pos c2, if_pos c3]
              exact ⟨⟨div_is ha.e3 id' hz c0, div_is (neg_is ha.e1) id' hz c1, div_is (neg_is ha.e2) id' hz c2, div_is ha.e0 id' hz c3⟩, hn⟩
            · rw [if_pos c0, if_pos c1, if_pos c2, if_neg c3] at h; simp at h
          · rw [if_pos c0, if_pos c1, if_neg c2] at h; simp at h
        · rw [if_pos c0, if_neg c1] at h; simp at h
      · rw [if_neg c0] at h; simp at h
    · rw [if_neg hz] at h; simp at h
  · rw [if_neg hd] at h; exact absurd h hd
theorem inv_cases {a : A4 Cx} (ha : valJ a = true) : ((detS a).2 = 0 ∧ nz (detS a).1 ∧ ((invS a).2 = 0 ∨ invS a = (zJ, 16))) ∨ ((detS a).2 = 0 ∧ ¬ nz (detS a).1 ∧ invS a = (zJ, 18)) ∨ (detS a = (⟨0, 0, 0⟩, 16) ∧ invS a = (zJ, 16)) := by
  rcases detS_cases ha with hd | hd
  · by_cases hz : nz (detS a).1
    · refine .inl ⟨hd, hz, ?_⟩
      unfold invS
      rw [if_pos hd, if_pos hz]
      split
      · split
        · split
          · split
            · exact .inl rfl
            · exact .inr rfl
          · exact .inr rfl
        · exact .inr rfl
      · exact .inr rfl
    · refine .inr (.inl ⟨hd, hz, ?_⟩)
      unfold invS
      rw [if_pos hd, if_neg hz]
  · refine .inr (.inr ⟨hd, ?_⟩)
    unfold invS
    rw [hd, if_neg (by decide)]
theorem num_is (n : Int) (h : B n) : Is ⟨n, 0, 1⟩ n 0 := by
  refine ⟨?_, ?_, ?_⟩
  · unfold badCx
    simp
    omega
  · simp only [vr]; grind
  · simp only [vi]; grind
theorem one_is : IsJ ⟨⟨1, 0, 1⟩, ⟨0, 0, 1⟩, ⟨0, 0, 1⟩, ⟨1, 0, 1⟩⟩ MQ.one :=
  ⟨(num_is 1 (by omega)).to (by simp [MQ.one]) rfl, (num_is 0 (by omega)).to (by simp [MQ.one]) rfl, (num_is 0 (by omega)).to (by simp [MQ.one]) rfl, (num_is 1 (by omega)).to (by simp [MQ.one]) rfl⟩
end Go.Proofs.Ytlfmmenlkpoodaa.M
