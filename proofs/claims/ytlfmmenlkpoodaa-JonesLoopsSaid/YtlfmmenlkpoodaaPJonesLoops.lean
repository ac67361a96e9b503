/- The plain law of JonesLoops: no table changes the trace, or the determinant, of a loop. -/
import Derived.Test.YtlfmmenlkpoodaaPJLoop
import Derived.Test.YtlfmmenlkpoodaaPJRef
import Derived.Test.YtlfmmenlkpoodaaC0
set_option linter.unusedVariables false
set_option linter.unusedSimpArgs false
set_option maxRecDepth 100000
namespace Go.Proofs.Ytlfmmenlkpoodaa.M
open Go.GW Go.Proofs
theorem alive_c : law33_alive.f_c = some true := by kernel_rfl
theorem alive_eq : law33_alive.f = some true := law33_alive.f_le _ alive_c

/-! ### Numbers that are not nought -/
theorem prod_ne {z w z' w' : Rat} (h : ¬ (z = 0 ∧ w = 0)) (h' : ¬ (z' = 0 ∧ w' = 0)) : ¬ (z * z' - w * w' = 0 ∧ z * w' + w * z' = 0) := by
  rintro ⟨h1, h2⟩
  have n1 := sq_ne h
  have n2 := sq_ne h'
  have e : (z * z + w * w) * (z' * z' + w' * w') = (z * z' - w * w') * (z * z' - w * w') + (z * w' + w * z') * (z * w' + w * z') := by grind
  rw [h1, h2] at e
  have : (z * z + w * w) * (z' * z' + w' * w') = 0 := by rw [e]; grind
  grind
def MQ.Reg (p : MQ) : Prop := ¬ (p.dr = 0 ∧ p.di = 0)
theorem MQ.Reg.mul {p q : MQ} (hp : p.Reg) (hq : q.Reg) : (p.mul q).Reg := by
  unfold MQ.Reg
  rw [(MQ.det_mul p q).1, (MQ.det_mul p q).2]
  exact prod_ne hp hq
theorem MQ.Reg.adj {p : MQ} (hp : p.Reg) : p.adj.Reg := by
  rintro ⟨h1, h2⟩
  apply hp
  simp only [MQ.adj, MQ.dr, MQ.di] at h1 h2 ⊢
  constructor <;> grind
theorem MQ.adj_adj (p : MQ) : p.adj.adj = p := by apply MQ.ext' <;> (simp only [MQ.adj] <;> grind)
theorem MQ.conj_tr {t x y : MQ} (ht : t.Reg) (h : y.mul t = t.mul x) : y.a0 + y.a3 = x.a0 + x.a3 ∧ y.b0 + y.b3 = x.b0 + x.b3 := by
  obtain ⟨i1, i2⟩ := MQ.mul_inv t ht
  have hy : y = (t.mul x).mul t.inv := by rw [← h, MQ.mul_assoc, i1, MQ.mul_one]
  have hx : t.inv.mul (t.mul x) = x := by rw [← MQ.mul_assoc, i2, MQ.one_mul]
  have := MQ.tr_comm (t.mul x) t.inv
  rw [← hy, hx] at this
  exact this
theorem MQ.conj_det {t x y : MQ} (ht : t.Reg) (h : y.mul t = t.mul x) : y.dr = x.dr ∧ y.di = x.di := by
  obtain ⟨i1, i2⟩ := MQ.mul_inv t ht
  have hy : y = (t.mul x).mul t.inv := by rw [← h, MQ.mul_assoc, i1, MQ.mul_one]
  have hx : t.inv.mul (t.mul x) = x := by rw [← MQ.mul_assoc, i2, MQ.one_mul]
  have d1 := MQ.det_mul (t.mul x) t.inv
  have d2 := MQ.det_mul t.inv (t.mul x)
  rw [← hy] at d1
  rw [hx] at d2
  obtain ⟨d11, d12⟩ := d1
  obtain ⟨d21, d22⟩ := d2
  rw [d11, d12, d21, d22]
  constructor <;> grind
/-- Between two matrices' inverses. -/
theorem MQ.between {c m b : MQ} (hc : c.Reg) (hm : m.Reg) (hb : b.Reg) : (b.mul ((c.mul m).mul b).inv).mul c = m.inv := by
  obtain ⟨p1, _⟩ := MQ.mul_inv ((c.mul m).mul b) ((hc.mul hm).mul hb)
  obtain ⟨_, c2⟩ := MQ.mul_inv c hc
  obtain ⟨_, m2⟩ := MQ.mul_inv m hm
  generalize ((c.mul m).mul b).inv = p at *
  have h1 : m.mul ((b.mul p).mul c) = MQ.one := by
    have e : m.mul ((b.mul p).mul c) = (c.inv.mul c).mul (m.mul ((b.mul p).mul c)) := by rw [c2, MQ.one_mul]
    have e2 : (c.inv.mul c).mul (m.mul ((b.mul p).mul c)) = (c.inv.mul (((c.mul m).mul b).mul p)).mul c := by simp only [MQ.mul_assoc]
    rw [e, e2, p1, MQ.mul_one, c2]
  have h2 : (b.mul p).mul c = (m.inv.mul m).mul ((b.mul p).mul c) := by rw [m2, MQ.one_mul]
  rw [h2, MQ.mul_assoc, h1, MQ.mul_one]
theorem MQ.loop {a b c d ab cb cd ad : MQ} (ha : a.Reg) (hb : b.Reg) (hc : c.Reg) (hd : d.Reg) (hcb : cb.Reg) (had : ad.Reg) :
    (((((a.mul ab).mul b.adj).mul ((c.mul cb).mul b.adj).inv).mul ((c.mul cd).mul d.adj)).mul ((a.mul ad).mul d.adj).inv).mul a = a.mul (((ab.mul cb.inv).mul cd).mul ad.inv) := by
  have k1 := MQ.between hc hcb hb.adj
  have k2 := MQ.between ha had hd.adj
  generalize ((c.mul cb).mul b.adj).inv = p at *
  generalize ((a.mul ad).mul d.adj).inv = q at *
  rw [← k1, ← k2]
  simp only [MQ.mul_assoc]

/-! ### What is got after acting -/
theorem gotP_act {t : List (A4 Cx)} {p r : Pol} (hr : RA t p r) (hv : valJ p.V = true) {i j : Int} {v : A4 Cx} (h : gotP p i j = some v) : ∃ v', gotP r i j = some v' ∧ valJ v = true ∧ IsJ v' (((mq (ix t i)).mul (mq v)).mul (mq (ix t j)).adj) := by
  obtain ⟨e1, e2, e3, e4⟩ := hr
  unfold gotP at h ⊢
  rw [e1, e2]
  by_cases h1 : p.I = i ∧ p.J = j
  · rw [if_pos h1] at h ⊢
    injection h with h
    subst h
    obtain ⟨rfl, rfl⟩ := h1
    exact ⟨_, rfl, hv, e4⟩
  · rw [if_neg h1] at h ⊢
    by_cases h2 : p.I = j ∧ p.J = i
    · rw [if_pos h2] at h ⊢
      injection h with h
      subst h
      obtain ⟨rfl, rfl⟩ := h2
      refine ⟨_, rfl, (adjv_is (IsJ.of hv)).valid, (adjv_is e4).to ?_⟩
      rw [(adjv_is (IsJ.of hv)).mq_eq, MQ.adj_mul, MQ.adj_mul, MQ.adj_adj, MQ.mul_assoc]
    · rw [if_neg h2] at h; cases h
theorem gotP_none {t : List (A4 Cx)} {p r : Pol} (hr : RA t p r) {i j : Int} (h : gotP p i j = none) : gotP r i j = none := by
  obtain ⟨e1, e2, e3, e4⟩ := hr
  unfold gotP at h ⊢
  rw [e1, e2]
  by_cases h1 : p.I = i ∧ p.J = j
  · rw [if_pos h1] at h; cases h
  · rw [if_neg h1] at h ⊢
    by_cases h2 : p.I = j ∧ p.J = i
    · rw [if_pos h2] at h; cases h
    · rw [if_neg h2]
theorem got_act {t : List (A4 Cx)} {i j : Int} : ∀ {l m : List Pol}, All2 (RA t) l m → (∀ p ∈ l, valJ p.V = true) → ∀ {v}, got l i j = some v → ∃ v', got m i j = some v' ∧ valJ v = true ∧ IsJ v' (((mq (ix t i)).mul (mq v)).mul (mq (ix t j)).adj)
  | [], _, _, _, v, h => by simp [got] at h
  | p :: l, [], h, _, _, _ => h.elim
  | p :: l, r :: m, h, hv, v, hg => by
    unfold got at hg ⊢
    rw [List.findSome?_cons] at hg ⊢
    cases hp : gotP p i j with
    | some u =>
      rw [hp] at hg
      injection hg with hg
      subst hg
      obtain ⟨v', h1, h2⟩ := gotP_act h.1 (hv p (by simp)) hp
      rw [h1]
      exact ⟨v', rfl, h2⟩
    | none =>
      rw [hp] at hg
      rw [gotP_none h.1 hp]
      exact got_act h.2 (fun q hq => hv q (by simp [hq])) hg
theorem apart_act {t : List (A4 Cx)} : ∀ {l m : List Pol}, All2 (RA t) l m → Apart l → Apart m
  | [], [], _, _ => .nil
  | p :: l, [], h, _ => h.elim
  | [], r :: m, h, _ => h.elim
  | p :: l, r :: m, h, ha => by
    unfold Apart at ha ⊢
    rw [List.pairwise_cons] at ha ⊢
    refine ⟨fun q hq hs => ?_, apart_act h.2 ha.2⟩
    have hmem : ∀ {l m : List Pol}, All2 (RA t) l m → ∀ q ∈ m, ∃ p ∈ l, RA t p q := by
      intro l
      induction l with
      | nil => intro m h q hq; cases m with
        | nil => cases hq
        | cons _ _ => exact h.elim
      | cons a l ih => intro m h q hq; cases m with
        | nil => cases hq
        | cons b m =>
          rcases List.mem_cons.1 hq with rfl | hq
          · exact ⟨a, by simp, h.1⟩
          · obtain ⟨p, h1, h2⟩ := ih h.2 q hq
            exact ⟨p, by simp [h1], h2⟩
    obtain ⟨p', hp', hr'⟩ := hmem h.2 q hq
    refine ha.1 p' hp' ?_
    unfold sameP at hs ⊢
    rw [← hr'.1, ← hr'.2.1, ← h.1.1, ← h.1.2.1]
    exact hs
theorem seen_act {t : List (A4 Cx)} {l m : List Pol} {n : Int} (h : All2 (RA t) l m) (hl : seenS l n = 0) : seenS m n = 0 := by
  obtain ⟨l1, l2⟩ := seen_ok hl
  unfold seenS
  rw [if_neg (by rw [h.length]; omega), if_neg]
  rw [Bool.not_eq_true, List.any_eq_false]
  have hmem : ∀ {l m : List Pol}, All2 (RA t) l m → ∀ q ∈ m, ∃ p ∈ l, RA t p q := by
    intro l
    induction l with
    | nil => intro m h q hq; cases m with
      | nil => cases hq
      | cons _ _ => exact h.elim
    | cons a l ih => intro m h q hq; cases m with
      | nil => cases hq
      | cons b m =>
        rcases List.mem_cons.1 hq with rfl | hq
        · exact ⟨a, by simp, h.1⟩
        · obtain ⟨p, h1, h2⟩ := ih h.2 q hq
          exact ⟨p, by simp [h1], h2⟩
  intro q hq
  obtain ⟨p, hp, e1, e2, e3, e4⟩ := hmem h q hq
  have := l2 p hp
  unfold badPB
  simp only [decide_eq_true_eq]
  unfold badP at this ⊢
  rw [e1, e2, e3, e4.valid]
  simp only [not_or] at this ⊢
  exact ⟨this.1, this.2.1, this.2.2.1, this.2.2.2.1, by decide⟩

/-! ### The loop's worth -/
theorem prod4_is {x y z w : A4 Cx} {p q r s : MQ} (hx : IsJ x p) (hy : IsJ y q) (hz : IsJ z r) (hw : IsJ w s) : ((prodL x [y, z, w]).2 = 0 ∧ IsJ (prodL x [y, z, w]).1 (((p.mul q).mul r).mul s)) ∨ (prodL x [y, z, w]).2 = 16 := by
  simp only [prodL]
  rcases mulJ_cases hx.valid hy.valid with h1 | h1
  · have i1 := mulJ_is hx hy h1
    rw [if_pos h1]
    rcases mulJ_cases i1.valid hz.valid with h2 | h2
    · have i2 := mulJ_is i1 hz h2
      rw [if_pos h2]
      rcases mulJ_cases i2.valid hw.valid with h3 | h3
      · rw [if_pos h3]; exact .inl ⟨rfl, mulJ_is i2 hw h3⟩
      · rw [h3]; exact .inr rfl
    · rw [h2]; exact .inr rfl
  · rw [h1]; exact .inr rfl
theorem inv_reg {a : A4 Cx} {p : MQ} (ha : IsJ a p) (hp : p.Reg) : (invS a).2 = 0 ∨ (invS a).2 = 16 := by
  rcases inv_cases ha.valid with ⟨_, _, h | h⟩ | ⟨h1, h2, h3⟩ | ⟨_, h⟩
  · exact .inl h
  · rw [h]; exact .inr rfl
  · exfalso
    have hd := detS_is ha h1
    apply h2
    apply nz_of
    rw [hd.re, hd.im]
    exact hp
  · rw [h]; exact .inr rfl
theorem tab_reg {t : List (A4 Cx)} (h : tabS t = 0) : ∀ a ∈ t, (mq a).Reg := by
  obtain ⟨h1, h2, h3⟩ := tab_ok h
  unfold tabS at h
  rw [if_neg (by omega), if_neg (by
    rintro (hc | hc)
    · omega
    · obtain ⟨a, ha, hav⟩ := List.any_eq_true.1 hc
      rw [h3 a ha] at hav; cases hav)] at h
  intro a ha
  have hv := h3 a ha
  have hn : detT a = none := by
    cases hf : t.findSome? detT with
    | none => rw [List.findSome?_eq_none_iff] at hf; exact hf a ha
    | some v =>
      rw [hf] at h
      obtain ⟨b, hb, h2⟩ := List.exists_of_findSome?_eq_some hf
      simp at h
      subst h
      unfold detT at h2
      split at h2
      · rename_i hne
        injection h2 with h2
        exact absurd h2 hne
      · split at h2
        · cases h2
        · injection h2 with h2; omega
  unfold detT at hn
  by_cases hd : (detS a).2 ≠ 0
  · rw [if_pos hd] at hn; cases hn
  · rw [if_neg hd] at hn
    have hd' : (detS a).2 = 0 := Classical.not_not.1 hd
    by_cases hz : nz (detS a).1
    · have hi := detS_is (IsJ.of hv) hd'
      have := nz_val hi.good hz
      rw [hi.re, hi.im] at this
      exact this
    · rw [if_neg hz] at hn; cases hn
section
variable {t : List (A4 Cx)} {l : List Pol} {a b c d : Int}
theorem loop_law (ht : tabS t = 0) (h8 : t.length = 8) (hl : seenS l 8 = 0) (hap : Apart l) (hF : Four a b c d) (hact : (actS t l).2 = 0) (hx : (loopS l a b c d).2 = 0) :
    (loopS (actS t l).1 a b c d).2 = 16 ∨ ((loopS (actS t l).1 a b c d).2 = 0 ∧ ∃ X Y : MQ, IsJ (loopS l a b c d).1 X ∧ IsJ (loopS (actS t l).1 a b c d).1 Y ∧ Y.mul (mq (ix t a)) = (mq (ix t a)).mul X) := by
  obtain ⟨_, hseen, hall⟩ := actS_ok hact
  obtain ⟨l1, l2⟩ := seen_ok hl
  have hval : ∀ p ∈ l, valJ p.V = true := fun p hp => by
    have := l2 p hp; unfold badP at this; simp only [not_or, Bool.not_eq_false] at this; exact this.2.2.2.2
  have hreg := tab_reg ht
  obtain ⟨⟨fa1, fa2⟩, ⟨fb1, fb2⟩, ⟨fc1, fc2⟩, ⟨fd1, fd2⟩, _⟩ := id hF
  have ra : (mq (ix t a)).Reg := hreg _ (ix_mem (by omega) (by omega))
  have rb : (mq (ix t b)).Reg := hreg _ (ix_mem (by omega) (by omega))
  have rc : (mq (ix t c)).Reg := hreg _ (ix_mem (by omega) (by omega))
  have rd : (mq (ix t d)).Reg := hreg _ (ix_mem (by omega) (by omega))
  unfold loopS at hx ⊢
  rw [if_pos hl, if_pos hap, if_pos hF] at hx ⊢
  rw [if_pos (seen_act hall hl), if_pos (apart_act hall hap), if_pos hF]
  unfold loopG at hx ⊢
  cases g1 : got l a b with
  | none => rw [g1] at hx; simp at hx
  | some ab =>
    cases g2 : got l c b with
    | none => rw [g1, g2] at hx; simp at hx
    | some cb =>
      cases g3 : got l c d with
      | none => rw [g1, g2, g3] at hx; simp at hx
      | some cd =>
        cases g4 : got l a d with
        | none => rw [g1, g2, g3, g4] at hx; simp at hx
        | some ad =>
          obtain ⟨ab', e1, v1, i1⟩ := got_act hall hval g1
          obtain ⟨cb', e2, v2, i2⟩ := got_act hall hval g2
          obtain ⟨cd', e3, v3, i3⟩ := got_act hall hval g3
          obtain ⟨ad', e4, v4, i4⟩ := got_act hall hval g4
          rw [g1, g2, g3, g4] at hx
          rw [e1, e2, e3, e4]
          simp only at hx ⊢
          unfold loopV at hx ⊢
          by_cases c1 : (invS cb).2 = 0
          · rw [if_pos c1] at hx ⊢
            by_cases c2 : (invS ad).2 = 0
            · rw [if_pos c2] at hx ⊢
              obtain ⟨j1, n1⟩ := inv_is (IsJ.of v2) c1
              obtain ⟨j2, n2⟩ := inv_is (IsJ.of v4) c2
              have r1 : (((mq (ix t c)).mul (mq cb)).mul (mq (ix t b)).adj).Reg := (rc.mul n1).mul rb.adj
              have r2 : (((mq (ix t a)).mul (mq ad)).mul (mq (ix t d)).adj).Reg := (ra.mul n2).mul rd.adj
              rcases inv_reg i2 r1 with d1 | d1
              · rw [if_pos d1]
                rcases inv_reg i4 r2 with d2 | d2
                · rw [if_pos d2]
                  obtain ⟨k1, _⟩ := inv_is i2 d1
                  obtain ⟨k2, _⟩ := inv_is i4 d2
                  rcases prod4_is (IsJ.of v1) j1 (IsJ.of v3) j2 with ⟨_, o1⟩ | o1
                  · rcases prod4_is i1 k1 i3 k2 with ⟨o2, o3⟩ | o2
                    · exact .inr ⟨o2, _, _, o1, o3, MQ.loop ra rb rc rd n1 n2⟩
                    · exact .inl o2
                  · rw [o1] at hx; omega
                · rw [if_neg (by omega)]; exact .inl d2
              · rw [if_neg (by omega)]; exact .inl d1
            · rw [if_neg c2] at hx; exact absurd hx c2
          · rw [if_neg c1] at hx; exact absurd hx c1
theorem k3_ok {x y : A4 Cx} {X Y : MQ} {e f : Int} (ht : tabS t = 0) (ha : 0 ≤ a) (ha' : a < t.length) (hX : IsJ x X) (hY : IsJ y Y) (h : Y.mul (mq (ix t a)) = (mq (ix t a)).mul X) : law33_JonesLoops.k3 t a true (x, e) (y, f) false = some true := by
  have hT := IsJ.of ((tab_ok ht).2.2 _ (ix_mem (xs := t) ha (by omega)))
  unfold law33_JonesLoops.k3 law33_JonesLoops.k4 law33_JonesLoops.k5
  rw [if_neg (by decide), if_pos ⟨ha, ha'⟩, jones_mul_eq, Option.bind_some, if_pos ⟨ha, ha'⟩, jones_mul_eq, Option.bind_some, if_pos rfl]
  by_cases c1 : (mulJ y (ix t a)).2 = 0
  · rw [if_neg (by simp [c1])]
    by_cases c2 : (mulJ (ix t a) x).2 = 0
    · rw [if_neg (by simp [c2])]
      have : (mulJ y (ix t a)).1 = (mulJ (ix t a) x).1 := ((mulJ_is hY hT c1).to h).uniq (mulJ_is hT hX c2)
      rw [this]; simp
    · rw [if_pos (by simp [c2])]
  · rw [if_pos (by simp [c1])]
theorem k2_ok (ht : tabS t = 0) (h8 : t.length = 8) (hl : seenS l 8 = 0) (hap : Apart l) (hF : Four a b c d) (hact : (actS t l).2 = 0) (hx : (loopS l a b c d).2 = 0) :
    law33_JonesLoops.k2 t a b c d true (actS t l) (loopS l a b c d) false = some true := by
  unfold law33_JonesLoops.k2
  rw [if_neg (by decide), jones_loop_eq, Option.bind_some]
  rcases loop_law ht h8 hl hap hF hact hx with hy | ⟨hy, X, Y, iX, iY, hXY⟩
  · rw [if_pos (by simp [hy]), if_pos rfl, hy]; rfl
  · rw [if_neg (by simp [hy]), jones_tr_eq, Option.bind_some, jones_tr_eq, Option.bind_some, jones_det_eq, Option.bind_some, jones_det_eq, Option.bind_some]
    obtain ⟨⟨fa1, fa2⟩, _⟩ := id hF
    have ra : (mq (ix t a)).Reg := tab_reg ht _ (ix_mem (by omega) (by omega))
    have hk : law33_JonesLoops.k3 t a true (loopS l a b c d) (loopS (actS t l).1 a b c d) false = some true := k3_ok ht fa1 (by omega) iX iY hXY
    obtain ⟨q1, q2⟩ := MQ.conj_tr ra hXY
    obtain ⟨q3, q4⟩ := MQ.conj_det ra hXY
    have e1 : (trS (loopS l a b c d).1).2 = 0 → (trS (loopS (actS t l).1 a b c d).1).2 = 0 → (trS (loopS l a b c d).1).1 = (trS (loopS (actS t l).1 a b c d).1).1 := fun h1 h2 => (trS_is iX h1).uniq ((trS_is iY h2).to q1 q2)
    have e2 : (detS (loopS l a b c d).1).2 = 0 → (detS (loopS (actS t l).1 a b c d).1).2 = 0 → (detS (loopS l a b c d).1).1 = (detS (loopS (actS t l).1 a b c d).1).1 := fun h1 h2 => (detS_is iX h1).uniq ((detS_is iY h2).to q3 q4)
    generalize trS (loopS l a b c d).1 = t1 at *
    generalize trS (loopS (actS t l).1 a b c d).1 = t2 at *
    generalize detS (loopS l a b c d).1 = d1 at *
    generalize detS (loopS (actS t l).1 a b c d).1 = d2 at *
    have hdd : (if (decide (d1.2 = 0)) = true then (if (decide (d2.2 = 0)) = true then law33_JonesLoops.k3 t a true (loopS l a b c d) (loopS (actS t l).1 a b c d) (!decide (d1.1 = d2.1)) else law33_JonesLoops.k3 t a true (loopS l a b c d) (loopS (actS t l).1 a b c d) false) else law33_JonesLoops.k3 t a true (loopS l a b c d) (loopS (actS t l).1 a b c d) false) = some true := by
      by_cases c1 : d1.2 = 0
      · by_cases c2 : d2.2 = 0
        · rw [if_pos (by simpa using c1), if_pos (by simpa using c2), show (!decide (d1.1 = d2.1)) = false by simp [e2 c1 c2]]; exact hk
        · rw [if_pos (by simpa using c1), if_neg (by simpa using c2)]; exact hk
      · rw [if_neg (by simpa using c1)]; exact hk
    by_cases c1 : t1.2 = 0
    · by_cases c2 : t2.2 = 0
      · rw [if_pos (by simpa using c1), if_pos (by simpa using c2), if_neg (by simp [e1 c1 c2])]; exact hdd
      · rw [if_pos (by simpa using c1), if_neg (by simpa using c2)]; exact hdd
    · rw [if_neg (by simpa using c1)]; exact hdd
theorem k1_ok (ht : tabS t = 0) (h8 : t.length = 8) (hl : seenS l 8 = 0) (hap : Apart l) (hF : Four a b c d) : law33_JonesLoops.k1 t l a b c d true false = some true := by
  have hk : ∀ x y, law33_JonesLoops.k2 t a b c d true x y true = some true := fun x y => by unfold law33_JonesLoops.k2; rw [if_pos rfl]
  unfold law33_JonesLoops.k1
  rw [if_neg (by decide), jones_act_eq, Option.bind_some, jones_loop_eq, Option.bind_some]
  by_cases hact : (actS t l).2 = 0
  · rw [if_neg (by simp [hact])]
    by_cases hx : (loopS l a b c d).2 = 0
    · rw [show (!decide ((loopS l a b c d).2 = 0)) = false by simp [hx]]
      exact k2_ok ht h8 hl hap hF hact hx
    · rw [show (!decide ((loopS l a b c d).2 = 0)) = true by simp [hx]]; exact hk _ _
  · rw [if_pos (by simp [hact])]; exact hk _ _
end
theorem jonesLoops_law (x0 : (List (A4 Cx))) (k0 : ∀ y ∈ x0, (ok_Cx y.e0) ∧ (ok_Cx y.e1) ∧ (ok_Cx y.e2) ∧ (ok_Cx y.e3)) (x1 : (List Pol)) (k1 : ∀ y ∈ x1, ok_Pol y) (x2 : Int) (k2 : okInt .i64 x2) (x3 : Int) (k3 : okInt .i64 x3) (x4 : Int) (k4 : okInt .i64 x4) (x5 : Int) (k5 : okInt .i64 x5) : law33_JonesLoops.f x0 x1 x2 x3 x4 x5 = some true := by
  have hk : law33_JonesLoops.k1 x0 x1 x2 x3 x4 x5 true true = some true := by
    unfold law33_JonesLoops.k1
    rw [if_pos rfl]
  unfold law33_JonesLoops.f
  rw [alive_eq, Option.bind_some, ref_table_eq, Option.bind_some, ref_check_lp, Option.bind_some, ref_four_eq, Option.bind_some]
  by_cases hs : tabS x0 = 0
  · rw [if_neg (by simp [hs])]
    by_cases h8 : x0.length = 8
    · rw [if_neg (by simp [h8])]
      by_cases hl : seenS x1 8 = 0
      · rw [if_pos hl]
        by_cases hap : Apart x1
        · rw [if_pos hap, if_neg (by decide)]
          by_cases hF : Four x2 x3 x4 x5
          · rw [if_neg (by simp [hF])]; exact k1_ok hs h8 hl hap hF
          · rw [if_pos (by simp [hF])]; exact hk
        · rw [if_neg hap, if_pos (by decide)]; exact hk
      · rw [if_neg hl, if_pos (by simp [hl])]; exact hk
    · rw [if_pos (by simp; omega)]; exact hk
  · rw [if_pos (by simp [hs])]; exact hk
end Go.Proofs.Ytlfmmenlkpoodaa.M
