/- The plain law of JonesGroup: acting by two tables one after the other is acting by their products, and acting by the inverses gives the coherencies again. -/
import Derived.Test.YtlfmmenlkpoodaaPJAct
import Derived.Test.YtlfmmenlkpoodaaC0
set_option linter.unusedVariables false
set_option linter.unusedSimpArgs false
set_option maxRecDepth 100000
namespace Go.Proofs.Ytlfmmenlkpoodaa.M
open Go.GW Go.Proofs
theorem alive_c : law33_alive.f_c = some true := by kernel_rfl
theorem alive_eq : law33_alive.f = some true := law33_alive.f_le _ alive_c
abbrev GB := List (A4 Cx) × List (A4 Cx) × Bool × Bool
noncomputable def gG (b : GB) (x : A4 Cx × A4 Cx) : GB := (b.1 ++ [(mulJ x.2 x.1).1], b.2.1 ++ [(invS x.1).1], b.2.2.1 && decide ((mulJ x.2 x.1).2 = 0), b.2.2.2 && decide ((invS x.1).2 = 0))
theorem gG_fold : ∀ (xs : List (A4 Cx × A4 Cx)) (b : GB), xs.foldl gG b = (b.1 ++ xs.map (fun x => (mulJ x.2 x.1).1), b.2.1 ++ xs.map (fun x => (invS x.1).1), b.2.2.1 && xs.all (fun x => decide ((mulJ x.2 x.1).2 = 0)), b.2.2.2 && xs.all (fun x => decide ((invS x.1).2 = 0)))
  | [], b => by simp
  | x :: xs, b => by
    rw [List.foldl_cons, gG_fold xs]
    simp [gG, Bool.and_assoc]
theorem jg_step (s t : List (A4 Cx)) (hst : s.length = t.length) (b : GB) (i : Nat) (hi : i < (s.zip t).length) (h8 : s.length ≤ 8) (hb : b.1.length = i ∧ b.2.1.length = i) :
    law33_JonesGroup.s20 s t b.1 b.2.1 b.2.2.1 b.2.2.2 (i : Int) = some (.next ((gG b (s.zip t)[i]).1, (gG b (s.zip t)[i]).2.1, (gG b (s.zip t)[i]).2.2.1, (gG b (s.zip t)[i]).2.2.2, (i : Int) + 1)) := by
  have hl : (s.zip t).length = s.length := by rw [List.length_zip]; omega
  have his : i < s.length := by omega
  have hit : i < t.length := by omega
  obtain ⟨b1, b2, b3, b4⟩ := b
  simp only at hb
  unfold law33_JonesGroup.s20
  rw [if_pos (by simp; omega), if_pos (by omega), if_pos (by omega), jones_mul_eq, Option.bind_some]
  unfold law33_JonesGroup.k29
  rw [if_pos (by omega), jones_inv_eq, Option.bind_some, ix_at his, ix_at hit]
  simp only [List.getElem_zip, gG]
  generalize mulJ t[i] s[i] = m
  generalize invS s[i] = n
  cases b3 <;> cases b4 <;> (simp only [if_true, Bool.false_eq_true, if_false, Bool.true_and, Bool.false_and]; unfold law33_JonesGroup.k30; rw [if_pos (by simp; omega), if_pos (by simp; omega)]; unfold law33_JonesGroup.k28; rw [w64_succ (by omega)])
theorem jg_loop (s t : List (A4 Cx)) (hst : s.length = t.length) (h8 : s.length ≤ 8) :
    iter (fun (x : ((List (A4 Cx)) × (List (A4 Cx)) × Bool × Bool × Int)) => law33_JonesGroup.s20 s t x.1 x.2.1 x.2.2.1 x.2.2.2.1 x.2.2.2.2) ([], [], true, true, 0) =
      some (.brk ((s.zip t).map (fun x => (mulJ x.2 x.1).1), (s.zip t).map (fun x => (invS x.1).1), (s.zip t).all (fun x => decide ((mulJ x.2 x.1).2 = 0)), (s.zip t).all (fun x => decide ((invS x.1).2 = 0)))) := by
  have hl : (s.zip t).length = s.length := by rw [List.length_zip]; omega
  have h := iter_foldl (β := GB) (r := Bool) (s.zip t) (fun b i => (b.1, b.2.1, b.2.2.1, b.2.2.2, i)) (f := fun (x : ((List (A4 Cx)) × (List (A4 Cx)) × Bool × Bool × Int)) => law33_JonesGroup.s20 s t x.1 x.2.1 x.2.2.1 x.2.2.2.1 x.2.2.2.2) gG (fun b => b) (fun i b => b.1.length = i ∧ b.2.1.length = i) ([], [], true, true) ⟨rfl, rfl⟩
    (fun b i hi hb => ⟨jg_step s t hst b i hi h8 hb, by simp [gG, hb]⟩)
    (fun b hb => by
      show law33_JonesGroup.s20 s t _ _ _ _ _ = _
      unfold law33_JonesGroup.s20
      rw [if_neg (by simp [hl])])
  rw [gG_fold] at h
  simpa using h
theorem All2.eq3 {α β γ : Type} {R : α → β → Prop} {S : β → γ → Prop} {T : α → γ → Prop} : ∀ {l : List α} {p : List β} {q r : List γ}, (∀ x ∈ l, ∀ y z w, R x y → S y z → T x w → z = w) → All2 R l p → All2 S p q → All2 T l r → q = r
  | [], [], [], [], _, _, _, _ => rfl
  | x :: l, y :: p, z :: q, w :: r, h, h1, h2, h3 => by
    rw [h x (by simp) y z w h1.1 h2.1 h3.1, All2.eq3 (fun x hx => h x (by simp [hx])) h1.2 h2.2 h3.2]
  | [], [], [], _ :: _, _, _, _, h3 => h3.elim
  | [], [], _ :: _, _, _, _, h2, _ => h2.elim
  | [], _ :: _, _, _, _, h1, _, _ => h1.elim
  | _ :: _, [], _, _, _, h1, _, _ => h1.elim
  | _ :: _, _ :: _, [], _, _, _, h2, _ => h2.elim
  | _ :: _, _ :: _, _ :: _, [], _, _, _, h3 => h3.elim
theorem All2.eq2 {α β : Type} {R : α → β → Prop} {S : β → α → Prop} : ∀ {l : List α} {p : List β} {q : List α}, (∀ x ∈ l, ∀ y z, R x y → S y z → z = x) → All2 R l p → All2 S p q → q = l
  | [], [], [], _, _, _ => rfl
  | x :: l, y :: p, z :: q, h, h1, h2 => by
    rw [h x (by simp) y z h1.1 h2.1, All2.eq2 (fun x hx => h x (by simp [hx])) h1.2 h2.2]
  | [], [], _ :: _, _, _, h2 => h2.elim
  | [], _ :: _, _, _, h1, _ => h1.elim
  | _ :: _, [], _, _, h1, _ => h1.elim
  | _ :: _, _ :: _, [], _, _, h2 => h2.elim
theorem ix_nat {α : Type} [Inhabited α] {xs : List α} {i : Int} (h0 : 0 ≤ i) (h1 : i.toNat < xs.length) : ix xs i = xs[i.toNat] := by
  obtain ⟨n, rfl⟩ := Int.eq_ofNat_of_zero_le h0
  exact ix_at h1
theorem pol_ext {a b : Pol} (h1 : a.I = b.I) (h2 : a.J = b.J) (h3 : a.N = b.N) (h4 : a.V = b.V) : a = b := by cases a; cases b; simp_all
theorem pull (S S' T T' X : MQ) : (T.mul ((S.mul X).mul S'.adj)).mul T'.adj = ((T.mul S).mul X).mul (T'.mul S').adj := by
  rw [MQ.adj_mul]
  simp only [MQ.mul_assoc]
theorem unpull {S S' T T' : MQ} (X : MQ) (h : T.mul S = MQ.one) (h' : T'.mul S' = MQ.one) : (T.mul ((S.mul X).mul S'.adj)).mul T'.adj = X := by
  rw [pull, h, h', MQ.one_mul]
  have : MQ.one.adj = MQ.one := by apply MQ.ext' <;> simp [MQ.adj, MQ.one]
  rw [this, MQ.mul_one]
section
variable {s t : List (A4 Cx)} {l : List Pol}
theorem jg_both (hst : s.length = t.length) (hs : ∀ a ∈ s, valJ a = true) (ht : ∀ a ∈ t, valJ a = true) (hall : (s.zip t).all (fun x => decide ((mulJ x.2 x.1).2 = 0)) = true) {i : Int} (h0 : 0 ≤ i) (h1 : i < s.length) :
    mq (ix ((s.zip t).map (fun x => (mulJ x.2 x.1).1)) i) = (mq (ix t i)).mul (mq (ix s i)) := by
  have hl : (s.zip t).length = s.length := by rw [List.length_zip]; omega
  rw [ix_nat h0 (by simp; omega), ix_nat h0 (by omega), ix_nat (xs := s) h0 (by omega), List.getElem_map, List.getElem_zip]
  have hm := List.all_eq_true.1 hall (s[i.toNat]'(by omega), t[i.toNat]'(by omega)) (by
    have : (s.zip t)[i.toNat]'(by omega) = (s[i.toNat]'(by omega), t[i.toNat]'(by omega)) := List.getElem_zip
    rw [← this]; exact List.getElem_mem _)
  simp only [decide_eq_true_eq] at hm
  exact (mulJ_is (IsJ.of (ht _ (List.getElem_mem _))) (IsJ.of (hs _ (List.getElem_mem _))) hm).mq_eq
theorem jg_back (hst : s.length = t.length) (hs : ∀ a ∈ s, valJ a = true) (hall : (s.zip t).all (fun x => decide ((invS x.1).2 = 0)) = true) {i : Int} (h0 : 0 ≤ i) (h1 : i < s.length) :
    (mq (ix ((s.zip t).map (fun x => (invS x.1).1)) i)).mul (mq (ix s i)) = MQ.one := by
  have hl : (s.zip t).length = s.length := by rw [List.length_zip]; omega
  rw [ix_nat h0 (by simp; omega), ix_nat (xs := s) h0 (by omega), List.getElem_map, List.getElem_zip]
  have hm := List.all_eq_true.1 hall (s[i.toNat]'(by omega), t[i.toNat]'(by omega)) (by
    have : (s.zip t)[i.toNat]'(by omega) = (s[i.toNat]'(by omega), t[i.toNat]'(by omega)) := List.getElem_zip
    rw [← this]; exact List.getElem_mem _)
  simp only [decide_eq_true_eq] at hm
  obtain ⟨h2, h3⟩ := inv_is (IsJ.of (hs _ (List.getElem_mem _))) hm
  rw [h2.mq_eq]
  exact (MQ.mul_inv _ h3).2
theorem k23_ok (hst : s.length = t.length) (hs : tabS s = 0) (hl : seenS l s.length = 0) (hp : (actS s l).2 = 0) :
    law33_JonesGroup.k23 l true (actS s l) ((s.zip t).map (fun x => (invS x.1).1)) ((s.zip t).all (fun x => decide ((invS x.1).2 = 0))) = some true := by
  unfold law33_JonesGroup.k23
  cases hall : (s.zip t).all (fun x => decide ((invS x.1).2 = 0)) with
  | false => rw [if_neg (by decide)]
  | true =>
    rw [if_pos rfl, jones_act_eq, Option.bind_some]
    by_cases hc : (actS ((s.zip t).map (fun x => (invS x.1).1)) (actS s l).1).2 = 0
    · obtain ⟨_, _, p1⟩ := actS_ok hp
      obtain ⟨_, _, p2⟩ := actS_ok hc
      have hq : (actS ((s.zip t).map (fun x => (invS x.1).1)) (actS s l).1).1 = l := by
        refine All2.eq2 (fun x hx y z r1 r2 => ?_) p1 p2
        have hg := (seen_ok hl).2 x hx
        unfold badP at hg
        simp only [not_or, Bool.not_eq_false] at hg
        obtain ⟨a1, a2, a3, a4⟩ := r1
        obtain ⟨b1, b2, b3, b4⟩ := r2
        refine pol_ext (b1.trans a1) (b2.trans a2) (b3.trans a3) ?_
        rw [a1, a2, a4.mq_eq] at b4
        have u1 := jg_back hst (tab_ok hs).2.2 hall (i := x.I) (by omega) (by omega)
        have u2 := jg_back hst (tab_ok hs).2.2 hall (i := x.J) (by omega) (by omega)
        rw [unpull _ u1 u2] at b4
        exact b4.uniq (IsJ.of hg.2.2.2.2)
      rw [if_pos (by simpa using hc), hq, same_refl l (by have := (seen_ok hl).1; omega), Option.bind_some, if_neg (by decide)]
      rfl
    · rw [if_neg (by simpa using hc)]; rfl
theorem k25_ok (hst : s.length = t.length) (hs : tabS s = 0) (hl : seenS l s.length = 0) (hp : (actS s l).2 = 0) :
    law33_JonesGroup.k25 l true (actS s l) ((s.zip t).map (fun x => (invS x.1).1)) ((s.zip t).all (fun x => decide ((invS x.1).2 = 0))) false = some true := by
  unfold law33_JonesGroup.k25
  rw [if_neg (by decide)]; exact k23_ok hst hs hl hp
theorem k1_ok (hst : s.length = t.length) (hs : tabS s = 0) (ht : tabS t = 0) (hl : seenS l s.length = 0) : law33_JonesGroup.k1 s t l true false = some true := by
  unfold law33_JonesGroup.k1
  rw [if_neg (by decide), jones_act_eq, Option.bind_some]
  rcases actS_code hs hl with hp | hp
  · rw [if_neg (by simp [hp]), jg_loop s t hst (tab_ok hs).1, Option.bind_some]
    show law33_JonesGroup.k21 t l true (actS s l) _ _ _ _ = _
    unfold law33_JonesGroup.k21
    cases hall : (s.zip t).all (fun x => decide ((mulJ x.2 x.1).2 = 0)) with
    | false => rw [if_neg (by simp)]; exact k23_ok hst hs hl hp
    | true =>
      rw [if_pos rfl, jones_act_eq, Option.bind_some, jones_act_eq, Option.bind_some]
      by_cases hc : (actS t (actS s l).1).2 = 0
      · by_cases hd : (actS ((s.zip t).map (fun x => (mulJ x.2 x.1).1)) l).2 = 0
        · rw [if_pos (by simpa using hc), if_pos (by simpa using hd)]
          obtain ⟨_, _, p1⟩ := actS_ok hp
          obtain ⟨_, _, p2⟩ := actS_ok hc
          obtain ⟨_, _, p3⟩ := actS_ok hd
          have hq : (actS t (actS s l).1).1 = (actS ((s.zip t).map (fun x => (mulJ x.2 x.1).1)) l).1 := by
            refine All2.eq3 (fun x hx y z w r1 r2 r3 => ?_) p1 p2 p3
            have hg := (seen_ok hl).2 x hx
            unfold badP at hg
            simp only [not_or, Bool.not_eq_false] at hg
            obtain ⟨a1, a2, a3, a4⟩ := r1
            obtain ⟨b1, b2, b3, b4⟩ := r2
            obtain ⟨c1, c2, c3, c4⟩ := r3
            refine pol_ext (b1.trans (a1.trans c1.symm)) (b2.trans (a2.trans c2.symm)) (b3.trans (a3.trans c3.symm)) ?_
            rw [a1, a2, a4.mq_eq, pull] at b4
            rw [jg_both hst (tab_ok hs).2.2 (tab_ok ht).2.2 hall (i := x.I) (by omega) (by omega), jg_both hst (tab_ok hs).2.2 (tab_ok ht).2.2 hall (i := x.J) (by omega) (by omega)] at c4
            exact b4.uniq c4
          rw [hq, same_refl _ (by rw [p3.length]; have := (seen_ok hl).1; omega), Option.bind_some]
          exact k25_ok hst hs hl hp
        · rw [if_pos (by simpa using hc), if_neg (by simpa using hd)]; exact k25_ok hst hs hl hp
      · rw [if_neg (by simpa using hc)]; exact k25_ok hst hs hl hp
  · rw [hp, if_pos (by decide), if_pos rfl]; rfl
end
theorem jonesGroup_law (x0 : (List (A4 Cx))) (k0 : ∀ y ∈ x0, (ok_Cx y.e0) ∧ (ok_Cx y.e1) ∧ (ok_Cx y.e2) ∧ (ok_Cx y.e3)) (x1 : (List (A4 Cx))) (k1 : ∀ y ∈ x1, (ok_Cx y.e0) ∧ (ok_Cx y.e1) ∧ (ok_Cx y.e2) ∧ (ok_Cx y.e3)) (x2 : (List Pol)) (k2 : ∀ y ∈ x2, ok_Pol y) : law33_JonesGroup.f x0 x1 x2 = some true := by
  have hk : law33_JonesGroup.k1 x0 x1 x2 true true = some true := by
    unfold law33_JonesGroup.k1
    rw [if_pos rfl]
  unfold law33_JonesGroup.f
  rw [alive_eq, Option.bind_some, ref_table_eq, Option.bind_some, ref_table_eq, Option.bind_some, ref_all_eq, Option.bind_some]
  by_cases hs : tabS x0 = 0
  · rw [if_neg (by simp [hs])]
    by_cases ht : tabS x1 = 0
    · rw [if_neg (by simp [ht])]
      by_cases hst : x0.length = x1.length
      · rw [if_neg (by simp [hst])]
        by_cases hl : seenS x2 x0.length = 0
        · rw [if_neg (by simp [hl])]; exact k1_ok hst hs ht hl
        · rw [if_pos (by simp [hl])]; exact hk
      · rw [if_pos (by simp; omega)]; exact hk
    · rw [if_pos (by simp [ht])]; exact hk
  · rw [if_pos (by simp [hs])]; exact hk
end Go.Proofs.Ytlfmmenlkpoodaa.M
