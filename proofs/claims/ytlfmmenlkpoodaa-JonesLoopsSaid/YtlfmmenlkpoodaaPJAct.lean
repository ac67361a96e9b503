/- Plain laws: tables of stations that act on coherencies. -/
import Derived.Test.YtlfmmenlkpoodaaPCxM
import Derived.Test.YtlfmmenlkpoodaaPCxR1
set_option linter.unusedVariables false
set_option linter.unusedSimpArgs false
set_option maxRecDepth 100000
namespace Go.Proofs.Ytlfmmenlkpoodaa.M
open Go.GW Go.Proofs

theorem w64_succ {i : Nat} (h : i ≤ 1000000) : w64 ((i : Int) + 1) = (i : Int) + 1 := w64_id (by omega) (by omega)
theorem table1_eq (a : A4 Cx) : jones_table_1.f a = some (!valJ a) := by
  unfold jones_table_1.f; rw [jones_valid_eq, Option.bind_some]
theorem hasBad_eq (t : List (A4 Cx)) (h : t.length ≤ 1000000) : slices_ContainsFunc__api_Jones_api_Jones__jones_table_1.f t = some (t.any fun a => !valJ a) := by
  unfold slices_ContainsFunc__api_Jones_api_Jones__jones_table_1.f slices_IndexFunc__api_Jones_api_Jones__jones_table_1.f
  rw [iter_findIdx t (fun i => i) (fun a => !valJ a) () (fun i hi => ?_) ?_]
  · cases hb : t.any fun a => !valJ a <;> simp [fin, slices_IndexFunc__api_Jones_api_Jones__jones_table_1.k2]
  · unfold slices_IndexFunc__api_Jones_api_Jones__jones_table_1.s1
    rw [if_neg (by simp)]
  · unfold slices_IndexFunc__api_Jones_api_Jones__jones_table_1.s1
    rw [if_pos (by simp; omega), if_pos (by omega), table1_eq, Option.bind_some, ix_at hi, w64_succ (by omega)]
    cases valJ t[i] <;> simp
def badP (p : Pol) (n : Int) : Prop := p.I < 0 ∨ p.J ≤ p.I ∨ n ≤ p.J ∨ p.N < 0 ∨ valJ p.V = false
noncomputable def badPB (p : Pol) (n : Int) : Bool := open Classical in decide (badP p n)
theorem seen1_eq (p : Pol) (n : Int) : jones_seen_1.f p n = some (badPB p n) := by
  unfold jones_seen_1.f badPB badP
  rw [jones_valid_eq, Option.bind_some]
  by_cases h1 : p.I < 0
  · simp [h1]
  · by_cases h2 : p.J ≤ p.I
    · simp [h1, h2]
    · by_cases h3 : n ≤ p.J
      · simp [h1, h2, h3]
      · by_cases h4 : p.N < 0
        · simp [h1, h2, h3, h4]
        · cases h5 : valJ p.V <;> simp [h1, h2, h3, h4]
theorem hasWrong_eq (l : List Pol) (n : Int) (h : l.length ≤ 1000000) : slices_ContainsFunc__api_Pol_api_Pol__jones_seen_1.f l n = some (l.any fun p => badPB p n) := by
  unfold slices_ContainsFunc__api_Pol_api_Pol__jones_seen_1.f slices_IndexFunc__api_Pol_api_Pol__jones_seen_1.f
  rw [iter_findIdx l (fun i => i) (fun p => badPB p n) () (fun i hi => ?_) ?_]
  · cases hb : l.any fun p => badPB p n <;> simp [fin, slices_IndexFunc__api_Pol_api_Pol__jones_seen_1.k2]
  · unfold slices_IndexFunc__api_Pol_api_Pol__jones_seen_1.s1
    rw [if_neg (by simp)]
  · unfold slices_IndexFunc__api_Pol_api_Pol__jones_seen_1.s1
    rw [if_pos (by simp; omega), if_pos (by omega), seen1_eq, Option.bind_some, ix_at hi, w64_succ (by omega)]
    cases badPB l[i] n <;> simp
noncomputable def detT (a : A4 Cx) : Option Int := open Classical in if (detS a).2 ≠ 0 then some (detS a).2 else if nz (detS a).1 then none else some 18
noncomputable def tabS (t : List (A4 Cx)) : Int := if 8 < t.length then 4 else if t.length = 0 ∨ (t.any fun a => !valJ a) = true then 8 else (t.findSome? detT).getD 0
theorem jones_table_eq (t : List (A4 Cx)) : jones_table.f t = some (tabS t) := by
  unfold jones_table.f tabS
  by_cases h8 : 8 < t.length
  · rw [if_pos (by simp; omega), if_pos h8]
  · rw [if_neg (by simp; omega), if_neg h8]
    have hk : ∀ x, jones_table.k1 t x = some (if x = true then 8 else (t.findSome? detT).getD 0) := by
      intro x
      unfold jones_table.k1
      cases x with
      | true => simp
      | false =>
        rw [if_neg (by decide), if_neg (by decide), iter_find t (fun i => i) detT () (fun i hi => ?_) ?_]
        · cases t.findSome? detT <;> simp [fin, jones_table.k3]
        · unfold jones_table.s2
          rw [if_neg (by simp)]
        · unfold jones_table.s2 detT
          rw [if_pos (by simp; omega), if_pos (by omega), jones_det_eq, Option.bind_some, ix_at hi, jzero_eq, Option.bind_some, w64_succ (by omega)]
          by_cases hd : (detS t[i]).2 = 0
          · by_cases hz : nz (detS t[i]).1
            · have hz' : ¬ ((detS t[i]).1.Re = 0 ∧ (detS t[i]).1.Im = 0) := hz
              simp [hd, hz, hz']
            · have hz' : ((detS t[i]).1.Re = 0 ∧ (detS t[i]).1.Im = 0) := Classical.not_not.1 hz
              simp [hd, hz, hz']
          · simp [hd]
    by_cases h0 : t.length = 0
    · rw [if_pos (by rw [h0]; rfl), hk]; simp [h0]
    · rw [if_neg (by simp only [decide_eq_true_eq]; omega), hasBad_eq t (by omega), Option.bind_some, hk]; simp [h0]
theorem ref_table_eq (t : List (A4 Cx)) : ref33_Table.f t = some (tabS t) := by
  unfold ref33_Table.f tabS
  by_cases h8 : 8 < t.length
  · rw [if_pos (by simp; omega), if_pos h8]
  · rw [if_neg (by simp; omega), if_neg h8]
    rw [iter_find t (fun i => i) (fun a => if valJ a = true then none else some (8 : Int)) () (fun i hi => ?_) ?_]
    · have hk : ref33_Table.k2 t = some (if t.length = 0 then 8 else (t.findSome? detT).getD 0) := by
        unfold ref33_Table.k2
        by_cases h0 : t.length = 0
        · rw [if_pos (by rw [h0]; rfl), if_pos h0]
        · rw [if_neg (by simp only [decide_eq_true_eq]; omega), if_neg h0, iter_find t (fun i => i) detT () (fun i hi => ?_) ?_]
          · cases t.findSome? detT <;> simp [fin, ref33_Table.k4]
          · unfold ref33_Table.s3
            rw [if_neg (by simp)]
          · unfold ref33_Table.s3 detT
            rw [if_pos (by simp; omega), if_pos (by omega), ref_det_eq, Option.bind_some, ix_at hi, rzero_eq, Option.bind_some, w64_succ (by omega)]
            by_cases hd : (detS t[i]).2 = 0
            · by_cases hz : nz (detS t[i]).1
              · have hz' : ¬ ((detS t[i]).1.Re = 0 ∧ (detS t[i]).1.Im = 0) := hz
                simp [hd, hz, hz']
              · have hz' : ((detS t[i]).1.Re = 0 ∧ (detS t[i]).1.Im = 0) := Classical.not_not.1 hz
                simp [hd, hz, hz']
            · simp [hd]
      cases hb : t.any fun a => !valJ a with
      | false =>
        have : t.findSome? (fun a => if valJ a = true then none else some (8 : Int)) = none := by
          rw [List.findSome?_eq_none_iff]
          intro a ha
          rw [List.any_eq_false] at hb
          have := hb a ha
          simp at this
          simp [this]
        rw [this]
        simp [fin, hk]
      | true =>
        obtain ⟨a, ha, hav⟩ := List.any_eq_true.1 hb
        have : t.findSome? (fun a => if valJ a = true then none else some (8 : Int)) = some 8 := by
          cases hf : t.findSome? (fun a => if valJ a = true then none else some (8 : Int)) with
          | none =>
            rw [List.findSome?_eq_none_iff] at hf
            have := hf a ha
            simp at hav
            simp [hav] at this
          | some v =>
            obtain ⟨b, _, h2⟩ := List.exists_of_findSome?_eq_some hf
            cases hbv : valJ b <;> simp [hbv] at h2
            rw [h2]
        rw [this]
        simp [fin]
    · unfold ref33_Table.s1
      rw [if_neg (by simp)]
    · unfold ref33_Table.s1
      rw [if_pos (by simp; omega), if_pos (by omega), ref_valid_eq, Option.bind_some, ix_at hi, w64_succ (by omega)]
      cases valJ t[i] <;> simp
noncomputable def seenS (l : List Pol) (n : Int) : Int := if 64 < l.length then 4 else if (l.any fun p => badPB p n) = true then 8 else 0
theorem jones_seen_eq (l : List Pol) (n : Int) : jones_seen.f l n = some (seenS l n) := by
  unfold jones_seen.f seenS
  by_cases h : 64 < l.length
  · rw [if_pos (by simp; omega), if_pos h]
  · rw [if_neg (by simp; omega), if_neg h, hasWrong_eq l n (by omega), Option.bind_some]
    cases l.any fun p => badPB p n <;> simp
theorem ref_seen_eq (p : Pol) (n : Int) : ref33_Seen.f p n = some (!badPB p n) := by
  unfold ref33_Seen.f badPB badP
  rw [ref_valid_eq, Option.bind_some]
  by_cases h1 : p.I < 0
  · simp [h1, show ¬ (0 ≤ p.I) by omega]
  · by_cases h2 : p.J ≤ p.I
    · simp [h1, h2, show (0 ≤ p.I) by omega, show ¬ (p.I < p.J) by omega]
    · by_cases h3 : n ≤ p.J
      · simp [h1, h2, h3, show (0 ≤ p.I) by omega, show (p.I < p.J) by omega, show ¬ (p.J < n) by omega]
      · by_cases h4 : p.N < 0
        · simp [h1, h2, h3, h4, show (0 ≤ p.I) by omega, show (p.I < p.J) by omega, show (p.J < n) by omega, show ¬ (0 ≤ p.N) by omega]
        · cases h5 : valJ p.V <;> simp [h1, h2, h3, h4, show (0 ≤ p.I) by omega, show (p.I < p.J) by omega, show (p.J < n) by omega, show (0 ≤ p.N) by omega]
theorem ref_all_eq (l : List Pol) (n : Int) : ref33_All.f l n = some (seenS l n) := by
  unfold ref33_All.f seenS
  by_cases h : 64 < l.length
  · rw [if_pos (by simp; omega), if_pos h]
  · rw [if_neg (by simp; omega), if_neg h, iter_find l (fun i => i) (fun p => if badPB p n = true then some (8 : Int) else none) () (fun i hi => ?_) ?_]
    · cases hb : l.any fun p => badPB p n with
      | false =>
        have : l.findSome? (fun p => if badPB p n = true then some (8 : Int) else none) = none := by
          rw [List.findSome?_eq_none_iff]
          intro a ha
          rw [List.any_eq_false] at hb
          have := hb a ha
          simp [this]
        rw [this]
        simp [fin, ref33_All.k2]
      | true =>
        obtain ⟨a, ha, hav⟩ := List.any_eq_true.1 hb
        have : l.findSome? (fun p => if badPB p n = true then some (8 : Int) else none) = some 8 := by
          cases hf : l.findSome? (fun p => if badPB p n = true then some (8 : Int) else none) with
          | none =>
            rw [List.findSome?_eq_none_iff] at hf
            have := hf a ha
            simp [hav] at this
          | some v =>
            obtain ⟨b, _, h2⟩ := List.exists_of_findSome?_eq_some hf
            cases hbv : badPB b n <;> simp [hbv] at h2
            rw [h2]
        rw [this]
        simp [fin]
    · unfold ref33_All.s1
      rw [if_neg (by simp)]

    · unfold ref33_All.s1
      rw [if_pos (by simp; omega), if_pos (by omega), ref_seen_eq, Option.bind_some, ix_at hi, w64_succ (by omega)]
      cases badPB l[i] n <;> simp
/-! ### Products -/
noncomputable def prodL : A4 Cx → List (A4 Cx) → A4 Cx × Int
  | out, [] => (out, 0)
  | out, a :: r => if (mulJ out a).2 = 0 then prodL (mulJ out a).1 r else (zJ, (mulJ out a).2)
theorem prodL_fold : ∀ (r : List (A4 Cx)) (out : A4 Cx), prodL out r = (match foldE (fun out a => if (mulJ out a).2 = 0 then .inl (mulJ out a).1 else .inr (zJ, (mulJ out a).2)) r out with | .inl o => (o, 0) | .inr v => v)
  | [], out => rfl
  | a :: r, out => by
    unfold prodL foldE
    by_cases h : (mulJ out a).2 = 0
    · rw [if_pos h, if_pos h]; exact prodL_fold r _
    · rw [if_neg h, if_neg h]
theorem jones_product_eq (x : A4 Cx) (r : List (A4 Cx)) (hr : r.length ≤ 1000) : jones_product.f (x :: r) = some (prodL x r) := by
  have hd : (((x :: r).take (x :: r).length).drop ((1 : Int).toNat)) = r := by simp
  unfold jones_product.f
  rw [if_pos (by simp), if_pos (by simp; omega)]
  rw [iter_foldE (β := A4 Cx) r (fun b i => (b, i)) (fun out a => if (mulJ out a).2 = 0 then .inl (mulJ out a).1 else .inr (zJ, (mulJ out a).2)) (fun b => b) (fun _ _ => True) (ix (x :: r) 0) trivial (fun b i hi _ => ?_) (fun b _ => ?_)]
  · rw [show ix (x :: r) 0 = x from rfl, prodL_fold r x, Option.bind_some]
    cases foldE (fun out a => if (mulJ out a).2 = 0 then .inl (mulJ out a).1 else .inr (zJ, (mulJ out a).2)) r x <;> simp [fin, jones_product.k2]
  · have hs : jones_product.s1 (x :: r) b (i : Int) = some (if (mulJ b r[i]).2 = 0 then .next ((mulJ b r[i]).1, (i : Int) + 1) else .ret (zJ, (mulJ b r[i]).2)) := by
      unfold jones_product.s1
      rw [hd, if_pos (by simp; omega), if_pos (by omega), jones_mul_eq, Option.bind_some, ix_at hi, w64_succ (by omega)]
      generalize mulJ b r[i] = y
      by_cases h : y.2 = 0 <;> simp [h]
    constructor
    · intro b' e
      by_cases h : (mulJ b r[i]).2 = 0
      · rw [if_pos h] at e; injection e with e; subst e; exact ⟨by rw [hs, if_pos h], trivial⟩
      · rw [if_neg h] at e; cases e
    · intro v e
      by_cases h : (mulJ b r[i]).2 = 0
      · rw [if_pos h] at e; cases e
      · rw [if_neg h] at e; injection e with e; subst e; rw [hs, if_neg h]
  · unfold jones_product.s1
    rw [hd, if_neg (by simp)]

/-! ### Acting -/
def adjv (a : A4 Cx) : A4 Cx := ⟨ap a.e0, ap a.e2, ap a.e1, ap a.e3⟩
theorem adjv_is {a : A4 Cx} {p : MQ} (h : IsJ a p) : IsJ (adjv a) p.adj := (adj_is h).2
noncomputable def actP (t : List (A4 Cx)) (p : Pol) : A4 Cx × Int := prodL (ix t p.I) [p.V, adjv (ix t p.J)]
noncomputable def actG (t : List (A4 Cx)) (out : List Pol) (p : Pol) : Sum (List Pol) (List Pol × Int) := if (actP t p).2 = 0 then .inl (out ++ [⟨p.I, p.J, (actP t p).1, p.N⟩]) else .inr ([], (actP t p).2)
noncomputable def actS (t : List (A4 Cx)) (l : List Pol) : List Pol × Int :=
  if tabS t = 0 then (if seenS l t.length = 0 then (match foldE (actG t) l [] with | .inl o => (o, 0) | .inr v => v) else ([], seenS l t.length)) else ([], tabS t)
theorem tab_ok {t : List (A4 Cx)} (h : tabS t = 0) : t.length ≤ 8 ∧ 0 < t.length ∧ ∀ a ∈ t, valJ a = true := by
  unfold tabS at h
  by_cases h8 : 8 < t.length
  · rw [if_pos h8] at h; omega
  · rw [if_neg h8] at h
    by_cases hc : t.length = 0 ∨ (t.any fun a => !valJ a) = true
    · rw [if_pos hc] at h; omega
    · simp only [not_or, Bool.not_eq_true, List.any_eq_false, Bool.not_eq_eq_eq_not, Bool.not_false] at hc
      exact ⟨by omega, by omega, fun a ha => by simpa using hc.2 a ha⟩
theorem seen_ok {l : List Pol} {n : Int} (h : seenS l n = 0) : l.length ≤ 64 ∧ ∀ p ∈ l, ¬ badP p n := by
  unfold seenS at h
  by_cases h8 : 64 < l.length
  · rw [if_pos h8] at h; omega
  · rw [if_neg h8] at h
    cases hb : l.any fun p => badPB p n with
    | true => rw [hb] at h; simp at h
    | false =>
      refine ⟨by omega, fun p hp => ?_⟩
      have := List.any_eq_false.1 hb p hp
      unfold badPB at this
      simpa using this
theorem jones_act_eq (t : List (A4 Cx)) (l : List Pol) : jones_Act.f t l = some (actS t l) := by
  unfold jones_Act.f actS
  rw [jones_table_eq, Option.bind_some]
  by_cases ht : tabS t = 0
  · rw [if_neg (by simp [ht]), if_pos ht, jones_seen_eq, Option.bind_some]
    by_cases hl : seenS l t.length = 0
    · rw [if_neg (by simp [hl]), if_pos hl]
      obtain ⟨t1, t2, t3⟩ := tab_ok ht
      obtain ⟨l1, l2⟩ := seen_ok hl
      rw [iter_foldE (β := List Pol) l (fun b i => (b, i)) (actG t) (fun b => b) (fun i b => b.length = i) [] rfl (fun b i hi hb => ?_) (fun b _ => ?_)]
      · rw [Option.bind_some]
        cases foldE (actG t) l [] <;> simp [fin, jones_Act.k5]
      · have hp := l2 l[i] (List.getElem_mem hi)
        unfold badP at hp
        simp only [not_or] at hp
        have hs : jones_Act.s4 t l b (i : Int) = some (if (actP t l[i]).2 = 0 then .next (b ++ [⟨l[i].I, l[i].J, (actP t l[i]).1, l[i].N⟩], (i : Int) + 1) else .ret ([], (actP t l[i]).2)) := by
          unfold jones_Act.s4
          rw [ix_at hi, if_pos (by simp; omega), if_pos (by omega), if_pos (by omega), if_pos (by omega), adj_eq, Option.bind_some, jones_product_eq _ _ (by simp), Option.bind_some]
          show jones_Act.k6 l b i (actP t l[i]).1 (actP t l[i]).2 = _
          unfold jones_Act.k6
          rw [ix_at hi, w64_succ (by omega)]
          generalize actP t l[i] = y
          by_cases h : y.2 = 0
          · rw [if_neg (by simp [h]), if_pos h, if_pos (by simp; omega)]
          · rw [if_pos (by simp [h]), if_neg h]
        constructor
        · intro b' e
          unfold actG at e
          by_cases h : (actP t l[i]).2 = 0
          · rw [if_pos h] at e; injection e with e; subst e; exact ⟨by rw [hs, if_pos h], by simp [hb]⟩
          · rw [if_neg h] at e; cases e
        · intro v e
          unfold actG at e
          by_cases h : (actP t l[i]).2 = 0
          · rw [if_pos h] at e; cases e
          · rw [if_neg h] at e; injection e with e; subst e; rw [hs, if_neg h]
      · unfold jones_Act.s4
        rw [if_neg (by simp)]
    · rw [if_pos (by simp [hl]), if_neg hl]
  · rw [if_pos (by simp [ht]), if_neg ht]

/-! ### What acting is worth -/
def All2 {α β : Type} (R : α → β → Prop) : List α → List β → Prop
  | [], [] => True
  | a :: l, b :: m => R a b ∧ All2 R l m
  | _, _ => False
theorem All2.length {α β : Type} {R : α → β → Prop} : ∀ {l : List α} {m : List β}, All2 R l m → m.length = l.length
  | [], [], _ => rfl
  | a :: l, b :: m, h => by simp [All2.length h.2]
  | [], _ :: _, h => h.elim
  | _ :: _, [], h => h.elim
theorem IsJ.mq_eq {a : A4 Cx} {p : MQ} (h : IsJ a p) : mq a = p := by
  apply MQ.ext'
  · exact h.e0.re
  · exact h.e0.im
  · exact h.e1.re
  · exact h.e1.im
  · exact h.e2.re
  · exact h.e2.im
  · exact h.e3.re
  · exact h.e3.im
theorem prod3_is {x y z : A4 Cx} {p q r : MQ} (hx : IsJ x p) (hy : IsJ y q) (hz : IsJ z r) (h : (prodL x [y, z]).2 = 0) : IsJ (prodL x [y, z]).1 ((p.mul q).mul r) := by
  simp only [prodL] at h ⊢
  by_cases h1 : (mulJ x y).2 = 0
  · rw [if_pos h1] at h ⊢
    have i1 := mulJ_is hx hy h1
    by_cases h2 : (mulJ (mulJ x y).1 z).2 = 0
    · rw [if_pos h2]
      exact mulJ_is i1 hz h2
    · rw [if_neg h2] at h; exact absurd h h2
  · rw [if_neg h1] at h; exact absurd h h1
theorem prod3_code {x y z : A4 Cx} {p q r : MQ} (hx : IsJ x p) (hy : IsJ y q) (hz : IsJ z r) : (prodL x [y, z]).2 = 0 ∨ (prodL x [y, z]).2 = 16 := by
  simp only [prodL]
  rcases mulJ_cases hx.valid hy.valid with h1 | h1
  · rw [if_pos h1]
    rcases mulJ_cases (mulJ_is hx hy h1).valid hz.valid with h2 | h2
    · rw [if_pos h2]; exact .inl rfl
    · rw [h2]; exact .inr rfl
  · rw [h1]; exact .inr rfl
/-- What one coherency becomes. -/
def RA (t : List (A4 Cx)) (p r : Pol) : Prop := r.I = p.I ∧ r.J = p.J ∧ r.N = p.N ∧ IsJ r.V (((mq (ix t p.I)).mul (mq p.V)).mul (mq (ix t p.J)).adj)
theorem ix_mem {α : Type} [Inhabited α] {xs : List α} {i : Int} (h0 : 0 ≤ i) (h1 : i < xs.length) : ix xs i ∈ xs := by
  have := ix_some h0 h1
  exact List.mem_of_getElem? this
theorem actFold_ok {t : List (A4 Cx)} (ht : ∀ a ∈ t, valJ a = true) : ∀ (l : List Pol) (out : List Pol), (∀ p ∈ l, ¬ badP p t.length) →
    (∃ q, foldE (actG t) l out = .inl (out ++ q) ∧ All2 (RA t) l q) ∨ foldE (actG t) l out = .inr ([], 16)
  | [], out, _ => .inl ⟨[], by simp [foldE], trivial⟩
  | p :: l, out, h => by
    have hp := h p (by simp)
    unfold badP at hp
    simp only [not_or, Bool.not_eq_false] at hp
    have vi' := IsJ.of (ht _ (ix_mem (xs := t) (i := p.I) (by omega) (by omega)))
    have vj := IsJ.of (ht _ (ix_mem (xs := t) (i := p.J) (by omega) (by omega)))
    have vv := IsJ.of hp.2.2.2.2
    unfold foldE actG
    rcases prod3_code vi' vv (adjv_is vj) with hc | hc
    · have hi := prod3_is vi' vv (adjv_is vj) hc
      have hc' : (actP t p).2 = 0 := hc
      rw [if_pos hc']
      rcases actFold_ok ht l (out ++ [⟨p.I, p.J, (actP t p).1, p.N⟩]) (fun x hx => h x (by simp [hx])) with ⟨q, h1, h2⟩ | h1
      · refine .inl ⟨⟨p.I, p.J, (actP t p).1, p.N⟩ :: q, ?_, ⟨rfl, rfl, rfl, hi⟩, h2⟩
        show foldE (actG t) l (out ++ [⟨p.I, p.J, (actP t p).1, p.N⟩]) = _
        rw [h1]; simp
      · exact .inr h1
    · have hc' : (actP t p).2 = 16 := hc
      rw [if_neg (by rw [hc']; decide), hc']
      exact .inr rfl
theorem actS_ok {t : List (A4 Cx)} {l : List Pol} (h : (actS t l).2 = 0) : tabS t = 0 ∧ seenS l t.length = 0 ∧ All2 (RA t) l (actS t l).1 := by
  unfold actS at h ⊢
  by_cases ht : tabS t = 0
  · rw [if_pos ht] at h ⊢
    by_cases hl : seenS l t.length = 0
    · rw [if_pos hl] at h ⊢
      rcases actFold_ok (tab_ok ht).2.2 l [] (seen_ok hl).2 with ⟨q, h1, h2⟩ | h1
      · rw [h1]; exact ⟨ht, hl, by simpa using h2⟩
      · rw [h1] at h; simp at h
    · rw [if_neg hl] at h; exact absurd h hl
  · rw [if_neg ht] at h; exact absurd h ht
theorem actS_code {t : List (A4 Cx)} {l : List Pol} (ht : tabS t = 0) (hl : seenS l t.length = 0) : (actS t l).2 = 0 ∨ actS t l = ([], 16) := by
  unfold actS
  rw [if_pos ht, if_pos hl]
  rcases actFold_ok (tab_ok ht).2.2 l [] (seen_ok hl).2 with ⟨q, h1, h2⟩ | h1
  · rw [h1]; exact .inl rfl
  · rw [h1]; exact .inr rfl
theorem same_refl (a : List Pol) (h : a.length ≤ 1000000) : ref33_Same.f a a = some true := by
  unfold ref33_Same.f
  rw [if_neg (by simp), iter_find a (fun i => i) (fun _ => none) () (fun i hi => ?_) ?_]
  · have : a.findSome? (fun _ => (none : Option Bool)) = none := by rw [List.findSome?_eq_none_iff]; intro _ _; rfl
    rw [this]
    simp [fin, ref33_Same.k2]
  · unfold ref33_Same.s1
    rw [if_neg (by simp)]
  · unfold ref33_Same.s1
    rw [if_pos (by simp; omega), if_pos (by omega), if_pos (by omega), if_neg (by simp), w64_succ (by omega)]
end Go.Proofs.Ytlfmmenlkpoodaa.M
