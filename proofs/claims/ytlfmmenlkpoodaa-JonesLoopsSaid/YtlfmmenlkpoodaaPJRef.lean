/- Plain laws: the reference's loops and actions come to the same answers. -/
import Derived.Test.YtlfmmenlkpoodaaPJLoop
import Derived.Test.YtlfmmenlkpoodaaPCxR2
set_option linter.unusedVariables false
set_option linter.unusedSimpArgs false
set_option maxRecDepth 100000
namespace Go.Proofs.Ytlfmmenlkpoodaa.M
open Go.GW Go.Proofs

theorem station_eq (i : Int) : ref27_Station.f i = some (decide (0 ≤ i ∧ i < 8)) := by
  unfold ref27_Station.f
  by_cases h : 0 ≤ i <;> simp [h]
noncomputable def apP (l : List Int) (i : Nat) : Option Bool := open Classical in if 0 ≤ ix l (i : Int) ∧ ix l (i : Int) < 8 then (if ∃ k : Nat, k < i ∧ ix l (k : Int) = ix l (i : Int) then some false else none) else some false
theorem ref_apart_eq (l : List Int) (hl : l.length ≤ 1000) : ref27_Apart.f l = some (((List.range l.length).findSome? (apP l)).getD true) := by
  unfold ref27_Apart.f
  have hlen : (List.range l.length).length = l.length := List.length_range
  have hf := iter_find (List.range l.length) (fun i => i) (f := fun (s : Int) => ref27_Apart.s7 l s) (apP l) () (fun i hi => by
    rw [hlen] at hi
    show ref27_Apart.s7 l (i : Int) = _
    unfold ref27_Apart.s7
    rw [if_pos (by simp; omega), if_pos (by omega), station_eq, Option.bind_some, List.getElem_range]
    unfold apP
    by_cases hs : 0 ≤ ix l (i : Int) ∧ ix l (i : Int) < 8
    · rw [if_neg (by simp [hs]), if_pos hs]
      have hlen2 : (List.range i).length = i := List.length_range
      have hg := iter_find (List.range i) (fun k => k) (f := fun (s : Int) => ref27_Apart.s9 l (i : Int) s) (fun (k : Nat) => if ix l (k : Int) = ix l (i : Int) then some (St.ret false : St Int Unit Bool) else none) () (fun k hk => by
        rw [hlen2] at hk
        show ref27_Apart.s9 l (i : Int) (k : Int) = _
        unfold ref27_Apart.s9
        rw [if_pos (by simp; omega), if_pos (by omega), if_pos (by omega), List.getElem_range, w64_succ (by omega)]
        by_cases he : ix l (k : Int) = ix l (i : Int) <;> simp [he]) (by
        show ref27_Apart.s9 l (i : Int) _ = _
        unfold ref27_Apart.s9
        rw [if_neg (by simp)])
      rw [hg, Option.bind_some]
      by_cases hd : ∃ k : Nat, k < i ∧ ix l (k : Int) = ix l (i : Int)
      · rw [if_pos hd]
        obtain ⟨k, hk, hkv⟩ := hd
        have : (List.range i).findSome? (fun (k : Nat) => if ix l (k : Int) = ix l (i : Int) then some (St.ret false : St Int Unit Bool) else none) = some (St.ret false) := by
          cases hf : (List.range i).findSome? (fun (k : Nat) => if ix l (k : Int) = ix l (i : Int) then some (St.ret false : St Int Unit Bool) else none) with
          | none => rw [List.findSome?_eq_none_iff] at hf; have := hf k (by simpa using hk); rw [if_pos hkv] at this; cases this
          | some v =>
            obtain ⟨k2, _, h2⟩ := List.exists_of_findSome?_eq_some hf
            split at h2
            · rw [← Option.some.inj h2]
            · cases h2
        rw [this]
        simp [fin]
      · rw [if_neg hd]
        have : (List.range i).findSome? (fun (k : Nat) => if ix l (k : Int) = ix l (i : Int) then some (St.ret false : St Int Unit Bool) else none) = none := by
          rw [List.findSome?_eq_none_iff]
          intro k hk
          rw [if_neg fun h => hd ⟨k, by simpa using hk, h⟩]
        rw [this]
        simp [fin, ref27_Apart.k10]
        exact w64_succ (by omega)
    · rw [if_pos (by rw [show decide (0 ≤ ix l (i : Int) ∧ ix l (i : Int) < 8) = false from decide_eq_false hs]; rfl), if_neg hs]) (by
    show ref27_Apart.s7 l _ = _
    unfold ref27_Apart.s7
    rw [hlen, if_neg (by simp)])
  rw [hf, Option.bind_some]
  cases (List.range l.length).findSome? (apP l) <;> simp [fin, ref27_Apart.k8]
theorem apP_none (l : List Int) (i : Nat) : apP l i = none ↔ (0 ≤ ix l (i : Int) ∧ ix l (i : Int) < 8) ∧ ∀ k : Nat, k < i → ix l (k : Int) ≠ ix l (i : Int) := by
  unfold apP
  by_cases hs : 0 ≤ ix l (i : Int) ∧ ix l (i : Int) < 8
  · rw [if_pos hs]
    by_cases hd : ∃ k : Nat, k < i ∧ ix l (k : Int) = ix l (i : Int)
    · rw [if_pos hd]
      constructor
      · intro h; cases h
      · rintro ⟨_, h⟩; obtain ⟨k, h1, h2⟩ := hd; exact absurd h2 (h k h1)
    · rw [if_neg hd]
      exact ⟨fun _ => ⟨hs, fun k h1 h2 => hd ⟨k, h1, h2⟩⟩, fun _ => rfl⟩
  · rw [if_neg hs]
    constructor
    · intro h; cases h
    · rintro ⟨h, _⟩; exact absurd h hs
theorem below1 {p : Nat → Prop} : (∀ k, k < 1 → p k) ↔ p 0 := ⟨fun h => h 0 (by omega), fun h k hk => by
  rcases (show k = 0 by omega) with rfl
  exact h⟩
theorem below2 {p : Nat → Prop} : (∀ k, k < 2 → p k) ↔ p 0 ∧ p 1 := ⟨fun h => ⟨h 0 (by omega), h 1 (by omega)⟩, fun h k hk => by
  rcases (show k = 0 ∨ k = 1 by omega) with rfl | rfl
  · exact h.1
  · exact h.2⟩
theorem below3 {p : Nat → Prop} : (∀ k, k < 3 → p k) ↔ p 0 ∧ p 1 ∧ p 2 := ⟨fun h => ⟨h 0 (by omega), h 1 (by omega), h 2 (by omega)⟩, fun h k hk => by
  rcases (show k = 0 ∨ k = 1 ∨ k = 2 by omega) with rfl | rfl | rfl
  · exact h.1
  · exact h.2.1
  · exact h.2.2⟩
theorem apart4 (a b c d : Int) : ((List.range ([a, b, c, d] : List Int).length).findSome? (apP [a, b, c, d])).getD true = true ↔ Four a b c d := by
  have h : ((List.range ([a, b, c, d] : List Int).length).findSome? (apP [a, b, c, d])).getD true = true ↔ ∀ i ∈ List.range 4, apP [a, b, c, d] i = none := by
    show ((List.range 4).findSome? (apP [a, b, c, d])).getD true = true ↔ _
    cases hf : (List.range 4).findSome? (apP [a, b, c, d]) with
    | none => rw [List.findSome?_eq_none_iff] at hf; simpa using hf
    | some v =>
      obtain ⟨i, hi, h2⟩ := List.exists_of_findSome?_eq_some hf
      have hv : v = false := by
        unfold apP at h2
        split at h2
        · split at h2
          · exact (Option.some.inj h2).symm
          · cases h2
        · exact (Option.some.inj h2).symm
      subst hv
      constructor
      · intro h; cases h
      · intro h; have := h i hi; rw [h2] at this; cases this
  have e0 : ix [a, b, c, d] ((0 : Nat) : Int) = a := rfl
  have e1 : ix [a, b, c, d] ((1 : Nat) : Int) = b := rfl
  have e2 : ix [a, b, c, d] ((2 : Nat) : Int) = c := rfl
  have e3 : ix [a, b, c, d] ((3 : Nat) : Int) = d := rfl
  have hm : (∀ i ∈ List.range 4, apP [a, b, c, d] i = none) ↔ apP [a, b, c, d] 0 = none ∧ apP [a, b, c, d] 1 = none ∧ apP [a, b, c, d] 2 = none ∧ apP [a, b, c, d] 3 = none := by
    rw [show List.range 4 = [0, 1, 2, 3] from rfl]
    simp only [List.mem_cons, List.not_mem_nil, or_false, forall_eq_or_imp, forall_eq]
  rw [h, hm, apP_none, apP_none, apP_none, apP_none, below1, below2, below3, e0, e1, e2, e3]
  unfold Four
  constructor
  · rintro ⟨⟨x1, _⟩, ⟨x2, x3⟩, ⟨x4, x5, x6⟩, ⟨x7, x8, x9, x10⟩⟩; exact ⟨x1, x2, x4, x7, x3, x5, x8, x6, x9, x10⟩
  · rintro ⟨x1, x2, x4, x7, x3, x5, x8, x6, x9, x10⟩; exact ⟨⟨x1, fun k hk => absurd hk (by omega)⟩, ⟨x2, x3⟩, ⟨x4, x5, x6⟩, ⟨x7, x8, x9, x10⟩⟩
theorem ref_four_eq (a b c d : Int) : ref27_Apart.f [a, b, c, d] = some (open Classical in decide (Four a b c d)) := by
  rw [ref_apart_eq _ (by simp)]
  congr 1
  have := apart4 a b c d
  by_cases h : Four a b c d
  · rw [this.2 h]; simp [h]
  · cases hb : ((List.range ([a, b, c, d] : List Int).length).findSome? (apP [a, b, c, d])).getD true with
    | true => exact absurd (this.1 hb) h
    | false => simp [h]
noncomputable def dupP (l : List Pol) (i : Nat) : Option Int := open Classical in if ∃ k, k < i ∧ sameP (ix l (i : Int)) (ix l (k : Int)) then some 14 else none
theorem ref_check_lp (l : List Pol) : ref33_Check.f l = some (open Classical in if seenS l 8 = 0 then (if Apart l then 0 else 14) else seenS l 8) := by
  unfold ref33_Check.f
  rw [ref_all_eq, Option.bind_some]
  by_cases hs : seenS l 8 = 0
  · rw [if_neg (by simp [hs]), if_pos hs]
    obtain ⟨l1, l2⟩ := seen_ok hs
    have hlen : (List.range l.length).length = l.length := List.length_range
    have hf := iter_find (List.range l.length) (fun i => i) (f := fun (s : Int) => ref33_Check.s15 l s) (dupP l) () (fun i hi => by
      rw [hlen] at hi
      show ref33_Check.s15 l (i : Int) = _
      unfold ref33_Check.s15
      rw [if_pos (by simp; omega), List.getElem_range]
      have hlen2 : (List.range i).length = i := List.length_range
      have hg := iter_find (List.range i) (fun k => k) (f := fun (s : Int) => ref33_Check.s20 l (i : Int) s) (fun (k : Nat) => open Classical in if sameP (ix l (i : Int)) (ix l (k : Int)) then some (St.ret 14 : St Int Unit Int) else none) () (fun k hk => by
        rw [hlen2] at hk
        show ref33_Check.s20 l (i : Int) (k : Int) = _
        unfold ref33_Check.s20 ref33_Check.k22 sameP
        rw [if_pos (by simp; omega), if_pos (by omega), if_pos (by omega), List.getElem_range, w64_succ (by omega)]
        by_cases h1 : (ix l (i : Int)).I = (ix l (k : Int)).I
        · by_cases h2 : (ix l (i : Int)).J = (ix l (k : Int)).J <;> simp [h1, h2]
        · simp [h1]) (by
        show ref33_Check.s20 l (i : Int) _ = _
        unfold ref33_Check.s20
        rw [if_neg (by simp)])
      rw [hg, Option.bind_some]
      unfold dupP
      by_cases hd : ∃ k, k < i ∧ sameP (ix l (i : Int)) (ix l (k : Int))
      · rw [if_pos hd]
        obtain ⟨k, hk, hkv⟩ := hd
        have : (List.range i).findSome? (fun (k : Nat) => open Classical in if sameP (ix l (i : Int)) (ix l (k : Int)) then some (St.ret 14 : St Int Unit Int) else none) = some (St.ret 14) := by
          cases hf : (List.range i).findSome? (fun (k : Nat) => open Classical in if sameP (ix l (i : Int)) (ix l (k : Int)) then some (St.ret 14 : St Int Unit Int) else none) with
          | none => rw [List.findSome?_eq_none_iff] at hf; have := hf k (by simpa using hk); rw [if_pos hkv] at this; cases this
          | some v =>
            obtain ⟨k2, _, h2⟩ := List.exists_of_findSome?_eq_some hf
            split at h2
            · rw [← Option.some.inj h2]
            · cases h2
        rw [this]
        simp [fin]
      · rw [if_neg hd]
        have : (List.range i).findSome? (fun (k : Nat) => open Classical in if sameP (ix l (i : Int)) (ix l (k : Int)) then some (St.ret 14 : St Int Unit Int) else none) = none := by
          rw [List.findSome?_eq_none_iff]
          intro k hk
          rw [if_neg fun h => hd ⟨k, by simpa using hk, h⟩]
        rw [this]
        simp [fin, ref33_Check.k21]
        exact w64_succ (by omega)) (by
      show ref33_Check.s15 l _ = _
      unfold ref33_Check.s15
      rw [hlen, if_neg (by simp)])
    rw [hf, Option.bind_some]
    have hiff : Apart l ↔ ∀ i ∈ List.range l.length, dupP l i = none := by
      unfold Apart
      rw [List.pairwise_iff_getElem]
      constructor
      · intro h i hi
        have hi' : i < l.length := by simpa using hi
        unfold dupP
        rw [if_neg]
        rintro ⟨k, hk, hkv⟩
        rw [ix_at hi', ix_at (show k < l.length by omega)] at hkv
        exact h k i (by omega) hi' hk hkv
      · intro h k i hk hi hki hs'
        have := h i (by simpa using hi)
        unfold dupP at this
        rw [if_pos ⟨k, hki, by rw [ix_at hi, ix_at hk]; exact hs'⟩] at this
        cases this
    cases hfs : (List.range l.length).findSome? (dupP l) with
    | none =>
      rw [List.findSome?_eq_none_iff] at hfs
      rw [if_pos (hiff.2 hfs)]
      simp [fin, ref33_Check.k16]
    | some v =>
      obtain ⟨i, hi, h2⟩ := List.exists_of_findSome?_eq_some hfs
      rw [if_neg fun ha => by have := hiff.1 ha i hi; rw [h2] at this; cases this]
      unfold dupP at h2
      split at h2
      · rw [← Option.some.inj h2]; simp [fin]
      · cases h2
  · rw [if_pos (by simp [hs]), if_neg hs]
end Go.Proofs.Ytlfmmenlkpoodaa.M
