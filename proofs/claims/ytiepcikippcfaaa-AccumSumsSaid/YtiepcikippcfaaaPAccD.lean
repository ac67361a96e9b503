/- Merging accumulators: the code and the reference. -/
import Derived.Test.YtiepcikippcfaaaPAccC
set_option linter.unusedVariables false
set_option linter.unusedSimpArgs false
set_option maxRecDepth 100000
namespace Go.Proofs.Ytiepcikippcfaaa.M
open Go.GW Go.Proofs

theorem foldE_map {α β e : Type} (f : α → β) (p : β → Bool) (err : e) : ∀ (xs : List α) (out : List β), foldE (fun out x => if p (f x) = true then .inl (out ++ [f x]) else .inr err) xs out = if (xs.map f).all p = true then .inl (out ++ xs.map f) else .inr err
  | [], out => by simp [foldE]
  | x :: xs, out => by
    simp only [foldE]
    by_cases h : p (f x) = true
    · rw [if_pos h]
      simp only
      rw [foldE_map f p err xs]
      simp [h]
    · rw [if_neg h]
      simp [h]
theorem foldE_map2 {α β γ e : Type} (f : α → β) (g : α → γ) (p : β → Bool) (q : γ → Bool) (err : e) : ∀ (xs : List α) (o1 : List β) (o2 : List γ), foldE (fun (out : List β × List γ) x => if (p (f x) && q (g x)) = true then .inl (out.1 ++ [f x], out.2 ++ [g x]) else .inr err) xs (o1, o2) = if ((xs.map f).all p && (xs.map g).all q) = true then .inl (o1 ++ xs.map f, o2 ++ xs.map g) else .inr err
  | [], o1, o2 => by simp [foldE]
  | x :: xs, o1, o2 => by
    simp only [foldE]
    by_cases h : (p (f x) && q (g x)) = true
    · rw [if_pos h]
      simp only
      rw [foldE_map2 f g p q err xs]
      simp only [Bool.and_eq_true] at h
      simp [h.1, h.2]
    · rw [if_neg h]
      simp only [Bool.and_eq_true, not_and, Bool.not_eq_true] at h
      cases hp : p (f x) with
      | false => simp [hp]
      | true => simp [hp, h hp]
def okB (c : Count) : Bool := decide (cok c)
def addC2 (x : Count × Count) : Count := canon (cval x.1 + cval x.2)
def sumsL (a b : List Count) : List Count := (a.zip b).map addC2
theorem accum_sum_ok {a b : List Count} (hl : a.length = b.length) (h1 : a.length ≤ 1000) (ha : ∀ c ∈ a, cok c) (hb : ∀ c ∈ b, cok c) : accum_sum.f a b = some (if (sumsL a b).all okB = true then (sumsL a b, true) else ([], false)) := by
  unfold accum_sum.f
  have hz : (a.zip b).length = a.length := by simp [hl]
  have hz2 : ((a.zip b).length : Int) = (a.length : Int) := by rw [hz]
  rw [iter_foldE (a.zip b) (fun (b : List Count) i => (b, i)) (fun out x => if okB (addC2 x) = true then .inl (out ++ [addC2 x]) else .inr (([] : List Count), false)) (fun b => b) (fun i b => b.length ≤ i) [] (Nat.le_refl _)]
  · rw [foldE_map]
    unfold sumsL
    by_cases h : ((a.zip b).map addC2).all okB = true
    · rw [if_pos h, if_pos h]; rfl
    · rw [if_neg h, if_neg h]; rfl
  · intro out i hi hlen
    rw [hz] at hi
    have hx := ha a[i] (List.getElem_mem hi)
    have hy := hb (b[i]'(by omega)) (List.getElem_mem (by omega))
    have key : accum_sum.s1 a b out (i : Int) = some (if okB (addC2 (a[i], b[i]'(by omega))) = true then .next (out ++ [addC2 (a[i], b[i]'(by omega))], (i : Int) + 1) else .ret ([], false)) := by
      unfold accum_sum.s1
      rw [if_pos (by simp; omega), if_pos (show (0 : Int) ≤ (i : Int) ∧ (i : Int) < (a.length : Int) by omega), if_pos (show (0 : Int) ≤ (i : Int) ∧ (i : Int) < (b.length : Int) by omega), ix_at hi, ix_at (xs := b) (show i < b.length by omega), wide_plus hx hy]
      simp only [Option.bind_some, wide_valid]
      rw [w64_id (show -9223372036854775808 ≤ (i : Int) + 1 by omega) (by omega)]
      have e : addC2 (a[i], b[i]'(by omega)) = canon (cval a[i] + cval (b[i]'(by omega))) := rfl
      rw [e]
      by_cases h : cok (canon (cval a[i] + cval (b[i]'(by omega))))
      · rw [if_neg (by simp [h]), if_pos (by simp; omega), if_pos (by simp [okB, h])]
      · rw [if_pos (by simp [h]), if_neg (by simp [okB, h])]
    rw [List.getElem_zip]
    constructor
    · intro b' hb'
      by_cases h : okB (addC2 (a[i], b[i]'(by omega))) = true
      · rw [if_pos h] at hb'
        injection hb' with hb'
        subst hb'
        exact ⟨by rw [key, if_pos h], by simp; omega⟩
      · rw [if_neg h] at hb'; cases hb'
    · intro v hv
      by_cases h : okB (addC2 (a[i], b[i]'(by omega))) = true
      · rw [if_pos h] at hv; cases hv
      · rw [if_neg h] at hv
        injection hv with hv
        subst hv
        rw [key, if_neg h]
  · intro b' _
    rw [hz2]
    unfold accum_sum.s1
    rw [if_neg (by simp)]

def mres (a b : Acc) (J : List Gap × Int) : Acc × Int :=
  if J.2 = 0 then (if ((sumsL a.Sums b.Sums).all okB && (sumsL a.Ns b.Ns).all okB) = true then (if 64 < J.1.length then (⟨[], [], []⟩, 4) else (⟨sumsL a.Sums b.Sums, sumsL a.Ns b.Ns, J.1⟩, 0)) else (⟨[], [], []⟩, 16)) else (⟨[], [], []⟩, J.2)
theorem accum_merge_ok {a b : Acc} (ha : Fit a) (hb : Fit b) (hl : a.Sums.length = b.Sums.length) : ∃ J, Joined a.Spans b.Spans J ∧ accum_merge.f a b = some (mres a b J) := by
  obtain ⟨J, h1, h2⟩ := accum_join_ok ha.runs hb.runs (by have := ha.spans; omega) (by have := hb.spans; omega)
  refine ⟨J, h2, ?_⟩
  unfold accum_merge.f mres
  rw [h1, accum_sum_ok hl (by have := ha.len; omega) ha.sums hb.sums, accum_sum_ok (by rw [ha.nlen, hb.nlen, hl]) (by have := ha.len; have := ha.nlen; omega) (fun c hc => (ha.ns c hc).1) (fun c hc => (hb.ns c hc).1)]
  simp only [Option.bind_some]
  by_cases hJ : J.2 = 0
  · rw [if_neg (by simp [hJ]), if_pos hJ]
    unfold accum_merge.k1
    cases h3 : (sumsL a.Sums b.Sums).all okB with
    | false => simp
    | true =>
      cases h4 : (sumsL a.Ns b.Ns).all okB with
      | false => simp
      | true =>
        by_cases h5 : 64 < J.1.length
        · have h6 : (64 : Int) < (J.1.length : Int) := by omega
          simp [h5, h6]
        · have h6 : ¬ (64 : Int) < (J.1.length : Int) := by omega
          simp [h5, h6]
  · rw [if_pos (by simp [hJ]), if_neg hJ]

def mergeR (a b : Acc) (J : List Gap × Int) : Acc × Int :=
  if chk a = 0 then (if chk b = 0 then (if a.Sums.length = b.Sums.length then mres a b J else (⟨[], [], []⟩, 2)) else (⟨[], [], []⟩, chk b)) else (⟨[], [], []⟩, chk a)
theorem accum_Merge_ok (a b : Acc) : ∃ J, (Fit a → Fit b → a.Sums.length = b.Sums.length → Joined a.Spans b.Spans J) ∧ accum_Merge.f a b = some (mergeR a b J) := by
  unfold accum_Merge.f mergeR
  rw [accum_check_ok, accum_check_ok]
  simp only [Option.bind_some]
  by_cases h1 : chk a = 0
  · rw [if_neg (by simp [h1])]
    by_cases h2 : chk b = 0
    · rw [if_neg (by simp [h2])]
      by_cases h3 : a.Sums.length = b.Sums.length
      · rw [if_neg (by simp; omega)]
        obtain ⟨J, h4, h5⟩ := accum_merge_ok ((chk_fit a).1 h1) ((chk_fit b).1 h2) h3
        exact ⟨J, fun _ _ _ => h4, by rw [h5]; simp [h1, h2, h3]⟩
      · rw [if_pos (by simp; omega)]
        exact ⟨([], 0), fun _ _ h => absurd h h3, by simp [h1, h2, h3]⟩
    · rw [if_pos (by simp [h2])]
      exact ⟨([], 0), fun _ h _ => absurd ((chk_fit b).2 h) h2, by simp [h1, h2]⟩
  · rw [if_pos (by simp [h1])]
    exact ⟨([], 0), fun h _ _ => absurd ((chk_fit a).2 h) h1, by simp [h1]⟩

/-! ### The reference -/
structure InvM (a P out : List Gap) : Prop where
  runs : RunsL out
  set : ∀ t, InL out t ↔ InL a t ∨ InL P t
  tot : tot out = tot a + tot P
  no : ∀ t, ¬ (InL a t ∧ InL P t)
def add4 (x : (Count × Count) × (Count × Count)) : Count := addC2 x.1
def add4n (x : (Count × Count) × (Count × Count)) : Count := addC2 x.2
end Go.Proofs.Ytiepcikippcfaaa.M
