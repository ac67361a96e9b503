/- Merging: the order and the grouping. -/
import Derived.Test.YtiepcikippcfaaaPAccE
set_option linter.unusedVariables false
set_option linter.unusedSimpArgs false
set_option maxRecDepth 100000
namespace Go.Proofs.Ytiepcikippcfaaa.M
open Go.GW Go.Proofs

theorem sumsL_comm : ∀ (a b : List Count), sumsL a b = sumsL b a
  | [], [] => rfl
  | [], _ :: _ => rfl
  | _ :: _, [] => rfl
  | x :: a, y :: b => by
    have := sumsL_comm a b
    unfold sumsL at this ⊢
    rw [List.zip_cons_cons, List.zip_cons_cons, List.map_cons, List.map_cons, this]
    congr 1
    unfold addC2
    rw [Int.add_comm]
theorem sumsL_assoc : ∀ (a b c : List Count), sumsL (sumsL a b) c = sumsL a (sumsL b c)
  | [], b, c => by simp [sumsL]
  | _ :: _, [], c => by simp [sumsL]
  | _ :: _, _ :: _, [] => by simp [sumsL]
  | x :: a, y :: b, z :: c => by
    have := sumsL_assoc a b c
    unfold sumsL at this ⊢
    simp only [List.zip_cons_cons, List.map_cons]
    rw [this]
    congr 1
    unfold addC2
    simp only [val_canon]
    rw [Int.add_assoc]
theorem mem_sumsL {a b : List Count} {c : Count} (h : c ∈ sumsL a b) : ∃ x ∈ a, ∃ y ∈ b, c = canon (cval x + cval y) := by
  unfold sumsL at h
  obtain ⟨p, hp, rfl⟩ := List.mem_map.1 h
  obtain ⟨h1, h2⟩ := List.of_mem_zip hp
  exact ⟨_, h1, _, h2, rfl⟩
theorem Joined.comm {a b : List Gap} {J J' : List Gap × Int} (h : Joined a b J) (h' : Joined b a J') : J = J' :=
  h.unique h' (fun t => Or.comm) ⟨fun ⟨t, x, y⟩ => ⟨t, y, x⟩, fun ⟨t, x, y⟩ => ⟨t, y, x⟩⟩
structure MOk (a b : Acc) (J : List Gap × Int) (x : Acc) : Prop where
  eq : x = ⟨sumsL a.Sums b.Sums, sumsL a.Ns b.Ns, J.1⟩
  fit : Fit x
  zero : J.2 = 0
  len : x.Sums.length = a.Sums.length
theorem mres_ok {a b : Acc} {J : List Gap × Int} (ha : Fit a) (hb : Fit b) (hl : a.Sums.length = b.Sums.length) (hJ : Joined a.Spans b.Spans J) (h : (mres a b J).2 = 0) : MOk a b J (mres a b J).1 := by
  unfold mres at h ⊢
  by_cases h0 : J.2 = 0
  · rw [if_pos h0] at h ⊢
    by_cases h1 : ((sumsL a.Sums b.Sums).all okB && (sumsL a.Ns b.Ns).all okB) = true
    · rw [if_pos h1] at h ⊢
      by_cases h2 : 64 < J.1.length
      · rw [if_pos h2] at h; cases h
      · rw [if_neg h2]
        rw [Bool.and_eq_true, List.all_eq_true, List.all_eq_true] at h1
        have e1 : (sumsL a.Sums b.Sums).length = a.Sums.length := by rw [length_sumsL]; omega
        have e2 : (sumsL a.Ns b.Ns).length = a.Sums.length := by rw [length_sumsL]; have := ha.nlen; have := hb.nlen; omega
        refine ⟨rfl, ⟨by simp only; rw [e1]; exact ha.len, by simp only; rw [e1]; exact ha.odd, by simp only; rw [e1, e2], by simp only; omega, ?_, fun c hc => ?_, fun c hc => ?_⟩, h0, e1⟩
        · rcases hJ with ⟨_, k, _⟩ | ⟨k, _⟩
          · exact k
          · omega
        · exact of_decide_eq_true (h1.1 c hc)
        · refine ⟨of_decide_eq_true (h1.2 c hc), ?_⟩
          obtain ⟨x, hx, y, hy, rfl⟩ := mem_sumsL hc
          have k1 := ha.ns x hx
          have k2 := hb.ns y hy
          unfold cok at k1 k2
          unfold canon cval
          simp only
          omega
    · rw [if_neg h1] at h; cases h
  · rw [if_neg h0] at h; exact absurd h h0
theorem mergeR_fit {a b : Acc} {J : List Gap × Int} (ha : Fit a) (hb : Fit b) : mergeR a b J = if a.Sums.length = b.Sums.length then mres a b J else (⟨[], [], []⟩, 2) := by
  unfold mergeR
  rw [if_pos ((chk_fit a).2 ha), if_pos ((chk_fit b).2 hb)]
theorem Fit.small {a : Acc} (h : Fit a) : Small a := by
  have := h.len; have := h.nlen; have := h.spans
  unfold Small; omega
theorem mres_comm {a b : Acc} {J J' : List Gap × Int} (h : J = J') : mres a b J = mres b a J' := by
  subst h
  unfold mres
  rw [sumsL_comm a.Sums, sumsL_comm a.Ns]
theorem mres_err {a b : Acc} {J : List Gap × Int} (hJ : Joined a.Spans b.Spans J) : ((mres a b J).2 = 14 ↔ J.2 = 14) := by
  unfold mres
  rcases hJ with ⟨k, _⟩ | ⟨k, _⟩
  · rw [if_pos k]
    constructor
    · intro h
      split at h
      · split at h <;> simp at h
      · simp at h
    · intro h; omega
  · rw [if_neg (by omega), k]
/-- Three accumulators, grouped both ways: the joined runs are one. -/
theorem joined_assoc {a b c x z : List Gap} {J G K L : List Gap × Int} (h1 : Joined a b J) (h2 : Joined b c G) (e1 : J.2 = 0) (e2 : G.2 = 0) (h3 : Joined J.1 c K) (h4 : Joined a G.1 L) : K = L := by
  rcases h1 with ⟨_, _, s1, _, n1⟩ | ⟨k, _⟩
  · rcases h2 with ⟨_, _, s2, _, n2⟩ | ⟨k, _⟩
    · refine h3.unique h4 (fun t => by rw [s1, s2, or_assoc]) ⟨?_, ?_⟩
      · rintro ⟨t, ht, hc⟩
        rcases (s1 t).1 ht with h | h
        · exact ⟨t, h, (s2 t).2 (.inr hc)⟩
        · exact absurd ⟨h, hc⟩ (n2 t)
      · rintro ⟨t, ha, ht⟩
        rcases (s2 t).1 ht with h | h
        · exact absurd ⟨ha, h⟩ (n1 t)
        · exact ⟨t, (s1 t).2 (.inl ha), h⟩
    · omega
  · omega
theorem fit_f (a : Acc) : ∃ b, law18_fit.f a = some b ∧ (b = true ↔ Fit a) := by
  unfold law18_fit.f ref18_Great.f
  rw [ref_check_ok]
  by_cases h : Fit a
  · have h1 := h.len; have h2 := h.nlen; have h3 := h.spans
    have h4 := (chk_fit a).2 h
    rw [if_neg (by simp; omega), if_neg (by simp; omega)]
    refine ⟨true, ?_, by simp [h]⟩
    have : ¬ (100 : Int) < (a.Spans.length : Int) := by omega
    simp [this, h4]
  · have h4 : ¬ chk a = 0 := fun e => h ((chk_fit a).1 e)
    refine ⟨false, ?_, by simp [h]⟩
    split
    · rfl
    · split
      · rfl
      · simp only [Option.bind_some, h4, decide_false]
        split <;> rfl
end Go.Proofs.Ytiepcikippcfaaa.M
