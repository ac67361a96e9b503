/- Joining runs: what the code and the reference come to. -/
import Derived.Test.YtiepcikippcfaaaPAccA
import Derived.Test.YtiepcikippcfaaaPCmpAccum
set_option linter.unusedVariables false
set_option linter.unusedSimpArgs false
set_option maxRecDepth 100000
namespace Go.Proofs.Ytiepcikippcfaaa.M
open Go.GW Go.Proofs

def errE {β r s : Type} (k : r → s) : Sum β r → Sum β s
  | .inl b => .inl b
  | .inr u => .inr (k u)
theorem foldE_err {α β r s : Type} (g : β → α → Sum β r) (k : r → s) : ∀ (xs : List α) (b : β), foldE (fun b x => errE k (g b x)) xs b = errE k (foldE g xs b)
  | [], b => rfl
  | x :: xs, b => by
    simp only [foldE]
    cases g b x with
    | inl b' => exact foldE_err g k xs b'
    | inr u => rfl
theorem foldE_st {β r s τ : Type} (k : r → s) (x : Sum β r) (fi : β → τ) : (match errE k x with | .inl b => Out.brk (fi b) | .inr v => Out.ret v) = (match x with | .inl b => Out.brk (fi b) | .inr u => Out.ret (k u)) := by
  cases x <;> rfl
theorem ifT {α : Type} {p : Prop} [Decidable p] {x y : α} (h : p) : (if p then x else y) = x := if_pos h
theorem ifF {α : Type} {p : Prop} [Decidable p] {x y : α} (h : ¬ p) : (if p then x else y) = y := if_neg h
theorem last_eq {α : Type} [Inhabited α] {l : List α} {x : α} (h : l.getLast? = some x) : 0 < l.length ∧ ix l ((l.length : Int) - 1) = x ∧ ∀ y, l.set ((l.length : Int) - 1).toNat y = l.dropLast ++ [y] := by
  have hne : l ≠ [] := by intro e; subst e; cases h
  have hsplit : l = l.dropLast ++ [x] := by
    have h1 := List.dropLast_concat_getLast hne
    have h2 : l.getLast hne = x := by rw [List.getLast?_eq_some_getLast hne] at h; injection h
    rw [h2] at h1; exact h1.symm
  generalize l.dropLast = m at hsplit
  subst hsplit
  have e : (((m ++ [x]).length : Int) - 1) = (m.length : Int) := by simp
  refine ⟨by simp, ?_, fun y => ?_⟩
  · rw [e, ix_at (by simp)]; simp
  · rw [e]; simp

theorem accum_concat (a b : List Gap) (ha : a.length ≤ 1000) (hb : b.length ≤ 1000) : slices_Concat__api_Gap_api_Gap.f [a, b] = some (a ++ b) := by
  have hi0 : ix ([a, b] : List (List Gap)) 0 = a := rfl
  have hi1 : ix ([a, b] : List (List Gap)) 1 = b := rfl
  have hl : (([a, b] : List (List Gap)).length : Int) = 2 := rfl
  unfold slices_Concat__api_Gap_api_Gap.f
  have w1 : w64 (0 + 1) = 1 := w64_id (by omega) (by omega)
  have w2 : w64 (1 + 1) = 2 := w64_id (by omega) (by omega)
  have wa : w64 (0 + (a.length : Int)) = a.length := by rw [w64_id (by omega) (by omega)]; omega
  have wb : w64 ((a.length : Int) + (b.length : Int)) = a.length + b.length := w64_id (by omega) (by omega)
  have s0 : slices_Concat__api_Gap_api_Gap.s1 [a, b] 0 0 = some (.next ((a.length : Int), 1)) := by
    unfold slices_Concat__api_Gap_api_Gap.s1
    simp only [hl, hi0, lt', wa, w1]
    rw [if_pos (by decide), if_pos (by decide), if_neg (by simp <;> omega)]
  have s1 : slices_Concat__api_Gap_api_Gap.s1 [a, b] a.length 1 = some (.next ((a.length : Int) + b.length, 2)) := by
    unfold slices_Concat__api_Gap_api_Gap.s1
    simp only [hl, hi1, lt', wb, w2]
    rw [if_pos (by decide), if_pos (by decide), if_neg (by simp <;> omega)]
  have s2 : ∀ s, slices_Concat__api_Gap_api_Gap.s1 [a, b] s 2 = some (.brk s) := fun s => by
    unfold slices_Concat__api_Gap_api_Gap.s1
    simp only [hl]
    rw [if_neg (by decide)]
  rw [iter_next s0, iter_next s1, iter_brk (s2 _)]
  simp only [Option.bind_some, fin]
  unfold slices_Concat__api_Gap_api_Gap.k2
  have hg : slices_Grow__api_Gap_api_Gap__nil.f ((a.length : Int) + b.length) = some [] := by
    unfold slices_Grow__api_Gap_api_Gap__nil.f
    have w : w64 ((a.length : Int) + b.length - 0) = a.length + b.length := by rw [w64_id (by omega) (by omega)]; omega
    simp only [w]
    rw [if_neg (by simp; omega)]
    split
    · rename_i h
      simp only [decide_eq_true_eq] at h
      rw [if_pos (by omega), if_pos ⟨by omega, by omega⟩]
      simp
    · rfl
  rw [hg]
  simp only [Option.bind_some]
  have t0 : slices_Concat__api_Gap_api_Gap.s3 [a, b] [] 0 = some (.next (a, 1)) := by
    unfold slices_Concat__api_Gap_api_Gap.s3
    simp only [hl, hi0, w1]
    rw [if_pos (by decide), if_pos (by decide), if_pos (by simp; omega)]
    simp
  have t1 : slices_Concat__api_Gap_api_Gap.s3 [a, b] a 1 = some (.next (a ++ b, 2)) := by
    unfold slices_Concat__api_Gap_api_Gap.s3
    simp only [hl, hi1, w2]
    rw [if_pos (by decide), if_pos (by decide), if_pos (by omega)]
  have t2 : ∀ s, slices_Concat__api_Gap_api_Gap.s3 [a, b] s 2 = some (.brk s) := fun s => by
    unfold slices_Concat__api_Gap_api_Gap.s3
    simp only [hl]
    rw [if_neg (by decide)]
  rw [iter_next t0, iter_next t1, iter_brk (t2 _)]
  rfl

theorem asc_of {l : List Gap} (h : l.Pairwise (fun a b => ¬ cf_accum_join_1 b a < 0)) : Asc l := h.imp fun {a b} h => by
  unfold cf_accum_join_1 at h
  split at h
  · omega
  · omega
def runOk (g : Gap) : Prop := 0 ≤ g.At ∧ g.At ≤ 1000000000 ∧ 0 ≤ g.Many ∧ g.At + g.Many ≤ 1000000000
theorem Run.okk {g : Gap} (h : Run g) : runOk g := by unfold Run at h; unfold runOk; omega
theorem mem_last {α : Type} {l : List α} {x : α} (h : l.getLast? = some x) : x ∈ l := List.mem_of_getLast? h

theorem accum_join_fold (L : List Gap) (hL : L.length ≤ 2000) (hr : ∀ g ∈ L, Run g) :
    iter (fun (s : ((List Gap) × Int)) => accum_join.s10 L s.1 s.2) ([], 0) = some (match foldE stepJ L [] with | .inl o => .brk o | .inr _ => .ret ([], 14)) := by
  rw [iter_foldE L (fun (b : List Gap) i => (b, i)) (fun b x => errE (fun _ => (([] : List Gap), (14 : Int))) (stepJ b x)) (fun b => b) (fun i b => b.length ≤ i ∧ ∀ g ∈ b, runOk g) [] ⟨Nat.le_refl _, fun _ h => by cases h⟩]
  · rw [foldE_err stepJ (fun _ => (([] : List Gap), (14 : Int)))]
    cases foldE stepJ L [] <;> rfl
  · rintro out i hi ⟨hlen, hok⟩
    have hg := (hr L[i] (List.getElem_mem hi)).okk
    have key : accum_join.s10 L out (i : Int) = some (match stepJ out L[i] with | .inl b' => .next (b', (i : Int) + 1) | .inr _ => .ret ([], 14)) := by
      unfold accum_join.s10
      rw [if_pos (by simp; omega), if_pos (by omega), ix_at hi]
      simp only [lt']
      generalize hgg : L[i] = g at hg
      have w1 : w64 ((i : Int) + 1) = i + 1 := w64_id (by omega) (by omega)
      have hixg : ix L (i : Int) = g := by rw [ix_at hi, hgg]
      cases hl : out.getLast? with
      | none =>
        have ho : out = [] := by simpa using hl
        subst ho
        rw [if_pos (by simp)]
        unfold accum_join.k14 accum_join.k13
        rw [if_pos rfl, hixg, if_pos (by simp), w1]
        simp [stepJ]
      | some x =>
        obtain ⟨h0, h1, h2⟩ := last_eq hl
        have hx := hok x (mem_last hl)
        unfold runOk at hx hg
        have wn : w64 ((out.length : Int) - 1) = (out.length : Int) - 1 := w64_id (by omega) (by omega)
        have wx : w64 (x.At + x.Many) = x.At + x.Many := w64_id (by omega) (by omega)
        rw [if_neg (by simp only [decide_eq_true_eq]; omega), wn, h1, wx, if_pos (by omega)]
        have hs : stepJ out g = (if x.At + x.Many < g.At then .inl (out ++ [g]) else if g.At < x.At + x.Many then .inr () else .inl (out.dropLast ++ [⟨x.At, x.Many + g.Many⟩])) := by unfold stepJ; rw [hl]
        rw [hs]
        unfold accum_join.k14 accum_join.k13
        rw [wn, h1, hixg, wx]
        by_cases c1 : x.At + x.Many < g.At
        · rw [if_pos (by simpa using c1), if_pos (by simp; omega), if_pos c1, w1]
        · rw [if_neg (by simpa using c1), if_pos (by omega), if_neg c1]
          by_cases c2 : g.At < x.At + x.Many
          · rw [if_pos (by simpa using c2), if_pos c2]
          · rw [if_neg (by simpa using c2), if_neg c2]
            simp only [lt']
            rw [h2, w1, w64_id (by omega) (by omega)]
    constructor
    · intro b' hb
      cases hs : stepJ out L[i] with
      | inr u => rw [hs] at hb; cases hb
      | inl b2 =>
        rw [hs] at hb
        injection hb with hb
        subst hb
        refine ⟨by rw [key, hs], ?_⟩
        unfold runOk at hg
        unfold stepJ at hs
        cases hl : out.getLast? with
        | none =>
          rw [hl] at hs
          injection hs with hs
          subst hs
          refine ⟨by simp; omega, fun g hgm => ?_⟩
          rcases List.mem_append.1 hgm with h | h
          · exact hok g h
          · simp at h; subst h; exact hg
        | some x =>
          rw [hl] at hs
          simp only at hs
          have hx := hok x (mem_last hl)
          unfold runOk at hx
          split at hs
          · injection hs with hs
            subst hs
            refine ⟨by simp; omega, fun g hgm => ?_⟩
            rcases List.mem_append.1 hgm with h | h
            · exact hok g h
            · simp at h; subst h; exact hg
          · split at hs
            · cases hs
            · injection hs with hs
              subst hs
              obtain ⟨h0, _, _⟩ := last_eq hl
              refine ⟨by simp; omega, fun g hgm => ?_⟩
              rcases List.mem_append.1 hgm with h | h
              · exact hok g (List.dropLast_subset _ h)
              · simp at h; subst h; unfold runOk; simp only; omega
    · intro v hv
      cases hs : stepJ out L[i] with
      | inl b2 => rw [hs] at hv; cases hv
      | inr u =>
        rw [hs] at hv
        injection hv with hv
        subst hv
        rw [key, hs]
  · rintro out _
    unfold accum_join.s10
    rw [if_neg (by simp)]

theorem accum_join_ok {a b : List Gap} (ha : RunsL a) (hb : RunsL b) (la : a.length ≤ 1000) (lb : b.length ≤ 1000) : ∃ r, accum_join.f a b = some r ∧ Joined a b r := by
  unfold accum_join.f
  rw [accum_concat a b la lb]
  simp only [Option.bind_some]
  rw [if_pos (by simp; omega)]
  obtain ⟨L, hL⟩ := sortF_some (p := pc_accum_join_1) cf_accum_join_1 (xs := a ++ b) (fun _ _ => rfl)
  obtain ⟨h1, h2, _⟩ := sortF_spec cmpM_accum_join_1 hL
  rw [hL]
  simp only [Option.bind_some]
  rw [accum_join_fold L (by rw [h1.length_eq]; simp; omega) (fun g hg => (List.mem_append.1 (h1.subset hg)).elim (ha.1 g) (hb.1 g))]
  have hj := joined_of ha hb h1 (asc_of h2)
  simp only [Option.bind_some]
  cases hf : foldE stepJ L [] with
  | inl o => rw [hf] at hj; exact ⟨_, rfl, hj⟩
  | inr u => rw [hf] at hj; exact ⟨_, rfl, hj⟩

/-! ### The reference -/
theorem foldT_len : ∀ (L : List Gap) (s s' : Gap × List Gap × List Gap), foldE stepT L s = .inl s' → s'.2.1.length + s'.2.2.length ≤ s.2.1.length + s.2.2.length + L.length
  | [], s, s', h => by simp only [foldE] at h; injection h with h; subst h; simp
  | x :: L, s, s', h => by
    simp only [foldE] at h
    cases hs : stepT s x with
    | inr u => rw [hs] at h; cases h
    | inl s1 =>
      rw [hs] at h
      have h1 := foldT_len L s1 s' h
      have h2 : s1.2.1.length + s1.2.2.length ≤ s.2.1.length + s.2.2.length + 1 := by
        unfold stepT at hs
        repeat' split at hs
        all_goals first | (injection hs with hs; subst hs; simp only [List.length_append, List.length_singleton]; omega) | cases hs
      rw [List.length_cons]
      omega
end Go.Proofs.Ytiepcikippcfaaa.M
