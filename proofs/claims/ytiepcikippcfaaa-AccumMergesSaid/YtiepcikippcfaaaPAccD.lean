/- Merging accumulators: the code and the reference. -/
import Derived.Test.YtiepcikippcfaaaPAccC
set_option linter.unusedVariables false
set_option linter.unusedSimpArgs false
set_option maxRecDepth 100000
namespace Go.Proofs.Ytiepcikippcfaaa.M
open Go.GW Go.Proofs

theorem foldE_map {α β e : Type} (f : α → β) (p : β → Bool) (err : e) : ∀ (xs : List α) (out : List β), foldE (fun out x => if p (f x) = true then .inl (out ++ [f x]) else .inr err) xs out = if (xs.map f).all p = true then .inl (out ++ xs.map f) else .inr err
  | [], out => by simp [foldE]
  | x :: xs, out => by
    simp only [foldE]
    by_cases h : p (f x) = true
    · rw [if_pos h]
      simp only
      rw [foldE_map f p err xs]
      simp [h]
    · rw [if_neg h]
      simp [h]
theorem foldE_map2 {α β γ e : Type} (f : α → β) (g : α → γ) (p : β → Bool) (q : γ → Bool) (err : e) : ∀ (xs : List α) (o1 : List β) (o2 : List γ), foldE (fun (out : List β × List γ) x => if (p (f x) && q (g x)) = true then .inl (out.1 ++ [f x], out.2 ++ [g x]) else .inr err) xs (o1, o2) = if ((xs.map f).all p && (xs.map g).all q) = true then .inl (o1 ++ xs.map f, o2 ++ xs.map g) else .inr err
  | [], o1, o2 => by simp [foldE]
  | x :: xs, o1, o2 => by
    simp only [foldE]
    by_cases h : (p (f x) && q (g x)) = true
    · rw [if_pos h]
      simp only
      rw [foldE_map2 f g p q err xs]
      simp only [Bool.and_eq_true] at h
      simp [h.1, h.2]
    · rw [if_neg h]
      simp only [Bool.and_eq_true, not_and, Bool.not_eq_true] at h
      cases hp : p (f x) with
      | false => simp [hp]
      | true => simp [hp, h hp]
def okB (c : Count) : Bool := decide (cok c)
def addC2 (x : Count × Count) : Count := canon (cval x.1 + cval x.2)
def sumsL (a b : List Count) : List Count := (a.zip b).map addC2
theorem accum_sum_ok {a b : List Count} (hl : a.length = b.length) (h1 : a.length ≤ 1000) (ha : ∀ c ∈ a, cok c) (hb : ∀ c ∈ b, cok c) : accum_sum.f a b = some (if (sumsL a b).all okB = true then (sumsL a b, true) else ([], false)) := by
  unfold accum_sum.f
  have hz : (a.zip b).length = a.length := by simp [hl]
  have hz2 : ((a.zip b).length : Int) = (a.length : Int) := by rw [hz]
  rw [iter_foldE (a.zip b) (fun (b : List Count) i => (b, i)) (fun out x => if okB (addC2 x) = true then .inl (out ++ [addC2 x]) else .inr (([] : List Count), false)) (fun b => b) (fun i b => b.length ≤ i) [] (Nat.le_refl _)]
  · rw [foldE_map]
    unfold sumsL
    by_cases h : ((a.zip b).map addC2).all okB = true
    · rw [if_pos h, if_pos h]; rfl
    · rw [if_neg h, if_neg h]; rfl
  · intro out i hi hlen
    rw [hz] at hi
    have hx := ha a[i] (List.getElem_mem hi)
    have hy := hb (b[i]'(by omega)) (List.getElem_mem (by omega))
    have key : accum_sum.s1 a b out (i : Int) = some (if okB (addC2 (a[i], b[i]'(by omega))) = true then .next (out ++ [addC2 (a[i], b[i]'(by omega))], (i : Int) + 1) else .ret ([], false)) := by
      unfold accum_sum.s1
      rw [if_pos (by simp; omega), if_pos (show (0 : Int) ≤ (i : Int) ∧ (i : Int) < (a.length : Int) by omega), if_pos (show (0 : Int) ≤ (i : Int) ∧ (i : Int) < (b.length : Int) by omega), ix_at hi, ix_at (xs := b) (show i < b.length by omega), wide_plus hx hy]
      simp only [Option.bind_some, wide_valid]
      rw [w64_id (show -9223372036854775808 ≤ (i : Int) + 1 by omega) (by omega)]
      have e : addC2 (a[i], b[i]'(by omega)) = canon (cval a[i] + cval (b[i]'(by omega))) := rfl
      rw [e]
      by_cases h : cok (canon (cval a[i] + cval (b[i]'(by omega))))
      · rw [if_neg (by simp [h]), if_pos (by simp; omega), if_pos (by simp [okB, h])]
      · rw [if_pos (by simp [h]), if_neg (by simp [okB, h])]
    rw [List.getElem_zip]
    constructor
    · intro b' hb'
      by_cases h : okB (addC2 (a[i], b[i]'(by omega))) = true
      · rw [if_pos h] at hb'
        injection hb' with hb'
        subst hb'
        exact ⟨by rw [key, if_pos h], by simp; omega⟩
      · rw [if_neg h] at hb'; cases hb'
    · intro v hv
      by_cases h : okB (addC2 (a[i], b[i]'(by omega))) = true
      · rw [if_pos h] at hv; cases hv
      · rw [if_neg h] at hv
        injection hv with hv
        subst hv
        rw [key, if_neg h]
  · intro b' _
    rw [hz2]
    unfold accum_sum.s1
    rw [if_neg (by simp)]

def mres (a b : Acc) (J : List Gap × Int) : Acc × Int :=
  if J.2 = 0 then (if ((sumsL a.Sums b.Sums).all okB && (sumsL a.Ns b.Ns).all okB) = true then (if 64 < J.1.length then (⟨[], [], []⟩, 4) else (⟨sumsL a.Sums b.Sums, sumsL a.Ns b.Ns, J.1⟩, 0)) else (⟨[], [], []⟩, 16)) else (⟨[], [], []⟩, J.2)
theorem accum_merge_ok {a b : Acc} (ha : Fit a) (hb : Fit b) (hl : a.Sums.length = b.Sums.length) : ∃ J, Joined a.Spans b.Spans J ∧ accum_merge.f a b = some (mres a b J) := by
  obtain ⟨J, h1, h2⟩ := accum_join_ok ha.runs hb.runs (by have := ha.spans; omega) (by have := hb.spans; omega)
  refine ⟨J, h2, ?_⟩
  unfold accum_merge.f mres
  rw [h1, accum_sum_ok hl (by have := ha.len; omega) ha.sums hb.sums, accum_sum_ok (by rw [ha.nlen, hb.nlen, hl]) (by have := ha.len; have := ha.nlen; omega) (fun c hc => (ha.ns c hc).1) (fun c hc => (hb.ns c hc).1)]
  simp only [Option.bind_some]
  by_cases hJ : J.2 = 0
  · rw [if_neg (by simp [hJ]), if_pos hJ]
    unfold accum_merge.k1
    cases h3 : (sumsL a.Sums b.Sums).all okB with
    | false => simp
    | true =>
      cases h4 : (sumsL a.Ns b.Ns).all okB with
      | false => simp
      | true =>
        by_cases h5 : 64 < J.1.length
        · have h6 : (64 : Int) < (J.1.length : Int) := by omega
          simp [h5, h6]
        · have h6 : ¬ (64 : Int) < (J.1.length : Int) := by omega
          simp [h5, h6]
  · rw [if_pos (by simp [hJ]), if_neg hJ]

def mergeR (a b : Acc) (J : List Gap × Int) : Acc × Int :=
  if chk a = 0 then (if chk b = 0 then (if a.Sums.length = b.Sums.length then mres a b J else (⟨[], [], []⟩, 2)) else (⟨[], [], []⟩, chk b)) else (⟨[], [], []⟩, chk a)
theorem accum_Merge_ok (a b : Acc) : ∃ J, (Fit a → Fit b → a.Sums.length = b.Sums.length → Joined a.Spans b.Spans J) ∧ accum_Merge.f a b = some (mergeR a b J) := by
  unfold accum_Merge.f mergeR
  rw [accum_check_ok, accum_check_ok]
  simp only [Option.bind_some]
  by_cases h1 : chk a = 0
  · rw [if_neg (by simp [h1])]
    by_cases h2 : chk b = 0
    · rw [if_neg (by simp [h2])]
      by_cases h3 : a.Sums.length = b.Sums.length
      · rw [if_neg (by simp; omega)]
        obtain ⟨J, h4, h5⟩ := accum_merge_ok ((chk_fit a).1 h1) ((chk_fit b).1 h2) h3
        exact ⟨J, fun _ _ _ => h4, by rw [h5]; simp [h1, h2, h3]⟩
      · rw [if_pos (by simp; omega)]
        exact ⟨([], 0), fun _ _ h => absurd h h3, by simp [h1, h2, h3]⟩
    · rw [if_pos (by simp [h2])]
      exact ⟨([], 0), fun _ h _ => absurd ((chk_fit b).2 h) h2, by simp [h1, h2]⟩
  · rw [if_pos (by simp [h1])]
    exact ⟨([], 0), fun h _ _ => absurd ((chk_fit a).2 h) h1, by simp [h1]⟩

/-! ### The reference -/
noncomputable def togF (l : List Gap) (g : Gap) : List Gap × Int := (ref18_together.f l g).getD ([], 0)
theorem togF_ok {l : List Gap} {g : Gap} (hl : RunsL l) (hg : Run g) (ll : l.length ≤ 1000) : ref18_together.f l g = some (togF l g) ∧ Joined l [g] (togF l g) ∧ (togF l g).1.length ≤ l.length + 1 := by
  obtain ⟨r, h1, h2, h3⟩ := ref_together_ok hl hg ll
  have : togF l g = r := by unfold togF; rw [h1]; rfl
  rw [this]
  exact ⟨h1, h2, h3⟩
noncomputable def stepM (out : List Gap) (x : Gap) : Sum (List Gap) (Acc × Int) := if (togF out x).2 = 0 then .inl (togF out x).1 else .inr (⟨[], [], []⟩, (togF out x).2)
structure InvM (a P out : List Gap) : Prop where
  runs : RunsL out
  set : ∀ t, InL out t ↔ InL a t ∨ InL P t
  tot : tot out = tot a + tot P
  no : ∀ t, ¬ (InL a t ∧ InL P t)
theorem stepM_ok {a P out : List Gap} {x : Gap} (h : InvM a P out) (hx : Run x) (hs : ∀ p ∈ P, Sep p x) (ll : out.length ≤ 1000) :
    (∃ o, stepM out x = .inl o ∧ InvM a (P ++ [x]) o ∧ o.length ≤ out.length + 1) ∨ (stepM out x = .inr (⟨[], [], []⟩, 14) ∧ ∃ t, InL a t ∧ InG x t) := by
  have one : ∀ t, InL [x] t ↔ InG x t := fun t => by rw [InL_cons]; simp only [InL_nil, or_false]
  obtain ⟨_, h2, h3⟩ := togF_ok h.runs hx ll
  rcases h2 with ⟨k1, k2, k3, k4, k5⟩ | ⟨k1, k2, t, k3, k4⟩
  · refine .inl ⟨_, by unfold stepM; rw [if_pos k1], ⟨k2, fun t => ?_, ?_, fun t ht => ?_⟩, h3⟩
    · rw [k3, h.set, InL_append, or_assoc]
    · rw [k4, h.tot, tot_append]; omega
    · rcases InL_append.1 ht.2 with h4 | h4
      · exact h.no t ⟨ht.1, h4⟩
      · exact k5 t ⟨(h.set t).2 (.inl ht.1), h4⟩
  · refine .inr ⟨by unfold stepM; rw [if_neg (by omega), k1], t, ?_, (one t).1 k4⟩
    rcases (h.set t).1 k3 with h4 | ⟨p, hp, h5⟩
    · exact h4
    · have := hs p hp
      rw [one] at k4
      unfold Sep at this; unfold InG at h5 k4; omega
theorem foldM (a : List Gap) : ∀ (L P out : List Gap), InvM a P out → RunsL (P ++ L) → out.length + L.length ≤ 900 →
    (∃ o, foldE stepM L out = .inl o ∧ InvM a (P ++ L) o) ∨ (foldE stepM L out = .inr (⟨[], [], []⟩, 14) ∧ ∃ t, InL a t ∧ InL L t)
  | [], P, out, h, _, _ => .inl ⟨out, rfl, by simpa using h⟩
  | x :: L, P, out, h, hr, hl => by
    obtain ⟨r1, r2, r3⟩ := RunsL.append.1 hr
    have hs : ∀ p ∈ P, Sep p x := fun p hp => r3 p hp x List.mem_cons_self
    have hx : Run x := (RunsL.cons.1 r2).1
    rw [List.length_cons] at hl
    rcases stepM_ok h hx hs (by omega) with ⟨o, h1, h2, h3⟩ | ⟨h1, t, h2, h3⟩
    · have e : P ++ x :: L = (P ++ [x]) ++ L := by simp
      rw [e] at hr ⊢
      rcases foldM a L (P ++ [x]) o h2 hr (by omega) with ⟨o', h4, h5⟩ | ⟨h4, t, h5, h6⟩
      · exact .inl ⟨o', by simp only [foldE, h1]; exact h4, h5⟩
      · exact .inr ⟨by simp only [foldE, h1]; exact h4, t, h5, InL_cons.2 (.inr h6)⟩
    · exact .inr ⟨by simp only [foldE, h1], t, h2, InL_cons.2 (.inl h3)⟩
theorem joined_ref {a b : List Gap} (ha : RunsL a) (hb : RunsL b) (h1 : a.length ≤ 100) (h2 : b.length ≤ 100) :
    ∃ J, Joined a b J ∧ ((∃ o, foldE stepM b a = .inl o ∧ J = (o, 0)) ∨ (foldE stepM b a = .inr (⟨[], [], []⟩, 14) ∧ J = ([], 14))) := by
  have h0 : InvM a [] a := ⟨ha, fun t => by simp [InL_nil], by simp [tot], fun t h => InL_nil _ h.2⟩
  rcases foldM a b [] a h0 hb (by omega) with ⟨o, h3, h4⟩ | ⟨h3, t, h4, h5⟩
  · exact ⟨(o, 0), .inl ⟨rfl, h4.runs, h4.set, h4.tot, h4.no⟩, .inl ⟨o, h3, rfl⟩⟩
  · exact ⟨([], 14), .inr ⟨rfl, rfl, t, h4, h5⟩, .inr ⟨h3, rfl⟩⟩
theorem ref_merge_spans {a b : Acc} (ha : Fit a) (hb : Fit b) :
    iter (fun (s : ((List Gap) × Int)) => ref18_Merge.s1 b s.1 s.2) (a.Spans, 0) = some (match foldE stepM b.Spans a.Spans with | .inl o => .brk o | .inr v => .ret v) := by
  rw [iter_foldE b.Spans (fun (o : List Gap) i => (o, i)) stepM (fun o => o) (fun i o => InvM a.Spans (b.Spans.take i) o ∧ o.length ≤ 100 + i) a.Spans ⟨⟨ha.runs, fun t => by simp [InL_nil], by simp [tot], fun t h => InL_nil _ h.2⟩, by have := ha.spans; omega⟩]
  · cases foldE stepM b.Spans a.Spans <;> rfl
  · rintro out i hi ⟨hinv, hlen⟩
    have hb64 := hb.spans
    have hx := hb.runs.1 b.Spans[i] (List.getElem_mem hi)
    have hsx : ∀ p ∈ b.Spans.take i, Sep p b.Spans[i] := by
      intro p hp
      have h := hb.runs
      rw [← List.take_append_drop i b.Spans, List.drop_eq_getElem_cons hi] at h
      exact (RunsL.append.1 h).2.2 p hp _ List.mem_cons_self
    obtain ⟨ht, _, _⟩ := togF_ok hinv.runs hx (by omega)
    have key : ref18_Merge.s1 b out (i : Int) = some (match stepM out b.Spans[i] with | .inl b' => .next (b', (i : Int) + 1) | .inr v => .ret v) := by
      unfold ref18_Merge.s1
      rw [if_pos (by simp; omega), if_pos (show (0 : Int) ≤ (i : Int) ∧ (i : Int) < (b.Spans.length : Int) by omega), ix_at hi, ht]
      simp only [Option.bind_some]
      rw [w64_id (show -9223372036854775808 ≤ (i : Int) + 1 by omega) (by omega)]
      unfold stepM
      by_cases h : (togF out b.Spans[i]).2 = 0
      · rw [if_neg (by simp [h]), if_pos h]
      · rw [if_pos (by simp [h]), if_neg h]
    constructor
    · intro b' hb'
      refine ⟨by rw [key, hb'], ?_⟩
      rcases stepM_ok hinv hx hsx (by omega) with ⟨o, h1, h2, h3⟩ | ⟨h1, _⟩
      · rw [h1] at hb'
        injection hb' with hb'
        subst hb'
        rw [List.take_append_getElem hi] at h2
        exact ⟨h2, by omega⟩
      · rw [h1] at hb'; cases hb'
    · intro v hv
      rw [key, hv]
  · intro o _
    unfold ref18_Merge.s1
    rw [if_neg (by simp)]
def add4 (x : (Count × Count) × (Count × Count)) : Count := addC2 x.1
def add4n (x : (Count × Count) × (Count × Count)) : Count := addC2 x.2
theorem ref_merge_sums {a b : Acc} (ha : Fit a) (hb : Fit b) (hl : a.Sums.length = b.Sums.length) :
    iter (fun (s : ((List Count) × (List Count) × Int)) => ref18_Merge.s24 a b s.1 s.2.1 s.2.2) ([], [], 0) = some (if ((sumsL a.Sums b.Sums).all okB && (sumsL a.Ns b.Ns).all okB) = true then .brk (sumsL a.Sums b.Sums, sumsL a.Ns b.Ns) else .ret (⟨[], [], []⟩, 16)) := by
  have hn1 := ha.nlen
  have hn2 := hb.nlen
  have hlen := ha.len
  have hz : ((a.Sums.zip b.Sums).zip (a.Ns.zip b.Ns)).length = a.Sums.length := by simp [hl, hn1, hn2]
  have hz2 : (((a.Sums.zip b.Sums).zip (a.Ns.zip b.Ns)).length : Int) = (a.Sums.length : Int) := by rw [hz]
  have hm1 : ((a.Sums.zip b.Sums).zip (a.Ns.zip b.Ns)).map add4 = sumsL a.Sums b.Sums := by
    have : ((a.Sums.zip b.Sums).zip (a.Ns.zip b.Ns)).map add4 = (((a.Sums.zip b.Sums).zip (a.Ns.zip b.Ns)).map Prod.fst).map addC2 := by rw [List.map_map]; rfl
    rw [this, List.map_fst_zip (by simp; omega)]; rfl
  have hm2 : ((a.Sums.zip b.Sums).zip (a.Ns.zip b.Ns)).map add4n = sumsL a.Ns b.Ns := by
    have : ((a.Sums.zip b.Sums).zip (a.Ns.zip b.Ns)).map add4n = (((a.Sums.zip b.Sums).zip (a.Ns.zip b.Ns)).map Prod.snd).map addC2 := by rw [List.map_map]; rfl
    rw [this, List.map_snd_zip (by simp; omega)]; rfl
  rw [iter_foldE ((a.Sums.zip b.Sums).zip (a.Ns.zip b.Ns)) (fun (o : List Count × List Count) i => (o.1, o.2, i)) (fun out x => if (okB (add4 x) && okB (add4n x)) = true then .inl (out.1 ++ [add4 x], out.2 ++ [add4n x]) else .inr ((⟨[], [], []⟩ : Acc), (16 : Int))) (fun o => o) (fun i o => o.1.length ≤ i ∧ o.2.length ≤ i) ([], []) ⟨Nat.le_refl _, Nat.le_refl _⟩]
  · rw [foldE_map2, hm1, hm2]
    by_cases h : ((sumsL a.Sums b.Sums).all okB && (sumsL a.Ns b.Ns).all okB) = true
    · rw [if_pos h, if_pos h]; rfl
    · rw [if_neg h, if_neg h]
  · rintro ⟨o1, o2⟩ i hi ⟨h1, h2⟩
    rw [hz] at hi
    simp only at h1 h2
    have ib : i < b.Sums.length := by omega
    have ian : i < a.Ns.length := by omega
    have ibn : i < b.Ns.length := by omega
    have c1 := ha.sums a.Sums[i] (List.getElem_mem hi)
    have c2 := hb.sums b.Sums[i] (List.getElem_mem ib)
    have c3 := (ha.ns a.Ns[i] (List.getElem_mem ian)).1
    have c4 := (hb.ns b.Ns[i] (List.getElem_mem ibn)).1
    have e1 : add4 ((a.Sums[i], b.Sums[i]), (a.Ns[i], b.Ns[i])) = canon (cval a.Sums[i] + cval b.Sums[i]) := rfl
    have e2 : add4n ((a.Sums[i], b.Sums[i]), (a.Ns[i], b.Ns[i])) = canon (cval a.Ns[i] + cval b.Ns[i]) := rfl
    have key : ref18_Merge.s24 a b o1 o2 (i : Int) = some (if (okB (add4 ((a.Sums[i], b.Sums[i]), (a.Ns[i], b.Ns[i]))) && okB (add4n ((a.Sums[i], b.Sums[i]), (a.Ns[i], b.Ns[i])))) = true then .next (o1 ++ [add4 ((a.Sums[i], b.Sums[i]), (a.Ns[i], b.Ns[i]))], o2 ++ [add4n ((a.Sums[i], b.Sums[i]), (a.Ns[i], b.Ns[i]))], (i : Int) + 1) else .ret (⟨[], [], []⟩, 16)) := by
      rw [e1, e2]
      have b1 := cval_bound c1
      have b2 := cval_bound c2
      have b3 := cval_bound c3
      have b4 := cval_bound c4
      unfold ref18_Merge.s24
      rw [if_pos (by simp; omega), if_pos (show (0 : Int) ≤ (i : Int) ∧ (i : Int) < (a.Sums.length : Int) by omega), ix_at hi, ref_worth c1]
      simp only [Option.bind_some]
      rw [if_pos (show (0 : Int) ≤ (i : Int) ∧ (i : Int) < (b.Sums.length : Int) by omega), ix_at ib, ref_worth c2]
      simp only [Option.bind_some]
      rw [w64_id (x := cval a.Sums[i] + cval b.Sums[i]) (by omega) (by omega), ref_counted (by omega) (by omega)]
      simp only [Option.bind_some]
      unfold ref18_Merge.k30
      rw [if_pos (show (0 : Int) ≤ (i : Int) ∧ (i : Int) < (a.Ns.length : Int) by omega), ix_at ian, ref_worth c3]
      simp only [Option.bind_some]
      rw [if_pos (show (0 : Int) ≤ (i : Int) ∧ (i : Int) < (b.Ns.length : Int) by omega), ix_at ibn, ref_worth c4]
      simp only [Option.bind_some]
      rw [w64_id (x := cval a.Ns[i] + cval b.Ns[i]) (by omega) (by omega), ref_counted (by omega) (by omega)]
      simp only [Option.bind_some]
      unfold ref18_Merge.k31 ref18_Merge.k32 ref18_Merge.k29
      simp only [lt']
      rw [w64_id (show -9223372036854775808 ≤ (i : Int) + 1 by omega) (by omega)]
      unfold okB
      by_cases h3 : cok (canon (cval a.Sums[i] + cval b.Sums[i]))
      · by_cases h4 : cok (canon (cval a.Ns[i] + cval b.Ns[i]))
        · simp only [h3, h4, decide_true, Bool.not_true, Bool.false_eq_true, if_false, Bool.and_self, if_true]
          rw [if_pos (by simp; omega), if_pos (by simp; omega)]
        · simp [h3, h4]
      · simp [h3]
    rw [List.getElem_zip, List.getElem_zip, List.getElem_zip]
    constructor
    · intro b' hb'
      by_cases h : (okB (add4 ((a.Sums[i], b.Sums[i]), (a.Ns[i], b.Ns[i]))) && okB (add4n ((a.Sums[i], b.Sums[i]), (a.Ns[i], b.Ns[i])))) = true
      · rw [if_pos h] at hb'
        injection hb' with hb'
        subst hb'
        exact ⟨by simp only; rw [key, if_pos h], by simp; omega, by simp; omega⟩
      · rw [if_neg h] at hb'; cases hb'
    · intro v hv
      by_cases h : (okB (add4 ((a.Sums[i], b.Sums[i]), (a.Ns[i], b.Ns[i]))) && okB (add4n ((a.Sums[i], b.Sums[i]), (a.Ns[i], b.Ns[i])))) = true
      · rw [if_pos h] at hv; cases hv
      · rw [if_neg h] at hv
        injection hv with hv
        subst hv
        simp only
        rw [key, if_neg h]
  · rintro ⟨o1, o2⟩ _
    rw [hz2]
    unfold ref18_Merge.s24
    simp only
    rw [if_neg (by simp)]
theorem ref_Merge_ok (a b : Acc) : ∃ J, (Fit a → Fit b → a.Sums.length = b.Sums.length → Joined a.Spans b.Spans J) ∧ ref18_Merge.f a b = some (mergeR a b J) := by
  unfold ref18_Merge.f mergeR
  rw [ref_check_ok, ref_check_ok]
  simp only [Option.bind_some]
  by_cases h1 : chk a = 0
  · rw [if_neg (by simp [h1])]
    by_cases h2 : chk b = 0
    · rw [if_neg (by simp [h2])]
      by_cases h3 : a.Sums.length = b.Sums.length
      · have fa := (chk_fit a).1 h1
        have fb := (chk_fit b).1 h2
        rw [if_neg (by simp; omega), if_pos (by simp; have := fa.spans; omega), List.nil_append, ref_merge_spans fa fb]
        obtain ⟨J, h4, h5⟩ := joined_ref fa.runs fb.runs (by have := fa.spans; omega) (by have := fb.spans; omega)
        refine ⟨J, fun _ _ _ => h4, ?_⟩
        rcases h5 with ⟨o, h5, rfl⟩ | ⟨h5, rfl⟩
        · rw [h5]
          simp only [Option.bind_some, fin]
          unfold ref18_Merge.k2 ref18_Merge.k25
          rw [ref_merge_sums fa fb h3]
          simp only [h1, h2, h3, if_true]
          unfold mres
          simp only [if_true]
          by_cases h6 : ((sumsL a.Sums b.Sums).all okB && (sumsL a.Ns b.Ns).all okB) = true
          · rw [if_pos h6, if_pos h6]
            simp only [Option.bind_some, fin]
            by_cases h7 : 64 < o.length
            · rw [if_pos (by simp; omega), if_pos h7]
            · rw [if_neg (by simp; omega), if_neg h7]
          · rw [if_neg h6, if_neg h6]
            rfl
        · rw [h5]
          simp [h1, h2, h3, mres, fin]
      · rw [if_pos (by simp; omega)]
        exact ⟨([], 0), fun _ _ h => absurd h h3, by simp [h1, h2, h3]⟩
    · rw [if_pos (by simp [h2])]
      exact ⟨([], 0), fun _ h _ => absurd ((chk_fit b).2 h) h2, by simp [h1, h2]⟩
  · rw [if_pos (by simp [h1])]
    exact ⟨([], 0), fun h _ _ => absurd ((chk_fit a).2 h) h1, by simp [h1]⟩
theorem merge_same (a b : Acc) : accum_Merge.f a b = ref18_Merge.f a b := by
  obtain ⟨J, h1, h2⟩ := accum_Merge_ok a b
  obtain ⟨J', h3, h4⟩ := ref_Merge_ok a b
  rw [h2, h4]
  congr 1
  unfold mergeR
  by_cases c1 : chk a = 0
  · by_cases c2 : chk b = 0
    · by_cases c3 : a.Sums.length = b.Sums.length
      · have fa := (chk_fit a).1 c1
        have fb := (chk_fit b).1 c2
        rw [(h1 fa fb c3).unique (h3 fa fb c3) (fun _ => Iff.rfl) Iff.rfl]
      · simp [c3]
    · simp [c2]
  · simp [c1]
end Go.Proofs.Ytiepcikippcfaaa.M
