/- Accumulators: checks, counts and merging, of the code and of the reference. -/
import Derived.Test.YtiepcikippcfaaaPAccB
set_option linter.unusedVariables false
set_option linter.unusedSimpArgs false
set_option maxRecDepth 100000
namespace Go.Proofs.Ytiepcikippcfaaa.M
open Go.GW Go.Proofs

/-! ### Counts -/
def cval (c : Count) : Int := c.Hi * 1000000000 + c.Lo
def cok (c : Count) : Prop := 0 ≤ c.Lo ∧ c.Lo < 1000000000 ∧ -1000000000 ≤ c.Hi ∧ c.Hi < 1000000000
instance (c : Count) : Decidable (cok c) := by unfold cok; infer_instance
def canon (v : Int) : Count := ⟨v / 1000000000, v % 1000000000⟩
theorem canon_val {c : Count} (h : cok c) : canon (cval c) = c := by
  cases c
  unfold cok at h
  unfold canon cval
  simp only at h ⊢
  simp only [Count.mk.injEq]
  omega
theorem val_canon (v : Int) : cval (canon v) = v := by unfold cval canon; simp only; omega
theorem cval_bound {c : Count} (h : cok c) : -1000000000000000000 ≤ cval c ∧ cval c < 1000000000000000000 := by unfold cok at h; unfold cval; omega
theorem canon_eq {hi lo : Int} (h1 : 0 ≤ lo) (h2 : lo < 1000000000) : (⟨hi, lo⟩ : Count) = canon (hi * 1000000000 + lo) := by
  unfold canon
  simp only [Count.mk.injEq]
  omega
theorem bool4 (a b c d : Prop) [Decidable a] [Decidable b] [Decidable c] [Decidable d] : (if decide a = true then (if decide b = true then (if decide c = true then some (decide d) else some false) else some false) else some false) = some (decide (a ∧ b ∧ c ∧ d)) := by
  by_cases a <;> by_cases b <;> by_cases c <;> by_cases d <;> simp [*]
theorem wide_valid (c : Count) : accum_wide_valid.f ⟨c⟩ = some (decide (cok c)) := by
  unfold accum_wide_valid.f
  rw [bool4]
  rfl
theorem ref_valid (c : Count) : ref18_Valid.f c = some (decide (cok c)) := by
  unfold ref18_Valid.f
  rw [bool4]
  rfl
theorem ref_worth {c : Count} (h : cok c) : ref18_Worth.f c = some (cval c) := by
  unfold ref18_Worth.f
  have := cval_bound h
  unfold cok at h
  unfold cval at this ⊢
  rw [w64_id (x := 1000000000 * c.Hi) (by omega) (by omega), w64_id (by omega) (by omega)]
  congr 1
  omega
theorem wide_value {c : Count} (h : cok c) : accum_wide_value.f ⟨c⟩ = some (cval c) := by
  unfold accum_wide_value.f
  have := cval_bound h
  unfold cok at h
  unfold cval at this ⊢
  simp only
  rw [w64_id (x := c.Hi * 1000000000) (by omega) (by omega), w64_id (by omega) (by omega)]
theorem wide_plus {a b : Count} (ha : cok a) (hb : cok b) : accum_wide_plus.f ⟨a⟩ ⟨b⟩ = some ⟨canon (cval a + cval b)⟩ := by
  unfold accum_wide_plus.f accum_wide_plus.k1
  unfold cok at ha hb
  simp only
  rw [w64_id (x := a.Lo + b.Lo) (by omega) (by omega), w64_id (x := a.Hi + b.Hi) (by omega) (by omega)]
  split
  · rename_i h
    simp only [decide_eq_true_eq] at h
    rw [w64_id (x := a.Hi + b.Hi + 1) (by omega) (by omega), w64_id (by omega) (by omega), canon_eq (by omega) (by omega)]
    congr 3
    unfold cval; omega
  · rename_i h
    simp only [decide_eq_true_eq] at h
    rw [canon_eq (by omega) (by omega)]
    congr 3
    unfold cval; omega
/-! ### Runs -/
def runsB : Int → List Gap → Bool
  | _, [] => true
  | free, g :: l => decide (free ≤ g.At ∧ 1 ≤ g.Many ∧ g.At ≤ 1000000000 ∧ g.Many ≤ 1000000000 - g.At) && runsB (g.At + g.Many + 1) l
def stepR (free : Int) (g : Gap) : Sum Int Bool := if free ≤ g.At ∧ 1 ≤ g.Many ∧ g.At ≤ 1000000000 ∧ g.Many ≤ 1000000000 - g.At then .inl (g.At + g.Many + 1) else .inr false
theorem foldR_out : ∀ (l : List Gap) (free : Int), (runsB free l = true ∧ ∃ t, foldE stepR l free = .inl t) ∨ (runsB free l = false ∧ foldE stepR l free = .inr false)
  | [], free => .inl ⟨rfl, free, rfl⟩
  | g :: l, free => by
    simp only [foldE, stepR, runsB]
    by_cases h : free ≤ g.At ∧ 1 ≤ g.Many ∧ g.At ≤ 1000000000 ∧ g.Many ≤ 1000000000 - g.At
    · rw [if_pos h]
      rcases foldR_out l (g.At + g.Many + 1) with ⟨h1, t, h2⟩ | ⟨h1, h2⟩
      · exact .inl ⟨by simp [h, h1], t, h2⟩
      · exact .inr ⟨by simp [h1], h2⟩
    · rw [if_neg h]
      exact .inr ⟨by simp [h], rfl⟩
theorem runsB_iff : ∀ (l : List Gap) (free : Int), 0 ≤ free → (runsB free l = true ↔ RunsL l ∧ ∀ g ∈ l, free ≤ g.At)
  | [], free, _ => by simp [runsB, RunsL.nil]
  | g :: l, free, h0 => by
    simp only [runsB, Bool.and_eq_true, decide_eq_true_eq]
    constructor
    · rintro ⟨⟨h1, h2, h3, h4⟩, h5⟩
      obtain ⟨h6, h7⟩ := (runsB_iff l _ (by omega)).1 h5
      refine ⟨RunsL.cons.2 ⟨⟨by omega, by omega, h2, h4⟩, fun x hx => ?_, h6⟩, fun x hx => ?_⟩
      · have := h7 x hx; unfold Sep; omega
      · rcases List.mem_cons.1 hx with rfl | hx
        · exact h1
        · have := h7 x hx; omega
    · rintro ⟨h1, h2⟩
      obtain ⟨h3, h4, h5⟩ := RunsL.cons.1 h1
      have h6 := h2 g List.mem_cons_self
      unfold Run at h3
      refine ⟨⟨h6, by omega, by omega, by omega⟩, (runsB_iff l _ (by omega)).2 ⟨h5, fun x hx => ?_⟩⟩
      have := h4 x hx; unfold Sep at this; omega
theorem runsB_zero (l : List Gap) : runsB 0 l = true ↔ RunsL l := by
  rw [runsB_iff l 0 (Int.le_refl _)]
  exact ⟨fun h => h.1, fun h => ⟨h, fun g hg => (h.1 g hg).1⟩⟩
theorem accum_runs_ok (l : List Gap) (hl : l.length ≤ 1000) : accum_runs.f l = some (runsB 0 l) := by
  unfold accum_runs.f
  rw [iter_foldE l (fun (b : Int) i => (b, i)) stepR (fun _ => ()) (fun _ b => 0 ≤ b ∧ b ≤ 1000000001) 0 ⟨by omega, by omega⟩]
  · rcases foldR_out l 0 with ⟨h1, t, h2⟩ | ⟨h1, h2⟩ <;> rw [h1, h2] <;> rfl
  · rintro free i hi ⟨hf1, hf2⟩
    have key : accum_runs.s4 l free (i : Int) = some (match stepR free l[i] with | .inl b' => .next (b', (i : Int) + 1) | .inr v => .ret v) := by
      unfold accum_runs.s4
      rw [if_pos (by simp; omega), if_pos (by omega), ix_at hi]
      have hix : ix l (i : Int) = l[i] := ix_at hi
      generalize l[i] = g at hix
      unfold stepR accum_runs.k6
      rw [hix]
      simp only [lt', w64_id (show -9223372036854775808 ≤ (i : Int) + 1 by omega) (by omega)]
      by_cases c1 : g.At < free
      · rw [if_pos (by simpa using c1), if_pos trivial, if_neg (by omega)]
      · rw [if_neg (by simpa using c1)]
        by_cases c2 : g.Many < 1
        · rw [if_pos (by simpa using c2), if_pos trivial, if_neg (by omega)]
        · rw [if_neg (by simpa using c2)]
          by_cases c3 : 1000000000 < g.At
          · rw [if_pos (by simpa using c3), if_pos trivial, if_neg (by omega)]
          · rw [if_neg (by simpa using c3), w64_id (x := 1000000000 - g.At) (by omega) (by omega)]
            by_cases c4 : 1000000000 - g.At < g.Many
            · rw [if_pos (by simpa using c4), if_neg (by omega)]
            · rw [if_neg (by simpa using c4), if_pos (by omega), w64_id (x := g.At + g.Many) (by omega) (by omega), w64_id (by omega) (by omega)]
    constructor
    · intro b' hb
      refine ⟨by rw [key, hb], ?_⟩
      unfold stepR at hb
      split at hb
      · injection hb with hb; subst hb; omega
      · cases hb
    · intro v hv
      rw [key, hv]
  · intro b _
    unfold accum_runs.s4
    rw [if_neg (by simp)]
theorem ref_runs_ok (l : List Gap) (hl : l.length ≤ 1000) : ref18_Runs.f l = some (runsB 0 l) := by
  unfold ref18_Runs.f
  rw [iter_foldE l (fun (b : Int) i => i) stepR (fun _ => ()) (fun i b => 0 ≤ b ∧ b ≤ 1000000001 ∧ (i = 0 → b = 0) ∧ ∀ (h : i - 1 < l.length), 0 < i → b = l[i - 1].At + l[i - 1].Many + 1) 0 ⟨by omega, by omega, fun _ => rfl, fun _ h => absurd h (by omega)⟩]
  · rcases foldR_out l 0 with ⟨h1, t, h2⟩ | ⟨h1, h2⟩ <;> rw [h1, h2] <;> rfl
  · rintro free i hi ⟨hf1, hf2, hf3, hf4⟩
    have key : ref18_Runs.s6 l (i : Int) = some (match stepR free l[i] with | .inl b' => .next ((i : Int) + 1) | .inr v => .ret v) := by
      unfold ref18_Runs.s6
      rw [if_pos (by simp; omega), if_pos (by omega), ix_at hi]
      have hix : ix l (i : Int) = l[i] := ix_at hi
      generalize l[i] = g at hix
      unfold stepR ref18_Runs.k8 ref18_Runs.k9
      rw [hix]
      simp only [lt', w64_id (show -9223372036854775808 ≤ (i : Int) + 1 by omega) (by omega)]
      by_cases c1 : g.At < 0
      · rw [if_pos (by simpa using c1), if_pos trivial, if_neg (by omega)]
      · rw [if_neg (by simpa using c1)]
        by_cases c3 : 1000000000 < g.At
        · rw [if_pos (by simpa using c3), if_pos trivial, if_neg (by omega)]
        · rw [if_neg (by simpa using c3)]
          by_cases c2 : g.Many < 1
          · rw [if_pos (by simpa using c2), if_pos trivial, if_neg (by omega)]
          · rw [if_neg (by simpa using c2), w64_id (x := 1000000000 - g.At) (by omega) (by omega)]
            by_cases c4 : 1000000000 - g.At < g.Many
            · rw [if_pos (by simpa using c4), if_neg (by omega)]
            · rw [if_neg (by simpa using c4)]
              by_cases c5 : 0 < i
              · have h1 := hf4 (by omega) c5
                have h2 : ix l ((i : Int) - 1) = l[i - 1] := by
                  have := ix_at (xs := l) (i := i - 1) (by omega)
                  rw [← this]; congr 1; omega
                rw [if_pos (by simp; omega), if_pos (by omega), w64_id (x := (i : Int) - 1) (by omega) (by omega), if_pos (by omega), h2, w64_id (x := l[i - 1].At + l[i - 1].Many) (by omega) (by omega)]
                by_cases c6 : g.At ≤ l[i - 1].At + l[i - 1].Many
                · rw [if_pos (by simpa using c6), if_neg (by omega)]
                · rw [if_neg (by simpa using c6), if_pos (by omega)]
              · have h1 := hf3 (by omega)
                rw [if_neg (by simp; omega), if_neg (by simp), if_pos (by omega)]
    constructor
    · intro b' hb
      refine ⟨by rw [key, hb], ?_⟩
      unfold stepR at hb
      split at hb
      · injection hb with hb; subst hb
        exact ⟨by omega, by omega, fun h => by omega, fun h _ => rfl⟩
      · cases hb
    · intro v hv
      rw [key, hv]
  · intro b _
    unfold ref18_Runs.s6
    rw [if_neg (by simp)]

/-! ### Checks -/
def badC (least : Int) (c : Count) : Bool := !decide (cok c) || decide (c.Hi < least)
theorem accum_bad (c : Count) (least : Int) : accum_Check_1.f c least = some (badC least c) := by
  unfold accum_Check_1.f badC
  rw [wide_valid]
  simp only [Option.bind_some]
  by_cases h : cok c <;> simp [h]
theorem accum_contains (l : List Count) (least : Int) (hl : l.length ≤ 1000) : slices_ContainsFunc__api_Count_api_Count__accum_Check_1.f l least = some (l.any (badC least)) := by
  unfold slices_ContainsFunc__api_Count_api_Count__accum_Check_1.f slices_IndexFunc__api_Count_api_Count__accum_Check_1.f
  rw [iter_findIdx l (fun i => i) (badC least) ()]
  · by_cases hb : l.any (badC least) = true
    · simp only [if_pos hb, fin, Option.bind_some]
      have : (0 : Int) ≤ ((List.findIdx (badC least) l : Nat) : Int) := by omega
      simp [this, hb]
    · simp only [if_neg hb, fin, Option.bind_some, slices_IndexFunc__api_Count_api_Count__accum_Check_1.k2]
      simp [hb]
  · intro i hi
    unfold slices_IndexFunc__api_Count_api_Count__accum_Check_1.s1
    rw [ix_at hi, accum_bad]
    simp only [decide_eq_true_eq, if_pos (show (i : Int) < (l.length : Int) by omega), if_pos (show (0 : Int) ≤ i ∧ (i : Int) < (l.length : Int) by omega), Option.bind_some]
    rw [w64_id (by omega) (by omega)]
    split <;> rfl
  · simp [slices_IndexFunc__api_Count_api_Count__accum_Check_1.s1]
def fitB (a : Acc) : Bool := decide (a.Sums.length % 2 = 1) && (decide (a.Ns.length = a.Sums.length) && (!a.Sums.any (badC (-1000000000)) && (runsB 0 a.Spans && !a.Ns.any (badC 0))))
def chk (a : Acc) : Int := if 511 < a.Sums.length ∨ 511 < a.Ns.length ∨ 64 < a.Spans.length then 4 else if fitB a then 0 else 8
theorem tmod2 (n : Nat) : Int.tmod (n : Int) 2 = ((n % 2 : Nat) : Int) := by rw [Int.tmod_eq_emod_of_nonneg (by omega)]; omega
theorem accum_check_ok (a : Acc) : accum_Check.f a = some (chk a) := by
  unfold accum_Check.f accum_Check.k1 chk
  by_cases c1 : 511 < a.Sums.length
  · rw [if_pos (by simp; omega), if_pos rfl, if_pos (.inl c1)]
  · rw [if_neg (by simp; omega)]
    by_cases c2 : 511 < a.Ns.length
    · rw [if_pos (by simp; omega), if_pos rfl, if_pos (.inr (.inl c2))]
    · rw [if_neg (by simp; omega)]
      by_cases c3 : 64 < a.Spans.length
      · rw [if_pos (by simp; omega), if_pos (.inr (.inr c3))]
      · rw [if_neg (show ¬ (511 < a.Sums.length ∨ 511 < a.Ns.length ∨ 64 < a.Spans.length) by omega), if_neg (by simp; omega), tmod2]
        unfold accum_Check.k2 fitB
        rw [accum_contains _ _ (by omega), accum_contains _ _ (by omega), accum_runs_ok _ (by omega)]
        simp only [Option.bind_some]
        by_cases d1 : a.Sums.length % 2 = 1
        · have e1 : ¬ ((a.Sums.length % 2 : Nat) : Int) = 0 := by omega
          by_cases d2 : a.Ns.length = a.Sums.length
          · have e2 : (a.Ns.length : Int) = a.Sums.length := by omega
            cases h3 : a.Sums.any (badC (-1000000000)) <;> cases h4 : runsB 0 a.Spans <;> cases h5 : a.Ns.any (badC 0) <;> simp [d1, e1, d2, e2]
          · have e2 : ¬ (a.Ns.length : Int) = a.Sums.length := by omega
            simp [d1, e1, d2, e2]
        · have e1 : ((a.Sums.length % 2 : Nat) : Int) = 0 := by omega
          simp [d1, e1]
theorem zip_any {α β : Type} (p : α → Bool) (q : β → Bool) : ∀ (l : List α) (m : List β), l.length = m.length → (l.zip m).any (fun x => p x.1 || q x.2) = (l.any p || m.any q)
  | [], [], _ => rfl
  | [], _ :: _, h => by simp at h
  | _ :: _, [], h => by simp at h
  | x :: l, y :: m, h => by
    have := zip_any p q l m (by simpa using h)
    simp only [List.zip_cons_cons, List.any_cons, this]
    cases p x <;> cases q y <;> cases l.any p <;> cases m.any q <;> rfl
theorem ref_check_ok (a : Acc) : ref18_Check.f a = some (chk a) := by
  unfold ref18_Check.f ref18_Check.k1 chk
  by_cases c1 : 511 < a.Sums.length
  · rw [if_pos (by simp; omega), if_pos rfl, if_pos (.inl c1)]
  · rw [if_neg (by simp; omega)]
    by_cases c2 : 511 < a.Ns.length
    · rw [if_pos (by simp; omega), if_pos rfl, if_pos (.inr (.inl c2))]
    · rw [if_neg (by simp; omega)]
      by_cases c3 : 64 < a.Spans.length
      · rw [if_pos (by simp; omega), if_pos (.inr (.inr c3))]
      · rw [if_neg (show ¬ (511 < a.Sums.length ∨ 511 < a.Ns.length ∨ 64 < a.Spans.length) by omega), if_neg (by simp; omega), tmod2, ref_runs_ok _ (by omega)]
        unfold ref18_Check.k2 fitB
        by_cases d2 : a.Ns.length = a.Sums.length
        · have e2 : (a.Sums.length : Int) = a.Ns.length := by omega
          rw [if_neg (by simp only [Bool.not_eq_true', decide_eq_false_iff_not]; omega)]
          by_cases d1 : a.Sums.length % 2 = 1
          · rw [if_neg (by simp only [Bool.not_eq_true', decide_eq_false_iff_not]; omega)]
            simp only [Option.bind_some]
            cases h4 : runsB 0 a.Spans with
            | false => simp
            | true =>
              have hz : (a.Sums.zip a.Ns).length = a.Sums.length := by simp [d2]
              have hz2 : ((a.Sums.zip a.Ns).length : Int) = (a.Sums.length : Int) := by rw [hz]
              rw [iter_find (a.Sums.zip a.Ns) (fun i => i) (fun x => if badC (-1000000000) x.1 || badC 0 x.2 then some 8 else none) ()]
              · have hf : (a.Sums.zip a.Ns).findSome? (fun x => if badC (-1000000000) x.1 || badC 0 x.2 then some (8 : Int) else none) = if (a.Sums.zip a.Ns).any (fun x => badC (-1000000000) x.1 || badC 0 x.2) then some 8 else none := by
                  generalize a.Sums.zip a.Ns = z
                  induction z with
                  | nil => rfl
                  | cons x z ih =>
                    rw [List.findSome?_cons, List.any_cons]
                    cases hx : (badC (-1000000000) x.1 || badC 0 x.2) with
                    | true => simp
                    | false => simp only [Bool.false_eq_true, if_false, Bool.false_or]; exact ih
                rw [hf, zip_any _ _ _ _ d2.symm]
                cases h3 : a.Sums.any (badC (-1000000000)) <;> cases h5 : a.Ns.any (badC 0) <;> simp [d1, d2, fin, ref18_Check.k7]
              · intro i hi
                rw [hz] at hi
                unfold ref18_Check.s6 ref18_Check.k8
                rw [if_pos (by simp; omega), if_pos (show (0 : Int) ≤ (i : Int) ∧ (i : Int) < (a.Sums.length : Int) by omega), if_pos (show (0 : Int) ≤ (i : Int) ∧ (i : Int) < (a.Ns.length : Int) by omega), ix_at hi, ix_at (xs := a.Ns) (show i < a.Ns.length by omega), w64_id (show -9223372036854775808 ≤ (i : Int) + 1 by omega) (by omega), ref_valid, ref_valid, List.getElem_zip]
                simp only [Option.bind_some]
                generalize a.Sums[i] = x
                generalize a.Ns[i] = y
                unfold badC
                by_cases h6 : cok x
                · by_cases h7 : cok y
                  · rw [ref_worth h7]
                    have h8 : (cval y < 0) ↔ (y.Hi < 0) := by unfold cok at h7; unfold cval; omega
                    have h9 : ¬ x.Hi < -1000000000 := by unfold cok at h6; omega
                    by_cases h10 : y.Hi < 0
                    · have := h8.2 h10; simp [h6, h7, h9, h10, this]
                    · have : ¬ cval y < 0 := fun h => h10 (h8.1 h)
                      simp [h6, h7, h9, h10, this]
                  · simp [h6, h7]
                · simp [h6]
              · rw [hz2]
                unfold ref18_Check.s6
                rw [if_neg (by simp)]
          · rw [if_pos (by simp only [Bool.not_eq_true', decide_eq_false_iff_not]; omega)]
            simp [d1]
        · rw [if_pos (by simp only [Bool.not_eq_true', decide_eq_false_iff_not]; omega)]
          simp [d2]
structure Fit (a : Acc) : Prop where
  len : a.Sums.length ≤ 511
  odd : a.Sums.length % 2 = 1
  nlen : a.Ns.length = a.Sums.length
  spans : a.Spans.length ≤ 64
  runs : RunsL a.Spans
  sums : ∀ c ∈ a.Sums, cok c
  ns : ∀ c ∈ a.Ns, cok c ∧ 0 ≤ c.Hi
theorem chk_fit (a : Acc) : chk a = 0 ↔ Fit a := by
  unfold chk
  constructor
  · intro h
    split at h
    · cases h
    · rename_i h1
      split at h
      · rename_i h2
        unfold fitB at h2
        simp only [Bool.and_eq_true, decide_eq_true_eq, Bool.not_eq_true', List.any_eq_false] at h2
        obtain ⟨h3, h4, h5, h6, h7⟩ := h2
        refine ⟨by omega, h3, h4, by omega, (runsB_zero _).1 h6, fun c hc => ?_, fun c hc => ?_⟩
        · have := h5 c hc; unfold badC at this; simp at this; exact this.1
        · have := h7 c hc; unfold badC at this; simp at this; exact this
      · cases h
  · intro h
    rw [if_neg (by have := h.len; have := h.nlen; have := h.spans; omega), if_pos]
    unfold fitB
    simp only [Bool.and_eq_true, decide_eq_true_eq, Bool.not_eq_true', List.any_eq_false]
    refine ⟨h.odd, h.nlen, fun c hc => ?_, (runsB_zero _).2 h.runs, fun c hc => ?_⟩
    · have := h.sums c hc; unfold badC; simp [this]; unfold cok at this; omega
    · have := h.ns c hc; unfold badC; simp [this.1]; exact this.2
end Go.Proofs.Ytiepcikippcfaaa.M
