/- Runs of times, as lists and as sets (no program in sight). -/
import Derived.Test.YtiepcikippcfaaaM0
import Derived.Test.YtiepcikippcfaaaGp1
set_option linter.unusedVariables false
set_option linter.unusedSimpArgs false
namespace Go.Proofs.Ytiepcikippcfaaa.M
open Go.GW Go.Proofs

def Run (g : Gap) : Prop := 0 ≤ g.At ∧ g.At ≤ 1000000000 ∧ 1 ≤ g.Many ∧ g.Many ≤ 1000000000 - g.At
def Sep (a b : Gap) : Prop := a.At + a.Many < b.At
def RunsL (l : List Gap) : Prop := (∀ g ∈ l, Run g) ∧ l.Pairwise Sep
def InG (g : Gap) (t : Int) : Prop := g.At ≤ t ∧ t < g.At + g.Many
def InL (l : List Gap) (t : Int) : Prop := ∃ g ∈ l, InG g t
def Dis (a b : Gap) : Prop := a.At + a.Many ≤ b.At ∨ b.At + b.Many ≤ a.At
def tot (l : List Gap) : Int := (l.map (·.Many)).sum

theorem InL_nil (t : Int) : ¬ InL [] t := fun ⟨g, h, _⟩ => by cases h
theorem InL_cons {g : Gap} {l : List Gap} {t : Int} : InL (g :: l) t ↔ InG g t ∨ InL l t := by
  constructor
  · rintro ⟨x, hx, ht⟩
    rcases List.mem_cons.1 hx with rfl | hx
    · exact .inl ht
    · exact .inr ⟨x, hx, ht⟩
  · rintro (h | ⟨x, hx, ht⟩)
    · exact ⟨g, List.mem_cons_self, h⟩
    · exact ⟨x, List.mem_cons_of_mem _ hx, ht⟩
theorem InL_append {l m : List Gap} {t : Int} : InL (l ++ m) t ↔ InL l t ∨ InL m t := by
  constructor
  · rintro ⟨x, hx, ht⟩
    rcases List.mem_append.1 hx with hx | hx
    · exact .inl ⟨x, hx, ht⟩
    · exact .inr ⟨x, hx, ht⟩
  · rintro (⟨x, hx, ht⟩ | ⟨x, hx, ht⟩)
    · exact ⟨x, List.mem_append_left _ hx, ht⟩
    · exact ⟨x, List.mem_append_right _ hx, ht⟩
theorem RunsL.nil : RunsL [] := ⟨(fun _ h => by cases h), List.Pairwise.nil⟩
theorem RunsL.cons {g : Gap} {l : List Gap} : RunsL (g :: l) ↔ Run g ∧ (∀ x ∈ l, Sep g x) ∧ RunsL l := by
  unfold RunsL
  rw [List.pairwise_cons]
  constructor
  · rintro ⟨h1, h2, h3⟩
    exact ⟨h1 g List.mem_cons_self, h2, fun x hx => h1 x (List.mem_cons_of_mem _ hx), h3⟩
  · rintro ⟨h1, h2, h3, h4⟩
    refine ⟨fun x hx => ?_, h2, h4⟩
    rcases List.mem_cons.1 hx with rfl | hx
    · exact h1
    · exact h3 x hx
theorem RunsL.append {l m : List Gap} : RunsL (l ++ m) ↔ RunsL l ∧ RunsL m ∧ ∀ x ∈ l, ∀ y ∈ m, Sep x y := by
  unfold RunsL
  rw [List.pairwise_append]
  constructor
  · rintro ⟨h1, h2, h3, h4⟩
    exact ⟨⟨fun x hx => h1 x (List.mem_append_left _ hx), h2⟩, ⟨fun x hx => h1 x (List.mem_append_right _ hx), h3⟩, h4⟩
  · rintro ⟨⟨h1, h2⟩, ⟨h3, h4⟩, h5⟩
    exact ⟨fun x hx => (List.mem_append.1 hx).elim (h1 x) (h3 x), h2, h4, h5⟩
theorem Run.begin {g : Gap} (h : Run g) : InG g g.At := ⟨Int.le_refl _, by have := h.2.2.1; omega⟩
/-- A list of runs is told by its times. -/
theorem RunsL.ext : ∀ {l m : List Gap}, RunsL l → RunsL m → (∀ t, InL l t ↔ InL m t) → l = m
  | [], [], _, _, _ => rfl
  | [], y :: m, _, hm, h => absurd ((h y.At).2 (InL_cons.2 (.inl (RunsL.cons.1 hm).1.begin))) (InL_nil _)
  | x :: l, [], hl, _, h => absurd ((h x.At).1 (InL_cons.2 (.inl (RunsL.cons.1 hl).1.begin))) (InL_nil _)
  | x :: l, y :: m, hl, hm, h => by
    obtain ⟨hx, hxl, hl'⟩ := RunsL.cons.1 hl
    obtain ⟨hy, hym, hm'⟩ := RunsL.cons.1 hm
    have low : ∀ {g : Gap} {l : List Gap} {t : Int}, (∀ z ∈ l, Sep g z) → (InG g t ∨ InL l t) → t ≤ g.At + g.Many → InG g t := by
      intro g l t hs hi ht
      rcases hi with hi | ⟨z, hz, hi⟩
      · exact hi
      · have := hs z hz; unfold Sep at this; unfold InG at hi; omega
    have beg : ∀ {g : Gap} {l : List Gap} {t : Int}, Run g → (∀ z ∈ l, Sep g z) → (InG g t ∨ InL l t) → g.At ≤ t := by
      intro g l t hg hs hi
      rcases hi with hi | ⟨z, hz, hi⟩
      · exact hi.1
      · have := hs z hz; unfold Sep at this; unfold InG at hi; unfold Run at hg; omega
    have hA : x.At = y.At := by
      have h1 := beg hx hxl (InL_cons.1 ((h y.At).2 (InL_cons.2 (.inl hy.begin))))
      have h2 := beg hy hym (InL_cons.1 ((h x.At).1 (InL_cons.2 (.inl hx.begin))))
      omega
    have hE : x.At + x.Many = y.At + y.Many := by
      rcases Int.lt_trichotomy (x.At + x.Many) (y.At + y.Many) with hlt | heq | hgt
      · exfalso
        have h1 : InL (y :: m) (x.At + x.Many) := InL_cons.2 (.inl ⟨by unfold Run at hx; omega, hlt⟩)
        have h2 := low hxl (InL_cons.1 ((h _).2 h1)) (Int.le_refl _)
        unfold InG at h2; omega
      · exact heq
      · exfalso
        have h1 : InL (x :: l) (y.At + y.Many) := InL_cons.2 (.inl ⟨by unfold Run at hy; omega, hgt⟩)
        have h2 := low hym (InL_cons.1 ((h _).1 h1)) (Int.le_refl _)
        unfold InG at h2; omega
    have hxy : x = y := by
      cases x; cases y
      simp only [Gap.mk.injEq] at *
      omega
    subst hxy
    congr 1
    refine RunsL.ext hl' hm' fun t => ?_
    have ht := h t
    rw [InL_cons, InL_cons] at ht
    constructor
    · rintro ⟨z, hz, hi⟩
      rcases ht.1 (.inr ⟨z, hz, hi⟩) with h1 | h1
      · have := hxl z hz; unfold Sep at this; unfold InG at hi h1; omega
      · exact h1
    · rintro ⟨z, hz, hi⟩
      rcases ht.2 (.inr ⟨z, hz, hi⟩) with h1 | h1
      · have := hym z hz; unfold Sep at this; unfold InG at hi h1; omega
      · exact h1
theorem Dis.not_both {a b : Gap} (h : Dis a b) (t : Int) : ¬ (InG a t ∧ InG b t) := by
  unfold Dis at h; unfold InG; omega
theorem dis_of {a b : Gap} (ha : Run a) (hb : Run b) (h : ∀ t, ¬ (InG a t ∧ InG b t)) : Dis a b := by
  have h1 := h a.At; have h2 := h b.At
  unfold Dis; unfold InG at h1 h2; unfold Run at ha hb; omega
theorem Dis.symm {a b : Gap} (h : Dis a b) : Dis b a := Or.symm h
theorem RunsL.dis {l : List Gap} (h : RunsL l) : l.Pairwise Dis := h.2.imp fun {a b} hs => .inl (by unfold Sep at hs; omega)

/-! ### A sorted list, joined from left to right -/
def stepJ (out : List Gap) (g : Gap) : Sum (List Gap) Unit :=
  match out.getLast? with
  | none => .inl (out ++ [g])
  | some x => if x.At + x.Many < g.At then .inl (out ++ [g]) else if g.At < x.At + x.Many then .inr () else .inl (out.dropLast ++ [⟨x.At, x.Many + g.Many⟩])

structure InvJ (P out : List Gap) : Prop where
  runs : RunsL out
  set : ∀ t, InL out t ↔ InL P t
  tot : tot out = tot P
  dis : P.Pairwise Dis
  nil : out = [] ↔ P = []
  last : ∀ x, out.getLast? = some x → (∀ p ∈ P, p.At + p.Many ≤ x.At + x.Many) ∧ ∃ p ∈ P, p.At + p.Many = x.At + x.Many

theorem tot_append (l m : List Gap) : tot (l ++ m) = tot l + tot m := by simp [tot]
theorem tot_one (g : Gap) : tot [g] = g.Many := by simp [tot]
theorem stepJ_ok {P out : List Gap} {g : Gap} (h : InvJ P out) (hg : Run g) (hs : ∀ p ∈ P, p.At ≤ g.At) {out' : List Gap} (hj : stepJ out g = .inl out') : InvJ (P ++ [g]) out' := by
  unfold stepJ at hj
  cases hl : out.getLast? with
  | none =>
    rw [hl] at hj
    injection hj with hj
    subst hj
    have ho : out = [] := by simpa using hl
    have hP := h.nil.1 ho
    subst ho hP
    exact ⟨RunsL.cons.2 ⟨hg, (fun _ h => by cases h), RunsL.nil⟩, fun t => Iff.rfl, rfl, by simp, by simp, fun x hx => by
      simp at hx; subst hx; exact ⟨fun p hp => by simp at hp; subst hp; exact Int.le_refl _, g, by simp, rfl⟩⟩
  | some x =>
    rw [hl] at hj
    simp only at hj
    obtain ⟨l1, l2⟩ := h.last x hl
    have hne : out ≠ [] := by intro e; subst e; cases hl
    have hsplit : out = out.dropLast ++ [x] := by
      have h1 := List.dropLast_concat_getLast hne
      have h2 : out.getLast hne = x := by rw [List.getLast?_eq_some_getLast hne] at hl; injection hl
      rw [h2] at h1; exact h1.symm
    have hP : P ≠ [] := fun e => hne (h.nil.2 e)
    have hr := h.runs
    rw [hsplit] at hr
    obtain ⟨r1, r2, r3⟩ := RunsL.append.1 hr
    have hx : Run x := (RunsL.cons.1 r2).1
    have hdis : x.At + x.Many ≤ g.At → (P ++ [g]).Pairwise Dis := fun hle => by
      rw [List.pairwise_append]
      refine ⟨h.dis, by simp, fun p hp y hy => ?_⟩
      simp at hy
      subst hy
      have := l1 p hp
      exact .inl (by omega)
    split at hj
    · rename_i hlt
      injection hj with hj
      subst hj
      refine ⟨RunsL.append.2 ⟨h.runs, RunsL.cons.2 ⟨hg, (fun _ h => by cases h), RunsL.nil⟩, fun a ha y hy => ?_⟩, fun t => ?_, ?_, hdis (by omega), by simp, fun y hy => ?_⟩
      · simp at hy
        subst hy
        rw [hsplit] at ha
        rcases List.mem_append.1 ha with ha | ha
        · have := r3 a ha x (by simp); unfold Sep at *; unfold Run at hx; omega
        · simp at ha; subst ha; exact hlt
      · rw [InL_append, InL_append, h.set t]
      · rw [tot_append, tot_append, h.tot]
      · simp at hy
        subst hy
        refine ⟨fun p hp => ?_, g, by simp, rfl⟩
        rcases List.mem_append.1 hp with hp | hp
        · have := l1 p hp; unfold Run at hg; omega
        · simp at hp; subst hp; exact Int.le_refl _
    · split at hj
      · cases hj
      · rename_i h1 h2
        injection hj with hj
        subst hj
        have he : x.At + x.Many = g.At := by omega
        refine ⟨RunsL.append.2 ⟨r1, RunsL.cons.2 ⟨?_, (fun _ h => by cases h), RunsL.nil⟩, fun a ha y hy => ?_⟩, fun t => ?_, ?_, hdis (by omega), by simp, fun y hy => ?_⟩
        · unfold Run at hx hg ⊢; simp only; omega
        · simp at hy
          subst hy
          have := r3 a ha x (by simp)
          unfold Sep at *; exact this
        · have h3 := h.set t
          rw [hsplit] at h3
          rw [InL_append, InL_append, ← h3, InL_append]
          have : InL [⟨x.At, x.Many + g.Many⟩] t ↔ InL [x] t ∨ InL [g] t := by
            rw [InL_cons, InL_cons, InL_cons]
            simp only [InL_nil, or_false]
            unfold InG; simp only; unfold Run at hx hg; omega
          rw [this, or_assoc]
        · have h3 := h.tot
          rw [hsplit] at h3
          rw [tot_append] at h3
          rw [tot_append, tot_append, ← h3, tot_one, tot_one, tot_one]
          simp only
          omega
        · simp at hy
          subst hy
          simp only
          refine ⟨fun p hp => ?_, g, by simp, by omega⟩
          rcases List.mem_append.1 hp with hp | hp
          · have := l1 p hp; unfold Run at hg; omega
          · simp at hp; subst hp; omega
theorem stepJ_err {P out : List Gap} {g : Gap} (h : InvJ P out) (hr : ∀ p ∈ P, Run p) (hg : Run g) (hs : ∀ p ∈ P, p.At ≤ g.At) {u : Unit} (hj : stepJ out g = .inr u) : ¬ (P ++ [g]).Pairwise Dis := by
  unfold stepJ at hj
  cases hl : out.getLast? with
  | none => rw [hl] at hj; cases hj
  | some x =>
    rw [hl] at hj
    simp only at hj
    split at hj
    · cases hj
    · split at hj
      · rename_i h1 h2
        obtain ⟨_, p, hp, he⟩ := h.last x hl
        intro hpw
        have := (List.pairwise_append.1 hpw).2.2 p hp g (by simp)
        have hps := hs p hp
        have hpr := hr p hp
        unfold Dis at this; unfold Run at hg hpr; omega
      · cases hj
/-- Sorted by their begins. -/
def Asc (l : List Gap) : Prop := l.Pairwise fun a b => a.At ≤ b.At
theorem foldJ : ∀ (L P out : List Gap), InvJ P out → (∀ p ∈ P ++ L, Run p) → Asc (P ++ L) →
    (∃ out', foldE stepJ L out = .inl out' ∧ InvJ (P ++ L) out') ∨ (foldE stepJ L out = .inr () ∧ ¬ (P ++ L).Pairwise Dis)
  | [], P, out, h, _, _ => .inl ⟨out, rfl, by simpa using h⟩
  | g :: L, P, out, h, hr, ha => by
    have hs : ∀ p ∈ P, p.At ≤ g.At := fun p hp => (List.pairwise_append.1 ha).2.2 p hp g List.mem_cons_self
    have hg : Run g := hr g (by simp)
    cases hj : stepJ out g with
    | inl out' =>
      have h1 := stepJ_ok h hg hs hj
      have e : P ++ g :: L = (P ++ [g]) ++ L := by simp
      rw [e] at hr ha ⊢
      rcases foldJ L (P ++ [g]) out' h1 hr ha with ⟨o, h2, h3⟩ | ⟨h2, h3⟩
      · exact .inl ⟨o, by simp only [foldE, hj]; exact h2, h3⟩
      · exact .inr ⟨by simp only [foldE, hj]; exact h2, h3⟩
    | inr u =>
      refine .inr ⟨by simp only [foldE, hj], fun hpw => stepJ_err h (fun p hp => hr p (List.mem_append_left _ hp)) hg hs hj ?_⟩
      have e : P ++ g :: L = (P ++ [g]) ++ L := by simp
      rw [e] at hpw
      exact (List.pairwise_append.1 hpw).1

/-- What two lists of runs come to, joined. -/
def Joined (a b : List Gap) (r : List Gap × Int) : Prop :=
  (r.2 = 0 ∧ RunsL r.1 ∧ (∀ t, InL r.1 t ↔ InL a t ∨ InL b t) ∧ tot r.1 = tot a + tot b ∧ ∀ t, ¬ (InL a t ∧ InL b t)) ∨ (r.2 = 14 ∧ r.1 = [] ∧ ∃ t, InL a t ∧ InL b t)

theorem tot_perm {l m : List Gap} (h : l.Perm m) : tot l = tot m := by
  induction h with
  | nil => rfl
  | cons x _ ih => simp [tot] at ih ⊢; omega
  | swap x y l => simp [tot]; omega
  | trans _ _ ih1 ih2 => exact ih1.trans ih2
theorem InL_perm {l m : List Gap} (h : l.Perm m) (t : Int) : InL l t ↔ InL m t := ⟨fun ⟨g, hg, ht⟩ => ⟨g, h.subset hg, ht⟩, fun ⟨g, hg, ht⟩ => ⟨g, h.symm.subset hg, ht⟩⟩
theorem joined_of {a b L : List Gap} (ha : RunsL a) (hb : RunsL b) (hp : L.Perm (a ++ b)) (hs : Asc L) :
    Joined a b (match foldE stepJ L [] with | .inl o => (o, 0) | .inr _ => ([], 14)) := by
  have hr : ∀ p ∈ L, Run p := fun p hp' => (List.mem_append.1 (hp.subset hp')).elim (ha.1 p) (hb.1 p)
  have h0 : InvJ [] [] := ⟨RunsL.nil, fun _ => Iff.rfl, rfl, .nil, Iff.rfl, fun x hx => by cases hx⟩
  have hd : L.Pairwise Dis ↔ (a ++ b).Pairwise Dis := hp.pairwise_iff (fun h => h.symm)
  rcases foldJ L [] [] h0 hr hs with ⟨o, h1, h2⟩ | ⟨h1, h2⟩
  · rw [h1]
    refine .inl ⟨rfl, h2.runs, fun t => ?_, ?_, fun t => ?_⟩
    · rw [h2.set t, List.nil_append, InL_perm hp, InL_append]
    · rw [h2.tot, List.nil_append, tot_perm hp, tot_append]
    · rintro ⟨⟨x, hx, h3⟩, ⟨y, hy, h4⟩⟩
      have := (List.pairwise_append.1 (hd.1 h2.dis)).2.2 x hx y hy
      exact this.not_both t ⟨h3, h4⟩
  · rw [h1]
    refine .inr ⟨rfl, rfl, ?_⟩
    rw [List.nil_append, hd] at h2
    apply Classical.byContradiction
    intro hne
    refine h2 (List.pairwise_append.2 ⟨ha.dis, hb.dis, fun x hx y hy => dis_of (ha.1 x hx) (hb.1 y hy) fun t ht => hne ⟨t, ⟨x, hx, ht.1⟩, ⟨y, hy, ht.2⟩⟩⟩)
/-- There is but one such. -/
theorem Joined.unique {a b a' b' : List Gap} {r s : List Gap × Int} (h : Joined a b r) (h' : Joined a' b' s) (he : ∀ t, (InL a t ∨ InL b t) ↔ (InL a' t ∨ InL b' t)) (hm : (∃ t, InL a t ∧ InL b t) ↔ ∃ t, InL a' t ∧ InL b' t) : r = s := by
  rcases h with ⟨h1, h2, h3, _, h4⟩ | ⟨h1, h2, h3⟩ <;> rcases h' with ⟨k1, k2, k3, _, k4⟩ | ⟨k1, k2, k3⟩
  · have : r.1 = s.1 := RunsL.ext h2 k2 fun t => by rw [h3, k3, he]
    exact Prod.ext this (by rw [h1, k1])
  · obtain ⟨t, ht⟩ := hm.2 k3; exact absurd ht (h4 t)
  · obtain ⟨t, ht⟩ := hm.1 h3; exact absurd ht (k4 t)
  · exact Prod.ext (by rw [h2, k2]) (by rw [h1, k1])

/-! ### One more run (the reference's way) -/
def stepT (s : Gap × List Gap × List Gap) (x : Gap) : Sum (Gap × List Gap × List Gap) Unit :=
  if x.At < s.1.At + s.1.Many ∧ s.1.At < x.At + x.Many then .inr ()
  else if x.At + x.Many = s.1.At then .inl (⟨x.At, x.Many + s.1.Many⟩, s.2.1, s.2.2)
  else if s.1.At + s.1.Many = x.At then .inl (⟨s.1.At, s.1.Many + x.Many⟩, s.2.1, s.2.2)
  else if x.At < s.1.At then .inl (s.1, s.2.1 ++ [x], s.2.2)
  else .inl (s.1, s.2.1, s.2.2 ++ [x])
structure InvT (P : List Gap) (g : Gap) (s : Gap × List Gap × List Gap) : Prop where
  runs : RunsL (s.2.1 ++ s.1 :: s.2.2)
  set : ∀ t, InL (s.2.1 ++ s.1 :: s.2.2) t ↔ InL P t ∨ InG g t
  tot : tot (s.2.1 ++ s.1 :: s.2.2) = tot P + g.Many
  no : ∀ t, ¬ (InL P t ∧ InG g t)
  mem : ∀ q, q ∈ s.2.1 ∨ q ∈ s.2.2 → q ∈ P
theorem tot_cons (g : Gap) (l : List Gap) : tot (g :: l) = g.Many + tot l := by simp [tot]
theorem stepT_ok {P : List Gap} {g x : Gap} {s s' : Gap × List Gap × List Gap} (h : InvT P g s) (hx : Run x) (hs : ∀ p ∈ P, Sep p x) (hj : stepT s x = .inl s') : InvT (P ++ [x]) g s' := by
  obtain ⟨g', bf, bh⟩ := s
  obtain ⟨runs, set, htot, no, mem⟩ := h
  simp only at runs set htot mem
  obtain ⟨r1, r2, r3⟩ := RunsL.append.1 runs
  obtain ⟨r4, r5, r6⟩ := RunsL.cons.1 r2
  have rb : ∀ q ∈ bf, Sep q g' := fun q hq => r3 q hq g' List.mem_cons_self
  have hmb : ∀ q ∈ bf, Sep q x := fun q hq => hs q (mem q (.inl hq))
  have hmh : ∀ q ∈ bh, Sep q x := fun q hq => hs q (mem q (.inr hq))
  have one : ∀ t, InL [x] t ↔ InG x t := fun t => by rw [InL_cons]; simp only [InL_nil, or_false]
  have hno : ¬ (x.At < g'.At + g'.Many ∧ g'.At < x.At + x.Many) → ∀ t, ¬ (InL (P ++ [x]) t ∧ InG g t) := fun hn t ⟨h1, h2⟩ => by
    rcases InL_append.1 h1 with h1 | h1
    · exact no t ⟨h1, h2⟩
    · rw [one] at h1
      rcases InL_append.1 ((set t).2 (.inr h2)) with ⟨q, hq, hi⟩ | h3
      · have := hmb q hq; unfold Sep at this; unfold InG at hi h1; omega
      · rcases InL_cons.1 h3 with h3 | ⟨q, hq, hi⟩
        · unfold InG at h1 h3; omega
        · have := hmh q hq; unfold Sep at this; unfold InG at hi h1; omega
  unfold stepT at hj
  simp only at hj
  split at hj
  · cases hj
  · rename_i hn
    split at hj
    · rename_i h1
      injection hj with hj
      subst hj
      refine ⟨RunsL.append.2 ⟨r1, RunsL.cons.2 ⟨?_, fun q hq => ?_, r6⟩, fun q hq y hy => ?_⟩, fun t => ?_, ?_, hno hn, fun q hq => List.mem_append_left _ (mem q hq)⟩
      · unfold Run at hx r4 ⊢; simp only; omega
      · have := r5 q hq; unfold Sep at *; simp only; omega
      · rcases List.mem_cons.1 hy with rfl | hy
        · have := hmb q hq; unfold Sep at *; simp only; omega
        · exact r3 q hq y (List.mem_cons_of_mem _ hy)
      · have h2 := set t
        rw [InL_append, InL_cons] at h2
        rw [InL_append, InL_cons, InL_append, one]
        have : InG ⟨x.At, x.Many + g'.Many⟩ t ↔ InG x t ∨ InG g' t := by unfold InG; simp only; unfold Run at hx r4; omega
        simp only
        rw [this]
        constructor
        · rintro (h3 | (h3 | h3) | h3)
          · rcases h2.1 (.inl h3) with h4 | h4
            · exact .inl (.inl h4)
            · exact .inr h4
          · exact .inl (.inr h3)
          · rcases h2.1 (.inr (.inl h3)) with h4 | h4
            · exact .inl (.inl h4)
            · exact .inr h4
          · rcases h2.1 (.inr (.inr h3)) with h4 | h4
            · exact .inl (.inl h4)
            · exact .inr h4
        · rintro ((h3 | h3) | h3)
          · rcases h2.2 (.inl h3) with h4 | h4 | h4
            · exact .inl h4
            · exact .inr (.inl (.inr h4))
            · exact .inr (.inr h4)
          · exact .inr (.inl (.inl h3))
          · rcases h2.2 (.inr h3) with h4 | h4 | h4
            · exact .inl h4
            · exact .inr (.inl (.inr h4))
            · exact .inr (.inr h4)
      · rw [tot_append, tot_cons] at htot
        rw [tot_append, tot_cons, tot_append, tot_one]
        simp only
        omega
    · rename_i h1
      split at hj
      · rename_i h2
        injection hj with hj
        subst hj
        have hbh : ∀ q, q ∉ bh := fun q hq => by
          have h3 := r5 q hq; have h4 := hmh q hq; have h5 := r6.1 q hq
          unfold Sep at h3 h4; unfold Run at h5; omega
        refine ⟨RunsL.append.2 ⟨r1, RunsL.cons.2 ⟨?_, fun q hq => absurd hq (hbh q), r6⟩, fun q hq y hy => ?_⟩, fun t => ?_, ?_, hno hn, fun q hq => List.mem_append_left _ (mem q hq)⟩
        · unfold Run at hx r4 ⊢; simp only; omega
        · rcases List.mem_cons.1 hy with rfl | hy
          · have := rb q hq; unfold Sep at *; exact this
          · exact absurd hy (hbh y)
        · have h3 := set t
          rw [InL_append, InL_cons] at h3
          rw [InL_append, InL_cons, InL_append, one]
          have : InG ⟨g'.At, g'.Many + x.Many⟩ t ↔ InG g' t ∨ InG x t := by unfold InG; simp only; unfold Run at hx r4; omega
          simp only
          rw [this]
          constructor
          · rintro (h4 | (h4 | h4) | h4)
            · rcases h3.1 (.inl h4) with h5 | h5
              · exact .inl (.inl h5)
              · exact .inr h5
            · rcases h3.1 (.inr (.inl h4)) with h5 | h5
              · exact .inl (.inl h5)
              · exact .inr h5
            · exact .inl (.inr h4)
            · rcases h3.1 (.inr (.inr h4)) with h5 | h5
              · exact .inl (.inl h5)
              · exact .inr h5
          · rintro ((h4 | h4) | h4)
            · rcases h3.2 (.inl h4) with h5 | h5 | h5
              · exact .inl h5
              · exact .inr (.inl (.inl h5))
              · exact .inr (.inr h5)
            · exact .inr (.inl (.inr h4))
            · rcases h3.2 (.inr h4) with h5 | h5 | h5
              · exact .inl h5
              · exact .inr (.inl (.inl h5))
              · exact .inr (.inr h5)
        · rw [tot_append, tot_cons] at htot
          rw [tot_append, tot_cons, tot_append, tot_one]
          simp only
          omega
      · rename_i h2
        split at hj
        · rename_i h3
          injection hj with hj
          subst hj
          have hsx : Sep x g' := by unfold Sep; unfold Run at r4 hx; omega
          refine ⟨?_, fun t => ?_, ?_, hno hn, fun q hq => ?_⟩
          · simp only [List.append_assoc, List.singleton_append]
            refine RunsL.append.2 ⟨r1, RunsL.cons.2 ⟨hx, fun q hq => ?_, r2⟩, fun q hq y hy => ?_⟩
            · rcases List.mem_cons.1 hq with rfl | hq
              · exact hsx
              · have := r5 q hq; unfold Sep at *; unfold Run at r4; omega
            · rcases List.mem_cons.1 hy with rfl | hy
              · exact hmb q hq
              · exact r3 q hq y hy
          · have h4 := set t
            rw [InL_append] at h4
            simp only [List.append_assoc, List.singleton_append]
            rw [InL_append, InL_cons, InL_append, one]
            constructor
            · rintro (h5 | h5 | h5)
              · rcases h4.1 (.inl h5) with h6 | h6
                · exact .inl (.inl h6)
                · exact .inr h6
              · exact .inl (.inr h5)
              · rcases h4.1 (.inr h5) with h6 | h6
                · exact .inl (.inl h6)
                · exact .inr h6
            · rintro ((h5 | h5) | h5)
              · rcases h4.2 (.inl h5) with h6 | h6
                · exact .inl h6
                · exact .inr (.inr h6)
              · exact .inr (.inl h5)
              · rcases h4.2 (.inr h5) with h6 | h6
                · exact .inl h6
                · exact .inr (.inr h6)
          · simp only [List.append_assoc, List.singleton_append]
            rw [tot_append] at htot
            rw [tot_append, tot_cons, tot_append, tot_one]
            omega
          · rcases hq with hq | hq
            · rcases List.mem_append.1 hq with hq | hq
              · exact List.mem_append_left _ (mem q (.inl hq))
              · exact List.mem_append_right _ hq
            · exact List.mem_append_left _ (mem q (.inr hq))
        · rename_i h3
          injection hj with hj
          subst hj
          have hsx : Sep g' x := by unfold Sep; unfold Run at r4 hx; omega
          refine ⟨?_, fun t => ?_, ?_, hno hn, fun q hq => ?_⟩
          · simp only
            have e : bf ++ g' :: (bh ++ [x]) = (bf ++ g' :: bh) ++ [x] := by simp
            rw [e]
            refine RunsL.append.2 ⟨runs, RunsL.cons.2 ⟨hx, (fun _ h => by cases h), RunsL.nil⟩, fun q hq y hy => ?_⟩
            simp at hy
            subst hy
            rcases List.mem_append.1 hq with hq | hq
            · exact hmb q hq
            · rcases List.mem_cons.1 hq with rfl | hq
              · exact hsx
              · exact hmh q hq
          · have h4 := set t
            simp only
            have e : bf ++ g' :: (bh ++ [x]) = (bf ++ g' :: bh) ++ [x] := by simp
            rw [e, InL_append, h4, InL_append]
            constructor
            · rintro ((h5 | h5) | h5)
              · exact .inl (.inl h5)
              · exact .inr h5
              · exact .inl (.inr h5)
            · rintro ((h5 | h5) | h5)
              · exact .inl (.inl h5)
              · exact .inr h5
              · exact .inl (.inr h5)
          · simp only
            have e : bf ++ g' :: (bh ++ [x]) = (bf ++ g' :: bh) ++ [x] := by simp
            rw [e, tot_append, htot, tot_append]
            omega
          · rcases hq with hq | hq
            · exact List.mem_append_left _ (mem q (.inl hq))
            · rcases List.mem_append.1 hq with hq | hq
              · exact List.mem_append_left _ (mem q (.inr hq))
              · exact List.mem_append_right _ hq
theorem stepT_err {P : List Gap} {g x : Gap} {s : Gap × List Gap × List Gap} (h : InvT P g s) (hx : Run x) (hs : ∀ p ∈ P, Sep p x) {u : Unit} (hj : stepT s x = .inr u) : ∃ t, InG x t ∧ InG g t := by
  unfold stepT at hj
  split at hj
  · rename_i hm
    obtain ⟨r1, r2, r3⟩ := RunsL.append.1 h.runs
    have r4 := (RunsL.cons.1 r2).1
    have ht : ∃ t, InG x t ∧ InG s.1 t := by
      by_cases hle : x.At ≤ s.1.At
      · exact ⟨s.1.At, ⟨hle, hm.2⟩, r4.begin⟩
      · exact ⟨x.At, hx.begin, ⟨by omega, hm.1⟩⟩
    obtain ⟨t, h1, h2⟩ := ht
    refine ⟨t, h1, ?_⟩
    rcases (h.set t).1 (InL_append.2 (.inr (InL_cons.2 (.inl h2)))) with ⟨q, hq, hi⟩ | h3
    · have := hs q hq; unfold Sep at this; unfold InG at hi h1; omega
    · exact h3
  · repeat' split at hj
    all_goals cases hj
theorem foldT (g : Gap) : ∀ (L P : List Gap) (s : Gap × List Gap × List Gap), InvT P g s → RunsL (P ++ L) →
    (∃ s', foldE stepT L s = .inl s' ∧ InvT (P ++ L) g s') ∨ (foldE stepT L s = .inr () ∧ ∃ t, InL L t ∧ InG g t)
  | [], P, s, h, _ => .inl ⟨s, rfl, by simpa using h⟩
  | x :: L, P, s, h, hr => by
    obtain ⟨r1, r2, r3⟩ := RunsL.append.1 hr
    have hs : ∀ p ∈ P, Sep p x := fun p hp => r3 p hp x List.mem_cons_self
    have hx : Run x := (RunsL.cons.1 r2).1
    cases hj : stepT s x with
    | inl s' =>
      have h1 := stepT_ok h hx hs hj
      have e : P ++ x :: L = (P ++ [x]) ++ L := by simp
      rw [e] at hr ⊢
      rcases foldT g L (P ++ [x]) s' h1 hr with ⟨o, h2, h3⟩ | ⟨h2, t, h3, h4⟩
      · exact .inl ⟨o, by simp only [foldE, hj]; exact h2, h3⟩
      · exact .inr ⟨by simp only [foldE, hj]; exact h2, t, InL_cons.2 (.inr h3), h4⟩
    | inr u =>
      obtain ⟨t, h1, h2⟩ := stepT_err h hx hs hj
      exact .inr ⟨by simp only [foldE, hj], t, InL_cons.2 (.inl h1), h2⟩
theorem together_of {l : List Gap} {g : Gap} (hl : RunsL l) (hg : Run g) :
    Joined l [g] (match foldE stepT l (g, [], []) with | .inl s => (s.2.1 ++ [s.1] ++ s.2.2, 0) | .inr _ => ([], 14)) := by
  have one : ∀ t, InL [g] t ↔ InG g t := fun t => by rw [InL_cons]; simp only [InL_nil, or_false]
  have h0 : InvT [] g (g, [], []) := ⟨RunsL.cons.2 ⟨hg, (fun _ h => by cases h), RunsL.nil⟩, fun t => by simp only [List.nil_append]; rw [one]; simp [InL_nil], by simp [tot], fun t h => InL_nil _ h.1, fun q hq => by rcases hq with h | h <;> cases h⟩
  rcases foldT g l [] (g, [], []) h0 hl with ⟨s, h1, h2⟩ | ⟨h1, t, h2, h3⟩
  · rw [h1]
    have e : s.2.1 ++ [s.1] ++ s.2.2 = s.2.1 ++ s.1 :: s.2.2 := by simp
    refine .inl ⟨rfl, by simp only [e]; exact h2.runs, fun t => ?_, ?_, fun t h => ?_⟩
    · simp only [e]; rw [h2.set t, one]; rfl
    · simp only [e]; rw [h2.tot, tot_one]; rfl
    · rw [one] at h; exact h2.no t h
  · rw [h1]
    exact .inr ⟨rfl, rfl, t, h2, (one t).2 h3⟩
end Go.Proofs.Ytiepcikippcfaaa.M
