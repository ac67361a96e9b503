/- Plain laws: loops of four stations. -/
import Derived.Test.YtlfmmenlkpoodaaPJAct
set_option linter.unusedVariables false
set_option linter.unusedSimpArgs false
set_option maxRecDepth 100000
namespace Go.Proofs.Ytlfmmenlkpoodaa.M
open Go.GW Go.Proofs

/-! ### Maps -/
section
variable {K V : Type} [DecidableEq K]
def mg (m : List (K × V)) (x : K) : Option V := (mfind x m 0).map (·.2)
theorem mfind_shift (x : K) : ∀ (m : List (K × V)) (i : Nat), (mfind x m i).map (·.2) = mg m x
  | [], i => rfl
  | (k, v) :: r, i => by
    unfold mg
    simp only [mfind]
    by_cases h : x = k
    · simp [h]
    · rw [if_neg h, if_neg h, mfind_shift x r, mfind_shift x r]
theorem mg_cons (x k : K) (v : V) (r : List (K × V)) : mg ((k, v) :: r) x = if x = k then some v else mg r x := by
  unfold mg
  simp only [mfind]
  by_cases h : x = k
  · simp [h]
  · rw [if_neg h, if_neg h]; exact mfind_shift x r _
theorem mg_put (x y : K) (v : V) : ∀ m : List (K × V), mg (mput m x v) y = if y = x then some v else mg m y
  | [] => by simp [mput, mg_cons]
  | (k, u) :: r => by
    simp only [mput]
    by_cases h : x = k
    · subst h
      rw [if_pos rfl, mg_cons, mg_cons]
      by_cases hy : y = x <;> simp [hy]
    · rw [if_neg h, mg_cons, mg_cons, mg_put x y v r]
      by_cases hy : y = k
      · subst hy; simp [Ne.symm h]
      · simp [hy]
theorem length_put (x : K) (v : V) : ∀ m : List (K × V), (mput m x v).length = if (mg m x).isSome then m.length else m.length + 1
  | [] => by simp [mput, mg, mfind]
  | (k, u) :: r => by
    simp only [mput]
    by_cases h : x = k
    · subst h; simp [mg_cons]
    · rw [if_neg h, mg_cons, if_neg h, List.length_cons, length_put x v r]
      split <;> simp
theorem mhas_eq (m : List (K × V)) (x : K) : mhas m x = (mg m x).isSome := by simp [mhas, mg]
theorem mgetD_eq (m : List (K × V)) (x : K) (z : V) : mgetD m x z = (mg m x).getD z := rfl
end

/-! ### Coherencies by their stations -/
def gotP (p : Pol) (i j : Int) : Option (A4 Cx) := if p.I = i ∧ p.J = j then some p.V else if p.I = j ∧ p.J = i then some (adjv p.V) else none
def got (l : List Pol) (i j : Int) : Option (A4 Cx) := l.findSome? fun p => gotP p i j
def sameP (p q : Pol) : Prop := p.I = q.I ∧ p.J = q.J
def Apart (l : List Pol) : Prop := l.Pairwise fun p q => ¬ sameP q p
def putP (m : List (A2 Int × A4 Cx)) (p : Pol) : List (A2 Int × A4 Cx) := mput (mput m ⟨p.I, p.J⟩ p.V) ⟨p.J, p.I⟩ (adjv p.V)
theorem mg_putP (m : List (A2 Int × A4 Cx)) (p : Pol) (h : p.I < p.J) (i j : Int) : mg (putP m p) ⟨i, j⟩ = (gotP p i j).or (mg m ⟨i, j⟩) := by
  unfold putP gotP
  rw [mg_put, mg_put]
  simp only [A2.mk.injEq]
  by_cases h1 : i = p.J ∧ j = p.I
  · obtain ⟨rfl, rfl⟩ := h1
    rw [if_pos ⟨rfl, rfl⟩, if_neg (by omega), if_pos ⟨rfl, rfl⟩]; rfl
  · rw [if_neg h1]
    by_cases h2 : i = p.I ∧ j = p.J
    · obtain ⟨rfl, rfl⟩ := h2
      rw [if_pos ⟨rfl, rfl⟩, if_pos ⟨rfl, rfl⟩]; rfl
    · rw [if_neg h2, if_neg (by omega), if_neg (by omega)]; rfl
structure InvM (pre : List Pol) (m : List (A2 Int × A4 Cx)) : Prop where
  some_ : ∀ i j, (mg m ⟨i, j⟩).isSome = true ↔ ∃ q ∈ pre, (gotP q i j).isSome = true
  get : Apart pre → ∀ i j, mg m ⟨i, j⟩ = got pre i j
  len : m.length ≤ 2 * pre.length
  apart : Apart pre ↔ m.length = 2 * pre.length
theorem gotP_some {p : Pol} {i j : Int} : (gotP p i j).isSome = true ↔ (p.I = i ∧ p.J = j) ∨ (p.I = j ∧ p.J = i) := by
  unfold gotP
  by_cases h1 : p.I = i ∧ p.J = j
  · rw [if_pos h1]; exact ⟨fun _ => .inl h1, fun _ => rfl⟩
  · rw [if_neg h1]
    by_cases h2 : p.I = j ∧ p.J = i
    · rw [if_pos h2]; exact ⟨fun _ => .inr h2, fun _ => rfl⟩
    · rw [if_neg h2]; exact ⟨fun h => (by cases h), fun h => (h.elim (fun h => absurd h h1) (fun h => absurd h h2))⟩
theorem invM_step {pre : List Pol} {m : List (A2 Int × A4 Cx)} (hI : InvM pre m) (hpre : ∀ q ∈ pre, q.I < q.J) (p : Pol) (hp : p.I < p.J) : InvM (pre ++ [p]) (putP m p) := by
  have hsome : (mg m ⟨p.I, p.J⟩).isSome = true ↔ ∃ q ∈ pre, sameP p q := by
    rw [hI.some_]
    constructor
    · rintro ⟨q, hq, h⟩
      have := hpre q hq
      rcases gotP_some.1 h with h | h
      · exact ⟨q, hq, h.1.symm, h.2.symm⟩
      · omega
    · rintro ⟨q, hq, h⟩
      exact ⟨q, hq, gotP_some.2 (.inl ⟨h.1.symm, h.2.symm⟩)⟩
  have hsome2 : (mg m ⟨p.J, p.I⟩).isSome = true ↔ ∃ q ∈ pre, sameP p q := by
    rw [hI.some_]
    constructor
    · rintro ⟨q, hq, h⟩
      have := hpre q hq
      rcases gotP_some.1 h with h | h
      · omega
      · exact ⟨q, hq, h.1.symm, h.2.symm⟩
    · rintro ⟨q, hq, h⟩
      exact ⟨q, hq, gotP_some.2 (.inr ⟨h.1.symm, h.2.symm⟩)⟩
  have hlen : (putP m p).length = if (mg m ⟨p.I, p.J⟩).isSome then m.length else m.length + 2 := by
    unfold putP
    rw [length_put, mg_put, if_neg (show ¬ ((⟨p.J, p.I⟩ : A2 Int) = ⟨p.I, p.J⟩) from by simp only [A2.mk.injEq]; omega), length_put]
    by_cases h : (mg m ⟨p.I, p.J⟩).isSome = true
    · have h2 := hsome2.2 (hsome.1 h)
      simp [h, h2]
    · have h2 : ¬ (mg m ⟨p.J, p.I⟩).isSome = true := fun h' => h (hsome.2 (hsome2.1 h'))
      simp [h, h2]
  have hap : Apart (pre ++ [p]) ↔ Apart pre ∧ ¬ ∃ q ∈ pre, sameP p q := by
    unfold Apart
    rw [List.pairwise_append]
    constructor
    · rintro ⟨h1, _, h3⟩
      exact ⟨h1, fun ⟨q, hq, hs⟩ => h3 q hq p (by simp) hs⟩
    · rintro ⟨h1, h2⟩
      exact ⟨h1, by simp, fun q hq r hr hs => by simp at hr; subst hr; exact h2 ⟨q, hq, hs⟩⟩
  refine ⟨fun i j => ?_, fun ha i j => ?_, ?_, ?_⟩
  · rw [mg_putP m p hp]
    constructor
    · intro h
      cases hg : gotP p i j with
      | some v => exact ⟨p, by simp, by simp [hg]⟩
      | none =>
        rw [hg] at h
        obtain ⟨q, hq, h⟩ := (hI.some_ i j).1 (by simpa using h)
        exact ⟨q, by simp [hq], h⟩
    · rintro ⟨q, hq, h⟩
      rcases List.mem_append.1 hq with hq | hq
      · have := (hI.some_ i j).2 ⟨q, hq, h⟩
        cases gotP p i j <;> simp [this]
      · simp at hq
        subst hq
        cases hg : gotP q i j with
        | some v => simp
        | none => rw [hg] at h; cases h
  · rw [mg_putP m p hp]
    obtain ⟨h1, h2⟩ := hap.1 ha
    unfold got
    rw [List.findSome?_append]
    simp only [List.findSome?_cons, List.findSome?_nil]
    rw [hI.get h1]
    show (gotP p i j).or (got pre i j) = (got pre i j).or _
    cases hg : gotP p i j with
    | none => cases got pre i j <;> rfl
    | some v =>
      have : got pre i j = none := by
        unfold got
        rw [List.findSome?_eq_none_iff]
        intro q hq
        cases hq' : gotP q i j with
        | none => rfl
        | some u =>
          exfalso
          have := hpre q hq
          have e1 := gotP_some (p := q) (i := i) (j := j)
          have e2 := gotP_some (p := p) (i := i) (j := j)
          rw [hq'] at e1
          rw [hg] at e2
          simp only [Option.isSome_some, true_iff] at e1 e2
          exact h2 ⟨q, hq, by unfold sameP; omega⟩
      rw [this]; rfl
  · rw [hlen, List.length_append, List.length_singleton]
    have := hI.len
    split <;> omega
  · rw [hap, hlen, List.length_append, List.length_singleton, hI.apart, ← hsome]
    have := hI.len
    by_cases h : (mg m ⟨p.I, p.J⟩).isSome = true
    · simp only [h, if_true]
      constructor
      · rintro ⟨_, h2⟩; exact absurd trivial h2
      · intro h2; omega
    · simp only [h, if_false]
      constructor
      · rintro ⟨h1, _⟩; simp; omega
      · intro h1; exact ⟨by simp at h1; omega, by simp⟩
theorem invM_fold : ∀ (rest pre : List Pol) (m : List (A2 Int × A4 Cx)), (∀ q ∈ pre ++ rest, q.I < q.J) → InvM pre m → InvM (pre ++ rest) (rest.foldl putP m)
  | [], pre, m, h, hI => by simpa using hI
  | p :: rest, pre, m, h, hI => by
    have := invM_fold rest (pre ++ [p]) (putP m p) (by simpa using h) (invM_step hI (fun q hq => h q (by simp [hq])) p (h p (by simp)))
    simpa using this
theorem invM_all {l : List Pol} (h : ∀ q ∈ l, q.I < q.J) : InvM l (l.foldl putP []) := by
  have := invM_fold l [] [] (by simpa using h) ⟨fun i j => by simp [mg, mfind], fun _ i j => rfl, by simp, by simp [Apart]⟩
  simpa using this

/-! ### Four stations apart -/
def Four (a b c d : Int) : Prop := (0 ≤ a ∧ a < 8) ∧ (0 ≤ b ∧ b < 8) ∧ (0 ≤ c ∧ c < 8) ∧ (0 ≤ d ∧ d < 8) ∧ a ≠ b ∧ a ≠ c ∧ a ≠ d ∧ b ≠ c ∧ b ≠ d ∧ c ≠ d
theorem compact4 (w x y z : Int) : ((Lib.compact [w, x, y, z]).length : Int) < 4 ↔ w = x ∨ x = y ∨ y = z := by
  have hc : (w = x ∨ x = y ∨ y = z) ↔ (x = w ∨ y = x ∨ z = y) := by constructor <;> intro h <;> omega
  rw [hc]
  unfold Lib.compact Lib.compactUpTo
  simp only [List.length_cons, List.length_nil, List.length_map]
  rw [show List.range (0 + 1 + 1 + 1 + 1) = [0, 1, 2, 3] from rfl]
  have k0 : Lib.keeps [w, x, y, z].toArray 0 = true := by simp [Lib.keeps]
  have k1 : Lib.keeps [w, x, y, z].toArray 1 = decide (x ≠ w) := by simp [Lib.keeps]
  have k2 : Lib.keeps [w, x, y, z].toArray 2 = decide (y ≠ x) := by simp [Lib.keeps]
  have k3 : Lib.keeps [w, x, y, z].toArray 3 = decide (z ≠ y) := by simp [Lib.keeps]
  simp only [List.filter_cons, List.filter_nil, k0, k1, k2, k3]
  clear hc k0 k1 k2 k3
  by_cases h1 : x = w <;> by_cases h2 : y = x <;> by_cases h3 : z = y <;> (try subst h1) <;> (try subst h2) <;> (try subst h3) <;> simp_all
theorem four_in {w x y z v : Int} (h1 : w ≤ x) (h2 : x ≤ y) (h3 : y ≤ z) (hv : v = w ∨ v = x ∨ v = y ∨ v = z) (h0 : 0 ≤ w) (h8 : z < 8) : 0 ≤ v ∧ v < 8 := by
  rcases hv with h | h | h | h <;> omega
theorem four_out {a b c d v : Int} (hv : v = a ∨ v = b ∨ v = c ∨ v = d) (h : (0 ≤ a ∧ a < 8) ∧ (0 ≤ b ∧ b < 8) ∧ (0 ≤ c ∧ c < 8) ∧ (0 ≤ d ∧ d < 8)) : 0 ≤ v ∧ v < 8 := by
  rcases hv with rfl | rfl | rfl | rfl
  · exact h.1
  · exact h.2.1
  · exact h.2.2.1
  · exact h.2.2.2
theorem four_apart {w x y z : Int} (h1 : w ≤ x) (h2 : x ≤ y) (h3 : y ≤ z) : ((w ≠ x ∧ w ≠ y ∧ w ≠ z) ∧ (x ≠ y ∧ x ≠ z) ∧ y ≠ z) ↔ (w ≠ x ∧ x ≠ y ∧ y ≠ z) := by
  constructor
  · rintro ⟨⟨h1, _, _⟩, ⟨h2, _⟩, h3⟩; exact ⟨h1, h2, h3⟩
  · rintro ⟨k1, k2, k3⟩; refine ⟨⟨k1, ?_, ?_⟩, ⟨k2, ?_⟩, k3⟩ <;> omega
theorem sort4 (a b c d : Int) : ∃ w x y z, sortI [a, b, c, d] = [w, x, y, z] ∧ (w < 0 ∨ 8 ≤ z ∨ (w = x ∨ x = y ∨ y = z) ↔ ¬ Four a b c d) := by
  have hl := length_sortI [a, b, c, d]
  have hp := sortI_perm [a, b, c, d]
  have hs := sortI_sorted [a, b, c, d]
  generalize hL : sortI [a, b, c, d] = L at *
  match L, hl with
  | [w, x, y, z], _ =>
    refine ⟨w, x, y, z, rfl, ?_⟩
    simp only [List.pairwise_cons, List.mem_cons, List.not_mem_nil, or_false, forall_eq_or_imp, forall_eq] at hs
    obtain ⟨⟨s1, _, _⟩, ⟨s2, _⟩, s3, _⟩ := hs
    have hnd : [a, b, c, d].Nodup ↔ [w, x, y, z].Nodup := hp.nodup_iff.symm
    have hmem : ∀ v, (v = w ∨ v = x ∨ v = y ∨ v = z) ↔ (v = a ∨ v = b ∨ v = c ∨ v = d) := fun v => by
      have := hp.mem_iff (a := v)
      simpa using this
    simp only [List.nodup_cons, List.mem_cons, List.not_mem_nil, or_false, not_or, List.nodup_nil, and_true, not_false_eq_true] at hnd
    have hf : Four a b c d ↔ ((0 ≤ a ∧ a < 8) ∧ (0 ≤ b ∧ b < 8) ∧ (0 ≤ c ∧ c < 8) ∧ (0 ≤ d ∧ d < 8)) ∧ ((a ≠ b ∧ a ≠ c ∧ a ≠ d) ∧ (b ≠ c ∧ b ≠ d) ∧ c ≠ d) := by
      unfold Four
      constructor
      · rintro ⟨x1, x2, x3, x4, x5, x6, x7, x8, x9, x10⟩; exact ⟨⟨x1, x2, x3, x4⟩, ⟨x5, x6, x7⟩, ⟨x8, x9⟩, x10⟩
      · rintro ⟨⟨x1, x2, x3, x4⟩, ⟨x5, x6, x7⟩, ⟨x8, x9⟩, x10⟩; exact ⟨x1, x2, x3, x4, x5, x6, x7, x8, x9, x10⟩
    have hr : ((0 ≤ a ∧ a < 8) ∧ (0 ≤ b ∧ b < 8) ∧ (0 ≤ c ∧ c < 8) ∧ (0 ≤ d ∧ d < 8)) ↔ (0 ≤ w ∧ z < 8) := by
      constructor
      · intro h
        exact ⟨(four_out ((hmem w).1 (by simp)) h).1, (four_out ((hmem z).1 (by simp)) h).2⟩
      · rintro ⟨h1, h2⟩
        exact ⟨four_in s1 s2 s3 ((hmem a).2 (by simp)) h1 h2, four_in s1 s2 s3 ((hmem b).2 (by simp)) h1 h2, four_in s1 s2 s3 ((hmem c).2 (by simp)) h1 h2, four_in s1 s2 s3 ((hmem d).2 (by simp)) h1 h2⟩
    have hd : ((a ≠ b ∧ a ≠ c ∧ a ≠ d) ∧ (b ≠ c ∧ b ≠ d) ∧ c ≠ d) ↔ (w ≠ x ∧ x ≠ y ∧ y ≠ z) := Iff.trans hnd (four_apart s1 s2 s3)
    rw [hf, hr, hd]
    clear hf hr hd hnd hmem hp hL
    constructor
    · rintro (h | h | h) ⟨⟨h1, h2⟩, h3, h4, h5⟩
      · omega
      · omega
      · rcases h with h | h | h
        · exact h3 h
        · exact h4 h
        · exact h5 h
    · intro h
      by_cases c1 : w < 0
      · exact .inl c1
      · by_cases c2 : 8 ≤ z
        · exact .inr (.inl c2)
        · right; right
          by_cases c3 : w = x
          · exact .inl c3
          · by_cases c4 : x = y
            · exact .inr (.inl c4)
            · by_cases c5 : y = z
              · exact .inr (.inr c5)
              · exact absurd ⟨⟨by omega, by omega⟩, c3, c4, c5⟩ h

/-! ### The loop -/
noncomputable def loopV (ab cb cd ad : A4 Cx) : A4 Cx × Int :=
  if (invS cb).2 = 0 then (if (invS ad).2 = 0 then prodL ab [(invS cb).1, cd, (invS ad).1] else (zJ, (invS ad).2)) else (zJ, (invS cb).2)
noncomputable def loopG (l : List Pol) (a b c d : Int) : A4 Cx × Int :=
  match got l a b, got l c b, got l c d, got l a d with
  | some ab, some cb, some cd, some ad => loopV ab cb cd ad
  | _, _, _, _ => (zJ, 6)
noncomputable def loopS (l : List Pol) (a b c d : Int) : A4 Cx × Int := open Classical in
  if seenS l 8 = 0 then (if Apart l then (if Four a b c d then loopG l a b c d else (zJ, 2)) else (zJ, 14)) else (zJ, seenS l 8)
theorem jl_k4 (a b c d : Int) (m : List (A2 Int × A4 Cx)) : jones_Loop.k4 a b c d m false = some (loopV (mgetD m ⟨a, b⟩ zJ) (mgetD m ⟨c, b⟩ zJ) (mgetD m ⟨c, d⟩ zJ) (mgetD m ⟨a, d⟩ zJ)) := by
  unfold jones_Loop.k4 loopV
  rw [if_neg (by decide), jones_inv_eq, Option.bind_some]
  generalize mgetD m ⟨c, b⟩ zJ = cb
  generalize mgetD m ⟨a, d⟩ zJ = ad
  generalize mgetD m ⟨a, b⟩ zJ = ab
  generalize mgetD m ⟨c, d⟩ zJ = cd
  by_cases h1 : (invS cb).2 = 0
  · rw [if_neg (by simp [h1]), if_pos h1, jones_inv_eq, Option.bind_some]
    by_cases h2 : (invS ad).2 = 0
    · rw [if_neg (by simp [h2]), if_pos h2, jones_product_eq _ _ (by simp), Option.bind_some]
    · rw [if_pos (by simp [h2]), if_neg h2]
  · rw [if_pos (by simp [h1]), if_neg h1]
theorem jl_k4t (a b c d : Int) (m : List (A2 Int × A4 Cx)) : jones_Loop.k4 a b c d m true = some (zJ, 6) := by
  unfold jones_Loop.k4; rw [if_pos rfl]
theorem jl_k3 (l : List Pol) (a b c d : Int) (m : List (A2 Int × A4 Cx)) (hm : ∀ i j, mg m ⟨i, j⟩ = got l i j) : jones_Loop.k3 a b c d m false = some (loopG l a b c d) := by
  unfold jones_Loop.k3 loopG
  rw [if_neg (by decide)]
  simp only [mhas_eq, hm, jl_k4t]
  cases h1 : got l a b with
  | none => simp
  | some ab =>
    cases h2 : got l c b with
    | none => simp
    | some cb =>
      cases h3 : got l c d with
      | none => simp
      | some cd =>
        cases h4 : got l a d with
        | none => simp [jl_k4t]
        | some ad =>
          simp only [Option.isSome_some, Bool.not_true, Bool.false_eq_true, if_false]
          rw [jl_k4]
          simp [mgetD_eq, hm, h1, h2, h3, h4]
theorem jones_loop_eq (l : List Pol) (a b c d : Int) : jones_Loop.f l a b c d = some (loopS l a b c d) := by
  unfold jones_Loop.f loopS
  rw [jones_seen_eq, Option.bind_some]
  by_cases hs : seenS l 8 = 0
  · rw [if_neg (by simp [hs]), if_pos hs]
    obtain ⟨l1, l2⟩ := seen_ok hs
    have hij : ∀ q ∈ l, q.I < q.J := fun q hq => by have := l2 q hq; unfold badP at this; omega
    rw [iter_foldl (β := List (A2 Int × A4 Cx)) l (fun b i => (b, i)) putP (fun b => b) (fun _ _ => True) [] trivial (fun b i hi _ => ⟨?_, trivial⟩) (fun b _ => ?_)]
    · rw [Option.bind_some]
      have hI := invM_all hij
      generalize l.foldl putP [] = m at *
      simp only [fin]
      unfold jones_Loop.k2
      have hw : w64 (2 * (l.length : Int)) = 2 * (l.length : Int) := w64_id (by omega) (by omega)
      rw [hw]
      by_cases ha : Apart l
      · have hlen := hI.apart.1 ha
        rw [if_neg (by simp; omega), if_pos ha, if_pos (by simp)]
        obtain ⟨w, x, y, z, h4, hiff⟩ := sort4 a b c d
        unfold lt'
        rw [h4]
        dsimp only
        have hx0 : ix [w, x, y, z] 0 = w := rfl
        have hx3 : ix [w, x, y, z] 3 = z := rfl
        have hk3 : jones_Loop.k3 a b c d m true = some (zJ, 2) := by unfold jones_Loop.k3; rw [if_pos rfl]
        rw [if_pos (by simp), hx0, hx3]
        by_cases c1 : w < 0
        · rw [if_pos (by simpa using c1), if_neg (hiff.1 (.inl c1)), hk3]
        · rw [if_neg (by simpa using c1), if_pos (by simp)]
          by_cases c2 : 8 ≤ z
          · rw [if_pos (by simpa using c2), if_neg (hiff.1 (.inr (.inl c2))), hk3]
          · rw [if_neg (by simpa using c2), if_pos (by simp)]
            by_cases c3 : w = x ∨ x = y ∨ y = z
            · rw [if_neg (hiff.1 (.inr (.inr c3)))]
              rw [show decide (((Lib.compact [w, x, y, z]).length : Int) < 4) = true from by simpa using (compact4 w x y z).2 c3]
              exact hk3
            · have hF : Four a b c d := by
                apply Classical.byContradiction
                intro hF
                rcases hiff.2 hF with h | h | h
                · exact c1 h
                · exact c2 h
                · exact c3 h
              rw [if_pos hF]
              rw [show decide (((Lib.compact [w, x, y, z]).length : Int) < 4) = false from by simpa using fun h => c3 ((compact4 w x y z).1 h)]
              exact jl_k3 l a b c d m (hI.get ha)
      · have hlen : m.length < 2 * l.length := by
          have h1 := hI.len
          have h2 : m.length ≠ 2 * l.length := fun h => ha (hI.apart.2 h)
          omega
        rw [if_pos (by simp; omega), if_neg ha]
    · show jones_Loop.s1 l b (i : Int) = _
      unfold jones_Loop.s1
      rw [if_pos (by simp; omega), if_pos (by omega), adj_eq, Option.bind_some, ix_at hi, w64_succ (by omega)]
      rfl
    · show jones_Loop.s1 l b _ = _
      unfold jones_Loop.s1
      rw [if_neg (by simp)]
  · rw [if_pos (by simp [hs]), if_neg hs]
end Go.Proofs.Ytlfmmenlkpoodaa.M
