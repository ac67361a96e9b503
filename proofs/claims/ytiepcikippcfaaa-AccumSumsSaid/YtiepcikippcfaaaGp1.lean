/-
  Gp1: plain laws over the models: numbers in their bounds, rounds over a list.
-/
import Derived.Test.YtiepcikippcfaaaGw9
set_option linter.unusedVariables false
set_option linter.unusedSimpArgs false
namespace Go.GW
open Go

theorem w64_id {x : Int} (h1 : -9223372036854775808 ≤ x) (h2 : x ≤ 9223372036854775807) : w64 x = x := IntWalk.i64_in x (by omega)
theorem okInt_i64 {x : Int} (h : okInt .i64 x) : -9223372036854775808 ≤ x ∧ x ≤ 9223372036854775807 := by
  unfold okInt Lit.wf at h
  have e1 : IntKind.i64.min = -9223372036854775808 := by decide
  have e2 : IntKind.i64.max = 9223372036854775807 := by decide
  simp only [e1, e2, Bool.and_eq_true, decide_eq_true_eq] at h
  exact h
theorem ix_at {α : Type} [Inhabited α] {xs : List α} {i : Nat} (h : i < xs.length) : ix xs (i : Int) = xs[i] := by
  simp [ix, List.getD_eq_getElem?_getD, List.getElem?_eq_getElem h]
theorem iteT {α : Type} {b : Bool} {x y : α} (h : b = true) : (if b = true then x else y) = x := if_pos h
theorem iteF {α : Type} {b : Bool} {x y : α} (h : b = false) : (if b = true then x else y) = y := if_neg (by simp [h])

/-- Rounds over a list, which may end early. -/
def foldE {α β r : Type} (g : β → α → Sum β r) : List α → β → Sum β r
  | [], b => .inl b
  | x :: xs, b => match g b x with
    | .inl b' => foldE g xs b'
    | .inr v => .inr v

theorem iter_foldE {α β σ τ r : Type} (xs : List α) (mk : β → Int → σ) {f : σ → Option (St σ τ r)} (g : β → α → Sum β r) (fi : β → τ) (I : Nat → β → Prop) (b0 : β) (h0 : I 0 b0)
    (hs : ∀ b i (h : i < xs.length), I i b → (∀ b', g b xs[i] = .inl b' → f (mk b (i : Int)) = some (.next (mk b' ((i : Int) + 1))) ∧ I (i + 1) b') ∧ (∀ v, g b xs[i] = .inr v → f (mk b (i : Int)) = some (.ret v)))
    (he : ∀ b, I xs.length b → f (mk b (xs.length : Int)) = some (.brk (fi b))) :
    iter f (mk b0 0) = some (match foldE g xs b0 with | .inl b => .brk (fi b) | .inr v => .ret v) := by
  have main : ∀ (n k : Nat) (b : β), xs.length - k = n → k ≤ xs.length → I k b → iter f (mk b (k : Int)) = some (match foldE g (xs.drop k) b with | .inl b => .brk (fi b) | .inr v => .ret v) := by
    intro n
    induction n with
    | zero =>
      intro k b hn hk hi
      obtain rfl : k = xs.length := by omega
      rw [iter_brk (he b hi)]
      simp [foldE]
    | succ n ih =>
      intro k b hn hk hi
      have hlt : k < xs.length := by omega
      obtain ⟨h1, h2⟩ := hs b k hlt hi
      rw [List.drop_eq_getElem_cons hlt]
      unfold foldE
      cases hg : g b xs[k] with
      | inl b' =>
        obtain ⟨h3, h4⟩ := h1 b' hg
        rw [iter_next h3]
        have := ih (k + 1) b' (by omega) (by omega) h4
        simpa using this
      | inr v => rw [iter_ret (h2 v hg)]
  simpa using main _ 0 b0 rfl (Nat.zero_le _) h0

theorem foldE_inl {α β r : Type} (g : β → α → β) : ∀ (xs : List α) (b : β), foldE (r := r) (fun b x => .inl (g b x)) xs b = .inl (xs.foldl g b)
  | [], _ => rfl
  | x :: xs, b => by simp [foldE, foldE_inl g xs]

/-- Rounds over a list, to its end. -/
theorem iter_foldl {α β σ τ r : Type} (xs : List α) (mk : β → Int → σ) {f : σ → Option (St σ τ r)} (g : β → α → β) (fi : β → τ) (I : Nat → β → Prop) (b0 : β) (h0 : I 0 b0)
    (hs : ∀ b i (h : i < xs.length), I i b → f (mk b (i : Int)) = some (.next (mk (g b xs[i]) ((i : Int) + 1))) ∧ I (i + 1) (g b xs[i]))
    (he : ∀ b, I xs.length b → f (mk b (xs.length : Int)) = some (.brk (fi b))) :
    iter f (mk b0 0) = some (.brk (fi (xs.foldl g b0))) := by
  rw [iter_foldE xs mk (r := r) (fun b x => .inl (g b x)) fi I b0 h0 (fun b i h hi => ⟨fun b' e => by cases e; exact hs b i h hi, fun v e => by cases e⟩) he, foldE_inl]

/-- Rounds that look for the first that answers. -/
theorem foldE_find {α r : Type} (p : α → Option r) : ∀ (xs : List α), foldE (fun (_ : Unit) x => match p x with | some v => .inr v | none => .inl ()) xs () = (match xs.findSome? p with | some v => .inr v | none => .inl ())
  | [] => rfl
  | x :: xs => by
    simp only [foldE, List.findSome?_cons]
    cases p x with
    | some v => rfl
    | none => simpa using foldE_find p xs
theorem iter_find {α σ τ r : Type} (xs : List α) (mk : Int → σ) {f : σ → Option (St σ τ r)} (p : α → Option r) (t : τ)
    (hs : ∀ i (h : i < xs.length), f (mk (i : Int)) = some (match p xs[i] with | some v => .ret v | none => .next (mk ((i : Int) + 1))))
    (he : f (mk (xs.length : Int)) = some (.brk t)) :
    iter f (mk 0) = some (match xs.findSome? p with | some v => .ret v | none => .brk t) := by
  have h := iter_foldE (β := Unit) xs (fun _ i => mk i) (f := f) (fun (_ : Unit) x => match p x with | some v => .inr v | none => .inl ()) (fun _ => t) (fun _ _ => True) () trivial
    (fun b i h _ => by
      have := hs i h
      cases hp : p xs[i] with
      | some v => rw [hp] at this; exact ⟨fun b' e => (by simp at e), fun v' e => (by simp at e; rw [← e]; exact this)⟩
      | none => rw [hp] at this; exact ⟨fun b' e => ⟨this, trivial⟩, fun v' e => (by simp at e)⟩) (fun _ _ => he)
  rw [h, foldE_find]
  cases xs.findSome? p <;> rfl

/-- Rounds that look for the first place that answers. -/
theorem iter_findIdx {α σ τ : Type} (xs : List α) (mk : Int → σ) {f : σ → Option (St σ τ Int)} (p : α → Bool) (t : τ)
    (hs : ∀ i (h : i < xs.length), f (mk (i : Int)) = some (if p xs[i] then .ret (i : Int) else .next (mk ((i : Int) + 1))))
    (he : f (mk (xs.length : Int)) = some (.brk t)) :
    iter f (mk 0) = some (if xs.any p then .ret (xs.findIdx p : Int) else .brk t) := by
  have main : ∀ (n k : Nat), xs.length - k = n → k ≤ xs.length → iter f (mk (k : Int)) = some (if (xs.drop k).any p then .ret ((k + (xs.drop k).findIdx p : Nat) : Int) else .brk t) := by
    intro n
    induction n with
    | zero =>
      intro k hn hk
      obtain rfl : k = xs.length := by omega
      rw [iter_brk he]; simp
    | succ n ih =>
      intro k hn hk
      have hlt : k < xs.length := by omega
      have h1 := hs k hlt
      have hd := List.drop_eq_getElem_cons hlt
      by_cases hp : p xs[k] = true
      · rw [if_pos hp] at h1
        have ha : (xs.drop k).any p = true := by rw [hd, List.any_cons, hp]; rfl
        have hb : (xs.drop k).findIdx p = 0 := by rw [hd, List.findIdx_cons, hp]; rfl
        rw [iter_ret h1, if_pos ha, hb, Nat.add_zero]
      · rw [if_neg hp] at h1
        have := ih (k + 1) (by omega) (by omega)
        simp only [Bool.not_eq_true] at hp
        rw [iter_next h1, show ((k : Int) + 1) = ((k + 1 : Nat) : Int) by omega, this, hd]
        simp only [List.any_cons, hp, Bool.false_or, List.findIdx_cons, cond_false]
        congr 2
        rw [show k + 1 + List.findIdx p (List.drop (k + 1) xs) = k + (List.findIdx p (List.drop (k + 1) xs) + 1) by omega]
  simpa using main _ 0 rfl (Nat.zero_le _)

theorem length_le_of_any {α : Type} {xs : List α} {n : Nat} (h : decide ((n : Int) < (xs.length : Int)) = false) : xs.length ≤ n := by
  simp at h; omega
theorem okWide_array {P : Program} {w : World} {r : Reach} {base : Nat} {t : TypeId} {v : Value} {n : Nat} {e : TypeId} (ht : P.underlying t = some (.array n e)) (h : Value.okWide P w r base t v) : ∃ cs, v = .agg cs ∧ cs.size = P.cellsOf t := by
  simp only [Value.okWide, ht] at h
  obtain ⟨cs, h1, h2, _⟩ := h
  exact ⟨cs, h1, h2⟩
end Go.GW
