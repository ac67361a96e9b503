/-
  Gc: models that can be reckoned by the kernel ('twins': rounds with a bound), and that the models come to the same answers.
-/
import Derived.Test.YtiepcikippcfaaaGp1
set_option linter.unusedVariables false
set_option linter.unusedSimpArgs false
namespace Go.GW
open Go

/-- Rounds up to a bound that no example here reaches. -/
def iterF {σ τ r : Type} (f : σ → Option (St σ τ r)) (s : σ) : Option (Out τ r) := iterN f 1000000000000 s

/-- What x answers, y answers. -/
def LE' {α : Type} (x y : Option α) : Prop := ∀ r, x = some r → y = some r
theorem LE'.refl {α : Type} (x : Option α) : LE' x x := fun _ h => h
theorem LE'.bind {α β : Type} {x y : Option α} {f g : α → Option β} (h1 : LE' x y) (h2 : ∀ t, LE' (f t) (g t)) : LE' (x.bind f) (y.bind g) := by
  intro r h
  obtain ⟨t, e1, e2⟩ := bind_some h
  rw [h1 t e1, Option.bind_some]
  exact h2 t r e2
theorem LE'.ite {α : Type} {p : Prop} [Decidable p] {x y x' y' : Option α} (h1 : LE' x x') (h2 : LE' y y') : LE' (if p then x else y) (if p then x' else y') := by
  by_cases hp : p
  · rw [if_pos hp, if_pos hp]; exact h1
  · rw [if_neg hp, if_neg hp]; exact h2
theorem LE'.lt {α β : Type} {x : α} {f g : α → Option β} (h : ∀ t, LE' (f t) (g t)) : LE' (lt' x f) (lt' x g) := h x
theorem LE'.fin {τ r : Type} {o : Out τ r} {k k' : τ → Option r} (h : ∀ t, LE' (k t) (k' t)) : LE' (fin o k) (fin o k') := by
  cases o with
  | brk t => exact h t
  | ret v => exact LE'.refl _
theorem LE'.iterN {σ τ r : Type} {f g : σ → Option (St σ τ r)} (h : ∀ s, LE' (f s) (g s)) : ∀ k s, LE' (iterN f k s) (iterN g k s)
  | 0, s => fun r h => by simp [Go.GW.iterN] at h
  | k + 1, s => by
    intro o ho
    simp only [Go.GW.iterN] at ho ⊢
    cases hf : f s with
    | none => rw [hf] at ho; cases ho
    | some st =>
      rw [hf] at ho
      rw [h s st hf]
      cases st with
      | next s' => exact LE'.iterN h k s' o ho
      | brk t => exact ho
      | ret v => exact ho
theorem LE'.iter {σ τ r : Type} {f g : σ → Option (St σ τ r)} {s : σ} (h : ∀ s, LE' (f s) (g s)) : LE' (iterF f s) (iter g s) := fun o ho => iter_of_N (LE'.iterN h _ s o ho)
end Go.GW
