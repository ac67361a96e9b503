/- Sums over the first numbers, and lists that are written place by place. -/
import Derived.Test.YtafploedondfpaaGp1
set_option linter.unusedVariables false
set_option linter.unusedSimpArgs false
namespace Go.Proofs.Ytafploedondfpaa.M
open Go.GW Go.Proofs
/-- f 0 + .. + f (n - 1). -/
def sumN (f : Nat → Int) : Nat → Int
  | 0 => 0
  | n + 1 => sumN f n + f n
theorem sumN_congr {f g : Nat → Int} : ∀ {n : Nat}, (∀ i, i < n → f i = g i) → sumN f n = sumN g n
  | 0, _ => rfl
  | n + 1, h => by rw [sumN, sumN, sumN_congr fun i hi => h i (by omega), h n (by omega)]
theorem sumN_zero {f : Nat → Int} : ∀ {n : Nat}, (∀ i, i < n → f i = 0) → sumN f n = 0
  | 0, _ => rfl
  | n + 1, h => by rw [sumN, sumN_zero fun i hi => h i (by omega), h n (by omega)]; rfl
theorem sumN_bound {f : Nat → Int} {b : Int} : ∀ {n : Nat}, (∀ i, i < n → -b ≤ f i ∧ f i ≤ b) → -((n : Int) * b) ≤ sumN f n ∧ sumN f n ≤ (n : Int) * b
  | 0, _ => by simp [sumN]
  | n + 1, h => by
    have h1 := sumN_bound (n := n) (b := b) fun i hi => h i (by omega)
    have h2 := h n (by omega)
    have e : ((n + 1 : Nat) : Int) * b = (n : Int) * b + b := by push_cast; rw [Int.add_mul, Int.one_mul]
    rw [sumN, e]
    omega
/-- Only one place counts. -/
theorem sumN_pick {g : Nat → Int} (j : Int) : ∀ (n : Nat), sumN (fun k => if (k : Int) = j then g k else 0) n = if 0 ≤ j ∧ j < (n : Int) then g j.toNat else 0
  | 0 => by rw [if_neg (by omega)]; rfl
  | n + 1 => by
    rw [sumN, sumN_pick j n]
    by_cases h1 : 0 ≤ j ∧ j < (n : Int)
    · rw [if_pos h1, if_neg (by omega), if_pos (by omega)]; omega
    · rw [if_neg h1]
      by_cases h2 : (n : Int) = j
      · rw [if_pos h2, if_pos (by omega), show j.toNat = n by omega]; omega
      · rw [if_neg h2, if_neg (by omega)]; rfl
end Go.Proofs.Ytafploedondfpaa.M
