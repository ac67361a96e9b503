/- Fractions in lowest terms: the code's and the reference's Make. -/
import Derived.Test.YtiepcikippcfaaaPBits
import Derived.Test.YtiepcikippcfaaaGp2
set_option linter.unusedVariables false
set_option linter.unusedSimpArgs false
set_option maxRecDepth 100000
namespace Go.Proofs.Ytiepcikippcfaaa.M
open Go.GW Go.Proofs

/-- Euclid's rounds on numbers that are not negative. -/
theorem iter_gcdN {r : Type} {f : Int × Int → Option (St (Int × Int) Int r)} (hn : ∀ g n, 0 ≤ g → 0 < n → f (g, n) = some (.next (n, Int.tmod g n))) (he : ∀ g, f (g, 0) = some (.brk g)) :
    ∀ g n : Nat, iter f ((g : Int), (n : Int)) = some (.brk ((Nat.gcd g n : Nat) : Int)) := by
  have main : ∀ (k g n : Nat), n = k → iter f ((g : Int), (n : Int)) = some (.brk ((Nat.gcd g n : Nat) : Int)) := by
    intro k
    induction k using Nat.strongRecOn with
    | _ k ih =>
      intro g n hk
      by_cases h0 : n = 0
      · subst h0
        rw [show ((0 : Nat) : Int) = 0 from rfl, iter_brk (he g)]
        simp
      · rw [iter_next (hn g n (by omega) (by omega))]
        have e : Int.tmod (g : Int) (n : Int) = ((g % n : Nat) : Int) := by rw [Int.tmod_eq_emod_of_nonneg (by omega)]; omega
        rw [e, ih (g % n) (by have := Nat.mod_lt g (show 0 < n by omega); omega) n (g % n) rfl]
        rw [Nat.gcd_comm g n, Nat.gcd_rec n g, Nat.gcd_comm n (g % n)]
  exact fun g n => main n g n rfl
theorem frac_gcd_ok (a b : Nat) : frac_gcd.f (a : Int) (b : Int) = some ((Nat.gcd a b : Nat) : Int) := by
  unfold frac_gcd.f
  rw [iter_gcdN]
  · rfl
  · intro g n hg hn
    unfold frac_gcd.s1
    rw [if_pos (by simpa using hn), if_pos (by omega)]
    rfl
  · intro g
    unfold frac_gcd.s1
    rw [if_neg (by simp)]
theorem frac_abs_ok {n : Int} (h1 : -9223372036854775808 ≤ n) (h2 : n ≤ 9223372036854775807) : frac_abs.f n = some (n.natAbs : Int) := by
  unfold frac_abs.f
  split
  · rename_i h
    simp only [decide_eq_true_eq] at h
    rw [wu64_emod n, wu64_emod]
    congr 1; omega
  · rename_i h
    simp only [decide_eq_true_eq] at h
    rw [wu64_id (by omega) (by omega)]
    congr 1; omega
def lowR (minus : Bool) (x y : Int) : Frac × Int := if 1000000000000000000 < x ∨ 1000000000000000000 < y then (⟨0, 0⟩, 16) else (⟨if minus = true then -x else x, y⟩, 0)
theorem frac_made_ok (minus : Bool) {x y : Int} (h1 : 0 ≤ x) (h2 : 0 ≤ y) : frac_made.f minus x y = some (lowR minus x y) := by
  unfold frac_made.f frac_made.k1 frac_made.k2 lowR
  by_cases c1 : 1000000000000000000 < x
  · rw [if_pos (by simpa using c1), if_pos rfl, if_pos (.inl c1)]
  · rw [if_neg (by simpa using c1)]
    by_cases c2 : 1000000000000000000 < y
    · rw [if_pos (by simpa using c2), if_pos (.inr c2)]
    · rw [if_neg (show ¬ (1000000000000000000 < x ∨ 1000000000000000000 < y) by omega), if_neg (by simpa using c2), w64_id (x := x) (by omega) (by omega), w64_id (x := y) (by omega) (by omega), w64_id (x := 0 - x) (by omega) (by omega)]
      cases minus <;> simp
/-- The fraction num / den in lowest terms. -/
def makeR (num den : Int) : Frac × Int :=
  if den = 0 then (⟨0, 0⟩, 18) else lowR (!((decide (num < 0)) == (decide (den < 0)))) ((num.natAbs / Nat.gcd num.natAbs den.natAbs : Nat) : Int) ((den.natAbs / Nat.gcd num.natAbs den.natAbs : Nat) : Int)
theorem tdiv_nat (a b : Nat) : Int.tdiv (a : Int) (b : Int) = ((a / b : Nat) : Int) := by rw [Int.tdiv_eq_ediv_of_nonneg (by omega)]; omega
theorem div_lt_u {a b : Nat} (h : a ≤ 9223372036854775808) : ((a / b : Nat) : Int) < 18446744073709551616 := by have := Nat.div_le_self a b; omega
theorem frac_Make_ok {num den : Int} (h1 : -9223372036854775808 ≤ num) (h2 : num ≤ 9223372036854775807) (h3 : -9223372036854775808 ≤ den) (h4 : den ≤ 9223372036854775807) : frac_Make.f num den = some (makeR num den) := by
  unfold frac_Make.f makeR
  by_cases c : den = 0
  · rw [if_pos (by simpa using c), if_pos c]
  · rw [if_neg (by simpa using c), if_neg c, frac_abs_ok h1 h2, frac_abs_ok h3 h4]
    simp only [Option.bind_some]
    rw [frac_gcd_ok]
    simp only [Option.bind_some]
    have hg : ¬ ((Nat.gcd num.natAbs den.natAbs : Nat) : Int) = 0 := by
      have := Nat.gcd_pos_of_pos_right num.natAbs (show 0 < den.natAbs by omega)
      omega
    rw [if_pos hg, if_pos hg, tdiv_nat, tdiv_nat, wu64_id (Int.natCast_nonneg _) (div_lt_u (by omega)), wu64_id (Int.natCast_nonneg _) (div_lt_u (by omega)), frac_made_ok _ (Int.natCast_nonneg _) (Int.natCast_nonneg _)]
    rfl
end Go.Proofs.Ytiepcikippcfaaa.M
