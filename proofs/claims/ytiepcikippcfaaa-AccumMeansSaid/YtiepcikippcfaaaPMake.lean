/- Fractions in lowest terms: the code's and the reference's Make. -/
import Derived.Test.YtiepcikippcfaaaPBits
import Derived.Test.YtiepcikippcfaaaGp2
set_option linter.unusedVariables false
set_option linter.unusedSimpArgs false
set_option maxRecDepth 100000
namespace Go.Proofs.Ytiepcikippcfaaa.M
open Go.GW Go.Proofs

/-- Euclid's rounds on numbers that are not negative. -/
theorem iter_gcdN {r : Type} {f : Int × Int → Option (St (Int × Int) Int r)} (hn : ∀ g n, 0 ≤ g → 0 < n → f (g, n) = some (.next (n, Int.tmod g n))) (he : ∀ g, f (g, 0) = some (.brk g)) :
    ∀ g n : Nat, iter f ((g : Int), (n : Int)) = some (.brk ((Nat.gcd g n : Nat) : Int)) := by
  have main : ∀ (k g n : Nat), n = k → iter f ((g : Int), (n : Int)) = some (.brk ((Nat.gcd g n : Nat) : Int)) := by
    intro k
    induction k using Nat.strongRecOn with
    | _ k ih =>
      intro g n hk
      by_cases h0 : n = 0
      · subst h0
        rw [show ((0 : Nat) : Int) = 0 from rfl, iter_brk (he g)]
        simp
      · rw [iter_next (hn g n (by omega) (by omega))]
        have e : Int.tmod (g : Int) (n : Int) = ((g % n : Nat) : Int) := by rw [Int.tmod_eq_emod_of_nonneg (by omega)]; omega
        rw [e, ih (g % n) (by have := Nat.mod_lt g (show 0 < n by omega); omega) n (g % n) rfl]
        rw [Nat.gcd_comm g n, Nat.gcd_rec n g, Nat.gcd_comm n (g % n)]
  exact fun g n => main n g n rfl
theorem frac_gcd_ok (a b : Nat) : frac_gcd.f (a : Int) (b : Int) = some ((Nat.gcd a b : Nat) : Int) := by
  unfold frac_gcd.f
  rw [iter_gcdN]
  · rfl
  · intro g n hg hn
    unfold frac_gcd.s1
    rw [if_pos (by simpa using hn), if_pos (by omega)]
    rfl
  · intro g
    unfold frac_gcd.s1
    rw [if_neg (by simp)]
theorem ref01_gcd_ok (a b : Nat) : ref01_gcd.f (a : Int) (b : Int) = some ((Nat.gcd a b : Nat) : Int) := by
  unfold ref01_gcd.f
  rw [iter_gcdN]
  · rfl
  · intro g n hg hn
    unfold ref01_gcd.s1
    rw [if_pos (by simp; omega), if_pos (by omega)]
    rfl
  · intro g
    unfold ref01_gcd.s1
    rw [if_neg (by simp)]
theorem frac_abs_ok {n : Int} (h1 : -9223372036854775808 ≤ n) (h2 : n ≤ 9223372036854775807) : frac_abs.f n = some (n.natAbs : Int) := by
  unfold frac_abs.f
  split
  · rename_i h
    simp only [decide_eq_true_eq] at h
    rw [wu64_emod n, wu64_emod]
    congr 1; omega
  · rename_i h
    simp only [decide_eq_true_eq] at h
    rw [wu64_id (by omega) (by omega)]
    congr 1; omega
theorem ref01_abs_ok {n : Int} (h1 : -9223372036854775808 ≤ n) (h2 : n ≤ 9223372036854775807) : ref01_abs.f n = some (n.natAbs : Int) := by
  unfold ref01_abs.f
  split
  · rename_i h
    simp only [decide_eq_true_eq] at h
    rw [wu64_id (by omega) (by omega)]
    congr 1; omega
  · rename_i h
    simp only [decide_eq_true_eq] at h
    rw [w64_id (x := n + 1) (by omega) (by omega), w64_id (x := 0 - (n + 1)) (by omega) (by omega), wu64_id (x := 0 - (n + 1)) (by omega) (by omega), wu64_id (by omega) (by omega)]
    congr 1; omega
def lowR (minus : Bool) (x y : Int) : Frac × Int := if 1000000000000000000 < x ∨ 1000000000000000000 < y then (⟨0, 0⟩, 16) else (⟨if minus = true then -x else x, y⟩, 0)
theorem frac_made_ok (minus : Bool) {x y : Int} (h1 : 0 ≤ x) (h2 : 0 ≤ y) : frac_made.f minus x y = some (lowR minus x y) := by
  unfold frac_made.f frac_made.k1 frac_made.k2 lowR
  by_cases c1 : 1000000000000000000 < x
  · rw [if_pos (by simpa using c1), if_pos rfl, if_pos (.inl c1)]
  · rw [if_neg (by simpa using c1)]
    by_cases c2 : 1000000000000000000 < y
    · rw [if_pos (by simpa using c2), if_pos (.inr c2)]
    · rw [if_neg (show ¬ (1000000000000000000 < x ∨ 1000000000000000000 < y) by omega), if_neg (by simpa using c2), w64_id (x := x) (by omega) (by omega), w64_id (x := y) (by omega) (by omega), w64_id (x := 0 - x) (by omega) (by omega)]
      cases minus <;> simp
theorem ref01_small_ok {x : Int} (h1 : 0 ≤ x) (h2 : x < 18446744073709551616) : (ref01_big.f x).bind ref01_Small.f = some (x % 9223372036854775808, decide (x ≤ 1000000000000000000)) := by
  unfold ref01_big.f
  simp only [Option.bind_some]
  unfold ref01_Small.f
  simp only [lt']
  rw [or_parts h1 h2, gand63 h1 h2, w64_id (by omega) (by omega)]
  simp
theorem ref01_lowest_ok (minus : Bool) {x y : Int} (h1 : 0 ≤ x) (h2 : 0 ≤ y) (h3 : x < 18446744073709551616) (h4 : y < 18446744073709551616) {bx bY : Big} (hx : ref01_big.f x = some bx) (hy : ref01_big.f y = some bY) : ref01_lowest.f minus bx bY = some (lowR minus x y) := by
  have e1 := ref01_small_ok h1 h3
  have e2 := ref01_small_ok h2 h4
  rw [hx, Option.bind_some] at e1
  rw [hy, Option.bind_some] at e2
  unfold ref01_lowest.f ref01_lowest.k1 ref01_lowest.k2 lowR
  rw [e1, e2]
  simp only [Option.bind_some]
  by_cases c1 : 1000000000000000000 < x
  · have : ¬ x ≤ 1000000000000000000 := by omega
    simp [c1, this]
  · have d1 : x ≤ 1000000000000000000 := by omega
    by_cases c2 : 1000000000000000000 < y
    · have : ¬ y ≤ 1000000000000000000 := by omega
      simp [c2, d1, this]
    · have d2 : y ≤ 1000000000000000000 := by omega
      rw [Int.emod_eq_of_lt h1 (by omega), Int.emod_eq_of_lt h2 (by omega), w64_id (x := 0 - x) (by omega) (by omega)]
      cases minus <;> simp [c1, c2, d1, d2]
/-- The fraction num / den in lowest terms. -/
def makeR (num den : Int) : Frac × Int :=
  if den = 0 then (⟨0, 0⟩, 18) else lowR (!((decide (num < 0)) == (decide (den < 0)))) ((num.natAbs / Nat.gcd num.natAbs den.natAbs : Nat) : Int) ((den.natAbs / Nat.gcd num.natAbs den.natAbs : Nat) : Int)
theorem tdiv_nat (a b : Nat) : Int.tdiv (a : Int) (b : Int) = ((a / b : Nat) : Int) := by rw [Int.tdiv_eq_ediv_of_nonneg (by omega)]; omega
theorem div_lt_u {a b : Nat} (h : a ≤ 9223372036854775808) : ((a / b : Nat) : Int) < 18446744073709551616 := by have := Nat.div_le_self a b; omega
theorem frac_Make_ok {num den : Int} (h1 : -9223372036854775808 ≤ num) (h2 : num ≤ 9223372036854775807) (h3 : -9223372036854775808 ≤ den) (h4 : den ≤ 9223372036854775807) : frac_Make.f num den = some (makeR num den) := by
  unfold frac_Make.f makeR
  by_cases c : den = 0
  · rw [if_pos (by simpa using c), if_pos c]
  · rw [if_neg (by simpa using c), if_neg c, frac_abs_ok h1 h2, frac_abs_ok h3 h4]
    simp only [Option.bind_some]
    rw [frac_gcd_ok]
    simp only [Option.bind_some]
    have hg : ¬ ((Nat.gcd num.natAbs den.natAbs : Nat) : Int) = 0 := by
      have := Nat.gcd_pos_of_pos_right num.natAbs (show 0 < den.natAbs by omega)
      omega
    rw [if_pos hg, if_pos hg, tdiv_nat, tdiv_nat, wu64_id (Int.natCast_nonneg _) (div_lt_u (by omega)), wu64_id (Int.natCast_nonneg _) (div_lt_u (by omega)), frac_made_ok _ (Int.natCast_nonneg _) (Int.natCast_nonneg _)]
    rfl
theorem ref01_Make_ok {num den : Int} (h1 : -9223372036854775808 ≤ num) (h2 : num ≤ 9223372036854775807) (h3 : -9223372036854775808 ≤ den) (h4 : den ≤ 9223372036854775807) : ref01_Make.f num den = some (makeR num den) := by
  unfold ref01_Make.f makeR
  by_cases c : den = 0
  · rw [if_pos (by simpa using c), if_pos c]
  · rw [if_neg (by simpa using c), if_neg c, ref01_abs_ok h1 h2, ref01_abs_ok h3 h4]
    simp only [Option.bind_some]
    rw [ref01_gcd_ok]
    simp only [Option.bind_some]
    have hg : ¬ ((Nat.gcd num.natAbs den.natAbs : Nat) : Int) = 0 := by
      have := Nat.gcd_pos_of_pos_right num.natAbs (show 0 < den.natAbs by omega)
      omega
    rw [if_pos hg, tdiv_nat, tdiv_nat, wu64_id (Int.natCast_nonneg _) (div_lt_u (by omega)), wu64_id (Int.natCast_nonneg _) (div_lt_u (by omega))]
    obtain ⟨bx, hbx⟩ : ∃ b, ref01_big.f ((num.natAbs / Nat.gcd num.natAbs den.natAbs : Nat) : Int) = some b := ⟨_, rfl⟩
    obtain ⟨bY, hby⟩ : ∃ b, ref01_big.f ((den.natAbs / Nat.gcd num.natAbs den.natAbs : Nat) : Int) = some b := ⟨_, rfl⟩
    rw [hbx, hby]
    simp only [Option.bind_some]
    rw [if_pos hg, ref01_lowest_ok _ (Int.natCast_nonneg _) (Int.natCast_nonneg _) (div_lt_u (by omega)) (div_lt_u (by omega)) hbx hby]
    rfl
end Go.Proofs.Ytiepcikippcfaaa.M
