/-
  Gp2: plain laws: the greatest common divisor by rounds.
-/
import Derived.Test.YtiepcikippcfaaaGp1
set_option linter.unusedVariables false
set_option linter.unusedSimpArgs false
namespace Go.GW
open Go

theorem natAbs_tmod (g n : Int) : (Int.tmod g n).natAbs = g.natAbs % n.natAbs := by
  rw [Int.natAbs_tmod]
/-- Euclid's rounds end, at the greatest common divisor or its negative. -/
theorem iter_gcd {r : Type} {f : Int × Int → Option (St (Int × Int) Int r)} (hn : ∀ g n, n ≠ 0 → f (g, n) = some (.next (n, Int.tmod g n))) (he : ∀ g, f (g, 0) = some (.brk g)) :
    ∀ g n : Int, ∃ d : Int, iter f (g, n) = some (.brk d) ∧ d.natAbs = Nat.gcd g.natAbs n.natAbs := by
  have main : ∀ (k : Nat) (g n : Int), n.natAbs = k → ∃ d : Int, iter f (g, n) = some (.brk d) ∧ d.natAbs = Nat.gcd g.natAbs n.natAbs := by
    intro k
    induction k using Nat.strongRecOn with
    | _ k ih =>
      intro g n hk
      by_cases h0 : n = 0
      · subst h0
        exact ⟨g, iter_brk (he g), by simp⟩
      · have hlt : (Int.tmod g n).natAbs < k := by
          rw [natAbs_tmod, ← hk]
          exact Nat.mod_lt _ (by omega)
        obtain ⟨d, h1, h2⟩ := ih _ hlt n (Int.tmod g n) rfl
        refine ⟨d, by rw [iter_next (hn g n h0)]; exact h1, ?_⟩
        rw [h2, natAbs_tmod, Nat.gcd_comm g.natAbs n.natAbs, Nat.gcd_rec n.natAbs g.natAbs, Nat.gcd_comm]
  exact fun g n => main _ g n rfl
theorem gmax_abs {d : Int} (h1 : -9223372036854775807 ≤ d) (h2 : d ≤ 9223372036854775807) : gmax d (w64 (0 - d)) = (d.natAbs : Int) := by
  rw [w64_id (by omega) (by omega)]
  unfold gmax
  split <;> omega

/-- Rounds over a list to its end, told by a relation. -/
theorem iter_foldR {α β γ σ τ r : Type} (xs : List α) (mk : β → Int → σ) {f : σ → Option (St σ τ r)} (R : γ → β → Prop) (g : γ → α → γ) (fi : β → τ) (c0 : γ) (b0 : β) (h0 : R c0 b0)
    (hs : ∀ c b i (h : i < xs.length), R c b → ∃ b', f (mk b (i : Int)) = some (.next (mk b' ((i : Int) + 1))) ∧ R (g c xs[i]) b')
    (he : ∀ c b, R c b → f (mk b (xs.length : Int)) = some (.brk (fi b))) :
    ∃ b, iter f (mk b0 0) = some (.brk (fi b)) ∧ R (xs.foldl g c0) b := by
  have main : ∀ (n k : Nat) (c : γ) (b : β), xs.length - k = n → k ≤ xs.length → R c b → ∃ b', iter f (mk b (k : Int)) = some (.brk (fi b')) ∧ R ((xs.drop k).foldl g c) b' := by
    intro n
    induction n with
    | zero =>
      intro k c b hn hk hr
      obtain rfl : k = xs.length := by omega
      exact ⟨b, iter_brk (he c b hr), by simpa using hr⟩
    | succ n ih =>
      intro k c b hn hk hr
      have hlt : k < xs.length := by omega
      obtain ⟨b1, h1, h2⟩ := hs c b k hlt hr
      obtain ⟨b2, h3, h4⟩ := ih (k + 1) (g c xs[k]) b1 (by omega) (by omega) h2
      refine ⟨b2, ?_, ?_⟩
      · rw [iter_next h1, show ((k : Int) + 1) = ((k + 1 : Nat) : Int) by omega]; exact h3
      · rw [List.drop_eq_getElem_cons hlt]; exact h4
  simpa using main _ 0 c0 b0 rfl (Nat.zero_le _) h0

/-- The greatest common divisor of a list. -/
def gcds (l : List Int) : Nat := l.foldl (fun g x => Nat.gcd g x.natAbs) 0
end Go.GW
