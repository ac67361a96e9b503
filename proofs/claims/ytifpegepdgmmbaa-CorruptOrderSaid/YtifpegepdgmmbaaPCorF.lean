/- The reference's checks of a series come to an answer. -/
import Derived.Test.YtifpegepdgmmbaaPCorE
set_option linter.unusedVariables false
set_option linter.unusedSimpArgs false
set_option maxRecDepth 100000
namespace Go.Proofs.Ytifpegepdgmmbaa.M
open Go.GW Go.Proofs
theorem wsucM {i : Nat} (h : i + 1 ≤ 9223372036854775807) : w64 ((i : Int) + 1) = ((i + 1 : Nat) : Int) := by rw [w64_id (by omega) (by omega)]; push_cast; rfl
theorem great_tot (s : List (List Vis)) (hs : s.length ≤ 9223372036854775807) : ∃ b, ref35_Great.f s = some b := by
  have h := iter_scan (r := Bool) (f := fun x => ref35_Great.s4 s x) s.length (fun _ => True) (fun _ => True) (fun i hi => by
    show (ref35_Great.s4 s (i : Int) = _ ∧ _) ∨ ∃ v, ref35_Great.s4 s (i : Int) = _ ∧ _
    have hk : ∀ b, (ref35_Great.k6 (i : Int) b = some (.next ((i + 1 : Nat) : Int)) ∧ True) ∨ ∃ v, ref35_Great.k6 (i : Int) b = some (.ret v) ∧ True := by
      intro b
      unfold ref35_Great.k6
      cases b
      · left; rw [if_neg Bool.false_ne_true, wsucM (by omega)]; exact ⟨rfl, trivial⟩
      · right; exact ⟨true, by rw [if_pos rfl], trivial⟩
    unfold ref35_Great.s4
    rw [decide_eq_true (by omega), if_pos rfl, if_pos ⟨by omega, by omega⟩]
    repeat' split
    all_goals exact hk _) (by
    show ref35_Great.s4 s (s.length : Int) = _
    unfold ref35_Great.s4
    rw [decide_eq_false (by omega), if_neg Bool.false_ne_true]) s.length 0 (by omega)
  have hk5 : ∃ b, ref35_Great.k5 s = some b := by
    unfold ref35_Great.k5
    repeat' split
    all_goals exact ⟨_, rfl⟩
  obtain ⟨b, hb⟩ := hk5
  unfold ref35_Great.f
  rcases h with ⟨h1, _⟩ | ⟨v, h1, _⟩
  · exact ⟨b, (congrArg (fun o => Option.bind o _) h1).trans hb⟩
  · exact ⟨v, (congrArg (fun o => Option.bind o _) h1).trans rfl⟩
theorem all_tot (l : List Vis) (n : Int) : ∃ e, ref26_All.f l n = some e ∧ (e = 0 → l.length ≤ 64) := by
  unfold ref26_All.f
  by_cases hl : 64 < l.length
  · exact ⟨4, by rw [decide_eq_true (by omega), if_pos rfl], fun h => by cases h⟩
  rw [decide_eq_false (by omega), if_neg Bool.false_ne_true]
  have h := iter_scan (r := Int) (f := fun x => ref26_All.s1 l n x) l.length (fun _ => True) (fun _ => True) (fun i hi => by
    show (ref26_All.s1 l n (i : Int) = _ ∧ _) ∨ ∃ v, ref26_All.s1 l n (i : Int) = _ ∧ _
    have hb : ∃ v, ref26_Seen.f (ix l (i : Int)) n = some v := by
      unfold ref26_Seen.f
      rw [ref_check_eq, Option.bind_some]
      repeat' split
      all_goals exact ⟨_, rfl⟩
    obtain ⟨v, hv⟩ := hb
    unfold ref26_All.s1
    rw [decide_eq_true (by omega), if_pos rfl, if_pos ⟨by omega, by omega⟩, hv, Option.bind_some, wsuc (by omega)]
    cases v
    · exact .inr ⟨8, rfl, trivial⟩
    · exact .inl ⟨rfl, trivial⟩) (by
    show ref26_All.s1 l n (l.length : Int) = _
    unfold ref26_All.s1
    rw [decide_eq_false (by omega), if_neg Bool.false_ne_true]) l.length 0 (by omega)
  rcases h with ⟨h1, _⟩ | ⟨v, h1, _⟩
  · exact ⟨0, (congrArg (fun o => Option.bind o _) h1).trans rfl, fun _ => by omega⟩
  · exact ⟨v, (congrArg (fun o => Option.bind o _) h1).trans rfl, fun _ => by omega⟩
theorem ref27_tot (l : List Vis) : ∃ e, ref27_Check.f l = some e ∧ (e = 0 → l.length ≤ 64) := by
  obtain ⟨e, he, hl⟩ := all_tot l 8
  unfold ref27_Check.f
  rw [he, Option.bind_some]
  by_cases h0 : e = 0
  · have hl' := hl h0
    rw [decide_eq_true h0, if_neg (by decide)]
    have h := iter_scan (r := Int) (f := fun x => ref27_Check.s15 l x) l.length (fun _ => True) (fun _ => True) (fun i hi => by
      show (ref27_Check.s15 l (i : Int) = _ ∧ _) ∨ ∃ v, ref27_Check.s15 l (i : Int) = _ ∧ _
      have hin := iter_scan (r := St Int Unit Int) (f := fun x => ref27_Check.s20 l (i : Int) x) i (fun _ => True) (fun v => v = .ret 14) (fun k hk => by
        show (ref27_Check.s20 l (i : Int) (k : Int) = _ ∧ _) ∨ ∃ v, ref27_Check.s20 l (i : Int) (k : Int) = _ ∧ _
        have hk22 : ∀ b, (ref27_Check.k22 (k : Int) b = some (.next ((k + 1 : Nat) : Int)) ∧ True) ∨ ∃ v, ref27_Check.k22 (k : Int) b = some (.ret v) ∧ v = .ret 14 := by
          intro b
          unfold ref27_Check.k22
          cases b
          · left; rw [if_neg Bool.false_ne_true, wsuc (by omega)]; exact ⟨rfl, trivial⟩
          · right; exact ⟨_, by rw [if_pos rfl], rfl⟩
        unfold ref27_Check.s20
        rw [decide_eq_true (by omega), if_pos rfl, if_pos ⟨by omega, by omega⟩, if_pos ⟨by omega, by omega⟩]
        split <;> exact hk22 _) (by
        show ref27_Check.s20 l (i : Int) (i : Int) = _
        unfold ref27_Check.s20
        rw [decide_eq_false (by omega), if_neg Bool.false_ne_true]) i 0 (by omega)
      unfold ref27_Check.s15
      rw [decide_eq_true (by omega), if_pos rfl]
      rcases hin with ⟨h1, _⟩ | ⟨v, h1, h2⟩
      · left
        refine ⟨(congrArg (fun o => Option.bind o _) h1).trans ?_, trivial⟩
        show ref27_Check.k21 (i : Int) = _
        unfold ref27_Check.k21
        rw [wsuc (by omega)]
      · right
        subst h2
        exact ⟨14, (congrArg (fun o => Option.bind o _) h1).trans rfl, trivial⟩) (by
      show ref27_Check.s15 l (l.length : Int) = _
      unfold ref27_Check.s15
      rw [decide_eq_false (by omega), if_neg Bool.false_ne_true]) l.length 0 (by omega)
    rcases h with ⟨h1, _⟩ | ⟨v, h1, _⟩
    · exact ⟨0, (congrArg (fun o => Option.bind o _) h1).trans rfl, fun _ => hl'⟩
    · exact ⟨v, (congrArg (fun o => Option.bind o _) h1).trans rfl, fun _ => hl'⟩
  · exact ⟨e, by rw [decide_eq_false h0]; rfl, fun h => absurd h h0⟩
end Go.Proofs.Ytifpegepdgmmbaa.M
