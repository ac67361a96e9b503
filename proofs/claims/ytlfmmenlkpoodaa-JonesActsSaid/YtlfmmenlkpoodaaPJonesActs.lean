/- The plain law of JonesActs: the models of Act and Loop, the program's and the reference's, come to the same answers. -/
import Derived.Test.YtlfmmenlkpoodaaPJRef
set_option linter.unusedVariables false
set_option linter.unusedSimpArgs false
set_option maxRecDepth 100000
namespace Go.Proofs.Ytlfmmenlkpoodaa.M
open Go.GW Go.Proofs
theorem jonesActs_law (x0 : (List (A4 Cx))) (k0 : ∀ y ∈ x0, (ok_Cx y.e0) ∧ (ok_Cx y.e1) ∧ (ok_Cx y.e2) ∧ (ok_Cx y.e3)) (x1 : (List Pol)) (k1 : ∀ y ∈ x1, ok_Pol y) (x2 : Int) (k2 : okInt .i64 x2) (x3 : Int) (k3 : okInt .i64 x3) (x4 : Int) (k4 : okInt .i64 x4) (x5 : Int) (k5 : okInt .i64 x5) : law33_JonesActs.f x0 x1 x2 x3 x4 x5 = some true := by
  have hlen : (actS x0 x1).1.length ≤ 1000000 := by
    by_cases h : (actS x0 x1).2 = 0
    · obtain ⟨_, h2, h3⟩ := actS_ok h
      rw [h3.length]; have := (seen_ok h2).1; omega
    · unfold actS at h ⊢
      by_cases ht : tabS x0 = 0
      · rw [if_pos ht] at h ⊢
        by_cases hl : seenS x1 x0.length = 0
        · rw [if_pos hl] at h ⊢
          rcases actFold_ok (tab_ok ht).2.2 x1 [] (seen_ok hl).2 with ⟨q, h1, h2⟩ | h1
          · rw [h1] at h; exact absurd rfl h
          · rw [h1]; simp
        · rw [if_neg hl]; simp
      · rw [if_neg ht]; simp
  have hk : ∀ x, law33_JonesActs.k1 x0 x1 x2 x3 x4 x5 x = some true := by
    intro x
    unfold law33_JonesActs.k1
    cases x with
    | true => rw [if_pos rfl]
    | false =>
      rw [if_neg (by decide), jones_act_eq, Option.bind_some, ref_act_eq, Option.bind_some, jones_loop_eq, Option.bind_some, ref_loop_eq, Option.bind_some, same_refl _ hlen, Option.bind_some]
      simp
  unfold law33_JonesActs.f
  rw [hk, hk, ite_self]
end Go.Proofs.Ytlfmmenlkpoodaa.M
