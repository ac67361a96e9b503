/- The plain law of AccumMerges. -/
import Derived.Test.YtiepcikippcfaaaPAccE
set_option linter.unusedVariables false
set_option maxRecDepth 100000
namespace Go.Proofs.Ytiepcikippcfaaa.M
open Go.GW Go.Proofs
theorem accumMerges_law (x0 : Acc) (k0 : ok_Acc x0) (x1 : Acc) (k1 : ok_Acc x1) (x2 : Int) (k2 : okInt .i64 x2) : law18_AccumMerges.f x0 x1 x2 = some true := by
  have key : ∀ b, law18_AccumMerges.k1 x0 x1 x2 b = some true := by
    intro b
    unfold law18_AccumMerges.k1
    cases b with
    | true => rfl
    | false =>
      obtain ⟨J, _, h2⟩ := accum_Merge_ok x0 x1
      rw [← merge_same, h2, accum_Value_ok, ref_Value_ok, accum_Mean_ok, ref_Mean_ok, accum_Times_ok, ref_Times_ok]
      simp only [Option.bind_some, ref_Same_ok mergeR_small, decide_true, if_true, Bool.false_eq_true, if_false]
  have hg : ∀ a : Acc, ∃ b, ref18_Great.f a = some b := fun a => by
    unfold ref18_Great.f
    split
    · exact ⟨_, rfl⟩
    · split <;> exact ⟨_, rfl⟩
  unfold law18_AccumMerges.f
  obtain ⟨b0, h0⟩ := hg x0
  obtain ⟨b1, h1⟩ := hg x1
  rw [h0, h1]
  simp only [Option.bind_some]
  split <;> exact key _
end Go.Proofs.Ytiepcikippcfaaa.M
