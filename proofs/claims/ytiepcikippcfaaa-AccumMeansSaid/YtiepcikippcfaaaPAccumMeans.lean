/- The plain law of AccumMeans. -/
import Derived.Test.YtiepcikippcfaaaPAccF
import Derived.Test.YtiepcikippcfaaaC0
set_option linter.unusedVariables false
set_option maxRecDepth 100000
namespace Go.Proofs.Ytiepcikippcfaaa.M
open Go.GW Go.Proofs
theorem aliveM_c : law18_alive.f_c = some true := by kernel_rfl
theorem aliveM_ok : law18_alive.f = some true := law18_alive.f_le _ aliveM_c
theorem accumMeans_law (x0 : Acc) (k0 : ok_Acc x0) (x1 : Int) (k1 : okInt .i64 x1) : law18_AccumMeans.f x0 x1 = some true := by
  have triv : law18_AccumMeans.k1 x0 x1 true true = some true := by unfold law18_AccumMeans.k1; rfl
  unfold law18_AccumMeans.f
  rw [aliveM_ok]
  simp only [Option.bind_some]
  obtain ⟨b0, h0, f0⟩ := fit_f x0
  rw [h0]
  simp only [Option.bind_some]
  cases b0
  · exact triv
  have fa := f0.1 rfl
  simp only [Bool.not_true, Bool.false_eq_true, if_false]
  unfold law18_AccumMeans.k1
  rw [if_neg (by simp)]
  obtain ⟨J, j1, j2⟩ := accum_Merge_ok x0 x0
  have hJ := j1 fa fa rfl
  rw [j2, mergeR_fit fa fa, if_pos rfl]
  simp only [Option.bind_some]
  have h14 := mres_err hJ
  have fin : law18_AccumMeans.k2 x0 x1 true false = some true := by
    unfold law18_AccumMeans.k2
    have hb := valR_bound (a := x0) (lag := x1)
    rw [if_neg (by simp), accum_Value_ok, accum_Mean_ok]
    simp only [Option.bind_some]
    unfold meanR
    generalize valR x0 x1 = v at hb
    unfold law18_AccumMeans.k3
    by_cases c1 : v.2.2 = 0
    · by_cases c2 : v.2.1 = 0
      · simp [c1, c2]
      · rw [if_neg (by simp [c1]), if_neg (by simp [c2]), if_pos c1, if_neg c2, ref01_Make_ok hb.1 hb.2.1 hb.2.2.1 hb.2.2.2]
        simp
    · simp [c1]
  by_cases hs : x0.Spans = []
  · have hno : ¬ J.2 = 14 := by
      rcases hJ with ⟨k, _⟩ | ⟨_, _, t, ht, _⟩
      · omega
      · rw [hs] at ht; exact absurd ht (InL_nil t)
    rw [if_neg (by simp [hs]), if_neg (by simp; exact fun h => hno (h14.1 h))]
    exact fin
  · have hyes : J.2 = 14 := by
      rcases hJ with ⟨_, _, _, _, k⟩ | ⟨k, _⟩
      · cases hl : x0.Spans with
        | nil => exact absurd hl hs
        | cons g l =>
          have hg := fa.runs.1 g (by rw [hl]; exact List.mem_cons_self)
          have : InL x0.Spans g.At := by rw [hl]; exact InL_cons.2 (.inl hg.begin)
          exact absurd ⟨this, this⟩ (k g.At)
      · exact k
    have hlen : 0 < x0.Spans.length := by cases hl : x0.Spans with
      | nil => exact absurd hl hs
      | cons g l => simp
    have h2 := h14.2 hyes
    rw [if_pos (by simp; omega), if_neg (by simp [h2]), if_pos (by simp [h2])]
    have : decide ((x0.Spans.length : Int) = 0) = false := by rw [decide_eq_false]; omega
    rw [this]
    exact fin
end Go.Proofs.Ytiepcikippcfaaa.M
