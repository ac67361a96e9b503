/- The plain law of AccumOrder. -/
import Derived.Test.YtiepcikippcfaaaPAccF
import Derived.Test.YtiepcikippcfaaaC0
set_option linter.unusedVariables false
set_option maxRecDepth 100000
namespace Go.Proofs.Ytiepcikippcfaaa.M
open Go.GW Go.Proofs
theorem alive_c : law18_alive.f_c = some true := by kernel_rfl
theorem alive_ok : law18_alive.f = some true := law18_alive.f_le _ alive_c
theorem accumOrder_law (x0 : Acc) (k0 : ok_Acc x0) (x1 : Acc) (k1 : ok_Acc x1) (x2 : Acc) (k2 : ok_Acc x2) : law18_AccumOrder.f x0 x1 x2 = some true := by
  have triv : law18_AccumOrder.k1 x0 x1 x2 true true = some true := by unfold law18_AccumOrder.k1; rfl
  unfold law18_AccumOrder.f
  rw [alive_ok]
  simp only [Option.bind_some]
  obtain ⟨b0, h0, f0⟩ := fit_f x0
  obtain ⟨b1, h1, f1⟩ := fit_f x1
  obtain ⟨b2, h2, f2⟩ := fit_f x2
  rw [h0, h1, h2]
  simp only [Option.bind_some]
  cases b0
  · exact triv
  cases b1
  · exact triv
  cases b2
  · exact triv
  have fa := f0.1 rfl
  have fb := f1.1 rfl
  have fc := f2.1 rfl
  simp only [Bool.not_true, Bool.false_eq_true, if_false]
  unfold law18_AccumOrder.k1
  rw [if_neg (by simp)]
  obtain ⟨J, j1, j2⟩ := accum_Merge_ok x0 x1
  obtain ⟨J', j3, j4⟩ := accum_Merge_ok x1 x0
  obtain ⟨G, j5, j6⟩ := accum_Merge_ok x1 x2
  rw [j2, j4]
  simp only [Option.bind_some]
  have hcomm : mergeR x0 x1 J = mergeR x1 x0 J' := by
    rw [mergeR_fit fa fb, mergeR_fit fb fa]
    by_cases hl : x0.Sums.length = x1.Sums.length
    · rw [if_pos hl, if_pos hl.symm]
      exact mres_comm ((j1 fa fb hl).comm (j3 fb fa hl.symm))
    · rw [if_neg hl, if_neg (fun e => hl e.symm)]
  rw [← hcomm, ref_Same_ok mergeR_small]
  simp only [decide_true, Bool.not_true, Bool.false_eq_true, if_false, Option.bind_some]
  unfold law18_AccumOrder.k2
  rw [if_neg (by simp), j6]
  simp only [Option.bind_some]
  have tr : law18_AccumOrder.k3 x0 x2 true (mergeR x0 x1 J) (mergeR x1 x2 G) true = some true := by unfold law18_AccumOrder.k3; rfl
  by_cases e1 : (mergeR x0 x1 J).2 = 0
  · by_cases e2 : (mergeR x1 x2 G).2 = 0
    · rw [if_neg (by simp [e1])]
      have l1 : x0.Sums.length = x1.Sums.length := by
        apply Classical.byContradiction
        intro hn
        rw [mergeR_fit fa fb, if_neg hn] at e1; cases e1
      have l2 : x1.Sums.length = x2.Sums.length := by
        apply Classical.byContradiction
        intro hn
        rw [mergeR_fit fb fc, if_neg hn] at e2; cases e2
      have hJ := j1 fa fb l1
      have hG := j5 fb fc l2
      rw [mergeR_fit fa fb, if_pos l1] at e1 ⊢
      rw [mergeR_fit fb fc, if_pos l2] at e2 ⊢
      have m1 := mres_ok fa fb l1 hJ e1
      have m2 := mres_ok fb fc l2 hG e2
      unfold law18_AccumOrder.k3
      rw [if_neg (by simp [e2])]
      obtain ⟨K, q1, q2⟩ := accum_Merge_ok (mres x0 x1 J).1 x2
      obtain ⟨L, q3, q4⟩ := accum_Merge_ok x0 (mres x1 x2 G).1
      have l3 : (mres x0 x1 J).1.Sums.length = x2.Sums.length := by rw [m1.len]; omega
      have l4 : x0.Sums.length = (mres x1 x2 G).1.Sums.length := by rw [m2.len]; omega
      have hK := q1 m1.fit fc l3
      have hL := q3 fa m2.fit l4
      have s1 : (mres x0 x1 J).1.Spans = J.1 := by rw [m1.eq]
      have s2 : (mres x1 x2 G).1.Spans = G.1 := by rw [m2.eq]
      have hKL : K = L := joined_assoc (x := []) (z := []) hJ hG m1.zero m2.zero (s1 ▸ hK) (s2 ▸ hL)
      rw [q2, q4, mergeR_fit m1.fit fc, if_pos l3, mergeR_fit fa m2.fit, if_pos l4]
      simp only [Option.bind_some]
      have h14 : (decide ((mres (mres x0 x1 J).1 x2 K).2 = 14) == decide ((mres x0 (mres x1 x2 G).1 L).2 = 14)) = true := by
        have e3 := mres_err hK
        have e4 := mres_err hL
        subst hKL
        by_cases hk : K.2 = 14
        · rw [decide_eq_true (e3.2 hk), decide_eq_true (e4.2 hk)]; rfl
        · rw [decide_eq_false (fun h => hk (e3.1 h)), decide_eq_false (fun h => hk (e4.1 h))]; rfl
      by_cases e3 : (mres (mres x0 x1 J).1 x2 K).2 = 0
      · by_cases e4 : (mres x0 (mres x1 x2 G).1 L).2 = 0
        · rw [if_neg (by simp [e3])]
          have m3 := mres_ok m1.fit fc l3 hK e3
          have m4 := mres_ok fa m2.fit l4 hL e4
          have heq : (mres (mres x0 x1 J).1 x2 K).1 = (mres x0 (mres x1 x2 G).1 L).1 := by
            rw [m3.eq, m4.eq, m1.eq, m2.eq, hKL]
            simp only
            rw [sumsL_assoc, sumsL_assoc]
          unfold law18_AccumOrder.k4
          rw [if_neg (by simp [e4]), if_pos rfl, ← heq, ref_Same_ok m3.fit.small]
          simp only [decide_true, if_true, Option.bind_some]
          rw [ref_check_ok, (chk_fit _).2 m3.fit]
          rfl
        · rw [if_neg (by simp [e3])]
          unfold law18_AccumOrder.k4
          rw [if_pos (by simp [e4]), if_pos rfl, h14]
      · rw [if_pos (by simp [e3])]
        unfold law18_AccumOrder.k4
        rw [if_pos rfl, if_pos rfl, h14]
    · rw [if_neg (by simp [e1])]
      have : (!decide ((mergeR x1 x2 G).2 = 0)) = true := by simp [e2]
      rw [this]
      exact tr
  · rw [if_pos (by simp [e1])]
    exact tr
end Go.Proofs.Ytiepcikippcfaaa.M
