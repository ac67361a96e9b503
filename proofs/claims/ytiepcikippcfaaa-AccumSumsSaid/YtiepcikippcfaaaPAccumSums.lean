/- The plain law of AccumSums. -/
import Derived.Test.YtiepcikippcfaaaPAccG
import Derived.Test.YtiepcikippcfaaaC0
set_option linter.unusedVariables false
set_option maxRecDepth 100000
namespace Go.Proofs.Ytiepcikippcfaaa.M
open Go.GW Go.Proofs
theorem aliveS_c : law18_alive.f_c = some true := by kernel_rfl
theorem aliveS_ok : law18_alive.f = some true := law18_alive.f_le _ aliveS_c
theorem ix_sumsL {a b : List Count} {i : Nat} (h1 : i < a.length) (h2 : i < b.length) : ix (sumsL a b) (i : Int) = canon (cval (ix a (i : Int)) + cval (ix b (i : Int))) := by
  rw [ix_at (by rw [length_sumsL]; omega), ix_at h1, ix_at h2]
  simp [sumsL, addC2]
theorem ix_map {α β : Type} [Inhabited α] [Inhabited β] (f : α → β) {l : List α} {i : Nat} (h : i < l.length) : ix (l.map f) (i : Int) = f (ix l (i : Int)) := by
  rw [ix_at (by simpa using h), ix_at h]; simp
theorem sums_loop {a x : Acc} {l : List Lag} {at_ many : Int} {J : List Gap × Int} (e : Int) (fa : Fit a) (hl : lagchk l = 0) (hok : addOk a l at_ many) (m : MOk a (ofL l at_ many) J x) :
    iter (fun (s : Int) => law18_AccumSums.s6 a l (x, e) s) 0 = some (.brk ()) := by
  obtain ⟨h1, h2, h3⟩ := lagchk_ok hl
  have hlen := hok.1
  have hn := fa.nlen
  rw [iter_find l (fun i => i) (fun _ => none) ()]
  · have : l.findSome? (fun _ => (none : Option Bool)) = none := by
      clear h1 h2 h3 hlen hl hok m
      induction l with
      | nil => rfl
      | cons x l ih => rw [List.findSome?_cons]; exact ih
    rw [this]
  · intro i hi
    have hx := h3 l[i] (List.getElem_mem hi)
    have ia : i < a.Sums.length := by omega
    have ian : i < a.Ns.length := by omega
    have va : valR a ((i : Int) - ((l.length / 2 : Nat) : Int)) = (cval (ix a.Sums (i : Int)), cval (ix a.Ns (i : Int)), 0) := by
      unfold valR
      rw [if_pos ((chk_fit a).2 fa), if_neg (by omega)]
      have : (i : Int) - ((l.length / 2 : Nat) : Int) + ((a.Sums.length / 2 : Nat) : Int) = (i : Int) := by rw [hlen]; omega
      rw [this]
    have vx : valR x ((i : Int) - ((l.length / 2 : Nat) : Int)) = (cval (ix a.Sums (i : Int)) + l[i].Sum, cval (ix a.Ns (i : Int)) + l[i].N, 0) := by
      unfold valR
      rw [if_pos ((chk_fit x).2 m.fit), if_neg (by rw [m.len]; omega)]
      have : (i : Int) - ((l.length / 2 : Nat) : Int) + ((x.Sums.length / 2 : Nat) : Int) = (i : Int) := by rw [m.len, hlen]; omega
      rw [this, m.eq]
      simp only [ofL]
      rw [ix_sumsL ia (by simpa using hi), ix_sumsL ian (by simpa using hi), ix_map _ hi, ix_map _ hi, val_canon, val_canon, val_canon, val_canon, ix_at hi]
    have b1 := cval_bound (fa.sums _ (ix_mem (l := a.Sums) (i := (i : Int)) (by omega) (by omega)))
    have b2 := cval_bound (fa.ns _ (ix_mem (l := a.Ns) (i := (i : Int)) (by omega) (by omega))).1
    unfold law18_AccumSums.s6
    rw [if_pos (by simp; omega), tdiv2, w64_id (x := ((l.length / 2 : Nat) : Int)) (by omega) (by omega), w64_id (x := (i : Int) - ((l.length / 2 : Nat) : Int)) (by omega) (by omega), accum_Value_ok, accum_Value_ok, va, vx]
    simp only [Option.bind_some, decide_true, Bool.not_true, Bool.false_eq_true, if_false]
    rw [if_pos (show (0 : Int) ≤ (i : Int) ∧ (i : Int) < (l.length : Int) by omega), ix_at hi, w64_id (x := cval (ix a.Sums (i : Int)) + l[i].Sum) (by omega) (by omega), w64_id (x := cval (ix a.Ns (i : Int)) + l[i].N) (by omega) (by omega)]
    simp only [decide_true, Bool.not_true, Bool.false_eq_true, if_false]
    unfold law18_AccumSums.k9
    rw [if_neg (by simp), w64_id (by omega) (by omega)]
  · unfold law18_AccumSums.s6
    rw [if_neg (by simp)]
theorem accumSums_law (x0 : Acc) (k0 : ok_Acc x0) (x1 : Acc) (k1 : ok_Acc x1) (x2 : (List Lag)) (k2 : ∀ y ∈ x2, ok_Lag y) (x3 : Int) (k3 : okInt .i64 x3) (x4 : Int) (k4 : okInt .i64 x4) : law18_AccumSums.f x0 x1 x2 x3 x4 = some true := by
  have triv : law18_AccumSums.k1 x0 x1 x2 x3 x4 true true = some true := by unfold law18_AccumSums.k1; rfl
  unfold law18_AccumSums.f
  rw [aliveS_ok]
  simp only [Option.bind_some]
  obtain ⟨b0, h0, f0⟩ := fit_f x0
  obtain ⟨b1, h1, f1⟩ := fit_f x1
  rw [h0, h1]
  simp only [Option.bind_some]
  cases b0
  · exact triv
  cases b1
  · exact triv
  have fa := f0.1 rfl
  have fb := f1.1 rfl
  rw [ref16_Check_ok]
  simp only [Bool.not_true, Bool.false_eq_true, if_false]
  unfold ref16_Long.f
  simp only [Option.bind_some]
  split
  · exact triv
  by_cases hl : lagchk x2 = 0
  case neg => rw [if_pos (by simp [hl])]; exact triv
  rw [if_neg (by simp [hl])]
  unfold law18_AccumSums.k1
  rw [if_neg (by simp)]
  rcases accum_Add_ok (at_ := x3) (many := x4) fa hl with ⟨_, ha⟩ | ⟨hok, J, hJ, ha⟩
  · rw [ha]; rfl
  · rw [ha]
    simp only [Option.bind_some]
    obtain ⟨fL, lL⟩ := ofL_fit fa hl hok
    by_cases he : (mres x0 (ofL x2 x3 x4) J).2 = 0
    case neg => rw [if_pos (by simp [he]), mres_nil he]; rfl
    rw [if_neg (by simp [he])]
    have m := mres_ok fa fL lL hJ he
    generalize hX : mres x0 (ofL x2 x3 x4) J = X at m he
    obtain ⟨x, e⟩ := X
    simp only at m he
    have hok2 := hok
    unfold addOk at hok2
    have fx := m.fit
    have sx : x.Spans = J.1 := by rw [m.eq]
    rw [accum_Times_ok, accum_Times_ok]
    unfold timesR
    rw [if_pos ((chk_fit x0).2 fa), if_pos ((chk_fit x).2 fx)]
    simp only [Option.bind_some, decide_true, Bool.not_true, Bool.false_eq_true, if_false]
    have hJ0 : RunsL J.1 ∧ (∀ t, InL J.1 t ↔ InL x0.Spans t ∨ InL [⟨x3, x4⟩] t) ∧ tot J.1 = tot x0.Spans + tot [⟨x3, x4⟩] ∧ ∀ t, ¬ (InL x0.Spans t ∧ InL [⟨x3, x4⟩] t) := by
      rcases hJ with ⟨_, q1, q2, q3, q4⟩ | ⟨q, _⟩
      · exact ⟨q1, q2, q3, q4⟩
      · have := m.zero; omega
    obtain ⟨q1, q2, q3, q4⟩ := hJ0
    have htot : tot x.Spans = tot x0.Spans + x4 := by rw [sx, q3, tot_one]
    have hb := tot_take_bound fa.runs.1
    have h64 := fa.spans
    rw [htot, w64_id (x := tot x0.Spans + x4) (by omega) (by omega), ref_check_ok, (chk_fit x).2 fx]
    simp only [Option.bind_some, decide_true, Bool.not_true, Bool.false_eq_true, if_false]
    rw [if_neg (by simp; rw [m.len]; omega)]
    have one : ∀ t, InL [(⟨x3, x4⟩ : Gap)] t ↔ InG ⟨x3, x4⟩ t := fun t => by rw [InL_cons]; simp only [InL_nil, or_false]
    have in1 : InL x.Spans x3 := by rw [sx, q2, one]; right; unfold InG; simp only; omega
    have in2 : InL x.Spans (x3 + x4 - 1) := by rw [sx, q2, one]; right; unfold InG; simp only; omega
    have hs64 := fx.spans
    rw [ref_In_ok fx.runs.1 (by omega) in1, w64_id (x := x3 + x4) (by omega) (by omega), w64_id (x := x3 + x4 - 1) (by omega) (by omega), ref_In_ok fx.runs.1 (by omega) in2]
    simp only [Option.bind_some, Bool.not_true, Bool.false_eq_true, if_false]
    unfold law18_AccumSums.k2
    rw [if_neg (by simp), sums_loop e fa hl hok m]
    simp only [Option.bind_some, fin]
    unfold law18_AccumSums.k7
    obtain ⟨K, p1, p2⟩ := accum_Merge_ok x x1
    obtain ⟨G, p3, p4⟩ := accum_Merge_ok x0 x1
    rw [p2, p4]
    simp only [Option.bind_some]
    have tr : law18_AccumSums.k8 x2 x3 x4 true (mergeR x x1 K) (mergeR x0 x1 G) true = some true := by unfold law18_AccumSums.k8; rfl
    by_cases e1 : (mergeR x x1 K).2 = 0
    case neg => rw [if_pos (by simp [e1])]; exact tr
    rw [if_neg (by simp [e1])]
    by_cases e2 : (mergeR x0 x1 G).2 = 0
    case neg =>
      have : (!decide ((mergeR x0 x1 G).2 = 0)) = true := by simp [e2]
      rw [this]; exact tr
    have l2 : x0.Sums.length = x1.Sums.length := by
      apply Classical.byContradiction
      intro hn
      rw [mergeR_fit fa fb, if_neg hn] at e2; cases e2
    have l1 : x.Sums.length = x1.Sums.length := by rw [m.len]; exact l2
    have hK := p1 fx fb l1
    have hG := p3 fa fb l2
    rw [mergeR_fit fx fb, if_pos l1] at e1 ⊢
    rw [mergeR_fit fa fb, if_pos l2] at e2 ⊢
    have m1 := mres_ok fx fb l1 hK e1
    have m2 := mres_ok fa fb l2 hG e2
    unfold law18_AccumSums.k8
    rw [if_neg (by simp [e2])]
    have hokz : addOk (mres x0 x1 G).1 x2 x3 x4 := by unfold addOk; rw [m2.len]; omega
    rcases accum_Add_ok (at_ := x3) (many := x4) m2.fit hl with ⟨hn, _⟩ | ⟨_, L, hL, hw⟩
    · exact absurd hokz hn
    · obtain ⟨fL2, lL2⟩ := ofL_fit m2.fit hl hokz
      rw [hw]
      simp only [Option.bind_some, if_true]
      have sK : RunsL K.1 ∧ (∀ t, InL K.1 t ↔ InL x.Spans t ∨ InL x1.Spans t) ∧ ∀ t, ¬ (InL x.Spans t ∧ InL x1.Spans t) := by
        rcases hK with ⟨_, r1, r2, _, r4⟩ | ⟨r, _⟩
        · exact ⟨r1, r2, r4⟩
        · have := m1.zero; omega
      have sG : RunsL G.1 ∧ (∀ t, InL G.1 t ↔ InL x0.Spans t ∨ InL x1.Spans t) := by
        rcases hG with ⟨_, r1, r2, _, _⟩ | ⟨r, _⟩
        · exact ⟨r1, r2⟩
        · have := m2.zero; omega
      have sz : (mres x0 x1 G).1.Spans = G.1 := by rw [m2.eq]
      rw [sz] at hL
      have hL0 : L.2 = 0 ∧ RunsL L.1 ∧ ∀ t, InL L.1 t ↔ InL G.1 t ∨ InL [⟨x3, x4⟩] t := by
        rcases hL with ⟨r0, r1, r2, _, _⟩ | ⟨_, _, t, r1, r2⟩
        · exact ⟨r0, r1, r2⟩
        · exfalso
          rcases (sG.2 t).1 r1 with r3 | r3
          · exact q4 t ⟨r3, r2⟩
          · exact sK.2.2 t ⟨by rw [sx, q2]; exact .inr r2, r3⟩
      by_cases e3 : (mres (mres x0 x1 G).1 (ofL x2 x3 x4) L).2 = 0
      · have m3 := mres_ok m2.fit fL2 lL2 (sz ▸ hL) e3
        have hspan : K.1 = L.1 := RunsL.ext sK.1 hL0.2.1 fun t => by
          rw [sK.2.1, sx, q2, hL0.2.2, sG.2, or_assoc, or_assoc, Or.comm (a := InL [(⟨x3, x4⟩ : Gap)] t)]
        have heq : (mres x x1 K).1 = (mres (mres x0 x1 G).1 (ofL x2 x3 x4) L).1 := by
          rw [m3.eq, m2.eq, m1.eq, m.eq, hspan]
          simp only
          rw [sumsL_assoc, sumsL_assoc, sumsL_assoc, sumsL_assoc, sumsL_comm (ofL x2 x3 x4).Sums, sumsL_comm (ofL x2 x3 x4).Ns]
        rw [if_pos (by simp [e3]), ← heq, ref_Same_ok m1.fit.small]
        simp
      · rw [if_neg (by simp [e3])]
        rcases mres_range (a := (mres x0 x1 G).1) (b := ofL x2 x3 x4) hL0.1 with r | r | r
        · exact absurd r e3
        · rw [r]; rfl
        · rw [r]; rfl
end Go.Proofs.Ytiepcikippcfaaa.M
