/- The law JonesLoops holds for every input: the given statement, out of the walk of the code and the plain law. -/
import Derived.Test.YtlfmmenlkpoodaaRows
import Derived.Test.YtlfmmenlkpoodaaW2
import Derived.Test.YtlfmmenlkpoodaaPJonesLoops
set_option linter.unusedVariables false
set_option linter.unusedSimpArgs false
set_option maxRecDepth 100000
set_option maxHeartbeats 8000000
namespace Go.Proofs.Ytlfmmenlkpoodaa.jonesLoops
open Go.ChangeShapes Go.WideShapes Go.ChangeAt Go.RowKit Go.GW Go.Proofs.Ytlfmmenlkpoodaa.M
theorem opn_23 : OpnF Try.prog 23 fl_Cx (fun x => ok_Cx x) := fun H enc W sp hd fuel cs x hx => by
  obtain ⟨xs, n, _, _, hl, hn, hf⟩ := DataW.trod_struct Try.underlying23 hx
  have hl' : cs.length = 3 := hl.trans (by kernel_rfl)
  have h0 := hf 0 _ rfl
  rw [List.getElem?_eq_getElem (by rw [hn]; decide)] at h0
  obtain ⟨v0, e0, k0⟩ := (opn_int Try.underlying2) H enc W sp hd n _ _ h0
  have h1 := hf 1 _ rfl
  rw [List.getElem?_eq_getElem (by rw [hn]; decide)] at h1
  obtain ⟨v1, e1, k1⟩ := (opn_int Try.underlying2) H enc W sp hd n _ _ h1
  have h2 := hf 2 _ rfl
  rw [List.getElem?_eq_getElem (by rw [hn]; decide)] at h2
  obtain ⟨v2, e2, k2⟩ := (opn_int Try.underlying2) H enc W sp hd n _ _ h2
  have hcs : cs.drop 0 = _ := (chunk_cons e0 (chunk_cons e1 (chunk_cons e2 (chunk_end hl') (by kernel_rfl)) (by kernel_rfl)) (by kernel_rfl))
  exact ⟨⟨v0, v1, v2⟩, hcs, ⟨k0, k1, k2⟩⟩
theorem opn_25 : OpnF Try.prog 25 (flArr4 fl_Cx) (fun x => (ok_Cx x.e0) ∧ (ok_Cx x.e1) ∧ (ok_Cx x.e2) ∧ (ok_Cx x.e3)) := fun H enc W sp hd fuel cs x hx => by
  obtain ⟨xs, n, _, _, hl, hn, hf⟩ := DataW.trod_array Try.underlying25 hx
  have hl' : cs.length = 12 := hl.trans (by kernel_rfl)
  have h0 := hf 0 (by decide)
  rw [List.getElem?_eq_getElem (by rw [hn]; decide)] at h0
  obtain ⟨v0, e0, k0⟩ := opn_23 H enc W sp hd n _ _ h0
  have h1 := hf 1 (by decide)
  rw [List.getElem?_eq_getElem (by rw [hn]; decide)] at h1
  obtain ⟨v1, e1, k1⟩ := opn_23 H enc W sp hd n _ _ h1
  have h2 := hf 2 (by decide)
  rw [List.getElem?_eq_getElem (by rw [hn]; decide)] at h2
  obtain ⟨v2, e2, k2⟩ := opn_23 H enc W sp hd n _ _ h2
  have h3 := hf 3 (by decide)
  rw [List.getElem?_eq_getElem (by rw [hn]; decide)] at h3
  obtain ⟨v3, e3, k3⟩ := opn_23 H enc W sp hd n _ _ h3
  have hcs : cs.drop 0 = _ := (chunk_cons e0 (chunk_cons e1 (chunk_cons e2 (chunk_cons e3 (chunk_end hl') (by kernel_rfl)) (by kernel_rfl)) (by kernel_rfl)) (by kernel_rfl))
  exact ⟨⟨v0, v1, v2, v3⟩, hcs, ⟨k0, k1, k2, k3⟩⟩
theorem opn_57 : OpnF Try.prog 57 fl_Pol (fun x => ok_Pol x) := fun H enc W sp hd fuel cs x hx => by
  obtain ⟨xs, n, _, _, hl, hn, hf⟩ := DataW.trod_struct Try.underlying57 hx
  have hl' : cs.length = 15 := hl.trans (by kernel_rfl)
  have h0 := hf 0 _ rfl
  rw [List.getElem?_eq_getElem (by rw [hn]; decide)] at h0
  obtain ⟨v0, e0, k0⟩ := (opn_int Try.underlying3) H enc W sp hd n _ _ h0
  have h1 := hf 1 _ rfl
  rw [List.getElem?_eq_getElem (by rw [hn]; decide)] at h1
  obtain ⟨v1, e1, k1⟩ := (opn_int Try.underlying3) H enc W sp hd n _ _ h1
  have h2 := hf 2 _ rfl
  rw [List.getElem?_eq_getElem (by rw [hn]; decide)] at h2
  obtain ⟨v2, e2, k2⟩ := opn_25 H enc W sp hd n _ _ h2
  have h3 := hf 3 _ rfl
  rw [List.getElem?_eq_getElem (by rw [hn]; decide)] at h3
  obtain ⟨v3, e3, k3⟩ := (opn_int Try.underlying3) H enc W sp hd n _ _ h3
  have hcs : cs.drop 0 = _ := (chunk_cons e0 (chunk_cons e1 (chunk_cons e2 (chunk_cons e3 (chunk_end hl') (by kernel_rfl)) (by kernel_rfl)) (by kernel_rfl)) (by kernel_rfl))
  exact ⟨⟨v0, v1, v2, v3⟩, hcs, ⟨k0, k1, k2, k3⟩⟩
theorem own : ownKnob Try.prog.godebug = none := by kernel_rfl
theorem laidOut : laidOutB Try.prog = true := by kernel_rfl
theorem lifted (os : Os) (started : os.Started) (H : Type) (enc : TypeId × Value → H) :
    ReturnsInHanded {} Try.checked os 8 .any (Rows.jonesLoopsSpec.pre6 enc Try.prog Try.f8 Rows.jonesLoopsRow.domain false) (Rows.jonesLoopsSpec.post enc Try.prog Try.f8 false true false false) := by
  refine returnsInHanded_of_change_sized (C := Try.checked) own started (by kernel_rfl) Try.func8
    (ChangeSpec.witness6 (enc := enc) (C := Try.checked) false ⟨#[], #[.slice none 0 0, .slice none 0 0, .int .i64 0, .int .i64 0, .int .i64 0, .int .i64 0], []⟩ 8 (by kernel_rfl) (by kernel_rfl) (by kernel_rfl) (by kernel_rfl)) ?_
  intro W base args ds gs before hval0 hW hcnd hsz0 _
  have hval : ∀ (j : Nat) t v, Try.f8.params[j]? = some t → args[j]? = some v → Value.okWide Try.prog W .any base t v := hval0
  have hW' := hW
  obtain ⟨p, q, hA0, hV, rfl, hfz, hnd⟩ := hW
  have hA : DataW.TrodAll enc Try.prog W 0 (fun _ => true) true Try.f8.params.toList args.toList ds p := hA0
  rw [Try.params8] at hA hval
  obtain ⟨v0, vs0, d0, ds0, p0, q0, hargs, rfl, rfl, h0, r0⟩ := trodAll_cons hA
  obtain ⟨v1, vs1, d1, ds1, p1, q1, rfl, rfl, rfl, h1, r1⟩ := trodAll_cons r0
  obtain ⟨v2, vs2, d2, ds2, p2, q2, rfl, rfl, rfl, h2, r2⟩ := trodAll_cons r1
  obtain ⟨v3, vs3, d3, ds3, p3, q3, rfl, rfl, rfl, h3, r3⟩ := trodAll_cons r2
  obtain ⟨v4, vs4, d4, ds4, p4, q4, rfl, rfl, rfl, h4, r4⟩ := trodAll_cons r3
  obtain ⟨v5, vs5, d5, ds5, p5, q5, rfl, rfl, rfl, h5, r5⟩ := trodAll_cons r4
  obtain ⟨rfl, rfl, rfl⟩ := trodAll_nil r5
  obtain rfl : args = #[v0, v1, v2, v3, v4, v5] := Array.toList_inj.1 hargs
  obtain ⟨rfl, rfl⟩ := trodVars_none hV
  have t0 := h0
  have lt0 : ∀ x ∈ p0, x.block < W.heap.size := by obtain ⟨m, hm⟩ := t0; exact DataW.trod_lt m _ _ _ hm
  obtain ⟨fuel0, g0⟩ := h0
  obtain ⟨a0, len0, cap0, rfl⟩ := okWide_slice Try.underlying38 (hval 0 38 v0 rfl rfl)
  obtain ⟨x0, o0, k0⟩ := (opn_slice Try.underlying38 (OpnF.opn opn_25)) H enc W _ _ fuel0 _ _ g0
  obtain ⟨rfl, sat0⟩ := opn_rd o0
  have t1 := h1
  have lt1 : ∀ x ∈ p1, x.block < W.heap.size := by obtain ⟨m, hm⟩ := t1; exact DataW.trod_lt m _ _ _ hm
  obtain ⟨fuel1, g1⟩ := h1
  obtain ⟨a1, len1, cap1, rfl⟩ := okWide_slice Try.underlying39 (hval 1 39 v1 rfl rfl)
  obtain ⟨x1, o1, k1⟩ := (opn_slice Try.underlying39 (OpnF.opn opn_57)) H enc W _ _ fuel1 _ _ g1
  obtain ⟨rfl, sat1⟩ := opn_rd o1
  have t2 := h2
  have lt2 : ∀ x ∈ p2, x.block < W.heap.size := by obtain ⟨m, hm⟩ := t2; exact DataW.trod_lt m _ _ _ hm
  obtain ⟨fuel2, g2⟩ := h2
  obtain ⟨a2, rfl⟩ := okWide_int Try.underlying3 (hval 2 3 v2 rfl rfl)
  obtain ⟨x2, e2, k2⟩ := (opn_int Try.underlying3) H enc W _ _ fuel2 _ _ g2
  obtain rfl : x2 = a2 := by simp [Value.cells, flInt] at e2; exact e2.symm
  have t3 := h3
  have lt3 : ∀ x ∈ p3, x.block < W.heap.size := by obtain ⟨m, hm⟩ := t3; exact DataW.trod_lt m _ _ _ hm
  obtain ⟨fuel3, g3⟩ := h3
  obtain ⟨a3, rfl⟩ := okWide_int Try.underlying3 (hval 3 3 v3 rfl rfl)
  obtain ⟨x3, e3, k3⟩ := (opn_int Try.underlying3) H enc W _ _ fuel3 _ _ g3
  obtain rfl : x3 = a3 := by simp [Value.cells, flInt] at e3; exact e3.symm
  have t4 := h4
  have lt4 : ∀ x ∈ p4, x.block < W.heap.size := by obtain ⟨m, hm⟩ := t4; exact DataW.trod_lt m _ _ _ hm
  obtain ⟨fuel4, g4⟩ := h4
  obtain ⟨a4, rfl⟩ := okWide_int Try.underlying3 (hval 4 3 v4 rfl rfl)
  obtain ⟨x4, e4, k4⟩ := (opn_int Try.underlying3) H enc W _ _ fuel4 _ _ g4
  obtain rfl : x4 = a4 := by simp [Value.cells, flInt] at e4; exact e4.symm
  have t5 := h5
  have lt5 : ∀ x ∈ p5, x.block < W.heap.size := by obtain ⟨m, hm⟩ := t5; exact DataW.trod_lt m _ _ _ hm
  obtain ⟨fuel5, g5⟩ := h5
  obtain ⟨a5, rfl⟩ := okWide_int Try.underlying3 (hval 5 3 v5 rfl rfl)
  obtain ⟨x5, e5, k5⟩ := (opn_int Try.underlying3) H enc W _ _ fuel5 _ _ g5
  obtain rfl : x5 = a5 := by simp [Value.cells, flInt] at e5; exact e5.symm
  clear hA0 hval0 hsz0
  refine ((law33_JonesLoops.ok x0 a0 cap0 x1 a1 cap1 x2 x3 x4 x5 true (jonesLoops_law x0 k0 x1 k1 x2 k2 x3 k3 x4 k4 x5 k5)).law W (by simp only [List.mem_cons, List.not_mem_nil, or_false, forall_eq_or_imp, forall_eq]; exact ⟨sat0, sat1⟩)).mono fun e W' ⟨he, bel⟩ => ?_
  subst he
  exact ⟨_, rfl, _, _, _, [], _, [], hW', trodAll_mk1 (shut_bool Try.underlying4 _), (trodAll_cons_mk (Below.trod laidOut (by kernel_rfl) (of_decide_eq_true (by kernel_rfl)) t0 bel lt0) (trodAll_cons_mk (Below.trod laidOut (by kernel_rfl) (of_decide_eq_true (by kernel_rfl)) t1 bel lt1) (trodAll_cons_mk (Below.trod laidOut (by kernel_rfl) (of_decide_eq_true (by kernel_rfl)) t2 bel lt2) (trodAll_cons_mk (Below.trod laidOut (by kernel_rfl) (of_decide_eq_true (by kernel_rfl)) t3 bel lt3) (trodAll_cons_mk (Below.trod laidOut (by kernel_rfl) (of_decide_eq_true (by kernel_rfl)) t4 bel lt4) (trodAll_cons_mk (Below.trod laidOut (by kernel_rfl) (of_decide_eq_true (by kernel_rfl)) t5 bel lt5) trodAll_mk0)))))), rfl, bel.frame _, fun h => by cases h⟩
theorem over : Rows.jonesLoopsRow.holds Try.pinned (OpenSpec.ofChange Rows.jonesLoopsSpec) :=
  OpenClaim.holds_of_wide 8 Try.f8 rfl rfl rfl rfl rfl rfl rfl ⟨rfl, rfl, rfl, rfl, rfl⟩ rfl rfl rfl rfl rfl (by kernel_rfl) Try.func8 (by kernel_rfl)
    (of_decide_eq_true (by kernel_rfl)) (by unfold Func.isWrapper; first | (rw [if_pos (by decide +kernel)]; kernel_rfl) | (rw [if_neg (by decide +kernel)]; exact ⟨rfl, rfl⟩))
    (fun os started H enc _ => lifted os started H enc)
end Go.Proofs.Ytlfmmenlkpoodaa.jonesLoops
namespace Go.Proofs.Ytlfmmenlkpoodaa
theorem jonesLoops_holds : Rows.JonesLoopsSaid := jonesLoops.over
end Go.Proofs.Ytlfmmenlkpoodaa
#print axioms Go.Proofs.Ytlfmmenlkpoodaa.jonesLoops_holds
