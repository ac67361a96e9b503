/- The law CorruptTimes holds for every input: the given statement, out of the walk of the code and the plain law. -/
import Derived.Test.YtifpegepdgmmbaaRows
import Derived.Test.YtifpegepdgmmbaaW1
import Derived.Test.YtifpegepdgmmbaaPCorruptTimes
set_option linter.unusedVariables false
set_option linter.unusedSimpArgs false
set_option maxRecDepth 100000
set_option maxHeartbeats 8000000
namespace Go.Proofs.Ytifpegepdgmmbaa.corruptTimes
open Go.ChangeShapes Go.WideShapes Go.ChangeAt Go.RowKit Go.GW Go.Proofs.Ytifpegepdgmmbaa.M
theorem opn_23 : OpnF Try.prog 23 fl_Cx (fun x => ok_Cx x) := fun H enc W sp hd fuel cs x hx => by
  obtain ⟨xs, n, _, _, hl, hn, hf⟩ := DataW.trod_struct Try.underlying23 hx
  have hl' : cs.length = 3 := hl.trans (by kernel_rfl)
  have h0 := hf 0 _ rfl
  rw [List.getElem?_eq_getElem (by rw [hn]; decide)] at h0
  obtain ⟨v0, e0, k0⟩ := (opn_int Try.underlying2) H enc W sp hd n _ _ h0
  have h1 := hf 1 _ rfl
  rw [List.getElem?_eq_getElem (by rw [hn]; decide)] at h1
  obtain ⟨v1, e1, k1⟩ := (opn_int Try.underlying2) H enc W sp hd n _ _ h1
  have h2 := hf 2 _ rfl
  rw [List.getElem?_eq_getElem (by rw [hn]; decide)] at h2
  obtain ⟨v2, e2, k2⟩ := (opn_int Try.underlying2) H enc W sp hd n _ _ h2
  have hcs : cs.drop 0 = _ := (chunk_cons e0 (chunk_cons e1 (chunk_cons e2 (chunk_end hl') (by kernel_rfl)) (by kernel_rfl)) (by kernel_rfl))
  exact ⟨⟨v0, v1, v2⟩, hcs, ⟨k0, k1, k2⟩⟩
theorem opn_25 : OpnF Try.prog 25 fl_Spoil (fun x => ok_Spoil x) := fun H enc W sp hd fuel cs x hx => by
  obtain ⟨xs, n, _, _, hl, hn, hf⟩ := DataW.trod_struct Try.underlying25 hx
  have hl' : cs.length = 8 := hl.trans (by kernel_rfl)
  have h0 := hf 0 _ rfl
  rw [List.getElem?_eq_getElem (by rw [hn]; decide)] at h0
  obtain ⟨v0, e0, k0⟩ := (opn_int Try.underlying5) H enc W sp hd n _ _ h0
  have h1 := hf 1 _ rfl
  rw [List.getElem?_eq_getElem (by rw [hn]; decide)] at h1
  obtain ⟨v1, e1, k1⟩ := (opn_int Try.underlying3) H enc W sp hd n _ _ h1
  have h2 := hf 2 _ rfl
  rw [List.getElem?_eq_getElem (by rw [hn]; decide)] at h2
  obtain ⟨v2, e2, k2⟩ := (opn_int Try.underlying3) H enc W sp hd n _ _ h2
  have h3 := hf 3 _ rfl
  rw [List.getElem?_eq_getElem (by rw [hn]; decide)] at h3
  obtain ⟨v3, e3, k3⟩ := (opn_int Try.underlying3) H enc W sp hd n _ _ h3
  have h4 := hf 4 _ rfl
  rw [List.getElem?_eq_getElem (by rw [hn]; decide)] at h4
  obtain ⟨v4, e4, k4⟩ := opn_23 H enc W sp hd n _ _ h4
  have h5 := hf 5 _ rfl
  rw [List.getElem?_eq_getElem (by rw [hn]; decide)] at h5
  obtain ⟨v5, e5, k5⟩ := (opn_int Try.underlying3) H enc W sp hd n _ _ h5
  have hcs : cs.drop 0 = _ := (chunk_cons e0 (chunk_cons e1 (chunk_cons e2 (chunk_cons e3 (chunk_cons e4 (chunk_cons e5 (chunk_end hl') (by kernel_rfl)) (by kernel_rfl)) (by kernel_rfl)) (by kernel_rfl)) (by kernel_rfl)) (by kernel_rfl))
  exact ⟨⟨v0, v1, v2, v3, v4, v5⟩, hcs, ⟨k0, k1, k2, k3, k4, k5⟩⟩
theorem own : ownKnob Try.prog.godebug = none := by kernel_rfl
theorem laidOut : laidOutB Try.prog = true := by kernel_rfl
theorem lifted (os : Os) (started : os.Started) (H : Type) (enc : TypeId × Value → H) :
    ReturnsInHanded {} Try.checked os 3 .any (Rows.corruptTimesSpec.pre6 enc Try.prog Try.f3 Rows.corruptTimesRow.domain false) (Rows.corruptTimesSpec.post enc Try.prog Try.f3 false true false false) := by
  refine returnsInHanded_of_change_sized (C := Try.checked) own started (by kernel_rfl) Try.func3
    (ChangeSpec.witness6 (enc := enc) (C := Try.checked) false ⟨#[], #[.agg #[.int .u8 0, .int .i64 0, .int .i64 0, .int .i64 0, .int .i64 0, .int .i64 0, .int .i64 0, .int .i64 0], .int .i64 0], []⟩ 8 (by kernel_rfl) (by kernel_rfl) (by kernel_rfl) (by kernel_rfl)) ?_
  intro W base args ds gs before hval0 hW hcnd hsz0 _
  have hval : ∀ (j : Nat) t v, Try.f3.params[j]? = some t → args[j]? = some v → Value.okWide Try.prog W .any base t v := hval0
  have hW' := hW
  obtain ⟨p, q, hA0, hV, rfl, hfz, hnd⟩ := hW
  have hA : DataW.TrodAll enc Try.prog W 0 (fun _ => true) true Try.f3.params.toList args.toList ds p := hA0
  rw [Try.params3] at hA hval
  obtain ⟨v0, vs0, d0, ds0, p0, q0, hargs, rfl, rfl, h0, r0⟩ := trodAll_cons hA
  obtain ⟨v1, vs1, d1, ds1, p1, q1, rfl, rfl, rfl, h1, r1⟩ := trodAll_cons r0
  obtain ⟨rfl, rfl, rfl⟩ := trodAll_nil r1
  obtain rfl : args = #[v0, v1] := Array.toList_inj.1 hargs
  obtain ⟨rfl, rfl⟩ := trodVars_none hV
  have t0 := h0
  have lt0 : ∀ x ∈ p0, x.block < W.heap.size := by obtain ⟨m, hm⟩ := t0; exact DataW.trod_lt m _ _ _ hm
  obtain ⟨fuel0, g0⟩ := h0
  obtain ⟨a0, rfl, _⟩ := okWide_struct Try.underlying25 (hval 0 25 v0 rfl rfl)
  obtain ⟨x0, e0, k0⟩ := opn_25 H enc W _ _ fuel0 _ _ g0
  obtain rfl : a0 = #[.int .u8 x0.Kind, .int .i64 x0.Station, .int .i64 x0.From, .int .i64 x0.To, .int .i64 x0.V.Re, .int .i64 x0.V.Im, .int .i64 x0.V.Den, .int .i64 x0.Q] := Array.toList_inj.1 e0
  have t1 := h1
  have lt1 : ∀ x ∈ p1, x.block < W.heap.size := by obtain ⟨m, hm⟩ := t1; exact DataW.trod_lt m _ _ _ hm
  obtain ⟨fuel1, g1⟩ := h1
  obtain ⟨a1, rfl⟩ := okWide_int Try.underlying3 (hval 1 3 v1 rfl rfl)
  obtain ⟨x1, e1, k1⟩ := (opn_int Try.underlying3) H enc W _ _ fuel1 _ _ g1
  obtain rfl : x1 = a1 := by simp [Value.cells, flInt] at e1; exact e1.symm
  clear hA0 hval0 hsz0
  refine ((law35_CorruptTimes.ok x0 x1 true (corruptTimes_law x0 k0 x1 k1)).law W (by simp)).mono fun e W' ⟨he, bel⟩ => ?_
  subst he
  exact ⟨_, rfl, _, _, _, [], _, [], hW', trodAll_mk1 (shut_bool Try.underlying4 _), (trodAll_cons_mk (Below.trod laidOut (by kernel_rfl) (of_decide_eq_true (by kernel_rfl)) t0 bel lt0) (trodAll_cons_mk (Below.trod laidOut (by kernel_rfl) (of_decide_eq_true (by kernel_rfl)) t1 bel lt1) trodAll_mk0)), rfl, bel.frame _, fun h => by cases h⟩
theorem over : Rows.corruptTimesRow.holds Try.pinned (OpenSpec.ofChange Rows.corruptTimesSpec) :=
  OpenClaim.holds_of_wide 3 Try.f3 rfl rfl rfl rfl rfl rfl rfl ⟨rfl, rfl, rfl, rfl, rfl⟩ rfl rfl rfl rfl rfl (by kernel_rfl) Try.func3 (by kernel_rfl)
    (of_decide_eq_true (by kernel_rfl)) (by unfold Func.isWrapper; first | (rw [if_pos (by decide +kernel)]; kernel_rfl) | (rw [if_neg (by decide +kernel)]; exact ⟨rfl, rfl⟩))
    (fun os started H enc _ => lifted os started H enc)
end Go.Proofs.Ytifpegepdgmmbaa.corruptTimes
namespace Go.Proofs.Ytifpegepdgmmbaa
theorem corruptTimes_holds : Rows.CorruptTimesSaid := corruptTimes.over
end Go.Proofs.Ytifpegepdgmmbaa
#print axioms Go.Proofs.Ytifpegepdgmmbaa.corruptTimes_holds
