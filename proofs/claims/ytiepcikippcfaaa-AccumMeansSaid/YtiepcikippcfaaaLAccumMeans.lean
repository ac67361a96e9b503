/- The law AccumMeans holds for every input: the given statement, out of the walk of the code and the plain law. -/
import Derived.Test.YtiepcikippcfaaaRows
import Derived.Test.YtiepcikippcfaaaW1
import Derived.Test.YtiepcikippcfaaaPAccumMeans
set_option linter.unusedVariables false
set_option linter.unusedSimpArgs false
set_option maxRecDepth 100000
set_option maxHeartbeats 8000000
namespace Go.Proofs.Ytiepcikippcfaaa.accumMeans
open Go.ChangeShapes Go.WideShapes Go.ChangeAt Go.RowKit Go.GW Go.Proofs.Ytiepcikippcfaaa.M
theorem opn_rd' {α : Type} {d : Kd α} {W : World} {v : List α} {cs : List Value} (h : d.sl.rep W (Old W) v cs) : ∃ A c, cs = [.slice A v.length c] ∧ (At.rd A c d v true).sat W (Old W) := by
  obtain ⟨A, c, h1, h2, h3⟩ := h
  exact ⟨A, c, h1, h2, h3⟩
theorem opn_49 : OpnF Try.prog 49 fl_Count (fun x => ok_Count x) := fun H enc W sp hd fuel cs x hx => by
  obtain ⟨xs, n, _, _, hl, hn, hf⟩ := DataW.trod_struct Try.underlying49 hx
  have hl' : cs.length = 2 := hl.trans (by kernel_rfl)
  have h0 := hf 0 _ rfl
  rw [List.getElem?_eq_getElem (by rw [hn]; decide)] at h0
  obtain ⟨v0, e0, k0⟩ := (opn_int Try.underlying2) H enc W sp hd n _ _ h0
  have h1 := hf 1 _ rfl
  rw [List.getElem?_eq_getElem (by rw [hn]; decide)] at h1
  obtain ⟨v1, e1, k1⟩ := (opn_int Try.underlying2) H enc W sp hd n _ _ h1
  have hcs : cs.drop 0 = _ := (chunk_cons e0 (chunk_cons e1 (chunk_end hl') (by kernel_rfl)) (by kernel_rfl))
  exact ⟨⟨v0, v1⟩, hcs, ⟨k0, k1⟩⟩
theorem opn_51 : OpnF Try.prog 51 fl_Gap (fun x => ok_Gap x) := fun H enc W sp hd fuel cs x hx => by
  obtain ⟨xs, n, _, _, hl, hn, hf⟩ := DataW.trod_struct Try.underlying51 hx
  have hl' : cs.length = 2 := hl.trans (by kernel_rfl)
  have h0 := hf 0 _ rfl
  rw [List.getElem?_eq_getElem (by rw [hn]; decide)] at h0
  obtain ⟨v0, e0, k0⟩ := (opn_int Try.underlying3) H enc W sp hd n _ _ h0
  have h1 := hf 1 _ rfl
  rw [List.getElem?_eq_getElem (by rw [hn]; decide)] at h1
  obtain ⟨v1, e1, k1⟩ := (opn_int Try.underlying3) H enc W sp hd n _ _ h1
  have hcs : cs.drop 0 = _ := (chunk_cons e0 (chunk_cons e1 (chunk_end hl') (by kernel_rfl)) (by kernel_rfl))
  exact ⟨⟨v0, v1⟩, hcs, ⟨k0, k1⟩⟩
theorem own : ownKnob Try.prog.godebug = none := by kernel_rfl
theorem laidOut : laidOutB Try.prog = true := by kernel_rfl
theorem lifted (os : Os) (started : os.Started) (H : Type) (enc : TypeId × Value → H) :
    ReturnsInHanded {} Try.checked os 7 .any (Rows.accumMeansSpec.pre6 enc Try.prog Try.f7 Rows.accumMeansRow.domain false) (Rows.accumMeansSpec.post enc Try.prog Try.f7 false true false false) := by
  refine returnsInHanded_of_change_sized (C := Try.checked) own started (by kernel_rfl) Try.func7
    (ChangeSpec.witness6 (enc := enc) (C := Try.checked) false ⟨#[], #[.agg #[.slice none 0 0, .slice none 0 0, .slice none 0 0], .int .i64 0], []⟩ 8 (by kernel_rfl) (by kernel_rfl) (by kernel_rfl) (by kernel_rfl)) ?_
  intro W base args ds gs before hval0 hW hcnd hsz0 _
  have hval : ∀ (j : Nat) t v, Try.f7.params[j]? = some t → args[j]? = some v → Value.okWide Try.prog W .any base t v := hval0
  have hW' := hW
  obtain ⟨p, q, hA0, hV, rfl, hfz, hnd⟩ := hW
  have hA : DataW.TrodAll enc Try.prog W 0 (fun _ => true) true Try.f7.params.toList args.toList ds p := hA0
  rw [Try.params7] at hA hval
  obtain ⟨v0, vs0, d0, ds0, p0, q0, hargs, rfl, rfl, h0, r0⟩ := trodAll_cons hA
  obtain ⟨v1, vs1, d1, ds1, p1, q1, rfl, rfl, rfl, h1, r1⟩ := trodAll_cons r0
  obtain ⟨rfl, rfl, rfl⟩ := trodAll_nil r1
  obtain rfl : args = #[v0, v1] := Array.toList_inj.1 hargs
  obtain ⟨rfl, rfl⟩ := trodVars_none hV
  have t0 := h0
  have lt0 : ∀ x ∈ p0, x.block < W.heap.size := by obtain ⟨m, hm⟩ := t0; exact DataW.trod_lt m _ _ _ hm
  obtain ⟨fuel0, g0⟩ := h0
  obtain ⟨a0, rfl, _⟩ := okWide_struct Try.underlying25 (hval 0 25 v0 rfl rfl)
  obtain ⟨xs0, n0, _, _, hl0, hn0, hf0⟩ := DataW.trod_struct Try.underlying25 g0
  have hl'0 : a0.toList.length = 3 := hl0.trans (by kernel_rfl)
  have h0_0 := hf0 0 _ rfl
  rw [List.getElem?_eq_getElem (by rw [hn0]; decide)] at h0_0
  obtain ⟨x0_0, o0_0, k0_0⟩ := (opn_slice Try.underlying22 (OpnF.opn opn_49)) H enc W _ _ n0 _ _ h0_0
  obtain ⟨a0_0, cap0_0, e0_0, sat0_0⟩ := opn_rd' o0_0
  have h0_1 := hf0 1 _ rfl
  rw [List.getElem?_eq_getElem (by rw [hn0]; decide)] at h0_1
  obtain ⟨x0_1, o0_1, k0_1⟩ := (opn_slice Try.underlying22 (OpnF.opn opn_49)) H enc W _ _ n0 _ _ h0_1
  obtain ⟨a0_1, cap0_1, e0_1, sat0_1⟩ := opn_rd' o0_1
  have h0_2 := hf0 2 _ rfl
  rw [List.getElem?_eq_getElem (by rw [hn0]; decide)] at h0_2
  obtain ⟨x0_2, o0_2, k0_2⟩ := (opn_slice Try.underlying23 (OpnF.opn opn_51)) H enc W _ _ n0 _ _ h0_2
  obtain ⟨a0_2, cap0_2, e0_2, sat0_2⟩ := opn_rd' o0_2
  have hcs0 : a0.toList.drop 0 = _ := (chunk_cons e0_0 (chunk_cons e0_1 (chunk_cons e0_2 (chunk_end hl'0) (by kernel_rfl)) (by kernel_rfl)) (by kernel_rfl))
  obtain rfl : a0 = #[.slice a0_0 x0_0.length cap0_0, .slice a0_1 x0_1.length cap0_1, .slice a0_2 x0_2.length cap0_2] := Array.toList_inj.1 hcs0
  have t1 := h1
  have lt1 : ∀ x ∈ p1, x.block < W.heap.size := by obtain ⟨m, hm⟩ := t1; exact DataW.trod_lt m _ _ _ hm
  obtain ⟨fuel1, g1⟩ := h1
  obtain ⟨a1, rfl⟩ := okWide_int Try.underlying3 (hval 1 3 v1 rfl rfl)
  obtain ⟨x1, e1, k1⟩ := (opn_int Try.underlying3) H enc W _ _ fuel1 _ _ g1
  obtain rfl : x1 = a1 := by simp [Value.cells, flInt] at e1; exact e1.symm
  clear hA0 hval0 hsz0
  refine ((law18_AccumMeans.ok (⟨x0_0, x0_1, x0_2⟩ : Acc) a0_0 cap0_0 a0_1 cap0_1 a0_2 cap0_2 x1 true (accumMeans_law (⟨x0_0, x0_1, x0_2⟩ : Acc) ⟨k0_0, k0_1, k0_2⟩ x1 k1)).law W (by simp only [List.mem_cons, List.not_mem_nil, or_false, forall_eq_or_imp, forall_eq]; exact ⟨sat0_0, sat0_1, sat0_2⟩)).mono fun e W' ⟨he, bel⟩ => ?_
  subst he
  exact ⟨_, rfl, _, _, _, [], _, [], hW', trodAll_mk1 (shut_bool Try.underlying4 _), (trodAll_cons_mk (Below.trod laidOut (by kernel_rfl) (of_decide_eq_true (by kernel_rfl)) t0 bel lt0) (trodAll_cons_mk (Below.trod laidOut (by kernel_rfl) (of_decide_eq_true (by kernel_rfl)) t1 bel lt1) trodAll_mk0)), rfl, bel.frame _, fun h => by cases h⟩
theorem over : Rows.accumMeansRow.holds Try.pinned (OpenSpec.ofChange Rows.accumMeansSpec) :=
  OpenClaim.holds_of_wide 7 Try.f7 rfl rfl rfl rfl rfl rfl rfl ⟨rfl, rfl, rfl, rfl, rfl⟩ rfl rfl rfl rfl rfl (by kernel_rfl) Try.func7 (by kernel_rfl)
    (of_decide_eq_true (by kernel_rfl)) (by unfold Func.isWrapper; first | (rw [if_pos (by decide +kernel)]; kernel_rfl) | (rw [if_neg (by decide +kernel)]; exact ⟨rfl, rfl⟩))
    (fun os started H enc _ => lifted os started H enc)
end Go.Proofs.Ytiepcikippcfaaa.accumMeans
namespace Go.Proofs.Ytiepcikippcfaaa
theorem accumMeans_holds : Rows.AccumMeansSaid := accumMeans.over
end Go.Proofs.Ytiepcikippcfaaa
#print axioms Go.Proofs.Ytiepcikippcfaaa.accumMeans_holds
