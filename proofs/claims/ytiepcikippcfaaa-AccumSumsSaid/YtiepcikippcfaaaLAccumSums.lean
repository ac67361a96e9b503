/- The law AccumSums holds for every input: the given statement, out of the walk of the code and the plain law. -/
import Derived.Test.YtiepcikippcfaaaRows
import Derived.Test.YtiepcikippcfaaaW1
import Derived.Test.YtiepcikippcfaaaPAccumSums
set_option linter.unusedVariables false
set_option linter.unusedSimpArgs false
set_option maxRecDepth 100000
set_option maxHeartbeats 8000000
namespace Go.Proofs.Ytiepcikippcfaaa.accumSums
open Go.ChangeShapes Go.WideShapes Go.ChangeAt Go.RowKit Go.GW Go.Proofs.Ytiepcikippcfaaa.M
theorem opn_rd' {α : Type} {d : Kd α} {W : World} {v : List α} {cs : List Value} (h : d.sl.rep W (Old W) v cs) : ∃ A c, cs = [.slice A v.length c] ∧ (At.rd A c d v true).sat W (Old W) := by
  obtain ⟨A, c, h1, h2, h3⟩ := h
  exact ⟨A, c, h1, h2, h3⟩
theorem opn_49 : OpnF Try.prog 49 fl_Count (fun x => ok_Count x) := fun H enc W sp hd fuel cs x hx => by
  obtain ⟨xs, n, _, _, hl, hn, hf⟩ := DataW.trod_struct Try.underlying49 hx
  have hl' : cs.length = 2 := hl.trans (by kernel_rfl)
  have h0 := hf 0 _ rfl
  rw [List.getElem?_eq_getElem (by rw [hn]; decide)] at h0
  obtain ⟨v0, e0, k0⟩ := (opn_int Try.underlying2) H enc W sp hd n _ _ h0
  have h1 := hf 1 _ rfl
  rw [List.getElem?_eq_getElem (by rw [hn]; decide)] at h1
  obtain ⟨v1, e1, k1⟩ := (opn_int Try.underlying2) H enc W sp hd n _ _ h1
  have hcs : cs.drop 0 = _ := (chunk_cons e0 (chunk_cons e1 (chunk_end hl') (by kernel_rfl)) (by kernel_rfl))
  exact ⟨⟨v0, v1⟩, hcs, ⟨k0, k1⟩⟩
theorem opn_51 : OpnF Try.prog 51 fl_Gap (fun x => ok_Gap x) := fun H enc W sp hd fuel cs x hx => by
  obtain ⟨xs, n, _, _, hl, hn, hf⟩ := DataW.trod_struct Try.underlying51 hx
  have hl' : cs.length = 2 := hl.trans (by kernel_rfl)
  have h0 := hf 0 _ rfl
  rw [List.getElem?_eq_getElem (by rw [hn]; decide)] at h0
  obtain ⟨v0, e0, k0⟩ := (opn_int Try.underlying3) H enc W sp hd n _ _ h0
  have h1 := hf 1 _ rfl
  rw [List.getElem?_eq_getElem (by rw [hn]; decide)] at h1
  obtain ⟨v1, e1, k1⟩ := (opn_int Try.underlying3) H enc W sp hd n _ _ h1
  have hcs : cs.drop 0 = _ := (chunk_cons e0 (chunk_cons e1 (chunk_end hl') (by kernel_rfl)) (by kernel_rfl))
  exact ⟨⟨v0, v1⟩, hcs, ⟨k0, k1⟩⟩
theorem opn_56 : OpnF Try.prog 56 fl_Lag (fun x => ok_Lag x) := fun H enc W sp hd fuel cs x hx => by
  obtain ⟨xs, n, _, _, hl, hn, hf⟩ := DataW.trod_struct Try.underlying56 hx
  have hl' : cs.length = 2 := hl.trans (by kernel_rfl)
  have h0 := hf 0 _ rfl
  rw [List.getElem?_eq_getElem (by rw [hn]; decide)] at h0
  obtain ⟨v0, e0, k0⟩ := (opn_int Try.underlying3) H enc W sp hd n _ _ h0
  have h1 := hf 1 _ rfl
  rw [List.getElem?_eq_getElem (by rw [hn]; decide)] at h1
  obtain ⟨v1, e1, k1⟩ := (opn_int Try.underlying3) H enc W sp hd n _ _ h1
  have hcs : cs.drop 0 = _ := (chunk_cons e0 (chunk_cons e1 (chunk_end hl') (by kernel_rfl)) (by kernel_rfl))
  exact ⟨⟨v0, v1⟩, hcs, ⟨k0, k1⟩⟩
theorem own : ownKnob Try.prog.godebug = none := by kernel_rfl
theorem laidOut : laidOutB Try.prog = true := by kernel_rfl
theorem lifted (os : Os) (started : os.Started) (H : Type) (enc : TypeId × Value → H) :
    ReturnsInHanded {} Try.checked os 6 .any (Rows.accumSumsSpec.pre6 enc Try.prog Try.f6 Rows.accumSumsRow.domain false) (Rows.accumSumsSpec.post enc Try.prog Try.f6 false true false false) := by
  refine returnsInHanded_of_change_sized (C := Try.checked) own started (by kernel_rfl) Try.func6
    (ChangeSpec.witness6 (enc := enc) (C := Try.checked) false ⟨#[], #[.agg #[.slice none 0 0, .slice none 0 0, .slice none 0 0], .agg #[.slice none 0 0, .slice none 0 0, .slice none 0 0], .slice none 0 0, .int .i64 0, .int .i64 0], []⟩ 8 (by kernel_rfl) (by kernel_rfl) (by kernel_rfl) (by kernel_rfl)) ?_
  intro W base args ds gs before hval0 hW hcnd hsz0 _
  have hval : ∀ (j : Nat) t v, Try.f6.params[j]? = some t → args[j]? = some v → Value.okWide Try.prog W .any base t v := hval0
  have hW' := hW
  obtain ⟨p, q, hA0, hV, rfl, hfz, hnd⟩ := hW
  have hA : DataW.TrodAll enc Try.prog W 0 (fun _ => true) true Try.f6.params.toList args.toList ds p := hA0
  rw [Try.params6] at hA hval
  obtain ⟨v0, vs0, d0, ds0, p0, q0, hargs, rfl, rfl, h0, r0⟩ := trodAll_cons hA
  obtain ⟨v1, vs1, d1, ds1, p1, q1, rfl, rfl, rfl, h1, r1⟩ := trodAll_cons r0
  obtain ⟨v2, vs2, d2, ds2, p2, q2, rfl, rfl, rfl, h2, r2⟩ := trodAll_cons r1
  obtain ⟨v3, vs3, d3, ds3, p3, q3, rfl, rfl, rfl, h3, r3⟩ := trodAll_cons r2
  obtain ⟨v4, vs4, d4, ds4, p4, q4, rfl, rfl, rfl, h4, r4⟩ := trodAll_cons r3
  obtain ⟨rfl, rfl, rfl⟩ := trodAll_nil r4
  obtain rfl : args = #[v0, v1, v2, v3, v4] := Array.toList_inj.1 hargs
  obtain ⟨rfl, rfl⟩ := trodVars_none hV
  have t0 := h0
  have lt0 : ∀ x ∈ p0, x.block < W.heap.size := by obtain ⟨m, hm⟩ := t0; exact DataW.trod_lt m _ _ _ hm
  obtain ⟨fuel0, g0⟩ := h0
  obtain ⟨a0, rfl, _⟩ := okWide_struct Try.underlying25 (hval 0 25 v0 rfl rfl)
  obtain ⟨xs0, n0, _, _, hl0, hn0, hf0⟩ := DataW.trod_struct Try.underlying25 g0
  have hl'0 : a0.toList.length = 3 := hl0.trans (by kernel_rfl)
  have h0_0 := hf0 0 _ rfl
  rw [List.getElem?_eq_getElem (by rw [hn0]; decide)] at h0_0
  obtain ⟨x0_0, o0_0, k0_0⟩ := (opn_slice Try.underlying22 (OpnF.opn opn_49)) H enc W _ _ n0 _ _ h0_0
  obtain ⟨a0_0, cap0_0, e0_0, sat0_0⟩ := opn_rd' o0_0
  have h0_1 := hf0 1 _ rfl
  rw [List.getElem?_eq_getElem (by rw [hn0]; decide)] at h0_1
  obtain ⟨x0_1, o0_1, k0_1⟩ := (opn_slice Try.underlying22 (OpnF.opn opn_49)) H enc W _ _ n0 _ _ h0_1
  obtain ⟨a0_1, cap0_1, e0_1, sat0_1⟩ := opn_rd' o0_1
  have h0_2 := hf0 2 _ rfl
  rw [List.getElem?_eq_getElem (by rw [hn0]; decide)] at h0_2
  obtain ⟨x0_2, o0_2, k0_2⟩ := (opn_slice Try.underlying23 (OpnF.opn opn_51)) H enc W _ _ n0 _ _ h0_2
  obtain ⟨a0_2, cap0_2, e0_2, sat0_2⟩ := opn_rd' o0_2
  have hcs0 : a0.toList.drop 0 = _ := (chunk_cons e0_0 (chunk_cons e0_1 (chunk_cons e0_2 (chunk_end hl'0) (by kernel_rfl)) (by kernel_rfl)) (by kernel_rfl))
  obtain rfl : a0 = #[.slice a0_0 x0_0.length cap0_0, .slice a0_1 x0_1.length cap0_1, .slice a0_2 x0_2.length cap0_2] := Array.toList_inj.1 hcs0
  have t1 := h1
  have lt1 : ∀ x ∈ p1, x.block < W.heap.size := by obtain ⟨m, hm⟩ := t1; exact DataW.trod_lt m _ _ _ hm
  obtain ⟨fuel1, g1⟩ := h1
  obtain ⟨a1, rfl, _⟩ := okWide_struct Try.underlying25 (hval 1 25 v1 rfl rfl)
  obtain ⟨xs1, n1, _, _, hl1, hn1, hf1⟩ := DataW.trod_struct Try.underlying25 g1
  have hl'1 : a1.toList.length = 3 := hl1.trans (by kernel_rfl)
  have h1_0 := hf1 0 _ rfl
  rw [List.getElem?_eq_getElem (by rw [hn1]; decide)] at h1_0
  obtain ⟨x1_0, o1_0, k1_0⟩ := (opn_slice Try.underlying22 (OpnF.opn opn_49)) H enc W _ _ n1 _ _ h1_0
  obtain ⟨a1_0, cap1_0, e1_0, sat1_0⟩ := opn_rd' o1_0
  have h1_1 := hf1 1 _ rfl
  rw [List.getElem?_eq_getElem (by rw [hn1]; decide)] at h1_1
  obtain ⟨x1_1, o1_1, k1_1⟩ := (opn_slice Try.underlying22 (OpnF.opn opn_49)) H enc W _ _ n1 _ _ h1_1
  obtain ⟨a1_1, cap1_1, e1_1, sat1_1⟩ := opn_rd' o1_1
  have h1_2 := hf1 2 _ rfl
  rw [List.getElem?_eq_getElem (by rw [hn1]; decide)] at h1_2
  obtain ⟨x1_2, o1_2, k1_2⟩ := (opn_slice Try.underlying23 (OpnF.opn opn_51)) H enc W _ _ n1 _ _ h1_2
  obtain ⟨a1_2, cap1_2, e1_2, sat1_2⟩ := opn_rd' o1_2
  have hcs1 : a1.toList.drop 0 = _ := (chunk_cons e1_0 (chunk_cons e1_1 (chunk_cons e1_2 (chunk_end hl'1) (by kernel_rfl)) (by kernel_rfl)) (by kernel_rfl))
  obtain rfl : a1 = #[.slice a1_0 x1_0.length cap1_0, .slice a1_1 x1_1.length cap1_1, .slice a1_2 x1_2.length cap1_2] := Array.toList_inj.1 hcs1
  have t2 := h2
  have lt2 : ∀ x ∈ p2, x.block < W.heap.size := by obtain ⟨m, hm⟩ := t2; exact DataW.trod_lt m _ _ _ hm
  obtain ⟨fuel2, g2⟩ := h2
  obtain ⟨a2, len2, cap2, rfl⟩ := okWide_slice Try.underlying57 (hval 2 57 v2 rfl rfl)
  obtain ⟨x2, o2, k2⟩ := (opn_slice Try.underlying57 (OpnF.opn opn_56)) H enc W _ _ fuel2 _ _ g2
  obtain ⟨rfl, sat2⟩ := opn_rd o2
  have t3 := h3
  have lt3 : ∀ x ∈ p3, x.block < W.heap.size := by obtain ⟨m, hm⟩ := t3; exact DataW.trod_lt m _ _ _ hm
  obtain ⟨fuel3, g3⟩ := h3
  obtain ⟨a3, rfl⟩ := okWide_int Try.underlying3 (hval 3 3 v3 rfl rfl)
  obtain ⟨x3, e3, k3⟩ := (opn_int Try.underlying3) H enc W _ _ fuel3 _ _ g3
  obtain rfl : x3 = a3 := by simp [Value.cells, flInt] at e3; exact e3.symm
  have t4 := h4
  have lt4 : ∀ x ∈ p4, x.block < W.heap.size := by obtain ⟨m, hm⟩ := t4; exact DataW.trod_lt m _ _ _ hm
  obtain ⟨fuel4, g4⟩ := h4
  obtain ⟨a4, rfl⟩ := okWide_int Try.underlying3 (hval 4 3 v4 rfl rfl)
  obtain ⟨x4, e4, k4⟩ := (opn_int Try.underlying3) H enc W _ _ fuel4 _ _ g4
  obtain rfl : x4 = a4 := by simp [Value.cells, flInt] at e4; exact e4.symm
  clear hA0 hval0 hsz0
  refine ((law18_AccumSums.ok (⟨x0_0, x0_1, x0_2⟩ : Acc) a0_0 cap0_0 a0_1 cap0_1 a0_2 cap0_2 (⟨x1_0, x1_1, x1_2⟩ : Acc) a1_0 cap1_0 a1_1 cap1_1 a1_2 cap1_2 x2 a2 cap2 x3 x4 true (accumSums_law (⟨x0_0, x0_1, x0_2⟩ : Acc) ⟨k0_0, k0_1, k0_2⟩ (⟨x1_0, x1_1, x1_2⟩ : Acc) ⟨k1_0, k1_1, k1_2⟩ x2 k2 x3 k3 x4 k4)).law W (by simp only [List.mem_cons, List.not_mem_nil, or_false, forall_eq_or_imp, forall_eq]; exact ⟨sat0_0, sat0_1, sat0_2, sat1_0, sat1_1, sat1_2, sat2⟩)).mono fun e W' ⟨he, bel⟩ => ?_
  subst he
  exact ⟨_, rfl, _, _, _, [], _, [], hW', trodAll_mk1 (shut_bool Try.underlying4 _), (trodAll_cons_mk (Below.trod laidOut (by kernel_rfl) (of_decide_eq_true (by kernel_rfl)) t0 bel lt0) (trodAll_cons_mk (Below.trod laidOut (by kernel_rfl) (of_decide_eq_true (by kernel_rfl)) t1 bel lt1) (trodAll_cons_mk (Below.trod laidOut (by kernel_rfl) (of_decide_eq_true (by kernel_rfl)) t2 bel lt2) (trodAll_cons_mk (Below.trod laidOut (by kernel_rfl) (of_decide_eq_true (by kernel_rfl)) t3 bel lt3) (trodAll_cons_mk (Below.trod laidOut (by kernel_rfl) (of_decide_eq_true (by kernel_rfl)) t4 bel lt4) trodAll_mk0))))), rfl, bel.frame _, fun h => by cases h⟩
theorem over : Rows.accumSumsRow.holds Try.pinned (OpenSpec.ofChange Rows.accumSumsSpec) :=
  OpenClaim.holds_of_wide 6 Try.f6 rfl rfl rfl rfl rfl rfl rfl ⟨rfl, rfl, rfl, rfl, rfl⟩ rfl rfl rfl rfl rfl (by kernel_rfl) Try.func6 (by kernel_rfl)
    (of_decide_eq_true (by kernel_rfl)) (by unfold Func.isWrapper; first | (rw [if_pos (by decide +kernel)]; kernel_rfl) | (rw [if_neg (by decide +kernel)]; exact ⟨rfl, rfl⟩))
    (fun os started H enc _ => lifted os started H enc)
end Go.Proofs.Ytiepcikippcfaaa.accumSums
namespace Go.Proofs.Ytiepcikippcfaaa
theorem accumSums_holds : Rows.AccumSumsSaid := accumSums.over
end Go.Proofs.Ytiepcikippcfaaa
#print axioms Go.Proofs.Ytiepcikippcfaaa.accumSums_holds
