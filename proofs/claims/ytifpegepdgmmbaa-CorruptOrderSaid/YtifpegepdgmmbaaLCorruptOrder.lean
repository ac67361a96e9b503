/- The law CorruptOrder holds for every input: the given statement, out of the walk of the code and the plain law. -/
import Derived.Test.YtifpegepdgmmbaaRows
import Derived.Test.YtifpegepdgmmbaaW1
import Derived.Test.YtifpegepdgmmbaaPCorruptOrder
set_option linter.unusedVariables false
set_option linter.unusedSimpArgs false
set_option maxRecDepth 100000
set_option maxHeartbeats 8000000
namespace Go.Proofs.Ytifpegepdgmmbaa.corruptOrder
open Go.ChangeShapes Go.WideShapes Go.ChangeAt Go.RowKit Go.GW Go.Proofs.Ytifpegepdgmmbaa.M
theorem opn_23 : OpnF Try.prog 23 fl_Cx (fun x => ok_Cx x) := fun H enc W sp hd fuel cs x hx => by
  obtain ⟨xs, n, _, _, hl, hn, hf⟩ := DataW.trod_struct Try.underlying23 hx
  have hl' : cs.length = 3 := hl.trans (by kernel_rfl)
  have h0 := hf 0 _ rfl
  rw [List.getElem?_eq_getElem (by rw [hn]; decide)] at h0
  obtain ⟨v0, e0, k0⟩ := (opn_int Try.underlying2) H enc W sp hd n _ _ h0
  have h1 := hf 1 _ rfl
  rw [List.getElem?_eq_getElem (by rw [hn]; decide)] at h1
  obtain ⟨v1, e1, k1⟩ := (opn_int Try.underlying2) H enc W sp hd n _ _ h1
  have h2 := hf 2 _ rfl
  rw [List.getElem?_eq_getElem (by rw [hn]; decide)] at h2
  obtain ⟨v2, e2, k2⟩ := (opn_int Try.underlying2) H enc W sp hd n _ _ h2
  have hcs : cs.drop 0 = _ := (chunk_cons e0 (chunk_cons e1 (chunk_cons e2 (chunk_end hl') (by kernel_rfl)) (by kernel_rfl)) (by kernel_rfl))
  exact ⟨⟨v0, v1, v2⟩, hcs, ⟨k0, k1, k2⟩⟩
theorem opn_47 : OpnF Try.prog 47 fl_Vis (fun x => ok_Vis x) := fun H enc W sp hd fuel cs x hx => by
  obtain ⟨xs, n, _, _, hl, hn, hf⟩ := DataW.trod_struct Try.underlying47 hx
  have hl' : cs.length = 6 := hl.trans (by kernel_rfl)
  have h0 := hf 0 _ rfl
  rw [List.getElem?_eq_getElem (by rw [hn]; decide)] at h0
  obtain ⟨v0, e0, k0⟩ := (opn_int Try.underlying3) H enc W sp hd n _ _ h0
  have h1 := hf 1 _ rfl
  rw [List.getElem?_eq_getElem (by rw [hn]; decide)] at h1
  obtain ⟨v1, e1, k1⟩ := (opn_int Try.underlying3) H enc W sp hd n _ _ h1
  have h2 := hf 2 _ rfl
  rw [List.getElem?_eq_getElem (by rw [hn]; decide)] at h2
  obtain ⟨v2, e2, k2⟩ := opn_23 H enc W sp hd n _ _ h2
  have h3 := hf 3 _ rfl
  rw [List.getElem?_eq_getElem (by rw [hn]; decide)] at h3
  obtain ⟨v3, e3, k3⟩ := (opn_int Try.underlying3) H enc W sp hd n _ _ h3
  have hcs : cs.drop 0 = _ := (chunk_cons e0 (chunk_cons e1 (chunk_cons e2 (chunk_cons e3 (chunk_end hl') (by kernel_rfl)) (by kernel_rfl)) (by kernel_rfl)) (by kernel_rfl))
  exact ⟨⟨v0, v1, v2, v3⟩, hcs, ⟨k0, k1, k2, k3⟩⟩
theorem trod_len {H : Type} {enc : TypeId × Value → H} {W : World} {spare : Nat → Bool} {held : Bool} {fuel : Nat} {P : Program} {T e : TypeId} {a : Option Addr} {n c : Nat} {x : DataW H × List MemPlace} (hT : P.underlying T = some (.slice e)) (h : DataW.trod enc P W 0 spare held fuel T [.slice a n c] = some x) : n ≤ maxLen := by
  rcases DataW.trod_slice hT h with ⟨h0, _⟩ | ⟨a', len, cap, elems, rest, m, _, h0, _, _, hl, hm, _⟩
  · simp only [List.cons.injEq, and_true, Value.slice.injEq] at h0
    omega
  · simp only [List.cons.injEq, and_true, Value.slice.injEq] at h0
    omega
theorem opn_25 : OpnF Try.prog 25 fl_Spoil (fun x => ok_Spoil x) := fun H enc W sp hd fuel cs x hx => by
  obtain ⟨xs, n, _, _, hl, hn, hf⟩ := DataW.trod_struct Try.underlying25 hx
  have hl' : cs.length = 8 := hl.trans (by kernel_rfl)
  have h0 := hf 0 _ rfl
  rw [List.getElem?_eq_getElem (by rw [hn]; decide)] at h0
  obtain ⟨v0, e0, k0⟩ := (opn_int Try.underlying5) H enc W sp hd n _ _ h0
  have h1 := hf 1 _ rfl
  rw [List.getElem?_eq_getElem (by rw [hn]; decide)] at h1
  obtain ⟨v1, e1, k1⟩ := (opn_int Try.underlying3) H enc W sp hd n _ _ h1
  have h2 := hf 2 _ rfl
  rw [List.getElem?_eq_getElem (by rw [hn]; decide)] at h2
  obtain ⟨v2, e2, k2⟩ := (opn_int Try.underlying3) H enc W sp hd n _ _ h2
  have h3 := hf 3 _ rfl
  rw [List.getElem?_eq_getElem (by rw [hn]; decide)] at h3
  obtain ⟨v3, e3, k3⟩ := (opn_int Try.underlying3) H enc W sp hd n _ _ h3
  have h4 := hf 4 _ rfl
  rw [List.getElem?_eq_getElem (by rw [hn]; decide)] at h4
  obtain ⟨v4, e4, k4⟩ := opn_23 H enc W sp hd n _ _ h4
  have h5 := hf 5 _ rfl
  rw [List.getElem?_eq_getElem (by rw [hn]; decide)] at h5
  obtain ⟨v5, e5, k5⟩ := (opn_int Try.underlying3) H enc W sp hd n _ _ h5
  have hcs : cs.drop 0 = _ := (chunk_cons e0 (chunk_cons e1 (chunk_cons e2 (chunk_cons e3 (chunk_cons e4 (chunk_cons e5 (chunk_end hl') (by kernel_rfl)) (by kernel_rfl)) (by kernel_rfl)) (by kernel_rfl)) (by kernel_rfl)) (by kernel_rfl))
  exact ⟨⟨v0, v1, v2, v3, v4, v5⟩, hcs, ⟨k0, k1, k2, k3, k4, k5⟩⟩
theorem own : ownKnob Try.prog.godebug = none := by kernel_rfl
theorem laidOut : laidOutB Try.prog = true := by kernel_rfl
theorem lifted (os : Os) (started : os.Started) (H : Type) (enc : TypeId × Value → H) :
    ReturnsInHanded {} Try.checked os 4 .any (Rows.corruptOrderSpec.pre6 enc Try.prog Try.f4 Rows.corruptOrderRow.domain false) (Rows.corruptOrderSpec.post enc Try.prog Try.f4 false true false false) := by
  refine returnsInHanded_of_change_sized (C := Try.checked) own started (by kernel_rfl) Try.func4
    (ChangeSpec.witness6 (enc := enc) (C := Try.checked) false ⟨#[], #[.slice none 0 0, .slice none 0 0, .int .i64 0], []⟩ 8 (by kernel_rfl) (by kernel_rfl) (by kernel_rfl) (by kernel_rfl)) ?_
  intro W base args ds gs before hval0 hW hcnd hsz0 _
  have hval : ∀ (j : Nat) t v, Try.f4.params[j]? = some t → args[j]? = some v → Value.okWide Try.prog W .any base t v := hval0
  have hW' := hW
  obtain ⟨p, q, hA0, hV, rfl, hfz, hnd⟩ := hW
  have hA : DataW.TrodAll enc Try.prog W 0 (fun _ => true) true Try.f4.params.toList args.toList ds p := hA0
  rw [Try.params4] at hA hval
  obtain ⟨v0, vs0, d0, ds0, p0, q0, hargs, rfl, rfl, h0, r0⟩ := trodAll_cons hA
  obtain ⟨v1, vs1, d1, ds1, p1, q1, rfl, rfl, rfl, h1, r1⟩ := trodAll_cons r0
  obtain ⟨v2, vs2, d2, ds2, p2, q2, rfl, rfl, rfl, h2, r2⟩ := trodAll_cons r1
  obtain ⟨rfl, rfl, rfl⟩ := trodAll_nil r2
  obtain rfl : args = #[v0, v1, v2] := Array.toList_inj.1 hargs
  obtain ⟨rfl, rfl⟩ := trodVars_none hV
  have t0 := h0
  have lt0 : ∀ x ∈ p0, x.block < W.heap.size := by obtain ⟨m, hm⟩ := t0; exact DataW.trod_lt m _ _ _ hm
  obtain ⟨fuel0, g0⟩ := h0
  obtain ⟨a0, len0, cap0, rfl⟩ := okWide_slice Try.underlying37 (hval 0 37 v0 rfl rfl)
  obtain ⟨x0, o0, k0⟩ := (opn_slice Try.underlying37 (opn_slice Try.underlying48 (OpnF.opn opn_47))) H enc W _ _ fuel0 _ _ g0
  obtain ⟨rfl, sat0⟩ := opn_rd o0
  have m0 := trod_len Try.underlying37 g0
  have t1 := h1
  have lt1 : ∀ x ∈ p1, x.block < W.heap.size := by obtain ⟨m, hm⟩ := t1; exact DataW.trod_lt m _ _ _ hm
  obtain ⟨fuel1, g1⟩ := h1
  obtain ⟨a1, len1, cap1, rfl⟩ := okWide_slice Try.underlying32 (hval 1 32 v1 rfl rfl)
  obtain ⟨x1, o1, k1⟩ := (opn_slice Try.underlying32 (OpnF.opn opn_25)) H enc W _ _ fuel1 _ _ g1
  obtain ⟨rfl, sat1⟩ := opn_rd o1
  have m1 := trod_len Try.underlying32 g1
  have t2 := h2
  have lt2 : ∀ x ∈ p2, x.block < W.heap.size := by obtain ⟨m, hm⟩ := t2; exact DataW.trod_lt m _ _ _ hm
  obtain ⟨fuel2, g2⟩ := h2
  obtain ⟨a2, rfl⟩ := okWide_int Try.underlying3 (hval 2 3 v2 rfl rfl)
  obtain ⟨x2, e2, k2⟩ := (opn_int Try.underlying3) H enc W _ _ fuel2 _ _ g2
  obtain rfl : x2 = a2 := by simp [Value.cells, flInt] at e2; exact e2.symm
  clear hA0 hval0 hsz0
  refine ((law35_CorruptOrder.ok x0 a0 cap0 x1 a1 cap1 x2 true (corruptOrder_law x0 k0 m0 x1 k1 m1 x2 k2)).law W (by simp only [List.mem_cons, List.not_mem_nil, or_false, forall_eq_or_imp, forall_eq]; exact ⟨sat0, sat1⟩)).mono fun e W' ⟨he, bel⟩ => ?_
  subst he
  exact ⟨_, rfl, _, _, _, [], _, [], hW', trodAll_mk1 (shut_bool Try.underlying4 _), (trodAll_cons_mk (Below.trod laidOut (by kernel_rfl) (of_decide_eq_true (by kernel_rfl)) t0 bel lt0) (trodAll_cons_mk (Below.trod laidOut (by kernel_rfl) (of_decide_eq_true (by kernel_rfl)) t1 bel lt1) (trodAll_cons_mk (Below.trod laidOut (by kernel_rfl) (of_decide_eq_true (by kernel_rfl)) t2 bel lt2) trodAll_mk0))), rfl, bel.frame _, fun h => by cases h⟩
theorem over : Rows.corruptOrderRow.holds Try.pinned (OpenSpec.ofChange Rows.corruptOrderSpec) :=
  OpenClaim.holds_of_wide 4 Try.f4 rfl rfl rfl rfl rfl rfl rfl ⟨rfl, rfl, rfl, rfl, rfl⟩ rfl rfl rfl rfl rfl (by kernel_rfl) Try.func4 (by kernel_rfl)
    (of_decide_eq_true (by kernel_rfl)) (by unfold Func.isWrapper; first | (rw [if_pos (by decide +kernel)]; kernel_rfl) | (rw [if_neg (by decide +kernel)]; exact ⟨rfl, rfl⟩))
    (fun os started H enc _ => lifted os started H enc)
end Go.Proofs.Ytifpegepdgmmbaa.corruptOrder
namespace Go.Proofs.Ytifpegepdgmmbaa
theorem corruptOrder_holds : Rows.CorruptOrderSaid := corruptOrder.over
end Go.Proofs.Ytifpegepdgmmbaa
#print axioms Go.Proofs.Ytifpegepdgmmbaa.corruptOrder_holds
