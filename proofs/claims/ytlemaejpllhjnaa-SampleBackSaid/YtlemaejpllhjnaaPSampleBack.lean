/- The plain law of SampleBack: packing and unpacking are inverse. -/
import Derived.Test.YtlemaejpllhjnaaPUnpack
import Derived.Test.YtlemaejpllhjnaaC0
set_option linter.unusedVariables false
set_option linter.unusedSimpArgs false
set_option maxRecDepth 100000
namespace Go.Proofs.Ytlemaejpllhjnaa.M
open Go.GW Go.Proofs

theorem bytesOk {b : List Int} (k : ∀ y ∈ b, okInt .u8 y) : BytesOk b := by
  intro x hx
  have := k x hx
  unfold okInt Lit.wf at this
  have e1 : IntKind.u8.min = 0 := by decide
  have e2 : IntKind.u8.max = 255 := by decide
  simp only [e1, e2, Bool.and_eq_true, decide_eq_true_eq] at this
  exact this
theorem alive_c : law13_alive.f_c = some true := by kernel_rfl
theorem alive_law : law13_alive.f = some true := law13_alive.f_le _ alive_c

theorem ext_getD {a b : List Int} (hl : a.length = b.length) (h : ∀ i, i < a.length → a[i]? = b[i]?) : a = b := by
  apply List.ext_getElem?
  intro i
  by_cases hi : i < a.length
  · exact h i hi
  · rw [List.getElem?_eq_none (by omega), List.getElem?_eq_none (by omega)]

/-- What was packed is unpacked. -/
theorem unps_pack (s : List Int) (h : chk s = 0) : unps (pack s) (s.length : Int) = (s, 0) := by
  obtain ⟨h1, h2⟩ := chk_ok h
  have hg : Good s := h2
  have hlp : (pack s).length = (s.length + 2) / 3 := by simp [pack]
  have hat : ∀ j, j < (pack s).length → (pack s).getD j 0 = pkAt s j := by
    intro j hj
    rw [hlp] at hj
    simp [List.getD_eq_getElem?_getD, pack, hj]
  have hU : ∀ i, i < 3 * (pack s).length → U (pack s) i = sv (Dg s i) := by
    intro i hi
    unfold U
    rw [hat _ (by omega)]
    congr 1
    have r0 := Dg_range hg (3 * (i / 3)); have r1 := Dg_range hg (3 * (i / 3) + 1); have r2 := Dg_range hg (3 * (i / 3) + 2)
    have hr : i % 3 = 0 ∨ i % 3 = 1 ∨ i % 3 = 2 := by omega
    unfold dg pkAt
    rcases hr with h | h | h
    · rw [h, if_pos rfl]
      have : Dg s i = Dg s (3 * (i / 3)) := by congr 1; omega
      rw [this]; omega
    · rw [h, if_neg (by omega), if_pos rfl]
      have : Dg s i = Dg s (3 * (i / 3) + 1) := by congr 1; omega
      rw [this]; omega
    · rw [h, if_neg (by omega), if_neg (by omega)]
      have : Dg s i = Dg s (3 * (i / 3) + 2) := by congr 1; omega
      rw [this]; omega
  unfold unps
  rw [if_neg (by omega), Int.toNat_natCast, if_neg (by simp [hlp]), if_neg, if_neg]
  · congr 1
    apply ext_getD
    · simp [unp, hlp]; omega
    · intro i hi
      have hi' : i < s.length := by simp at hi; omega
      rw [List.getElem?_take, if_pos hi']
      simp only [unp, List.getElem?_map]
      rw [List.getElem?_range (by omega), List.getElem?_eq_getElem hi']
      simp only [Option.map_some]
      rw [hU i (by omega)]
      have : Dg s i = dig s[i] := by simp [Dg, List.getElem?_eq_getElem hi']
      rw [this, sv_dig (hg _ (List.getElem_mem hi'))]
  · simp only [List.any_eq_true, decide_eq_true_eq, not_exists, not_and]
    intro x hx
    obtain ⟨k, hk⟩ := List.mem_iff_getElem?.1 hx
    rw [List.getElem?_drop] at hk
    have hlt : s.length + k < 3 * (pack s).length := by
      have := (List.getElem?_eq_some_iff.1 hk).1
      simpa [unp] using this
    simp only [unp, List.getElem?_map] at hk
    rw [List.getElem?_range hlt] at hk
    have : x = U (pack s) (s.length + k) := (Option.some.inj hk).symm
    rw [this, hU _ hlt]
    have : Dg s (s.length + k) = 0 := by simp [Dg]
    rw [this]
    simp [sv, ix]
  · simp only [List.any_eq_true, decide_eq_true_eq, not_exists, not_and]
    intro x hx
    simp only [pack, List.mem_map] at hx
    obtain ⟨j, _, rfl⟩ := hx
    have := pkAt_range hg j
    omega

/-- What was unpacked is packed. -/
theorem packs_unps (b : List Int) (n : Int) (hb : BytesOk b) (h : (unps b n).2 = 0) : packs (unps b n).1 = (b, 0) ∧ ((unps b n).1.length : Int) = n := by
  unfold unps at h ⊢
  split at h
  · cases h
  rename_i h1
  rw [if_neg h1]
  split at h
  · cases h
  rename_i h2
  rw [if_neg h2]
  split at h
  · cases h
  rename_i h3
  rw [if_neg h3]
  split at h
  · cases h
  rename_i h4
  rw [if_neg h4]
  obtain ⟨N, rfl⟩ : ∃ N : Nat, n = N := ⟨n.toNat, by omega⟩
  simp only [Int.toNat_natCast] at *
  have hl : b.length = (N + 2) / 3 := Classical.byContradiction h2
  have ho : (unp b).take N = (List.range N).map (U b) := by
    unfold unp
    rw [← List.map_take, List.take_range]
    congr 2
    omega
  rw [ho]
  refine ⟨?_, by simp⟩
  have hgood : Good ((List.range N).map (U b)) := by
    intro x hx
    obtain ⟨i, _, rfl⟩ := List.mem_map.1 hx
    rw [U_good]
    exact (dg_range _ _).1
  have hchk : chk ((List.range N).map (U b)) = 0 := by
    unfold chk bad
    rw [if_neg (by simp; omega), if_neg]
    simp only [List.any_eq_true, decide_eq_true_eq, not_exists, not_and]
    intro x hx
    have := hgood x hx
    omega
  unfold packs
  rw [if_pos hchk]
  congr 1
  apply ext_getD
  · simp [pack, hl]
  · intro j hj
    have hj' : j < b.length := by simp [pack] at hj; omega
    have hx := hb b[j] (List.getElem_mem hj')
    have hs := byte_split hx.1 hx.2
    have hlt : b[j] < 125 := by
      simp only [List.any_eq_true, decide_eq_true_eq, not_exists, not_and] at h3
      have := h3 b[j] (List.getElem_mem hj')
      omega
    have hdiv : b[j] / 125 = 0 := by omega
    rw [hdiv] at hs
    have hg : b.getD j 0 = b[j] := by simp [List.getD_eq_getElem?_getD, hj']
    have hz : ∀ r, r < 3 → N ≤ 3 * j + r → dg b[j] r = 0 := by
      intro r hr hN
      simp only [List.any_eq_true, decide_eq_true_eq, not_exists, not_and] at h4
      have := h4 (U b (3 * j + r)) (by
        rw [List.mem_iff_getElem?]
        refine ⟨3 * j + r - N, ?_⟩
        rw [List.getElem?_drop, show N + (3 * j + r - N) = 3 * j + r by omega]
        simp only [unp, List.getElem?_map]
        rw [List.getElem?_range (by omega)]
        rfl)
      have hU : U b (3 * j + r) = 0 := Classical.byContradiction this
      unfold U at hU
      rw [show (3 * j + r) / 3 = j by omega, show (3 * j + r) % 3 = r by omega, hg, sv_zero (dg_range _ _).1 (dg_range _ _).2] at hU
      exact hU
    simp only [pack, List.getElem?_map]
    rw [List.getElem?_range (by simp [pack] at hj; simp; omega), List.getElem?_eq_getElem hj']
    simp only [Option.map_some]
    congr 1
    unfold pkAt
    rw [Dg_U, Dg_U, Dg_U, show 3 * j / 3 = j by omega, show 3 * j % 3 = 0 by omega, show (3 * j + 1) / 3 = j by omega, show (3 * j + 1) % 3 = 1 by omega, show (3 * j + 2) / 3 = j by omega, show (3 * j + 2) % 3 = 2 by omega, hg]
    have z0 : (if 3 * j < N then dg b[j] 0 else 0) = dg b[j] 0 := by
      split
      · rfl
      · exact (hz 0 (by omega) (by omega)).symm
    have z1 : (if 3 * j + 1 < N then dg b[j] 1 else 0) = dg b[j] 1 := by
      split
      · rfl
      · exact (hz 1 (by omega) (by omega)).symm
    have z2 : (if 3 * j + 2 < N then dg b[j] 2 else 0) = dg b[j] 2 := by
      split
      · rfl
      · exact (hz 2 (by omega) (by omega)).symm
    rw [z0, z1, z2]
    omega

theorem back_k3 (b : List Int) (n : Int) (hb : BytesOk b) (hl : b.length ≤ 300) (hn : okInt .i64 n) : law13_SampleBack.k3 b n true = some true := by
  unfold law13_SampleBack.k3
  rw [samp_unpack b n hb hl hn]
  simp only [Option.bind_some, if_true]
  by_cases h : (unps b n).2 = 0
  · obtain ⟨h1, h2⟩ := packs_unps b n hb h
    rw [samp_pack, h1]
    simp only [h, decide_true, Bool.not_true, Bool.false_eq_true, if_false, Option.bind_some, if_pos (decide_eq_true h2), if_true]
    rw [same_bytes _ _ (by omega)]
    simp
  · have : (unps b n).1 = [] := by
      unfold unps at h ⊢
      by_cases c1 : n < 0 ∨ 256 < n
      · rw [if_pos c1]
      rw [if_neg c1] at h ⊢
      by_cases c2 : b.length ≠ (n.toNat + 2) / 3
      · rw [if_pos c2]
      rw [if_neg c2] at h ⊢
      by_cases c3 : b.any (fun x => decide (125 ≤ x)) = true
      · rw [if_pos c3]
      rw [if_neg c3] at h ⊢
      by_cases c4 : ((unp b).drop n.toNat).any (fun x => decide (x ≠ 0)) = true
      · rw [if_pos c4]
      rw [if_neg c4] at h
      exact absurd rfl h
    simp [h, this]

theorem sampleBack_law (x0 : (List Int)) (k0 : ∀ y ∈ x0, okInt .i64 y) (x1 : (List Int)) (k1 : ∀ y ∈ x1, okInt .u8 y) (x2 : Int) (k2 : okInt .i64 x2) : law13_SampleBack.f x0 x1 x2 = some true := by
  unfold law13_SampleBack.f ref13_Long.f law13_SampleBack.k1
  rw [alive_law]
  simp only [Option.bind_some, Bool.not_true, Bool.false_eq_true, if_false]
  by_cases h0 : (300 : Int) < x0.length
  · simp [h0]
  by_cases h1 : (300 : Int) < x1.length
  · simp [h0, h1]
  simp only [h0, h1, decide_false, Bool.false_eq_true, if_false]
  rw [ref_check]
  simp only [Option.bind_some]
  by_cases hc : chk x0 = 0
  · obtain ⟨hl, hg⟩ := chk_ok hc
    have hbp : BytesOk (pack x0) := by
      intro x hx
      simp only [pack, List.mem_map] at hx
      obtain ⟨j, _, rfl⟩ := hx
      have := pkAt_range (s := x0) hg j
      omega
    rw [samp_pack]
    simp only [packs, if_pos hc, Option.bind_some, hc, decide_true, if_true]
    rw [samp_unpack _ _ hbp (by simp [pack]; omega) (by
      unfold okInt Lit.wf
      have e1 : IntKind.i64.min = -9223372036854775808 := by decide
      have e2 : IntKind.i64.max = 9223372036854775807 := by decide
      simp only [e1, e2, Bool.and_eq_true, decide_eq_true_eq]
      omega), unps_pack x0 hc]
    simp only [Option.bind_some, decide_true, Bool.not_true, Bool.false_eq_true, if_false]
    rw [same_ints _ _ (by omega)]
    simp only [decide_true, Option.bind_some, Bool.not_true, law13_SampleBack.k4, Bool.false_eq_true, if_false]
    exact back_k3 x1 x2 (bytesOk k1) (by omega) k2
  · simp only [hc, decide_false, Bool.false_eq_true, if_false]
    exact back_k3 x1 x2 (bytesOk k1) (by omega) k2
end Go.Proofs.Ytlemaejpllhjnaa.M
