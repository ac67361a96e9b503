/- Unpacking of streams: what the code and the reference come to. -/
import Derived.Test.YtlemaejpllhjnaaPPack
set_option linter.unusedVariables false
set_option linter.unusedSimpArgs false
set_option maxRecDepth 100000
namespace Go.Proofs.Ytlemaejpllhjnaa.M
open Go.GW Go.Proofs

/-- Rounds over the first numbers, that may end early. -/
theorem iter_idx {σ τ r : Type} (n : Nat) (mk : Int → σ) {f : σ → Option (St σ τ r)} (p : Nat → Option r) (t : τ)
    (hs : ∀ i : Nat, i < n → f (mk (i : Int)) = some (match p i with | some v => .ret v | none => .next (mk ((i : Int) + 1)))) (he : f (mk (n : Int)) = some (.brk t)) :
    iter f (mk 0) = some (match (List.range n).findSome? p with | some v => .ret v | none => .brk t) := by
  refine iter_find (List.range n) mk p t (fun i hi => ?_) (by simpa using he)
  simp only [List.length_range] at hi
  have := hs i hi
  rw [show (List.range n)[i] = i by simp]
  exact this

theorem same_bytes (a b : List Int) (hl : a.length ≤ 1000000) : ref13_SameBytes.f a b = some (decide (a = b)) := by
  unfold ref13_SameBytes.f
  by_cases h : a.length = b.length
  · have h' : (a.length : Int) = b.length := by omega
    simp only [h', decide_true, Bool.not_true, Bool.false_eq_true, if_false]
    rw [iter_idx a.length (fun i => i) (fun i => if a[i]? = b[i]? then none else some false) ()]
    · by_cases hab : a = b
      · subst hab
        have : (List.range a.length).findSome? (fun i => if a[i]? = a[i]? then none else some false) = none := by simp
        rw [this]; simp [fin, ref13_SameBytes.k2]
      · have : (List.range a.length).findSome? (fun i => if a[i]? = b[i]? then none else some false) = some false := by
          cases hf : (List.range a.length).findSome? (fun i => if a[i]? = b[i]? then none else some false) with
          | none =>
            rw [List.findSome?_eq_none_iff] at hf
            refine absurd (List.ext_getElem? fun i => ?_) hab
            by_cases hi : i < a.length
            · have := hf i (by simpa using hi)
              by_cases he : a[i]? = b[i]?
              · exact he
              · simp [he] at this
            · rw [List.getElem?_eq_none (by omega), List.getElem?_eq_none (by omega)]
          | some v =>
            obtain ⟨i, _, hv⟩ := List.exists_of_findSome?_eq_some hf
            split at hv
            · cases hv
            · exact hv.symm ▸ rfl
        rw [this]; simp [fin, hab]
    · intro i hi
      unfold ref13_SameBytes.s1
      rw [ix_at hi, ix_at (show i < b.length by omega), List.getElem?_eq_getElem hi, List.getElem?_eq_getElem (show i < b.length by omega)]
      simp only [decide_eq_true_eq, if_pos (show (i : Int) < (a.length : Int) by omega), if_pos (show (0 : Int) ≤ i ∧ (i : Int) < (a.length : Int) by omega), if_pos (show (0 : Int) ≤ i ∧ (i : Int) < (b.length : Int) by omega)]
      rw [w64_id (by omega) (by omega)]
      by_cases he : a[i] = b[i] <;> simp [he]
    · simp [ref13_SameBytes.s1]
  · have h' : ¬ (a.length : Int) = b.length := by omega
    have : ¬ a = b := fun e => h (by rw [e])
    simp [h', this]

theorem same_ints (a b : List Int) (hl : a.length ≤ 1000000) : ref13_Same.f a b = some (decide (a = b)) := by
  have h1 := same_bytes a b hl
  unfold ref13_SameBytes.f at h1
  unfold ref13_Same.f
  exact h1

/-! ### Digits of bytes -/
def sv (d : Int) : Int := ix ([0, (-3), (-1), 1, 3] : List Int) d
theorem dig_sv {d : Int} (h0 : 0 ≤ d) (h1 : d ≤ 4) : dig (sv d) = d := by
  have : d = 0 ∨ d = 1 ∨ d = 2 ∨ d = 3 ∨ d = 4 := by omega
  rcases this with rfl | rfl | rfl | rfl | rfl <;> rfl
theorem sv_dig {x : Int} (h : 0 ≤ dig x) : sv (dig x) = x := by
  unfold dig at h ⊢
  repeat' split at h
  all_goals first | omega | (simp_all; subst_vars; rfl) | (simp_all; rfl)
theorem sv_zero {d : Int} (h0 : 0 ≤ d) (h1 : d ≤ 4) : sv d = 0 ↔ d = 0 := by
  have : d = 0 ∨ d = 1 ∨ d = 2 ∨ d = 3 ∨ d = 4 := by omega
  rcases this with rfl | rfl | rfl | rfl | rfl <;> decide
/-- The r-th digit. -/
def dg (x : Int) (r : Nat) : Int := if r = 0 then x % 5 else if r = 1 then x / 5 % 5 else x / 25 % 5
theorem dg_range (x : Int) (r : Nat) : 0 ≤ dg x r ∧ dg x r ≤ 4 := by
  unfold dg
  repeat' split
  all_goals omega
/-- The i-th sample. -/
def U (b : List Int) (i : Nat) : Int := sv (dg (b.getD (i / 3) 0) (i % 3))
theorem U_good (b : List Int) (i : Nat) : dig (U b i) = dg (b.getD (i / 3) 0) (i % 3) := by
  have := dg_range (b.getD (i / 3) 0) (i % 3)
  exact dig_sv this.1 this.2
def unp (b : List Int) : List Int := (List.range (3 * b.length)).map (U b)

def BytesOk (b : List Int) : Prop := ∀ x ∈ b, 0 ≤ x ∧ x ≤ 255

theorem un_step (out : List Int) (x : Int) (k : Nat) (hk : k < 3) (h0 : 0 ≤ x) (h1 : x ≤ 255) (hl : out.length ≤ 100000) :
    iter (fun (s : ((List Int) × Int × Int)) => sample_Unpack.s10 s.1 s.2.1 s.2.2) (out, x, (k : Int)) = iter (fun (s : ((List Int) × Int × Int)) => sample_Unpack.s10 s.1 s.2.1 s.2.2) (out ++ [sv (x % 5)], x / 5, ((k + 1 : Nat) : Int)) := by
  refine iter_next ?_
  unfold sample_Unpack.s10
  simp only []
  rw [Int.tmod_eq_emod_of_nonneg h0, Int.tdiv_eq_ediv_of_nonneg h0]
  rw [if_pos (by simp; omega), if_pos (by omega), if_pos (by simp; omega)]
  simp only [lt', sv]
  rw [wu8_id (by omega) (by omega), w64_id (by omega) (by omega)]
  rfl
theorem un_three (out : List Int) (x : Int) (h0 : 0 ≤ x) (h1 : x ≤ 255) (hl : out.length ≤ 10000) :
    iter (fun (s : ((List Int) × Int × Int)) => sample_Unpack.s10 s.1 s.2.1 s.2.2) (out, x, 0) = some (.brk (out ++ [sv (dg x 0), sv (dg x 1), sv (dg x 2)])) := by
  have e0 := un_step out x 0 (by omega) h0 h1 (by omega)
  have e1 := un_step (out ++ [sv (x % 5)]) (x / 5) 1 (by omega) (by omega) (by omega) (by simp; omega)
  have e2 := un_step (out ++ [sv (x % 5)] ++ [sv (x / 5 % 5)]) (x / 5 / 5) 2 (by omega) (by omega) (by omega) (by simp; omega)
  refine Eq.trans e0 (Eq.trans e1 (Eq.trans e2 ?_))
  rw [iter_brk (t := out ++ [sv (x % 5)] ++ [sv (x / 5 % 5)] ++ [sv (x / 5 / 5 % 5)])]
  · simp only [dg, List.append_assoc, List.cons_append, List.nil_append]
    rw [show x / 25 % 5 = x / 5 / 5 % 5 by omega]
    rfl
  · simp [sample_Unpack.s10]

theorem un_iter (b : List Int) (hb : BytesOk b) (hl : b.length ≤ 300) : iter (fun (s : ((List Int) × Int)) => sample_Unpack.s8 b s.1 s.2) ([], 0) = some (if b.any (fun x => decide (125 ≤ x)) = true then .ret ([], 12) else .brk (unp b)) := by
  have main : ∀ m k : Nat, b.length - k = m → k ≤ b.length → iter (fun (s : ((List Int) × Int)) => sample_Unpack.s8 b s.1 s.2) ((List.range (3 * k)).map (U b), (k : Int)) = some (if (b.drop k).any (fun x => decide (125 ≤ x)) = true then .ret ([], 12) else .brk (unp b)) := by
    intro m
    induction m with
    | zero =>
      intro k hm hk
      obtain rfl : k = b.length := by omega
      rw [iter_brk (t := unp b)]
      · simp
      · simp [sample_Unpack.s8, unp]
    | succ m ih =>
      intro k hm hk
      have hlt : k < b.length := by omega
      have hx := hb b[k] (List.getElem_mem hlt)
      rw [List.drop_eq_getElem_cons hlt, List.any_cons]
      by_cases hge : 125 ≤ b[k]
      · rw [iter_ret (v := ([], 12))]
        · simp [hge]
        · unfold sample_Unpack.s8
          rw [ix_at hlt]
          simp only [decide_eq_true_eq, if_pos (show (k : Int) < (b.length : Int) by omega), if_pos (show (0 : Int) ≤ k ∧ (k : Int) < (b.length : Int) by omega), if_pos hge]
      · have ih' := ih (k + 1) (by omega) (by omega)
        have hc : (List.range (3 * k)).map (U b) ++ [sv (dg b[k] 0), sv (dg b[k] 1), sv (dg b[k] 2)] = (List.range (3 * (k + 1))).map (U b) := by
          have e0 : U b (3 * k) = sv (dg b[k] 0) := by
            unfold U; rw [show 3 * k / 3 = k by omega, show 3 * k % 3 = 0 by omega]; simp [List.getD_eq_getElem?_getD, hlt]
          have e1 : U b (3 * k + 1) = sv (dg b[k] 1) := by
            unfold U; rw [show (3 * k + 1) / 3 = k by omega, show (3 * k + 1) % 3 = 1 by omega]; simp [List.getD_eq_getElem?_getD, hlt]
          have e2 : U b (3 * k + 2) = sv (dg b[k] 2) := by
            unfold U; rw [show (3 * k + 2) / 3 = k by omega, show (3 * k + 2) % 3 = 2 by omega]; simp [List.getD_eq_getElem?_getD, hlt]
          rw [show 3 * (k + 1) = 3 * k + 1 + 1 + 1 by omega, List.range_succ, List.range_succ, List.range_succ]
          simp only [List.map_append, List.map_cons, List.map_nil, List.append_assoc, List.cons_append, List.nil_append, e0, e1, e2]
        rw [iter_next (s' := ((List.range (3 * (k + 1))).map (U b), ((k + 1 : Nat) : Int)))]
        · rw [ih']; simp [hge]
        · unfold sample_Unpack.s8
          simp only []
          rw [ix_at hlt]
          simp only [decide_eq_true_eq, if_pos (show (k : Int) < (b.length : Int) by omega), if_pos (show (0 : Int) ≤ k ∧ (k : Int) < (b.length : Int) by omega), if_neg hge]
          rw [un_three _ _ hx.1 hx.2 (by simp; omega), hc]
          simp only [Option.bind_some, fin, sample_Unpack.k11]
          rw [w64_id (by omega) (by omega)]
          rfl
  have := main b.length 0 rfl (Nat.zero_le _)
  simpa using this

def unps (b : List Int) (n : Int) : List Int × Int :=
  if n < 0 ∨ 256 < n then ([], 2) else if b.length ≠ (n.toNat + 2) / 3 then ([], 12) else if b.any (fun x => decide (125 ≤ x)) = true then ([], 12)
  else if ((unp b).drop n.toNat).any (fun x => decide (x ≠ 0)) = true then ([], 12) else ((unp b).take n.toNat, 0)

theorem contains_nz (l : List Int) (hl : l.length ≤ 1000000) : slices_ContainsFunc__int_int__sample_Unpack_1.f l = some (l.any fun x => decide (x ≠ 0)) := by
  unfold slices_ContainsFunc__int_int__sample_Unpack_1.f slices_IndexFunc__int_int__sample_Unpack_1.f
  rw [iter_findIdx l (fun i => i) (fun x => decide (x ≠ 0)) ()]
  · by_cases hb : l.any (fun x => decide (x ≠ 0)) = true
    · rw [if_pos hb, hb]
      simp only [fin, Option.bind_some]
      have : (0 : Int) ≤ ((List.findIdx (fun x => decide (x ≠ 0)) l : Nat) : Int) := by omega
      simp [this]
    · rw [if_neg hb]
      simp only [Bool.not_eq_true] at hb
      rw [hb]
      simp [fin, slices_IndexFunc__int_int__sample_Unpack_1.k2]
  · intro i hi
    unfold slices_IndexFunc__int_int__sample_Unpack_1.s1 sample_Unpack_1.f
    rw [ix_at hi]
    simp only [decide_eq_true_eq, if_pos (show (i : Int) < (l.length : Int) by omega), if_pos (show (0 : Int) ≤ i ∧ (i : Int) < (l.length : Int) by omega), Option.bind_some]
    rw [w64_id (by omega) (by omega)]
    by_cases h : l[i] = 0 <;> simp [h]
  · simp [slices_IndexFunc__int_int__sample_Unpack_1.s1]

theorem samp_unpack (b : List Int) (n : Int) (hb : BytesOk b) (hl : b.length ≤ 300) (hn : okInt .i64 n) : sample_Unpack.f b n = some (unps b n) := by
  unfold sample_Unpack.f unps
  by_cases h1 : n < 0
  · simp [h1, sample_Unpack.k1]
  by_cases h2 : 256 < n
  · simp [h1, h2, sample_Unpack.k1]
  obtain ⟨N, rfl⟩ : ∃ N : Nat, n = N := ⟨n.toNat, by omega⟩
  have e0 : w64 (Int.tdiv (w64 ((N : Int) + 2)) 3) = (((N + 2) / 3 : Nat) : Int) := by
    rw [w64_id (x := (N : Int) + 2) (by omega) (by omega), show (N : Int) + 2 = ((N + 2 : Nat) : Int) by omega]
    exact tdiv3 _ (by omega)
  simp only [h1, h2, decide_false, Bool.false_eq_true, if_false, or_self, sample_Unpack.k1, Int.toNat_natCast, e0]
  by_cases h3 : b.length = (N + 2) / 3
  · have h3' : (b.length : Int) = (((N + 2) / 3 : Nat) : Int) := by omega
    simp only [h3', decide_true, Bool.not_true, Bool.false_eq_true, if_false]
    rw [if_neg (show ¬ b.length ≠ (N + 2) / 3 from fun h => h h3), un_iter b hb hl]
    by_cases h4 : b.any (fun x => decide (125 ≤ x)) = true
    · simp [h4, fin]
    · simp only [if_neg h4, Option.bind_some, fin, sample_Unpack.k9]
      have hlu : (unp b).length = 3 * b.length := by simp [unp]
      rw [if_pos (by omega)]
      simp only [List.take_length, Int.toNat_natCast]
      rw [contains_nz _ (by simp; omega)]
      simp only [Option.bind_some]
      by_cases h5 : ((unp b).drop N).any (fun x => decide (x ≠ 0)) = true
      · simp only [if_pos h5]
      · simp only [if_neg h5]
        rw [if_pos (by omega)]
        unfold slices_Clip__int_int.f
        rw [if_pos (by omega)]
        simp only [Option.bind_some, List.drop_zero, Int.toNat_natCast, List.take_length]
  · have h3' : ¬ (b.length : Int) = (((N + 2) / 3 : Nat) : Int) := by omega
    rw [if_pos (by simp only [h3', decide_false, Bool.not_false]), if_pos h3]

/-! ### The reference's unpacking -/
/-- The sign of a byte is its three digits. -/
theorem byte_split {x : Int} (h0 : 0 ≤ x) (h1 : x ≤ 255) : x = dg x 0 + 5 * dg x 1 + 25 * dg x 2 + 125 * (x / 125) := by
  unfold dg
  simp only [if_pos, if_neg (show ¬ (1 : Nat) = 0 by omega), if_neg (show ¬ (2 : Nat) = 0 by omega), if_neg (show ¬ (2 : Nat) = 1 by omega)]
  omega

theorem Dg_U (b : List Int) (N i : Nat) : Dg ((List.range N).map (U b)) i = if i < N then dg (b.getD (i / 3) 0) (i % 3) else 0 := by
  unfold Dg
  by_cases h : i < N
  · simp only [List.getElem?_map, List.getElem?_range h, Option.map_some, if_pos h]
    exact U_good b i
  · rw [List.getElem?_eq_none (by simp; omega), if_neg h]

end Go.Proofs.Ytlemaejpllhjnaa.M
