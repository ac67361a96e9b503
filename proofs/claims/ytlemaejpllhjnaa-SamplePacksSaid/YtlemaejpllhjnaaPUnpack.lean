/- Unpacking of streams: what the code and the reference come to. -/
import Derived.Test.YtlemaejpllhjnaaPPack
set_option linter.unusedVariables false
set_option linter.unusedSimpArgs false
set_option maxRecDepth 100000
namespace Go.Proofs.Ytlemaejpllhjnaa.M
open Go.GW Go.Proofs

/-- Rounds over the first numbers, that may end early. -/
theorem iter_idx {σ τ r : Type} (n : Nat) (mk : Int → σ) {f : σ → Option (St σ τ r)} (p : Nat → Option r) (t : τ)
    (hs : ∀ i : Nat, i < n → f (mk (i : Int)) = some (match p i with | some v => .ret v | none => .next (mk ((i : Int) + 1)))) (he : f (mk (n : Int)) = some (.brk t)) :
    iter f (mk 0) = some (match (List.range n).findSome? p with | some v => .ret v | none => .brk t) := by
  refine iter_find (List.range n) mk p t (fun i hi => ?_) (by simpa using he)
  simp only [List.length_range] at hi
  have := hs i hi
  rw [show (List.range n)[i] = i by simp]
  exact this

theorem same_bytes (a b : List Int) (hl : a.length ≤ 1000000) : ref13_SameBytes.f a b = some (decide (a = b)) := by
  unfold ref13_SameBytes.f
  by_cases h : a.length = b.length
  · have h' : (a.length : Int) = b.length := by omega
    simp only [h', decide_true, Bool.not_true, Bool.false_eq_true, if_false]
    rw [iter_idx a.length (fun i => i) (fun i => if a[i]? = b[i]? then none else some false) ()]
    · by_cases hab : a = b
      · subst hab
        have : (List.range a.length).findSome? (fun i => if a[i]? = a[i]? then none else some false) = none := by simp
        rw [this]; simp [fin, ref13_SameBytes.k2]
      · have : (List.range a.length).findSome? (fun i => if a[i]? = b[i]? then none else some false) = some false := by
          cases hf : (List.range a.length).findSome? (fun i => if a[i]? = b[i]? then none else some false) with
          | none =>
            rw [List.findSome?_eq_none_iff] at hf
            refine absurd (List.ext_getElem? fun i => ?_) hab
            by_cases hi : i < a.length
            · have := hf i (by simpa using hi)
              by_cases he : a[i]? = b[i]?
              · exact he
              · simp [he] at this
            · rw [List.getElem?_eq_none (by omega), List.getElem?_eq_none (by omega)]
          | some v =>
            obtain ⟨i, _, hv⟩ := List.exists_of_findSome?_eq_some hf
            split at hv
            · cases hv
            · exact hv.symm ▸ rfl
        rw [this]; simp [fin, hab]
    · intro i hi
      unfold ref13_SameBytes.s1
      rw [ix_at hi, ix_at (show i < b.length by omega), List.getElem?_eq_getElem hi, List.getElem?_eq_getElem (show i < b.length by omega)]
      simp only [decide_eq_true_eq, if_pos (show (i : Int) < (a.length : Int) by omega), if_pos (show (0 : Int) ≤ i ∧ (i : Int) < (a.length : Int) by omega), if_pos (show (0 : Int) ≤ i ∧ (i : Int) < (b.length : Int) by omega)]
      rw [w64_id (by omega) (by omega)]
      by_cases he : a[i] = b[i] <;> simp [he]
    · simp [ref13_SameBytes.s1]
  · have h' : ¬ (a.length : Int) = b.length := by omega
    have : ¬ a = b := fun e => h (by rw [e])
    simp [h', this]

theorem same_ints (a b : List Int) (hl : a.length ≤ 1000000) : ref13_Same.f a b = some (decide (a = b)) := by
  have h1 := same_bytes a b hl
  unfold ref13_SameBytes.f at h1
  unfold ref13_Same.f
  exact h1

/-! ### Digits of bytes -/
def sv (d : Int) : Int := ix ([0, (-3), (-1), 1, 3] : List Int) d
theorem dig_sv {d : Int} (h0 : 0 ≤ d) (h1 : d ≤ 4) : dig (sv d) = d := by
  have : d = 0 ∨ d = 1 ∨ d = 2 ∨ d = 3 ∨ d = 4 := by omega
  rcases this with rfl | rfl | rfl | rfl | rfl <;> rfl
theorem sv_dig {x : Int} (h : 0 ≤ dig x) : sv (dig x) = x := by
  unfold dig at h ⊢
  repeat' split at h
  all_goals first | omega | (simp_all; subst_vars; rfl) | (simp_all; rfl)
theorem sv_zero {d : Int} (h0 : 0 ≤ d) (h1 : d ≤ 4) : sv d = 0 ↔ d = 0 := by
  have : d = 0 ∨ d = 1 ∨ d = 2 ∨ d = 3 ∨ d = 4 := by omega
  rcases this with rfl | rfl | rfl | rfl | rfl <;> decide
/-- The r-th digit. -/
def dg (x : Int) (r : Nat) : Int := if r = 0 then x % 5 else if r = 1 then x / 5 % 5 else x / 25 % 5
theorem dg_range (x : Int) (r : Nat) : 0 ≤ dg x r ∧ dg x r ≤ 4 := by
  unfold dg
  repeat' split
  all_goals omega
/-- The i-th sample. -/
def U (b : List Int) (i : Nat) : Int := sv (dg (b.getD (i / 3) 0) (i % 3))
theorem U_good (b : List Int) (i : Nat) : dig (U b i) = dg (b.getD (i / 3) 0) (i % 3) := by
  have := dg_range (b.getD (i / 3) 0) (i % 3)
  exact dig_sv this.1 this.2
def unp (b : List Int) : List Int := (List.range (3 * b.length)).map (U b)

def BytesOk (b : List Int) : Prop := ∀ x ∈ b, 0 ≤ x ∧ x ≤ 255

theorem un_step (out : List Int) (x : Int) (k : Nat) (hk : k < 3) (h0 : 0 ≤ x) (h1 : x ≤ 255) (hl : out.length ≤ 100000) :
    iter (fun (s : ((List Int) × Int × Int)) => sample_Unpack.s10 s.1 s.2.1 s.2.2) (out, x, (k : Int)) = iter (fun (s : ((List Int) × Int × Int)) => sample_Unpack.s10 s.1 s.2.1 s.2.2) (out ++ [sv (x % 5)], x / 5, ((k + 1 : Nat) : Int)) := by
  refine iter_next ?_
  unfold sample_Unpack.s10
  simp only []
  rw [Int.tmod_eq_emod_of_nonneg h0, Int.tdiv_eq_ediv_of_nonneg h0]
  rw [if_pos (by simp; omega), if_pos (by omega), if_pos (by simp; omega)]
  simp only [lt', sv]
  rw [wu8_id (by omega) (by omega), w64_id (by omega) (by omega)]
  rfl
theorem un_three (out : List Int) (x : Int) (h0 : 0 ≤ x) (h1 : x ≤ 255) (hl : out.length ≤ 10000) :
    iter (fun (s : ((List Int) × Int × Int)) => sample_Unpack.s10 s.1 s.2.1 s.2.2) (out, x, 0) = some (.brk (out ++ [sv (dg x 0), sv (dg x 1), sv (dg x 2)])) := by
  have e0 := un_step out x 0 (by omega) h0 h1 (by omega)
  have e1 := un_step (out ++ [sv (x % 5)]) (x / 5) 1 (by omega) (by omega) (by omega) (by simp; omega)
  have e2 := un_step (out ++ [sv (x % 5)] ++ [sv (x / 5 % 5)]) (x / 5 / 5) 2 (by omega) (by omega) (by omega) (by simp; omega)
  refine Eq.trans e0 (Eq.trans e1 (Eq.trans e2 ?_))
  rw [iter_brk (t := out ++ [sv (x % 5)] ++ [sv (x / 5 % 5)] ++ [sv (x / 5 / 5 % 5)])]
  · simp only [dg, List.append_assoc, List.cons_append, List.nil_append]
    rw [show x / 25 % 5 = x / 5 / 5 % 5 by omega]
    rfl
  · simp [sample_Unpack.s10]

theorem un_iter (b : List Int) (hb : BytesOk b) (hl : b.length ≤ 300) : iter (fun (s : ((List Int) × Int)) => sample_Unpack.s8 b s.1 s.2) ([], 0) = some (if b.any (fun x => decide (125 ≤ x)) = true then .ret ([], 12) else .brk (unp b)) := by
  have main : ∀ m k : Nat, b.length - k = m → k ≤ b.length → iter (fun (s : ((List Int) × Int)) => sample_Unpack.s8 b s.1 s.2) ((List.range (3 * k)).map (U b), (k : Int)) = some (if (b.drop k).any (fun x => decide (125 ≤ x)) = true then .ret ([], 12) else .brk (unp b)) := by
    intro m
    induction m with
    | zero =>
      intro k hm hk
      obtain rfl : k = b.length := by omega
      rw [iter_brk (t := unp b)]
      · simp
      · simp [sample_Unpack.s8, unp]
    | succ m ih =>
      intro k hm hk
      have hlt : k < b.length := by omega
      have hx := hb b[k] (List.getElem_mem hlt)
      rw [List.drop_eq_getElem_cons hlt, List.any_cons]
      by_cases hge : 125 ≤ b[k]
      · rw [iter_ret (v := ([], 12))]
        · simp [hge]
        · unfold sample_Unpack.s8
          rw [ix_at hlt]
          simp only [decide_eq_true_eq, if_pos (show (k : Int) < (b.length : Int) by omega), if_pos (show (0 : Int) ≤ k ∧ (k : Int) < (b.length : Int) by omega), if_pos hge]
      · have ih' := ih (k + 1) (by omega) (by omega)
        have hc : (List.range (3 * k)).map (U b) ++ [sv (dg b[k] 0), sv (dg b[k] 1), sv (dg b[k] 2)] = (List.range (3 * (k + 1))).map (U b) := by
          have e0 : U b (3 * k) = sv (dg b[k] 0) := by
            unfold U; rw [show 3 * k / 3 = k by omega, show 3 * k % 3 = 0 by omega]; simp [List.getD_eq_getElem?_getD, hlt]
          have e1 : U b (3 * k + 1) = sv (dg b[k] 1) := by
            unfold U; rw [show (3 * k + 1) / 3 = k by omega, show (3 * k + 1) % 3 = 1 by omega]; simp [List.getD_eq_getElem?_getD, hlt]
          have e2 : U b (3 * k + 2) = sv (dg b[k] 2) := by
            unfold U; rw [show (3 * k + 2) / 3 = k by omega, show (3 * k + 2) % 3 = 2 by omega]; simp [List.getD_eq_getElem?_getD, hlt]
          rw [show 3 * (k + 1) = 3 * k + 1 + 1 + 1 by omega, List.range_succ, List.range_succ, List.range_succ]
          simp only [List.map_append, List.map_cons, List.map_nil, List.append_assoc, List.cons_append, List.nil_append, e0, e1, e2]
        rw [iter_next (s' := ((List.range (3 * (k + 1))).map (U b), ((k + 1 : Nat) : Int)))]
        · rw [ih']; simp [hge]
        · unfold sample_Unpack.s8
          simp only []
          rw [ix_at hlt]
          simp only [decide_eq_true_eq, if_pos (show (k : Int) < (b.length : Int) by omega), if_pos (show (0 : Int) ≤ k ∧ (k : Int) < (b.length : Int) by omega), if_neg hge]
          rw [un_three _ _ hx.1 hx.2 (by simp; omega), hc]
          simp only [Option.bind_some, fin, sample_Unpack.k11]
          rw [w64_id (by omega) (by omega)]
          rfl
  have := main b.length 0 rfl (Nat.zero_le _)
  simpa using this

def unps (b : List Int) (n : Int) : List Int × Int :=
  if n < 0 ∨ 256 < n then ([], 2) else if b.length ≠ (n.toNat + 2) / 3 then ([], 12) else if b.any (fun x => decide (125 ≤ x)) = true then ([], 12)
  else if ((unp b).drop n.toNat).any (fun x => decide (x ≠ 0)) = true then ([], 12) else ((unp b).take n.toNat, 0)

theorem contains_nz (l : List Int) (hl : l.length ≤ 1000000) : slices_ContainsFunc__int_int__sample_Unpack_1.f l = some (l.any fun x => decide (x ≠ 0)) := by
  unfold slices_ContainsFunc__int_int__sample_Unpack_1.f slices_IndexFunc__int_int__sample_Unpack_1.f
  rw [iter_findIdx l (fun i => i) (fun x => decide (x ≠ 0)) ()]
  · by_cases hb : l.any (fun x => decide (x ≠ 0)) = true
    · rw [if_pos hb, hb]
      simp only [fin, Option.bind_some]
      have : (0 : Int) ≤ ((List.findIdx (fun x => decide (x ≠ 0)) l : Nat) : Int) := by omega
      simp [this]
    · rw [if_neg hb]
      simp only [Bool.not_eq_true] at hb
      rw [hb]
      simp [fin, slices_IndexFunc__int_int__sample_Unpack_1.k2]
  · intro i hi
    unfold slices_IndexFunc__int_int__sample_Unpack_1.s1 sample_Unpack_1.f
    rw [ix_at hi]
    simp only [decide_eq_true_eq, if_pos (show (i : Int) < (l.length : Int) by omega), if_pos (show (0 : Int) ≤ i ∧ (i : Int) < (l.length : Int) by omega), Option.bind_some]
    rw [w64_id (by omega) (by omega)]
    by_cases h : l[i] = 0 <;> simp [h]
  · simp [slices_IndexFunc__int_int__sample_Unpack_1.s1]

theorem samp_unpack (b : List Int) (n : Int) (hb : BytesOk b) (hl : b.length ≤ 300) (hn : okInt .i64 n) : sample_Unpack.f b n = some (unps b n) := by
  unfold sample_Unpack.f unps
  by_cases h1 : n < 0
  · simp [h1, sample_Unpack.k1]
  by_cases h2 : 256 < n
  · simp [h1, h2, sample_Unpack.k1]
  obtain ⟨N, rfl⟩ : ∃ N : Nat, n = N := ⟨n.toNat, by omega⟩
  have e0 : w64 (Int.tdiv (w64 ((N : Int) + 2)) 3) = (((N + 2) / 3 : Nat) : Int) := by
    rw [w64_id (x := (N : Int) + 2) (by omega) (by omega), show (N : Int) + 2 = ((N + 2 : Nat) : Int) by omega]
    exact tdiv3 _ (by omega)
  simp only [h1, h2, decide_false, Bool.false_eq_true, if_false, or_self, sample_Unpack.k1, Int.toNat_natCast, e0]
  by_cases h3 : b.length = (N + 2) / 3
  · have h3' : (b.length : Int) = (((N + 2) / 3 : Nat) : Int) := by omega
    simp only [h3', decide_true, Bool.not_true, Bool.false_eq_true, if_false]
    rw [if_neg (show ¬ b.length ≠ (N + 2) / 3 from fun h => h h3), un_iter b hb hl]
    by_cases h4 : b.any (fun x => decide (125 ≤ x)) = true
    · simp [h4, fin]
    · simp only [if_neg h4, Option.bind_some, fin, sample_Unpack.k9]
      have hlu : (unp b).length = 3 * b.length := by simp [unp]
      rw [if_pos (by omega)]
      simp only [List.take_length, Int.toNat_natCast]
      rw [contains_nz _ (by simp; omega)]
      simp only [Option.bind_some]
      by_cases h5 : ((unp b).drop N).any (fun x => decide (x ≠ 0)) = true
      · simp only [if_pos h5]
      · simp only [if_neg h5]
        rw [if_pos (by omega)]
        unfold slices_Clip__int_int.f
        rw [if_pos (by omega)]
        simp only [Option.bind_some, List.drop_zero, Int.toNat_natCast, List.take_length]
  · have h3' : ¬ (b.length : Int) = (((N + 2) / 3 : Nat) : Int) := by omega
    rw [if_pos (by simp only [h3', decide_false, Bool.not_false]), if_pos h3]

/-! ### The reference's unpacking -/
theorem rp_in (i : Nat) (x : Int) (h0 : 0 ≤ x) (h1 : x ≤ 255) (hi : i ≤ 1000) : ∃ d, iter (fun (s : (Int × Int)) => ref13_Unpack.s30 (i : Int) s.1 s.2) (x, 0) = some (.brk d) ∧ Int.tmod d 5 = dg x (i % 3) := by
  have hm : Int.tmod (i : Int) 3 = ((i % 3 : Nat) : Int) := by
    rw [show (3 : Int) = ((3 : Nat) : Int) by rfl, ← Int.ofNat_tmod]
  have sn : ∀ (k : Nat) (d : Int), k < i % 3 → 0 ≤ d → d ≤ 255 → iter (fun (s : (Int × Int)) => ref13_Unpack.s30 (i : Int) s.1 s.2) (d, (k : Int)) = iter (fun (s : (Int × Int)) => ref13_Unpack.s30 (i : Int) s.1 s.2) (d / 5, ((k + 1 : Nat) : Int)) := by
    intro k d hk h0 h1
    refine iter_next ?_
    unfold ref13_Unpack.s30
    simp only []
    rw [hm, if_pos (by simp; omega), Int.tdiv_eq_ediv_of_nonneg h0]
    simp only [lt']
    rw [w64_id (by omega) (by omega), w64_id (by omega) (by omega)]
    rfl
  have en : ∀ (d : Int), iter (fun (s : (Int × Int)) => ref13_Unpack.s30 (i : Int) s.1 s.2) (d, ((i % 3 : Nat) : Int)) = some (.brk d) := by
    intro d
    refine iter_brk ?_
    unfold ref13_Unpack.s30
    rw [hm, if_neg (by simp)]
  have h3 : i % 3 = 0 ∨ i % 3 = 1 ∨ i % 3 = 2 := by omega
  rcases h3 with h | h | h
  · have := en x
    rw [h] at this
    refine ⟨x, this, ?_⟩
    rw [h, Int.tmod_eq_emod_of_nonneg h0]; rfl
  · have := en (x / 5)
    rw [h] at this
    refine ⟨x / 5, Eq.trans (sn 0 x (by omega) (by omega) (by omega)) this, ?_⟩
    rw [h, Int.tmod_eq_emod_of_nonneg (by omega)]; rfl
  · have := en (x / 5 / 5)
    rw [h] at this
    refine ⟨x / 5 / 5, Eq.trans (sn 0 x (by omega) (by omega) (by omega)) (Eq.trans (sn 1 (x / 5) (by omega) (by omega) (by omega)) this), ?_⟩
    rw [h, Int.tmod_eq_emod_of_nonneg (by omega)]
    show x / 5 / 5 % 5 = x / 25 % 5
    omega

theorem rp_find (out : List Int) (d : Int) (h0 : 0 ≤ Int.tmod d 5) (h4 : Int.tmod d 5 ≤ 4) (hl : out.length ≤ 10000) : iter (fun (s : ((List Int) × Int)) => ref13_Unpack.s35 d s.1 s.2) (out, (-3)) = some (.brk (out ++ [sv (Int.tmod d 5)])) := by
  obtain ⟨e, he⟩ : ∃ e, e = Int.tmod d 5 := ⟨_, rfl⟩
  rw [← he] at h0 h4 ⊢
  have hit : ∀ (o : List Int) (x : Int), -3 ≤ x → x ≤ 3 → dig x = e → o.length ≤ 10000 → iter (fun (s : ((List Int) × Int)) => ref13_Unpack.s35 d s.1 s.2) (o, x) = iter (fun (s : ((List Int) × Int)) => ref13_Unpack.s35 d s.1 s.2) (o ++ [x], x + 1) := by
    intro o x h1 h2 h3 h4
    refine iter_next ?_
    unfold ref13_Unpack.s35 ref13_Unpack.k37
    simp only []
    rw [if_pos (by simpa using h2), ref_digit]
    simp only [Option.bind_some]
    rw [← he, if_pos (by simpa using h3), if_pos (by simp; omega), w64_id (by omega) (by omega)]
  have mis : ∀ (o : List Int) (x : Int), -3 ≤ x → x ≤ 3 → dig x ≠ e → iter (fun (s : ((List Int) × Int)) => ref13_Unpack.s35 d s.1 s.2) (o, x) = iter (fun (s : ((List Int) × Int)) => ref13_Unpack.s35 d s.1 s.2) (o, x + 1) := by
    intro o x h1 h2 h3
    refine iter_next ?_
    unfold ref13_Unpack.s35 ref13_Unpack.k37
    simp only []
    rw [if_pos (by simpa using h2), ref_digit]
    simp only [Option.bind_some]
    rw [← he, if_neg (by simpa using h3), w64_id (by omega) (by omega)]
  have en : ∀ (o : List Int), iter (fun (s : ((List Int) × Int)) => ref13_Unpack.s35 d s.1 s.2) (o, 4) = some (.brk o) := by
    intro o
    refine iter_brk ?_
    simp [ref13_Unpack.s35]
  have hl2 : ∀ x : Int, (out ++ [x]).length ≤ 10001 := fun x => by simp; omega
  have d0 : dig 0 = 0 := rfl
  have d1 : dig (-3) = 1 := rfl
  have d2 : dig (-1) = 2 := rfl
  have d3 : dig 1 = 3 := rfl
  have d4 : dig 3 = 4 := rfl
  have m2 : dig (-2) = -1 := rfl
  have p2 : dig 2 = -1 := rfl
  have : e = 0 ∨ e = 1 ∨ e = 2 ∨ e = 3 ∨ e = 4 := by omega
  rcases this with rfl | rfl | rfl | rfl | rfl
  · rw [mis out (-3) (by omega) (by omega) (by omega), mis out (-3 + 1) (by omega) (by omega) (by rw [show (-3 + 1 : Int) = -2 by rfl]; omega), mis out (-3 + 1 + 1) (by omega) (by omega) (by rw [show (-3 + 1 + 1 : Int) = -1 by rfl]; omega), show (-3 + 1 + 1 + 1 : Int) = 0 by rfl,
      hit out 0 (by omega) (by omega) (by omega) hl, mis _ (0 + 1) (by omega) (by omega) (by rw [show (0 + 1 : Int) = 1 by rfl]; omega), mis _ (0 + 1 + 1) (by omega) (by omega) (by rw [show (0 + 1 + 1 : Int) = 2 by rfl]; omega), mis _ (0 + 1 + 1 + 1) (by omega) (by omega) (by rw [show (0 + 1 + 1 + 1 : Int) = 3 by rfl]; omega), show (0 + 1 + 1 + 1 + 1 : Int) = 4 by rfl, en]
    rfl
  · rw [hit out (-3) (by omega) (by omega) (by omega) hl, mis _ (-3 + 1) (by omega) (by omega) (by rw [show (-3 + 1 : Int) = -2 by rfl]; omega), mis _ (-3 + 1 + 1) (by omega) (by omega) (by rw [show (-3 + 1 + 1 : Int) = -1 by rfl]; omega), show (-3 + 1 + 1 + 1 : Int) = 0 by rfl,
      mis _ 0 (by omega) (by omega) (by omega), mis _ (0 + 1) (by omega) (by omega) (by rw [show (0 + 1 : Int) = 1 by rfl]; omega), mis _ (0 + 1 + 1) (by omega) (by omega) (by rw [show (0 + 1 + 1 : Int) = 2 by rfl]; omega), mis _ (0 + 1 + 1 + 1) (by omega) (by omega) (by rw [show (0 + 1 + 1 + 1 : Int) = 3 by rfl]; omega), show (0 + 1 + 1 + 1 + 1 : Int) = 4 by rfl, en]
    rfl
  · rw [mis out (-3) (by omega) (by omega) (by omega), mis out (-3 + 1) (by omega) (by omega) (by rw [show (-3 + 1 : Int) = -2 by rfl]; omega), show (-3 + 1 + 1 : Int) = -1 by rfl, hit out (-1) (by omega) (by omega) (by omega) hl, show (-1 + 1 : Int) = 0 by rfl,
      mis _ 0 (by omega) (by omega) (by omega), mis _ (0 + 1) (by omega) (by omega) (by rw [show (0 + 1 : Int) = 1 by rfl]; omega), mis _ (0 + 1 + 1) (by omega) (by omega) (by rw [show (0 + 1 + 1 : Int) = 2 by rfl]; omega), mis _ (0 + 1 + 1 + 1) (by omega) (by omega) (by rw [show (0 + 1 + 1 + 1 : Int) = 3 by rfl]; omega), show (0 + 1 + 1 + 1 + 1 : Int) = 4 by rfl, en]
    rfl
  · rw [mis out (-3) (by omega) (by omega) (by omega), mis out (-3 + 1) (by omega) (by omega) (by rw [show (-3 + 1 : Int) = -2 by rfl]; omega), mis out (-3 + 1 + 1) (by omega) (by omega) (by rw [show (-3 + 1 + 1 : Int) = -1 by rfl]; omega), show (-3 + 1 + 1 + 1 : Int) = 0 by rfl,
      mis out 0 (by omega) (by omega) (by omega), show (0 + 1 : Int) = 1 by rfl, hit out 1 (by omega) (by omega) (by omega) hl, mis _ (1 + 1) (by omega) (by omega) (by rw [show (1 + 1 : Int) = 2 by rfl]; omega), mis _ (1 + 1 + 1) (by omega) (by omega) (by rw [show (1 + 1 + 1 : Int) = 3 by rfl]; omega), show (1 + 1 + 1 + 1 : Int) = 4 by rfl, en]
    rfl
  · rw [mis out (-3) (by omega) (by omega) (by omega), mis out (-3 + 1) (by omega) (by omega) (by rw [show (-3 + 1 : Int) = -2 by rfl]; omega), mis out (-3 + 1 + 1) (by omega) (by omega) (by rw [show (-3 + 1 + 1 : Int) = -1 by rfl]; omega), show (-3 + 1 + 1 + 1 : Int) = 0 by rfl,
      mis out 0 (by omega) (by omega) (by omega), mis out (0 + 1) (by omega) (by omega) (by rw [show (0 + 1 : Int) = 1 by rfl]; omega), mis out (0 + 1 + 1) (by omega) (by omega) (by rw [show (0 + 1 + 1 : Int) = 2 by rfl]; omega), show (0 + 1 + 1 + 1 : Int) = 3 by rfl, hit out 3 (by omega) (by omega) (by omega) hl, show (3 + 1 : Int) = 4 by rfl, en]
    rfl

theorem rp_iter (b : List Int) (N : Nat) (hb : BytesOk b) (hN : N ≤ 256) (hl : b.length = (N + 2) / 3) : iter (fun (s : ((List Int) × Int)) => ref13_Unpack.s26 b (N : Int) s.1 s.2) ([], 0) = some (.brk ((List.range N).map (U b))) := by
  have main : ∀ m i : Nat, N - i = m → i ≤ N → iter (fun (s : ((List Int) × Int)) => ref13_Unpack.s26 b (N : Int) s.1 s.2) ((List.range i).map (U b), (i : Int)) = some (.brk ((List.range N).map (U b))) := by
    intro m
    induction m with
    | zero =>
      intro i hm hi
      obtain rfl : i = N := by omega
      rw [iter_brk]
      simp [ref13_Unpack.s26]
    | succ m ih =>
      intro i hm hi
      have hlt : i / 3 < b.length := by omega
      have hx := hb b[i / 3] (List.getElem_mem hlt)
      obtain ⟨d, hd1, hd2⟩ := rp_in i b[i / 3] hx.1 hx.2 (by omega)
      have hr := dg_range b[i / 3] (i % 3)
      have hU : U b i = sv (dg b[i / 3] (i % 3)) := by
        unfold U
        simp [List.getD_eq_getElem?_getD, hlt]
      rw [iter_next (s' := ((List.range (i + 1)).map (U b), ((i + 1 : Nat) : Int)))]
      · exact ih (i + 1) (by omega) (by omega)
      · simp only [ref13_Unpack.s26]
        rw [if_pos (by simp; omega), tdiv3 i (by omega), if_pos (by omega), ix_at hlt]
        simp only [lt']
        rw [w64_id (by omega) (by omega), hd1]
        simp only [Option.bind_some, fin, ref13_Unpack.k31]
        rw [rp_find _ d (by omega) (by omega) (by simp; omega)]
        simp only [Option.bind_some, fin, ref13_Unpack.k36]
        rw [w64_id (by omega) (by omega), hd2, ← hU, List.range_succ, List.map_append]
        rfl
  have := main N 0 rfl (Nat.zero_le _)
  simpa using this

/-- The sign of a byte is its three digits. -/
theorem byte_split {x : Int} (h0 : 0 ≤ x) (h1 : x ≤ 255) : x = dg x 0 + 5 * dg x 1 + 25 * dg x 2 + 125 * (x / 125) := by
  unfold dg
  simp only [if_pos, if_neg (show ¬ (1 : Nat) = 0 by omega), if_neg (show ¬ (2 : Nat) = 0 by omega), if_neg (show ¬ (2 : Nat) = 1 by omega)]
  omega

theorem Dg_U (b : List Int) (N i : Nat) : Dg ((List.range N).map (U b)) i = if i < N then dg (b.getD (i / 3) 0) (i % 3) else 0 := by
  unfold Dg
  by_cases h : i < N
  · simp only [List.getElem?_map, List.getElem?_range h, Option.map_some, if_pos h]
    exact U_good b i
  · rw [List.getElem?_eq_none (by simp; omega), if_neg h]

theorem ref_unpack (b : List Int) (n : Int) (hb : BytesOk b) (hl : b.length ≤ 300) (hn : okInt .i64 n) : ref13_Unpack.f b n = some (unps b n) := by
  unfold ref13_Unpack.f unps
  by_cases h1 : n < 0
  · simp [h1, ref13_Unpack.k1]
  by_cases h2 : 256 < n
  · simp [h1, h2, ref13_Unpack.k1]
  obtain ⟨N, rfl⟩ : ∃ N : Nat, n = N := ⟨n.toNat, by omega⟩
  have e0 : w64 (Int.tdiv (w64 ((N : Int) + 2)) 3) = (((N + 2) / 3 : Nat) : Int) := by
    rw [w64_id (x := (N : Int) + 2) (by omega) (by omega), show (N : Int) + 2 = ((N + 2 : Nat) : Int) by omega]
    exact tdiv3 _ (by omega)
  simp only [h1, h2, decide_false, Bool.false_eq_true, if_false, or_self, ref13_Unpack.k1, Int.toNat_natCast, e0]
  by_cases h3 : b.length = (N + 2) / 3
  · have h3' : (b.length : Int) = (((N + 2) / 3 : Nat) : Int) := by omega
    simp only [h3', decide_true, Bool.not_true, Bool.false_eq_true, if_false]
    rw [if_neg (show ¬ b.length ≠ (N + 2) / 3 from fun h => h h3), rp_iter b N hb (by omega) h3]
    simp only [Option.bind_some, fin, ref13_Unpack.k27]
    obtain ⟨out, ho⟩ : ∃ out, out = (List.range N).map (U b) := ⟨_, rfl⟩
    rw [← ho]
    have hlo : out.length = N := by rw [ho]; simp
    have hgood : Good out := by
      intro x hx
      rw [ho] at hx
      obtain ⟨i, _, rfl⟩ := List.mem_map.1 hx
      rw [U_good]
      exact (dg_range _ _).1
    have hchk : chk out = 0 := by
      unfold chk bad
      rw [if_neg (by omega), if_neg]
      simp only [List.any_eq_true, decide_eq_true_eq, not_exists, not_and]
      intro x hx
      have := hgood x hx
      omega
    rw [ref_pack]
    simp only [packs, if_pos hchk, Option.bind_some]
    have hlp : (pack out).length = b.length := by simp [pack, hlo, h3]
    have hpj : ∀ j (hj : j < b.length), (pack out)[j]? = some (pkAt out j) := by
      intro j hj
      simp only [pack, List.getElem?_map]
      rw [List.getElem?_range (by omega)]
      rfl
    have hmatch : ∀ j (hj : j < b.length), pkAt out j = b[j] ↔ b[j] < 125 ∧ ∀ r, r < 3 → N ≤ 3 * j + r → dg b[j] r = 0 := by
      intro j hj
      have hx := hb b[j] (List.getElem_mem hj)
      have hs := byte_split hx.1 hx.2
      have r0 := dg_range b[j] 0; have r1 := dg_range b[j] 1; have r2 := dg_range b[j] 2
      have hg : b.getD j 0 = b[j] := by simp [List.getD_eq_getElem?_getD, hj]
      have hp : pkAt out j = (if 3 * j < N then dg b[j] 0 else 0) + 5 * (if 3 * j + 1 < N then dg b[j] 1 else 0) + 25 * (if 3 * j + 2 < N then dg b[j] 2 else 0) := by
        unfold pkAt
        rw [ho, Dg_U, Dg_U, Dg_U, show 3 * j / 3 = j by omega, show 3 * j % 3 = 0 by omega, show (3 * j + 1) / 3 = j by omega, show (3 * j + 1) % 3 = 1 by omega, show (3 * j + 2) / 3 = j by omega, show (3 * j + 2) % 3 = 2 by omega, hg]
      rw [hp]
      constructor
      · intro he
        have hlt : b[j] < 125 := by
          have : (if 3 * j < N then dg b[j] 0 else 0) ≤ 4 := by split <;> omega
          have : (if 3 * j + 1 < N then dg b[j] 1 else 0) ≤ 4 := by split <;> omega
          have : (if 3 * j + 2 < N then dg b[j] 2 else 0) ≤ 4 := by split <;> omega
          omega
        refine ⟨hlt, fun r hr hN => ?_⟩
        have hdiv : b[j] / 125 = 0 := by omega
        rw [hdiv] at hs
        have hrr : r = 0 ∨ r = 1 ∨ r = 2 := by omega
        rcases hrr with rfl | rfl | rfl
        · rw [if_neg (by omega), if_neg (by omega), if_neg (by omega)] at he; omega
        · rw [if_neg (show ¬ 3 * j + 1 < N by omega), if_neg (show ¬ 3 * j + 2 < N by omega)] at he
          split at he <;> omega
        · rw [if_neg (show ¬ 3 * j + 2 < N by omega)] at he
          repeat' split at he
          all_goals omega
      · rintro ⟨hlt, hz⟩
        have hdiv : b[j] / 125 = 0 := by omega
        rw [hdiv] at hs
        have z0 : (if 3 * j < N then dg b[j] 0 else 0) = dg b[j] 0 := by
          split
          · rfl
          · exact (hz 0 (by omega) (by omega)).symm
        have z1 : (if 3 * j + 1 < N then dg b[j] 1 else 0) = dg b[j] 1 := by
          split
          · rfl
          · exact (hz 1 (by omega) (by omega)).symm
        have z2 : (if 3 * j + 2 < N then dg b[j] 2 else 0) = dg b[j] 2 := by
          split
          · rfl
          · exact (hz 2 (by omega) (by omega)).symm
        rw [z0, z1, z2]
        omega
    rw [iter_idx b.length (fun i => i) (fun j => if (pack out)[j]? = b[j]? then none else some (([], 12) : List Int × Int)) ()]
    · have hfind : (List.range b.length).findSome? (fun j => if (pack out)[j]? = b[j]? then none else some (([], 12) : List Int × Int)) =
          if b.any (fun x => decide (125 ≤ x)) = true ∨ ((unp b).drop N).any (fun x => decide (x ≠ 0)) = true then some ([], 12) else none := by
        have hiff : (∃ j, j < b.length ∧ (pack out)[j]? ≠ b[j]?) ↔ b.any (fun x => decide (125 ≤ x)) = true ∨ ((unp b).drop N).any (fun x => decide (x ≠ 0)) = true := by
          constructor
          · rintro ⟨j, hj, hne⟩
            rw [hpj j hj, List.getElem?_eq_getElem hj] at hne
            have hne' : ¬ pkAt out j = b[j] := fun e => hne (by rw [e])
            rw [hmatch j hj] at hne'
            by_cases hlt : b[j] < 125
            · right
              have : ∃ r, r < 3 ∧ N ≤ 3 * j + r ∧ dg b[j] r ≠ 0 := by
                apply Classical.byContradiction
                intro hall
                exact hne' ⟨hlt, fun r hr hN => Classical.byContradiction fun hz => hall ⟨r, hr, hN, hz⟩⟩
              obtain ⟨r, hr, hN, hz⟩ := this
              rw [List.any_eq_true]
              refine ⟨U b (3 * j + r), ?_, ?_⟩
              · rw [List.mem_iff_getElem?]
                refine ⟨3 * j + r - N, ?_⟩
                rw [List.getElem?_drop, show N + (3 * j + r - N) = 3 * j + r by omega]
                simp only [unp, List.getElem?_map]
                rw [List.getElem?_range (by omega)]
                rfl
              · simp only [ne_eq, decide_eq_true_eq]
                unfold U
                rw [show (3 * j + r) / 3 = j by omega, show (3 * j + r) % 3 = r by omega]
                have hg : b.getD j 0 = b[j] := by simp [List.getD_eq_getElem?_getD, hj]
                rw [hg, sv_zero (dg_range _ _).1 (dg_range _ _).2]
                exact hz
            · left
              rw [List.any_eq_true]
              exact ⟨b[j], List.getElem_mem hj, by simp; omega⟩
          · rintro (h | h)
            · rw [List.any_eq_true] at h
              obtain ⟨x, hx, hge⟩ := h
              obtain ⟨j, hj, rfl⟩ := List.getElem_of_mem hx
              refine ⟨j, hj, fun e => ?_⟩
              rw [hpj j hj, List.getElem?_eq_getElem hj] at e
              have := (hmatch j hj).1 (Option.some.inj e)
              simp at hge
              omega
            · rw [List.any_eq_true] at h
              obtain ⟨x, hx, hne⟩ := h
              obtain ⟨k, hk⟩ := List.mem_iff_getElem?.1 hx
              rw [List.getElem?_drop] at hk
              have hlt : N + k < 3 * b.length := by
                have := (List.getElem?_eq_some_iff.1 hk).1
                simpa [unp] using this
              have hxk : x = U b (N + k) := by
                simp only [unp, List.getElem?_map] at hk
                rw [List.getElem?_range hlt] at hk
                exact (Option.some.inj hk).symm
              have hj : (N + k) / 3 < b.length := by omega
              refine ⟨(N + k) / 3, hj, fun e => ?_⟩
              rw [hpj _ hj, List.getElem?_eq_getElem hj] at e
              have := ((hmatch _ hj).1 (Option.some.inj e)).2 ((N + k) % 3) (by omega) (by omega)
              simp only [ne_eq, decide_eq_true_eq] at hne
              apply hne
              rw [hxk]
              unfold U
              have hg : b.getD ((N + k) / 3) 0 = b[(N + k) / 3] := by simp [List.getD_eq_getElem?_getD, hj]
              rw [hg, this]
              rfl
        by_cases hc : b.any (fun x => decide (125 ≤ x)) = true ∨ ((unp b).drop N).any (fun x => decide (x ≠ 0)) = true
        · rw [if_pos hc]
          obtain ⟨j, hj, hne⟩ := hiff.2 hc
          cases hf : (List.range b.length).findSome? (fun j => if (pack out)[j]? = b[j]? then none else some (([], 12) : List Int × Int)) with
          | none =>
            rw [List.findSome?_eq_none_iff] at hf
            have := hf j (by simpa using hj)
            rw [if_neg hne] at this
            cases this
          | some v =>
            obtain ⟨i, _, hv⟩ := List.exists_of_findSome?_eq_some hf
            split at hv
            · cases hv
            · exact hv.symm ▸ rfl
        · rw [if_neg hc, List.findSome?_eq_none_iff]
          intro j hj
          simp only [List.mem_range] at hj
          by_cases he : (pack out)[j]? = b[j]?
          · rw [if_pos he]
          · exact absurd (hiff.1 ⟨j, hj, he⟩) hc
      rw [hfind]
      by_cases h4 : b.any (fun x => decide (125 ≤ x)) = true
      · rw [if_pos (.inl h4), if_pos h4]
        simp [fin]
      · rw [if_neg h4]
        by_cases h5 : ((unp b).drop N).any (fun x => decide (x ≠ 0)) = true
        · rw [if_pos (.inr h5), if_pos h5]
          simp [fin]
        · rw [if_neg (fun h => h.elim h4 h5), if_neg h5]
          simp only [Option.bind_some, fin, ref13_Unpack.k29]
          congr 2
          rw [ho]
          unfold unp
          rw [← List.map_take, List.take_range]
          congr 2
          omega
    · intro i hi
      unfold ref13_Unpack.s28
      simp only []
      rw [ix_at hi, ix_at (show i < (pack out).length by omega), List.getElem?_eq_getElem hi, List.getElem?_eq_getElem (show i < (pack out).length by omega)]
      simp only [decide_eq_true_eq, if_pos (show (i : Int) < (b.length : Int) by omega), if_pos (show (0 : Int) ≤ i ∧ (i : Int) < (b.length : Int) by omega), if_pos (show (0 : Int) ≤ i ∧ (i : Int) < ((pack out).length : Int) by omega)]
      rw [w64_id (by omega) (by omega)]
      by_cases he : (pack out)[i]'(by omega) = b[i] <;> simp [he]
    · simp [ref13_Unpack.s28]
  · have h3' : ¬ (b.length : Int) = (((N + 2) / 3 : Nat) : Int) := by omega
    rw [if_pos (by simp only [h3', decide_false, Bool.not_false]), if_pos h3]
end Go.Proofs.Ytlemaejpllhjnaa.M
