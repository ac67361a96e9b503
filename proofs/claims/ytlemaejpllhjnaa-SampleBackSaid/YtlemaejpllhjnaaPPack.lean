/- Packing and unpacking of streams: what the code and the reference come to. -/
import Derived.Test.YtlemaejpllhjnaaPSamp
set_option linter.unusedVariables false
set_option linter.unusedSimpArgs false
set_option maxRecDepth 100000
namespace Go.Proofs.Ytlemaejpllhjnaa.M
open Go.GW Go.Proofs

theorem wu8_id {x : Int} (h1 : 0 ≤ x) (h2 : x ≤ 255) : wu8 x = x := by
  unfold wu8 IntKind.wrap
  simp [IntKind.bits, IntKind.signed]
  omega

def Dg (s : List Int) (i : Nat) : Int := match s[i]? with | some x => dig x | none => 0
def pkAt (s : List Int) (j : Nat) : Int := Dg s (3 * j) + 5 * Dg s (3 * j + 1) + 25 * Dg s (3 * j + 2)
def pack (s : List Int) : List Int := (List.range ((s.length + 2) / 3)).map (pkAt s)
def Good (s : List Int) : Prop := ∀ x ∈ s, 0 ≤ dig x

theorem Dg_range {s : List Int} (h : Good s) (i : Nat) : 0 ≤ Dg s i ∧ Dg s i ≤ 4 := by
  unfold Dg
  cases hx : s[i]? with
  | none => simp
  | some x => exact ⟨h x (List.mem_of_getElem? hx), (dig_range x).2⟩
theorem pkAt_range {s : List Int} (h : Good s) (j : Nat) : 0 ≤ pkAt s j ∧ pkAt s j ≤ 124 := by
  have h0 := Dg_range h (3 * j); have h1 := Dg_range h (3 * j + 1); have h2 := Dg_range h (3 * j + 2)
  unfold pkAt
  omega

theorem y1_step (x : List Int) (b : Int) (i : Nat) (h : i < x.length) (hb : 0 ≤ b) (hb2 : b ≤ 124) (hl : x.length ≤ 1000) : sample_Pack.y1.s1 x b i = some (.next (5 * b + dig x[i], (i : Int) - 1)) := by
  have hr := dig_range x[i]
  unfold sample_Pack.y1.s1
  rw [ix_at h, samp_digit]
  simp only [decide_eq_true_eq, if_pos (show (0 : Int) ≤ i by omega), if_pos (show (0 : Int) ≤ i ∧ (i : Int) < (x.length : Int) by omega), Option.bind_some, lt']
  rw [w64_id (x := 5 * b) (by omega) (by omega), w64_id (by omega) (by omega), w64_id (by omega) (by omega)]
theorem y1_next (x : List Int) (b : Int) (i : Nat) (h : i < x.length) (hb : 0 ≤ b) (hb2 : b ≤ 124) (hl : x.length ≤ 1000) :
    iter (fun (s : (Int × Int)) => sample_Pack.y1.s1 x s.1 s.2) (b, (i : Int)) = iter (fun (s : (Int × Int)) => sample_Pack.y1.s1 x s.1 s.2) (5 * b + dig x[i], (i : Int) - 1) := iter_next (y1_step x b i h hb hb2 hl)
theorem y1_stop (x : List Int) (b : Int) : iter (fun (s : (Int × Int)) => sample_Pack.y1.s1 x s.1 s.2) (b, -1) = some (.brk b) := by
  refine iter_brk ?_
  unfold sample_Pack.y1.s1
  simp

theorem y1_eq (out x : List Int) (h1 : 1 ≤ x.length) (h3 : x.length ≤ 3) (hg : Good x) (ho : out.length ≤ 1000) : sample_Pack.y1 out x = some (0, out ++ [pkAt x 0]) := by
  have fin1 : ∀ v : Int, 0 ≤ v → v ≤ 124 → sample_Pack.y1.k2 out v = some (0, out ++ [v]) := by
    intro v h0 h4
    unfold sample_Pack.y1.k2
    rw [if_pos (by simp; omega), wu8_id h0 (by omega)]
  have hr := pkAt_range hg 0
  unfold sample_Pack.y1 lt'
  match x, h1, h3, hg, hr with
  | [a], _, _, hg, hr =>
    have e1 : w64 ((([a] : List Int).length : Int) - 1) = ((0 : Nat) : Int) := by simp; exact w64_id (by omega) (by omega)
    have hp : pkAt [a] 0 = 5 * 0 + dig a := by simp [pkAt, Dg]
    rw [hp] at hr ⊢
    simp only [e1]
    rw [y1_next [a] 0 0 (by simp) (by omega) (by omega) (by simp), show (((0 : Nat) : Int) - 1) = -1 by rfl, y1_stop]
    simp only [Option.bind_some, fin]
    exact fin1 _ hr.1 hr.2
  | [a, b], _, _, hg, hr =>
    have hb := hg b (by simp); have hb2 := dig_range b
    have e1 : w64 ((([a, b] : List Int).length : Int) - 1) = ((1 : Nat) : Int) := by simp; exact w64_id (by omega) (by omega)
    have hp : pkAt [a, b] 0 = 5 * (5 * 0 + dig b) + dig a := by simp [pkAt, Dg]; omega
    rw [hp] at hr ⊢
    simp only [e1]
    rw [y1_next [a, b] 0 1 (by simp) (by omega) (by omega) (by simp), show (((1 : Nat) : Int) - 1) = ((0 : Nat) : Int) by omega, y1_next [a, b] _ 0 (by simp) (by simp; omega) (by simp; omega) (by simp), show (((0 : Nat) : Int) - 1) = -1 by rfl, y1_stop]
    simp only [Option.bind_some, fin]
    exact fin1 _ hr.1 hr.2
  | [a, b, c], _, _, hg, hr =>
    have hb := hg b (by simp); have hb2 := dig_range b
    have hc := hg c (by simp); have hc2 := dig_range c
    have e1 : w64 ((([a, b, c] : List Int).length : Int) - 1) = ((2 : Nat) : Int) := by simp; exact w64_id (by omega) (by omega)
    have hp : pkAt [a, b, c] 0 = 5 * (5 * (5 * 0 + dig c) + dig b) + dig a := by simp [pkAt, Dg]; omega
    rw [hp] at hr ⊢
    simp only [e1]
    rw [y1_next [a, b, c] 0 2 (by simp) (by omega) (by omega) (by simp), show (((2 : Nat) : Int) - 1) = ((1 : Nat) : Int) by omega, y1_next [a, b, c] _ 1 (by simp) (by simp; omega) (by simp; omega) (by simp),
      show (((1 : Nat) : Int) - 1) = ((0 : Nat) : Int) by omega, y1_next [a, b, c] _ 0 (by simp) (by simp; omega) (by simp; omega) (by simp), show (((0 : Nat) : Int) - 1) = -1 by rfl, y1_stop]
    simp only [Option.bind_some, fin]
    exact fin1 _ hr.1 hr.2

theorem Dg_cut (s : List Int) (k e j : Nat) (he : k + j < e ∨ s.length ≤ k + j) : Dg ((s.take e).drop k) j = Dg s (k + j) := by
  unfold Dg
  rw [List.getElem?_drop, List.getElem?_take]
  rcases he with h | h
  · rw [if_pos h]
  · rw [List.getElem?_eq_none h, show (if k + j < e then (none : Option Int) else none) = none by split <;> rfl]

theorem chunk_iter (s : List Int) (hl : s.length ≤ 256) (hg : Good s) : ∀ m k : Nat, s.length - 3 * k ≤ m → 3 * k ≤ s.length + 2 →
    iter (fun (t : (Int × (List Int))) => slices_Chunk__int_int_1__sample_Pack_y1.s1 s 3 t.1 t.2) (((3 * k : Nat) : Int), (List.range k).map (pkAt s)) = some (.brk (pack s)) := by
  intro m
  induction m with
  | zero =>
    intro k h1 h2
    have hk : k = (s.length + 2) / 3 := by omega
    rw [iter_brk (t := pack s)]
    simp only [slices_Chunk__int_int_1__sample_Pack_y1.s1]
    rw [if_neg (by simp; omega)]
    subst hk
    rfl
  | succ m ih =>
    intro k h1 h2
    by_cases hlt : 3 * k < s.length
    · have hlen : (((s.take s.length).drop (((3 * k : Nat) : Int).toNat)).length : Int) = (s.length : Int) - (3 * k : Nat) := by
        simp only [List.take_length, List.length_drop, Int.toNat_natCast]
        omega
      obtain ⟨e, he⟩ : ∃ e : Nat, e = min (3 * k + 3) s.length := ⟨_, rfl⟩
      have hgm : w64 (((3 * k : Nat) : Int) + (gmin 3 (((s.take s.length).drop (((3 * k : Nat) : Int).toNat)).length : Int))) = (e : Int) := by
        rw [hlen]
        unfold gmin
        split
        · rw [w64_id (by omega) (by omega)]; omega
        · rw [w64_id (by omega) (by omega)]; omega
      have hcut : Good ((s.take e).drop (3 * k)) := fun x hx => hg x (List.mem_of_mem_take (List.mem_of_mem_drop hx))
      have hy : sample_Pack.y1 ((List.range k).map (pkAt s)) ((s.take e).drop (3 * k)) = some (0, (List.range (k + 1)).map (pkAt s)) := by
        rw [y1_eq _ _ (by simp; omega) (by simp; omega) hcut (by simp; omega)]
        rw [List.range_succ, List.map_append]
        congr 3
        simp only [List.map_cons, List.map_nil, pkAt, Nat.mul_zero, Nat.zero_add]
        rw [Dg_cut s (3 * k) e 0 (by omega), Dg_cut s (3 * k) e 1 (by omega), Dg_cut s (3 * k) e 2 (by omega)]
        rfl
      rw [iter_next (s' := (((3 * (k + 1) : Nat) : Int), (List.range (k + 1)).map (pkAt s)))]
      · exact ih (k + 1) (by omega) (by omega)
      · simp only [slices_Chunk__int_int_1__sample_Pack_y1.s1]
        rw [hgm]
        rw [if_pos (by simp; omega), if_pos (by omega), if_pos (by omega)]
        simp only [Int.toNat_natCast]
        rw [hy]
        simp only [Option.bind_some, decide_true, if_true, lt']
        rw [w64_id (by omega) (by omega), show (((3 * k : Nat) : Int) + 3) = ((3 * (k + 1) : Nat) : Int) by omega]
    · have hk : k = (s.length + 2) / 3 := by omega
      rw [iter_brk (t := pack s)]
      simp only [slices_Chunk__int_int_1__sample_Pack_y1.s1]
      rw [if_neg (by simp; omega)]
      subst hk
      rfl

def packs (s : List Int) : List Int × Int := if chk s = 0 then (pack s, 0) else ([], chk s)
theorem samp_pack (s : List Int) : sample_Pack.f s = some (packs s) := by
  unfold sample_Pack.f packs
  rw [samp_check]
  by_cases h : chk s = 0
  · obtain ⟨h1, h2⟩ := chk_ok h
    simp only [Option.bind_some, h, decide_true, Bool.not_true, Bool.false_eq_true, if_false, if_true]
    unfold slices_Chunk__int_int.f
    rw [if_neg (by simp)]
    simp only [Option.bind_some]
    unfold slices_Chunk__int_int_1__sample_Pack_y1.f
    have := chunk_iter s h1 h2 s.length 0 (by omega) (by omega)
    simp only [List.range_zero, List.map_nil, Nat.mul_zero, Int.natCast_zero] at this
    rw [this]
    simp [fin, slices_Chunk__int_int_1__sample_Pack_y1.k2]
  · simp [h]

/-! ### The reference's packing -/
def Pa (s : List Int) (i j : Nat) : Int := (if 3 * j < i then Dg s (3 * j) else 0) + 5 * (if 3 * j + 1 < i then Dg s (3 * j + 1) else 0) + 25 * (if 3 * j + 2 < i then Dg s (3 * j + 2) else 0)
theorem Pa_range {s : List Int} (h : Good s) (i j : Nat) : 0 ≤ Pa s i j ∧ Pa s i j ≤ 124 := by
  have h0 := Dg_range h (3 * j); have h1 := Dg_range h (3 * j + 1); have h2 := Dg_range h (3 * j + 2)
  unfold Pa
  repeat' split
  all_goals omega
def pw (i : Nat) : Int := if i % 3 = 0 then 1 else if i % 3 = 1 then 5 else 25
theorem Pa_succ (s : List Int) (i j : Nat) : Pa s (i + 1) j = if j = i / 3 then Pa s i j + pw i * Dg s i else Pa s i j := by
  unfold Pa pw
  have h3 : i % 3 = 0 ∨ i % 3 = 1 ∨ i % 3 = 2 := by omega
  by_cases hj : j = i / 3
  · subst hj
    rw [if_pos rfl]
    rcases h3 with h | h | h
    · have e : 3 * (i / 3) = i := by omega
      have e1 : ¬ i + 1 < i := by omega
      have e2 : ¬ i + 2 < i := by omega
      simp only [e, h, e1, e2]
      simp
    · have e : 3 * (i / 3) + 1 = i := by omega
      have e0 : 3 * (i / 3) < i := by omega
      have e1 : 3 * (i / 3) < i + 1 := by omega
      have e2 : ¬ 3 * (i / 3) + 2 < i := by omega
      have e3 : ¬ 3 * (i / 3) + 2 < i + 1 := by omega
      simp only [e, h, e0, e1, e2, e3]
      simp
    · have e : 3 * (i / 3) + 2 = i := by omega
      have e0 : 3 * (i / 3) < i := by omega
      have e1 : 3 * (i / 3) < i + 1 := by omega
      have e2 : 3 * (i / 3) + 1 < i := by omega
      have e3 : 3 * (i / 3) + 1 < i + 1 := by omega
      simp only [e, h, e0, e1, e2, e3]
      simp
  · rw [if_neg hj]
    have g1 : (3 * j < i + 1) = (3 * j < i) := by simp; omega
    have g2 : (3 * j + 1 < i + 1) = (3 * j + 1 < i) := by simp only [eq_iff_iff]; omega
    have g3 : (3 * j + 2 < i + 1) = (3 * j + 2 < i) := by simp only [eq_iff_iff]; omega
    simp only [g1, g2, g3]

theorem tdiv3 (i : Nat) (h : i ≤ 1000000) : w64 (Int.tdiv (i : Int) 3) = ((i / 3 : Nat) : Int) := by
  rw [show (3 : Int) = ((3 : Nat) : Int) by rfl, ← Int.ofNat_tdiv]
  exact w64_id (by omega) (by omega)

end Go.Proofs.Ytlemaejpllhjnaa.M
