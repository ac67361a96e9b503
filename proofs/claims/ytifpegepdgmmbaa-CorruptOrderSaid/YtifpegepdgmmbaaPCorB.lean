/- Tables of valid events: they come, and tell what their events are worth. -/
import Derived.Test.YtifpegepdgmmbaaPCorA
set_option linter.unusedVariables false
set_option linter.unusedSimpArgs false
set_option maxRecDepth 100000
namespace Go.Proofs.Ytifpegepdgmmbaa.M
open Go.GW Go.Proofs
/-- A loop over places: it ends, each place having passed, or returns. -/
theorem iter_scan {r : Type} {f : Int → Option (St Int Unit r)} (n : Nat) (P : Nat → Prop) (R : r → Prop) (hs : ∀ i : Nat, i < n → (f (i : Int) = some (.next ((i + 1 : Nat) : Int)) ∧ P i) ∨ ∃ v, f (i : Int) = some (.ret v) ∧ R v) (he : f (n : Int) = some (.brk ())) :
    ∀ (k i : Nat), i + k = n → (iter f (i : Int) = some (.brk ()) ∧ ∀ j, i ≤ j → j < n → P j) ∨ ∃ v, iter f (i : Int) = some (.ret v) ∧ R v
  | 0, i, h => by
    have hi : i = n := by omega
    subst hi
    exact .inl ⟨iter_brk he, fun j h1 h2 => by omega⟩
  | k + 1, i, h => by
    rcases hs i (by omega) with ⟨h1, h2⟩ | ⟨v, h1, h2⟩
    · rw [iter_next h1]
      rcases iter_scan n P R hs he k (i + 1) (by omega) with ⟨h3, h4⟩ | h3
      · refine .inl ⟨h3, fun j hj1 hj2 => ?_⟩
        by_cases hj : j = i
        · rw [hj]; exact h2
        · exact h4 j (by omega) hj2
      · exact .inr h3
    · exact .inr ⟨v, iter_ret h1, h2⟩
theorem wsuc {i : Nat} (h : i ≤ 1000000000000000000) : w64 ((i : Int) + 1) = ((i + 1 : Nat) : Int) := by rw [w64_id (by omega) (by omega)]; push_cast; rfl
theorem rep_c : slices_Repeat__api_Cx_api_Cx.f_c [⟨1, 0, 1⟩] 8 = some (List.replicate 8 ⟨1, 0, 1⟩) := by kernel_rfl
theorem rep_eq : slices_Repeat__api_Cx_api_Cx.f [⟨1, 0, 1⟩] 8 = some (List.replicate 8 ⟨1, 0, 1⟩) := slices_Repeat__api_Cx_api_Cx.f_le _ _ _ rep_c

/-! ### Valid events -/
structure Ev (x : Spoil) : Prop where
  s0 : 0 ≤ x.Station
  s1 : x.Station < 8
  f0 : 0 ≤ x.From
  ft : x.From ≤ x.To
  t1 : x.To ≤ 32
  kinds : (x.Kind = 1 ∧ ¬ badCx x.V) ∨ (x.Kind = 2 ∨ x.Kind = 3) ∧ 0 ≤ x.Q ∧ x.Q < 4
theorem ev_k2 (x : Spoil) (b : Bool) : corrupt_valid.k2 x b = some false ∨ corrupt_valid.k2 x b = some true ∧ b = true ∧ 0 ≤ x.Q ∧ x.Q < 4 := by
  unfold corrupt_valid.k2
  cases b
  · left; simp
  · by_cases h1 : x.V = ⟨0, 0, 0⟩
    · by_cases h2 : 0 ≤ x.Q
      · by_cases h3 : x.Q < 4
        · right; exact ⟨by simp [h1, h2, h3], rfl, h2, h3⟩
        · left; simp [h1, h2, h3]
      · left; simp [h1, h2]
    · left; simp [h1]
theorem ev_k1 (x : Spoil) : corrupt_valid.k1 x false = some false ∨ corrupt_valid.k1 x false = some true ∧ ((x.Kind = 1 ∧ ¬ badCx x.V) ∨ (x.Kind = 2 ∨ x.Kind = 3) ∧ 0 ≤ x.Q ∧ x.Q < 4) := by
  unfold corrupt_valid.k1
  simp only [Bool.false_eq_true, if_false, cx_check_eq, Option.bind_some]
  by_cases h1 : x.Kind = 1
  · simp only [h1, decide_true, if_true]
    by_cases h2 : x.Q = 0
    · simp only [h2, decide_true, if_true]
      rcases chk_cases x.V with ⟨h3, hg⟩ | ⟨h3, hg⟩
      · simp only [h3, decide_true, if_true]
        by_cases h4 : x.V.Re = 0
        · by_cases h5 : x.V.Im = 0
          · left; simp [h4, h5]
          · right; exact ⟨by simp [h4, h5], .inl ⟨trivial, hg⟩⟩
        · right; exact ⟨by simp [h4], .inl ⟨trivial, hg⟩⟩
      · left; simp [h3]
    · left; simp [h2]
  · simp only [h1, decide_false, Bool.false_eq_true, if_false]
    by_cases h2 : x.Kind = 2
    · simp only [h2, decide_true, if_true]
      rcases ev_k2 x true with h | ⟨h, _, h3⟩
      · exact .inl h
      · exact .inr ⟨h, .inr ⟨.inl trivial, h3⟩⟩
    · simp only [h2, decide_false, Bool.false_eq_true, if_false]
      rcases ev_k2 x (decide (x.Kind = 3)) with h | ⟨h, h4, h3⟩
      · exact .inl h
      · exact .inr ⟨h, .inr ⟨.inr (of_decide_eq_true h4), h3⟩⟩
theorem ev_cases (x : Spoil) : corrupt_valid.f x = some false ∨ corrupt_valid.f x = some true ∧ Ev x := by
  have hf : corrupt_valid.k1 x true = some false := by simp [corrupt_valid.k1]
  unfold corrupt_valid.f
  by_cases h1 : x.Station < 0
  · left; simp only [h1, decide_true, if_true, hf]
  by_cases h2 : 8 ≤ x.Station
  · left; simp only [h1, h2, decide_true, decide_false, Bool.false_eq_true, if_false, if_true, hf]
  by_cases h3 : x.From < 0
  · left; simp only [h1, h2, h3, decide_true, decide_false, Bool.false_eq_true, if_false, if_true, hf]
  by_cases h4 : x.To < x.From
  · left; simp only [h1, h2, h3, h4, decide_true, decide_false, Bool.false_eq_true, if_false, if_true, hf]
  by_cases h5 : 32 < x.To
  · left; simp only [h1, h2, h3, h4, h5, decide_true, decide_false, Bool.false_eq_true, if_false, if_true, hf]
  simp only [h1, h2, h3, h4, h5, decide_false, Bool.false_eq_true, if_false]
  rcases ev_k1 x with h | ⟨h, hk⟩
  · exact .inl h
  · exact .inr ⟨h, by omega, by omega, by omega, by omega, by omega, hk⟩
theorem ix_mem {α : Type} [Inhabited α] {l : List α} {i : Nat} (h : i < l.length) : ix l (i : Int) ∈ l := by
  rw [ix_at h]; exact List.getElem_mem h
theorem contains_cases (l : List Spoil) (hl : l.length ≤ 1000) : slices_ContainsFunc__api_Spoil_api_Spoil__corrupt_Table_1.f l = some true ∨ slices_ContainsFunc__api_Spoil_api_Spoil__corrupt_Table_1.f l = some false ∧ ∀ x ∈ l, Ev x := by
  have h := iter_scan (r := Int) (f := fun s => slices_IndexFunc__api_Spoil_api_Spoil__corrupt_Table_1.s1 l s) l.length (fun i => Ev (ix l (i : Int))) (fun v => 0 ≤ v) (fun i hi => by
    show (slices_IndexFunc__api_Spoil_api_Spoil__corrupt_Table_1.s1 l (i : Int) = _ ∧ _) ∨ ∃ v, slices_IndexFunc__api_Spoil_api_Spoil__corrupt_Table_1.s1 l (i : Int) = _ ∧ _
    unfold slices_IndexFunc__api_Spoil_api_Spoil__corrupt_Table_1.s1 corrupt_Table_1.f
    rw [decide_eq_true (by omega), if_pos rfl, if_pos ⟨by omega, by omega⟩]
    rcases ev_cases (ix l (i : Int)) with h | ⟨h, e⟩
    · right; exact ⟨(i : Int), by rw [h]; rfl, by omega⟩
    · left; exact ⟨by rw [h, wsuc (by omega)]; rfl, e⟩) (by
    show slices_IndexFunc__api_Spoil_api_Spoil__corrupt_Table_1.s1 l (l.length : Int) = _
    unfold slices_IndexFunc__api_Spoil_api_Spoil__corrupt_Table_1.s1
    rw [decide_eq_false (by omega), if_neg Bool.false_ne_true]) l.length 0 (by omega)
  unfold slices_ContainsFunc__api_Spoil_api_Spoil__corrupt_Table_1.f slices_IndexFunc__api_Spoil_api_Spoil__corrupt_Table_1.f
  rcases h with ⟨h1, h2⟩ | ⟨v, h1, h2⟩
  · right
    refine ⟨?_, fun x hx => ?_⟩
    · refine (congrArg (fun o => Option.bind (Option.bind o _) _) h1).trans ?_
      rfl
    · obtain ⟨i, hi, rfl⟩ := List.getElem_of_mem hx
      have := h2 i (by omega) hi
      rw [ix_at hi] at this
      exact this
  · left
    refine (congrArg (fun o => Option.bind (Option.bind o _) _) h1).trans ?_
    show some (decide (0 ≤ v)) = some true
    rw [decide_eq_true h2]

/-! ### The table -/
/-- A table at a time tells what these events are worth. -/
def TabOk (l : List Spoil) (t : Int) (g : List Cx) : Prop := g.length = 8 ∧ ∀ i : Nat, i < 8 → IsQ (ix g (i : Int)) (wth l t i)
theorem ix_set' {xs : List Cx} {a i : Nat} (h : a < xs.length) (v : Cx) : ix (xs.set a v) (i : Int) = if a = i then v else ix xs (i : Int) := by
  by_cases hi : a = i
  · subst hi
    simp [ix, List.getD_eq_getElem?_getD, List.getElem?_set, h]
  · simp [ix, List.getD_eq_getElem?_getD, List.getElem?_set, hi]
theorem TabOk.idle {l : List Spoil} {x : Spoil} {t : Int} {g : List Cx} (h : TabOk l t g) (hx : evW x t = q2one) : TabOk (l ++ [x]) t g := by
  refine ⟨h.1, fun i hi => ?_⟩
  rw [wth_append, wth, wth, hx, q2_one]
  split <;> (rw [q2_one]; exact h.2 i hi)
theorem TabOk.put {l : List Spoil} {x : Spoil} {t : Int} {g : List Cx} {v : Cx} (h : TabOk l t g) {s : Nat} (hs : x.Station = (s : Int)) (hs8 : s < 8) (hv : IsQ v (q2mul (wth l t s) (evW x t))) : TabOk (l ++ [x]) t (g.set s v) := by
  refine ⟨by rw [List.length_set]; exact h.1, fun i hi => ?_⟩
  rw [wth_append, wth, wth, q2_one, ix_set' (by rw [h.1]; exact hs8), hs, Int.toNat_natCast]
  by_cases he : s = i
  · subst he
    rw [if_pos rfl, if_pos rfl]
    exact hv
  · rw [if_neg he, if_neg he, q2_one]
    exact h.2 i hi
theorem tab_step {l : List Spoil} {time : Int} (h0 : 0 ≤ time) (h1 : time < 32) (hl : l.length ≤ 8) (hv : ∀ x ∈ l, Ev x) {n : Nat} (hn : n < l.length) {g : List Cx} (hg : TabOk (l.take n) time g) :
    (∃ g', corrupt_table.s16 l time g (n : Int) = some (.next (g', ((n + 1 : Nat) : Int))) ∧ TabOk (l.take (n + 1)) time g') ∨ ∃ e, corrupt_table.s16 l time g (n : Int) = some (.ret ([], e)) ∧ ¬ e = 0 := by
  have htk : l.take (n + 1) = l.take n ++ [ix l (n : Int)] := by
    rw [List.take_add_one, List.getElem?_eq_getElem hn, ix_at hn]
    rfl
  have e := hv _ (ix_mem hn)
  rw [htk]
  have hw := wsuc (i := n) (by omega)
  have hk20 : ∀ g', corrupt_table.k20 (n : Int) g' = some (.next (g', ((n + 1 : Nat) : Int))) := fun g' => by unfold corrupt_table.k20; rw [hw]
  unfold corrupt_table.s16
  rw [decide_eq_true (show (n : Int) < (l.length : Int) by omega), if_pos rfl, if_pos ⟨by omega, by omega⟩]
  by_cases hout : time < (ix l (n : Int)).From ∨ (ix l (n : Int)).To ≤ time
  · left
    refine ⟨g, ?_, hg.idle (by unfold evW; rw [if_pos hout])⟩
    have hk : corrupt_table.k21 l time g (n : Int) true = some (.next (g, ((n + 1 : Nat) : Int))) := by unfold corrupt_table.k21; rw [if_pos rfl, hk20]
    by_cases h2 : time < (ix l (n : Int)).From
    · rw [decide_eq_true h2, if_pos rfl, hk]
    · rw [decide_eq_false h2, if_neg Bool.false_ne_true, decide_eq_true (show (ix l (n : Int)).To ≤ time by omega), hk]
  · rw [decide_eq_false (show ¬ time < (ix l (n : Int)).From by omega), if_neg Bool.false_ne_true, decide_eq_false (show ¬ (ix l (n : Int)).To ≤ time by omega)]
    unfold corrupt_table.k21
    rw [if_neg Bool.false_ne_true]
    generalize ix l (n : Int) = x at *
    obtain ⟨s0, s1, f0, ft, t1, kinds⟩ := e
    obtain ⟨s, hs⟩ : ∃ s : Nat, x.Station = (s : Int) := ⟨x.Station.toNat, by omega⟩
    have hgs := hg.2 s (by omega)
    have hgl := hg.1
    rw [if_pos ⟨s0, by omega⟩]
    rcases kinds with ⟨k1, hV⟩ | ⟨k2, q0, q1⟩
    · have hev : evW x time = (vr x.V, vi x.V) := by unfold evW; rw [if_neg hout, if_pos k1]
      rw [decide_eq_true k1, if_pos rfl, hs, cx_mul_eq, Option.bind_some]
      simp only [lt', Int.toNat_natCast]
      unfold corrupt_table.k22
      rcases mul_cases hgs.good hV with ⟨m1, _⟩ | m1
      · left
        refine ⟨_, by rw [m1, if_neg (by decide), hk20], hg.put hs (by omega) ?_⟩
        rw [hev]
        exact hgs.mul ⟨hV, rfl, rfl⟩ m1
      · right
        exact ⟨16, by rw [m1]; rfl, by decide⟩
    · obtain ⟨q, hq⟩ : ∃ q : Nat, x.Q = (q : Int) := ⟨x.Q.toNat, by omega⟩
      obtain ⟨d, hd⟩ : ∃ d : Nat, time - x.From = (d : Int) := ⟨(time - x.From).toNat, by omega⟩
      have hqd : q * d ≤ 3 * 31 := Nat.mul_le_mul (by omega) (by omega)
      have w2 : w64 (time - x.From) = (d : Int) := by rw [hd, w64_id (by omega) (by omega)]
      have hm : (q : Int) * (d : Int) = ((q * d : Nat) : Int) := by push_cast; rfl
      have w3 : w64 (((q * d : Nat) : Int)) = ((q * d : Nat) : Int) := w64_id (by omega) (by omega)
      have k1 : ¬ x.Kind = 1 := by omega
      rw [decide_eq_false k1, if_neg Bool.false_ne_true, hs, hq, w2, hm, w3]
      left
      by_cases k3 : x.Kind = 2
      · have hev : evW x time = iq q := by unfold evW; rw [if_neg hout, if_neg k1, if_pos k3, hq, Int.toNat_natCast]
        obtain ⟨b, hb1, hb2⟩ := turn_ok hgs (k := q) (by omega)
        rw [decide_eq_true k3, if_pos rfl, hb1, Option.bind_some]
        simp only [lt', Int.toNat_natCast]
        unfold corrupt_table.k22
        exact ⟨_, by rw [if_neg (by decide), hk20], hg.put hs (by omega) (by rw [hev]; exact hb2)⟩
      · have k4 : x.Kind = 3 := by omega
        have hev : evW x time = iq (q * d) := by unfold evW; rw [if_neg hout, if_neg k1, if_neg k3, hq, hd, Int.toNat_natCast, Int.toNat_natCast]
        obtain ⟨b, hb1, hb2⟩ := turn_ok hgs (k := q * d) (by omega)
        rw [decide_eq_false k3, if_neg Bool.false_ne_true, decide_eq_true k4, if_pos rfl, hb1, Option.bind_some]
        simp only [lt', Int.toNat_natCast]
        unfold corrupt_table.k22
        exact ⟨_, by rw [if_neg (by decide), hk20], hg.put hs (by omega) (by rw [hev]; exact hb2)⟩
end Go.Proofs.Ytifpegepdgmmbaa.M
