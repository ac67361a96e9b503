/- The plain law of CorruptTimes: an event acts between its times, by its number; a clock's event turns by more at each time. -/
import Derived.Test.YtifpegepdgmmbaaPCy
import Derived.Test.YtifpegepdgmmbaaC0
set_option linter.unusedVariables false
set_option linter.unusedSimpArgs false
set_option maxRecDepth 100000
namespace Go.Proofs.Ytifpegepdgmmbaa.M
open Go.GW Go.Proofs
theorem alive_c : law35_alive.f_c = some true := by kernel_rfl
theorem alive_eq : law35_alive.f = some true := law35_alive.f_le _ alive_c
theorem rep_c : slices_Repeat__api_Cx_api_Cx.f_c [⟨1, 0, 1⟩] 8 = some (List.replicate 8 ⟨1, 0, 1⟩) := by kernel_rfl
theorem rep_eq : slices_Repeat__api_Cx_api_Cx.f [⟨1, 0, 1⟩] 8 = some (List.replicate 8 ⟨1, 0, 1⟩) := slices_Repeat__api_Cx_api_Cx.f_le _ _ _ rep_c

/-! ### Quarter turns -/
def T (n : Nat) : Cx := if n % 4 = 0 then ⟨1, 0, 1⟩ else if n % 4 = 1 then ⟨0, 1, 1⟩ else if n % 4 = 2 then ⟨-1, 0, 1⟩ else ⟨0, -1, 1⟩
theorem T_eq {n m : Nat} (h : n % 4 = m % 4) : T n = T m := by unfold T; rw [h]
theorem turn_c : (List.range 128).all (fun k => decide (cx_Turn.f_c ⟨1, 0, 1⟩ (k : Int) = some (T k, 0))) = true := by kernel_rfl
theorem turn_eq (k : Nat) (h : k < 128) : cx_Turn.f ⟨1, 0, 1⟩ (k : Int) = some (T k, 0) :=
  cx_Turn.f_le _ _ _ (of_decide_eq_true (List.all_eq_true.1 turn_c k (List.mem_range.2 h)))
theorem rturn_c : (List.range 4).all (fun j => (List.range 4).all fun q => decide (ref25_Turn.f_c (T j) (q : Int) = some (T (j + q), 0))) = true := by kernel_rfl
theorem rturn_eq (n q : Nat) (hq : q < 4) : ref25_Turn.f (T n) (q : Int) = some (T (n + q), 0) := by
  have h1 := List.all_eq_true.1 rturn_c (n % 4) (List.mem_range.2 (Nat.mod_lt _ (by omega)))
  have h2 := of_decide_eq_true (List.all_eq_true.1 h1 q (List.mem_range.2 hq))
  have h3 := ref25_Turn.f_le _ _ _ h2
  rw [T_eq (n := n % 4) (m := n) (by omega), T_eq (n := n % 4 + q) (m := n + q) (by omega)] at h3
  exact h3

/-! ### Valid events -/
def Kinds (x : Spoil) : Prop := (x.Kind = 1 ∧ ¬ badCx x.V) ∨ (x.Kind = 2 ∨ x.Kind = 3) ∧ 0 ≤ x.Q ∧ x.Q < 4
theorem valid_k2 (x : Spoil) (b : Bool) : corrupt_valid.k2 x b = ref35_Event.k2 x b := by
  unfold corrupt_valid.k2 ref35_Event.k2
  rw [show decide (x.Q < 4) = decide (x.Q ≤ 3) from decide_eq_decide.2 (by omega)]
theorem valid_k1 (x : Spoil) (b : Bool) : corrupt_valid.k1 x b = ref35_Event.k1 x b := by
  unfold corrupt_valid.k1 ref35_Event.k1 ref25_Zero.f
  simp only [cx_check_eq, ref_check_eq, valid_k2, Option.bind_some]
  by_cases h : x.V.Re = 0 <;> simp [h]
theorem valid_eq (x : Spoil) : corrupt_valid.f x = ref35_Event.f x := by
  unfold corrupt_valid.f ref35_Event.f
  simp only [valid_k1]
theorem event_k2 (x : Spoil) (b : Bool) : ref35_Event.k2 x b = some false ∨ ref35_Event.k2 x b = some true ∧ b = true ∧ 0 ≤ x.Q ∧ x.Q < 4 := by
  unfold ref35_Event.k2
  cases b
  · left; simp
  · by_cases h1 : x.V = ⟨0, 0, 0⟩
    · by_cases h2 : 0 ≤ x.Q
      · by_cases h3 : x.Q ≤ 3
        · right; simp only [h1, h2, h3, decide_true, if_true, true_and]; omega
        · left; simp [h1, h2, h3]
      · left; simp [h1, h2]
    · left; simp [h1]
theorem event_k1 (x : Spoil) : ref35_Event.k1 x false = some false ∨ ref35_Event.k1 x false = some true ∧ Kinds x := by
  unfold ref35_Event.k1
  simp only [Bool.false_eq_true, if_false, ref_check_eq, Option.bind_some]
  by_cases h1 : x.Kind = 1
  · simp only [h1, decide_true, if_true]
    by_cases h2 : x.Q = 0
    · simp only [h2, decide_true, if_true]
      rcases chk_cases x.V with ⟨h3, hg⟩ | ⟨h3, hg⟩
      · simp only [h3, decide_true, if_true]
        unfold ref25_Zero.f
        by_cases h4 : x.V.Re = 0
        · simp only [h4, decide_true, if_true, Option.bind_some]
          by_cases h5 : x.V.Im = 0
          · left; simp [h5]
          · right; exact ⟨by simp [h5], .inl ⟨h1, hg⟩⟩
        · right; exact ⟨by simp [h4], .inl ⟨h1, hg⟩⟩
      · left; simp [h3]
    · left; simp [h2]
  · simp only [h1, decide_false, Bool.false_eq_true, if_false]
    by_cases h2 : x.Kind = 2
    · simp only [h2, decide_true, if_true]
      rcases event_k2 x true with h | ⟨h, _, h3⟩
      · exact .inl h
      · exact .inr ⟨h, .inr ⟨.inl h2, h3⟩⟩
    · simp only [h2, decide_false, Bool.false_eq_true, if_false]
      rcases event_k2 x (decide (x.Kind = 3)) with h | ⟨h, h4, h3⟩
      · exact .inl h
      · exact .inr ⟨h, .inr ⟨.inr (of_decide_eq_true h4), h3⟩⟩
structure Ev (x : Spoil) : Prop where
  s0 : 0 ≤ x.Station
  s1 : x.Station < 8
  f0 : 0 ≤ x.From
  ft : x.From ≤ x.To
  t1 : x.To ≤ 32
  kinds : Kinds x
theorem event_cases (x : Spoil) : ref35_Event.f x = some false ∨ ref35_Event.f x = some true ∧ Ev x := by
  have hf : ref35_Event.k1 x true = some false := by simp [ref35_Event.k1]
  unfold ref35_Event.f
  by_cases h1 : x.Station < 0
  · left; simp only [h1, decide_true, if_true, hf]
  by_cases h2 : 8 ≤ x.Station
  · left; simp only [h1, h2, decide_true, decide_false, Bool.false_eq_true, if_false, if_true, hf]
  by_cases h3 : x.From < 0
  · left; simp only [h1, h2, h3, decide_true, decide_false, Bool.false_eq_true, if_false, if_true, hf]
  by_cases h4 : x.To < x.From
  · left; simp only [h1, h2, h3, h4, decide_true, decide_false, Bool.false_eq_true, if_false, if_true, hf]
  by_cases h5 : 32 < x.To
  · left; simp only [h1, h2, h3, h4, h5, decide_true, decide_false, Bool.false_eq_true, if_false, if_true, hf]
  simp only [h1, h2, h3, h4, h5, decide_false, Bool.false_eq_true, if_false]
  rcases event_k1 x with h | ⟨h, hk⟩
  · exact .inl h
  · exact .inr ⟨h, by omega, by omega, by omega, by omega, by omega, hk⟩

/-! ### Tables of one event -/
abbrev ones : List Cx := List.replicate 8 ⟨1, 0, 1⟩
def tv (x : Spoil) (time : Int) : Cx := if time < x.From ∨ x.To ≤ time then ⟨1, 0, 1⟩ else if x.Kind = 1 then x.V else if x.Kind = 2 then T x.Q.toNat else T (x.Q.toNat * (time - x.From).toNat)
def tab (x : Spoil) (time : Int) : List Cx := ones.set x.Station.toNat (tv x time)
theorem tab_len (x : Spoil) (time : Int) : (tab x time).length = 8 := by simp [tab]
theorem ix_ones {s : Int} (h0 : 0 ≤ s) (h1 : s < 8) : ix ones s = ⟨1, 0, 1⟩ := by
  have : s.toNat < 8 := by omega
  simp [ix, List.getD_eq_getElem?_getD, List.getElem?_replicate, this]
theorem ix_tab {x : Spoil} (e : Ev x) (time : Int) : ix (tab x time) x.Station = tv x time := by
  have h0 := e.s0
  have h1 := e.s1
  have : x.Station.toNat < 8 := by omega
  simp [ix, tab, List.getD_eq_getElem?_getD, List.getElem?_set, this]
theorem ix_tab' {x : Spoil} (e : Ev x) (time : Int) {i : Int} (hi0 : 0 ≤ i) (hi1 : i < 8) (hne : ¬ i = x.Station) : ix (tab x time) i = ⟨1, 0, 1⟩ := by
  have h0 := e.s0
  have : i.toNat < 8 := by omega
  have hn : ¬ x.Station.toNat = i.toNat := by omega
  simp [ix, tab, List.getD_eq_getElem?_getD, List.getElem?_set, hn, List.getElem?_replicate, this]
theorem w1 : w64 (0 + 1) = 1 := by decide
theorem k22_ok (g : List Cx) : corrupt_table.k22 0 g 0 = some (.next (g, 1)) := by
  simp [corrupt_table.k22, corrupt_table.k20, show w64 1 = 1 by decide]
theorem k21_ok {x : Spoil} (e : Ev x) {time : Int} (h0 : x.From ≤ time) (h1 : time < x.To) : corrupt_table.k21 [x] time ones 0 false = some (.next (tab x time, 1)) := by
  obtain ⟨s0, s1, f0, ft, t1, hk⟩ := e
  have hix : ix [x] 0 = x := by simp [ix]
  have hout : ¬ (time < x.From ∨ x.To ≤ time) := by omega
  have hlen : (0 ≤ x.Station ∧ x.Station < ((ones.length : Nat) : Int)) := ⟨s0, by simp; exact s1⟩
  have w2 : w64 (time - x.From) = time - x.From := w64_id (by omega) (by omega)
  unfold corrupt_table.k21
  simp only [hix, Bool.false_eq_true, if_false, if_pos hlen, ix_ones s0 s1, w2]
  unfold tab tv
  rw [if_neg hout]
  rcases hk with ⟨k1, hg⟩ | ⟨k2, q0, q1⟩
  · simp only [k1, decide_true, if_true, cx_mul_eq, mul_one hg, Option.bind_some, lt', k22_ok]
  · obtain ⟨q, hq⟩ : ∃ q : Nat, x.Q = (q : Int) := ⟨x.Q.toNat, by omega⟩
    obtain ⟨d, hd⟩ : ∃ d : Nat, time - x.From = (d : Int) := ⟨(time - x.From).toNat, by omega⟩
    have hqd : q * d ≤ 3 * 31 := Nat.mul_le_mul (by omega) (by omega)
    have hm : x.Q * (time - x.From) = ((q * d : Nat) : Int) := by rw [hq, hd]; push_cast; rfl
    have w3 : w64 (((q * d : Nat) : Int)) = ((q * d : Nat) : Int) := w64_id (by omega) (by omega)
    rw [hm, w3, hq, hd, Int.toNat_natCast, Int.toNat_natCast]
    rcases k2 with k2 | k2
    · simp only [k2, show ¬ ((2 : Int) = 1) by decide, decide_false, decide_true, Bool.false_eq_true, if_false, if_true, turn_eq q (by omega), Option.bind_some, lt', k22_ok]
    · simp only [k2, show ¬ ((3 : Int) = 1) by decide, show ¬ ((3 : Int) = 2) by decide, decide_false, decide_true, Bool.false_eq_true, if_false, if_true, turn_eq (q * d) (by omega), Option.bind_some, lt', k22_ok]
theorem tab_out {x : Spoil} {time : Int} (h : time < x.From ∨ x.To ≤ time) : tab x time = ones := by
  unfold tab tv
  rw [if_pos h]
  exact List.set_replicate_self
theorem s16_ok {x : Spoil} (e : Ev x) (time : Int) : corrupt_table.s16 [x] time ones 0 = some (.next (tab x time, 1)) := by
  have hix : ix [x] 0 = x := by simp [ix]
  have hk : corrupt_table.k21 [x] time ones 0 true = some (.next (ones, 1)) := by simp [corrupt_table.k21, corrupt_table.k20, show w64 1 = 1 by decide]
  unfold corrupt_table.s16
  rw [if_pos (by simp), if_pos (by simp), hix]
  by_cases h1 : time < x.From
  · rw [if_pos (by simpa using h1), hk, tab_out (.inl h1)]
  · rw [if_neg (by simpa using h1)]
    by_cases h2 : x.To ≤ time
    · rw [decide_eq_true h2, hk, tab_out (.inr h2)]
    · rw [decide_eq_false h2, k21_ok e (by omega) (by omega)]
theorem table_ok {x : Spoil} (e : Ev x) (time : Int) : corrupt_table.f [x] time = some (tab x time, 0) := by
  unfold corrupt_table.f
  rw [rep_eq, Option.bind_some, iter_next (s' := (tab x time, 1)) (s16_ok e time), iter_brk (t := tab x time) (by simp [corrupt_table.s16])]
  rfl
theorem contains_ok {x : Spoil} (h : ref35_Event.f x = some true) : slices_ContainsFunc__api_Spoil_api_Spoil__corrupt_Table_1.f [x] = some false := by
  have h1 : corrupt_Table_1.f x = some false := by simp [corrupt_Table_1.f, valid_eq, h]
  have hix : ix [x] 0 = x := by simp [ix]
  unfold slices_ContainsFunc__api_Spoil_api_Spoil__corrupt_Table_1.f slices_IndexFunc__api_Spoil_api_Spoil__corrupt_Table_1.f
  rw [iter_next (s' := 1) (by unfold slices_IndexFunc__api_Spoil_api_Spoil__corrupt_Table_1.s1; rw [if_pos (by simp), if_pos (by simp), hix, h1, Option.bind_some, w1]; simp), iter_brk (t := ()) (by simp [slices_IndexFunc__api_Spoil_api_Spoil__corrupt_Table_1.s1])]
  simp [fin, slices_IndexFunc__api_Spoil_api_Spoil__corrupt_Table_1.k2]
theorem Table_ok {x : Spoil} (h : ref35_Event.f x = some true) (e : Ev x) {time : Int} (h0 : 0 ≤ time) (h1 : time < 32) : corrupt_Table.f [x] time = some (tab x time, 0) := by
  unfold corrupt_Table.f
  rw [if_neg (by simp; omega), decide_eq_false (by omega)]
  unfold corrupt_Table.k1
  rw [if_neg (by simp), if_neg (by simp), contains_ok h, Option.bind_some, if_neg (by simp), table_ok e]
  rfl

/-! ### The law -/
theorem loop6 {x : Spoil} (e : Ev x) (time : Int) (K : Option Bool) : ∀ (k i : Nat), i + k = 8 → ((iter (fun (s : Int) => law35_CorruptTimes.s6 x (tab x time, 0) ⟨1, 0, 1⟩ s) (i : Int)).bind fun o1 => fin o1 (fun (t : Unit) => K)) = K
  | 0, i, h => by
    rw [iter_brk (t := ()) (by unfold law35_CorruptTimes.s6; rw [if_neg (by simp [tab_len]; omega)])]
    rfl
  | k + 1, i, h => by
    have hw : w64 ((i : Int) + 1) = ((i + 1 : Nat) : Int) := by rw [w64_id (by omega) (by omega)]; push_cast; rfl
    rw [iter_next (s' := ((i + 1 : Nat) : Int)) ?_]
    · exact loop6 e time K k (i + 1) (by omega)
    · unfold law35_CorruptTimes.s6
      rw [if_pos (by simp [tab_len]; omega)]
      by_cases hi : (i : Int) = x.Station
      · rw [if_neg (by simp [hi])]
        simp [law35_CorruptTimes.k11, hw]
      · rw [if_pos (by simp [hi]), if_pos (by simp [tab_len]; omega), ix_tab' e time (by omega) (by omega) hi]
        simp [law35_CorruptTimes.k11, hw]
theorem k10_ok {x : Spoil} (e : Ev x) {time : Int} {n q : Nat} (hq : x.Q = (q : Int)) (hq4 : q < 4) (h1 : tv x time = T n) (h2 : tv x (time + 4) = T n) (h3 : tv x (time + 1) = T (n + q)) :
    law35_CorruptTimes.k10 x true (tab x time, 0) (tab x (time + 4), 0) (tab x (time + 1), 0) false = some true := by
  have hs : ∀ t, 0 ≤ x.Station ∧ x.Station < (((tab x t).length : Nat) : Int) := fun t => ⟨e.s0, by rw [tab_len]; exact e.s1⟩
  unfold law35_CorruptTimes.k10
  simp only [Bool.false_eq_true, if_false, ix_tab e, h1, h2, h3, hq, rturn_eq n q hq4, Option.bind_some, if_true, decide_true, if_pos (hs _)]
theorem k9_ok {x : Spoil} (h : ref35_Event.f x = some true) (e : Ev x) (hk : x.Kind = 3) (q0 : 0 ≤ x.Q) (q1 : x.Q < 4) {time : Int} (h0 : x.From ≤ time) (h1 : time < x.To) : law35_CorruptTimes.k9 x time true (tab x time, 0) false = some true := by
  have f0 := e.f0
  have t1 := e.t1
  have w4 : w64 (time + 4) = time + 4 := w64_id (by omega) (by omega)
  have w5 : w64 (time + 1) = time + 1 := w64_id (by omega) (by omega)
  unfold law35_CorruptTimes.k9
  rw [w4, w5, if_neg (by simp)]
  by_cases h4 : x.To ≤ time + 4
  · rw [if_pos (by simpa using h4)]
  · rw [if_neg (by simpa using h4), Table_ok h e (by omega) (by omega), Option.bind_some, Table_ok h e (by omega) (by omega), Option.bind_some, if_neg (by simp), if_neg (by simp), if_neg (by simp [tab_len])]
    have hb : (!decide ((((tab x (time + 1)).length : Nat) : Int) = (((tab x time).length : Nat) : Int))) = false := by simp [tab_len]
    show law35_CorruptTimes.k10 x true (tab x time, 0) (tab x (time + 4), 0) (tab x (time + 1), 0) (!decide ((((tab x (time + 1)).length : Nat) : Int) = (((tab x time).length : Nat) : Int))) = some true
    rw [hb]
    obtain ⟨q, hq⟩ : ∃ q : Nat, x.Q = (q : Int) := ⟨x.Q.toNat, by omega⟩
    obtain ⟨d, hd⟩ : ∃ d : Nat, time = x.From + (d : Int) := ⟨(time - x.From).toNat, by omega⟩
    have hv : ∀ j : Nat, x.From + ((d + j : Nat) : Int) < x.To → tv x (x.From + ((d + j : Nat) : Int)) = T (q * (d + j)) := by
      intro j hj
      unfold tv
      rw [if_neg (by omega), if_neg (by omega), if_neg (by omega), hq, Int.toNat_natCast, show x.From + ((d + j : Nat) : Int) - x.From = ((d + j : Nat) : Int) by omega, Int.toNat_natCast]
    refine k10_ok e (n := q * d) (q := q) hq (by omega) ?_ ?_ ?_
    · have := hv 0 (by omega)
      rw [hd]
      simpa using this
    · have := hv 4 (by omega)
      rw [hd, show x.From + (d : Int) + 4 = x.From + ((d + 4 : Nat) : Int) by omega, this]
      exact T_eq (by rw [Nat.mul_add]; omega)
    · have := hv 1 (by omega)
      rw [hd, show x.From + (d : Int) + 1 = x.From + ((d + 1 : Nat) : Int) by omega, this, Nat.mul_add, Nat.mul_one]
theorem k8_ok {x : Spoil} (h : ref35_Event.f x = some true) (e : Ev x) {time : Int} : law35_CorruptTimes.k8 x time true (tab x time, 0) ⟨1, 0, 1⟩ (decide (x.From ≤ time ∧ time < x.To)) = some true := by
  unfold law35_CorruptTimes.k8
  simp only [ix_tab e]
  by_cases hin : x.From ≤ time ∧ time < x.To
  · rw [decide_eq_true hin, if_neg (by simp)]
    obtain ⟨hi1, hi2⟩ := hin
    rcases e.kinds with ⟨k1, hg⟩ | ⟨k2, q0, q1⟩
    · have hv : tv x time = x.V := by unfold tv; rw [if_neg (by omega), if_pos k1]
      rw [if_pos (by simpa using k1), hv]
      simp
    · obtain ⟨q, hq⟩ : ∃ q : Nat, x.Q = (q : Int) := ⟨x.Q.toNat, by omega⟩
      rw [if_neg (by rw [decide_eq_true_eq]; omega)]
      rcases k2 with k2 | k2
      · have hv : tv x time = T q := by unfold tv; rw [if_neg (by omega), if_neg (by omega), if_pos k2, hq, Int.toNat_natCast]
        have hr : ref25_Turn.f ⟨1, 0, 1⟩ (q : Int) = some (T q, 0) := by
          have := rturn_eq 0 q (by omega)
          rw [Nat.zero_add] at this
          exact this
        rw [if_pos (by simpa using k2), hv, hq, hr]
        simp
      · rw [if_neg (by rw [decide_eq_true_eq]; omega)]
        by_cases ht : time = x.From
        · have hv : tv x time = ⟨1, 0, 1⟩ := by
            unfold tv
            rw [if_neg (by omega), if_neg (by omega), if_neg (by omega), show (time - x.From).toNat = 0 by omega, Nat.mul_zero]
            rfl
          rw [if_pos (by simpa using ht), hv]
          simp only [decide_true, Bool.not_true]
          exact k9_ok h e k2 q0 q1 hi1 hi2
        · rw [if_neg (by simpa using ht)]
          exact k9_ok h e k2 q0 q1 hi1 hi2
  · rw [decide_eq_false hin]
    have hv : tv x time = ⟨1, 0, 1⟩ := by unfold tv; rw [if_pos (by omega)]
    simp [hv]
theorem corruptTimes_law (x0 : Spoil) (k0 : ok_Spoil x0) (x1 : Int) (k1 : okInt .i64 x1) : law35_CorruptTimes.f x0 x1 = some true := by
  have hk1 : law35_CorruptTimes.k1 x0 x1 true true = some true := by simp [law35_CorruptTimes.k1]
  unfold law35_CorruptTimes.f
  rw [alive_eq, Option.bind_some]
  rcases event_cases x0 with h | ⟨h, e⟩
  · rw [h, Option.bind_some, if_pos (by simp), hk1]
  rw [h, Option.bind_some, if_neg (by simp)]
  by_cases h0 : x1 < 0
  · rw [if_pos (by simpa using h0), hk1]
  rw [if_neg (by simpa using h0)]
  by_cases h1 : 32 ≤ x1
  · rw [if_pos (by simpa using h1), hk1]
  rw [if_neg (by simpa using h1)]
  simp only [Bool.not_true]
  unfold law35_CorruptTimes.k1
  rw [if_neg (by simp), Table_ok h e (by omega) (by omega), Option.bind_some, if_neg (by simp)]
  have hb : (!decide ((((tab x0 x1).length : Nat) : Int) = 8)) = false := by simp [tab_len]
  show law35_CorruptTimes.k2 x0 x1 true (tab x0 x1, 0) (!decide ((((tab x0 x1).length : Nat) : Int) = 8)) = some true
  rw [hb]
  unfold law35_CorruptTimes.k2 ref26_One.f
  rw [if_neg (by simp), Option.bind_some]
  refine (loop6 e x1 (law35_CorruptTimes.k7 x0 x1 true (tab x0 x1, 0) ⟨1, 0, 1⟩) 8 0 rfl).trans ?_
  unfold law35_CorruptTimes.k7
  rw [if_pos ⟨e.s0, by show x0.Station < (((tab x0 x1).length : Nat) : Int); rw [tab_len]; exact e.s1⟩]
  by_cases hf : x0.From ≤ x1
  · rw [if_pos (by simpa using hf), show decide (x1 < x0.To) = decide (x0.From ≤ x1 ∧ x1 < x0.To) from decide_eq_decide.2 (by omega)]
    exact k8_ok h e
  · rw [if_neg (by simpa using hf), show false = decide (x0.From ≤ x1 ∧ x1 < x0.To) from (decide_eq_false (by omega)).symm]
    exact k8_ok h e
end Go.Proofs.Ytifpegepdgmmbaa.M
