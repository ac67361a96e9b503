/- The plain law of SampleTells: over the models, for every list. -/
import Derived.Test.YtlemaejpllhjnaaM0
import Derived.Test.YtlemaejpllhjnaaGp1
set_option linter.unusedVariables false
set_option linter.unusedSimpArgs false
set_option maxRecDepth 100000
namespace Go.Proofs.Ytlemaejpllhjnaa.M
open Go.GW Go.Proofs

def dig (x : Int) : Int := if x = 0 then 0 else if x = -3 then 1 else if x = -1 then 2 else if x = 1 then 3 else if x = 3 then 4 else -1

theorem ref_digit (x : Int) : ref13_Digit.f x = some (dig x) := by
  simp only [ref13_Digit.f, decide_eq_true_eq, dig]
  repeat' split
  all_goals rfl

theorem samp_digit (x : Int) : sample_digit.f x = some (dig x) := by
  simp only [sample_digit.f, slices_Index__int_int.f]
  rw [iter_findIdx [0, (-3), (-1), 1, 3] (fun i => i) (fun y => decide (x = y)) ()]
  · unfold dig
    by_cases h0 : x = 0
    · subst h0; rfl
    by_cases h1 : x = -3
    · subst h1; rfl
    by_cases h2 : x = -1
    · subst h2; rfl
    by_cases h3 : x = 1
    · subst h3; rfl
    by_cases h4 : x = 3
    · subst h4; rfl
    simp [h0, h1, h2, h3, h4, fin, slices_Index__int_int.k2]
  · intro i hi
    unfold slices_Index__int_int.s1
    rw [ix_at hi]
    have h1 : (i : Int) < (([0, (-3), (-1), 1, 3] : List Int).length : Int) := by omega
    have hl : ([0, (-3), (-1), 1, 3] : List Int).length = 5 := rfl
    simp only [decide_eq_true_eq, if_pos h1, if_pos (show (0 : Int) ≤ i ∧ (i : Int) < (([0, (-3), (-1), 1, 3] : List Int).length : Int) by omega)]
    rw [w64_id (by omega) (by omega)]
    split <;> rfl
  · rfl

theorem dig_range (x : Int) : -1 ≤ dig x ∧ dig x ≤ 4 := by unfold dig; repeat' split
                                                           all_goals omega
def bad (s : List Int) : Bool := s.any fun x => decide (dig x < 0)
def chk (s : List Int) : Int := if 256 < s.length then 4 else if bad s then 8 else 0

theorem samp_check (s : List Int) : sample_Check.f s = some (chk s) := by
  unfold sample_Check.f chk
  by_cases hl : 256 < s.length
  · have h : (256 : Int) < s.length := by omega
    simp [h, hl]
  · have h : ¬ (256 : Int) < s.length := by omega
    simp only [h, hl, decide_false, Bool.false_eq_true, if_false]
    unfold slices_ContainsFunc__int_int__sample_Check_1.f slices_IndexFunc__int_int__sample_Check_1.f
    rw [iter_findIdx s (fun i => i) (fun x => decide (dig x < 0)) ()]
    · unfold bad
      by_cases hb : s.any (fun x => decide (dig x < 0)) = true
      · simp only [if_pos hb, fin, Option.bind_some]
        have : (0 : Int) ≤ ((List.findIdx (fun x => decide (dig x < 0)) s : Nat) : Int) := by omega
        simp [this]
      · simp only [if_neg hb, fin, Option.bind_some, slices_IndexFunc__int_int__sample_Check_1.k2]
        simp
    · intro i hi
      unfold slices_IndexFunc__int_int__sample_Check_1.s1 sample_Check_1.f
      rw [ix_at hi, samp_digit]
      simp only [decide_eq_true_eq, if_pos (show (i : Int) < (s.length : Int) by omega), if_pos (show (0 : Int) ≤ i ∧ (i : Int) < (s.length : Int) by omega), Option.bind_some]
      rw [w64_id (by omega) (by omega)]
      split <;> rfl
    · simp [slices_IndexFunc__int_int__sample_Check_1.s1]

theorem ref_check (s : List Int) : ref13_Check.f s = some (chk s) := by
  unfold ref13_Check.f chk
  by_cases hl : 256 < s.length
  · have h : (256 : Int) < s.length := by omega
    simp [h, hl]
  · have h : ¬ (256 : Int) < s.length := by omega
    simp only [h, hl, decide_false, Bool.false_eq_true, if_false]
    rw [iter_find s (fun i => i) (fun x => if dig x < 0 then some 8 else none) ()]
    · have : s.findSome? (fun x => if dig x < 0 then some (8 : Int) else none) = if bad s then some 8 else none := by
        clear hl h
        unfold bad
        induction s with
        | nil => rfl
        | cons a l ih => 
          simp only [List.findSome?_cons, List.any_cons, ih]
          by_cases ha : dig a < 0 <;> simp [ha]
      rw [this]
      cases bad s <;> rfl
    · intro i hi
      unfold ref13_Check.s1
      rw [ix_at hi, ref_digit]
      simp only [decide_eq_true_eq, if_pos (show (i : Int) < (s.length : Int) by omega), if_pos (show (0 : Int) ≤ i ∧ (i : Int) < (s.length : Int) by omega), Option.bind_some]
      rw [w64_id (by omega) (by omega)]
      split <;> rfl
    · simp [ref13_Check.s1]

theorem chk_ok {s : List Int} (h : chk s = 0) : s.length ≤ 256 ∧ ∀ x ∈ s, 0 ≤ dig x := by
  unfold chk at h
  split at h
  · cases h
  · split at h
    · cases h
    · rename_i h1 h2
      refine ⟨by omega, fun x hx => ?_⟩
      unfold bad at h2
      simp at h2
      exact h2 x hx

/-- How many have the digit d. -/
def cnt (s : List Int) (d : Int) : Nat := s.countP fun x => decide (dig x = d)
theorem ref_count (s : List Int) (d : Int) (hl : s.length ≤ 256) : ref13_count.f s d = some (cnt s d : Int) := by
  unfold ref13_count.f
  rw [iter_foldl s (fun b i => (b, i)) (fun b x => if dig x = d then b + 1 else b) id (fun (i : Nat) (b : Int) => 0 ≤ b ∧ b ≤ (i : Int)) 0 ⟨by omega, by omega⟩]
  · simp only [Option.bind_some, fin, id, ref13_count.k5]
    congr 1
    unfold cnt
    have : ∀ (l : List Int) (b : Int), l.foldl (fun b x => if dig x = d then b + 1 else b) b = b + (l.countP fun x => decide (dig x = d) : Nat) := by
      intro l
      induction l with
      | nil => intro b; simp
      | cons a l ih =>
        intro b
        simp only [List.foldl_cons, ih, List.countP_cons]
        by_cases ha : dig a = d
        · simp [ha]; omega
        · simp [ha]
    rw [this]; omega
  · intro b i hi hb
    unfold ref13_count.s4
    simp only []
    rw [ix_at hi, ref_digit]
    simp only [decide_eq_true_eq, if_pos (show (i : Int) < (s.length : Int) by omega), if_pos (show (0 : Int) ≤ i ∧ (i : Int) < (s.length : Int) by omega), Option.bind_some]
    have e1 : w64 ((i : Int) + 1) = i + 1 := w64_id (by omega) (by omega)
    have e2 : w64 (b + 1) = b + 1 := w64_id (by omega) (by omega)
    unfold ref13_count.k6
    rw [e1, e2]
    split
    · exact ⟨rfl, by omega, by omega⟩
    · exact ⟨rfl, by omega, by omega⟩
  · intro b _
    simp [ref13_count.s4]

theorem dig_eq {x : Int} (h : 0 ≤ dig x) : x = 0 ∧ dig x = 0 ∨ x = -3 ∧ dig x = 1 ∨ x = -1 ∧ dig x = 2 ∨ x = 1 ∧ dig x = 3 ∨ x = 3 ∧ dig x = 4 := by
  unfold dig at *
  repeat' split at h
  all_goals simp_all

/-! ### Bits -/
def bitF (b : Int) (x : Int) : Int := if x = -3 ∨ x = 3 then 2 else if x = -1 ∨ x = 1 then gmax b 1 else b
theorem samp_bits_iter (s : List Int) (hl : s.length ≤ 256) : iter (fun (t : (Int × Int)) => sample_Bits.s16 s t.1 t.2) (0, 0) = some (.brk (s.foldl bitF 0)) := by
  rw [iter_foldl s (fun b i => (b, i)) bitF id (fun i b => True) 0 trivial]
  · rfl
  · intro b i hi hb
    unfold sample_Bits.s16 sample_Bits.k21 sample_Bits.k22 sample_Bits.k20 bitF
    simp only []
    rw [ix_at hi]
    have e1 : w64 ((i : Int) + 1) = i + 1 := w64_id (by omega) (by omega)
    simp only [decide_eq_true_eq, if_pos (show (i : Int) < (s.length : Int) by omega), if_pos (show (0 : Int) ≤ i ∧ (i : Int) < (s.length : Int) by omega), e1]
    refine ⟨?_, trivial⟩
    by_cases h1 : s[i] = -3
    · simp [h1]
    by_cases h2 : s[i] = 3
    · simp [h2]
    by_cases h3 : s[i] = -1
    · simp [h3]
    by_cases h4 : s[i] = 1
    · simp [h4]
    simp [h1, h2, h3, h4]
  · intro b _
    simp [sample_Bits.s16]

theorem bit_fold : ∀ (s : List Int) (b : Int), (∀ x ∈ s, 0 ≤ dig x) → 0 ≤ b → b ≤ 2 → s.foldl bitF b = if 0 < cnt s 1 + cnt s 4 ∨ b = 2 then 2 else if cnt s 0 < s.length ∨ b = 1 then 1 else 0
  | [], b, _, h0, h2 => by
    simp [cnt]
    split
    · assumption
    · split <;> omega
  | a :: l, b, h, h0, h2 => by
    have ha := dig_eq (h a (by simp))
    have hle : cnt l 0 ≤ l.length := List.countP_le_length
    have ih := fun b => bit_fold l b (fun x hx => h x (by simp [hx]))
    have hc : ∀ d, cnt (a :: l) d = cnt l d + if dig a = d then 1 else 0 := by
      intro d
      simp [cnt, List.countP_cons]
    simp only [List.foldl_cons, hc, List.length_cons]
    rcases ha with ⟨e, e2⟩ | ⟨e, e2⟩ | ⟨e, e2⟩ | ⟨e, e2⟩ | ⟨e, e2⟩ <;> rw [e2]
    · rw [show bitF b a = b by simp [bitF, e], ih b h0 h2]; simp
    · rw [show bitF b a = 2 by simp [bitF, e], ih 2 (by omega) (by omega)]; simp
    · rw [show bitF b a = gmax b 1 by simp [bitF, e], ih (gmax b 1) (by unfold gmax; split <;> omega) (by unfold gmax; split <;> omega)]
      have hg : gmax b 1 = 2 ↔ b = 2 := by unfold gmax; split <;> omega
      have hg1 : b ≠ 2 → gmax b 1 = 1 := by unfold gmax; split <;> omega
      simp only [hg, show ((2 : Int) = 1) = False by simp, show ((2 : Int) = 4) = False by simp, show ((2 : Int) = 0) = False by simp, if_false, Nat.add_zero]
      by_cases hb : b = 2
      · simp [hb]
      · have := hg1 hb
        simp only [this, or_true, if_true, hb, or_false]
        have hlt : cnt l 0 < l.length + 1 := by omega
        simp [hlt]
    · rw [show bitF b a = gmax b 1 by simp [bitF, e], ih (gmax b 1) (by unfold gmax; split <;> omega) (by unfold gmax; split <;> omega)]
      have hg : gmax b 1 = 2 ↔ b = 2 := by unfold gmax; split <;> omega
      have hg1 : b ≠ 2 → gmax b 1 = 1 := by unfold gmax; split <;> omega
      simp only [hg, show ((3 : Int) = 1) = False by simp, show ((3 : Int) = 4) = False by simp, show ((3 : Int) = 0) = False by simp, if_false, Nat.add_zero]
      by_cases hb : b = 2
      · simp [hb]
      · have := hg1 hb
        simp only [this, or_true, if_true, hb, or_false]
        have hlt : cnt l 0 < l.length + 1 := by omega
        simp [hlt]
    · rw [show bitF b a = 2 by simp [bitF, e], ih 2 (by omega) (by omega)]; simp

def bits (s : List Int) : Int × Int := if chk s = 0 then (if 0 < cnt s 1 + cnt s 4 then 2 else if cnt s 0 < s.length then 1 else 0, 0) else (0, chk s)
theorem samp_bits (s : List Int) : sample_Bits.f s = some (bits s) := by
  unfold sample_Bits.f bits
  rw [samp_check]
  by_cases h : chk s = 0
  · obtain ⟨h1, h2⟩ := chk_ok h
    simp only [Option.bind_some, h, decide_true, Bool.not_true, Bool.false_eq_true, if_false, if_true]
    rw [samp_bits_iter s h1, bit_fold s 0 h2 (by omega) (by omega)]
    simp [fin, sample_Bits.k17]
  · simp [h]
theorem ref_bits (s : List Int) : ref13_Bits.f s = some (bits s) := by
  unfold ref13_Bits.f bits
  simp only [ref_check]
  by_cases h : chk s = 0
  · obtain ⟨h1, h2⟩ := chk_ok h
    simp only [Option.bind_some, h, decide_true, Bool.not_true, Bool.false_eq_true, if_false, if_true, ref_count s _ h1]
    have l1 : cnt s 1 ≤ s.length := List.countP_le_length
    have l4 : cnt s 4 ≤ s.length := List.countP_le_length
    rw [w64_id (by omega) (by omega)]
    by_cases e1 : 0 < cnt s 1 + cnt s 4
    · have : (0 : Int) < (cnt s 1 : Int) + cnt s 4 := by omega
      simp [e1, this]
    · have : ¬ (0 : Int) < (cnt s 1 : Int) + cnt s 4 := by omega
      simp only [e1, this, decide_false, Bool.false_eq_true, if_false]
      by_cases e2 : cnt s 0 < s.length
      · have : (cnt s 0 : Int) < s.length := by omega
        simp [e2, this]
      · have : ¬ (cnt s 0 : Int) < s.length := by omega
        simp [e2, this]
  · simp [h]

/-! ### Counts -/
def cF (o : A5 Int) (x : Int) : A5 Int :=
  if dig x = 0 then ⟨o.e0 + 1, o.e1, o.e2, o.e3, o.e4⟩ else if dig x = 1 then ⟨o.e0, o.e1 + 1, o.e2, o.e3, o.e4⟩ else if dig x = 2 then ⟨o.e0, o.e1, o.e2 + 1, o.e3, o.e4⟩ else if dig x = 3 then ⟨o.e0, o.e1, o.e2, o.e3 + 1, o.e4⟩ else ⟨o.e0, o.e1, o.e2, o.e3, o.e4 + 1⟩
def okA (i : Nat) (o : A5 Int) : Prop := (0 ≤ o.e0 ∧ o.e0 ≤ i) ∧ (0 ≤ o.e1 ∧ o.e1 ≤ i) ∧ (0 ≤ o.e2 ∧ o.e2 ≤ i) ∧ (0 ≤ o.e3 ∧ o.e3 ≤ i) ∧ (0 ≤ o.e4 ∧ o.e4 ≤ i)
theorem cF_fold : ∀ (s : List Int) (o : A5 Int), (∀ x ∈ s, 0 ≤ dig x) → s.foldl cF o = ⟨o.e0 + cnt s 0, o.e1 + cnt s 1, o.e2 + cnt s 2, o.e3 + cnt s 3, o.e4 + cnt s 4⟩
  | [], o, _ => by simp [cnt]
  | a :: l, o, h => by
    have ha := dig_eq (h a (by simp))
    have hc : ∀ d, cnt (a :: l) d = cnt l d + if dig a = d then 1 else 0 := by
      intro d
      simp [cnt, List.countP_cons]
    simp only [List.foldl_cons, cF_fold l _ (fun x hx => h x (by simp [hx])), hc]
    rcases ha with ⟨_, e2⟩ | ⟨_, e2⟩ | ⟨_, e2⟩ | ⟨_, e2⟩ | ⟨_, e2⟩ <;> simp [cF, e2] <;> omega
def cnts (s : List Int) : A5 Int × Int := if chk s = 0 then (⟨cnt s 0, cnt s 1, cnt s 2, cnt s 3, cnt s 4⟩, 0) else (⟨0, 0, 0, 0, 0⟩, chk s)
theorem samp_counts (s : List Int) : sample_Counts.f s = some (cnts s) := by
  unfold sample_Counts.f cnts
  rw [samp_check]
  by_cases h : chk s = 0
  · obtain ⟨h1, h2⟩ := chk_ok h
    simp only [Option.bind_some, h, decide_true, Bool.not_true, Bool.false_eq_true, if_false, if_true]
    rw [iter_foldl s (fun b i => (b, i)) cF id okA _ (by simp [okA])]
    · rw [cF_fold s _ h2]
      simp [fin, sample_Counts.k2]
    · intro b i hi hb
      unfold sample_Counts.s1
      simp only []
      rw [ix_at hi, samp_digit]
      have hd := dig_eq (h2 s[i] (List.getElem_mem hi))
      have e1 : w64 ((i : Int) + 1) = i + 1 := w64_id (by omega) (by omega)
      simp only [okA] at hb
      have f0 : w64 (b.e0 + 1) = b.e0 + 1 := w64_id (by omega) (by omega)
      have f1 : w64 (b.e1 + 1) = b.e1 + 1 := w64_id (by omega) (by omega)
      have f2 : w64 (b.e2 + 1) = b.e2 + 1 := w64_id (by omega) (by omega)
      have f3 : w64 (b.e3 + 1) = b.e3 + 1 := w64_id (by omega) (by omega)
      have f4 : w64 (b.e4 + 1) = b.e4 + 1 := w64_id (by omega) (by omega)
      simp only [decide_eq_true_eq, if_pos (show (i : Int) < (s.length : Int) by omega), if_pos (show (0 : Int) ≤ i ∧ (i : Int) < (s.length : Int) by omega), e1, f0, f1, f2, f3, f4, Option.bind_some, cF]
      rcases hd with ⟨_, e2⟩ | ⟨_, e2⟩ | ⟨_, e2⟩ | ⟨_, e2⟩ | ⟨_, e2⟩ <;> rw [e2] <;> refine ⟨by simp, ?_⟩ <;> simp only [okA] <;> simp <;> omega
    · intro b _
      simp [sample_Counts.s1]
  · simp [h]
theorem ref_counts (s : List Int) : ref13_Counts.f s = some (cnts s) := by
  unfold ref13_Counts.f cnts
  simp only [ref_check]
  by_cases h : chk s = 0
  · obtain ⟨h1, h2⟩ := chk_ok h
    simp only [Option.bind_some, h, decide_true, Bool.not_true, Bool.false_eq_true, if_false, if_true]
    have go : ∀ (o : A5 Int) (d : Int), ref13_Counts.s1 s o d = if d < 5 then (if 0 ≤ d ∧ d < 5 then some (.next (if d = 0 then ⟨cnt s d, o.e1, o.e2, o.e3, o.e4⟩ else if d = 1 then ⟨o.e0, cnt s d, o.e2, o.e3, o.e4⟩ else if d = 2 then ⟨o.e0, o.e1, cnt s d, o.e3, o.e4⟩ else if d = 3 then ⟨o.e0, o.e1, o.e2, cnt s d, o.e4⟩ else ⟨o.e0, o.e1, o.e2, o.e3, cnt s d⟩, w64 (d + 1))) else none) else some (.brk o) := by
      intro o d
      unfold ref13_Counts.s1
      simp only [ref_count s d h1, Option.bind_some, decide_eq_true_eq]
      repeat' split
      all_goals rfl
    have w1 : w64 1 = 1 := by decide
    have w2 : w64 2 = 2 := by decide
    have w3 : w64 3 = 3 := by decide
    have w4 : w64 4 = 4 := by decide
    have w5 : w64 5 = 5 := by decide
    rw [iter_next (s' := (⟨cnt s 0, 0, 0, 0, 0⟩, 1)) (by simp only [go]; simp [w1]), iter_next (s' := (⟨cnt s 0, cnt s 1, 0, 0, 0⟩, 2)) (by simp only [go]; simp [w2]), iter_next (s' := (⟨cnt s 0, cnt s 1, cnt s 2, 0, 0⟩, 3)) (by simp only [go]; simp [w3]),
      iter_next (s' := (⟨cnt s 0, cnt s 1, cnt s 2, cnt s 3, 0⟩, 4)) (by simp only [go]; simp [w4]), iter_next (s' := (⟨cnt s 0, cnt s 1, cnt s 2, cnt s 3, cnt s 4⟩, 5)) (by simp only [go]; simp [w5]), iter_brk (t := ⟨cnt s 0, cnt s 1, cnt s 2, cnt s 3, cnt s 4⟩) (by simp only [go]; simp)]
    rfl
  · simp [h]

/-! ### Sign -/
def sg (x : Int) : Int := gmax (-1) (gmin 1 x)
theorem sg_eq (x : Int) : sg x = if x < 0 then -1 else if 0 < x then 1 else 0 := by
  unfold sg gmax gmin
  repeat' split
  all_goals omega
theorem fold_app {α β : Type} (f : α → β) : ∀ (l : List α) (b : List β), l.foldl (fun b x => b ++ [f x]) b = b ++ l.map f
  | [], b => by simp
  | x :: l, b => by simp [fold_app f l]
def sgn (s : List Int) : List Int × Int := if chk s = 0 then (s.map sg, 0) else ([], chk s)
theorem samp_sign (s : List Int) : sample_Sign.f s = some (sgn s) := by
  unfold sample_Sign.f sgn
  rw [samp_check]
  by_cases h : chk s = 0
  · obtain ⟨h1, h2⟩ := chk_ok h
    simp only [Option.bind_some, h, decide_true, Bool.not_true, Bool.false_eq_true, if_false, if_true]
    rw [iter_foldl s (fun b i => (b, i)) (fun b x => b ++ [sg x]) id (fun i b => b.length = i) [] rfl]
    · rw [fold_app]; simp [fin, sample_Sign.k2]
    · intro b i hi hb
      unfold sample_Sign.s1
      simp only []
      rw [ix_at hi]
      have e1 : w64 ((i : Int) + 1) = i + 1 := w64_id (by omega) (by omega)
      have hb2 : b.length + [gmax (-1) (gmin 1 s[i])].length ≤ 17592186044416 := by simp; omega
      simp only [decide_eq_true_eq, if_pos (show (i : Int) < (s.length : Int) by omega), if_pos (show (0 : Int) ≤ i ∧ (i : Int) < (s.length : Int) by omega), e1, if_pos hb2]
      exact ⟨rfl, by simp [hb]⟩
    · intro b _
      simp [sample_Sign.s1]
  · simp [h]
theorem ref_sign (s : List Int) : ref13_Sign.f s = some (sgn s) := by
  unfold ref13_Sign.f sgn
  simp only [ref_check]
  by_cases h : chk s = 0
  · obtain ⟨h1, h2⟩ := chk_ok h
    simp only [Option.bind_some, h, decide_true, Bool.not_true, Bool.false_eq_true, if_false, if_true]
    rw [iter_foldl s (fun b i => (b, i)) (fun b x => b ++ [sg x]) id (fun i b => b.length = i) [] rfl]
    · rw [fold_app]; simp [fin, ref13_Sign.k5]
    · intro b i hi hb
      unfold ref13_Sign.s4 ref13_Sign.k6
      simp only []
      rw [ix_at hi, sg_eq]
      have e1 : w64 ((i : Int) + 1) = i + 1 := w64_id (by omega) (by omega)
      have hb2 : ∀ z : Int, b.length + [z].length ≤ 17592186044416 := by intro z; simp; omega
      simp only [decide_eq_true_eq, if_pos (show (i : Int) < (s.length : Int) by omega), if_pos (show (0 : Int) ≤ i ∧ (i : Int) < (s.length : Int) by omega), e1, hb2, if_true]
      refine ⟨?_, by simp [hb]⟩
      repeat' split
      all_goals first | rfl | omega
    · intro b _
      simp [ref13_Sign.s4]
  · simp [h]

/-! ### Same -/
theorem same_self (s : List Int) (hl : s.length ≤ 300) : ref13_Same.f s s = some true := by
  unfold ref13_Same.f
  simp only [decide_true, Bool.not_true, Bool.false_eq_true, if_false]
  rw [iter_foldl s (fun _ i => i) (fun (_ : Unit) _ => ()) (fun _ => ()) (fun _ _ => True) () trivial]
  · rfl
  · intro b i hi _
    unfold ref13_Same.s1
    have e1 : w64 ((i : Int) + 1) = i + 1 := w64_id (by omega) (by omega)
    simp only [decide_eq_true_eq, if_pos (show (i : Int) < (s.length : Int) by omega), if_pos (show (0 : Int) ≤ i ∧ (i : Int) < (s.length : Int) by omega), e1]
    simp
  · intro b _
    simp [ref13_Same.s1]

theorem sampleTells_law (x0 : (List Int)) (k0 : ∀ y ∈ x0, okInt .i64 y) : law13_SampleTells.f x0 = some true := by
  unfold law13_SampleTells.f ref13_Long.f
  by_cases h : (300 : Int) < x0.length
  · simp [h]
  · have hl : x0.length ≤ 300 := by omega
    have hb : ([] : List Int).length + x0.length ≤ 17592186044416 := by simp; omega
    simp only [Option.bind_some, h, decide_false, Bool.false_eq_true, if_false, if_pos hb, List.nil_append, samp_bits, ref_bits, samp_counts, ref_counts, samp_sign, ref_sign, samp_check, ref_check, decide_true, if_true]
    have hs : (sgn x0).1.length ≤ 300 := by unfold sgn; split <;> simp; omega
    simp [same_self _ hs, same_self _ hl]
end Go.Proofs.Ytlemaejpllhjnaa.M
