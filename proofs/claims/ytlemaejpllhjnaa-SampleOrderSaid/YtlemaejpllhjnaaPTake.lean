/- Taking samples of levels, and signs: what the code comes to. -/
import Derived.Test.YtlemaejpllhjnaaPSamp
set_option linter.unusedVariables false
set_option linter.unusedSimpArgs false
set_option maxRecDepth 100000
namespace Go.Proofs.Ytlemaejpllhjnaa.M
open Go.GW Go.Proofs

theorem fold_app {α β : Type} (f : α → β) : ∀ (l : List α) (b : List β), l.foldl (fun b x => b ++ [f x]) b = b ++ l.map f
  | [], b => by simp
  | x :: l, b => by simp [fold_app f l]

def lbad (x : Int) : Bool := decide (x < -1000000 ∨ 1000000 < x)
def lchk (l : List Int) : Int := if 256 < l.length then 4 else if l.any lbad then 8 else 0
theorem lchk_ok {l : List Int} (h : lchk l = 0) : l.length ≤ 256 ∧ ∀ x ∈ l, -1000000 ≤ x ∧ x ≤ 1000000 := by
  unfold lchk at h
  split at h
  · cases h
  · split at h
    · cases h
    · rename_i h1 h2
      refine ⟨by omega, fun x hx => ?_⟩
      simp only [List.any_eq_true, not_exists, not_and] at h2
      have := h2 x hx
      unfold lbad at this
      simp only [decide_eq_true_eq] at this
      omega
theorem samp_lcheck1 (x : Int) : sample_check_1.f x = some (lbad x) := by
  unfold sample_check_1.f lbad
  by_cases h1 : x < -1000000
  · simp [h1]
  · simp [h1]
theorem samp_lcheck (l : List Int) : sample_check.f l = some (lchk l) := by
  unfold sample_check.f lchk
  by_cases hl : 256 < l.length
  · have h : (256 : Int) < l.length := by omega
    simp [h, hl]
  · have h : ¬ (256 : Int) < l.length := by omega
    simp only [h, hl, decide_false, Bool.false_eq_true, if_false]
    unfold slices_ContainsFunc__int_int__sample_check_1.f slices_IndexFunc__int_int__sample_check_1.f
    rw [iter_findIdx l (fun i => i) lbad ()]
    · by_cases hb : l.any lbad = true
      · simp only [if_pos hb, fin, Option.bind_some]
        have : (0 : Int) ≤ ((List.findIdx lbad l : Nat) : Int) := by omega
        simp [this]
      · simp only [if_neg hb, fin, Option.bind_some, slices_IndexFunc__int_int__sample_check_1.k2]
        simp
    · intro i hi
      unfold slices_IndexFunc__int_int__sample_check_1.s1
      rw [ix_at hi, samp_lcheck1]
      simp only [decide_eq_true_eq, if_pos (show (i : Int) < (l.length : Int) by omega), if_pos (show (0 : Int) ≤ i ∧ (i : Int) < (l.length : Int) by omega), Option.bind_some]
      rw [w64_id (by omega) (by omega)]
      split <;> rfl
    · simp [slices_IndexFunc__int_int__sample_check_1.s1]
theorem ref_levels (l : List Int) : ref13_Levels.f l = some (lchk l) := by
  unfold ref13_Levels.f lchk
  by_cases hl : 256 < l.length
  · have h : (256 : Int) < l.length := by omega
    simp [h, hl]
  · have h : ¬ (256 : Int) < l.length := by omega
    simp only [h, hl, decide_false, Bool.false_eq_true, if_false]
    rw [iter_find l (fun i => i) (fun x => if lbad x = true then some 8 else none) ()]
    · have : l.findSome? (fun x => if lbad x = true then some (8 : Int) else none) = if l.any lbad then some 8 else none := by
        clear hl h
        induction l with
        | nil => rfl
        | cons a l ih =>
          simp only [List.findSome?_cons, List.any_cons, ih]
          by_cases ha : lbad a = true <;> simp [ha]
      rw [this]
      by_cases hb : l.any lbad = true
      · simp [hb, fin]
      · simp [hb, fin, ref13_Levels.k5]
    · intro i hi
      unfold ref13_Levels.s4 ref13_Levels.k6
      rw [ix_at hi]
      simp only [decide_eq_true_eq, if_pos (show (i : Int) < (l.length : Int) by omega), if_pos (show (0 : Int) ≤ i ∧ (i : Int) < (l.length : Int) by omega)]
      rw [w64_id (by omega) (by omega)]
      unfold lbad
      by_cases h1 : l[i] < -1000000
      · simp [h1]
      · by_cases h2 : 1000000 < l[i]
        · simp [h1, h2]
        · simp [h1, h2]
    · simp [ref13_Levels.s4]

/-- The sample of a level. -/
def tk (t x : Int) : Int := if x < 0 then (if -x < t then -1 else -3) else (if x < t then 1 else 3)
def takes (l : List Int) (t : Int) : List Int × Int := if lchk l = 0 then (if t < 1 ∨ 1000000 < t then ([], 2) else (l.map (tk t), 0)) else ([], lchk l)
theorem samp_take (l : List Int) (t : Int) : sample_Take.f l t = some (takes l t) := by
  unfold sample_Take.f takes
  rw [samp_lcheck]
  by_cases h : lchk l = 0
  · obtain ⟨h1, h2⟩ := lchk_ok h
    simp only [Option.bind_some, h, decide_true, Bool.not_true, Bool.false_eq_true, if_false, if_true]
    by_cases ht : t < 1
    · simp [ht, sample_Take.k1]
    by_cases ht2 : 1000000 < t
    · simp [ht, ht2, sample_Take.k1]
    simp only [ht, ht2, decide_false, Bool.false_eq_true, if_false, or_self, sample_Take.k1]
    rw [iter_foldl l (fun b i => (b, i)) (fun b x => b ++ [tk t x]) id (fun i b => b.length = i) [] rfl]
    · rw [fold_app]; simp [fin, sample_Take.k9]
    · intro b i hi hb
      have hx := h2 l[i] (List.getElem_mem hi)
      refine ⟨?_, by simp [hb]⟩
      unfold sample_Take.s8
      simp only []
      rw [ix_at hi]
      have e1 : w64 ((i : Int) + 1) = i + 1 := w64_id (by omega) (by omega)
      have hb2 : ∀ z : Int, b.length + [z].length ≤ 17592186044416 := by intro z; simp; omega
      simp only [decide_eq_true_eq, if_pos (show (i : Int) < (l.length : Int) by omega), if_pos (show (0 : Int) ≤ i ∧ (i : Int) < (l.length : Int) by omega), lt']
      rw [w64_id (x := 0 - l[i]) (by omega) (by omega)]
      have hab : gmax l[i] (0 - l[i]) = if l[i] < 0 then - l[i] else l[i] := by unfold gmax; (repeat' split) <;> omega
      have m1 : w64 (0 - 1) = -1 := by decide
      have m3 : w64 (0 - 3) = -3 := by decide
      rw [hab]
      unfold sample_Take.k10 sample_Take.k11 tk
      simp only [hb2, if_true, e1, m1, m3]
      by_cases hn : l[i] < 0
      · simp only [hn, if_true, decide_true]
        by_cases hc : -l[i] < t
        · simp [hc]
        · simp [hc]
      · simp only [hn, if_false, decide_false, Bool.false_eq_true]
        by_cases hc : l[i] < t
        · simp [hc]
        · simp [hc]
    · intro b _
      simp [sample_Take.s8]
  · simp [h]

theorem tk_dig (t x : Int) : 0 ≤ dig (tk t x) := by
  unfold tk
  repeat' split
  all_goals decide
theorem chk_good {s : List Int} (hl : s.length ≤ 256) (hg : ∀ x ∈ s, 0 ≤ dig x) : chk s = 0 := by
  unfold chk bad
  rw [if_neg (by omega), if_neg]
  simp only [List.any_eq_true, decide_eq_true_eq, not_exists, not_and]
  intro x hx
  have := hg x hx
  omega

def sg (x : Int) : Int := gmax (-1) (gmin 1 x)
def sgn (s : List Int) : List Int × Int := if chk s = 0 then (s.map sg, 0) else ([], chk s)
theorem samp_sign (s : List Int) : sample_Sign.f s = some (sgn s) := by
  unfold sample_Sign.f sgn
  rw [samp_check]
  by_cases h : chk s = 0
  · obtain ⟨h1, h2⟩ := chk_ok h
    simp only [Option.bind_some, h, decide_true, Bool.not_true, Bool.false_eq_true, if_false, if_true]
    rw [iter_foldl s (fun b i => (b, i)) (fun b x => b ++ [sg x]) id (fun i b => b.length = i) [] rfl]
    · rw [fold_app]; simp [fin, sample_Sign.k2]
    · intro b i hi hb
      unfold sample_Sign.s1
      simp only []
      rw [ix_at hi]
      have e1 : w64 ((i : Int) + 1) = i + 1 := w64_id (by omega) (by omega)
      have hb2 : b.length + [gmax (-1) (gmin 1 s[i])].length ≤ 17592186044416 := by simp; omega
      simp only [decide_eq_true_eq, if_pos (show (i : Int) < (s.length : Int) by omega), if_pos (show (0 : Int) ≤ i ∧ (i : Int) < (s.length : Int) by omega), e1, if_pos hb2]
      exact ⟨rfl, by simp [hb]⟩
    · intro b _
      simp [sample_Sign.s1]
  · simp [h]

theorem alist {a b : List Int} (h : a = b) : a = b := h
end Go.Proofs.Ytlemaejpllhjnaa.M
