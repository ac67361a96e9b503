/- Values, means, times of accumulators; equality. -/
import Derived.Test.YtiepcikippcfaaaPAccD
import Derived.Test.YtiepcikippcfaaaPMake
set_option linter.unusedVariables false
set_option linter.unusedSimpArgs false
set_option maxRecDepth 100000
namespace Go.Proofs.Ytiepcikippcfaaa.M
open Go.GW Go.Proofs

theorem tdiv2 (n : Nat) : Int.tdiv (n : Int) 2 = ((n / 2 : Nat) : Int) := by rw [Int.tdiv_eq_ediv_of_nonneg (by omega)]; omega
def valR (a : Acc) (lag : Int) : Int × Int × Int :=
  if chk a = 0 then (if lag < -((a.Sums.length / 2 : Nat) : Int) ∨ ((a.Sums.length / 2 : Nat) : Int) < lag then (0, 0, 2) else (cval (ix a.Sums (lag + ((a.Sums.length / 2 : Nat) : Int))), cval (ix a.Ns (lag + ((a.Sums.length / 2 : Nat) : Int))), 0)) else (0, 0, chk a)
theorem ix_mem {α : Type} [Inhabited α] {l : List α} {i : Int} (h1 : 0 ≤ i) (h2 : i < (l.length : Int)) : ix l i ∈ l := by
  obtain ⟨n, rfl⟩ : ∃ n : Nat, i = (n : Int) := ⟨i.toNat, by omega⟩
  rw [ix_at (by omega)]
  exact List.getElem_mem _
theorem accum_Value_ok (a : Acc) (lag : Int) : accum_Value.f a lag = some (valR a lag) := by
  unfold accum_Value.f valR
  rw [accum_check_ok]
  simp only [Option.bind_some]
  by_cases h : chk a = 0
  · rw [if_neg (by simp [h]), if_pos h]
    have fa := (chk_fit a).1 h
    have h1 := fa.len
    have h2 := fa.odd
    have h3 := fa.nlen
    rw [tdiv2]
    simp only [lt']
    rw [w64_id (x := ((a.Sums.length / 2 : Nat) : Int)) (by omega) (by omega), w64_id (x := 0 - ((a.Sums.length / 2 : Nat) : Int)) (by omega) (by omega)]
    unfold accum_Value.k1
    by_cases c1 : lag < -((a.Sums.length / 2 : Nat) : Int)
    · rw [if_pos (by simp only [decide_eq_true_eq]; omega), if_pos rfl, if_pos (.inl c1)]
    · rw [if_neg (by simp only [decide_eq_true_eq]; omega)]
      by_cases c2 : ((a.Sums.length / 2 : Nat) : Int) < lag
      · rw [if_pos (by simpa using c2), if_pos (.inr c2)]
      · rw [if_neg (show ¬ (lag < -((a.Sums.length / 2 : Nat) : Int) ∨ ((a.Sums.length / 2 : Nat) : Int) < lag) by omega), if_neg (by simpa using c2), w64_id (x := lag + ((a.Sums.length / 2 : Nat) : Int)) (by omega) (by omega)]
        have hx : 0 ≤ lag + ((a.Sums.length / 2 : Nat) : Int) ∧ lag + ((a.Sums.length / 2 : Nat) : Int) < (a.Sums.length : Int) := by omega
        have hy : 0 ≤ lag + ((a.Sums.length / 2 : Nat) : Int) ∧ lag + ((a.Sums.length / 2 : Nat) : Int) < (a.Ns.length : Int) := by omega
        rw [if_pos hx, wide_value (fa.sums _ (ix_mem hx.1 hx.2))]
        simp only [Option.bind_some]
        rw [if_pos hy, wide_value (fa.ns _ (ix_mem hy.1 hy.2)).1]
        rfl
  · rw [if_pos (by simp [h]), if_neg h]
theorem valR_bound {a : Acc} {lag : Int} : -9223372036854775808 ≤ (valR a lag).1 ∧ (valR a lag).1 ≤ 9223372036854775807 ∧ -9223372036854775808 ≤ (valR a lag).2.1 ∧ (valR a lag).2.1 ≤ 9223372036854775807 := by
  unfold valR
  by_cases h : chk a = 0
  · rw [if_pos h]
    have fa := (chk_fit a).1 h
    have h1 := fa.len
    have h2 := fa.odd
    have h3 := fa.nlen
    split
    · simp
    · have b1 := cval_bound (fa.sums _ (ix_mem (l := a.Sums) (i := lag + ((a.Sums.length / 2 : Nat) : Int)) (by omega) (by omega)))
      have b2 := cval_bound (fa.ns _ (ix_mem (l := a.Ns) (i := lag + ((a.Sums.length / 2 : Nat) : Int)) (by omega) (by omega))).1
      simp only
      omega
  · rw [if_neg h]; simp
def meanR (a : Acc) (lag : Int) : Frac × Int :=
  if (valR a lag).2.2 = 0 then (if (valR a lag).2.1 = 0 then (⟨0, 0⟩, 18) else makeR (valR a lag).1 (valR a lag).2.1) else (⟨0, 0⟩, (valR a lag).2.2)
theorem accum_Mean_ok (a : Acc) (lag : Int) : accum_Mean.f a lag = some (meanR a lag) := by
  have hb := valR_bound (a := a) (lag := lag)
  unfold accum_Mean.f meanR
  rw [accum_Value_ok]
  simp only [Option.bind_some]
  generalize valR a lag = v at hb
  by_cases h : v.2.2 = 0
  · rw [if_neg (by simp [h]), if_pos h]
    by_cases h2 : v.2.1 = 0
    · rw [if_pos (by simpa using h2), if_pos h2]
    · rw [if_neg (by simpa using h2), if_neg h2, frac_Make_ok hb.1 hb.2.1 hb.2.2.1 hb.2.2.2]
      rfl
  · rw [if_pos (by simp [h]), if_neg h]
/-! ### Times -/
theorem tot_take_bound {l : List Gap} (h : ∀ g ∈ l, Run g) : 0 ≤ tot l ∧ tot l ≤ (l.length : Int) * 1000000000 := by
  induction l with
  | nil => simp [tot]
  | cons g l ih =>
    have h1 := ih (fun x hx => h x (List.mem_cons_of_mem _ hx))
    have h2 := h g List.mem_cons_self
    unfold Run at h2
    rw [tot_cons, List.length_cons]
    omega
def timesR (a : Acc) : Int × Int := if chk a = 0 then (tot a.Spans, 0) else (0, chk a)
theorem foldl_tot (l : List Gap) (n : Int) : l.foldl (fun n g => n + g.Many) n = n + tot l := by
  induction l generalizing n with
  | nil => simp [tot]
  | cons g l ih => rw [List.foldl_cons, ih, tot_cons]; omega
theorem times_iter {r : Type} {a : Acc} (fa : Fit a) {f : Int × Int → Option (St (Int × Int) Int r)} (hs : ∀ n i : Int, f (n, i) = (if (decide (i < (a.Spans.length : Int))) = true then (if 0 ≤ i ∧ i < (a.Spans.length : Int) then some (.next (w64 (n + ((ix a.Spans i).Many)), w64 (i + 1))) else none) else some (.brk n))) :
    iter f (0, 0) = some (.brk (tot a.Spans)) := by
  have h64 := fa.spans
  rw [iter_foldl (r := r) a.Spans (fun (n : Int) i => (n, i)) (fun n g => n + g.Many) (fun n => n) (fun i n => 0 ≤ n ∧ n ≤ (i : Int) * 1000000000) 0 ⟨by omega, by omega⟩]
  · rw [foldl_tot]; simp
  · rintro n i hi ⟨h1, h2⟩
    have hr := fa.runs.1 a.Spans[i] (List.getElem_mem hi)
    unfold Run at hr
    rw [hs, if_pos (by simp; omega), if_pos (by omega), ix_at hi, w64_id (x := n + a.Spans[i].Many) (by omega) (by omega), w64_id (by omega) (by omega)]
    exact ⟨rfl, by omega, by omega⟩
  · intro n _
    rw [hs, if_neg (by simp)]
theorem accum_Times_ok (a : Acc) : accum_Times.f a = some (timesR a) := by
  unfold accum_Times.f timesR
  rw [accum_check_ok]
  simp only [Option.bind_some]
  by_cases h : chk a = 0
  · rw [if_neg (by simp [h]), if_pos h, times_iter ((chk_fit a).1 h) (fun n i => rfl)]
    rfl
  · rw [if_pos (by simp [h]), if_neg h]
/-! ### Equality -/
theorem find_eq {α : Type} [DecidableEq α] [Inhabited α] {r : Type} (v : r) (l m : List α) (hl : l.length = m.length) : (l.zip m).findSome? (fun x => if x.1 = x.2 then none else some v) = if l = m then none else some v := by
  induction l generalizing m with
  | nil => cases m with
    | nil => rfl
    | cons y m => simp at hl
  | cons x l ih => cases m with
    | nil => simp at hl
    | cons y m =>
      rw [List.zip_cons_cons, List.findSome?_cons]
      by_cases h : x = y
      · simp only [h, if_true]
        rw [ih m (by simpa using hl)]
        simp
      · simp [h]
theorem same_iter {α : Type} [DecidableEq α] [Inhabited α] {l m : List α} (hl : l.length = m.length) (hb : l.length ≤ 4000) {f : Int → Option (St Int Unit Bool)}
    (hs : ∀ i : Int, f i = (if (decide (i < (l.length : Int))) = true then (if 0 ≤ i ∧ i < (l.length : Int) then (if 0 ≤ i ∧ i < (m.length : Int) then (if (!decide ((ix l i) = (ix m i))) = true then some (.ret false) else some (.next (w64 (i + 1)))) else none) else none) else some (.brk ()))) :
    iter f 0 = some (if l = m then .brk () else .ret false) := by
  have hz : (l.zip m).length = l.length := by simp [hl]
  have hz2 : ((l.zip m).length : Int) = (l.length : Int) := by rw [hz]
  rw [iter_find (l.zip m) (fun i => i) (fun x => if x.1 = x.2 then none else some false) ()]
  · rw [find_eq false l m hl]
    by_cases h : l = m <;> simp [h]
  · intro i hi
    rw [hz] at hi
    rw [hs, if_pos (by simp; omega), if_pos (show (0 : Int) ≤ (i : Int) ∧ (i : Int) < (l.length : Int) by omega), if_pos (show (0 : Int) ≤ (i : Int) ∧ (i : Int) < (m.length : Int) by omega), ix_at hi, ix_at (xs := m) (show i < m.length by omega), w64_id (by omega) (by omega), List.getElem_zip]
    by_cases h : l[i] = m[i] <;> simp [h]
  · rw [hz2, hs, if_neg (by simp)]
def Small (a : Acc) : Prop := a.Sums.length ≤ 4000 ∧ a.Ns.length ≤ 4000 ∧ a.Spans.length ≤ 4000
theorem ref_Same_ok {a b : Acc} (ha : Small a) : ref18_Same.f a b = some (decide (a = b)) := by
  obtain ⟨h1, h2, h3⟩ := ha
  have hne : ∀ {p : Prop}, (a = b → p) → ¬ p → some false = some (decide (a = b)) := fun h1 h2 => by rw [decide_eq_false (fun h => h2 (h1 h))]
  unfold ref18_Same.f ref18_Same.k1
  by_cases c1 : a.Sums.length = b.Sums.length
  · rw [if_neg (by simp; omega)]
    by_cases c2 : a.Ns.length = b.Ns.length
    · rw [if_neg (by simp; omega)]
      by_cases c3 : a.Spans.length = b.Spans.length
      · rw [if_neg (by simp; omega), same_iter (f := fun s => ref18_Same.s2 a b s) c1 h1 (fun i => rfl)]
        simp only [Option.bind_some]
        by_cases d1 : a.Sums = b.Sums
        · rw [if_pos d1]
          simp only [fin]
          unfold ref18_Same.k3
          rw [same_iter (f := fun s => ref18_Same.s4 a b s) c2 h2 (fun i => rfl)]
          simp only [Option.bind_some]
          by_cases d2 : a.Ns = b.Ns
          · rw [if_pos d2]
            simp only [fin]
            unfold ref18_Same.k5
            rw [same_iter (f := fun s => ref18_Same.s6 a b s) c3 h3 (fun i => rfl)]
            simp only [Option.bind_some]
            by_cases d3 : a.Spans = b.Spans
            · rw [if_pos d3]
              simp only [fin, ref18_Same.k7]
              have : a = b := by cases a; cases b; simp only [Acc.mk.injEq]; exact ⟨d1, d2, d3⟩
              rw [decide_eq_true this]
            · rw [if_neg d3]
              exact hne (fun h => by rw [h]) d3
          · rw [if_neg d2]
            exact hne (fun h => by rw [h]) d2
        · rw [if_neg d1]
          exact hne (fun h => by rw [h]) d1
      · rw [if_pos (by simp; omega)]
        exact hne (fun h => by rw [h]) c3
    · rw [if_pos (by simp; omega), if_pos rfl]
      exact hne (fun h => by rw [h]) c2
  · rw [if_pos (by simp; omega), if_pos rfl]
    exact hne (fun h => by rw [h]) c1
theorem length_sumsL (a b : List Count) : (sumsL a b).length = min a.length b.length := by simp [sumsL]
theorem mres_small {a b : Acc} {J : List Gap × Int} (ha : a.Sums.length ≤ 600) (hb : a.Ns.length ≤ 600) : Small (mres a b J).1 := by
  unfold mres Small
  split
  · split
    · split
      · simp
      · simp only [length_sumsL]; omega
    · simp
  · simp
theorem mergeR_small {a b : Acc} {J : List Gap × Int} : Small (mergeR a b J).1 := by
  unfold mergeR
  split
  · rename_i h
    have fa := (chk_fit a).1 h
    split
    · split
      · exact mres_small (by have := fa.len; omega) (by have := fa.len; have := fa.nlen; omega)
      · simp [Small]
    · simp [Small]
  · simp [Small]
end Go.Proofs.Ytiepcikippcfaaa.M
