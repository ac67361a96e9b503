/- Adding lags to accumulators. -/
import Derived.Test.YtiepcikippcfaaaPAccF
set_option linter.unusedVariables false
set_option linter.unusedSimpArgs false
set_option maxRecDepth 100000
namespace Go.Proofs.Ytiepcikippcfaaa.M
open Go.GW Go.Proofs

def lagB (x : Lag) : Bool := decide (0 ≤ x.N ∧ x.N ≤ 256 ∧ -9 * x.N ≤ x.Sum ∧ x.Sum ≤ 9 * x.N ∧ (x.Sum - x.N) % 2 = 0)
def lagchk (l : List Lag) : Int := if 511 < l.length then 4 else if l.length % 2 = 0 then 8 else if l.any (fun x => !lagB x) = true then 8 else 0
theorem tmod2_zero (x : Int) : Int.tmod x 2 = 0 ↔ x % 2 = 0 := by
  rw [← Int.dvd_iff_tmod_eq_zero, Int.dvd_iff_emod_eq_zero]
theorem lag_bad (x : Lag) : lag_Check_1.f x = some (!lagB x) := by
  unfold lag_Check_1.f lagB
  by_cases c1 : x.N < 0
  · rw [if_pos (by simpa using c1), decide_eq_false (by omega)]; rfl
  · rw [if_neg (by simpa using c1)]
    by_cases c2 : 256 < x.N
    · rw [if_pos (by simpa using c2), decide_eq_false (by omega)]; rfl
    · rw [if_neg (by simpa using c2), w64_id (x := 9 * x.N) (by omega) (by omega), w64_id (x := (-9) * x.N) (by omega) (by omega)]
      by_cases c3 : 9 * x.N < x.Sum
      · rw [if_pos (by simpa using c3), decide_eq_false (by omega)]; rfl
      · rw [if_neg (by simpa using c3)]
        by_cases c4 : x.Sum < (-9) * x.N
        · rw [if_pos (by simpa using c4), decide_eq_false (by omega)]; rfl
        · rw [if_neg (by simpa using c4), w64_id (x := x.Sum - x.N) (by omega) (by omega)]
          congr 2
          rw [decide_eq_decide, tmod2_zero]
          omega
theorem lag_Check_ok (l : List Lag) : lag_Check.f l = some (lagchk l) := by
  unfold lag_Check.f lagchk lag_Check.k1
  by_cases c1 : 511 < l.length
  · rw [if_pos (by simp; omega), if_pos c1]
  · rw [if_neg (by simp; omega), if_neg c1, tmod2]
    by_cases c2 : l.length % 2 = 0
    · rw [if_pos (by simp; omega), if_pos c2]; rfl
    · rw [if_neg (by simp only [decide_eq_true_eq]; omega), if_neg c2]
      unfold slices_ContainsFunc__api_Lag_api_Lag__lag_Check_1.f slices_IndexFunc__api_Lag_api_Lag__lag_Check_1.f
      rw [iter_findIdx l (fun i => i) (fun x => !lagB x) ()]
      · by_cases hb : l.any (fun x => !lagB x) = true
        · simp only [if_pos hb, fin, Option.bind_some]
          have : (0 : Int) ≤ ((List.findIdx (fun x => !lagB x) l : Nat) : Int) := by omega
          simp [this]
        · simp only [if_neg hb, fin, Option.bind_some, slices_IndexFunc__api_Lag_api_Lag__lag_Check_1.k2]
          simp
      · intro i hi
        unfold slices_IndexFunc__api_Lag_api_Lag__lag_Check_1.s1
        rw [ix_at hi, lag_bad]
        simp only [decide_eq_true_eq, if_pos (show (i : Int) < (l.length : Int) by omega), if_pos (show (0 : Int) ≤ (i : Int) ∧ (i : Int) < (l.length : Int) by omega), Option.bind_some]
        rw [w64_id (by omega) (by omega)]
        split <;> rfl
      · simp [slices_IndexFunc__api_Lag_api_Lag__lag_Check_1.s1]
theorem ref16_even_ok (x : Int) : ref16_even.f x = some (decide (x % 2 = 0)) := by
  unfold ref16_even.f
  congr 1
  rw [decide_eq_decide, tmod2_zero]
theorem ref16_Check_ok (l : List Lag) : ref16_Check.f l = some (lagchk l) := by
  unfold ref16_Check.f lagchk
  rw [ref16_even_ok]
  by_cases c1 : 511 < l.length
  · rw [if_pos (by simp; omega), if_pos c1]
  · rw [if_neg (by simp; omega), if_neg c1]
    simp only [Option.bind_some]
    by_cases c2 : l.length % 2 = 0
    · rw [if_pos (by simp only [decide_eq_true_eq]; omega), if_pos c2]
    · rw [if_neg (by simp only [decide_eq_true_eq]; omega), if_neg c2]
      rw [iter_find l (fun i => i) (fun x => if (!lagB x) = true then some 8 else none) ()]
      · have hf : l.findSome? (fun x => if (!lagB x) = true then some (8 : Int) else none) = if l.any (fun x => !lagB x) = true then some 8 else none := by
          clear c1 c2
          induction l with
          | nil => rfl
          | cons x l ih =>
            rw [List.findSome?_cons, List.any_cons]
            cases lagB x with
            | true => simpa using ih
            | false => simp
        rw [hf]
        cases l.any (fun x => !lagB x) <;> rfl
      · intro i hi
        unfold ref16_Check.s4 ref16_Check.k6
        rw [if_pos (by simp; omega), if_pos (show (0 : Int) ≤ (i : Int) ∧ (i : Int) < (l.length : Int) by omega), ix_at hi, w64_id (x := (i : Int) + 1) (by omega) (by omega)]
        generalize l[i] = x
        unfold lagB
        by_cases c1 : x.N < 0
        · rw [if_pos (by simpa using c1), decide_eq_false (by omega)]; rfl
        · rw [if_neg (by simpa using c1)]
          by_cases c2 : 256 < x.N
          · rw [if_pos (by simpa using c2), decide_eq_false (by omega)]; rfl
          · rw [if_neg (by simpa using c2), w64_id (x := 9 * x.N) (by omega) (by omega), w64_id (x := (-9) * x.N) (by omega) (by omega)]
            by_cases c4 : x.Sum < (-9) * x.N
            · rw [if_pos (by simpa using c4), decide_eq_false (by omega)]; rfl
            · rw [if_neg (by simpa using c4)]
              by_cases c3 : 9 * x.N < x.Sum
              · rw [if_pos (by simpa using c3), decide_eq_false (by omega)]; rfl
              · rw [if_neg (by simpa using c3), ref16_even_ok, ref16_even_ok]
                simp only [Option.bind_some]
                have h1 : (decide (0 ≤ x.N ∧ x.N ≤ 256 ∧ -9 * x.N ≤ x.Sum ∧ x.Sum ≤ 9 * x.N ∧ (x.Sum - x.N) % 2 = 0)) = decide ((x.Sum - x.N) % 2 = 0) := by
                  rw [decide_eq_decide]; omega
                rw [h1]
                by_cases d1 : x.Sum % 2 = 0
                · by_cases d2 : x.N % 2 = 0
                  · have : (x.Sum - x.N) % 2 = 0 := by omega
                    simp [d1, d2, this]
                  · have : ¬ (x.Sum - x.N) % 2 = 0 := by omega
                    simp [d1, d2, this]
                · by_cases d2 : x.N % 2 = 0
                  · have : ¬ (x.Sum - x.N) % 2 = 0 := by omega
                    simp [d1, d2, this]
                  · have : (x.Sum - x.N) % 2 = 0 := by omega
                    simp [d1, d2, this]
      · unfold ref16_Check.s4
        rw [if_neg (by simp)]
theorem lagchk_ok {l : List Lag} (h : lagchk l = 0) : l.length ≤ 511 ∧ l.length % 2 = 1 ∧ ∀ x ∈ l, 0 ≤ x.N ∧ x.N ≤ 256 ∧ -9 * x.N ≤ x.Sum ∧ x.Sum ≤ 9 * x.N := by
  unfold lagchk at h
  split at h
  · cases h
  · split at h
    · cases h
    · split at h
      · cases h
      · rename_i h1 h2 h3
        refine ⟨by omega, by omega, fun x hx => ?_⟩
        simp only [List.any_eq_true, not_exists, not_and] at h3
        have := h3 x hx
        unfold lagB at this
        simp only [Bool.not_eq_true', decide_eq_false_iff_not, Decidable.not_not] at this
        omega
theorem accum_of_ok {n : Int} (h1 : -4000000000000000000 ≤ n) (h2 : n ≤ 4000000000000000000) : accum_of.f n = some ⟨canon n⟩ := by
  unfold accum_of.f accum_of.k1
  simp only [lt']
  have ht : (Int.tmod n 1000000000 < 0 ∧ Int.tdiv n 1000000000 - 1 = n / 1000000000 ∧ Int.tmod n 1000000000 + 1000000000 = n % 1000000000) ∨ (¬ Int.tmod n 1000000000 < 0 ∧ Int.tdiv n 1000000000 = n / 1000000000 ∧ Int.tmod n 1000000000 = n % 1000000000) := by
    by_cases h0 : 0 ≤ n
    · rw [Int.tmod_eq_emod_of_nonneg h0, Int.tdiv_eq_ediv_of_nonneg h0]; omega
    · obtain ⟨m, rfl, hm⟩ : ∃ m, n = -m ∧ 0 ≤ m := ⟨-n, by omega, by omega⟩
      rw [Int.neg_tmod, Int.neg_tdiv, Int.tmod_eq_emod_of_nonneg hm, Int.tdiv_eq_ediv_of_nonneg hm]; omega
  rw [w64_id (x := Int.tdiv n 1000000000) (by omega) (by omega)]
  unfold canon
  rcases ht with ⟨ht, hq, hr⟩ | ⟨ht, hq, hr⟩
  · rw [if_pos (by simpa using ht), w64_id (x := Int.tdiv n 1000000000 - 1) (by omega) (by omega), w64_id (by omega) (by omega), hq, hr]
  · rw [if_neg (by simpa using ht), hq, hr]
def ofL (l : List Lag) (at_ many : Int) : Acc := ⟨l.map (fun x => canon x.Sum), l.map (fun x => canon x.N), [⟨at_, many⟩]⟩
def addOk (a : Acc) (l : List Lag) (at_ many : Int) : Prop := l.length = a.Sums.length ∧ 1 ≤ many ∧ many ≤ 256 ∧ 0 ≤ at_ ∧ at_ ≤ 1000000000 - many
theorem canon_small {n : Int} (h1 : -1000000 ≤ n) (h2 : n ≤ 1000000) : cok (canon n) := by unfold cok canon; simp only; omega
theorem ofL_fit {a : Acc} {l : List Lag} {at_ many : Int} (fa : Fit a) (hl : lagchk l = 0) (h : addOk a l at_ many) : Fit (ofL l at_ many) ∧ a.Sums.length = (ofL l at_ many).Sums.length := by
  obtain ⟨h1, h2, h3⟩ := lagchk_ok hl
  unfold addOk at h
  refine ⟨⟨by simp [ofL]; omega, by simp [ofL]; omega, by simp [ofL], by simp [ofL], RunsL.cons.2 ⟨by unfold Run; simp only; omega, (fun _ h => by cases h), RunsL.nil⟩, fun c hc => ?_, fun c hc => ?_⟩, by simp [ofL]; omega⟩
  · obtain ⟨x, hx, rfl⟩ := List.mem_map.1 hc
    have := h3 x hx
    exact canon_small (by omega) (by omega)
  · obtain ⟨x, hx, rfl⟩ := List.mem_map.1 hc
    have := h3 x hx
    exact ⟨canon_small (by omega) (by omega), by unfold canon; simp only; omega⟩
theorem add_iter {l : List Lag} (hl : lagchk l = 0) : iter (fun (s : ((List Count) × (List Count) × Int)) => accum_Add.s2 l s.1 s.2.1 s.2.2) ([], [], 0) = some (.brk (l.map (fun x => canon x.Sum), l.map (fun x => canon x.N))) := by
  obtain ⟨h1, h2, h3⟩ := lagchk_ok hl
  rw [iter_foldl l (fun (o : List Count × List Count) i => (o.1, o.2, i)) (fun o x => (o.1 ++ [canon x.Sum], o.2 ++ [canon x.N])) (fun o => o) (fun i o => o.1.length ≤ i ∧ o.2.length ≤ i) ([], []) ⟨Nat.le_refl _, Nat.le_refl _⟩]
  · have : ∀ (l : List Lag) (o1 o2 : List Count), l.foldl (fun (o : List Count × List Count) x => (o.1 ++ [canon x.Sum], o.2 ++ [canon x.N])) (o1, o2) = (o1 ++ l.map (fun x => canon x.Sum), o2 ++ l.map (fun x => canon x.N)) := by
      intro l
      induction l with
      | nil => intro o1 o2; simp
      | cons x l ih => intro o1 o2; rw [List.foldl_cons, ih]; simp
    rw [this]
    simp
  · rintro ⟨o1, o2⟩ i hi ⟨k1, k2⟩
    simp only at k1 k2
    have hx := h3 l[i] (List.getElem_mem hi)
    refine ⟨?_, by simp; omega, by simp; omega⟩
    simp only
    unfold accum_Add.s2
    rw [if_pos (by simp; omega), if_pos (show (0 : Int) ≤ (i : Int) ∧ (i : Int) < (l.length : Int) by omega), ix_at hi, accum_of_ok (by omega) (by omega)]
    simp only [Option.bind_some]
    rw [if_pos (by simp; omega), accum_of_ok (by omega) (by omega)]
    simp only [Option.bind_some]
    rw [if_pos (by simp; omega), w64_id (by omega) (by omega)]
  · rintro ⟨o1, o2⟩ _
    simp only
    unfold accum_Add.s2
    rw [if_neg (by simp)]
theorem accum_Add_ok {a : Acc} {l : List Lag} {at_ many : Int} (fa : Fit a) (hl : lagchk l = 0) :
    (¬ addOk a l at_ many ∧ accum_Add.f a l at_ many = some (⟨[], [], []⟩, 2)) ∨ (addOk a l at_ many ∧ ∃ J, Joined a.Spans [⟨at_, many⟩] J ∧ accum_Add.f a l at_ many = some (mres a (ofL l at_ many) J)) := by
  unfold accum_Add.f
  rw [accum_check_ok, (chk_fit a).2 fa, lag_Check_ok, hl]
  simp only [Option.bind_some, decide_true, Bool.not_true, Bool.false_eq_true, if_false]
  have bad : accum_Add.k1 a l at_ many true = some (⟨[], [], []⟩, 2) := by unfold accum_Add.k1; rfl
  by_cases c1 : l.length = a.Sums.length
  · rw [if_neg (by simp; omega)]
    by_cases c2 : many < 1
    · rw [if_pos (by simpa using c2)]
      exact .inl ⟨fun h => by unfold addOk at h; omega, bad⟩
    · rw [if_neg (by simpa using c2)]
      by_cases c3 : 256 < many
      · rw [if_pos (by simpa using c3)]
        exact .inl ⟨fun h => by unfold addOk at h; omega, bad⟩
      · rw [if_neg (by simpa using c3)]
        by_cases c4 : at_ < 0
        · rw [if_pos (by simpa using c4)]
          exact .inl ⟨fun h => by unfold addOk at h; omega, bad⟩
        · rw [if_neg (by simpa using c4), w64_id (x := 1000000000 - many) (by omega) (by omega)]
          by_cases c5 : 1000000000 - many < at_
          · rw [decide_eq_true c5]
            exact .inl ⟨fun h => by unfold addOk at h; omega, bad⟩
          · rw [decide_eq_false c5]
            have hok : addOk a l at_ many := by unfold addOk; omega
            obtain ⟨f1, f2⟩ := ofL_fit fa hl hok
            obtain ⟨J, j1, j2⟩ := accum_merge_ok fa f1 f2
            refine .inr ⟨hok, J, j1, ?_⟩
            unfold accum_Add.k1
            rw [if_neg (by simp), add_iter hl]
            simp only [Option.bind_some, fin]
            unfold accum_Add.k3
            rw [show (⟨l.map (fun x => canon x.Sum), l.map (fun x => canon x.N), ([(⟨at_, many⟩ : Gap)] : List Gap)⟩ : Acc) = ofL l at_ many from rfl, j2]
            rfl
  · rw [if_pos (by simp; omega)]
    exact .inl ⟨fun h => c1 h.1, bad⟩
theorem ref_In_ok {l : List Gap} {t : Int} (hr : ∀ g ∈ l, Run g) (hl : l.length ≤ 1000) (h : InL l t) : ref18_In.f l t = some true := by
  unfold ref18_In.f
  rw [iter_find l (fun i => i) (fun g => if g.At ≤ t ∧ t < g.At + g.Many then some true else none) ()]
  · have : l.findSome? (fun g => if g.At ≤ t ∧ t < g.At + g.Many then some true else none) = some true := by
      clear hl hr
      induction l with
      | nil => exact absurd h (InL_nil t)
      | cons g l ih =>
        rw [List.findSome?_cons]
        by_cases c : g.At ≤ t ∧ t < g.At + g.Many
        · simp [c]
        · rw [if_neg c]
          rcases InL_cons.1 h with h | h
          · exact absurd h c
          · exact ih h
    rw [this]
    rfl
  · intro i hi
    have hg := hr l[i] (List.getElem_mem hi)
    unfold ref18_In.s4 ref18_In.k6
    rw [if_pos (by simp; omega), if_pos (show (0 : Int) ≤ (i : Int) ∧ (i : Int) < (l.length : Int) by omega), ix_at hi, w64_id (x := (i : Int) + 1) (by omega) (by omega)]
    generalize l[i] = g at hg
    unfold Run at hg
    rw [w64_id (x := g.At + g.Many) (by omega) (by omega)]
    by_cases c1 : g.At ≤ t
    · rw [if_pos (by simpa using c1)]
      by_cases c2 : t < g.At + g.Many <;> simp [c1, c2]
    · rw [if_neg (by simpa using c1)]
      simp [c1]
  · unfold ref18_In.s4
    rw [if_neg (by simp)]
theorem mres_nil {a b : Acc} {J : List Gap × Int} (h : ¬ (mres a b J).2 = 0) : (mres a b J).1 = ⟨[], [], []⟩ := by
  unfold mres at h ⊢
  split
  · rename_i h1
    rw [if_pos h1] at h
    split
    · rename_i h2
      rw [if_pos h2] at h
      split
      · rfl
      · rename_i h3
        rw [if_neg h3] at h
        exact absurd rfl h
    · rfl
  · rfl
theorem mres_range {a b : Acc} {J : List Gap × Int} (h : J.2 = 0) : (mres a b J).2 = 0 ∨ (mres a b J).2 = 4 ∨ (mres a b J).2 = 16 := by
  unfold mres
  rw [if_pos h]
  split
  · split
    · exact .inr (.inl rfl)
    · exact .inl rfl
  · exact .inr (.inr rfl)
end Go.Proofs.Ytiepcikippcfaaa.M
