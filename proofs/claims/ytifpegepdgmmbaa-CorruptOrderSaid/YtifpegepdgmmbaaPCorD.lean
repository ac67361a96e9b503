/- Series: their check, and lists that are acted on by a table. -/
import Derived.Test.YtifpegepdgmmbaaPCorC
set_option linter.unusedVariables false
set_option linter.unusedSimpArgs false
set_option maxRecDepth 100000
namespace Go.Proofs.Ytifpegepdgmmbaa.M
open Go.GW Go.Proofs
def AllOk (l : List Vis) : Prop := l.length ≤ 64 ∧ ∀ v ∈ l, VisOk v
theorem cc_step {l : List Vis} (hl : l.length ≤ 64) (m : List (Pair × Int)) {n : Nat} (hn : n < l.length) :
    (∃ m', closure_Check.s10 l m (n : Int) = some (.next (m', ((n + 1 : Nat) : Int))) ∧ VisOk (ix l (n : Int))) ∨ closure_Check.s10 l m (n : Int) = some (.ret 8) := by
  have k14t : closure_Check.k14 l m (n : Int) true = some (.ret 8) := by unfold closure_Check.k14; rw [if_pos rfl]
  unfold closure_Check.s10
  rw [decide_eq_true (show (n : Int) < (l.length : Int) by omega), if_pos rfl, if_pos ⟨by omega, by omega⟩]
  by_cases h1 : (ix l (n : Int)).I < 0
  · rw [decide_eq_true h1, if_pos rfl]; exact .inr k14t
  rw [decide_eq_false h1, if_neg Bool.false_ne_true]
  by_cases h2 : (ix l (n : Int)).J ≤ (ix l (n : Int)).I
  · rw [decide_eq_true h2, if_pos rfl]; exact .inr k14t
  rw [decide_eq_false h2, if_neg Bool.false_ne_true]
  by_cases h3 : 8 ≤ (ix l (n : Int)).J
  · rw [decide_eq_true h3, if_pos rfl]; exact .inr k14t
  rw [decide_eq_false h3, if_neg Bool.false_ne_true]
  by_cases h4 : (ix l (n : Int)).N < 0
  · rw [decide_eq_true h4, if_pos rfl]; exact .inr k14t
  rw [decide_eq_false h4, if_neg Bool.false_ne_true, cx_check_eq, Option.bind_some]
  rcases chk_cases (ix l (n : Int)).V with ⟨h5, hg⟩ | ⟨h5, hg⟩
  · left
    rw [h5, show (!decide ((0 : Int) = 0)) = false from rfl]
    unfold closure_Check.k14
    rw [if_neg Bool.false_ne_true]
    simp only [lt']
    unfold closure_Check.k13
    rw [wsuc (by omega)]
    exact ⟨_, rfl, by omega, by omega, by omega, hg⟩
  · right
    rw [h5, show (!decide ((8 : Int) = 0)) = true from rfl]
    exact k14t
theorem cc_loop {l : List Vis} (hl : l.length ≤ 64) : ∀ (k n : Nat) (m : List (Pair × Int)), n + k = l.length → (∀ j, j < n → VisOk (ix l (j : Int))) →
    (∃ m', iter (fun (s : (List (Pair × Int)) × Int) => closure_Check.s10 l s.1 s.2) (m, (n : Int)) = some (.brk m') ∧ ∀ j, j < l.length → VisOk (ix l (j : Int))) ∨ iter (fun (s : (List (Pair × Int)) × Int) => closure_Check.s10 l s.1 s.2) (m, (n : Int)) = some (.ret 8)
  | 0, n, m, h, hv => by
    left
    refine ⟨m, iter_brk ?_, fun j hj => hv j (by omega)⟩
    show closure_Check.s10 l m (n : Int) = _
    unfold closure_Check.s10
    rw [decide_eq_false (by omega), if_neg Bool.false_ne_true]
  | k + 1, n, m, h, hv => by
    rcases cc_step hl m (n := n) (by omega) with ⟨m', h1, h2⟩ | h1
    · rw [iter_next (s' := (m', ((n + 1 : Nat) : Int))) h1]
      refine cc_loop hl k (n + 1) m' (by omega) fun j hj => ?_
      by_cases he : j = n
      · rw [he]; exact h2
      · exact hv j (by omega)
    · exact .inr (iter_ret h1)
theorem closure_cases (l : List Vis) : ∃ e, closure_Check.f l = some e ∧ (e = 0 → AllOk l) := by
  unfold closure_Check.f
  by_cases hl : 64 < l.length
  · exact ⟨4, by rw [decide_eq_true (by omega), if_pos rfl], fun h => by cases h⟩
  rw [decide_eq_false (by omega), if_neg Bool.false_ne_true]
  rcases cc_loop (l := l) (by omega) l.length 0 [] (by omega) (fun j hj => by omega) with ⟨m', h1, h2⟩ | h1
  · have hall : AllOk l := ⟨by omega, fun v hv => by
      obtain ⟨i, hi, rfl⟩ := List.getElem_of_mem hv
      have := h2 i hi
      rw [ix_at hi] at this
      exact this⟩
    have hk : ∃ e, closure_Check.k11 l m' = some e := by unfold closure_Check.k11; split <;> exact ⟨_, rfl⟩
    obtain ⟨e, he⟩ := hk
    refine ⟨e, ?_, fun _ => hall⟩
    refine (congrArg (fun o => Option.bind o _) h1).trans ?_
    exact he
  · refine ⟨8, ?_, fun h => by cases h⟩
    refine (congrArg (fun o => Option.bind o _) h1).trans ?_
    rfl
theorem base_tot (a b : List Vis) (ha : a.length ≤ 64) : ∃ v, corrupt_baselines.f a b = some v := by
  unfold corrupt_baselines.f slices_EqualFunc__api_Vis_api_Vis_api_Vis_api_Vis__corrupt_baselines_1.f
  by_cases hl : (a.length : Int) = (b.length : Int)
  · rw [decide_eq_true hl, if_neg (by decide)]
    have h := iter_scan (r := Bool) (f := fun s => slices_EqualFunc__api_Vis_api_Vis_api_Vis_api_Vis__corrupt_baselines_1.s1 a b s) a.length (fun _ => True) (fun _ => True) (fun i hi => by
      show (slices_EqualFunc__api_Vis_api_Vis_api_Vis_api_Vis__corrupt_baselines_1.s1 a b (i : Int) = _ ∧ _) ∨ ∃ v, slices_EqualFunc__api_Vis_api_Vis_api_Vis_api_Vis__corrupt_baselines_1.s1 a b (i : Int) = _ ∧ _
      have hb : ∃ v, corrupt_baselines_1.f (ix a (i : Int)) (ix b (i : Int)) = some v := by unfold corrupt_baselines_1.f; split <;> exact ⟨_, rfl⟩
      obtain ⟨v, hv⟩ := hb
      unfold slices_EqualFunc__api_Vis_api_Vis_api_Vis_api_Vis__corrupt_baselines_1.s1
      rw [decide_eq_true (by omega), if_pos rfl, if_pos ⟨by omega, by omega⟩, if_pos ⟨by omega, by omega⟩, hv, Option.bind_some, wsuc (by omega)]
      cases v
      · exact .inr ⟨false, rfl, trivial⟩
      · exact .inl ⟨rfl, trivial⟩) (by
      show slices_EqualFunc__api_Vis_api_Vis_api_Vis_api_Vis__corrupt_baselines_1.s1 a b (a.length : Int) = _
      unfold slices_EqualFunc__api_Vis_api_Vis_api_Vis_api_Vis__corrupt_baselines_1.s1
      rw [decide_eq_false (by omega), if_neg Bool.false_ne_true]) a.length 0 (by omega)
    rcases h with ⟨h1, _⟩ | ⟨v, h1, _⟩
    · exact ⟨true, (congrArg (fun o => Option.bind (Option.bind o _) _) h1).trans rfl⟩
    · exact ⟨v, (congrArg (fun o => Option.bind (Option.bind o _) _) h1).trans rfl⟩
  · exact ⟨false, by rw [decide_eq_false hl]; rfl⟩
def SerOk (s : List (List Vis)) : Prop := s.length ≤ 32 ∧ ∀ t : Nat, t < s.length → AllOk (ix s (t : Int))
theorem check_cases (s : List (List Vis)) : ∃ e, corrupt_Check.f s = some e ∧ (e = 0 → SerOk s) := by
  unfold corrupt_Check.f
  by_cases hl : 32 < s.length
  · exact ⟨4, by rw [decide_eq_true (by omega), if_pos rfl], fun h => by cases h⟩
  rw [decide_eq_false (by omega), if_neg Bool.false_ne_true]
  have h := iter_scan (r := Int) (f := fun x => corrupt_Check.s1 s x) s.length (fun t => AllOk (ix s (t : Int))) (fun e => ¬ e = 0) (fun i hi => by
    show (corrupt_Check.s1 s (i : Int) = _ ∧ _) ∨ ∃ v, corrupt_Check.s1 s (i : Int) = _ ∧ _
    obtain ⟨e, h1, h2⟩ := closure_cases (ix s (i : Int))
    unfold corrupt_Check.s1
    rw [decide_eq_true (by omega), if_pos rfl, if_pos ⟨by omega, by omega⟩, h1, Option.bind_some, wsuc (by omega)]
    by_cases he : e = 0
    · left; exact ⟨by rw [decide_eq_true he]; rfl, h2 he⟩
    · right; exact ⟨e, by rw [decide_eq_false he]; rfl, he⟩) (by
    show corrupt_Check.s1 s (s.length : Int) = _
    unfold corrupt_Check.s1
    rw [decide_eq_false (by omega), if_neg Bool.false_ne_true]) s.length 0 (by omega)
  rcases h with ⟨h1, h2⟩ | ⟨v, h1, h2⟩
  · have hser : SerOk s := ⟨by omega, fun t ht => h2 t (by omega) ht⟩
    have hk : ∃ e, corrupt_Check.k2 s = some e := by
      have h3 := iter_scan (r := Int) (f := fun x => slices_IndexFunc__api_Vis_api_Vis__corrupt_Check_1.s1 s s x) s.length (fun _ => True) (fun _ => True) (fun i hi => by
        show (slices_IndexFunc__api_Vis_api_Vis__corrupt_Check_1.s1 s s (i : Int) = _ ∧ _) ∨ ∃ v, slices_IndexFunc__api_Vis_api_Vis__corrupt_Check_1.s1 s s (i : Int) = _ ∧ _
        obtain ⟨v, hv⟩ := base_tot (ix s 0) (ix s (i : Int)) (hser.2 0 (by omega)).1
        unfold slices_IndexFunc__api_Vis_api_Vis__corrupt_Check_1.s1 corrupt_Check_1.f
        rw [decide_eq_true (by omega), if_pos rfl, if_pos ⟨by omega, by omega⟩, if_pos ⟨by omega, by omega⟩, hv, Option.bind_some, Option.bind_some, wsuc (by omega)]
        cases v
        · exact .inr ⟨(i : Int), rfl, trivial⟩
        · exact .inl ⟨rfl, trivial⟩) (by
        show slices_IndexFunc__api_Vis_api_Vis__corrupt_Check_1.s1 s s (s.length : Int) = _
        unfold slices_IndexFunc__api_Vis_api_Vis__corrupt_Check_1.s1
        rw [decide_eq_false (by omega), if_neg Bool.false_ne_true]) s.length 0 (by omega)
      unfold corrupt_Check.k2 slices_ContainsFunc__api_Vis_api_Vis__corrupt_Check_1.f slices_IndexFunc__api_Vis_api_Vis__corrupt_Check_1.f
      rcases h3 with ⟨h4, _⟩ | ⟨v, h4, _⟩
      · exact ⟨0, (congrArg (fun o => Option.bind (Option.bind (Option.bind o _) _) _) h4).trans rfl⟩
      · refine ⟨if decide (0 ≤ v) = true then 8 else 0, (congrArg (fun o => Option.bind (Option.bind (Option.bind o _) _) _) h4).trans ?_⟩
        show (if decide (0 ≤ v) = true then some 8 else some 0) = _
        split <;> rfl
    obtain ⟨e, he⟩ := hk
    exact ⟨e, (congrArg (fun o => Option.bind o _) h1).trans he, fun _ => hser⟩
  · exact ⟨v, (congrArg (fun o => Option.bind o _) h1).trans rfl, fun h => absurd h h2⟩
end Go.Proofs.Ytifpegepdgmmbaa.M
