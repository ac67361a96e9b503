/- Series that are spoilt: what comes is told by the worth of the events. -/
import Derived.Test.YtifpegepdgmmbaaPCorD
set_option linter.unusedVariables false
set_option linter.unusedSimpArgs false
set_option maxRecDepth 100000
namespace Go.Proofs.Ytifpegepdgmmbaa.M
open Go.GW Go.Proofs
theorem z0 : ¬ (!decide ((0 : Int) = 0)) = true := by decide
theorem gain_tot (g : List Cx) (hl : g.length ≤ 1000) : ∃ e, gain_Check.f g = some e := by
  unfold gain_Check.f
  by_cases h1 : (8 : Int) < (g.length : Int)
  · exact ⟨4, by rw [decide_eq_true h1, if_pos rfl]⟩
  rw [decide_eq_false h1, if_neg Bool.false_ne_true]
  have hk : ∀ b, ∃ e, gain_Check.k1 b = some e := by intro b; unfold gain_Check.k1; split <;> exact ⟨_, rfl⟩
  by_cases h2 : (g.length : Int) = 0
  · rw [decide_eq_true h2, if_pos rfl]; exact hk _
  rw [decide_eq_false h2, if_neg Bool.false_ne_true]
  have h := iter_scan (r := Int) (f := fun s => slices_IndexFunc__api_Cx_api_Cx__gain_Check_1.s1 g s) g.length (fun _ => True) (fun _ => True) (fun i hi => by
    show (slices_IndexFunc__api_Cx_api_Cx__gain_Check_1.s1 g (i : Int) = _ ∧ _) ∨ ∃ v, slices_IndexFunc__api_Cx_api_Cx__gain_Check_1.s1 g (i : Int) = _ ∧ _
    have hb : ∃ v, gain_Check_1.f (ix g (i : Int)) = some v := by
      unfold gain_Check_1.f gain_zero.f
      rw [cx_check_eq, Option.bind_some]
      split
      · exact ⟨_, rfl⟩
      · split <;> exact ⟨_, rfl⟩
    obtain ⟨v, hv⟩ := hb
    unfold slices_IndexFunc__api_Cx_api_Cx__gain_Check_1.s1
    rw [decide_eq_true (by omega), if_pos rfl, if_pos ⟨by omega, by omega⟩, hv, Option.bind_some, wsuc (by omega)]
    cases v
    · exact .inl ⟨rfl, trivial⟩
    · exact .inr ⟨(i : Int), rfl, trivial⟩) (by
    show slices_IndexFunc__api_Cx_api_Cx__gain_Check_1.s1 g (g.length : Int) = _
    unfold slices_IndexFunc__api_Cx_api_Cx__gain_Check_1.s1
    rw [decide_eq_false (by omega), if_neg Bool.false_ne_true]) g.length 0 (by omega)
  unfold slices_ContainsFunc__api_Cx_api_Cx__gain_Check_1.f slices_IndexFunc__api_Cx_api_Cx__gain_Check_1.f
  rcases h with ⟨h1, _⟩ | ⟨v, h1, _⟩
  · obtain ⟨e, he⟩ := hk false
    exact ⟨e, (congrArg (fun o => Option.bind (Option.bind (Option.bind o _) _) _) h1).trans he⟩
  · obtain ⟨e, he⟩ := hk (decide (0 ≤ v))
    exact ⟨e, (congrArg (fun o => Option.bind (Option.bind (Option.bind o _) _) _) h1).trans he⟩
theorem wrong_tot (l : List Vis) (g : List Cx) (hl : l.length ≤ 64) : ∃ b, slices_ContainsFunc__api_Vis_api_Vis__gain_Act_1.f l g = some b := by
  have h := iter_scan (r := Int) (f := fun s => slices_IndexFunc__api_Vis_api_Vis__gain_Act_1.s1 l g s) l.length (fun _ => True) (fun _ => True) (fun i hi => by
    show (slices_IndexFunc__api_Vis_api_Vis__gain_Act_1.s1 l g (i : Int) = _ ∧ _) ∨ ∃ v, slices_IndexFunc__api_Vis_api_Vis__gain_Act_1.s1 l g (i : Int) = _ ∧ _
    have hb : ∃ v, gain_Act_1.f (ix l (i : Int)) g = some v := by
      unfold gain_Act_1.f
      rw [cx_check_eq, Option.bind_some]
      repeat' split
      all_goals exact ⟨_, rfl⟩
    obtain ⟨v, hv⟩ := hb
    unfold slices_IndexFunc__api_Vis_api_Vis__gain_Act_1.s1
    rw [decide_eq_true (by omega), if_pos rfl, if_pos ⟨by omega, by omega⟩, hv, Option.bind_some, wsuc (by omega)]
    cases v
    · exact .inl ⟨rfl, trivial⟩
    · exact .inr ⟨(i : Int), rfl, trivial⟩) (by
    show slices_IndexFunc__api_Vis_api_Vis__gain_Act_1.s1 l g (l.length : Int) = _
    unfold slices_IndexFunc__api_Vis_api_Vis__gain_Act_1.s1
    rw [decide_eq_false (by omega), if_neg Bool.false_ne_true]) l.length 0 (by omega)
  unfold slices_ContainsFunc__api_Vis_api_Vis__gain_Act_1.f slices_IndexFunc__api_Vis_api_Vis__gain_Act_1.f
  rcases h with ⟨h1, _⟩ | ⟨v, h1, _⟩
  · exact ⟨_, (congrArg (fun o => Option.bind (Option.bind o _) _) h1).trans rfl⟩
  · exact ⟨_, (congrArg (fun o => Option.bind (Option.bind o _) _) h1).trans rfl⟩
/-- A list, acted on. -/
def ListActed (W : Nat → Q2) (l out : List Vis) : Prop := out.length = l.length ∧ ∀ k : Nat, k < l.length → Acted W (ix l (k : Int)) (ix out (k : Int))
theorem ix_app {α : Type} [Inhabited α] (xs : List α) (v : α) (k : Nat) : ix (xs ++ [v]) (k : Int) = if k < xs.length then ix xs (k : Int) else if k = xs.length then v else default := by
  simp only [ix, List.getD_eq_getElem?_getD, Int.toNat_natCast]
  by_cases h : k < xs.length
  · rw [if_pos h, List.getElem?_append_left h]
  · rw [if_neg h, List.getElem?_append_right (by omega)]
    by_cases h2 : k = xs.length
    · rw [if_pos h2, show k - xs.length = 0 by omega]; rfl
    · rw [if_neg h2, List.getElem?_eq_none (by simp; omega)]; rfl
theorem made_loop {W : Nat → Q2} {g : List Cx} (hgl : g.length = 8) (hg : ∀ i : Nat, i < 8 → IsQ (ix g (i : Int)) (W i)) {l : List Vis} (hl : AllOk l) : ∀ (k n : Nat) (out : List Vis), n + k = l.length → out.length = n → (∀ j : Nat, j < n → Acted W (ix l (j : Int)) (ix out (j : Int))) →
    (∃ out', iter (fun (s : (List Vis) × Int) => gain_made__api_Vis_api_Vis__gain_Act_2.s1 l g s.1 s.2) (out, (n : Int)) = some (.brk out') ∧ ListActed W l out') ∨ iter (fun (s : (List Vis) × Int) => gain_made__api_Vis_api_Vis__gain_Act_2.s1 l g s.1 s.2) (out, (n : Int)) = some (.ret ([], 16))
  | 0, n, out, h, ho, hv => by
    left
    refine ⟨out, iter_brk ?_, by omega, fun k hk => hv k (by omega)⟩
    show gain_made__api_Vis_api_Vis__gain_Act_2.s1 l g out (n : Int) = _
    unfold gain_made__api_Vis_api_Vis__gain_Act_2.s1
    rw [decide_eq_false (by omega), if_neg Bool.false_ne_true]
  | k + 1, n, out, h, ho, hv => by
    have hn : n < l.length := by omega
    have h64 := hl.1
    rcases act_one hgl hg (hl.2 _ (ix_mem hn)) (n : Int) with ⟨w, h1, h2⟩ | ⟨w, e, h1, h2⟩
    · rw [iter_next (s' := (out ++ [w], ((n + 1 : Nat) : Int))) (by
        show gain_made__api_Vis_api_Vis__gain_Act_2.s1 l g out (n : Int) = _
        unfold gain_made__api_Vis_api_Vis__gain_Act_2.s1
        rw [decide_eq_true (by omega), if_pos rfl, if_pos ⟨by omega, by omega⟩, h1, Option.bind_some, if_neg z0, if_pos (by simp only [List.length_cons, List.length_nil]; omega), wsuc (by omega)])]
      refine made_loop hgl hg hl k (n + 1) (out ++ [w]) (by omega) (by simp [ho]) fun j hj => ?_
      rw [ix_app, ho]
      by_cases hjn : j < n
      · rw [if_pos hjn]; exact hv j hjn
      · rw [if_neg hjn, if_pos (by omega), show j = n by omega]; exact h2
    · right
      refine iter_ret ?_
      show gain_made__api_Vis_api_Vis__gain_Act_2.s1 l g out (n : Int) = _
      unfold gain_made__api_Vis_api_Vis__gain_Act_2.s1
      rw [decide_eq_true (by omega), if_pos rfl, if_pos ⟨by omega, by omega⟩, h1, Option.bind_some, decide_eq_false h2]
      rfl
theorem act_cases {W : Nat → Q2} {g : List Cx} (hgl : g.length = 8) (hg : ∀ i : Nat, i < 8 → IsQ (ix g (i : Int)) (W i)) {l : List Vis} (hl : AllOk l) : (∃ out, gain_Act.f g l = some (out, 0) ∧ ListActed W l out) ∨ ∃ out e, gain_Act.f g l = some (out, e) ∧ ¬ e = 0 := by
  obtain ⟨e, he⟩ := gain_tot g (by omega)
  obtain ⟨b, hb⟩ := wrong_tot l g hl.1
  have h64 := hl.1
  unfold gain_Act.f
  rw [he, Option.bind_some]
  by_cases h0 : e = 0
  · rw [decide_eq_true h0, if_neg (by decide), decide_eq_false (by omega), if_neg Bool.false_ne_true, hb, Option.bind_some]
    cases b
    · rw [if_neg Bool.false_ne_true]
      unfold gain_made__api_Vis_api_Vis__gain_Act_2.f
      rcases made_loop hgl hg hl l.length 0 [] (by omega) rfl (fun j hj => by omega) with ⟨out, h1, h2⟩ | h1
      · exact .inl ⟨out, (congrArg (fun o => Option.bind (Option.bind o _) _) h1).trans rfl, h2⟩
      · exact .inr ⟨[], 16, (congrArg (fun o => Option.bind (Option.bind o _) _) h1).trans rfl, by decide⟩
    · exact .inr ⟨[], 8, by rw [if_pos rfl], by decide⟩
  · exact .inr ⟨[], e, by rw [decide_eq_false h0]; rfl, h0⟩

/-! ### Spoil -/
def TabsOk (l : List Spoil) (n : Nat) (ts : List (List Cx)) : Prop := ts.length = n ∧ ∀ t : Nat, t < n → TabOk l (t : Int) (ix ts (t : Int))
def SpOk (s : List (List Vis)) (l : List Spoil) (out : List (List Vis)) : Prop := out.length = s.length ∧ ∀ t : Nat, t < s.length → ListActed (wth l (t : Int)) (ix s (t : Int)) (ix out (t : Int))
theorem tabs_loop {s : List (List Vis)} {l : List Spoil} (hs : s.length ≤ 32) (hl : l.length ≤ 8) : ∀ (k n : Nat) (ts : List (List Cx)), n + k = max 1 s.length → TabsOk l n ts →
    (∃ ts', iter (fun (q : (List (List Cx)) × Int) => corrupt_acted__corrupt_Spoil_1.s1 s l q.1 q.2) (ts, (n : Int)) = some (.brk ts') ∧ TabsOk l (max 1 s.length) ts') ∨ ∃ out e, iter (fun (q : (List (List Cx)) × Int) => corrupt_acted__corrupt_Spoil_1.s1 s l q.1 q.2) (ts, (n : Int)) = some (.ret (out, e)) ∧ ¬ e = 0
  | 0, n, ts, h, ht => by
    have hn : n = max 1 s.length := by omega
    have hg : gmax 1 (s.length : Int) = ((max 1 s.length : Nat) : Int) := by unfold gmax; split <;> omega
    left
    refine ⟨ts, iter_brk ?_, hn ▸ ht⟩
    show corrupt_acted__corrupt_Spoil_1.s1 s l ts (n : Int) = _
    unfold corrupt_acted__corrupt_Spoil_1.s1
    rw [hg, decide_eq_false (by omega), if_neg Bool.false_ne_true]
  | k + 1, n, ts, h, ht => by
    have hg : gmax 1 (s.length : Int) = ((max 1 s.length : Nat) : Int) := by unfold gmax; split <;> omega
    have htl := ht.1
    rcases Table_cases l (time := (n : Int)) (by omega) (by omega) hl with ⟨g, h1, h2⟩ | ⟨g, e, h1, h2⟩
    · rw [iter_next (s' := (ts ++ [g], ((n + 1 : Nat) : Int))) (by
        show corrupt_acted__corrupt_Spoil_1.s1 s l ts (n : Int) = _
        unfold corrupt_acted__corrupt_Spoil_1.s1
        rw [hg, decide_eq_true (by omega), if_pos rfl, h1, Option.bind_some, if_neg z0, if_pos (by simp only [List.length_cons, List.length_nil]; omega), wsuc (by omega)])]
      refine tabs_loop hs hl k (n + 1) (ts ++ [g]) (by omega) ⟨by simp [htl], fun t ht' => ?_⟩
      rw [ix_app, htl]
      by_cases htn : t < n
      · rw [if_pos htn]; exact ht.2 t htn
      · rw [if_neg htn, if_pos (by omega), show t = n by omega]; exact h2
    · right
      refine ⟨[], e, iter_ret ?_, h2⟩
      show corrupt_acted__corrupt_Spoil_1.s1 s l ts (n : Int) = _
      unfold corrupt_acted__corrupt_Spoil_1.s1
      rw [hg, decide_eq_true (by omega), if_pos rfl, h1, Option.bind_some, decide_eq_false h2]
      rfl
theorem acted_loop {s : List (List Vis)} {l : List Spoil} (hs : SerOk s) {ts : List (List Cx)} (ht : TabsOk l (max 1 s.length) ts) : ∀ (k n : Nat) (out : List (List Vis)), n + k = s.length → out.length = n → (∀ t : Nat, t < n → ListActed (wth l (t : Int)) (ix s (t : Int)) (ix out (t : Int))) →
    (∃ out', iter (fun (q : (List (List Vis)) × Int) => corrupt_acted__corrupt_Spoil_1.s3 s ts q.1 q.2) (out, (n : Int)) = some (.brk out') ∧ SpOk s l out') ∨ ∃ o e, iter (fun (q : (List (List Vis)) × Int) => corrupt_acted__corrupt_Spoil_1.s3 s ts q.1 q.2) (out, (n : Int)) = some (.ret (o, e)) ∧ ¬ e = 0
  | 0, n, out, h, ho, hv => by
    left
    refine ⟨out, iter_brk ?_, by omega, fun t ht' => hv t (by omega)⟩
    show corrupt_acted__corrupt_Spoil_1.s3 s ts out (n : Int) = _
    unfold corrupt_acted__corrupt_Spoil_1.s3
    rw [decide_eq_false (by omega), if_neg Bool.false_ne_true]
  | k + 1, n, out, h, ho, hv => by
    have hn : n < s.length := by omega
    have h32 := hs.1
    have htl := ht.1
    have htn := ht.2 n (by omega)
    rcases act_cases htn.1 htn.2 (hs.2 n hn) with ⟨w, h1, h2⟩ | ⟨w, e, h1, h2⟩
    · rw [iter_next (s' := (out ++ [w], ((n + 1 : Nat) : Int))) (by
        show corrupt_acted__corrupt_Spoil_1.s3 s ts out (n : Int) = _
        unfold corrupt_acted__corrupt_Spoil_1.s3 corrupt_Spoil_1.f
        rw [decide_eq_true (by omega), if_pos rfl, if_pos ⟨by omega, by omega⟩, if_pos ⟨by omega, by omega⟩, Option.bind_some, if_neg z0, h1, Option.bind_some, if_neg z0, if_pos (by simp only [List.length_cons, List.length_nil]; omega), wsuc (by omega)])]
      refine acted_loop hs ht k (n + 1) (out ++ [w]) (by omega) (by simp [ho]) fun j hj => ?_
      rw [ix_app, ho]
      by_cases hjn : j < n
      · rw [if_pos hjn]; exact hv j hjn
      · rw [if_neg hjn, if_pos (by omega), show j = n by omega]; exact h2
    · right
      refine ⟨[], e, iter_ret ?_, h2⟩
      show corrupt_acted__corrupt_Spoil_1.s3 s ts out (n : Int) = _
      unfold corrupt_acted__corrupt_Spoil_1.s3 corrupt_Spoil_1.f
      rw [decide_eq_true (by omega), if_pos rfl, if_pos ⟨by omega, by omega⟩, if_pos ⟨by omega, by omega⟩, Option.bind_some, if_neg z0, h1, Option.bind_some, decide_eq_false h2]
      rfl
theorem spoil_cases (s : List (List Vis)) {l : List Spoil} (hl : l.length ≤ 8) : (∃ out, corrupt_Spoil.f s l = some (out, 0) ∧ SerOk s ∧ SpOk s l out) ∨ ∃ out e, corrupt_Spoil.f s l = some (out, e) ∧ ¬ e = 0 := by
  obtain ⟨e, he, hs⟩ := check_cases s
  unfold corrupt_Spoil.f corrupt_acted__corrupt_Spoil_1.f
  rw [he, Option.bind_some]
  by_cases h0 : e = 0
  · have hser := hs h0
    rw [decide_eq_true h0, if_neg (by decide)]
    rcases tabs_loop hser.1 hl (max 1 s.length) 0 [] (by omega) ⟨rfl, fun t ht => by omega⟩ with ⟨ts, h1, h2⟩ | ⟨o, e', h1, h2⟩
    · rcases acted_loop hser h2 s.length 0 [] (by omega) rfl (fun t ht => by omega) with ⟨out, h3, h4⟩ | ⟨o, e', h3, h4⟩
      · left
        refine ⟨out, (congrArg (fun o => Option.bind (Option.bind o _) _) h1).trans ?_, hser, h4⟩
        show ((corrupt_acted__corrupt_Spoil_1.k2 s ts).bind _) = _
        unfold corrupt_acted__corrupt_Spoil_1.k2
        exact (congrArg (fun o => Option.bind (Option.bind o _) _) h3).trans rfl
      · right
        refine ⟨o, e', (congrArg (fun o => Option.bind (Option.bind o _) _) h1).trans ?_, h4⟩
        show ((corrupt_acted__corrupt_Spoil_1.k2 s ts).bind _) = _
        unfold corrupt_acted__corrupt_Spoil_1.k2
        exact (congrArg (fun o => Option.bind (Option.bind o _) _) h3).trans rfl
    · exact .inr ⟨o, e', (congrArg (fun o => Option.bind (Option.bind o _) _) h1).trans rfl, h2⟩
  · exact .inr ⟨[], e, by rw [decide_eq_false h0]; rfl, h0⟩
end Go.Proofs.Ytifpegepdgmmbaa.M
