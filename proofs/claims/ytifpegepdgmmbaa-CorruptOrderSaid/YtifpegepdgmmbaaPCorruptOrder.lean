/- The plain law of CorruptOrder: the order of events does not matter, and some and then others are all. -/
import Derived.Test.YtifpegepdgmmbaaPCorF
set_option linter.unusedVariables false
set_option linter.unusedSimpArgs false
set_option maxRecDepth 100000
namespace Go.Proofs.Ytifpegepdgmmbaa.M
open Go.GW Go.Proofs
theorem alive_c : law35_alive.f_c = some true := by kernel_rfl
theorem alive_eq : law35_alive.f = some true := law35_alive.f_le _ alive_c
theorem rbase_tot (a b : List Vis) (ha : a.length ≤ 64) : ∃ v, ref35_baselines.f a b = some v := by
  unfold ref35_baselines.f
  by_cases hl : (a.length : Int) = (b.length : Int)
  · rw [decide_eq_true hl, if_neg (by decide)]
    have h := iter_scan (r := Bool) (f := fun s => ref35_baselines.s4 a b s) a.length (fun _ => True) (fun _ => True) (fun i hi => by
      show (ref35_baselines.s4 a b (i : Int) = _ ∧ _) ∨ ∃ v, ref35_baselines.s4 a b (i : Int) = _ ∧ _
      have hk : ∀ q, (ref35_baselines.k6 (i : Int) q = some (.next ((i + 1 : Nat) : Int)) ∧ True) ∨ ∃ v, ref35_baselines.k6 (i : Int) q = some (.ret v) ∧ True := by
        intro q
        unfold ref35_baselines.k6
        cases q
        · left; rw [if_neg Bool.false_ne_true, wsuc (by omega)]; exact ⟨rfl, trivial⟩
        · right; exact ⟨false, by rw [if_pos rfl], trivial⟩
      unfold ref35_baselines.s4
      rw [decide_eq_true (by omega), if_pos rfl, if_pos ⟨by omega, by omega⟩, if_pos ⟨by omega, by omega⟩]
      split <;> exact hk _) (by
      show ref35_baselines.s4 a b (a.length : Int) = _
      unfold ref35_baselines.s4
      rw [decide_eq_false (by omega), if_neg Bool.false_ne_true]) a.length 0 (by omega)
    rcases h with ⟨h1, _⟩ | ⟨v, h1, _⟩
    · exact ⟨true, (congrArg (fun o => Option.bind o _) h1).trans rfl⟩
    · exact ⟨v, (congrArg (fun o => Option.bind o _) h1).trans rfl⟩
  · exact ⟨false, by rw [decide_eq_false hl]; rfl⟩
theorem rcheck_tot (s : List (List Vis)) : ∃ e, ref35_Check.f s = some e := by
  unfold ref35_Check.f
  by_cases hl : 32 < s.length
  · exact ⟨4, by rw [decide_eq_true (by omega), if_pos rfl]⟩
  rw [decide_eq_false (by omega), if_neg Bool.false_ne_true]
  have h := iter_scan (r := Int) (f := fun x => ref35_Check.s1 s x) s.length (fun t => (ix s (t : Int)).length ≤ 64) (fun _ => True) (fun i hi => by
    show (ref35_Check.s1 s (i : Int) = _ ∧ _) ∨ ∃ v, ref35_Check.s1 s (i : Int) = _ ∧ _
    obtain ⟨e, h1, h2⟩ := ref27_tot (ix s (i : Int))
    unfold ref35_Check.s1
    rw [decide_eq_true (by omega), if_pos rfl, if_pos ⟨by omega, by omega⟩, h1, Option.bind_some, wsuc (by omega)]
    by_cases he : e = 0
    · left; exact ⟨by rw [decide_eq_true he]; rfl, h2 he⟩
    · right; exact ⟨e, by rw [decide_eq_false he]; rfl, trivial⟩) (by
    show ref35_Check.s1 s (s.length : Int) = _
    unfold ref35_Check.s1
    rw [decide_eq_false (by omega), if_neg Bool.false_ne_true]) s.length 0 (by omega)
  rcases h with ⟨h1, h2⟩ | ⟨v, h1, _⟩
  · have hend : ∀ i : Nat, s.length ≤ i → ref35_Check.s6 s (i : Int) = some (.brk ()) := fun i hi => by
      unfold ref35_Check.s6
      rw [decide_eq_false (by omega), if_neg Bool.false_ne_true]
    have hk : ∃ e, ref35_Check.k2 s = some e := by
      unfold ref35_Check.k2
      by_cases h0 : s.length = 0
      · exact ⟨0, (congrArg (fun o => Option.bind o _) (iter_brk (hend 1 (by omega)))).trans rfl⟩
      · have h3 := iter_scan (r := Int) (f := fun x => ref35_Check.s6 s x) s.length (fun _ => True) (fun _ => True) (fun i hi => by
          show (ref35_Check.s6 s (i : Int) = _ ∧ _) ∨ ∃ v, ref35_Check.s6 s (i : Int) = _ ∧ _
          obtain ⟨v, hv⟩ := rbase_tot (ix s 0) (ix s (i : Int)) (h2 0 (by omega) (by omega))
          unfold ref35_Check.s6
          rw [decide_eq_true (by omega), if_pos rfl, if_pos ⟨by omega, by omega⟩, if_pos ⟨by omega, by omega⟩, hv, Option.bind_some]
          unfold ref35_Check.k8
          rw [wsuc (by omega)]
          cases v
          · exact .inr ⟨8, rfl, trivial⟩
          · exact .inl ⟨rfl, trivial⟩) (hend s.length (by omega)) (s.length - 1) 1 (by omega)
        rcases h3 with ⟨h4, _⟩ | ⟨v, h4, _⟩
        · exact ⟨0, (congrArg (fun o => Option.bind o _) h4).trans rfl⟩
        · exact ⟨v, (congrArg (fun o => Option.bind o _) h4).trans rfl⟩
    obtain ⟨e, he⟩ := hk
    exact ⟨e, (congrArg (fun o => Option.bind o _) h1).trans he⟩
  · exact ⟨v, (congrArg (fun o => Option.bind o _) h1).trans rfl⟩

/-! ### The same -/
theorem same26 (a : List Vis) (ha : a.length ≤ 64) : ref26_Same.f a a = some true := by
  unfold ref26_Same.f
  rw [decide_eq_true rfl, if_neg (by decide)]
  have h := iter_scan (r := Bool) (f := fun s => ref26_Same.s1 a a s) a.length (fun _ => True) (fun _ => False) (fun i hi => by
    left
    show ref26_Same.s1 a a (i : Int) = _ ∧ _
    unfold ref26_Same.s1
    rw [decide_eq_true (by omega), if_pos rfl, if_pos ⟨by omega, by omega⟩, if_pos ⟨by omega, by omega⟩, decide_eq_true rfl, if_neg (by decide), wsuc (by omega)]
    exact ⟨rfl, trivial⟩) (by
    show ref26_Same.s1 a a (a.length : Int) = _
    unfold ref26_Same.s1
    rw [decide_eq_false (by omega), if_neg Bool.false_ne_true]) a.length 0 (by omega)
  rcases h with ⟨h1, _⟩ | ⟨v, _, h2⟩
  · exact (congrArg (fun o => Option.bind o _) h1).trans rfl
  · exact h2.elim
theorem same35 (a : List (List Vis)) (ha : a.length ≤ 32) (h64 : ∀ t : Nat, t < a.length → (ix a (t : Int)).length ≤ 64) : ref35_Same.f a a = some true := by
  unfold ref35_Same.f
  rw [decide_eq_true rfl, if_neg (by decide)]
  have h := iter_scan (r := Bool) (f := fun s => ref35_Same.s4 a a s) a.length (fun _ => True) (fun _ => False) (fun i hi => by
    left
    show ref35_Same.s4 a a (i : Int) = _ ∧ _
    unfold ref35_Same.s4
    rw [decide_eq_true (by omega), if_pos rfl, if_pos ⟨by omega, by omega⟩, if_pos ⟨by omega, by omega⟩, same26 _ (h64 i hi), Option.bind_some]
    unfold ref35_Same.k6
    rw [if_neg (by decide), wsuc (by omega)]
    exact ⟨rfl, trivial⟩) (by
    show ref35_Same.s4 a a (a.length : Int) = _
    unfold ref35_Same.s4
    rw [decide_eq_false (by omega), if_neg Bool.false_ne_true]) a.length 0 (by omega)
  rcases h with ⟨h1, _⟩ | ⟨v, _, h2⟩
  · exact (congrArg (fun o => Option.bind o _) h1).trans rfl
  · exact h2.elim
theorem ext_ix {α : Type} [Inhabited α] {xs ys : List α} (hl : xs.length = ys.length) (h : ∀ k : Nat, k < xs.length → ix xs (k : Int) = ix ys (k : Int)) : xs = ys :=
  List.ext_getElem hl fun i h1 h2 => by
    have := h i h1
    rwa [ix_at h1, ix_at h2] at this
theorem SpOk.uniq {s a b : List (List Vis)} {l l' : List Spoil} (h1 : SpOk s l a) (h2 : SpOk s l' b) (hw : ∀ t i, wth l t i = wth l' t i) : a = b := by
  refine ext_ix (by rw [h1.1, h2.1]) fun t ht => ?_
  have ht' : t < s.length := by rw [← h1.1]; exact ht
  have e : wth l (t : Int) = wth l' (t : Int) := funext fun i => hw _ i
  have p := h1.2 t ht'
  have q := h2.2 t ht'
  rw [e] at p
  refine ext_ix (by rw [p.1, q.1]) fun k hk => ?_
  have hk' : k < (ix s (t : Int)).length := by rw [← p.1]; exact hk
  exact (p.2 k hk').uniq (q.2 k hk')
theorem act_alg (a b v c d : Q2) : q2mul (q2mul b (q2mul (q2mul a v) (conjQ c))) (conjQ d) = q2mul (q2mul (q2mul a b) v) (conjQ (q2mul c d)) := by
  unfold q2mul conjQ
  ext <;> (simp only; grind)
theorem Acted.trans {W1 W2 : Nat → Q2} {u v w : Vis} (h1 : Acted W1 u v) (h2 : Acted W2 v w) : Acted (fun i => q2mul (W1 i) (W2 i)) u w := by
  refine ⟨h2.i.trans h1.i, h2.j.trans h1.j, h2.n.trans h1.n, ?_⟩
  have h := h2.v
  have e : (vr v.V, vi v.V) = q2mul (q2mul (W1 u.I.toNat) (vr u.V, vi u.V)) (conjQ (W1 u.J.toNat)) := Prod.ext h1.v.re h1.v.im
  rw [e, h1.i, h1.j, act_alg] at h
  exact h
theorem SpOk.trans {s c d : List (List Vis)} {l m : List Spoil} (h1 : SpOk s l c) (h2 : SpOk c m d) : SpOk s (l ++ m) d := by
  refine ⟨h2.1.trans h1.1, fun t ht => ?_⟩
  have p := h1.2 t ht
  have q := h2.2 t (by rw [h1.1]; exact ht)
  have e : wth (l ++ m) (t : Int) = fun i => q2mul (wth l (t : Int) i) (wth m (t : Int) i) := funext fun i => wth_append l m _ i
  rw [e]
  exact ⟨q.1.trans p.1, fun k hk => (p.2 k hk).trans (q.2 k (by rw [p.1]; exact hk))⟩
theorem sp_len {s out : List (List Vis)} {l : List Spoil} (hs : SerOk s) (h : SpOk s l out) : out.length ≤ 32 ∧ ∀ t : Nat, t < out.length → (ix out (t : Int)).length ≤ 64 := by
  refine ⟨by rw [h.1]; exact hs.1, fun t ht => ?_⟩
  have ht' : t < s.length := by rw [← h.1]; exact ht
  rw [(h.2 t ht').1]
  exact (hs.2 t ht').1

/-! ### The law -/
theorem back_loop {l : List Spoil} (hl : l.length ≤ 8) : ∀ (n : Nat), n ≤ l.length → iter (fun (s : (List Spoil) × Int) => law35_CorruptOrder.s2 l s.1 s.2) ((l.drop n).reverse, (n : Int) - 1) = some (.brk l.reverse)
  | 0, _ => by
    refine (iter_brk (t := (l.drop 0).reverse) ?_).trans (by rw [List.drop_zero])
    show law35_CorruptOrder.s2 l _ (((0 : Nat) : Int) - 1) = _
    unfold law35_CorruptOrder.s2
    rw [decide_eq_false (by omega), if_neg Bool.false_ne_true]
  | n + 1, h => by
    have hd : (l.drop n).reverse = (l.drop (n + 1)).reverse ++ [ix l (n : Int)] := by
      rw [List.drop_eq_getElem_cons (by omega), List.reverse_cons, ix_at (by omega)]
    have hlen : (l.drop (n + 1)).reverse.length ≤ 8 := by rw [List.length_reverse, List.length_drop]; omega
    have e1 : ((n + 1 : Nat) : Int) - 1 = (n : Int) := by omega
    rw [e1, iter_next (s' := ((l.drop n).reverse, (n : Int) - 1)) (by
      show law35_CorruptOrder.s2 l (l.drop (n + 1)).reverse (n : Int) = _
      unfold law35_CorruptOrder.s2
      rw [decide_eq_true (by omega), if_pos rfl, if_pos ⟨by omega, by omega⟩, if_pos (by simp only [List.length_cons, List.length_nil]; omega), hd, w64_id (by omega) (by omega)])]
    exact back_loop hl n (by omega)
theorem corruptOrder_law (x0 : (List (List Vis))) (k0 : ∀ y ∈ x0, ∀ z ∈ y, ok_Vis z) (m0 : x0.length ≤ maxLen) (x1 : (List Spoil)) (k1 : ∀ y ∈ x1, ok_Spoil y) (m1 : x1.length ≤ maxLen) (x2 : Int) (k2 : okInt .i64 x2) : law35_CorruptOrder.f x0 x1 x2 = some true := by
  have hk1 : law35_CorruptOrder.k1 x0 x1 x2 true true = some true := by unfold law35_CorruptOrder.k1; rw [if_pos rfl]
  have m0' : x0.length ≤ 9223372036854775807 := by unfold maxLen at m0; omega
  unfold law35_CorruptOrder.f
  rw [alive_eq, Option.bind_some]
  obtain ⟨b, hb⟩ := great_tot x0 m0'
  obtain ⟨e0, he0⟩ := rcheck_tot x0
  rw [hb, Option.bind_some]
  cases b
  case true => rw [if_pos rfl]; exact hk1
  rw [if_neg Bool.false_ne_true, he0, Option.bind_some]
  by_cases h0 : e0 = 0
  case neg => rw [decide_eq_false h0, if_pos (show (!false) = true from rfl)]; exact hk1
  rw [decide_eq_true h0, if_neg (by decide)]
  by_cases h1 : 8 < (x1.length : Int)
  · rw [decide_eq_true h1, if_pos rfl]; exact hk1
  rw [decide_eq_false h1, if_neg Bool.false_ne_true]
  by_cases h2 : x2 < 0
  · rw [decide_eq_true h2, if_pos rfl]; exact hk1
  rw [decide_eq_false h2, if_neg Bool.false_ne_true]
  by_cases h3 : (x1.length : Int) < x2
  · rw [decide_eq_true h3, if_pos rfl]; exact hk1
  rw [decide_eq_false h3, if_neg Bool.false_ne_true]
  have hl : x1.length ≤ 8 := by omega
  obtain ⟨n, hn⟩ : ∃ n : Nat, x2 = (n : Int) := ⟨x2.toNat, by omega⟩
  subst hn
  have hbk := back_loop hl x1.length (Nat.le_refl _)
  rw [List.drop_length, List.reverse_nil] at hbk
  show law35_CorruptOrder.k1 x0 x1 (n : Int) true false = some true
  unfold law35_CorruptOrder.k1
  rw [if_neg Bool.false_ne_true]
  simp only [lt']
  rw [w64_id (by omega) (by omega)]
  refine (congrArg (fun o => Option.bind o _) hbk).trans ?_
  show law35_CorruptOrder.k3 x0 x1 (n : Int) true x1.reverse = some true
  have hk4 : ∀ a e, corrupt_Spoil.f x0 x1 = some (a, e) → law35_CorruptOrder.k4 x0 x1 (n : Int) true (a, e) false = some true := by
    intro a e ha
    unfold law35_CorruptOrder.k4
    rw [if_neg Bool.false_ne_true, if_pos ⟨by omega, by omega⟩, Int.toNat_natCast, List.drop_zero]
    rcases spoil_cases x0 (l := x1.take n) (by rw [List.length_take]; omega) with ⟨c, hc, hs, hsp⟩ | ⟨c, g, hc, hg⟩
    · rw [hc, Option.bind_some, if_neg z0, if_pos ⟨by omega, by omega⟩, List.take_length]
      rcases spoil_cases c (l := x1.drop n) (by rw [List.length_drop]; omega) with ⟨d, hd, hs2, hsp2⟩ | ⟨d, g, hd, hg⟩
      · rw [hd, Option.bind_some, if_pos rfl, if_neg z0]
        by_cases he : e = 0
        · subst he
          rw [if_neg z0]
          rcases spoil_cases x0 (l := x1) hl with ⟨a', ha', _, hspa⟩ | ⟨a', e', ha', he'⟩
          · rw [ha] at ha'
            injection ha' with ha'
            injection ha' with ha' _
            subst ha'
            have hall := hsp.trans hsp2
            rw [List.take_append_drop] at hall
            have := hspa.uniq hall (fun _ _ => rfl)
            subst this
            obtain ⟨q1, q2⟩ := sp_len hs hspa
            rw [same35 a q1 q2, Option.bind_some]
          · rw [ha] at ha'
            injection ha' with ha'
            injection ha' with _ ha'
            exact absurd ha'.symm he'
        · rw [decide_eq_false he, if_pos (show (!false) = true from rfl)]
      · rw [hd, Option.bind_some, if_pos rfl, decide_eq_false hg, if_pos (show (!false) = true from rfl)]
    · rw [hc, Option.bind_some, decide_eq_false hg, if_pos (show (!false) = true from rfl)]
  unfold law35_CorruptOrder.k3
  rcases spoil_cases x0 (l := x1) hl with ⟨a, ha, hs, hspa⟩ | ⟨a, e, ha, he⟩
  · rcases spoil_cases x0 (l := x1.reverse) (by rw [List.length_reverse]; exact hl) with ⟨b, hb2, _, hspb⟩ | ⟨b, f, hb2, hf⟩
    · have := hspa.uniq hspb (fun t i => (wth_reverse x1 t i).symm)
      subst this
      obtain ⟨q1, q2⟩ := sp_len hs hspa
      rw [ha, Option.bind_some, hb2, Option.bind_some, decide_eq_true rfl, if_pos rfl, if_pos rfl, same35 a q1 q2, Option.bind_some]
      exact hk4 a 0 ha
    · rw [ha, Option.bind_some, hb2, Option.bind_some, decide_eq_true rfl, if_pos rfl, decide_eq_false hf, if_neg Bool.false_ne_true]
      exact hk4 a 0 ha
  · obtain ⟨b, f, hb2⟩ : ∃ b f, corrupt_Spoil.f x0 x1.reverse = some (b, f) := by
      rcases spoil_cases x0 (l := x1.reverse) (by rw [List.length_reverse]; exact hl) with ⟨b, hb2, _⟩ | ⟨b, f, hb2, _⟩
      · exact ⟨b, 0, hb2⟩
      · exact ⟨b, f, hb2⟩
    rw [ha, Option.bind_some, hb2, Option.bind_some, decide_eq_false he, if_neg Bool.false_ne_true]
    exact hk4 a e ha
end Go.Proofs.Ytifpegepdgmmbaa.M
