/- The plain law of WorkerParts: parts of a job, its blocks and its first state are what the reference tells. -/
import Derived.Test.YtafploedondfpaaPWorkA
import Derived.Test.YtafploedondfpaaC0
set_option linter.unusedVariables false
set_option linter.unusedSimpArgs false
set_option maxRecDepth 100000
namespace Go.Proofs.Ytafploedondfpaa.M
open Go.GW Go.Proofs
theorem dig_zero : dig 0 = 0 := rfl
theorem chk_zero_of {s : List Int} (h1 : s.length ≤ 256) (h2 : ∀ x ∈ s, 0 ≤ dig x) : chk s = 0 := by
  unfold chk
  rw [if_neg (by omega)]
  have : bad s = false := by
    unfold bad
    rw [List.any_eq_false]
    intro x hx
    have := h2 x hx
    simp only [decide_eq_true_eq]
    omega
  rw [this]
  rfl

/-! ### The samples of a block -/
theorem own_get {X : List Int} {S b k : Nat} (hk : k < X.length) : (ownL X S b)[k]? = some (if k / S = b then X.getD k 0 else 0) := by
  simp [ownL, List.getElem?_map, List.getElem?_range, hk]
theorem own_chk {X : List Int} (S b : Nat) (h : chk X = 0) : chk (ownL X S b) = 0 := by
  obtain ⟨h1, h2⟩ := chk_ok h
  refine chk_zero_of (by rw [length_ownL]; exact h1) fun x hx => ?_
  obtain ⟨k, hk, rfl⟩ := List.mem_map.1 hx
  have hk' := List.mem_range.1 hk
  split
  · rw [List.getD_eq_getElem?_getD, List.getElem?_eq_getElem hk']
    exact h2 _ (List.getElem_mem hk')
  · rw [dig_zero]; omega
theorem own_step {j : Job} {S m b k : Nat} (g : Good j S m) (hk : k < j.X_.length) :
    ref19_own.s4 j (b : Int) ((ownL j.X_ S b).take k) (k : Int) = some (.next ((ownL j.X_ S b).take (k + 1), ((k + 1 : Nat) : Int))) := by
  have lx := g.lx
  have s1 := g.s1
  have hl : ((ownL j.X_ S b).take k).length ≤ 256 := by rw [List.length_take, length_ownL]; omega
  have htk : (ownL j.X_ S b).take (k + 1) = (ownL j.X_ S b).take k ++ [if k / S = b then j.X_.getD k 0 else 0] := by
    rw [List.take_add_one, own_get hk]
    rfl
  have hd : w64 (Int.tdiv (k : Int) j.Size) = ((k / S : Nat) : Int) := by
    have hq : ∀ q : Nat, q ≤ k → w64 (q : Int) = (q : Int) := fun q h => w64_id (by omega) (by omega)
    rw [g.hS, show Int.tdiv (k : Int) (S : Int) = ((k / S : Nat) : Int) from rfl, hq _ (Nat.div_le_self _ _)]
  unfold ref19_own.s4
  rw [decide_eq_true (by omega), if_pos rfl, if_pos (by rw [g.hS]; omega), hd, htk]
  by_cases he : k / S = b
  · rw [decide_eq_true (by omega), if_pos rfl, if_pos ⟨by omega, by omega⟩, if_pos (by simp only [List.length_cons, List.length_nil]; omega), if_pos he]
    unfold ref19_own.k6
    rw [wsucc (by omega)]
    rfl
  · rw [decide_eq_false (by omega), if_neg Bool.false_ne_true, if_pos (by simp only [List.length_cons, List.length_nil]; omega), if_neg he]
    unfold ref19_own.k6
    rw [wsucc (by omega)]
theorem own_iter {j : Job} {S m b : Nat} (g : Good j S m) : ∀ (r k : Nat), k + r = j.X_.length →
    iter (fun (s : (List Int) × Int) => ref19_own.s4 j (b : Int) s.1 s.2) ((ownL j.X_ S b).take k, (k : Int)) = some (.brk (ownL j.X_ S b))
  | 0, k, h => by
    rw [iter_brk (t := (ownL j.X_ S b).take k) (by show ref19_own.s4 j (b : Int) _ (k : Int) = _; unfold ref19_own.s4; rw [decide_eq_false (by omega), if_neg Bool.false_ne_true]), List.take_of_length_le (by rw [length_ownL]; omega)]
  | r + 1, k, h => by
    rw [iter_next (s' := ((ownL j.X_ S b).take (k + 1), ((k + 1 : Nat) : Int))) (own_step g (by omega))]
    exact own_iter g r (k + 1) (by omega)
theorem own_ok {j : Job} {S m b : Nat} (g : Good j S m) : ref19_own.f j (b : Int) = some (ownL j.X_ S b) := by
  unfold ref19_own.f
  refine (congrArg (fun o => Option.bind o _) (own_iter (b := b) g j.X_.length 0 (by omega))).trans ?_
  rfl

/-! ### Cuts -/
theorem cut_ok {s : List Int} {a : Nat} (hs : chk s = 0) (ha : a ≤ s.length) : lag_Cut.f s (a : Int) = some (s.take a ++ List.replicate (s.length - a) 0, List.replicate a 0 ++ s.drop a, 0) := by
  obtain ⟨ls, _⟩ := chk_ok hs
  unfold lag_Cut.f
  rw [samp_check, Option.bind_some, hs, if_neg (by decide), decide_eq_false (by omega), if_neg Bool.false_ne_true, decide_eq_false (by omega)]
  unfold lag_Cut.k1
  rw [if_neg Bool.false_ne_true, if_pos ⟨by omega, by omega, by omega⟩, if_pos ⟨by omega, by omega, by omega⟩]
  unfold lag_Cut.k2
  simp only [lt', Int.toNat_natCast, List.length_replicate, Nat.sub_zero, List.take_length]
  rw [if_pos ⟨by omega, by omega, by omega, by omega⟩, if_pos ⟨by omega, by omega⟩, if_pos ⟨by omega, by omega⟩, cut_first s a ha, cut_rest s a ha]
theorem part_ok {j : Job} {S m b : Nat} (g : Good j S m) (hb : b < cj j.X_.length S) : worker_part.f j (b : Int) = some (lagS (ownL j.X_ S b) j.Y m) := by
  have lx := g.lx
  have s1 := g.s1
  have s2 := g.s2
  have hlt : b * S < j.X_.length := (lt_ceil g.s1).1 hb
  have hm1 : (b + 1) * S = b * S + S := by rw [Nat.add_mul, Nat.one_mul]
  obtain ⟨_, hX⟩ := chk_ok g.cx
  have hbs : b ≤ b * S := Nat.le_mul_of_pos_right _ (by omega)
  have w1 : w64 ((b : Int) * j.Size) = ((b * S : Nat) : Int) := by rw [g.hS, show (b : Int) * (S : Int) = ((b * S : Nat) : Int) by push_cast; rfl, w64_id (by omega) (by omega)]
  have w2 : w64 (w64 ((b : Int) + 1) * j.Size) = (((b + 1) * S : Nat) : Int) := by
    rw [wsucc (by omega), g.hS, show ((b + 1 : Nat) : Int) * (S : Int) = (((b + 1) * S : Nat) : Int) by push_cast; rfl, w64_id (by omega) (by omega)]
  have hc1 : chk (List.replicate (b * S) 0 ++ j.X_.drop (b * S)) = 0 := by
    refine chk_zero_of (by rw [List.length_append, List.length_replicate, List.length_drop]; omega) fun x hx => ?_
    rcases List.mem_append.1 hx with hx | hx
    · rw [(List.mem_replicate.1 hx).2, dig_zero]; omega
    · exact hX x (List.mem_of_mem_drop hx)
  have hl1 : (List.replicate (b * S) 0 ++ j.X_.drop (b * S)).length = j.X_.length := by rw [List.length_append, List.length_replicate, List.length_drop]; omega
  have hg : gmin ((List.replicate (b * S) 0 ++ j.X_.drop (b * S)).length : Int) (((b + 1) * S : Nat) : Int) = ((min j.X_.length ((b + 1) * S) : Nat) : Int) := by
    rw [hl1]
    unfold gmin
    split <;> omega
  unfold worker_part.f
  rw [w1, cut_ok g.cx (by omega), Option.bind_some]
  dsimp only
  rw [w2, hg, cut_ok hc1 (by rw [hl1]; omega), Option.bind_some]
  dsimp only
  rw [hl1, part_own j.X_ S b g.s1 hlt, g.hm, lag_of_ok (own_chk S b g.cx) g.cy g.m1]
  rfl
theorem len_lagS (x y : List Int) (m : Nat) : (lagS x y m).length = 2 * m + 1 := length_tabL _ _

/-! ### The first state -/
theorem new_ok {m : Nat} (hm : m ≤ 255) : accum_New.f (m : Int) = some (⟨List.replicate (2 * m + 1) ⟨0, 0⟩, List.replicate (2 * m + 1) ⟨0, 0⟩, []⟩, 0) := by
  unfold accum_New.f
  rw [decide_eq_false (by omega), if_neg Bool.false_ne_true, decide_eq_false (by omega)]
  unfold accum_New.k1
  simp only [lt']
  rw [if_neg Bool.false_ne_true, w2m hm, if_pos ⟨by omega, by omega, by omega⟩, if_pos ⟨by omega, by omega, by omega⟩, Int.toNat_natCast]
theorem rnew_iter {m : Nat} (hm : m ≤ 255) : ∀ (r i : Nat), i + r = 2 * m + 1 →
    iter (fun (s : (List Count) × (List Count) × Int) => ref18_New.s2 (m : Int) s.1 s.2.1 s.2.2) (List.replicate i ⟨0, 0⟩, List.replicate i ⟨0, 0⟩, (i : Int)) = some (.brk (List.replicate (2 * m + 1) ⟨0, 0⟩, List.replicate (2 * m + 1) ⟨0, 0⟩))
  | 0, i, h => by
    rw [iter_brk (t := (List.replicate i ⟨0, 0⟩, List.replicate i ⟨0, 0⟩)) (by show ref18_New.s2 (m : Int) _ _ (i : Int) = _; unfold ref18_New.s2; rw [w2m hm, decide_eq_false (by omega), if_neg Bool.false_ne_true]), show i = 2 * m + 1 by omega]
  | r + 1, i, h => by
    rw [iter_next (s' := (List.replicate (i + 1) ⟨0, 0⟩, List.replicate (i + 1) ⟨0, 0⟩, ((i + 1 : Nat) : Int))) (by
      show ref18_New.s2 (m : Int) (List.replicate i ⟨0, 0⟩) (List.replicate i ⟨0, 0⟩) (i : Int) = _
      unfold ref18_New.s2
      rw [w2m hm, decide_eq_true (by omega), if_pos rfl, if_pos (by rw [List.length_replicate]; simp only [List.length_cons, List.length_nil]; omega), if_pos (by rw [List.length_replicate]; simp only [List.length_cons, List.length_nil]; omega), wsucc (by omega), ← List.replicate_succ'])]
    exact rnew_iter hm r (i + 1) (by omega)
theorem rnew_ok {m : Nat} (hm : m ≤ 255) : ref18_New.f (m : Int) = some (⟨List.replicate (2 * m + 1) ⟨0, 0⟩, List.replicate (2 * m + 1) ⟨0, 0⟩, []⟩, 0) := by
  unfold ref18_New.f
  rw [decide_eq_false (by omega), if_neg Bool.false_ne_true, decide_eq_false (by omega)]
  unfold ref18_New.k1
  rw [if_neg Bool.false_ne_true]
  refine (congrArg (fun o => Option.bind o _) (rnew_iter hm (2 * m + 1) 0 (by omega))).trans ?_
  rfl
theorem rep_c : (List.range 7).all (fun n => decide (n = 0) || decide (slices_Repeat__int_int.f_c [-1] (n : Int) = some (List.replicate n (-1)))) = true := by kernel_rfl
theorem rep_ok {n : Nat} (h1 : 1 ≤ n) (h2 : n ≤ 6) : slices_Repeat__int_int.f [(-1)] (n : Int) = some (List.replicate n (-1)) := by
  have h := List.all_eq_true.1 rep_c n (List.mem_range.2 (by omega))
  rw [decide_eq_false (show ¬ n = 0 by omega), Bool.false_or] at h
  exact slices_Repeat__int_int.f_le _ _ _ (of_decide_eq_true h)
theorem open_iter {n : Nat} (hn : n ≤ 6) : ∀ (r i : Nat), i + r = n →
    iter (fun (s : (List Int) × Int) => ref19_Open.s2 (n : Int) s.1 s.2) (List.replicate i (-1), (i : Int)) = some (.brk (List.replicate n (-1)))
  | 0, i, h => by
    rw [iter_brk (t := List.replicate i (-1)) (by show ref19_Open.s2 (n : Int) _ (i : Int) = _; unfold ref19_Open.s2; rw [decide_eq_false (by omega), if_neg Bool.false_ne_true]), show i = n by omega]
  | r + 1, i, h => by
    rw [iter_next (s' := (List.replicate (i + 1) (-1), ((i + 1 : Nat) : Int))) (by
      show ref19_Open.s2 (n : Int) (List.replicate i (-1)) (i : Int) = _
      unfold ref19_Open.s2
      rw [decide_eq_true (by omega), if_pos rfl, if_pos (by rw [List.length_replicate]; simp only [List.length_cons, List.length_nil]; omega), wsucc (by omega), ← List.replicate_succ'])]
    exact open_iter hn r (i + 1) (by omega)

/-! ### Answers -/
theorem part_cases (j : Job) (block : Int) : ∃ x t, worker_Part.f j block = some (x, t) ∧ ref19_Part.f j block = some (x, t) ∧ x.length ≤ 1000 := by
  obtain ⟨t, h1, h2, h3⟩ := check_cases j
  unfold worker_Part.f ref19_Part.f
  simp only [h1, h2, Option.bind_some]
  rcases h3 with h3 | ⟨h3, S, m, g⟩
  · rw [decide_eq_false h3]
    exact ⟨[], t, rfl, rfl, by simp⟩
  · have k1 : ∀ j b, worker_Part.k1 j b true = some ([], 2) := fun _ _ => rfl
    have k2 : ∀ j b, ref19_Part.k1 j b true = some ([], 2) := fun _ _ => rfl
    rw [decide_eq_true h3]
    simp only [Bool.not_true, Bool.false_eq_true, if_false]
    by_cases h4 : block < 0
    · rw [decide_eq_true h4, if_pos rfl, if_pos rfl]
      exact ⟨[], 2, k1 _ _, k2 _ _, by simp⟩
    rw [decide_eq_false h4, if_neg Bool.false_ne_true, if_neg Bool.false_ne_true, g.blocks, g.count, Option.bind_some, Option.bind_some]
    by_cases h5 : ((cj j.X_.length S : Nat) : Int) ≤ block
    · rw [decide_eq_true h5]
      exact ⟨[], 2, k1 _ _, k2 _ _, by simp⟩
    rw [decide_eq_false h5]
    obtain ⟨b, hb⟩ : ∃ b : Nat, block = (b : Int) := ⟨block.toNat, by omega⟩
    subst hb
    refine ⟨lagS (ownL j.X_ S b) j.Y m, 0, ?_, ?_, by rw [len_lagS]; have := g.m1; omega⟩
    · unfold worker_Part.k1
      rw [if_neg Bool.false_ne_true, part_ok g (by omega), Option.bind_some]
    · unfold ref19_Part.k1
      rw [if_neg Bool.false_ne_true, own_ok g, Option.bind_some, g.hm, ref_of_ok (own_chk S b g.cx) g.cy g.m1]
      rfl
theorem blocks_cases (j : Job) : ∃ n t, worker_Blocks.f j = some (n, t) ∧ ref19_Blocks.f j = some (n, t) := by
  obtain ⟨t, h1, h2, h3⟩ := check_cases j
  unfold worker_Blocks.f ref19_Blocks.f
  simp only [h1, h2, Option.bind_some]
  rcases h3 with h3 | ⟨h3, S, m, g⟩
  · rw [decide_eq_false h3]
    exact ⟨0, t, rfl, rfl⟩
  · rw [decide_eq_true h3, if_neg (by decide), if_neg (by decide), g.blocks, g.count]
    exact ⟨_, 0, rfl, rfl⟩
theorem open_cases (j : Job) (n : Int) : ∃ w t, worker_Open.f j n = some (w, t) ∧ ref19_Open.f j n = some (w, t) ∧ w.Done.length ≤ 1000 ∧ w.At.length ≤ 1000 ∧ w.Sum.Sums.length ≤ 1000 ∧ w.Sum.Ns.length ≤ 1000 ∧ w.Sum.Spans.length ≤ 1000 := by
  obtain ⟨t, h1, h2, h3⟩ := check_cases j
  unfold worker_Open.f ref19_Open.f
  simp only [h1, h2, Option.bind_some]
  rcases h3 with h3 | ⟨h3, S, m, g⟩
  · rw [decide_eq_false h3]
    exact ⟨_, t, rfl, rfl, by simp, by simp, by simp, by simp, by simp⟩
  · have k1 : ∀ j b, worker_Open.k1 j b true = some (⟨⟨[], [], []⟩, [], []⟩, 2) := fun _ _ => rfl
    have k2 : ∀ j b, ref19_Open.k1 j b true = some (⟨⟨[], [], []⟩, [], []⟩, 2) := fun _ _ => rfl
    rw [decide_eq_true h3]
    simp only [Bool.not_true, Bool.false_eq_true, if_false]
    by_cases h4 : n < 1
    · rw [decide_eq_true h4, if_pos rfl, if_pos rfl]
      exact ⟨_, 2, k1 _ _, k2 _ _, by simp, by simp, by simp, by simp, by simp⟩
    rw [decide_eq_false h4, if_neg Bool.false_ne_true, if_neg Bool.false_ne_true]
    by_cases h5 : 6 < n
    · rw [decide_eq_true h5]
      exact ⟨_, 2, k1 _ _, k2 _ _, by simp, by simp, by simp, by simp, by simp⟩
    rw [decide_eq_false h5]
    obtain ⟨k, hk⟩ : ∃ k : Nat, n = (k : Int) := ⟨n.toNat, by omega⟩
    subst hk
    have m1 := g.m1
    have lx := g.lx
    have s2 := g.s2
    have hc : cj j.X_.length S ≤ j.X_.length + S - 1 := Nat.div_le_self _ _
    refine ⟨⟨⟨List.replicate (2 * m + 1) ⟨0, 0⟩, List.replicate (2 * m + 1) ⟨0, 0⟩, []⟩, List.replicate (cj j.X_.length S) false, List.replicate k (-1)⟩, 0, ?_, ?_, ?_, ?_, ?_, ?_, ?_⟩
    · unfold worker_Open.k1
      rw [if_neg Bool.false_ne_true, g.hm, new_ok m1, Option.bind_some, g.blocks, Option.bind_some, if_pos ⟨by omega, by omega, by omega⟩, rep_ok (by omega) (by omega), Option.bind_some, Int.toNat_natCast]
    · unfold ref19_Open.k1
      rw [if_neg Bool.false_ne_true, g.count, Option.bind_some, if_pos ⟨by omega, by omega, by omega⟩, g.hm, rnew_ok m1, Option.bind_some]
      refine (congrArg (fun o => Option.bind o _) (open_iter (n := k) (by omega) k 0 (by omega))).trans ?_
      show ref19_Open.k3 _ _ _ = _
      unfold ref19_Open.k3
      rw [Int.toNat_natCast]
    all_goals simp only [List.length_replicate, List.length_nil]; omega
theorem great_k1 (j : Job) (b : Bool) : ref19_Great.k1 j b = some true ∨ ref19_Great.k1 j b = some false := by
  unfold ref19_Great.k1
  cases b
  · rw [if_neg Bool.false_ne_true]
    obtain ⟨t, _, h2, h3⟩ := check_cases j
    rw [h2, Option.bind_some]
    rcases h3 with h3 | ⟨h3, S, m, g⟩
    · rw [decide_eq_false h3]; exact .inr rfl
    · rw [decide_eq_true h3, if_pos rfl, g.count, Option.bind_some]
      cases decide ((12 : Int) < ((cj j.X_.length S : Nat) : Int))
      · exact .inr rfl
      · exact .inl rfl
  · exact .inl rfl
theorem great_cases (j : Job) : ref19_Great.f j = some true ∨ ref19_Great.f j = some false ∧ j.X_.length ≤ 300 ∧ j.Y.length ≤ 300 := by
  have kt : ref19_Great.k1 j true = some true := rfl
  unfold ref19_Great.f ref13_Long.f
  rw [Option.bind_some, Option.bind_some]
  by_cases h1 : (300 : Int) < (j.X_.length : Int)
  · rw [decide_eq_true h1, if_pos rfl]; exact .inl kt
  rw [decide_eq_false h1, if_neg Bool.false_ne_true]
  by_cases h2 : (300 : Int) < (j.Y.length : Int)
  · rw [decide_eq_true h2, if_pos rfl]; exact .inl kt
  rw [decide_eq_false h2, if_neg Bool.false_ne_true]
  have fin : ∀ o : Option Bool, (o = some true ∨ o = some false) → (o = some true ∨ o = some false ∧ j.X_.length ≤ 300 ∧ j.Y.length ≤ 300) := by
    rintro o (h | h)
    · exact .inl h
    · exact .inr ⟨h, by omega, by omega⟩
  apply fin
  repeat' split
  all_goals exact great_k1 j _
theorem workerParts_law (x0 : Job) (k0 : ok_Job x0) (x1 : Int) (k1 : okInt .i64 x1) (x2 : Int) (k2 : okInt .i64 x2) : law19_WorkerParts.f x0 x1 x2 = some true := by
  unfold law19_WorkerParts.f
  rcases great_cases x0 with h | ⟨h, l1, l2⟩
  · rw [h, Option.bind_some, if_pos rfl]
  rw [h, Option.bind_some, if_neg Bool.false_ne_true, if_pos (by simp only [List.length_nil]; omega), if_pos (by simp only [List.length_nil]; omega)]
  have hj : (⟨(([] : List Int) ++ x0.X_), (([] : List Int) ++ x0.Y), x0.Most, x0.Size⟩ : Job) = x0 := by simp only [List.nil_append]
  unfold law19_WorkerParts.k1
  simp only [hj, List.nil_append]
  obtain ⟨n, e, b1, b2⟩ := blocks_cases x0
  obtain ⟨x, t, p1, p2, p3⟩ := part_cases x0 x1
  obtain ⟨w, u, o1, o2, o3, o4, o5, o6, o7⟩ := open_cases x0 x2
  obtain ⟨c, c1, c2, _⟩ := check_cases x0
  simp only [b1, b2, p1, p2, o1, o2, c1, c2, Option.bind_some, decide_true, if_true, same16 x (by omega), same19 w (by omega) (by omega) (by omega) (by omega) (by omega), same13 x0.X_ (by omega), same13 x0.Y (by omega)]
end Go.Proofs.Ytafploedondfpaa.M
