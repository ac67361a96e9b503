/- The worker's checks, blocks and parts: the program's and the reference's answers are one. -/
import Derived.Test.YtafploedondfpaaPLagOf
import Derived.Test.YtafploedondfpaaPWork
set_option linter.unusedVariables false
set_option linter.unusedSimpArgs false
set_option maxRecDepth 100000
namespace Go.Proofs.Ytafploedondfpaa.M
open Go.GW Go.Proofs
theorem iter_all {r : Type} {f : Int → Option (St Int Unit r)} (n : Nat) (hs : ∀ i : Nat, i < n → f (i : Int) = some (.next ((i + 1 : Nat) : Int))) (he : f (n : Int) = some (.brk ())) : ∀ (k i : Nat), i + k = n → iter f (i : Int) = some (.brk ())
  | 0, i, h => by
    have : i = n := by omega
    subst this
    exact iter_brk he
  | k + 1, i, h => by
    rw [iter_next (s' := ((i + 1 : Nat) : Int)) (hs i (by omega))]
    exact iter_all n hs he k (i + 1) (by omega)
theorem wsucc {i : Nat} (h : i ≤ 1000000000000000000) : w64 ((i : Int) + 1) = ((i + 1 : Nat) : Int) := by rw [w64_id (by omega) (by omega)]; push_cast; rfl

/-! ### Blocks -/
def cj (L S : Nat) : Nat := (L + S - 1) / S
theorem count_ok {j : Job} {S : Nat} (hS : j.Size = (S : Int)) (h1 : 1 ≤ S) (h2 : S ≤ 256) (hL : j.X_.length ≤ 256) : ref19_Count.f j = some ((cj j.X_.length S : Nat) : Int) := by
  have hc : cj j.X_.length S * S ≤ j.X_.length + S - 1 := Nat.div_mul_le_self _ _
  have hc2 : cj j.X_.length S ≤ j.X_.length + S - 1 := Nat.div_le_self _ _
  have main : ∀ (k n : Nat), n + k = cj j.X_.length S → iter (fun (s : Int) => ref19_Count.s1 j s) (n : Int) = some (.brk ((cj j.X_.length S : Nat) : Int)) := by
    intro k
    induction k with
    | zero =>
      intro n hn
      have hn' : n = cj j.X_.length S := by omega
      subst hn'
      have hm : ((cj j.X_.length S : Nat) : Int) * j.Size = ((cj j.X_.length S * S : Nat) : Int) := by rw [hS]; push_cast; rfl
      have hlt := lt_ceil (L := j.X_.length) (S := S) (n := cj j.X_.length S) h1
      have hge : ¬ (((cj j.X_.length S * S : Nat) : Int) < (j.X_.length : Int)) := by
        intro h
        have := hlt.2 (by omega)
        exact absurd this (Nat.lt_irrefl _)
      refine iter_brk ?_
      unfold ref19_Count.s1
      rw [hm, w64_id (by omega) (by omega), decide_eq_false hge, if_neg Bool.false_ne_true]
    | succ k ih =>
      intro n hn
      have hm : (n : Int) * j.Size = ((n * S : Nat) : Int) := by rw [hS]; push_cast; rfl
      have hlt := (lt_ceil (L := j.X_.length) (S := S) (n := n) h1).1 (show n < cj j.X_.length S by omega)
      rw [iter_next (s' := ((n + 1 : Nat) : Int)) (by unfold ref19_Count.s1; rw [hm, w64_id (by omega) (by omega), decide_eq_true (by omega), if_pos rfl, wsucc (by omega)])]
      exact ih (n + 1) (by omega)
  unfold ref19_Count.f
  refine (congrArg (fun o => Option.bind o _) (main (cj j.X_.length S) 0 (by omega))).trans ?_
  rfl
theorem blocks_ok {j : Job} {S : Nat} (hS : j.Size = (S : Int)) (h1 : 1 ≤ S) (h2 : S ≤ 256) (hL : j.X_.length ≤ 256) : worker_blocks.f j = some ((cj j.X_.length S : Nat) : Int) := by
  have hc2 : cj j.X_.length S ≤ j.X_.length + S - 1 := Nat.div_le_self _ _
  unfold worker_blocks.f
  rw [if_pos (by omega), hS, w64_id (x := (j.X_.length : Int) + (S : Int)) (by omega) (by omega), w64_id (x := (j.X_.length : Int) + (S : Int) - 1) (by omega) (by omega), show (j.X_.length : Int) + (S : Int) - 1 = ((j.X_.length + S - 1 : Nat) : Int) by omega]
  rw [show Int.tdiv ((j.X_.length + S - 1 : Nat) : Int) (S : Int) = ((cj j.X_.length S : Nat) : Int) from rfl, w64_id (by omega) (by omega)]

/-! ### The check -/
structure Good (j : Job) (S m : Nat) : Prop where
  cx : chk j.X_ = 0
  cy : chk j.Y = 0
  hm : j.Most = (m : Int)
  m1 : m ≤ 255
  hS : j.Size = (S : Int)
  s1 : 1 ≤ S
  s2 : S ≤ 256
  lx : j.X_.length ≤ 256
  ly : j.Y.length ≤ 256
theorem Good.count {j : Job} {S m : Nat} (g : Good j S m) : ref19_Count.f j = some ((cj j.X_.length S : Nat) : Int) := count_ok g.hS g.s1 g.s2 g.lx
theorem Good.blocks {j : Job} {S m : Nat} (g : Good j S m) : worker_blocks.f j = some ((cj j.X_.length S : Nat) : Int) := blocks_ok g.hS g.s1 g.s2 g.lx
theorem check_cases (j : Job) : ∃ t, worker_Check.f j = some t ∧ ref19_Check.f j = some t ∧ (¬ t = 0 ∨ t = 0 ∧ ∃ S m, Good j S m) := by
  unfold worker_Check.f ref19_Check.f
  simp only [samp_check, ref_check, Option.bind_some]
  by_cases h1 : chk j.X_ = 0
  · rw [decide_eq_true h1]
    simp only [Bool.not_true, Bool.false_eq_true, if_false]
    by_cases h2 : chk j.Y = 0
    · rw [decide_eq_true h2]
      simp only [Bool.not_true, Bool.false_eq_true, if_false]
      have k1 : worker_Check.k1 true = some 8 := rfl
      have k2 : ref19_Check.k1 true = some 8 := rfl
      by_cases h3 : j.Most < 0
      · rw [decide_eq_true h3, if_pos rfl, if_pos rfl]; exact ⟨8, k1, k2, .inl (by decide)⟩
      rw [decide_eq_false h3, if_neg Bool.false_ne_true, if_neg Bool.false_ne_true]
      by_cases h4 : 255 < j.Most
      · rw [decide_eq_true h4, if_pos rfl, if_pos rfl]; exact ⟨8, k1, k2, .inl (by decide)⟩
      rw [decide_eq_false h4, if_neg Bool.false_ne_true, if_neg Bool.false_ne_true]
      by_cases h5 : j.Size < 1
      · rw [decide_eq_true h5, if_pos rfl, if_pos rfl]; exact ⟨8, k1, k2, .inl (by decide)⟩
      rw [decide_eq_false h5, if_neg Bool.false_ne_true, if_neg Bool.false_ne_true]
      by_cases h6 : 256 < j.Size
      · rw [decide_eq_true h6, if_pos rfl, if_pos rfl]; exact ⟨8, k1, k2, .inl (by decide)⟩
      rw [decide_eq_false h6, if_neg Bool.false_ne_true, if_neg Bool.false_ne_true]
      have g : Good j j.Size.toNat j.Most.toNat := ⟨h1, h2, by omega, by omega, by omega, by omega, by omega, (chk_ok h1).1, (chk_ok h2).1⟩
      rw [g.blocks, g.count, Option.bind_some, Option.bind_some]
      by_cases h7 : (64 : Int) < ((cj j.X_.length j.Size.toNat : Nat) : Int)
      · rw [decide_eq_true h7]; exact ⟨8, k1, k2, .inl (by decide)⟩
      · rw [decide_eq_false h7]; exact ⟨0, rfl, rfl, .inr ⟨rfl, _, _, g⟩⟩
    · rw [decide_eq_false h2]
      exact ⟨chk j.Y, rfl, rfl, .inl h2⟩
  · rw [decide_eq_false h1]
    exact ⟨chk j.X_, rfl, rfl, .inl h1⟩

/-! ### Lists that are the same -/
theorem same16 (a : List Lag) (h : a.length ≤ 1000000000000000) : ref16_Same.f a a = some true := by
  unfold ref16_Same.f
  rw [decide_eq_true rfl, if_neg (by decide)]
  have := iter_all (r := Bool) (f := fun s => ref16_Same.s1 a a s) a.length (fun i hi => by
    show ref16_Same.s1 a a (i : Int) = _
    unfold ref16_Same.s1
    rw [decide_eq_true (by omega), if_pos rfl, if_pos ⟨by omega, by omega⟩, if_pos ⟨by omega, by omega⟩, decide_eq_true rfl, if_neg (by decide), wsucc (by omega)]) (by
    show ref16_Same.s1 a a (a.length : Int) = _
    unfold ref16_Same.s1
    rw [decide_eq_false (by omega), if_neg Bool.false_ne_true]) a.length 0 (by omega)
  refine (congrArg (fun o => Option.bind o _) this).trans ?_
  rfl
theorem same13 (a : List Int) (h : a.length ≤ 1000000000000000) : ref13_Same.f a a = some true := by
  unfold ref13_Same.f
  rw [decide_eq_true rfl, if_neg (by decide)]
  have := iter_all (r := Bool) (f := fun s => ref13_Same.s1 a a s) a.length (fun i hi => by
    show ref13_Same.s1 a a (i : Int) = _
    unfold ref13_Same.s1
    rw [decide_eq_true (by omega), if_pos rfl, if_pos ⟨by omega, by omega⟩, if_pos ⟨by omega, by omega⟩, decide_eq_true rfl, if_neg (by decide), wsucc (by omega)]) (by
    show ref13_Same.s1 a a (a.length : Int) = _
    unfold ref13_Same.s1
    rw [decide_eq_false (by omega), if_neg Bool.false_ne_true]) a.length 0 (by omega)
  refine (congrArg (fun o => Option.bind o _) this).trans ?_
  rfl
theorem same18 (a : Acc) (h1 : a.Sums.length ≤ 1000000000000000) (h2 : a.Ns.length ≤ 1000000000000000) (h3 : a.Spans.length ≤ 1000000000000000) : ref18_Same.f a a = some true := by
  unfold ref18_Same.f
  rw [decide_eq_true rfl, if_neg (by decide), decide_eq_true rfl, if_neg (by decide), decide_eq_true rfl]
  unfold ref18_Same.k1
  rw [if_neg (by decide)]
  have t1 := iter_all (r := Bool) (f := fun s => ref18_Same.s2 a a s) a.Sums.length (fun i hi => by
    show ref18_Same.s2 a a (i : Int) = _
    unfold ref18_Same.s2
    rw [decide_eq_true (by omega), if_pos rfl, if_pos ⟨by omega, by omega⟩, if_pos ⟨by omega, by omega⟩, decide_eq_true rfl, if_neg (by decide), wsucc (by omega)]) (by
    show ref18_Same.s2 a a (a.Sums.length : Int) = _
    unfold ref18_Same.s2
    rw [decide_eq_false (by omega), if_neg Bool.false_ne_true]) a.Sums.length 0 (by omega)
  have t2 := iter_all (r := Bool) (f := fun s => ref18_Same.s4 a a s) a.Ns.length (fun i hi => by
    show ref18_Same.s4 a a (i : Int) = _
    unfold ref18_Same.s4
    rw [decide_eq_true (by omega), if_pos rfl, if_pos ⟨by omega, by omega⟩, if_pos ⟨by omega, by omega⟩, decide_eq_true rfl, if_neg (by decide), wsucc (by omega)]) (by
    show ref18_Same.s4 a a (a.Ns.length : Int) = _
    unfold ref18_Same.s4
    rw [decide_eq_false (by omega), if_neg Bool.false_ne_true]) a.Ns.length 0 (by omega)
  have t3 := iter_all (r := Bool) (f := fun s => ref18_Same.s6 a a s) a.Spans.length (fun i hi => by
    show ref18_Same.s6 a a (i : Int) = _
    unfold ref18_Same.s6
    rw [decide_eq_true (by omega), if_pos rfl, if_pos ⟨by omega, by omega⟩, if_pos ⟨by omega, by omega⟩, decide_eq_true rfl, if_neg (by decide), wsucc (by omega)]) (by
    show ref18_Same.s6 a a (a.Spans.length : Int) = _
    unfold ref18_Same.s6
    rw [decide_eq_false (by omega), if_neg Bool.false_ne_true]) a.Spans.length 0 (by omega)
  refine (congrArg (fun o => Option.bind o _) t1).trans ?_
  show ref18_Same.k3 a a = some true
  unfold ref18_Same.k3
  refine (congrArg (fun o => Option.bind o _) t2).trans ?_
  show ref18_Same.k5 a a = some true
  unfold ref18_Same.k5
  refine (congrArg (fun o => Option.bind o _) t3).trans ?_
  rfl
theorem same19 (a : Work) (h0 : a.Done.length ≤ 1000000000000000) (h4 : a.At.length ≤ 1000000000000000) (h1 : a.Sum.Sums.length ≤ 1000000000000000) (h2 : a.Sum.Ns.length ≤ 1000000000000000) (h3 : a.Sum.Spans.length ≤ 1000000000000000) : ref19_Same.f a a = some true := by
  unfold ref19_Same.f
  rw [decide_eq_true rfl, if_neg (by decide), same13 _ h4, Option.bind_some, if_neg (by decide), same18 _ h1 h2 h3, Option.bind_some]
  unfold ref19_Same.k1
  rw [if_neg (by decide)]
  have t1 := iter_all (r := Bool) (f := fun s => ref19_Same.s2 a a s) a.Done.length (fun i hi => by
    show ref19_Same.s2 a a (i : Int) = _
    unfold ref19_Same.s2
    rw [decide_eq_true (by omega), if_pos rfl, if_pos ⟨by omega, by omega⟩, if_pos ⟨by omega, by omega⟩, beq_self_eq_true, if_neg (by decide), wsucc (by omega)]) (by
    show ref19_Same.s2 a a (a.Done.length : Int) = _
    unfold ref19_Same.s2
    rw [decide_eq_false (by omega), if_neg Bool.false_ne_true]) a.Done.length 0 (by omega)
  refine (congrArg (fun o => Option.bind o _) t1).trans ?_
  rfl
end Go.Proofs.Ytafploedondfpaa.M
