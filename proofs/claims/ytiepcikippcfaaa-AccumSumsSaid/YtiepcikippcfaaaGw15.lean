/-
  Gw15: own rows of integers that the library sorts, or compacts, in place (over the shelf's contracts, which stand here as premises).
-/
import Derived.Test.YtiepcikippcfaaaGw14
import Derived.Sort.OwnSortedInts
import Derived.Lib.SlicesCompact
set_option linter.unusedVariables false
set_option linter.unusedSimpArgs false
namespace Go.GW
open Go

def insI (x : Int) : List Int → List Int
  | [] => [x]
  | y :: ys => if x ≤ y then x :: y :: ys else y :: insI x ys
/-- Sorted, by insertion (so that the kernel can reckon it). -/
def sortI : List Int → List Int
  | [] => []
  | x :: xs => insI x (sortI xs)
theorem insI_perm (x : Int) : ∀ ys, (insI x ys).Perm (x :: ys)
  | [] => .refl _
  | y :: ys => by
    unfold insI
    split
    · exact .refl _
    · exact ((insI_perm x ys).cons y).trans (.swap x y ys)
theorem sortI_perm : ∀ xs, (sortI xs).Perm xs
  | [] => .refl _
  | x :: xs => (insI_perm x _).trans ((sortI_perm xs).cons x)
theorem insI_sorted (x : Int) : ∀ ys : List Int, ys.Pairwise (· ≤ ·) → (insI x ys).Pairwise (· ≤ ·)
  | [], _ => by simp [insI]
  | y :: ys, h => by
    unfold insI
    rw [List.pairwise_cons] at h
    split
    · rename_i hxy
      refine List.pairwise_cons.2 ⟨fun z hz => ?_, List.pairwise_cons.2 h⟩
      rcases List.mem_cons.1 hz with rfl | hz
      · exact hxy
      · exact Int.le_trans hxy (h.1 z hz)
    · rename_i hxy
      refine List.pairwise_cons.2 ⟨fun z hz => ?_, insI_sorted x ys h.2⟩
      rcases List.mem_cons.1 ((insI_perm x ys).subset hz) with rfl | hz
      · omega
      · exact h.1 z hz
theorem sortI_sorted : ∀ xs, (sortI xs).Pairwise (· ≤ ·)
  | [] => .nil
  | x :: xs => insI_sorted x _ (sortI_sorted xs)
theorem sortI_merge (xs : List Int) : sortI xs = xs.mergeSort fun x y => decide (x ≤ y) := by
  refine List.Perm.eq_of_pairwise (le := (· ≤ ·)) (fun a b _ _ h1 h2 => Int.le_antisymm h1 h2) (sortI_sorted xs) ?_ ((sortI_perm xs).trans (List.mergeSort_perm _ _).symm)
  have := List.pairwise_mergeSort (le := fun x y => decide ((x : Int) ≤ y)) (fun a b c h1 h2 => by simp at h1 h2 ⊢; omega) (fun a b => by simp; omega) xs
  exact this.imp (fun h => by simpa using h)
theorem length_sortI (xs : List Int) : (sortI xs).length = xs.length := (sortI_perm xs).length_eq
theorem sortI_nil : sortI [] = [] := rfl
theorem flatMap_int (k : IntKind) (xs : List Int) : xs.flatMap (flInt k).enc = xs.map (Value.int k) := by
  induction xs with
  | nil => rfl
  | cons x xs ih => simp [flInt] at ih ⊢; exact ih

/-- The heap behind a library function that has turned one own row, drawn, and laid blocks of its own. -/
theorem heap_turned {w w' : World} {S : Nat → Prop} {g : Nat} (hlt : g < w.heap.size) (t : At) (hg : w.grownBy w' (some g)) (hdr : w.drawn ≤ w'.drawn) (hb : t.blk = some g) (hs : ∀ S', t.sat w' S') :
    Heap w (fun b => b < w.heap.size ∧ b ∉ [g]) S [t] w' := by
  have hbl : blks [t] = [g] := by simp [blks, hb]
  refine ⟨hg.os, hg.tape, hg.output, hdr, hg.size, fun b hf => ?_, by rw [hbl]; simp, fun b hb' => ?_, fun u hu => ?_⟩
  · exact hg.block b hf.1 (fun e => hf.2 (by injection e with e; simp [e]))
  · rw [hbl] at hb'
    simp at hb'
    subst hb'
    exact ⟨fun h => h.2 (by simp), Nat.lt_of_lt_of_le hlt hg.size⟩
  · simp at hu
    subst hu
    exact hs _

theorem does_sortI {P : Program} {f : FuncId}
    (c1 : ∀ (blk off cap : Nat) (zs : List Int) (w : World), Sort.Holds (Value.int .i64) w blk off zs.toArray → blk < w.heap.size → zs.length < 4611686018427387904 →
      Calls P f #[.slice (some ⟨blk, off, none⟩) zs.length cap] w fun e w' => e = .returned (.tuple #[]) ∧ ∃ n os, w' = Sort.grow (Sort.putRow (Value.int .i64) (Sort.ahead w n) blk off (zs.mergeSort fun x y => decide (x ≤ y)).toArray) os)
    (c0 : ∀ (p : Option Addr) (cap : Nat) (w : World), Calls P f #[.slice p 0 cap] w fun e w' => e = .returned (.tuple #[]) ∧ w' = w)
    (xs : List Int) (A : Option Addr) (c : Nat) (E : TypeId) (h : xs.length ≤ 4611686018427387903) :
    Does P f [.slice A xs.length c].toArray [] [At.row A c E (flInt .i64).kd xs false] false (fun v Δ => v = .tuple #[] ∧ Δ = [At.row A c E (flInt .i64).kd (sortI xs) false]) := by
  intro w S hS hnd hown hpre hsat
  obtain ⟨cells, ⟨hl, ho⟩, hreps⟩ := hsat _ (List.mem_singleton.2 rfl)
  have hcells : cells = xs.map (Value.int .i64) := by rw [Reps.flat.1 hreps, flatMap_int]
  rcases ho with ⟨hv, hn⟩ | ⟨g, cap, cur, hv, _, hg, hle, hmax, hsz, htk⟩
  · injection hv with h1 _ h3
    subst h1 h3
    obtain rfl : xs = [] := List.eq_nil_of_length_eq_zero hn
    refine (c0 none 0 w).mono fun e w' ⟨he, hw⟩ => ⟨_, _, he, ⟨rfl, rfl⟩, ?_, fun _ t ht => by simp at ht; subst ht; rfl⟩
    subst hw
    refine ⟨rfl, rfl, rfl, Nat.le_refl _, Nat.le_refl _, fun _ _ => rfl, by simp [blks, At.row], fun b hb => by simp [blks, At.row] at hb, fun t ht => ?_⟩
    simp at ht
    subst ht
    exact row_nil E _ false w' _
  · injection hv with h1 _ h3
    subst h1 h3
    have hlt : g < w.heap.size := (Array.getElem?_eq_some_iff.1 hg).1
    have e1 : (flInt .i64).kd.sz = 1 := rfl
    rw [e1] at hsz htk
    rw [Nat.mul_one] at htk
    have hH := holds_of_blockI (ss := xs) hg (by rw [htk, hcells])
    refine (c1 g 0 c xs w hH hlt (by omega)).mono fun e w' ⟨he, n, os, hw⟩ => ⟨_, _, he, ⟨rfl, rfl⟩, ?_, fun _ t ht => by simp at ht; subst ht; rfl⟩
    subst hw
    have hbl : blks [At.row (some ⟨g, 0, none⟩) c E (flInt .i64).kd xs false] = [g] := by simp [blks, At.row]
    rw [hbl]
    refine heap_turned hlt _ (grownBy_sortedI _) (Nat.le_add_right _ _) rfl fun S' => ?_
    have hlen := length_sortI xs
    rw [← sortI_merge]
    have hr := ownsRow_sortedI (w := w) (base := 0) (n := n) (os := os) (ts := sortI xs) hlen (Nat.zero_le _) hg hle hmax hsz
    refine ⟨(sortI xs).map (Value.int .i64), ?_, Reps.flat.2 (flatMap_int _ _).symm⟩
    rw [hlen]
    exact hr

theorem length_compact (xs : List Int) : (Lib.compact xs).length ≤ xs.length := by
  unfold Lib.compact Lib.compactUpTo
  rw [List.length_map]
  exact Nat.le_trans (List.length_filter_le _ _) (by simp)
theorem does_compactI {P : Program} {f : FuncId}
    (c1 : ∀ (blk off cap : Nat) (zs : List Int) (w : World), Sort.Holds (Value.int .i64) w blk off zs.toArray → zs.length ≤ 9223372036854775807 → zs.length ≤ cap →
      Calls P f #[.slice (some ⟨blk, off, none⟩) zs.length cap] w fun e w' => e = .returned (.slice (some ⟨blk, off, none⟩) (Lib.compact zs).length cap) ∧ ∃ q, w' = Sort.putRow (Value.int .i64) (Sort.ahead w q) blk off (Lib.compact zs ++ List.replicate (zs.length - (Lib.compact zs).length) 0).toArray)
    (c0 : ∀ (a : Option Addr) (cap : Nat) (w : World), Calls P f #[.slice a 0 cap] w fun e w' => e = .returned (.slice a 0 cap) ∧ w' = w)
    (xs : List Int) (A : Option Addr) (c : Nat) (E : TypeId) (h : xs.length ≤ 4611686018427387903) :
    Does P f [.slice A xs.length c].toArray [] [At.row A c E (flInt .i64).kd xs false] false (fun v Δ => v = .slice A (Lib.compact xs).length c ∧ Δ = [At.row A c E (flInt .i64).kd (Lib.compact xs) false]) := by
  intro w S hS hnd hown hpre hsat
  obtain ⟨cells, ⟨hl, ho⟩, hreps⟩ := hsat _ (List.mem_singleton.2 rfl)
  have hcells : cells = xs.map (Value.int .i64) := by rw [Reps.flat.1 hreps, flatMap_int]
  rcases ho with ⟨hv, hn⟩ | ⟨g, cap, cur, hv, _, hg, hle, hmax, hsz, htk⟩
  · injection hv with h1 _ h3
    subst h1 h3
    obtain rfl : xs = [] := List.eq_nil_of_length_eq_zero hn
    refine (c0 none 0 w).mono fun e w' ⟨he, hw⟩ => ⟨_, _, he, ⟨rfl, rfl⟩, ?_, fun _ t ht => by simp at ht; subst ht; rfl⟩
    subst hw
    refine ⟨rfl, rfl, rfl, Nat.le_refl _, Nat.le_refl _, fun _ _ => rfl, by simp [blks, At.row], fun b hb => by simp [blks, At.row] at hb, fun t ht => ?_⟩
    simp at ht
    subst ht
    exact row_nil E _ false w' _
  · injection hv with h1 _ h3
    subst h1 h3
    have hlt : g < w.heap.size := (Array.getElem?_eq_some_iff.1 hg).1
    have e1 : (flInt .i64).kd.sz = 1 := rfl
    rw [e1] at hsz htk
    rw [Nat.mul_one] at htk
    have hH := holds_of_blockI (ss := xs) hg (by rw [htk, hcells])
    refine (c1 g 0 c xs w hH (by omega) hle).mono fun e w' ⟨he, q, hw⟩ => ⟨_, _, he, ⟨rfl, rfl⟩, ?_, fun _ t ht => by simp at ht; subst ht; rfl⟩
    have hbl : blks [At.row (some ⟨g, 0, none⟩) c E (flInt .i64).kd xs false] = [g] := by simp [blks, At.row]
    rw [hbl]
    have hk := length_compact xs
    have hw' : w' = Sort.grow (Sort.putRow (Value.int .i64) (Sort.ahead w q) g 0 (Lib.compact xs ++ List.replicate (xs.length - (Lib.compact xs).length) 0).toArray) #[] := by rw [hw]; simp
    subst hw'
    refine heap_turned hlt _ (grownBy_sortedI _) (Nat.le_add_right _ _) rfl fun S' => ?_
    have hlen : (Lib.compact xs ++ List.replicate (xs.length - (Lib.compact xs).length) 0).length = xs.length := by simp; omega
    obtain ⟨_, ho2⟩ := ownsRow_sortedI (w := w) (base := 0) (n := q) (os := #[]) (ts := Lib.compact xs ++ List.replicate (xs.length - (Lib.compact xs).length) 0) hlen (Nat.zero_le _) hg hle hmax hsz
    refine ⟨(Lib.compact xs).map (Value.int .i64), ⟨by simp [e1], ?_⟩, Reps.flat.2 (flatMap_int _ _).symm⟩
    rcases ho2 with ⟨hx, _⟩ | ⟨g2, cap2, cur2, hx, r1, r2, r3, r4, r5, r6⟩
    · cases hx
    · injection hx with hx1 _ hx2
      injection hx1 with hx1
      injection hx1 with hx1
      subst hx1 hx2
      refine .inr ⟨g, c, cur2, rfl, r1, r2, by omega, r4, r5, ?_⟩
      rw [e1]
      have h6 := congrArg (List.take (Lib.compact xs).length) r6
      rw [List.take_take, Nat.mul_one, Nat.min_eq_left hk, List.map_append, List.take_left' (by simp)] at h6
      rw [Nat.mul_one]
      exact h6
end Go.GW
