/-
  Gw9: from a statement's arguments to what the walks ask of memory; and from what a walk shows to the statement.
-/
import Derived.Test.YtiepcikippcfaaaGw8
import Derived.ChangeSlices
import Derived.OpenShut
import Derived.ChangeArms
import Derived.Below
import Derived.WalkKit
import Derived.ProofKit
import Derived.ShutString
import Derived.ChangeOld
import Derived.SizedLaws
set_option linter.unusedVariables false
set_option linter.unusedSimpArgs false
namespace Go.GW
open Go Go.RowKit

def Old (w : World) : Nat → Prop := fun b => b < w.heap.size

/-- What an argument of type T tells: one value of the kind, its numbers within their bounds. -/
def Opn {α : Type} (P : Program) (T : TypeId) (d : Kd α) (ok : α → Prop) : Prop :=
  ∀ (H : Type) (enc : TypeId × Value → H) (W : World) (spare : Nat → Bool) (held : Bool) (fuel : Nat) (cs : List Value) (x : DataW H × List MemPlace), DataW.trod enc P W 0 spare held fuel T cs = some x → ∃ v, d.rep W (Old W) v cs ∧ ok v
def OpnF {α : Type} (P : Program) (T : TypeId) (f : Fl α) (ok : α → Prop) : Prop :=
  ∀ (H : Type) (enc : TypeId × Value → H) (W : World) (spare : Nat → Bool) (held : Bool) (fuel : Nat) (cs : List Value) (x : DataW H × List MemPlace), DataW.trod enc P W 0 spare held fuel T cs = some x → ∃ v, cs = f.enc v ∧ ok v

def okInt (k : IntKind) (n : Int) : Prop := (Lit.int k n).wf = true

section
variable {P : Program} {T : TypeId}
theorem OpnF.opn {α : Type} {f : Fl α} {ok : α → Prop} (h : OpnF P T f ok) : Opn P T f.kd ok := fun H enc W sp hd fuel cs x hx => h H enc W sp hd fuel cs x hx
theorem opn_int {k : IntKind} (hT : P.underlying T = some (.int k)) : OpnF P T (flInt k) (okInt k) := fun H enc W sp hd fuel cs x hx => by
  obtain ⟨n, rfl, _, h⟩ := DataW.trod_int hT hx
  exact ⟨n, rfl, h⟩
theorem opn_bool (hT : P.underlying T = some .bool) : OpnF P T flBool (fun _ => True) := fun H enc W sp hd fuel cs x hx => by
  obtain ⟨n, rfl, _⟩ := DataW.trod_bool hT hx
  exact ⟨n, rfl, trivial⟩

theorem chunk_end {cs : List Value} {o : Nat} (h : cs.length = o) : cs.drop o = [] := by simp [h]
theorem chunk_cons {cs a b : List Value} {o s o' : Nat} (ha : (cs.drop o).take s = a) (hb : cs.drop o' = b) (ho : o + s = o') : cs.drop o = a ++ b := by
  subst ho
  rw [← List.take_append_drop s (cs.drop o), ha, List.drop_drop, hb]

theorem mapM_at {α β : Type} {f : α → Option β} : ∀ {l : List α} {r : List β}, l.mapM f = some r → r.length = l.length ∧ ∀ i (h : i < l.length), f l[i] = r[i]?
  | [], r, h => by simp at h; subst h; exact ⟨rfl, fun i h => by simp at h⟩
  | x :: l, r, h => by
    rw [List.mapM_cons] at h
    simp only [bind, Option.bind_eq_some_iff, pure, Option.some.injEq] at h
    obtain ⟨y, h1, ys, h2, rfl⟩ := h
    obtain ⟨h3, h4⟩ := mapM_at h2
    refine ⟨by simp [h3], fun i hi => ?_⟩
    cases i with
    | zero => simpa using h1
    | succ i => simpa using h4 i (by simpa using hi)
theorem cells_get {W : World} {a : Addr} {n : Nat} {c : List Value} (h : W.cells? 0 a n = some c) : c.length = n ∧ ∀ i, i < n → W.cell? (a.add i) = c[i]? := by
  unfold World.cells? at h
  rw [if_pos (Nat.zero_le _)] at h
  obtain ⟨h1, h2⟩ := mapM_at h
  refine ⟨by simpa using h1, fun i hi => ?_⟩
  have := h2 i (by simpa using hi)
  simpa using this

theorem add_add (a : Addr) (i j : Nat) : (a.add i).add j = a.add (i + j) := by
  unfold Addr.add
  by_cases hi : i = 0
  · subst hi; simp
  · by_cases hj : j = 0
    · subst hj; simp [hi]
    · simp [hi, hj, Nat.add_assoc]

theorem opn_slice {α : Type} {d : Kd α} {ok : α → Prop} {e : TypeId} (hT : P.underlying T = some (.slice e)) (h : Opn P e d ok) (hc : tySize P e = some d.sz := by kernel_rfl) (hz : Nat.ble 1 d.sz = true := by kernel_rfl) : Opn P T d.sl (fun xs => ∀ x ∈ xs, ok x) := by
  intro H enc W sp hd fuel cs x hx
  have hz' := Nat.le_of_ble_eq_true hz
  have hc' : P.cellsOf e = d.sz := by
    obtain ⟨i, hi, h2⟩ := Option.map_eq_some_iff.1 hc
    simp [Program.cellsOf, hi, h2]
  rcases DataW.trod_slice hT hx with ⟨rfl, _⟩ | ⟨a, len, cap, elems, rest, n, _, rfl, _, _, hl, _, hlen, hel, _, _⟩
  · exact ⟨[], ⟨none, 0, rfl, Nat.le_refl _, .inl rfl⟩, by simp⟩
  · rw [hc'] at hel
    have each : ∀ i, i < len → ∃ c v, W.cells? 0 (a.add (i * d.sz)) d.sz = some c ∧ d.rep W (Old W) v c ∧ ok v := by
      intro i hi
      have h1 := hel i hi
      rw [List.getElem?_eq_getElem (by omega)] at h1
      obtain ⟨c, h2, h3⟩ := Option.bind_eq_some_iff.1 h1
      obtain ⟨v, h4, h5⟩ := h H enc W sp hd n c _ h3
      exact ⟨c, v, h2, h4, h5⟩
    have all : ∀ k, k ≤ len → ∃ (xs : List α) (cells : List Value), xs.length = k ∧ Reps d W (Old W) xs cells ∧ (∀ x ∈ xs, ok x) ∧ ∀ j, j < k * d.sz → W.cell? (a.add j) = cells[j]? := by
      intro k
      induction k with
      | zero => intro _; exact ⟨[], [], rfl, rfl, by simp, by intro j hj; simp at hj⟩
      | succ k ih =>
        intro hk
        obtain ⟨xs, cells, h1, h2, h3, h4⟩ := ih (by omega)
        obtain ⟨c, v, h5, h6, h7⟩ := each k (by omega)
        obtain ⟨h8, h9⟩ := cells_get h5
        have hcl := h2.length
        rw [h1] at hcl
        refine ⟨xs ++ [v], cells ++ c, by simp [h1], Reps.append (ys := [v]) (cs' := c) ⟨c, [], by simp, h6, rfl⟩ h2, ?_, ?_⟩
        · intro y hy
          rcases List.mem_append.1 hy with hy | hy
          · exact h3 y hy
          · simp at hy; subst hy; exact h7
        · intro j hj
          rcases Nat.lt_or_ge j (k * d.sz) with hj' | hj'
          · rw [h4 j hj', List.getElem?_append_left (by omega)]
          · rw [List.getElem?_append_right (by omega), hcl]
            have hj2 := hj
            rw [Nat.succ_mul] at hj2
            have := h9 (j - k * d.sz) (by omega)
            rw [← this]
            rw [add_add]
            congr 2
            omega
    obtain ⟨xs, cells, h1, h2, h3, h4⟩ := all len (Nat.le_refl _)
    have hcl := h2.length
    rw [h1] at hcl
    refine ⟨xs, ⟨some a, cap, by rw [h1], by omega, ?_⟩, h3⟩
    rcases Nat.eq_zero_or_pos len with h0 | h0
    · subst h0
      exact .inl (List.eq_nil_of_length_eq_zero h1)
    · right
      have hpos : 0 < len * d.sz := Nat.mul_pos h0 (by omega)
      have hfirst := h4 0 hpos
      rw [List.getElem?_eq_getElem (by omega)] at hfirst
      have hblk : ∃ cur ty fr, W.heap[a.block]? = some (.cells cur ty fr) ∧ a.spot = none := by
        rw [show a.add 0 = a by simp [Addr.add]] at hfirst
        obtain ⟨g, o, s⟩ := a
        unfold World.cell? at hfirst
        simp only at hfirst ⊢
        cases hh : W.heap[g]? with
        | none => rw [hh] at hfirst; cases hfirst
        | some b =>
          rw [hh] at hfirst
          cases b <;> simp only at hfirst <;> try (cases hfirst; done)
          cases s
          · exact ⟨_, _, _, rfl, rfl⟩
          · simp at hfirst
      obtain ⟨cur, ty, fr, hh, hs⟩ := hblk
      obtain ⟨g, o, s⟩ := a
      simp only at hs hh
      subst hs
      refine ⟨g, o, cur, ty, fr, cells, rfl, (Array.getElem?_eq_some_iff.1 hh).1, hh, ?_, h2⟩
      apply List.ext_getElem?
      intro j
      rw [List.getElem?_take]
      split
      · rename_i hj
        have := h4 j (by omega)
        rw [addr_add] at this
        unfold World.cell? at this
        simp only [hh, Option.isSome_none, Bool.false_eq_true, if_false] at this
        rw [List.getElem?_drop, ← this]
        simp
      · rename_i hj
        rw [List.getElem?_eq_none (by omega)]
end

/-- The atom of an argument that is a slice. -/
theorem opn_rd {α : Type} {d : Kd α} {W : World} {A : Option Addr} {n c : Nat} {v : List α} (h : d.sl.rep W (Old W) v [.slice A n c]) : n = v.length ∧ (At.rd A c d v true).sat W (Old W) := by
  obtain ⟨A', c', h1, h2, h3⟩ := h
  simp only [List.cons.injEq, and_true, Value.slice.injEq] at h1
  obtain ⟨rfl, rfl, rfl⟩ := h1
  exact ⟨rfl, h2, h3⟩

/-- What a walk without takings shows, told as the rows ask it. -/
theorem Does.law {P : Program} {f : FuncId} {args : Array Value} {pre : List At} {r : Value} (h : Does P f args pre [] false (fun v Δ => v = r ∧ Δ = [])) (W : World) (hp : ∀ t ∈ pre, t.sat W (Old W)) :
    Calls P f args W fun e w' => e = .returned r ∧ Below W.heap.size W w' := by
  refine (h W (Old W) (fun b hb => ⟨hb, by simp [blks]⟩) (by simp [blks]) (by simp [blks]) hp (fun t ht => by cases ht)).mono ?_
  rintro e w' ⟨v, Δr, rfl, ⟨rfl, rfl⟩, hh, _⟩
  exact ⟨rfl, hh.os, hh.tape, hh.output, hh.size, fun b hb => hh.frame b ⟨hb, by simp [blks]⟩⟩
end Go.GW
