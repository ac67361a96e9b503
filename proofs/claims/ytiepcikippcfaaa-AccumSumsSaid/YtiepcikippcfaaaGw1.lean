/-
  Gw1: a Hoare logic over named slots and heap atoms (own work; the same text is laid for every seat).
-/
import Derived.Tactics
import Derived.Maps.AppendAt
import Derived.Deep.OwnRows
import Derived.Deep.Draws
import Derived.Deep.Quiet
import Derived.Below
import Derived.Orders
import Derived.Laws.CopyRow
import Derived.KernelRfl
set_option linter.unusedVariables false
set_option linter.unusedSimpArgs false
namespace Go.GW
open Go

/-! ### 1. Slots -/
abbrev Env := List (Nat × Value)

def lk : Env → Nat → Option Value
  | [], _ => none
  | (j, v) :: t, i => bif Nat.beq j i then some v else lk t i

def up : Env → Nat → Value → Env
  | [], i, v => [(i, v)]
  | (j, u) :: t, i, v => bif Nat.beq j i then (i, v) :: t else (j, u) :: up t i v

theorem beqF {i j : Nat} (h : ¬ i = j) : Nat.beq i j = false := by
  cases h' : Nat.beq i j with
  | false => rfl
  | true => exact absurd (Nat.eq_of_beq_eq_true h') h
theorem beqT (i : Nat) : Nat.beq i i = true := Nat.beq_refl i

theorem lk_up_same (ρ : Env) (i : Nat) (v : Value) : lk (up ρ i v) i = some v := by
  induction ρ with
  | nil => simp only [up, lk, beqT, cond_true]
  | cons p t ih =>
    obtain ⟨j, u⟩ := p
    by_cases h : j = i
    · subst h; simp only [up, lk, beqT, cond_true]
    · simp only [up, lk, beqF h, cond_false, ih]

theorem lk_up_ne (ρ : Env) {i k : Nat} (v : Value) (h : k ≠ i) : lk (up ρ i v) k = lk ρ k := by
  induction ρ with
  | nil => simp only [up, lk, beqF (Ne.symm h), cond_false]
  | cons p t ih =>
    obtain ⟨j, u⟩ := p
    by_cases hj : j = i
    · subst hj; simp only [up, lk, beqT, cond_true, beqF (Ne.symm h), cond_false]
    · simp only [up, beqF hj, cond_false, lk]
      by_cases hk : j = k
      · subst hk; simp only [beqT, cond_true]
      · simp only [beqF hk, cond_false, ih]

structure Sees (n : Nat) (ds : List Deferred) (ρ : Env) (a : Act) : Prop where
  size : a.tmps.size = n
  defers : a.defers = ds
  at_ : ∀ i v, lk ρ i = some v → i < n ∧ a.tmps.getD i undef = v

theorem Sees.put {n : Nat} {ds : List Deferred} {ρ : Env} {a : Act} (h : Sees n ds ρ a) {d : Nat} (hd : d < n) (v : Value) : Sees n ds (up ρ d v) (a.put (some d) v) := by
  refine ⟨by simp [Act.put, h.size], h.defers, fun i u hu => ?_⟩
  by_cases hi : i = d
  · subst hi
    rw [lk_up_same] at hu
    injection hu with hu
    subst hu
    refine ⟨hd, ?_⟩
    simp [Act.put, Array.getD_eq_getD_getElem?, h.size, hd]
  · rw [lk_up_ne _ _ hi] at hu
    obtain ⟨h1, h2⟩ := h.at_ i u hu
    refine ⟨h1, ?_⟩
    rw [← h2]
    simp [Act.put, Array.getD_eq_getD_getElem?, Array.getElem?_setIfInBounds_ne (Ne.symm hi)]

theorem Sees.put_none {n : Nat} {ds : List Deferred} {ρ : Env} {a : Act} (h : Sees n ds ρ a) (v : Value) : Sees n ds ρ (a.put none v) := h

/-- Fewer slots are told. -/
def Sub (ρ ρ' : Env) : Prop := ρ'.map (fun p => lk ρ p.1) = ρ'.map (fun p => some p.2)

theorem Sub.at_ {ρ : Env} : ∀ {ρ' : Env}, Sub ρ ρ' → ∀ i v, lk ρ' i = some v → lk ρ i = some v
  | [], _, i, v, h => by simp [lk] at h
  | (j, u) :: t, hs, i, v, h => by
    simp only [Sub, List.map_cons, List.cons.injEq] at hs
    simp only [lk] at h
    by_cases hj : j = i
    · subst hj
      rw [beqT, cond_true] at h
      injection h with h
      subst h
      exact hs.1
    · rw [beqF hj, cond_false] at h
      exact Sub.at_ (ρ' := t) hs.2 i v h

theorem Sees.sub {n : Nat} {ds : List Deferred} {ρ ρ' : Env} {a : Act} (h : Sees n ds ρ a) (hs : Sub ρ ρ') : Sees n ds ρ' a :=
  ⟨h.size, h.defers, fun i v hv => h.at_ i v (hs.at_ i v hv)⟩

def ev (ρ : Env) : Operand → Value
  | .tmp t => (lk ρ t).getD undef
  | .const v => v
  | .global g => .pointer (some ⟨g, 0, none⟩)
  | .func f => .func (.func f) #[] #[]

def known (ρ : Env) : Operand → Bool
  | .tmp t => (lk ρ t).isSome
  | _ => true

theorem Sees.eval {n : Nat} {ds : List Deferred} {ρ : Env} {a : Act} (h : Sees n ds ρ a) {x : Operand} (hx : known ρ x = true) : a.eval x = ev ρ x := by
  cases x with
  | tmp t =>
    simp only [known] at hx
    obtain ⟨v, hv⟩ := Option.isSome_iff_exists.1 hx
    have := (h.at_ t v hv).2
    simp [Act.eval, ev, hv, this]
  | const v => rfl
  | global g => rfl
  | func f => rfl

def noSelect : Op → Bool
  | .select _ _ => false
  | _ => true

def knows (ρ : Env) (o : Oper) : Bool := noSelect o.op && o.op.operands.toList.all (known ρ)

theorem Sees.exec {n : Nat} {ds : List Deferred} {ρ : Env} {a : Act} (h : Sees n ds ρ a) {o : Oper} (hx : knows ρ o = true) : execOp a.eval o = execOp (ev ρ) o := by
  simp only [knows, Bool.and_eq_true, List.all_eq_true] at hx
  refine execOp_congr o (fun cs b e => by rw [e] at hx; simp [noSelect] at hx) fun x hxx => h.eval (hx.2 x (by simpa using hxx))

/-! ### Draws are counted -/
theorem ask_drawn {α : Type} : ∀ (q : Ask α) (w : World), w.drawn ≤ (w.ask q).2.drawn
  | .done a, w => Nat.le_refl _
  | .ask what range k, w => by
    simp only [World.ask]
    split
    · exact ask_drawn (k 0) w
    · exact Nat.le_trans (Nat.le_succ _) (ask_drawn (k _) { w with drawn := w.drawn + 1 })
theorem sys_drawn (w : World) (c : Sys) : w.drawn ≤ (w.sys c).2.drawn := by
  have h := ask_drawn (Kernel.perform c w.os) w
  unfold World.sys
  split
  · exact Nat.le_refl _
  · rename_i e; rw [e] at h; exact h
theorem farStore_drawn {P : Program} {w w' : World} {a : Addr} {v : Value} {at_ : Bool} {l : List Addr} (h : w.farStore P a v at_ = .ok (w', l)) : w'.drawn = w.drawn := by
  unfold World.farStore at h
  split at h
  · split at h
    · rename_i r hr
      injection h with h
      subst h
      unfold World.viewStore at hr
      simp only [bind, Except.bind, pure, Except.pure, throw, throwThe, MonadExceptOf.throw] at hr
      repeat' split at hr
      all_goals first | (cases hr; done) | (injection hr with hr; injection hr with hr _; rw [← hr])
    · cases h
  · cases h
/-- What is carried out never takes back a draw. -/
theorem run_drawn {α : Type} {P : Program} : ∀ (s : Sem α) (w w' : World) (x : α), s.run P w = .ok x w' → w.drawn ≤ w'.drawn := by
  intro s
  induction s with
  | pure a => intro w w' x h; simp only [Sem.run, Result.ok.injEq] at h; rw [h.2]; exact Nat.le_refl _
  | load m a k ih =>
    intro w w' x h
    simp only [Sem.run] at h
    repeat' split at h
    all_goals first | exact ih _ w w' x h | cases h
  | store m a v k ih =>
    intro w w' x h
    cases v
    case agg => simp only [Sem.run] at h; cases h
    case tuple => simp only [Sem.run] at h; cases h
    all_goals
      simp only [Sem.run] at h
      split at h
      · split at h
        · cases h
        · exact ih (w.setCell a _) w' x h
      · split at h
        · rename_i hf
          have := ih _ w' x h
          rw [farStore_drawn hf] at this
          exact this
        · cases h
  | new o k ih => intro w w' x h; simp only [Sem.run] at h; exact ih _ { w with heap := w.heap.push o } w' x h
  | shape r k ih => intro w w' x h; simp only [Sem.run] at h; exact ih _ w w' x h
  | freeze a n k ih =>
    intro w w' x h
    simp only [Sem.run] at h
    have := ih (w.freeze a n) w' x h
    have e : (w.freeze a n).drawn = w.drawn := by unfold World.freeze; split <;> rfl
    rw [e] at this
    exact this
  | frozen a k ih => intro w w' x h; simp only [Sem.run] at h; exact ih _ w w' x h
  | getObj r k ih =>
    intro w w' x h
    simp only [Sem.run] at h
    repeat' split at h
    all_goals first | exact ih _ w w' x h | cases h
  | setObj r o k ih =>
    intro w w' x h
    simp only [Sem.run] at h
    repeat' split at h
    all_goals first | exact ih { w with heap := w.heap.setIfInBounds r o } w' x h | cases h
  | choose q k ih =>
    intro w w' x h
    simp only [Sem.run] at h
    split at h
    · exact ih _ w w' x h
    · exact Nat.le_trans (Nat.le_succ _) (ih _ { w with drawn := w.drawn + 1 } w' x h)
  | sys c k ih =>
    intro w w' x h
    simp only [Sem.run] at h
    exact Nat.le_trans (sys_drawn w c) (ih _ (w.sys c).2 w' x h)
  | program k ih => intro w w' x h; simp only [Sem.run] at h; exact ih _ w w' x h
  | mark m k ih => intro w w' x h; simp only [Sem.run] at h; exact ih w w' x h
  | halt h => intro w w' x hh; simp only [Sem.run] at hh; cases hh

/-! ### 2. The heap, atom by atom -/
/-- One thing that is known of the heap. 'blk': the block that is owned by it, if any. 'sh': it may lead to what came in. -/
structure At where
  blk : Option Nat
  sh : Bool
  sat : World → (Nat → Prop) → Prop
  keep : ∀ {w w' : World} {S S' : Nat → Prop}, (∀ b, blk = some b → w'.heap[b]? = w.heap[b]?) → (∀ b, S b → S' b ∧ w'.heap[b]? = w.heap[b]?) → sat w S → sat w' S'

def blks (Δ : List At) : List Nat := Δ.filterMap At.blk

theorem blks_append (Δ Δ' : List At) : blks (Δ ++ Δ') = blks Δ ++ blks Δ' := by simp [blks]
theorem blks_cons (t : At) (Δ : List At) : blks (t :: Δ) = (match t.blk with | some b => b :: blks Δ | none => blks Δ) := by
  unfold blks
  cases h : t.blk <;> simp [List.filterMap_cons, h]
theorem mem_blks {Δ : List At} {t : At} {b : Nat} (ht : t ∈ Δ) (hb : t.blk = some b) : b ∈ blks Δ := List.mem_filterMap.2 ⟨t, ht, hb⟩

/-- What is fixed while a function's body is walked: the program, its slots' number, the world at its begin, the blocks that it promises to leave alone, and where what came in may lead. -/
structure Ctx where
  P : Program
  n : Nat
  w0 : World
  F : Nat → Prop
  S : Nat → Prop
  hF : ∀ b, F b → b < w0.heap.size
  /-- The marks that the activation's loops over functions have left among its deferred calls. -/
  ds : List Deferred := []
  /-- 'none': an ordinary activation; 'some ro': one that meets ranges over functions; 'ro': the loop whose round it is. -/
  md : Option (Option Nat) := none

def frz (F S : Nat → Prop) (Δ : List At) (w : World) (b : Nat) : Prop := b < w.heap.size ∧ b ∉ blks Δ ∧ (F b → S b)

def selS (S : Nat → Prop) (sh : Bool) : Nat → Prop := fun b => sh = true ∧ S b

structure Heap (w0 : World) (F S : Nat → Prop) (Δ : List At) (w : World) : Prop where
  os : w.os = w0.os
  tape : w.tape = w0.tape
  output : w.output = w0.output
  drawn : w0.drawn ≤ w.drawn
  size : w0.heap.size ≤ w.heap.size
  frame : ∀ b, F b → w.heap[b]? = w0.heap[b]?
  nodup : (blks Δ).Nodup
  own : ∀ b ∈ blks Δ, ¬ F b ∧ b < w.heap.size
  sat : ∀ t ∈ Δ, t.sat w (frz F (selS S t.sh) Δ w)

/-- The same atoms, spelt otherwise. -/
theorem Heap.to {w0 w : World} {F S : Nat → Prop} {Δ Δ' : List At} (h : Heap w0 F S Δ w) (e : Δ = Δ' := by kernel_rfl) : Heap w0 F S Δ' w := e ▸ h

/-- The atoms that are left when some are forgotten or turned into others that need no more. -/
theorem Heap.sub {w0 w : World} {F S : Nat → Prop} {Δ Δ' : List At} (h : Heap w0 F S Δ w) (hb : ∀ b ∈ blks Δ', b ∈ blks Δ) (hn : (blks Δ').Nodup)
    (hs : ∀ t ∈ Δ', t.sat w (frz F (selS S t.sh) Δ' w)) : Heap w0 F S Δ' w :=
  ⟨h.os, h.tape, h.output, h.drawn, h.size, h.frame, hn, fun b hb' => h.own b (hb b hb'), hs⟩

theorem frz_mono {F S S' : Nat → Prop} {Δ Δ' : List At} {w : World} (hb : ∀ b ∈ blks Δ', b ∈ blks Δ) (hS : ∀ b, S b → S' b) : ∀ b, frz F S Δ w b → frz F S' Δ' w b :=
  fun b ⟨h1, h2, h3⟩ => ⟨h1, fun h => h2 (hb b h), fun hf => hS b (h3 hf)⟩

theorem At.mono (t : At) {w : World} {S S' : Nat → Prop} (h : ∀ b, S b → S' b) (hs : t.sat w S) : t.sat w S' :=
  t.keep (fun _ _ => rfl) (fun b hb => ⟨h b hb, rfl⟩) hs

/-- A sublist of atoms. -/
theorem Heap.drop {w0 w : World} {F S : Nat → Prop} {Δ Δ' : List At} (h : Heap w0 F S Δ w) (hs : Δ'.Sublist Δ) : Heap w0 F S Δ' w := by
  have hb : (blks Δ').Sublist (blks Δ) := hs.filterMap _
  exact h.sub (fun b hb' => hb.subset hb') (h.nodup.sublist hb) (fun t ht => t.mono (frz_mono (fun b hb' => hb.subset hb') fun _ h => h) (h.sat t (hs.subset ht)))

theorem Heap.perm {w0 w : World} {F S : Nat → Prop} {Δ Δ' : List At} (h : Heap w0 F S Δ w) (hs : Δ.Perm Δ') : Heap w0 F S Δ' w := by
  have hb : (blks Δ).Perm (blks Δ') := hs.filterMap _
  exact h.sub (fun b hb' => hb.symm.subset hb') (hb.nodup_iff.1 h.nodup) (fun t ht => t.mono (frz_mono (fun b hb' => hb.symm.subset hb') fun _ h => h) (h.sat t (hs.symm.subset ht)))

/-- An own atom becomes one that owns nothing. -/
theorem Heap.swap {w0 w : World} {F S : Nat → Prop} {Δ₁ Δ₂ : List At} {t t' : At} (h : Heap w0 F S (Δ₁ ++ t :: Δ₂) w) (hb : ∀ b, t'.blk = some b → t.blk = some b) (hsh : t.sh = true → t'.sh = true)
    (hs : ∀ S', t.sat w S' → (∀ b, t'.blk = none → t.blk = some b → S' b) → t'.sat w S') : Heap w0 F S (Δ₁ ++ t' :: Δ₂) w := by
  have hbb : ∀ b ∈ blks (Δ₁ ++ t' :: Δ₂), b ∈ blks (Δ₁ ++ t :: Δ₂) := by
    intro b hb'
    simp only [blks, List.filterMap_append, List.mem_append, List.filterMap_cons] at hb' ⊢
    rcases hb' with h1 | h1
    · exact .inl h1
    · right
      cases ht' : t'.blk with
      | none =>
        rw [ht'] at h1
        cases ht : t.blk with
        | none => simpa using h1
        | some c => simp only [List.mem_cons]; exact .inr h1
      | some c =>
        rw [hb c ht']
        rw [ht'] at h1
        exact h1
  have hnd : (blks (Δ₁ ++ t' :: Δ₂)).Nodup := by
    refine h.nodup.sublist ?_
    simp only [blks, List.filterMap_append, List.filterMap_cons]
    refine List.Sublist.append (List.Sublist.refl _) ?_
    cases ht' : t'.blk with
    | none =>
      cases ht : t.blk with
      | none => exact List.Sublist.refl _
      | some c => exact List.sublist_cons_self _ _
    | some c => rw [hb c ht']; exact List.Sublist.refl _
  refine h.sub hbb hnd fun u hu => ?_
  have hmono : ∀ sh sh', (sh = true → sh' = true) → ∀ b, frz F (selS S sh) (Δ₁ ++ t :: Δ₂) w b → frz F (selS S sh') (Δ₁ ++ t' :: Δ₂) w b :=
    fun sh sh' hss => frz_mono hbb fun b ⟨h1, h2⟩ => ⟨hss h1, h2⟩
  rcases List.mem_append.1 hu with hu | hu
  · exact u.mono (hmono _ _ id) (h.sat u (List.mem_append_left _ hu))
  · rcases List.mem_cons.1 hu with rfl | hu
    · refine hs _ (t.mono (hmono _ _ hsh) (h.sat t (by simp))) fun b hn hb' => ?_
      have hm : b ∈ blks (Δ₁ ++ t :: Δ₂) := mem_blks (t := t) (by simp) hb'
      refine ⟨(h.own b hm).2, fun hm' => ?_, fun hf => absurd hf (h.own b hm).1⟩
      have hnd' := h.nodup
      simp only [blks, List.filterMap_append, List.filterMap_cons, hn, hb'] at hm' hnd'
      rw [List.nodup_append] at hnd'
      rcases List.mem_append.1 hm' with h1 | h1
      · exact hnd'.2.2 b h1 b (by simp) rfl
      · exact (List.nodup_cons.1 hnd'.2.1).1 h1
    · exact u.mono (hmono _ _ id) (h.sat u (by simp [hu]))

/-- A new block. -/
theorem Heap.alloc {w0 w : World} {F S : Nat → Prop} {Δ : List At} (h : Heap w0 F S Δ w) (hF : ∀ b, F b → b < w0.heap.size) (o : Obj) (t : At) (hb : t.blk = some w.heap.size)
    (hs : ∀ S', (∀ b, frz F (selS S t.sh) Δ w b → S' b) → t.sat (w.alloc o) S') : Heap w0 F S (Δ ++ [t]) (w.alloc o) := by
  have hold : ∀ b, b < w.heap.size → (w.alloc o).heap[b]? = w.heap[b]? := fun b hb => RowKit.Below.heap_alloc w o b hb
  have hsz : (w.alloc o).heap.size = w.heap.size + 1 := by simp
  have hbl : blks (Δ ++ [t]) = blks Δ ++ [w.heap.size] := by simp [blks, hb]
  have hm : ∀ sh b, frz F (selS S sh) Δ w b → frz F (selS S sh) (Δ ++ [t]) (w.alloc o) b := fun sh b ⟨h1, h2, h3⟩ =>
    ⟨by omega, by rw [hbl]; simp only [List.mem_append, List.mem_singleton, not_or]; exact ⟨h2, by omega⟩, h3⟩
  refine ⟨h.os, h.tape, h.output, h.drawn, by have := h.size; omega, fun b hf => ?_, ?_, ?_, fun u hu => ?_⟩
  · have := hF b hf
    have := h.size
    rw [hold b (by omega)]
    exact h.frame b hf
  · rw [hbl, List.nodup_append]
    refine ⟨h.nodup, by simp, fun a ha b hb' => ?_⟩
    have := (h.own a ha).2
    simp at hb'
    omega
  · intro b hb'
    rw [hbl] at hb'
    rcases List.mem_append.1 hb' with h1 | h1
    · have := h.own b h1
      exact ⟨this.1, by omega⟩
    · simp at h1
      subst h1
      refine ⟨fun hf => ?_, by omega⟩
      have := hF _ hf
      have := h.size
      omega
  · rcases List.mem_append.1 hu with hu | hu
    · refine u.keep (fun b hb' => hold b ?_) (fun b hb' => ⟨hm _ b hb', hold b hb'.1⟩) (h.sat u hu)
      exact (h.own b (mem_blks hu hb')).2
    · simp at hu
      subst hu
      exact hs _ (hm _)

/-- A write into one's own block (or none at all): the atom is another. -/
theorem Heap.write {w0 w w' : World} {F S : Nat → Prop} {Δ₁ Δ₂ : List At} {t t' : At} (h : Heap w0 F S (Δ₁ ++ t :: Δ₂) w) (hF : ∀ b, F b → b < w0.heap.size) (hos : w'.os = w.os) (hta : w'.tape = w.tape) (hou : w'.output = w.output) (hdr : w.drawn ≤ w'.drawn)
    (hsz : w.heap.size ≤ w'.heap.size) (hold : ∀ b, b < w.heap.size → t.blk ≠ some b → w'.heap[b]? = w.heap[b]?)
    (hb : ∀ b, t'.blk = some b → t.blk = some b ∨ (w.heap.size ≤ b ∧ b < w'.heap.size))
    (hs : (∀ sh sh', (sh = true → sh' = true) → ∀ b, frz F (selS S sh) (Δ₁ ++ t :: Δ₂) w b → frz F (selS S sh') (Δ₁ ++ t' :: Δ₂) w' b ∧ w'.heap[b]? = w.heap[b]?) → t'.sat w' (frz F (selS S t'.sh) (Δ₁ ++ t' :: Δ₂) w')) : Heap w0 F S (Δ₁ ++ t' :: Δ₂) w' := by
  have hin : ∀ b, b ∈ blks Δ₁ ∨ b ∈ blks Δ₂ → b ∈ blks (Δ₁ ++ t :: Δ₂) := by
    intro b hb'
    simp only [blks, List.filterMap_append, List.filterMap_cons, List.mem_append] at hb' ⊢
    rcases hb' with h1 | h1
    · exact .inl h1
    · right
      cases t.blk with
      | none => exact h1
      | some c => exact List.mem_cons_of_mem _ h1
  have hnt : ∀ b, b ∈ blks Δ₁ ∨ b ∈ blks Δ₂ → t.blk ≠ some b := by
    intro b hb' ht
    have hnd := h.nodup
    simp only [blks, List.filterMap_append, List.filterMap_cons, ht, List.nodup_append, List.nodup_cons] at hnd hb'
    rcases hb' with h1 | h1
    · exact hnd.2.2 b h1 b (by simp) rfl
    · exact hnd.2.1.1 h1
  have hold' : ∀ b, b ∈ blks Δ₁ ∨ b ∈ blks Δ₂ → w'.heap[b]? = w.heap[b]? := fun b hb' => hold b (h.own b (hin b hb')).2 (hnt b hb')
  have hbl' : ∀ b, b ∈ blks (Δ₁ ++ t' :: Δ₂) → (b ∈ blks Δ₁ ∨ b ∈ blks Δ₂) ∨ t'.blk = some b := by
    intro b hb'
    simp only [blks, List.filterMap_append, List.filterMap_cons, List.mem_append] at hb' ⊢
    rcases hb' with h1 | h1
    · exact .inl (.inl h1)
    · cases ht' : t'.blk with
      | none => rw [ht'] at h1; exact .inl (.inr h1)
      | some c =>
        rw [ht'] at h1
        rcases List.mem_cons.1 h1 with h1 | h1
        · exact .inr (by rw [h1])
        · exact .inl (.inr h1)
  have htin : ∀ b, t.blk = some b → b ∈ blks (Δ₁ ++ t :: Δ₂) := fun b hb' => mem_blks (t := t) (by simp) hb'
  have hm : ∀ sh sh', (sh = true → sh' = true) → ∀ b, frz F (selS S sh) (Δ₁ ++ t :: Δ₂) w b → frz F (selS S sh') (Δ₁ ++ t' :: Δ₂) w' b := by
    intro sh sh' hss b ⟨h1, h2, h3⟩
    refine ⟨by omega, fun hb' => ?_, fun hf => ⟨hss (h3 hf).1, (h3 hf).2⟩⟩
    rcases hbl' b hb' with hx | hx
    · exact h2 (hin b hx)
    · rcases hb b hx with hy | hy
      · exact h2 (htin b hy)
      · omega
  have hkeep : ∀ u : At, u ∈ Δ₁ ∨ u ∈ Δ₂ → u.sat w' (frz F (selS S u.sh) (Δ₁ ++ t' :: Δ₂) w') := by
    intro u hu
    have hmu : u ∈ Δ₁ ++ t :: Δ₂ := by rcases hu with h1 | h1 <;> simp [h1]
    refine u.keep (fun b hb' => hold' b ?_) (fun b hb' => ⟨hm _ _ id b hb', hold b hb'.1 fun ht => hb'.2.1 (htin b ht)⟩) (h.sat u hmu)
    rcases hu with h1 | h1
    · exact .inl (mem_blks h1 hb')
    · exact .inr (mem_blks h1 hb')
  refine ⟨hos.trans h.os, hta.trans h.tape, hou.trans h.output, Nat.le_trans h.drawn hdr, Nat.le_trans h.size hsz, fun b hf => ?_, ?_, fun b hb' => ?_, fun u hu => ?_⟩
  · rw [← h.frame b hf]
    refine hold b (by have := hF b hf; have := h.size; omega) fun ht => (h.own b (htin b ht)).1 hf
  · have hnd := h.nodup
    simp only [blks, List.filterMap_append, List.filterMap_cons] at hnd ⊢
    cases ht' : t'.blk with
    | none =>
      refine hnd.sublist (List.Sublist.append (List.Sublist.refl _) ?_)
      cases ht : t.blk with
      | none => exact List.Sublist.refl _
      | some c => exact List.sublist_cons_self _ _
    | some c =>
      have hnd2 : (Δ₁.filterMap At.blk ++ Δ₂.filterMap At.blk).Nodup := by
        refine hnd.sublist (List.Sublist.append (List.Sublist.refl _) ?_)
        cases ht : t.blk with
        | none => exact List.Sublist.refl _
        | some c => exact List.sublist_cons_self _ _
      have hc : ¬ (c ∈ blks Δ₁ ∨ c ∈ blks Δ₂) := by
        intro hx
        rcases hb c ht' with hy | hy
        · exact hnt c hx hy
        · have := (h.own c (hin c hx)).2
          omega
      simp only [blks] at hc
      refine ((List.perm_middle (a := c) (l₁ := Δ₁.filterMap At.blk) (l₂ := Δ₂.filterMap At.blk)).nodup_iff).2 ?_
      rw [List.nodup_cons]
      exact ⟨by simpa using hc, hnd2⟩
  · rcases hbl' b hb' with hx | hx
    · have := h.own b (hin b hx)
      exact ⟨this.1, by omega⟩
    · rcases hb b hx with hy | hy
      · have := h.own b (htin b hy)
        exact ⟨this.1, by omega⟩
      · refine ⟨fun hf => ?_, hy.2⟩
        have := hF b hf
        have := h.size
        omega
  · rcases List.mem_append.1 hu with hu | hu
    · exact hkeep u (.inl hu)
    · rcases List.mem_cons.1 hu with rfl | hu
      · exact hs fun sh sh' hss b hb' => ⟨hm _ _ hss b hb', hold b hb'.1 fun ht => hb'.2.1 (htin b ht)⟩
      · exact hkeep u (.inr hu)

/-- A draw. -/
theorem Heap.drewN {w0 w : World} {F S : Nat → Prop} {Δ : List At} (h : Heap w0 F S Δ w) (k : Nat) : Heap w0 F S Δ (w.drewN k) :=
  ⟨h.os, h.tape, h.output, Nat.le_trans h.drawn (Nat.le_add_right _ _), h.size, h.frame, h.nodup, h.own, fun t ht => t.keep (w := w) (w' := w.drewN k) (S := frz F (selS S t.sh) Δ w) (fun _ _ => rfl) (fun b hb => ⟨hb, rfl⟩) (h.sat t ht)⟩

/-- Behind a call: what the callee took over is gone, what it hands back is there. -/
theorem Heap.call {w0 w w' : World} {F S S' : Nat → Prop} {own rest Δr : List At} (h : Heap w0 F S (own ++ rest) w) (hF : ∀ b, F b → b < w0.heap.size)
    (hr : Heap w (fun b => b < w.heap.size ∧ b ∉ blks own) S' Δr w')
    (hS : ∀ t ∈ Δr, t.sh = true → ∀ b, S' b → frz F (selS S true) (own ++ rest) w b) : Heap w0 F S (rest ++ Δr) w' := by
  have hnd := h.nodup
  rw [blks_append, List.nodup_append] at hnd
  have hro : ∀ b ∈ blks rest, b < w.heap.size ∧ b ∉ blks own := fun b hb =>
    ⟨(h.own b (by rw [blks_append]; exact List.mem_append_right _ hb)).2, fun hb' => hnd.2.2 b hb' b hb rfl⟩
  have hrr : ∀ b ∈ blks Δr, b ∉ blks rest := fun b hb hb' => (hr.own b hb).1 (hro b hb')
  have hold : ∀ b, b < w.heap.size → b ∉ blks own → w'.heap[b]? = w.heap[b]? := fun b h1 h2 => hr.frame b ⟨h1, h2⟩
  have hFo : ∀ b, F b → b < w.heap.size ∧ b ∉ blks own := fun b hf =>
    ⟨by have := hF b hf; have := h.size; omega, fun hb => (h.own b (by rw [blks_append]; exact List.mem_append_left _ hb)).1 hf⟩
  have hm : ∀ sh b, frz F (selS S sh) (own ++ rest) w b → frz F (selS S sh) (rest ++ Δr) w' b := by
    intro sh b ⟨h1, h2, h3⟩
    rw [blks_append, List.mem_append, not_or] at h2
    refine ⟨Nat.lt_of_lt_of_le h1 hr.size, ?_, h3⟩
    rw [blks_append, List.mem_append, not_or]
    exact ⟨h2.2, fun hb => (hr.own b hb).1 ⟨h1, h2.1⟩⟩
  refine ⟨hr.os.trans h.os, hr.tape.trans h.tape, hr.output.trans h.output, Nat.le_trans h.drawn hr.drawn, Nat.le_trans h.size hr.size, fun b hf => ?_, ?_, fun b hb => ?_, fun t ht => ?_⟩
  · rw [hold b (hFo b hf).1 (hFo b hf).2, h.frame b hf]
  · rw [blks_append, List.nodup_append]
    exact ⟨hnd.2.1, hr.nodup, fun a ha b hb e => hrr b hb (e ▸ ha)⟩
  · rw [blks_append, List.mem_append] at hb
    rcases hb with hb | hb
    · exact ⟨(h.own b (by rw [blks_append]; exact List.mem_append_right _ hb)).1, Nat.lt_of_lt_of_le (hro b hb).1 hr.size⟩
    · have := hr.own b hb
      exact ⟨fun hf => this.1 (hFo b hf), this.2⟩
  · rcases List.mem_append.1 ht with ht | ht
    · refine t.keep (fun b hb => hold b (hro b (mem_blks ht hb)).1 (hro b (mem_blks ht hb)).2) (fun b hb => ⟨hm _ b hb, ?_⟩) (h.sat t (List.mem_append_right _ ht))
      obtain ⟨h1, h2, _⟩ := hb
      rw [blks_append, List.mem_append, not_or] at h2
      exact hold b h1 h2.1
    · refine t.mono (fun b hb => ?_) (hr.sat t ht)
      obtain ⟨h1, h2, h3⟩ := hb
      by_cases hbo : b < w.heap.size ∧ b ∉ blks own
      · obtain ⟨hsh, hsb⟩ := h3 hbo
        have := hm true b (hS t ht hsh b hsb)
        rw [hsh]
        exact this
      · refine ⟨h1, ?_, fun hf => absurd (hFo b hf) hbo⟩
        rw [blks_append, List.mem_append, not_or]
        exact ⟨fun hb => hbo (hro b hb), h2⟩

end Go.GW
