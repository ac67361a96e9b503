/-
  Gw3: kinds of data, the atoms of memory, the operations that read and write it.
-/
import Derived.Test.YtiepcikippcfaaaGw2
import Derived.Laws.Tables
import Derived.Laws.Rows
import Derived.Deep.Upon
set_option linter.unusedVariables false
set_option linter.unusedSimpArgs false
namespace Go.GW
open Go

/-! ### Kinds -/
structure Fl (α : Type) where
  sz : Nat
  enc : α → List Value
  len : ∀ x, (enc x).length = sz
  one : ∀ x, ∀ v ∈ enc x, v.oneCell' = true

structure Kd (α : Type) where
  sz : Nat
  rep : World → (Nat → Prop) → α → List Value → Prop
  len : ∀ {w S x cs}, rep w S x cs → cs.length = sz
  one : ∀ {w S x cs}, rep w S x cs → ∀ v ∈ cs, v.oneCell' = true
  keep : ∀ {w w' : World} {S S' : Nat → Prop} {x cs}, (∀ b, S b → S' b ∧ w'.heap[b]? = w.heap[b]?) → rep w S x cs → rep w' S' x cs

def Fl.kd {α : Type} (f : Fl α) : Kd α where
  sz := f.sz
  rep := fun _ _ x cs => cs = f.enc x
  len := fun h => by rw [h]; exact f.len _
  one := fun h => by rw [h]; exact f.one _
  keep := fun _ h => h

def flInt (k : IntKind) : Fl Int := ⟨1, fun x => [.int k x], fun _ => rfl, fun _ v h => by simp at h; subst h; rfl⟩
def flBool : Fl Bool := ⟨1, fun x => [.bool x], fun _ => rfl, fun _ v h => by simp at h; subst h; rfl⟩

def Reps {α : Type} (d : Kd α) (w : World) (S : Nat → Prop) : List α → List Value → Prop
  | [], cs => cs = []
  | x :: xs, cs => ∃ c r, cs = c ++ r ∧ d.rep w S x c ∧ Reps d w S xs r

theorem Reps.length {α : Type} {d : Kd α} {w : World} {S : Nat → Prop} : ∀ {xs : List α} {cs : List Value}, Reps d w S xs cs → cs.length = xs.length * d.sz
  | [], cs, h => by rw [show cs = [] from h]; simp
  | x :: xs, cs, ⟨c, r, e, h1, h2⟩ => by rw [e, List.length_append, d.len h1, h2.length, List.length_cons, Nat.succ_mul]; omega
theorem Reps.one {α : Type} {d : Kd α} {w : World} {S : Nat → Prop} : ∀ {xs : List α} {cs : List Value}, Reps d w S xs cs → ∀ v ∈ cs, v.oneCell' = true
  | [], cs, h, v, hv => by rw [show cs = [] from h] at hv; cases hv
  | x :: xs, cs, ⟨c, r, e, h1, h2⟩, v, hv => by
    rw [e] at hv
    rcases List.mem_append.1 hv with hv | hv
    · exact d.one h1 v hv
    · exact h2.one v hv
theorem Reps.keep {α : Type} {d : Kd α} {w w' : World} {S S' : Nat → Prop} (hk : ∀ b, S b → S' b ∧ w'.heap[b]? = w.heap[b]?) : ∀ {xs : List α} {cs : List Value}, Reps d w S xs cs → Reps d w' S' xs cs
  | [], cs, h => h
  | x :: xs, cs, ⟨c, r, e, h1, h2⟩ => ⟨c, r, e, d.keep hk h1, h2.keep hk⟩
theorem Reps.append {α : Type} {d : Kd α} {w : World} {S : Nat → Prop} {ys : List α} {cs' : List Value} (h' : Reps d w S ys cs') : ∀ {xs : List α} {cs : List Value}, Reps d w S xs cs → Reps d w S (xs ++ ys) (cs ++ cs')
  | [], cs, h => by rw [show cs = [] from h]; exact h'
  | x :: xs, cs, ⟨c, r, e, h1, h2⟩ => ⟨c, r ++ cs', by rw [e, List.append_assoc], h1, Reps.append h' h2⟩
theorem Reps.single {α : Type} {d : Kd α} {w : World} {S : Nat → Prop} {x : α} {c : List Value} (h : d.rep w S x c) : Reps d w S [x] c := ⟨c, [], by simp, h, rfl⟩
theorem Reps.drop {α : Type} {d : Kd α} {w : World} {S : Nat → Prop} : ∀ (k : Nat) {xs : List α} {cs : List Value}, Reps d w S xs cs → Reps d w S (xs.drop k) (cs.drop (k * d.sz))
  | 0, xs, cs, h => by simpa using h
  | k + 1, [], cs, h => by rw [show cs = [] from h]; simp [Reps]
  | k + 1, x :: xs, cs, ⟨c, r, e, h1, h2⟩ => by
    have := Reps.drop k h2
    rw [e, List.drop_succ_cons, Nat.succ_mul, Nat.add_comm, ← List.drop_drop, ← d.len h1, List.drop_left, d.len h1]
    exact this
theorem Reps.take {α : Type} {d : Kd α} {w : World} {S : Nat → Prop} : ∀ (k : Nat) {xs : List α} {cs : List Value}, Reps d w S xs cs → Reps d w S (xs.take k) (cs.take (k * d.sz))
  | 0, xs, cs, h => by simp [Reps]
  | k + 1, [], cs, h => by rw [show cs = [] from h]; simp [Reps]
  | k + 1, x :: xs, cs, ⟨c, r, e, h1, h2⟩ => by
    refine ⟨c, r.take (k * d.sz), ?_, h1, Reps.take k h2⟩
    rw [e, List.take_append, d.len h1, Nat.succ_mul, List.take_of_length_le (by rw [d.len h1]; omega)]
    congr 2
    omega
theorem Reps.at_ {α : Type} {d : Kd α} {w : World} {S : Nat → Prop} {xs : List α} {cs : List Value} (h : Reps d w S xs cs) {i : Nat} {x : α} (hi : xs[i]? = some x) : d.rep w S x ((cs.drop (i * d.sz)).take d.sz) := by
  have h1 := h.drop i
  have hlt : i < xs.length := (List.getElem?_eq_some_iff.1 hi).1
  rw [List.drop_eq_getElem_cons hlt] at h1
  obtain ⟨c, r, e, hc, _⟩ := h1
  have hx : xs[i] = x := by
    rw [List.getElem?_eq_getElem hlt] at hi
    injection hi
  rw [e, ← d.len hc, List.take_left]
  rw [← hx]
  exact hc
theorem Reps.flat {α : Type} {f : Fl α} {w : World} {S : Nat → Prop} : ∀ {xs : List α} {cs : List Value}, Reps f.kd w S xs cs ↔ cs = xs.flatMap f.enc
  | [], cs => by simp [Reps]
  | x :: xs, cs => by
    simp only [Reps, List.flatMap_cons]
    constructor
    · rintro ⟨c, r, e, h1, h2⟩
      rw [e, show c = f.enc x from h1, Reps.flat.1 h2]
    · intro h
      exact ⟨f.enc x, xs.flatMap f.enc, h, rfl, Reps.flat.2 rfl⟩
theorem Reps.set {α : Type} {f : Fl α} {w : World} {S : Nat → Prop} {y : α} : ∀ {xs : List α} (i : Nat), i < xs.length → (xs.set i y).flatMap f.enc = (xs.flatMap f.enc).take (i * f.sz) ++ f.enc y ++ (xs.flatMap f.enc).drop (i * f.sz + f.sz)
  | [], i, h => by simp at h
  | x :: xs, 0, h => by simp only [List.set_cons_zero, List.flatMap_cons, Nat.zero_mul, List.take_zero, List.nil_append, Nat.zero_add]; rw [← f.len x, List.drop_left]
  | x :: xs, i + 1, h => by
    have ih := Reps.set (f := f) (w := w) (S := S) (y := y) (xs := xs) i (by simpa using h)
    have e1 : (i + 1) * f.sz = (f.enc x).length + i * f.sz := by rw [f.len, Nat.succ_mul]; omega
    have e2 : (i + 1) * f.sz + f.sz = (f.enc x).length + (i * f.sz + f.sz) := by rw [f.len, Nat.succ_mul]; omega
    rw [List.set_cons_succ, List.flatMap_cons, List.flatMap_cons, ih, e2, e1, List.take_length_add_append, List.drop_length_add_append]
    simp only [List.append_assoc]

/-- A slice that is read. -/
def RdSat {α : Type} (d : Kd α) (w : World) (S : Nat → Prop) (A : Option Addr) (xs : List α) : Prop :=
  xs = [] ∨ ∃ g o cur ty fr cells, A = some ⟨g, o, none⟩ ∧ S g ∧ w.heap[g]? = some (.cells cur ty fr) ∧ (cur.toList.drop o).take cells.length = cells ∧ Reps d w S xs cells
theorem RdSat.keep {α : Type} {d : Kd α} {w w' : World} {S S' : Nat → Prop} {A : Option Addr} {xs : List α} (hk : ∀ b, S b → S' b ∧ w'.heap[b]? = w.heap[b]?) (h : RdSat d w S A xs) : RdSat d w' S' A xs := by
  rcases h with h | ⟨g, o, cur, ty, fr, cells, h1, h2, h3, h4, h5⟩
  · exact .inl h
  · exact .inr ⟨g, o, cur, ty, fr, cells, h1, (hk g h2).1, by rw [(hk g h2).2]; exact h3, h4, h5.keep hk⟩

def Kd.sl {α : Type} (d : Kd α) : Kd (List α) where
  sz := 1
  rep := fun w S xs cs => ∃ A c, cs = [.slice A xs.length c] ∧ xs.length ≤ c ∧ RdSat d w S A xs
  len := by rintro w S x cs ⟨A, c, rfl, _⟩; rfl
  one := by rintro w S x cs ⟨A, c, rfl, _⟩ v hv; simp at hv; subst hv; rfl
  keep := by rintro w w' S S' x cs hk ⟨A, c, h1, h2, h3⟩; exact ⟨A, c, h1, h2, h3.keep hk⟩

/-! ### Atoms -/
def At.box (b : Nat) (ty : TypeId) (cells : List Value) : At where
  blk := some b
  sh := false
  sat := fun w _ => w.heap[b]? = some (.cells cells.toArray ty (0, 0))
  keep := fun h1 _ h => (h1 b rfl).trans h
/-- A variable in memory that is only read. -/
def At.cst (b : Nat) (ty : TypeId) (cells : List Value) (sh : Bool) : At where
  blk := none
  sh := sh
  sat := fun w S => S b ∧ w.heap[b]? = some (.cells cells.toArray ty (0, 0))
  keep := fun _ h2 h => ⟨(h2 b h.1).1, (h2 b h.1).2.trans h.2⟩
def At.row {α : Type} (A : Option Addr) (c : Nat) (E : TypeId) (d : Kd α) (xs : List α) (sh : Bool) : At where
  blk := A.map (·.block)
  sh := sh
  sat := fun w S => ∃ cells, w.ownsRow 0 E d.sz (.slice A xs.length c) xs.length cells ∧ Reps d w S xs cells
  keep := by
    rintro w w' S S' h1 h2 ⟨cells, ⟨hl, ho⟩, hr⟩
    refine ⟨cells, ⟨hl, ?_⟩, hr.keep h2⟩
    rcases ho with ho | ⟨g, cap, cur, hv, h3, h4, h5⟩
    · exact .inl ho
    · refine .inr ⟨g, cap, cur, hv, h3, ?_, h5⟩
      injection hv with hv
      rw [h1 g (by rw [hv]; rfl)]
      exact h4
def At.rd {α : Type} (A : Option Addr) (c : Nat) (d : Kd α) (xs : List α) (sh : Bool) : At where
  blk := none
  sh := sh
  sat := fun w S => xs.length ≤ c ∧ RdSat d w S A xs
  keep := fun _ h2 h => ⟨h.1, h.2.keep h2⟩

theorem row_nil {α : Type} (E : TypeId) (d : Kd α) (sh : Bool) (w : World) (S : Nat → Prop) : (At.row none 0 E d ([] : List α) sh).sat w S :=
  ⟨[], ⟨by simp, .inl ⟨rfl, rfl⟩⟩, rfl⟩

theorem view_row {α : Type} (A : Option Addr) (c : Nat) (E : TypeId) (d : Kd α) (xs : List α) (sh sh' : Bool) : Views (At.row A c E d xs sh) (At.rd A c d xs sh') := by
  rintro w S ⟨cells, ⟨hl, ho⟩, hr⟩ hb
  rcases ho with ⟨hv, hn⟩ | ⟨g, cap, cur, hv, h3, h4, h5, h6, h7, h8⟩
  · have : xs = [] := List.eq_nil_of_length_eq_zero hn
    subst this
    exact ⟨Nat.zero_le _, .inl rfl⟩
  · injection hv with hv _ hc
    subst hv hc
    exact ⟨h5, .inr ⟨g, 0, cur, E, (0, 0), cells, rfl, hb g rfl, h4, by rw [List.drop_zero, hl]; exact h8, hr⟩⟩
theorem view_box {α : Type} (b : Nat) (ty : TypeId) (f : Fl α) (xs : List α) (cells : List Value) (sh : Bool) (h : xs.flatMap f.enc = cells) : Views (At.box b ty cells) (At.rd (some ⟨b, 0, none⟩) xs.length f.kd xs sh) := by
  intro w S hs hb
  exact ⟨Nat.le_refl _, .inr ⟨b, 0, cells.toArray, ty, (0, 0), cells, rfl, hb b rfl, hs, by simp, Reps.flat.2 h.symm⟩⟩

/-- Own atoms are put aside for good: read, but not written any more. -/
theorem freeze_row {α : Type} {w0 w : World} {F S : Nat → Prop} {Δ : List At} (i : Nat) (A : Option Addr) (c : Nat) (E : TypeId) (d : Kd α) (xs : List α) (sh : Bool) (h : Heap w0 F S Δ w) (hi : Δ[i]? = some (At.row A c E d xs sh) := by kernel_rfl) :
    Heap w0 F S (Δ.set i (At.rd A c d xs sh)) w := by
  have hlt : i < Δ.length := (List.getElem?_eq_some_iff.1 hi).1
  have hd : Δ = Δ.take i ++ At.row A c E d xs sh :: Δ.drop (i + 1) := by
    have hx : Δ[i] = At.row A c E d xs sh := (List.getElem?_eq_some_iff.1 hi).2
    rw [← hx, ← List.drop_eq_getElem_cons hlt, List.take_append_drop]
  rw [List.set_eq_take_append_cons_drop, if_pos hlt]
  rw [hd] at h
  exact h.swap (fun b hb => by cases hb) (fun h => h) fun S' hs hb => view_row A c E d xs sh sh w S' hs fun b hb' => hb b rfl hb'
theorem freeze_box {w0 w : World} {F S : Nat → Prop} {Δ : List At} (i : Nat) (b : Nat) (ty : TypeId) (cells : List Value) (h : Heap w0 F S Δ w) (hi : Δ[i]? = some (At.box b ty cells) := by kernel_rfl) :
    Heap w0 F S (Δ.set i (At.cst b ty cells false)) w := by
  have hlt : i < Δ.length := (List.getElem?_eq_some_iff.1 hi).1
  have hd : Δ = Δ.take i ++ At.box b ty cells :: Δ.drop (i + 1) := by
    have hx : Δ[i] = At.box b ty cells := (List.getElem?_eq_some_iff.1 hi).2
    rw [← hx, ← List.drop_eq_getElem_cons hlt, List.take_append_drop]
  rw [List.set_eq_take_append_cons_drop, if_pos hlt]
  rw [hd] at h
  exact h.swap (fun b hb => by cases hb) (fun h => h) fun S' hs hb => ⟨hb b rfl rfl, hs⟩

/-- What one atom tells of a slice's elements. -/
def Elems {α : Type} (t : At) (A : Option Addr) (d : Kd α) (xs : List α) : Prop :=
  ∀ w S, t.sat w S → xs = [] ∨ ∃ g o cur ty fr cells, A = some ⟨g, o, none⟩ ∧ w.heap[g]? = some (.cells cur ty fr) ∧ (cur.toList.drop o).take cells.length = cells ∧ Reps d w S xs cells
theorem elems_rd {α : Type} (A : Option Addr) (c : Nat) (d : Kd α) (xs : List α) (sh : Bool) : Elems (At.rd A c d xs sh) A d xs := by
  rintro w S ⟨_, h | ⟨g, o, cur, ty, fr, cells, h1, _, h3, h4, h5⟩⟩
  · exact .inl h
  · exact .inr ⟨g, o, cur, ty, fr, cells, h1, h3, h4, h5⟩
theorem elems_row {α : Type} (A : Option Addr) (c : Nat) (E : TypeId) (d : Kd α) (xs : List α) (sh : Bool) : Elems (At.row A c E d xs sh) A d xs := by
  rintro w S ⟨cells, ⟨hl, ho⟩, hr⟩
  rcases ho with ⟨hv, hn⟩ | ⟨g, cap, cur, hv, h3, h4, h5, h6, h7, h8⟩
  · exact .inl (List.eq_nil_of_length_eq_zero hn)
  · injection hv with hv _ hc
    subst hv hc
    exact .inr ⟨g, 0, cur, E, (0, 0), cells, rfl, h4, by rw [List.drop_zero, hl]; exact h8, hr⟩

/-! ### Runs -/
def tyAgg (P : Program) (t : TypeId) : Option Bool := match P.underlying t with
  | some (.struct _) => some true
  | some (.array _ _) => some true
  | some _ => some false
  | none => none
def tySize (P : Program) (t : TypeId) : Option Nat := (P.info? t).map (·.size)

section
variable {P : Program}
theorem gw_isAgg {t : TypeId} {b : Bool} (h : tyAgg P t = some b) (w : World) : (isAgg t).run P w = .ok b w := by
  unfold tyAgg at h
  cases hu : P.underlying t with
  | none => rw [hu] at h; cases h
  | some d => cases d <;> (rw [hu] at h; simp at h; subst h; simp [isAgg, run_underlying hu])
theorem gw_sizeOf {t : TypeId} {k : Nat} (h : tySize P t = some k) (w : World) : (sizeOf t).run P w = .ok k w := by
  unfold tySize at h
  obtain ⟨i, hi, rfl⟩ := Option.map_eq_some_iff.1 h
  simp [sizeOf, typeInfo, hi]
theorem addr_add (g o j : Nat) : (⟨g, o, none⟩ : Addr).add j = ⟨g, o + j, none⟩ := by unfold Addr.add; split <;> simp_all
theorem gw_load1 {w : World} {g off : Nat} {t ty : TypeId} {cur : Array Value} {fr : Nat × Nat} {v : Value} (hg : w.heap[g]? = some (.cells cur ty fr)) (ht : tyAgg P t = some false) (hv : cur[off]? = some v) :
    (loadVar t ⟨g, off, none⟩).run P w = .ok v w := by
  have hc : w.cell? ⟨g, off, none⟩ = some v := by rw [cell_of_row w g off cur ty fr hg]; exact hv
  unfold loadVar
  simp [gw_isAgg ht, hc]
theorem gw_loadn {w : World} {g off k : Nat} {t ty : TypeId} {cur : Array Value} {fr : Nat × Nat} (hg : w.heap[g]? = some (.cells cur ty fr)) (ht : tyAgg P t = some true) (hk : tySize P t = some k) (hv : off + k ≤ cur.size) :
    (loadVar t ⟨g, off, none⟩).run P w = .ok (.agg ((cur.toList.drop off).take k).toArray) w := by
  have hl : ((cur.toList.drop off).take k).length = k := by rw [List.length_take, List.length_drop, Array.length_toList]; omega
  have h := run_loadCells_list (P := P) w ⟨g, off, none⟩ ((cur.toList.drop off).take k) (fun j v hj => by
    rw [addr_add, cell_of_row w g _ cur ty fr hg, ← Array.getElem?_toList]
    rw [List.getElem?_take] at hj
    split at hj
    · rw [List.getElem?_drop] at hj; exact hj
    · cases hj)
  rw [hl] at h
  unfold loadVar
  simp [gw_isAgg ht, gw_sizeOf hk, h]
theorem gw_store {w : World} {g off k : Nat} {t ty : TypeId} {cur : Array Value} {v : Value} (hg : w.heap[g]? = some (.cells cur ty (0, 0))) (hk : tySize P t = some k) (hv : v.cells.size = k) (hfit : off + k ≤ cur.size) (h1 : ∀ u ∈ v.cells.toList, u.oneCell' = true) :
    (storeVar t ⟨g, off, none⟩ v).run P w = .ok () (w.setRow g (cur.toList.take off ++ v.cells.toList ++ cur.toList.drop (off + k)).toArray) := by
  have h := run_storeCells_at P g off ty v.cells.toList 0 cur w hg (by rw [Array.length_toList]; omega) h1
  unfold storeVar
  simp only [Sem.run_bind, gw_sizeOf hk, Result.andThen_ok]
  rw [if_neg (by simpa using hv)]
  simp only [Nat.add_zero, Array.length_toList, hv] at h
  simpa using h
end

section
variable {X : Ctx} {ρ : Env} {Δ : List At} {Q : Exit → Act → World → Prop} {ops : Array Oper} {rest : List Oper}

theorem set_split {Δ : List At} {i : Nat} {t : At} (t' : At) (hi : Δ[i]? = some t) : Δ = Δ.take i ++ t :: Δ.drop (i + 1) ∧ Δ.set i t' = Δ.take i ++ t' :: Δ.drop (i + 1) := by
  have hlt : i < Δ.length := (List.getElem?_eq_some_iff.1 hi).1
  constructor
  · have hx : Δ[i] = t := (List.getElem?_eq_some_iff.1 hi).2
    rw [← hx, ← List.drop_eq_getElem_cons hlt, List.take_append_drop]
  · rw [List.set_eq_take_append_cons_drop, if_pos hlt]

/-! ### Variables in memory -/
theorem JL.newBlock {d : Option Tmp} {op : Op} {ty' : TypeId} {pos : String} {after : Array Edge} (ty : TypeId) (cells : List Value) (t : Nat → At) (v : Nat → Value)
    (hk : knows ρ ⟨d, op, ty', pos, after, none⟩ = true) (hd : okd X.n d = true)
    (hr : ∀ w, (execOp (ev ρ) ⟨d, op, ty', pos, after, none⟩).run X.P w = .ok (.value (v w.heap.size)) (w.alloc (.cells cells.toArray ty)))
    (hb : ∀ b, (t b).blk = some b) (hsat : ∀ w, Heap X.w0 X.F X.S Δ w → ∀ S', (∀ c, frz X.F (selS X.S (t w.heap.size).sh) Δ w c → S' c) → (t w.heap.size).sat (w.alloc (.cells cells.toArray ty)) S')
    (h : ∀ b, JQ X (wpList X.P ops Q rest) (upO ρ d (v b)) (Δ ++ [t b])) :
    JQ X (wpList X.P ops Q (⟨d, op, ty', pos, after, none⟩ :: rest)) ρ Δ := by
  refine JL.step rfl fun a w ha hw => ⟨v w.heap.size, _, .inl (by rw [ha.exec hk]; exact hr w), ?_⟩
  exact h _ _ _ (ha.putO hd _) (hw.alloc X.hF _ (t w.heap.size) (hb _) (hsat w hw))

theorem JL.box {d : Option Tmp} {x : Operand} {ty ty' : TypeId} {pos : String} {after : Array Edge} (cells : List Value)
    (h : ∀ b, JQ X (wpList X.P ops Q rest) (upO ρ d (.pointer (some ⟨b, 0, none⟩))) (Δ ++ [At.box b ty cells])) (hx : known ρ x = true := by kernel_rfl) (hc : (ev ρ x).cells = cells.toArray := by kernel_rfl) (hd : okd X.n d = true := by kernel_rfl) :
    JQ X (wpList X.P ops Q (⟨d, .box ty x, ty', pos, after, none⟩ :: rest)) ρ Δ :=
  JL.newBlock ty cells (fun b => At.box b ty cells) (fun b => .pointer (some ⟨b, 0, none⟩)) (by simp [knows, noSelect, Op.operands, hx]) hd
    (fun w => by simp [execOp, Instr.box, newVar, newRow, hc]) (fun _ => rfl)
    (fun w hw S' _ => heap_alloc_new w _) h

theorem JL.alloc {d : Option Tmp} {ty ty' : TypeId} {pos : String} {after : Array Edge} (cells : List Value)
    (h : ∀ b, JQ X (wpList X.P ops Q rest) (upO ρ d (.pointer (some ⟨b, 0, none⟩))) (Δ ++ [At.box b ty cells])) (hz : (X.P.info? ty).bind (fun i => i.zero.map (·.cells)) = some cells.toArray := by kernel_rfl) (hd : okd X.n d = true := by kernel_rfl) :
    JQ X (wpList X.P ops Q (⟨d, .alloc ty, ty', pos, after, none⟩ :: rest)) ρ Δ := by
  obtain ⟨i, hi, hz1⟩ := Option.bind_eq_some_iff.1 hz
  obtain ⟨z, hz2, hz3⟩ := Option.map_eq_some_iff.1 hz1
  exact JL.newBlock ty cells (fun b => At.box b ty cells) (fun b => .pointer (some ⟨b, 0, none⟩)) (by simp [knows, noSelect, Op.operands]) hd
    (fun w => by simp [execOp, Instr.alloc, zeroValue, typeInfo, hi, hz2, newVar, newRow, hz3]) (fun _ => rfl)
    (fun w hw S' _ => heap_alloc_new w _) h

/-- Where a variable's cells are told. -/
def Holds (t : At) (b : Nat) (cells : List Value) : Prop := ∀ w S, t.sat w S → ∃ ty fr, w.heap[b]? = some (.cells cells.toArray ty fr)
theorem holds_box (b : Nat) (ty : TypeId) (cells : List Value) : Holds (At.box b ty cells) b cells := fun w S h => ⟨ty, (0, 0), h⟩
theorem holds_cst (b : Nat) (ty : TypeId) (cells : List Value) (sh : Bool) : Holds (At.cst b ty cells sh) b cells := fun w S h => ⟨ty, (0, 0), h.2⟩

theorem yields_load_box {d : Option Tmp} {x : Operand} {ty ty' : TypeId} {pos : String} {after : Array Edge} {b : Nat} {cells : List Value} {t : At} {v : Value} (i off : Nat) (ht : Holds t b cells) (ha : tyAgg X.P ty = some false) (hi : Δ[i]? = some t := by kernel_rfl)
    (hx : known ρ x = true := by kernel_rfl) (he : ev ρ x = .pointer (some ⟨b, off, none⟩) := by kernel_rfl) (hv : cells[off]? = some v := by kernel_rfl) : Gives X ρ Δ ⟨d, .load ty x, ty', pos, after, none⟩ v := by
  intro a w hsa hw
  obtain ⟨ty2, fr, hg⟩ := ht w _ (hw.sat t (List.mem_of_getElem? hi))
  have := gw_load1 (P := X.P) hg ha (by simpa using hv)
  simp only [execOp, hsa.eval hx, he, Instr.loadAt, Instr.sureAddr, pure_bind, Sem.run_bind, this, Result.andThen_ok, Sem.run_pure]
theorem yields_load_boxes {d : Option Tmp} {x : Operand} {ty ty' : TypeId} {pos : String} {after : Array Edge} {b k : Nat} {cells : List Value} {t : At} (i off : Nat) (vs : List Value) (ht : Holds t b cells) (ha : tyAgg X.P ty = some true) (hk : tySize X.P ty = some k) (hi : Δ[i]? = some t := by kernel_rfl)
    (hx : known ρ x = true := by kernel_rfl) (he : ev ρ x = .pointer (some ⟨b, off, none⟩) := by kernel_rfl) (hl : Nat.ble (off + k) cells.length = true := by kernel_rfl) (hv : (cells.drop off).take k = vs := by kernel_rfl) : Gives X ρ Δ ⟨d, .load ty x, ty', pos, after, none⟩ (.agg vs.toArray) := by
  intro a w hsa hw
  obtain ⟨ty2, fr, hg⟩ := ht w _ (hw.sat t (List.mem_of_getElem? hi))
  have := gw_loadn (P := X.P) hg ha hk (by simpa using Nat.le_of_ble_eq_true hl)
  simp only [hv] at this
  simp only [execOp, hsa.eval hx, he, Instr.loadAt, Instr.sureAddr, pure_bind, Sem.run_bind, this, Result.andThen_ok, Sem.run_pure]

theorem JL.store {d : Option Tmp} {x y : Operand} {ty ty' : TypeId} {pos : String} {after : Array Edge} {k : Nat} (i b off : Nat) (bty : TypeId) (cells cells' : List Value) (hk : tySize X.P ty = some k)
    (h : JQ X (wpList X.P ops Q rest) (upO ρ d undef) (Δ.set i (At.box b bty cells'))) (hi : Δ[i]? = some (At.box b bty cells) := by kernel_rfl)
    (hx : known ρ x = true := by kernel_rfl) (he : ev ρ x = .pointer (some ⟨b, off, none⟩) := by kernel_rfl) (hy : known ρ y = true := by kernel_rfl) (hs : (ev ρ y).cells.toList.length = k := by kernel_rfl) (hl : Nat.ble (off + k) cells.length = true := by kernel_rfl)
    (h1 : (ev ρ y).cells.toList.all (·.oneCell') = true := by kernel_rfl) (hc : cells.take off ++ (ev ρ y).cells.toList ++ cells.drop (off + k) = cells' := by kernel_rfl) (hd : okd X.n d = true := by kernel_rfl) : JQ X (wpList X.P ops Q (⟨d, .store ty x y, ty', pos, after, none⟩ :: rest)) ρ Δ := by
  refine JL.step rfl fun a w ha hw => ?_
  obtain ⟨hsp, hsp'⟩ := set_split (At.box b bty cells') hi
  have hg : w.heap[b]? = some (.cells cells.toArray bty (0, 0)) := hw.sat _ (List.mem_of_getElem? hi)
  have hrun := gw_store (P := X.P) (v := ev ρ y) hg hk (by simpa using hs) (by simpa using Nat.le_of_ble_eq_true hl) (fun u hu => List.all_eq_true.1 h1 u hu)
  simp only [hc] at hrun
  refine ⟨undef, w.setRow b cells'.toArray, .inr ⟨?_, rfl⟩, h _ _ (ha.putO hd undef) ?_⟩
  · simp only [execOp, ha.eval hx, ha.eval hy, he, Instr.storeAt, Instr.sureAddr, pure_bind, Sem.run_bind, hrun, Result.andThen_ok, Sem.run_pure]
  · rw [hsp'] 
    rw [hsp] at hw
    refine hw.write X.hF rfl rfl rfl (Nat.le_refl _) (by simp) (fun c hc hne => setRow_other w b c _ fun e => hne (by rw [e]; rfl)) (fun c hc => .inl hc) ?_
    intro _
    exact setRow_heap w b _ _ bty (0, 0) hg

/-! ### Elements of slices -/
def ix {α : Type} [Inhabited α] (xs : List α) (i : Int) : α := xs.getD i.toNat default
theorem ix_some {α : Type} [Inhabited α] {xs : List α} {i : Int} (h0 : 0 ≤ i) (h1 : i < (xs.length : Int)) : xs[i.toNat]? = some (ix xs i) := by
  have hlt : i.toNat < xs.length := by omega
  simp [ix, List.getD_eq_getElem?_getD, List.getElem?_eq_getElem hlt]

theorem JL.ixAddr {α : Type} {d : Option Tmp} {s x : Operand} {ty ty' E : TypeId} {pos : String} {after : Array Edge} {A : Option Addr} {dk : Kd α} {xs : List α} {i : Int} {t : At} (j sz c : Nat) (k : IntKind) (hel : Elems t A dk xs)
    (hT : X.P.underlying ty = some (.slice E)) (hE : tySize X.P E = some sz)
    (h0 : 0 ≤ i) (h1 : i < (xs.length : Int)) (h : ∀ g o, A = some ⟨g, o, none⟩ → JQ X (wpList X.P ops Q rest) (upO ρ d (.pointer (some ⟨g, o + i.toNat * sz, none⟩))) Δ)
    (hsz : dk.sz = sz := by kernel_rfl) (hj : Δ[j]? = some t := by kernel_rfl) (hs : known ρ s = true := by kernel_rfl) (hx : known ρ x = true := by kernel_rfl) (hse : ev ρ s = .slice A xs.length c := by kernel_rfl) (hxe : ev ρ x = .int k i := by kernel_rfl) (hd : okd X.n d = true := by kernel_rfl) :
    JQ X (wpList X.P ops Q (⟨d, .indexAddr ty s x, ty', pos, after, none⟩ :: rest)) ρ Δ := by
  intro a w ha hw
  rcases hel w _ (hw.sat t (List.mem_of_getElem? hj)) with h2 | ⟨g, o, cur, cty, fr, cells, hA, _⟩
  · subst h2; simp at h1; omega
  · refine JL.val (Δ := Δ) (ρ := ρ) (.pointer (some ⟨g, o + i.toNat * sz, none⟩)) d ?_ (h g o hA) rfl rfl hd a w ha hw
    intro a w ha hw
    simp only [execOp, ha.eval hs, ha.eval hx, hse, hxe, hA, Instr.indexAt, asIntOf, pure_bind, Sem.run_bind, run_underlying hT, Result.andThen_ok, Sem.run_pure]
    rw [if_pos ⟨h0, h1⟩]
    simp only [Sem.run_bind, gw_sizeOf hE, Result.andThen_ok, Sem.run_pure, addr_add]

/-- How a value of a kind stands in cells, and what is known of what it leads to. -/
structure Opens {α : Type} (d : Kd α) (x : α) (sh : Bool) (G : Type) (cells : G → List Value) (atoms : G → List At) : Prop where
  open_ : ∀ w S cs, d.rep w S x cs → ∃ g, cs = cells g ∧ ∀ t ∈ atoms g, t.sat w S
  none_ : ∀ g, ∀ t ∈ atoms g, t.blk = none ∧ t.sh = sh
theorem opens_fl {α : Type} (f : Fl α) (x : α) (sh : Bool) : Opens f.kd x sh Unit (fun _ => f.enc x) (fun _ => []) :=
  ⟨fun _ _ cs h => ⟨(), h, fun _ ht => by cases ht⟩, fun _ _ ht => by cases ht⟩
theorem opens_sl {α : Type} (d : Kd α) (xs : List α) (sh : Bool) : Opens d.sl xs sh (Option Addr × Nat) (fun g => [.slice g.1 xs.length g.2]) (fun g => [At.rd g.1 g.2 d xs sh]) :=
  ⟨fun w S cs ⟨A, c, h1, h2, h3⟩ => ⟨(A, c), h1, fun t ht => by simp at ht; subst ht; exact ⟨h2, h3⟩⟩, fun _ t ht => by simp at ht; subst ht; exact ⟨rfl, rfl⟩⟩

theorem Heap.add {w0 w : World} {F S : Nat → Prop} {Δ ts : List At} (h : Heap w0 F S Δ w) (hn : ∀ t ∈ ts, t.blk = none) (hs : ∀ t ∈ ts, t.sat w (frz F (selS S t.sh) Δ w)) : Heap w0 F S (Δ ++ ts) w := by
  have hb : blks ts = [] := by
    unfold blks
    rw [List.filterMap_eq_nil_iff]
    exact hn
  have hbb : blks (Δ ++ ts) = blks Δ := by rw [blks_append, hb, List.append_nil]
  have hf : ∀ sh, frz F (selS S sh) (Δ ++ ts) w = frz F (selS S sh) Δ w := fun sh => by unfold frz; rw [hbb]
  refine ⟨h.os, h.tape, h.output, h.drawn, h.size, h.frame, by rw [hbb]; exact h.nodup, fun b hb' => h.own b (by rwa [hbb] at hb'), fun t ht => ?_⟩
  rw [hf]
  rcases List.mem_append.1 ht with ht | ht
  · exact h.sat t ht
  · exact hs t ht

theorem take_drop_part {cells cur : List Value} {o p k off : Nat} (h : (cur.drop o).take cells.length = cells) (hp : p + off + k ≤ cells.length) : (cur.drop (o + p + off)).take k = (cells.drop (p + off)).take k := by
  obtain ⟨n, hn⟩ : ∃ n, n = cells.length := ⟨_, rfl⟩
  rw [← hn] at h hp
  subst h
  rw [List.drop_take, List.drop_drop, List.take_take, Nat.min_eq_left (by omega), ← Nat.add_assoc]

/-- A field of an element, or all of it. 'j': the atom that tells of the slice. -/
theorem JL.loadEl {α G : Type} [Inhabited α] {d : Option Tmp} {x : Operand} {ty ty' : TypeId} {pos : String} {after : Array Edge} {g o off k : Nat} {dk : Kd α} {xs : List α} {i : Int} {t : At} (cells : G → List Value) (atoms : G → List At) (v : G → Value) (j : Nat)
    (hel : Elems t (some ⟨g, o, none⟩) dk xs) (hop : Opens dk (ix xs i) t.sh G cells atoms) (h0 : 0 ≤ i) (h1 : i < (xs.length : Int))
    (hk : tySize X.P ty = some k) (hv : (tyAgg X.P ty = some true ∧ ∀ q, v q = .agg (((cells q).drop off).take k).toArray) ∨ (tyAgg X.P ty = some false ∧ k = 1 ∧ ∀ q, (cells q)[off]? = some (v q)))
    (h : ∀ q, JQ X (wpList X.P ops Q rest) (upO ρ d (v q)) (Δ ++ atoms q))
    (hj : Δ[j]? = some t := by kernel_rfl) (hx : known ρ x = true := by kernel_rfl) (he : ev ρ x = .pointer (some ⟨g, o + i.toNat * dk.sz + off, none⟩) := by kernel_rfl) (hz : Nat.ble 1 dk.sz = true := by kernel_rfl) (hfit : Nat.ble (off + k) dk.sz = true := by kernel_rfl) (hd : okd X.n d = true := by kernel_rfl) :
    JQ X (wpList X.P ops Q (⟨d, .load ty x, ty', pos, after, none⟩ :: rest)) ρ Δ := by
  refine JL.step rfl fun a w ha hw => ?_
  rcases hel w _ (hw.sat t (List.mem_of_getElem? hj)) with h2 | ⟨g', o', cur, cty, fr, cs, hA, hg, hcut, hreps⟩
  · subst h2; simp at h1; omega
  injection hA with hA
  injection hA with hA1 hA2
  subst hA1 hA2
  have hrep := hreps.at_ (ix_some h0 h1)
  obtain ⟨q, hq, hats⟩ := hop.open_ w _ _ hrep
  have hlen := hreps.length
  have hi : i.toNat * dk.sz + dk.sz ≤ cs.length := by
    rw [hlen, ← Nat.succ_mul]
    exact Nat.mul_le_mul_right _ (by omega)
  have hfit' := Nat.le_of_ble_eq_true hfit
  have hz' := Nat.le_of_ble_eq_true hz
  have hcl : (cells q).length = dk.sz := by rw [← hq, List.length_take, List.length_drop]; omega
  have hsz : o + cs.length ≤ cur.size := by
    have h5 := congrArg List.length hcut
    have h6 : cur.toList.length = cur.size := Array.length_toList
    simp only [List.length_take, List.length_drop] at h5
    omega
  have hpart : (cur.toList.drop (o + i.toNat * dk.sz + off)).take k = ((cells q).drop off).take k := by
    rw [take_drop_part hcut (by omega), ← hq, List.drop_take, List.take_take, List.drop_drop, Nat.min_eq_left (by omega)]
  have hw2 : Heap X.w0 X.F X.S (Δ ++ atoms q) w := hw.add (fun t' ht' => (hop.none_ q t' ht').1) (fun t' ht' => by rw [(hop.none_ q t' ht').2]; exact hats t' ht')
  refine ⟨v q, w, .inl ?_, h q _ _ (ha.putO hd (v q)) hw2⟩
  rcases hv with ⟨hagg, hv⟩ | ⟨hagg, hk1, hv⟩
  · have := gw_loadn (P := X.P) (off := o + i.toNat * dk.sz + off) hg hagg hk (by omega)
    rw [hpart] at this
    simp only [execOp, ha.eval hx, he, Instr.loadAt, Instr.sureAddr, pure_bind, Sem.run_bind, this, Result.andThen_ok, Sem.run_pure, hv q]
  · have hc : cur[o + i.toNat * dk.sz + off]? = some (v q) := by
      have h3 := hv q
      subst hk1
      have h4 := congrArg (fun l => l[0]?) hpart
      simp only [List.getElem?_take, Nat.zero_lt_one, if_true, List.getElem?_drop, Nat.add_zero] at h4
      rw [← Array.getElem?_toList, h4, h3]
    have := gw_load1 (P := X.P) hg hagg hc
    simp only [execOp, ha.eval hx, he, Instr.loadAt, Instr.sureAddr, pure_bind, Sem.run_bind, this, Result.andThen_ok, Sem.run_pure]

end
end Go.GW
