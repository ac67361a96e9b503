/-
  Gw23: own rows of structs that slices.SortFunc sorts in place (over the shelf's contracts, which stand here as premises); append of nil and so many zeros.
-/
import Derived.Test.YtiepcikippcfaaaGw22
import Derived.Shelf.SlSortCmp.WholeK
import Derived.Lib.AppendZeros
set_option linter.unusedVariables false
set_option linter.unusedSimpArgs false
namespace Go.GW
open Go

/-! ### Sorted by a comparing function -/
/-- What the model of a comparing function reckons where p holds: cf, whose sign is a strict weak order there. -/
structure CmpM {α : Type} (p : α → Bool) (cmp : α → α → Option Int) (cf : α → α → Int) : Prop where
  eq : ∀ x y, p x = true → p y = true → cmp x y = some (cf x y)
  irr : ∀ x, p x = true → ¬ cf x x < 0
  tr : ∀ x y z, p x = true → p y = true → p z = true → cf x y < 0 → cf y z < 0 → cf x z < 0
  ntr : ∀ x y z, p x = true → p y = true → p z = true → ¬ cf x y < 0 → ¬ cf y z < 0 → ¬ cf x z < 0

def subCf {α : Type} (p : α → Bool) (cf : α → α → Int) (x y : { x : α // p x = true }) : Int := cf x.1 y.1
theorem CmpM.swo {α : Type} {p : α → Bool} {cmp : α → α → Option Int} {cf : α → α → Int} (h : CmpM p cmp cf) : Sort.SWO (Proofs.ltOf (subCf p cf)) := by
  refine ⟨fun x => ?_, fun x y z h1 h2 => ?_, fun x y z h1 h2 => ?_⟩
  · exact decide_eq_false (h.irr x.1 x.2)
  · exact decide_eq_true (h.tr _ _ _ x.2 y.2 z.2 (of_decide_eq_true h1) (of_decide_eq_true h2))
  · exact decide_eq_false (h.ntr _ _ _ x.2 y.2 z.2 (of_decide_eq_false h1) (of_decide_eq_false h2))

/-- What slices.SortFunc leaves: to the element what the library's text says; none: p does not hold everywhere. -/
noncomputable def sortF {α : Type} (p : α → Bool) (cf : α → α → Int) : List α → Option (List α)
  | [] => some []
  | x :: r => if h : ∀ y ∈ x :: r, p y = true then
      some (((@Sort.pdq { x : α // p x = true } ⟨⟨x, h x (List.mem_cons_self)⟩⟩ (Proofs.ltOf (subCf p cf)) ((x :: r).attachWith (fun y => p y = true) h).toArray 0 ((x :: r).attachWith (fun y => p y = true) h).toArray.size (Lib.bitLen ((x :: r).attachWith (fun y => p y = true) h).toArray.size) true true).toList).map (·.1))
    else none

theorem ext_getElem! {α : Type} [Inhabited α] {l : List α} {i : Nat} (h : i < l.length) : l.toArray[i]! = l[i] := by simp [h]

theorem sortF_spec {α : Type} {p : α → Bool} {cmp : α → α → Option Int} {cf : α → α → Int} (hC : CmpM p cmp cf) : ∀ {xs ys : List α}, sortF p cf xs = some ys → ys.Perm xs ∧ ys.Pairwise (fun a b => ¬ cf b a < 0) ∧ ∀ y ∈ xs, p y = true
  | [], ys, h => by
    simp only [sortF, Option.some.injEq] at h
    subst h
    exact ⟨.refl _, .nil, fun _ h => by cases h⟩
  | x :: r, ys, h => by
    simp only [sortF] at h
    split at h
    · rename_i hp
      injection h with h
      letI : Inhabited { x : α // p x = true } := ⟨⟨x, hp x (List.mem_cons_self)⟩⟩
      have hs := Sort.pdq_sorts (Proofs.ltOf (subCf p cf)) hC.swo ((x :: r).attachWith (fun y => p y = true) hp).toArray 0 ((x :: r).attachWith (fun y => p y = true) hp).toArray.size (Lib.bitLen ((x :: r).attachWith (fun y => p y = true) hp).toArray.size) true true (Nat.zero_le _) (Nat.le_refl _) (.inl rfl)
      obtain ⟨⟨h1, h2, h3⟩, h4⟩ := hs
      have e0 : ((x :: r).attachWith (fun y => p y = true) hp).map (·.1) = x :: r := by simp
      generalize hD : ((x :: r).attachWith (fun y => p y = true) hp) = D at h1 h2 h3 h4 h e0
      have hpd : Sort.pdq (Proofs.ltOf (subCf p cf)) D.toArray 0 D.toArray.size (Lib.bitLen D.toArray.size) true true = @Sort.pdq { x : α // p x = true } ⟨⟨x, hp x (List.mem_cons_self)⟩⟩ (Proofs.ltOf (subCf p cf)) D.toArray 0 D.toArray.size (Lib.bitLen D.toArray.size) true true := rfl
      rw [← hpd] at h
      generalize Sort.pdq (Proofs.ltOf (subCf p cf)) D.toArray 0 D.toArray.size (Lib.bitLen D.toArray.size) true true = R at h h1 h2 h3 h4
      have h3' : R.toList.Perm D := by
        have e1 : R.extract 0 D.toArray.size = R := by rw [← h1]; simp
        have e2 : D.toArray.extract 0 D.toArray.size = D.toArray := by simp
        rw [e1, e2] at h3
        simpa using h3
      subst h
      refine ⟨by rw [← e0]; exact h3'.map _, ?_, hp⟩
      rw [List.pairwise_map, List.pairwise_iff_getElem]
      intro i j hi hj hij
      have := h4 i j (Nat.zero_le _) hij (by rw [← h1]; simpa using hj)
      replace this := of_decide_eq_false this
      unfold subCf at this
      have hi' : i < R.size := by simpa using hi
      have hj' : j < R.size := by simpa using hj
      rw [getElem!_pos R i hi', getElem!_pos R j hj'] at this
      simpa using this
    · cases h
theorem sortF_length {α : Type} {p : α → Bool} {cf : α → α → Int} : ∀ {xs ys : List α}, sortF p cf xs = some ys → CmpM p (fun x y => some (cf x y)) cf → xs.length = ys.length
  | xs, ys, h, hC => (sortF_spec hC h).1.length_eq.symm
theorem CmpM.self {α : Type} {p : α → Bool} {cmp : α → α → Option Int} {cf : α → α → Int} (h : CmpM p cmp cf) : CmpM p (fun x y => some (cf x y)) cf := ⟨fun _ _ _ _ => rfl, h.irr, h.tr, h.ntr⟩
theorem sortF_some {α : Type} {p : α → Bool} (cf : α → α → Int) : ∀ {xs : List α}, (∀ y ∈ xs, p y = true) → ∃ ys, sortF p cf xs = some ys
  | [], _ => ⟨[], rfl⟩
  | x :: r, h => ⟨_, by simp only [sortF]; rw [dif_pos h]⟩
/-- No two are alike: then there is but one way. -/
theorem sortF_strict {α : Type} {p : α → Bool} {cmp : α → α → Option Int} {cf : α → α → Int} (hC : CmpM p cmp cf) {xs zs : List α} (hp : ∀ y ∈ xs, p y = true) (hz : zs.Perm xs) (hs : zs.Pairwise (fun a b => cf a b < 0)) : sortF p cf xs = some zs := by
  obtain ⟨ys, h⟩ := sortF_some cf hp
  rw [h]
  obtain ⟨h1, h2, _⟩ := sortF_spec hC h
  congr 1
  have hzp : ∀ y ∈ zs, p y = true := fun y hy => hp y (hz.subset hy)
  have hyp : ∀ y ∈ ys, p y = true := fun y hy => hp y (h1.subset hy)
  have hperm : ys.Perm zs := h1.trans hz.symm
  clear h h1 hz hp
  induction zs generalizing ys with
  | nil => exact hperm.eq_nil
  | cons a r ih =>
    cases ys with
    | nil => exact absurd hperm.symm.eq_nil (by simp)
    | cons b t =>
      rw [List.pairwise_cons] at hs h2
      have hab : b = a := by
        have hb : b ∈ a :: r := hperm.subset (List.mem_cons_self)
        rcases List.mem_cons.1 hb with e | hb
        · exact e
        · exfalso
          have ha : a ∈ b :: t := hperm.symm.subset (List.mem_cons_self)
          have hlt := hs.1 b hb
          rcases List.mem_cons.1 ha with e | ha
          · subst e; exact hC.irr _ (hzp _ (List.mem_cons_self)) hlt
          · exact h2.1 a ha hlt
      subst hab
      congr 1
      exact ih hs.2 t h2.2 (fun y hy => hzp y (List.mem_cons_of_mem _ hy)) (fun y hy => hyp y (List.mem_cons_of_mem _ hy)) hperm.cons_inv

/-- A twin that can be reckoned: by insertion; none where two are alike. -/
def insC {α : Type} (cf : α → α → Int) (x : α) : List α → List α
  | [] => [x]
  | y :: r => if cf x y < 0 then x :: y :: r else y :: insC cf x r
def strictB {α : Type} (cf : α → α → Int) : List α → Bool
  | [] => true
  | x :: r => r.all (fun y => decide (cf x y < 0)) && strictB cf r
def sortF_c {α : Type} (p : α → Bool) (cf : α → α → Int) (xs : List α) : Option (List α) :=
  let zs := xs.foldr (insC cf) []
  if xs.all p = true ∧ strictB cf zs = true then some zs else none
theorem insC_perm {α : Type} (cf : α → α → Int) (x : α) : ∀ ys, (insC cf x ys).Perm (x :: ys)
  | [] => .refl _
  | y :: r => by
    unfold insC
    split
    · exact .refl _
    · exact ((insC_perm cf x r).cons y).trans (.swap x y r)
theorem strictB_iff {α : Type} (cf : α → α → Int) : ∀ {ys : List α}, strictB cf ys = true → ys.Pairwise (fun a b => cf a b < 0)
  | [], _ => .nil
  | x :: r, h => by
    simp only [strictB, Bool.and_eq_true, List.all_eq_true, decide_eq_true_eq] at h
    exact List.pairwise_cons.2 ⟨h.1, strictB_iff cf h.2⟩
theorem sortF_le {α : Type} {p : α → Bool} {cmp : α → α → Option Int} {cf : α → α → Int} (hC : CmpM p cmp cf) {xs zs : List α} (h : sortF_c p cf xs = some zs) : sortF p cf xs = some zs := by
  unfold sortF_c at h
  simp only at h
  split at h
  · rename_i hc
    injection h with h
    subst h
    refine sortF_strict hC (by simpa using hc.1) ?_ (strictB_iff cf hc.2)
    clear hc
    induction xs with
    | nil => exact .refl _
    | cons x r ih => exact (insC_perm cf x _).trans (ih.cons x)
  · cases h

/-! ### The row's cells -/
theorem get_flatMap {α : Type} [Inhabited α] {enc : α → List Value} {k : Nat} (hk : ∀ x, (enc x).length = k) : ∀ (xs : List α) (t : Nat), t < xs.length * k → (xs.flatMap enc)[t]? = some (enc xs.toArray[t / k]!)[t % k]!
  | [], t, h => by simp at h
  | x :: r, t, h => by
    have k0 : 0 < k := by
      rcases Nat.eq_zero_or_pos k with e | e
      · subst e; simp at h
      · exact e
    rw [List.flatMap_cons]
    by_cases ht : t < k
    · rw [List.getElem?_append_left (by rw [hk]; exact ht), Nat.div_eq_of_lt ht, Nat.mod_eq_of_lt ht]
      have : t < (enc x).length := by rw [hk]; exact ht
      simp [this]
    · have h' : t - k < r.length * k := by
        rw [List.length_cons, Nat.succ_mul] at h
        omega
      rw [List.getElem?_append_right (by rw [hk]; omega), hk, get_flatMap hk r (t - k) h']
      have e1 : t / k = (t - k) / k + 1 := by
        have := Nat.add_div_right (t - k) k0
        rwa [Nat.sub_add_cancel (by omega)] at this
      have e2 : t % k = (t - k) % k := (Nat.mod_eq_sub_mod (by omega))
      have hd : (t - k) / k < r.length := (Nat.div_lt_iff_lt_mul k0).2 h'
      rw [e1, e2]
      simp [hd]
theorem flatK_eq {α : Type} [Inhabited α] {enc : α → List Value} {k : Nat} (hk : ∀ x, (enc x).length = k) (xs : List α) : Sort.flatK enc k xs.toArray = (xs.flatMap enc).toArray := by
  have hl : (xs.flatMap enc).length = xs.length * k := by
    induction xs with
    | nil => simp
    | cons x r ih => rw [List.flatMap_cons, List.length_append, hk, ih, List.length_cons, Nat.succ_mul, Nat.add_comm]
  apply Array.ext'
  apply List.ext_getElem?
  intro t
  by_cases ht : t < xs.length * k
  · have h1 : (Sort.flatK enc k xs.toArray).toList[t]? = some (enc xs.toArray[t / k]!)[t % k]! := by
      have h2 : t < (Sort.flatK enc k xs.toArray).toList.length := by simpa using ht
      rw [List.getElem?_eq_getElem h2]
      have h3 := Sort.get_flatK enc k xs.toArray t (by simpa using ht)
      rw [getElem!_pos _ t (by simpa using ht)] at h3
      rw [← h3]
      simp
    rw [h1]
    exact (get_flatMap hk xs t ht).symm
  · rw [List.getElem?_eq_none (by simp; omega), List.getElem?_eq_none (by simp [hl] at *; omega)]

theorem holdsK_of_block {β : Type} [Inhabited β] {enc : β → List Value} {k : Nat} (hk : ∀ x, (enc x).length = k) {w : World} {g : Nat} {cur : Array Value} {e : TypeId} {xs : List β} (hb : w.heap[g]? = some (.cells cur e (0, 0))) (ht : cur.toList.take (xs.length * k) = xs.flatMap enc) : Sort.HoldsK enc k w g 0 xs.toArray := by
  unfold Sort.HoldsK
  rw [flatK_eq hk]
  intro j hj
  have hl : (xs.flatMap enc).length = xs.length * k := by rw [← ht, List.length_take]; have := congrArg List.length ht; rw [List.length_take] at this; have h2 : (xs.flatMap enc).length = xs.length * k := by
                                                            clear ht this hj
                                                            induction xs with
                                                            | nil => simp
                                                            | cons x r ih => rw [List.flatMap_cons, List.length_append, hk, ih, List.length_cons, Nat.succ_mul, Nat.add_comm]
                                                          omega
  have hj' : j < xs.length * k := by simpa [hl] using hj
  refine ⟨?_, by simp [World.frozen?, hb]⟩
  have h1 : (cur.toList.take (xs.length * k))[j]? = (xs.flatMap enc)[j]? := by rw [ht]
  rw [List.getElem?_take_of_lt hj'] at h1
  simp only [World.cell?, hb, Nat.zero_add]
  simp only [Option.isSome_none, Bool.false_eq_true, if_false]
  rw [← Array.getElem?_toList, h1]
  have h2 : j < (xs.flatMap enc).length := by rw [hl]; exact hj'
  simp [h2, List.getElem?_eq_getElem h2]

theorem grownBy_sortedK {w : World} {g n : Nat} {os : Array Obj} (F : Array Value) : w.grownBy (Sort.grow (Sort.putRow id (Sort.ahead w n) g 0 F) os) (some g) := by
  refine ⟨rfl, rfl, rfl, by simp, fun k hk hne => ?_⟩
  rw [Sort.heap_grow_old _ _ (by simpa using hk)]
  have : g ≠ k := fun e => hne (by rw [e])
  simp [Sort.putRow, Sort.mapBlock, Sort.ahead, Array.getElem?_modify, this]
theorem heap_sortedK {w : World} {g n : Nat} {os : Array Obj} {cur : Array Value} {e : TypeId} {fr : Nat × Nat} (F : Array Value) (hb : w.heap[g]? = some (.cells cur e fr)) :
    (Sort.grow (Sort.putRow id (Sort.ahead w n) g 0 F) os).heap[g]? = some (.cells (Sort.putCells id 0 F cur) e fr) := by
  have hg : g < w.heap.size := (Array.getElem?_eq_some_iff.1 hb).1
  rw [Sort.heap_grow_old _ _ (by simpa using hg)]
  simp [Sort.putRow, Sort.mapBlock, Sort.ahead, Array.getElem?_modify, hb, Sort.onCells]
theorem take_putCellsK (cur : Array Value) (F : List Value) (h : F.length ≤ cur.size) : (Sort.putCells id 0 F.toArray cur).toList.take F.length = F := by
  apply List.ext_getElem?
  intro j
  by_cases hj : j < F.length
  · rw [List.getElem?_take_of_lt hj, Array.getElem?_toList]
    simp [Sort.putCells, hj, show j < cur.size by omega]
  · rw [List.getElem?_take_eq_none (by omega), List.getElem?_eq_none (by omega)]

/-- A world in which nothing that was is turned: the same, draws and blocks on. -/
theorem grown_of_heap {w w' : World} {S : Nat → Prop} (h : Heap w (fun b => b < w.heap.size ∧ b ∉ blks []) S [] w') : ∃ q os', w' = Sort.grow (w.drewN q) os' := by
  refine ⟨w'.drawn - w.drawn, w'.heap.extract w.heap.size w'.heap.size, ?_⟩
  have hh : w'.heap = w.heap ++ w'.heap.extract w.heap.size w'.heap.size := by
    apply Array.ext_getElem?
    intro i
    by_cases hi : i < w.heap.size
    · rw [h.frame i ⟨hi, by simp [blks]⟩, Array.getElem?_append_left hi]
    · rw [Array.getElem?_append_right (by omega), Array.getElem?_extract]
      have hs := h.size
      split
      · congr 1; omega
      · rw [Array.getElem?_eq_none (by omega)]
  have hd : w.drawn + (w'.drawn - w.drawn) = w'.drawn := by have := h.drawn; omega
  cases w' with
  | mk heap tape drawn os output =>
    have h1 := h.os; have h2 := h.tape; have h3 := h.output
    simp only at h1 h2 h3 hh hd
    subst h1 h2 h3
    unfold Sort.grow World.drewN
    simp only [World.mk.injEq, true_and, and_true]
    exact ⟨hh, hd.symm⟩

theorem does_sortF {α : Type} {P : Program} {fs g : FuncId} (f : Fl α) (p : α → Bool) (cmp : α → α → Option Int) (cf : α → α → Int) (hC : CmpM p cmp cf)
    (c1 : ∀ (β : Type) (_ : Inhabited β) (enc : β → List Value) (_ : ∀ x, (enc x).length = f.sz) (_ : ∀ x, ∀ v ∈ enc x, v.oneCell' = true) (cf : β → β → Int) (_ : Sort.SWO (Proofs.ltOf cf)) (blk off cap : Nat) (d : Array β) (w : World), Proofs.CmpLays P g #[] enc f.sz cf blk off d.size w → Sort.HoldsK enc f.sz w blk off d → blk < w.heap.size → d.size < 4611686018427387904 →
      Calls P fs #[.slice (some ⟨blk, off, none⟩) d.size cap, .func (.func g) #[] #[]] w fun e w' => e = .returned (.tuple #[]) ∧ ∃ n os, w' = Proofs.sortWorldK enc f.sz w blk off n (Sort.pdq (Proofs.ltOf cf) d 0 d.size (Lib.bitLen d.size) true true) os)
    (c0 : ∀ (a : Option Addr) (cap : Nat) (w : World), Calls P fs #[.slice a 0 cap, .func (.func g) #[] #[]] w fun e w' => e = .returned (.tuple #[]) ∧ w' = w)
    (hg : ∀ x y r, cmp x y = some r → Does P g [.agg (f.enc x).toArray, .agg (f.enc y).toArray].toArray [] [] false (fun v Δ => v = .int .i64 r ∧ Δ = []))
    (xs ys : List α) (A : Option Addr) (c : Nat) (E : TypeId) (h : xs.length ≤ 4611686018427387903) (hs : sortF p cf xs = some ys) :
    Does P fs [.slice A xs.length c, .func (.func g) #[] #[]].toArray [] [At.row A c E f.kd xs false] false (fun v Δ => v = .tuple #[] ∧ Δ = [At.row A c E f.kd ys false]) := by
  intro w S hS hnd hown hpre hsat
  obtain ⟨cells, ⟨hl, ho⟩, hreps⟩ := hsat _ (List.mem_singleton.2 rfl)
  have hcells : cells = xs.flatMap f.enc := Reps.flat.1 hreps
  rcases ho with ⟨hv, hn⟩ | ⟨gb, cap, cur, hv, _, hgb, hle, hmax, hsz, htk⟩
  · injection hv with h1 _ h3
    subst h1 h3
    obtain rfl : xs = [] := List.eq_nil_of_length_eq_zero hn
    simp only [sortF, Option.some.injEq] at hs
    subst hs
    refine (c0 none 0 w).mono fun e w' ⟨he, hw⟩ => ⟨_, _, he, ⟨rfl, rfl⟩, ?_, fun _ t ht => by simp at ht; subst ht; rfl⟩
    subst hw
    refine ⟨rfl, rfl, rfl, Nat.le_refl _, Nat.le_refl _, fun _ _ => rfl, by simp [blks, At.row], fun b hb => by simp [blks, At.row] at hb, fun t ht => ?_⟩
    simp at ht
    subst ht
    exact row_nil E _ false w' _
  · injection hv with h1 _ h3
    subst h1 h3
    have hlt : gb < w.heap.size := (Array.getElem?_eq_some_iff.1 hgb).1
    have e1 : f.kd.sz = f.sz := rfl
    rw [e1] at hsz htk
    rw [hcells] at htk
    have hbl : blks [At.row (some ⟨gb, 0, none⟩) c E f.kd xs false] = [gb] := by simp [blks, At.row]
    rw [hbl]
    cases xs with
    | nil =>
      simp only [sortF, Option.some.injEq] at hs
      subst hs
      refine (c0 _ c w).mono fun e w' ⟨he, hw⟩ => ⟨_, _, he, ⟨rfl, rfl⟩, ?_, fun _ t ht => by simp at ht; subst ht; rfl⟩
      subst hw
      have hsat' := hsat _ (List.mem_singleton.2 rfl)
      refine ⟨rfl, rfl, rfl, Nat.le_refl _, Nat.le_refl _, fun _ _ => rfl, by simp [blks, At.row], fun b hb => ?_, fun t ht => ?_⟩
      · simp [blks, At.row] at hb; subst hb; exact ⟨fun hf => hf.2 (by simp), hlt⟩
      · simp at ht
        subst ht
        exact ⟨[], ⟨by simp, .inr ⟨gb, c, cur, rfl, Nat.zero_le _, hgb, hle, hmax, hsz, by simp⟩⟩, Reps.flat.2 rfl⟩
    | cons x r =>
      simp only [sortF] at hs
      split at hs
      · rename_i hp
        injection hs with hs
        have hI : Inhabited { x : α // p x = true } := ⟨⟨x, hp x (List.mem_cons_self)⟩⟩
        have e0 : ((x :: r).attachWith (fun y => p y = true) hp).map (·.1) = x :: r := by simp
        generalize hD : ((x :: r).attachWith (fun y => p y = true) hp) = D at hs e0
        have hfm : ∀ (D : List { x : α // p x = true }), D.flatMap (fun y => f.enc y.1) = (D.map (·.1)).flatMap f.enc := fun D => by
          induction D with
          | nil => rfl
          | cons a b ih => rw [List.flatMap_cons, ih, List.map_cons, List.flatMap_cons]
        have hk : ∀ y : { x : α // p x = true }, (f.enc y.1).length = f.sz := fun y => f.len _
        have hDl : D.length = (x :: r).length := by rw [← e0, List.length_map]
        have hcmp : @Proofs.CmpLays { x : α // p x = true } ⟨⟨x, hp x (List.mem_cons_self)⟩⟩ P g #[] (fun y => f.enc y.1) f.sz (subCf p cf) gb 0 D.toArray.size w := by
          intro m os dk hdk a b
          have hd := hg a.1 b.1 _ (hC.eq a.1 b.1 a.2 b.2) (@Proofs.sortWorldK _ ⟨⟨x, hp x (List.mem_cons_self)⟩⟩ (fun y : { x : α // p x = true } => f.enc y.1) f.sz w gb 0 m dk os) (fun _ => False) (fun _ hf => hf.elim) (by simp [blks]) (fun b hb => by simp [blks] at hb) (fun _ hm => by cases hm) (fun _ hm => by cases hm)
          refine hd.mono fun e w' ⟨v, Δr, he, ⟨hv, hΔ⟩, hh, _⟩ => ?_
          subst hv hΔ
          exact ⟨he, grown_of_heap hh⟩
        have hH : @Sort.HoldsK { x : α // p x = true } ⟨⟨x, hp x (List.mem_cons_self)⟩⟩ (fun y => f.enc y.1) f.sz w gb 0 D.toArray := by
          refine @holdsK_of_block _ ⟨⟨x, hp x (List.mem_cons_self)⟩⟩ _ _ hk _ _ _ _ D hgb ?_
          rw [hDl, hfm, e0]
          exact htk
        have hcon := c1 { x : α // p x = true } ⟨⟨x, hp x (List.mem_cons_self)⟩⟩ (fun y => f.enc y.1) hk (fun y v hv => f.one _ v hv) (subCf p cf) hC.swo gb 0 c D.toArray w hcmp hH hlt (by simp only [List.size_toArray]; rw [hDl]; omega)
        have hPs := @Sort.pdq_sorts { x : α // p x = true } ⟨⟨x, hp x (List.mem_cons_self)⟩⟩ (Proofs.ltOf (subCf p cf)) hC.swo D.toArray 0 D.toArray.size (Lib.bitLen D.toArray.size) true true (Nat.zero_le _) (Nat.le_refl _) (.inl rfl)
        have hRs := hPs.1.1
        generalize hR : @Sort.pdq { x : α // p x = true } ⟨⟨x, hp x (List.mem_cons_self)⟩⟩ (Proofs.ltOf (subCf p cf)) D.toArray 0 D.toArray.size (Lib.bitLen D.toArray.size) true true = R at hs hcon hRs
        have hsz2 : D.toArray.size = (x :: r).length := by simp only [List.size_toArray]; exact hDl
        rw [hsz2] at hcon
        refine hcon.mono fun e w' ⟨he, n, os, hw⟩ => ⟨_, _, he, ⟨rfl, rfl⟩, ?_, fun _ t ht => by simp at ht; subst ht; rfl⟩
        have hF : @Sort.flatK { x : α // p x = true } ⟨⟨x, hp x (List.mem_cons_self)⟩⟩ (fun y => f.enc y.1) f.sz R = (ys.flatMap f.enc).toArray := by
          have := @flatK_eq { x : α // p x = true } ⟨⟨x, hp x (List.mem_cons_self)⟩⟩ (fun y => f.enc y.1) f.sz hk R.toList
          rw [hfm, hs] at this
          simpa using this
        have hw2 : w' = Sort.grow (Sort.putRow id (Sort.ahead w n) gb 0 (ys.flatMap f.enc).toArray) os := by
          rw [hw]
          unfold Proofs.sortWorldK Sort.putRowK
          rw [hF]
        subst hw2
        have hyl : ys.length = (x :: r).length := by
          rw [← hs, List.length_map, Array.length_toList, hRs, hsz2]
        have hfl : (ys.flatMap f.enc).length = ys.length * f.sz := ((Reps.flat (w := w) (S := fun _ => True)).2 (rfl : ys.flatMap f.enc = ys.flatMap f.enc)).length
        refine heap_turned hlt _ (grownBy_sortedK _) (Nat.le_add_right _ _) rfl fun S' => ?_
        have hle2 : ys.length * f.sz ≤ cur.size := by rw [hsz, hyl]; exact Nat.mul_le_mul_right _ hle
        refine ⟨ys.flatMap f.enc, ⟨hfl, .inr ⟨gb, c, _, ?_, Nat.zero_le _, heap_sortedK _ hgb, by rw [hyl]; exact hle, hmax, by simp [Sort.putCells, hsz, e1], ?_⟩⟩, Reps.flat.2 rfl⟩
        · rw [hyl]
        · show List.take (ys.length * f.sz) _ = _
          rw [← hfl]
          exact take_putCellsK cur _ (by rw [hfl]; exact hle2)
      · cases hs
/-! ### append(nil, make([]T, n)...) -/
section
variable {X : Ctx} {ρ : Env} {Δ : List At} {Q : Exit → Act → World → Prop} {ops : Array Oper} {rest : List Oper}
theorem zeroCells_zrow (z : Array Value) (n : Nat) : (Builtin.zeroCells z n).toList = zrow z.toList n := by
  have h := zrow_eq z.toList n
  simpa [Builtin.zeroCells] using h
theorem JL.appendZeros {α : Type} {dst : Option Tmp} {s x : Operand} {T tn ty' : TypeId} {pos : String} {after : Array Edge} {bytes : Nat} {z : Value} (k kn : IntKind) (E : TypeId) (d : Kd α) (x0 : α) (n : Int)
    (hT : X.P.underlying T = some (.slice E)) (htn : X.P.underlying tn = some (.int kn)) (hi : (X.P.info? E).map (fun i => (i.zero, i.size, i.bytes)) = some (some z, d.sz, bytes)) (hx0 : ∀ w S, d.rep w S x0 z.cells.toList)
    (h0 : 1 ≤ n) (h2 : n * bytes ≤ 140737488355328) (h3 : n ≤ 140737488355328)
    (h : ∀ A' c', JQ X (wpList X.P ops Q rest) (upO ρ dst (.slice A' (List.replicate n.toNat x0).length c')) (Δ ++ [At.row A' c' E d (List.replicate n.toNat x0) false]))
    (hz : Nat.ble 1 d.sz = true := by kernel_rfl) (hs : known ρ s = true := by kernel_rfl) (hx : known ρ x = true := by kernel_rfl) (hse : ev ρ s = .slice none 0 0 := by kernel_rfl) (hxe : ev ρ x = .int k n := by kernel_rfl) (hd : okd X.n dst = true := by kernel_rfl) :
    JQ X (wpList X.P ops Q (⟨dst, .call ⟨.builtin .append, #[s, x], #[T, tn]⟩, ty', pos, after, none⟩ :: rest)) ρ Δ := by
  refine JL.step rfl fun a w ha hw => ?_
  obtain ⟨ti, hi1, hi2⟩ := Option.map_eq_some_iff.1 hi
  simp only [Prod.mk.injEq] at hi2
  obtain ⟨hz1, hz2, hz3⟩ := hi2
  have hz' := Nat.le_of_ble_eq_true hz
  obtain ⟨m, rfl⟩ : ∃ m : Nat, n = (m : Int) := ⟨n.toNat, by omega⟩
  rw [Int.toNat_natCast] at h
  have hmb : m * ti.bytes ≤ 281474976710656 := by
    rw [hz3]
    have : ((m * bytes : Nat) : Int) ≤ 140737488355328 := by push_cast; exact h2
    omega
  have hr := Lib.run_append_nil_zeros (P := X.P) w T tn ty' E ti z k kn hT htn hi1 hz1 m (by omega) (by rw [hz2]; omega) (by omega) hmb
  have hzs : z.cells.toList.length = d.sz := d.len (hx0 default (fun _ => False))
  have hexec : (execOp a.eval ⟨dst, .call ⟨.builtin .append, #[s, x], #[T, tn]⟩, ty', pos, after, none⟩).run X.P w = .ok (.value (.slice (some ⟨w.heap.size, 0, none⟩) m (grownCap w m 0 E)))
      (w.drew.alloc (.cells (Builtin.zeroCells z.cells m ++ Builtin.zeroCells z.cells (grownCap w m 0 E - m)) E)) := by
    simp only [execOp, resolve, invoke, builtin, ha.eval hs, ha.eval hx, hse, hxe, pure_bind, List.map_toArray, List.map_cons, List.map_nil, Sem.run_bind, hr, Result.andThen_ok, Sem.run_pure]
  refine ⟨_, _, .inl hexec, ?_⟩
  have hge := grownCap_ge w m 0 E
  have hcm : grownCap w m 0 E ≤ maxLen := grownCap_le_maxLen w m 0 E (by simp only [maxLen]; omega)
  have e : Builtin.zeroCells z.cells m ++ Builtin.zeroCells z.cells (grownCap w m 0 E - m) = (zrow z.cells.toList (grownCap w m 0 E)).toArray := by
    apply Array.ext'
    rw [Array.toList_append, zeroCells_zrow, zeroCells_zrow]
    have : grownCap w m 0 E = m + (grownCap w m 0 E - m) := by omega
    conv => rhs; rw [this]
    simp [zrow, ← List.replicate_append_replicate]
  rw [e]
  have := h (some ⟨w.heap.size, 0, none⟩) (grownCap w m 0 E) _ _ (ha.putO hd _) ((hw.drewN 1).alloc X.hF (.cells (zrow z.cells.toList (grownCap w m 0 E)).toArray E) (At.row (some ⟨w.heap.size, 0, none⟩) (grownCap w m 0 E) E d (List.replicate m x0) false) rfl fun S' hS => ?_)
  · rw [List.length_replicate] at this
    exact this
  · refine row_new (w := w.drew) (cells := zrow z.cells.toList m) ?_ ?_ ?_ hcm ?_ ?_
    · rw [zrow_length, hzs, List.length_replicate]
    · rw [zrow_length, hzs]
    · rw [List.length_replicate]; exact hge
    · rw [zrow_length]; exact zrow_take _ hge
    · exact Reps.zrow (hx0 _ _) _
end
end Go.GW
