/-
  Gw11: regions that draw their order, in which variables are made while others read: whatever order is drawn, what is read is the same, and the variables that were made are there at the end.
-/
import Derived.Test.YtiepcikippcfaaaGw10
set_option linter.unusedVariables false
set_option linter.unusedSimpArgs false
namespace Go.GW
open Go

def dstAt (ops : Array Oper) (i : Nat) : Option Tmp := (ops[i]?).bind (·.dst)
/-- Ahead of m: each place that an operation looks at is made by one that it waits for and that makes no variable, or by none; no two write one place. -/
def parB (md : Region.Mode) (ops : Array Oper) (m : Nat) (al : List Nat) : Bool :=
  (List.range m).all fun i => match ops[i]? with
    | none => false
    | some o => noSelect o.op && (List.range m).all fun j => match dstAt ops j with
      | none => true
      | some t => (!(o.looksAt ops).contains t || ((o.after.any fun e => Region.binds md e && e.on == j) && !al.contains j && Nat.blt j i)) && (Nat.beq i j || !(o.dst == some t))

structure Made where
  i : Nat
  d : Tmp
  ty : TypeId
  z : List Value
def Made.ok (P : Program) (l : List Oper) (m : Nat) (q : Made) : Prop :=
  q.i < m ∧ (∃ ty' pos after, l[q.i]? = some ⟨some q.d, .alloc q.ty, ty', pos, after, none⟩) ∧ (P.info? q.ty).bind (fun i => i.zero.map (·.cells)) = some q.z.toArray

section
variable {X : Ctx} {l : List Oper} {m : Nat} {als : List Made} {Δ : List At} {R : Act → World → Prop}

def upd {α : Type} (f : Nat → α) (i : Nat) (v : α) : Nat → α := fun j => if j = i then v else f j
def valOf (al : List Nat) (vs : Nat → Value) (β : Nat → Nat) (i : Nat) : Value := bif al.contains i then .pointer (some ⟨β i, 0, none⟩) else vs i

/-- The frame behind those that have come up. -/
structure Good (ops : Array Oper) (m : Nat) (a0 : Act) (val : Nat → Value) (sel : Nat → Bool) (a : Act) : Prop where
  size : a.tmps.size = a0.tmps.size
  defers : a.defers = a0.defers
  hit : ∀ i, i < m → sel i = true → ∀ t, dstAt ops i = some t → t < a0.tmps.size → a.tmps[t]? = some (val i)
  miss : ∀ t, (∀ i, i < m → sel i = true → dstAt ops i ≠ some t) → a.tmps[t]? = a0.tmps[t]?

theorem Good.congr {ops : Array Oper} {m : Nat} {a0 a : Act} {val val' : Nat → Value} {sel sel' : Nat → Bool} (h : Good ops m a0 val sel a) (hs : ∀ i, i < m → sel' i = sel i) (hv : ∀ i, i < m → sel i = true → val' i = val i) : Good ops m a0 val' sel' a :=
  ⟨h.size, h.defers, fun i hi hsi t ht hlt => by rw [hs i hi] at hsi; rw [hv i hi hsi]; exact h.hit i hi hsi t ht hlt, fun t ht => h.miss t fun i hi hsi => ht i hi (by rw [hs i hi]; exact hsi)⟩

theorem Good.start (ops : Array Oper) (m : Nat) (a0 : Act) (val : Nat → Value) : Good ops m a0 val (fun _ => false) a0 :=
  ⟨rfl, rfl, fun i _ h => (by cases h), fun _ _ => rfl⟩

theorem put_size (a : Act) (d : Option Tmp) (v : Value) : (a.put d v).tmps.size = a.tmps.size := by cases d <;> simp [Act.put]
theorem put_defers (a : Act) (d : Option Tmp) (v : Value) : (a.put d v).defers = a.defers := by cases d <;> simp [Act.put]

theorem Good.put {ops : Array Oper} {m : Nat} {a0 a : Act} {val val' : Nat → Value} {sel : Nat → Bool} {i : Nat} {v : Value} (h : Good ops m a0 val sel a) (hi : i < m) (hsi : sel i = false)
    (hd : ∀ j, j < m → j ≠ i → ∀ t, dstAt ops j = some t → dstAt ops i ≠ some t) (hv : val' i = v) (hv' : ∀ j, j < m → sel j = true → val' j = val j) : Good ops m a0 val' (upd sel i true) (a.put (dstAt ops i) v) := by
  refine ⟨by rw [put_size]; exact h.size, by rw [put_defers]; exact h.defers, fun j hj hsj t ht hlt => ?_, fun t ht => ?_⟩
  · by_cases hji : j = i
    · subst hji
      rw [ht, hv]
      simp only [Act.put]
      rw [Array.getElem?_setIfInBounds_self_of_lt (by rw [h.size]; exact hlt)]
    · simp only [upd, if_neg hji] at hsj
      rw [hv' j hj hsj, ← h.hit j hj hsj t ht hlt]
      have hne := hd j hj hji t ht
      cases hdi : dstAt ops i with
      | none => rfl
      | some u =>
        simp only [Act.put]
        rw [Array.getElem?_setIfInBounds_ne]
        rintro rfl
        exact hne hdi
  · have h1 : dstAt ops i ≠ some t := ht i hi (by simp [upd])
    have h2 : a.tmps[t]? = a0.tmps[t]? := h.miss t fun j hj hsj => ht j hj (by simp only [upd]; split <;> simp_all)
    rw [← h2]
    cases hdi : dstAt ops i with
    | none => rfl
    | some u =>
      simp only [Act.put]
      rw [Array.getElem?_setIfInBounds_ne]
      rintro rfl
      exact h1 hdi

theorem Good.unique {ops : Array Oper} {m : Nat} {a0 a b : Act} {val : Nat → Value} {sel : Nat → Bool} (ha : Good ops m a0 val sel a) (hb : Good ops m a0 val sel b) : a = b := by
  obtain ⟨ta, da⟩ := a
  obtain ⟨tb, db⟩ := b
  have h1 : da = db := ha.defers.trans hb.defers.symm
  have h2 : ta = tb := by
    apply Array.ext_getElem?
    intro t
    by_cases hex : ∃ i, i < m ∧ sel i = true ∧ dstAt ops i = some t
    · obtain ⟨i, hi, hs, hd⟩ := hex
      by_cases hlt : t < a0.tmps.size
      · exact (ha.hit i hi hs t hd hlt).trans (hb.hit i hi hs t hd hlt).symm
      · have e1 : ta.size = a0.tmps.size := ha.size
        have e2 : tb.size = a0.tmps.size := hb.size
        rw [Array.getElem?_eq_none (by omega), Array.getElem?_eq_none (by omega)]
    · have hno : ∀ i, i < m → sel i = true → dstAt ops i ≠ some t := fun i hi hs hd => hex ⟨i, hi, hs, hd⟩
      exact (ha.miss t hno).trans (hb.miss t hno).symm
  rw [h1, h2]

/-- Two frames that differ only in places at which an operation does not look serve it alike. -/
theorem same_looks {ops : Array Oper} {o : Oper} {a b : Act} (hs : noSelect o.op = true) (h : ∀ t ∈ o.looksAt ops, a.tmps[t]? = b.tmps[t]?) :
    execOp a.eval o = execOp b.eval o ∧ Region.wanted o (yielded ops a.tmps) = Region.wanted o (yielded ops b.tmps) := by
  constructor
  · refine execOp_congr o (fun cs c e => by rw [e] at hs; simp [noSelect] at hs) fun x hx => ?_
    cases x with
    | tmp t =>
      have := h t (List.mem_append_left _ (List.mem_filterMap.2 ⟨.tmp t, by simpa using hx, rfl⟩))
      simp only [Act.eval, Array.getD_eq_getD_getElem?, this]
    | const v => rfl
    | global g => rfl
    | func f => rfl
  · unfold Region.wanted
    cases hg : o.guard with
    | none => rfl
    | some q =>
      obtain ⟨g, b'⟩ := q
      simp only []
      have : yielded ops a.tmps g = yielded ops b.tmps g := by
        unfold yielded
        cases hd : (ops[g]?).bind (·.dst) with
        | none => rfl
        | some t =>
          have := h t (List.mem_append_right _ (by rw [hg]; simp [hd]))
          simp only [Option.bind_some, this]
      rw [this]

/-- The lexical walk, told number by number. -/
theorem wpPar_told {ι : Type} {P : Program} {ops : Array Oper} {C : ι → World → Prop} {K : Act → Prop} {al : List Nat} {m : Nat} : ∀ (l : List Oper) (k : Nat) (a : Act), (∀ j, l[j]? = if k + j < m then ops[k + j]? else none) → m ≤ ops.size → wpPar P ops C K al k l a → k ≤ m →
    ∃ (vs : Nat → Value) (A : Nat → Act), A k = a ∧ K (A m) ∧ ∀ i, k ≤ i → i < m → ∀ o, ops[i]? = some o → if al.contains i = true then A (i + 1) = A i else A (i + 1) = (A i).put o.dst (vs i) ∧ (Region.wanted o (yielded ops (A i).tmps) = true → quietF P C o (A i) (vs i)) ∧ (Region.wanted o (yielded ops (A i).tmps) = false → vs i = undef)
  | [], k, a, hl, hm, h, hk => by
    have : k = m := by
      have := hl 0
      simp only [List.getElem?_nil, Nat.add_zero] at this
      by_cases hkm : k < m
      · rw [if_pos hkm, Array.getElem?_eq_getElem (by omega)] at this
        cases this
      · omega
    subst this
    exact ⟨fun _ => undef, fun _ => a, rfl, h, fun i h1 h2 => by omega⟩
  | o :: l, k, a, hl, hm, h, hk => by
    have h0 := hl 0
    simp only [List.getElem?_cons_zero, Nat.add_zero] at h0
    have hkm : k < m := by
      by_cases hkm : k < m
      · exact hkm
      · rw [if_neg hkm] at h0; cases h0
    rw [if_pos hkm] at h0
    have hl' : ∀ j, l[j]? = if (k + 1) + j < m then ops[(k + 1) + j]? else none := fun j => by
      have := hl (j + 1)
      simpa [Nat.add_assoc, Nat.add_comm 1 j] using this
    -- the step: what stands at k, then the rest
    have step : ∀ (v : Value) (a' : Act), wpPar P ops C K al (k + 1) l a' → (if al.contains k = true then a' = a else a' = a.put o.dst v ∧ (Region.wanted o (yielded ops a.tmps) = true → quietF P C o a v) ∧ (Region.wanted o (yielded ops a.tmps) = false → v = undef)) →
        ∃ (vs : Nat → Value) (A : Nat → Act), A k = a ∧ K (A m) ∧ ∀ i, k ≤ i → i < m → ∀ o, ops[i]? = some o → if al.contains i = true then A (i + 1) = A i else A (i + 1) = (A i).put o.dst (vs i) ∧ (Region.wanted o (yielded ops (A i).tmps) = true → quietF P C o (A i) (vs i)) ∧ (Region.wanted o (yielded ops (A i).tmps) = false → vs i = undef) := by
      intro v a' hw hc
      obtain ⟨vs, A, hA, hK, hall⟩ := wpPar_told l (k + 1) a' hl' hm hw (by omega)
      refine ⟨upd vs k v, fun j => if j = k then a else A j, by simp, by simpa [show m ≠ k by omega] using hK, fun i h1 h2 o' ho' => ?_⟩
      by_cases hik : i = k
      · subst hik
        have : o' = o := Option.some.inj (ho'.symm.trans h0.symm)
        subst this
        simpa [upd, hA] using hc
      · have := hall i (by omega) h2 o' ho'
        simpa [upd, hik, show i + 1 ≠ k by omega] using this
    unfold wpPar at h
    by_cases ha : al.contains k = true
    · rw [ha, cond_true] at h
      exact step undef a h (by rw [if_pos ha])
    · have ha' : al.contains k = false := by simpa using ha
      rw [ha', cond_false] at h
      by_cases hw : Region.wanted o (yielded ops a.tmps) = true
      · rw [if_pos hw] at h
        obtain ⟨v, h1, h2⟩ := h
        exact step v _ h2 (by rw [if_neg ha]; exact ⟨rfl, fun _ => h1, fun e => (by rw [hw] at e; cases e)⟩)
      · rw [if_neg hw] at h
        exact step undef _ h (by rw [if_neg ha]; exact ⟨rfl, fun e => absurd e hw, fun _ => rfl⟩)

def boxesOf (sel : Nat → Bool) (β : Nat → Nat) (als : List Made) : List At := als.filterMap fun q => bif sel q.i then some (At.box (β q.i) q.ty q.z) else none
theorem boxes_congr {sel sel' : Nat → Bool} {β β' : Nat → Nat} : ∀ {als : List Made}, (∀ q ∈ als, sel' q.i = sel q.i) → (∀ q ∈ als, sel q.i = true → β' q.i = β q.i) → boxesOf sel' β' als = boxesOf sel β als
  | [], _, _ => rfl
  | q :: als, h1, h2 => by
    simp only [boxesOf, List.filterMap_cons]
    rw [h1 q (by simp)]
    have ih := boxes_congr (als := als) (fun q hq => h1 q (by simp [hq])) (fun q hq => h2 q (by simp [hq]))
    simp only [boxesOf] at ih
    cases hs : sel q.i
    · simpa using ih
    · simp only [cond_true]
      rw [h2 q (by simp) hs, ih]
theorem boxes_all {sel : Nat → Bool} {β : Nat → Nat} : ∀ {als : List Made}, (∀ q ∈ als, sel q.i = true) → boxesOf sel β als = als.map fun q => At.box (β q.i) q.ty q.z
  | [], _ => rfl
  | q :: als, h => by
    have ih := boxes_all (β := β) (als := als) (fun p hp => h p (by simp [hp]))
    simp only [boxesOf, List.filterMap_cons, List.map_cons, h q (by simp), cond_true] at ih ⊢
    rw [ih]
theorem boxes_upd {sel : Nat → Bool} {β : Nat → Nat} {b : Nat} {q : Made} : ∀ {als : List Made}, (als.map (·.i)).Nodup → q ∈ als → sel q.i = false → (boxesOf (upd sel q.i true) (upd β q.i b) als).Perm (boxesOf sel β als ++ [At.box b q.ty q.z])
  | [], _, h, _ => by cases h
  | p :: als, hn, h, hs => by
    simp only [List.map_cons, List.nodup_cons] at hn
    rcases List.mem_cons.1 h with rfl | h
    · have hrest : boxesOf (upd sel q.i true) (upd β q.i b) als = boxesOf sel β als := boxes_congr (fun p hp => by
        have : p.i ≠ q.i := fun e => hn.1 (List.mem_map.2 ⟨p, hp, e⟩)
        simp [upd, this]) (fun p hp _ => by
        have : p.i ≠ q.i := fun e => hn.1 (List.mem_map.2 ⟨p, hp, e⟩)
        simp [upd, this])
      have e1 : boxesOf (upd sel q.i true) (upd β q.i b) (q :: als) = At.box b q.ty q.z :: boxesOf (upd sel q.i true) (upd β q.i b) als := by simp [boxesOf, upd]
      have e2 : boxesOf sel β (q :: als) = boxesOf sel β als := by simp [boxesOf, hs]
      rw [e1, e2, hrest]
      exact (List.perm_append_singleton _ _).symm
    · have hpi : p.i ≠ q.i := fun e => hn.1 (List.mem_map.2 ⟨q, h, e.symm⟩)
      have ih := boxes_upd (β := β) (b := b) hn.2 h hs
      cases hp : sel p.i with
      | false =>
        have e1 : boxesOf (upd sel q.i true) (upd β q.i b) (p :: als) = boxesOf (upd sel q.i true) (upd β q.i b) als := by simp [boxesOf, upd, hpi, hp]
        have e2 : boxesOf sel β (p :: als) = boxesOf sel β als := by simp [boxesOf, hp]
        rw [e1, e2]; exact ih
      | true =>
        have e1 : boxesOf (upd sel q.i true) (upd β q.i b) (p :: als) = At.box (β p.i) p.ty p.z :: boxesOf (upd sel q.i true) (upd β q.i b) als := by simp [boxesOf, upd, hpi, hp]
        have e2 : boxesOf sel β (p :: als) = At.box (β p.i) p.ty p.z :: boxesOf sel β als := by simp [boxesOf, hp]
        rw [e1, e2]; exact ih.cons _

def open_ (sel : Nat → Bool) (m : Nat) : Nat := (List.range m).countP fun i => !sel i
theorem open_upd {sel : Nat → Bool} {i : Nat} (hs : sel i = false) : ∀ {m : Nat}, i < m → open_ (upd sel i true) m + 1 = open_ sel m
  | 0, h => by omega
  | m + 1, h => by
    simp only [open_, List.range_succ, List.countP_append, List.countP_singleton]
    by_cases him : i = m
    · subst him
      have : (List.range i).countP (fun j => !upd sel i true j) = (List.range i).countP (fun j => !sel j) := by
        apply List.countP_congr
        intro j hj
        have : j ≠ i := by have := List.mem_range.1 hj; omega
        simp [upd, this]
      rw [this]
      simp [upd, hs]
    · have ih := open_upd hs (m := m) (by omega)
      simp only [open_] at ih
      have e : upd sel i true m = sel m := by simp [upd, Ne.symm him]
      rw [e]
      omega
theorem open_zero {sel : Nat → Bool} {m : Nat} (h : open_ sel m = 0) : ∀ i, i < m → sel i = true := fun i hi => by
  have := List.countP_eq_zero.1 h i (List.mem_range.2 hi)
  simpa using this
theorem open_congr {sel sel' : Nat → Bool} {m : Nat} (h : ∀ j, j < m → sel' j = sel j) : open_ sel' m = open_ sel m :=
  List.countP_congr fun j hj => by rw [h j (List.mem_range.1 hj)]

def putAll (β : Nat → Nat) : List Made → Act → Act
  | [], a => a
  | q :: als, a => putAll β als (a.put (some q.d) (.pointer (some ⟨β q.i, 0, none⟩)))
theorem KA_end (β : Nat → Nat) : ∀ (als : List Made) (Δ : List At) (a : Act), KA X R (als.map fun q => (q.d, q.ty, q.z)) Δ a → ∀ w, Heap X.w0 X.F X.S (Δ ++ als.map fun q => At.box (β q.i) q.ty q.z) w → R (putAll β als a) w
  | [], Δ, a, h, w, hw => h w (by simpa using hw)
  | q :: als, Δ, a, h, w, hw => KA_end β als (Δ ++ [At.box (β q.i) q.ty q.z]) _ (h (β q.i)) w (by simpa using hw)
theorem good_putAll {ops : Array Oper} {a0 : Act} {val : Nat → Value} (β : Nat → Nat) (hd : ∀ i j, i < m → j < m → j ≠ i → ∀ t, dstAt ops j = some t → dstAt ops i ≠ some t) : ∀ (als : List Made) (sel : Nat → Bool) (a : Act), (als.map (·.i)).Nodup → (∀ q ∈ als, q.i < m ∧ dstAt ops q.i = some q.d ∧ sel q.i = false ∧ val q.i = .pointer (some ⟨β q.i, 0, none⟩)) → Good ops m a0 val sel a →
    Good ops m a0 val (fun j => sel j || (als.map (·.i)).contains j) (putAll β als a)
  | [], sel, a, _, _, h => h.congr (fun i _ => by simp) (fun _ _ _ => rfl)
  | q :: als, sel, a, hn, hq, h => by
    simp only [List.map_cons, List.nodup_cons] at hn
    obtain ⟨h1, h2, h3, h4⟩ := hq q (by simp)
    have hp := h.put h1 h3 (fun j hj hne => hd q.i j h1 hj hne) h4 (fun _ _ _ => rfl)
    rw [h2] at hp
    have := good_putAll β hd als (upd sel q.i true) _ hn.2 (fun p hp' => by
      obtain ⟨g1, g2, g3, g4⟩ := hq p (by simp [hp'])
      have : p.i ≠ q.i := fun e => hn.1 (List.mem_map.2 ⟨p, hp', e⟩)
      exact ⟨g1, g2, by simpa [upd, this] using g3, g4⟩) hp
    refine this.congr (fun j _ => ?_) (fun _ _ _ => rfl)
    by_cases hj : j = q.i
    · subst hj; simp [upd]
    · simp [upd, hj]

theorem parB_at {md : Region.Mode} {ops : Array Oper} {al : List Nat} (h : parB md ops m al = true) {i : Nat} (hi : i < m) {o : Oper} (ho : ops[i]? = some o) : noSelect o.op = true ∧ ∀ j, j < m → ∀ t, dstAt ops j = some t → (t ∈ o.looksAt ops → (∃ e ∈ o.after, Region.binds md e = true ∧ e.on = j) ∧ al.contains j = false ∧ j < i) ∧ (i ≠ j → o.dst ≠ some t) := by
  simp only [parB, List.all_eq_true, List.mem_range] at h
  have h1 := h i hi
  rw [ho] at h1
  simp only [Bool.and_eq_true, List.all_eq_true, List.mem_range] at h1
  refine ⟨h1.1, fun j hj t ht => ?_⟩
  have h2 := h1.2 j hj
  rw [ht] at h2
  simp only [Bool.and_eq_true, Bool.or_eq_true, Bool.not_eq_true', Array.any_eq_true', beq_iff_eq, beq_eq_false_iff_ne] at h2
  refine ⟨fun hl => ?_, fun hne => ?_⟩
  · rcases h2.1 with h3 | h3
    · have : (o.looksAt ops).contains t = true := by simpa using hl
      rw [this] at h3; cases h3
    · exact ⟨h3.1.1, h3.1.2, blt_lt h3.2⟩
  · rcases h2.2 with h3 | h3
    · exact absurd (Nat.eq_of_beq_eq_true h3) hne
    · exact h3

theorem J.drawA {ρ : Env} {Q : Exit → Act → World → Prop} {id : Nat} {l : List Oper} (m : Nat) (als : List Made)
    (h : QL X (KA X (wpList X.P l.toArray (Strict Q) (l.drop m)) (als.map fun q => (q.d, q.ty, q.z)) Δ) l.toArray (als.map (·.i)) 0 (l.take m) ρ Δ) (hok : ∀ q ∈ als, q.ok X.P l m) (hm : X.P.follows .mixedOrders = true := by kernel_rfl)
    (hB : parB .any l.toArray m (als.map (·.i)) = true := by kernel_rfl) (hT : tailB .any l.toArray m = true := by kernel_rfl) (hl : Nat.ble m l.length = true := by kernel_rfl) (hn : (als.map (·.i)).Nodup := by decide) (hnd : l.all nodef = true := by kernel_rfl) :
    JQ X (cw X (Code.region id l.toArray true) Q) ρ Δ := by
  intro a0 w0 ha hw0
  refine cw_draw hm ?_ (by simpa using hnd)
  have hlm := Nat.le_of_ble_eq_true hl
  have hsz : l.toArray.size = l.length := by simp
  generalize hops : l.toArray = ops at *
  generalize hal : als.map (·.i) = al at *
  have hlist : ops.toList = l := by rw [← hops]
  have hget : ∀ i : Nat, ops[i]? = l[i]? := fun i => by rw [← hops]; simp
  obtain ⟨vs, A, hA0, hK, hall⟩ := wpPar_told (m := m) (l.take m) 0 a0 (fun j => by
    rw [Nat.zero_add, List.getElem?_take]; split <;> simp [hget]) (by omega) (h a0 ha ⟨w0, hw0⟩) (Nat.zero_le _)
  have hdst : ∀ i j, i < m → j < m → j ≠ i → ∀ t, dstAt ops j = some t → dstAt ops i ≠ some t := by
    intro i j hi hj hne t ht e
    have ho : ops[i]? = some ops[i] := Array.getElem?_eq_getElem (by omega)
    have := ((parB_at hB hi ho).2 j hj t ht).2 (Ne.symm hne)
    apply this
    simpa [dstAt, ho] using e
  -- the lexical frames
  have hsel : ∀ i, i ≤ m → Good ops m a0 vs (fun j => decide (j < i) && !al.contains j) (A i) := by
    intro i
    induction i with
    | zero =>
      intro _
      rw [hA0]
      exact (Good.start ops m a0 vs).congr (fun j _ => by simp) (fun _ _ h => by cases h)
    | succ i ih =>
      intro hi
      have hg := ih (by omega)
      have ho : ops[i]? = some ops[i] := Array.getElem?_eq_getElem (by omega)
      have h1 := hall i (Nat.zero_le _) (by omega) _ ho
      by_cases hc : al.contains i = true
      · rw [if_pos hc] at h1
        rw [h1]
        refine hg.congr (fun j _ => ?_) (fun _ _ _ => rfl)
        by_cases hj : j = i
        · subst hj; rw [hc]; simp
        · have : (j < i + 1) = (j < i) := by simp; omega
          simp [this]
      · rw [if_neg hc] at h1
        rw [h1.1]
        have hd : dstAt ops i = ops[i].dst := by simp [dstAt, ho]
        rw [← hd]
        have := hg.put (i := i) (v := vs i) (val' := vs) (by omega) (by simp) (fun j hj hne => hdst i j (by omega) hj hne) rfl (fun _ _ _ => rfl)
        refine this.congr (fun j _ => ?_) (fun _ _ _ => rfl)
        by_cases hj : j = i
        · subst hj; simp only [upd, if_true]; simp at hc; simp [hc]
        · have : (j < i + 1) = (j < i) := by simp; omega
          simp [upd, hj, this]
  have hq : ∀ q ∈ als, q.i < m ∧ dstAt ops q.i = some q.d := by
    intro q hq
    obtain ⟨h1, ⟨ty', pos, after, h2⟩, _⟩ := hok q hq
    exact ⟨h1, by simp [dstAt, hget, h2]⟩
  have hmain : ∀ (f fuel : Nat) (L : Array Bool) (β : Nat → Nat) (a : Act) (w : World) (Ψ : List At), L.size = ops.size → Good ops m a0 (valOf al vs β) (fun j => L.getD j false) a → Ψ.Perm (boxesOf (fun j => L.getD j false) β als) → Heap X.w0 X.F X.S (Δ ++ Ψ) w →
      (∀ j, m ≤ j → j < ops.size → L.getD j false = false) → Shutt .any ops L → open_ (fun j => L.getD j false) m = f → f + (ops.size - m) ≤ fuel → wpAny X.P .any ops (Strict Q) fuel L a w := by
    intro f
    induction f with
    | zero =>
      intro fuel L β a w Ψ hL hg hp hw htl hc hf hfu
      have hall' := open_zero hf
      refine wpAny_tail hT (ops.toList.drop m) m fuel L a w (fun j => by simp [List.getElem?_drop]) (Nat.le_refl _) (by simp; omega) hL hc (fun j hj => ?_) htl ?_
      · have := hall' j hj
        rw [Array.getD_eq_getD_getElem?, Array.getElem?_eq_getElem (by omega)] at this ⊢
        simpa using this
      · have hgA := (hsel m (Nat.le_refl _)).congr (val' := valOf al vs β) (sel' := fun j => decide (j < m) && !al.contains j) (fun _ _ => rfl) (fun j _ hs => by
          simp only [Bool.and_eq_true, Bool.not_eq_true'] at hs
          unfold valOf
          rw [hs.2]
          rfl)
        have hgP := good_putAll (val := valOf al vs β) β hdst als _ _ (hal ▸ hn) (fun q hq' => by
          have hin : al.contains q.i = true := by rw [← hal]; simp; exact ⟨q, hq', rfl⟩
          exact ⟨(hq q hq').1, (hq q hq').2, by simp only [hin]; simp, by unfold valOf; rw [hin]; rfl⟩) hgA
        have hga : Good ops m a0 (valOf al vs β) (fun j => (decide (j < m) && !al.contains j) || (als.map (·.i)).contains j) a := hg.congr (fun j hj => by
          rw [hall' j hj, hal]
          simp only [hj, decide_true, Bool.true_and]
          cases al.contains j <;> rfl) (fun _ _ _ => rfl)
        rw [hlist, Good.unique hga hgP]
        refine KA_end β als Δ (A m) hK w (hw.perm (List.Perm.append_left Δ (hp.trans ?_)))
        have : boxesOf (fun j => L.getD j false) β als = als.map fun q => At.box (β q.i) q.ty q.z := by
          have hb : ∀ q ∈ als, L.getD q.i false = true := fun q hq' => hall' q.i (hq q hq').1
          exact boxes_all hb
        rw [this]
    | succ f ih =>
      intro fuel L β a w Ψ hL hg hp hw htl hc hf hfu
      obtain ⟨j0, hj0, hu0⟩ : ∃ j, j < m ∧ L.getD j false = false := by
        apply Classical.byContradiction
        intro hno
        have : open_ (fun j => L.getD j false) m = 0 := List.countP_eq_zero.2 fun j hj => by
          have hj' := List.mem_range.1 hj
          cases hv : L.getD j false
          · exact absurd ⟨j, hj', hv⟩ hno
          · show ¬(!L.getD j false) = true; rw [hv]; decide
        omega
      obtain ⟨fu, rfl⟩ : ∃ fu, fuel = fu + 1 := ⟨fuel - 1, by omega⟩
      obtain ⟨k0, hk0, hk0r⟩ := least_ready hT hL (by omega) hu0
      refine ⟨fun h0 => (by rw [h0] at hk0r; cases hk0r), fun i hi => ?_⟩
      have him : i < m := by
        rcases Nat.lt_or_ge i m with h' | h'
        · exact h'
        · have := tail_ready hT hc hi h' j0 (by omega)
          rw [hu0] at this; cases this
      obtain ⟨hun, o, ho, hedge⟩ := mem_ready.1 hi
      have hli : L.getD i false = false := by
        rw [Array.getD_eq_getD_getElem?, Array.getElem?_eq_getElem (by omega)] at hun ⊢
        simpa using hun
      have hdi : dstAt ops i = o.dst := by simp [dstAt, ho]
      have hsetL : ∀ j, (L.setIfInBounds i true).getD j false = upd (fun j => L.getD j false) i true j := fun j => by
        by_cases hj : j = i
        · subst hj; rw [getD_set_self (by omega)]; simp [upd]
        · rw [getD_set_off hj]; simp [upd, hj]
      have hopen : open_ (fun j => (L.setIfInBounds i true).getD j false) m = f := by
        rw [open_congr (sel := upd (fun j => L.getD j false) i true) (fun j _ => hsetL j)]
        have := open_upd (sel := fun j => L.getD j false) hli him
        omega
      have htl' : ∀ j, m ≤ j → j < ops.size → (L.setIfInBounds i true).getD j false = false := fun j h1 h2 => by
        rw [getD_set_off (by omega)]; exact htl j h1 h2
      have hstep := hall i (Nat.zero_le _) him o ho
      by_cases hc' : al.contains i = true
      · obtain ⟨q, hqm, rfl⟩ : ∃ q ∈ als, q.i = i := by rw [← hal] at hc'; simpa using hc'
        obtain ⟨_, ⟨ty', pos, after, hlq⟩, hz⟩ := hok q hqm
        rw [hget, hlq] at ho
        obtain rfl := Option.some.inj ho
        obtain ⟨ii, hi1, hz1⟩ := Option.bind_eq_some_iff.1 hz
        obtain ⟨z, hz2, hz3⟩ := Option.map_eq_some_iff.1 hz1
        have hexec : (execOp a.eval ⟨some q.d, .alloc q.ty, ty', pos, after, none⟩).run X.P w = .ok (.value (.pointer (some ⟨w.heap.size, 0, none⟩))) (w.alloc (.cells q.z.toArray q.ty)) := by
          simp [execOp, Instr.alloc, zeroValue, typeInfo, hi1, hz2, newVar, newRow, hz3]
        unfold wpOp
        rw [hget, hlq]
        simp only []
        rw [if_pos (by simp [Region.wanted])]
        refine .inl ?_
        unfold Oper.wp
        rw [hexec]
        have hg' := hg.put (i := q.i) (v := .pointer (some ⟨w.heap.size, 0, none⟩)) (val' := valOf al vs (upd β q.i w.heap.size)) him hli (fun j hj hne => hdst q.i j him hj hne) (by unfold valOf; rw [hc']; simp [upd]) (fun j hj hs => by
          have : j ≠ q.i := fun e => by rw [e] at hs; simp only [hli] at hs; cases hs
          simp [valOf, upd, this])
        rw [hdi] at hg'
        refine ih fu (L.setIfInBounds q.i true) (upd β q.i w.heap.size) _ (w.alloc (.cells q.z.toArray q.ty)) (Ψ ++ [At.box w.heap.size q.ty q.z]) (by simpa using hL) (hg'.congr (fun j _ => hsetL j) (fun _ _ _ => rfl)) ?_ ?_ htl' (hc.set hi) hopen (by omega)
        · have h1 := boxes_upd (β := β) (b := w.heap.size) (hal ▸ hn) hqm (sel := fun j => L.getD j false) hli
          have h2 : boxesOf (fun j => (L.setIfInBounds q.i true).getD j false) (upd β q.i w.heap.size) als = boxesOf (upd (fun j => L.getD j false) q.i true) (upd β q.i w.heap.size) als := boxes_congr (fun p _ => hsetL p.i) (fun _ _ _ => rfl)
          rw [h2]
          exact (List.Perm.append_right _ hp).trans h1.symm
        · rw [← List.append_assoc]
          exact hw.alloc X.hF _ (At.box w.heap.size q.ty q.z) rfl (fun S' _ => heap_alloc_new w _)
      · have hc'' : al.contains i = false := by simpa using hc'
        rw [if_neg hc'] at hstep
        obtain ⟨hns, hpar⟩ := parB_at hB him ho
        have hgA := hsel i (by omega)
        have hlooks := same_looks (ops := ops) (o := o) (a := a) (b := A i) hns (fun t ht => by
          by_cases hex : ∃ j, j < m ∧ dstAt ops j = some t
          · obtain ⟨j, hj, hdj⟩ := hex
            obtain ⟨⟨e, he, hb, heo⟩, hja, hji⟩ := (hpar j hj t hdj).1 ht
            have hlj : L.getD j false = true := by have := hedge e he hb; rwa [heo] at this
            by_cases hlt : t < a0.tmps.size
            · rw [hg.hit j hj hlj t hdj hlt, hgA.hit j hj (by rw [hja]; simp [hji]) t hdj hlt]
              unfold valOf
              rw [hja]
              rfl
            · rw [Array.getElem?_eq_none (by rw [hg.size]; exact Nat.le_of_not_lt hlt), Array.getElem?_eq_none (by rw [hgA.size]; exact Nat.le_of_not_lt hlt)]
          · have hno : ∀ j, j < m → dstAt ops j ≠ some t := fun j hj hd => hex ⟨j, hj, hd⟩
            rw [hg.miss t (fun j hj _ => hno j hj), hgA.miss t (fun j hj _ => hno j hj)])
        have hgo : ∀ w', Heap X.w0 X.F X.S (Δ ++ Ψ) w' → wpAny X.P .any ops (Strict Q) fu (L.setIfInBounds i true) (a.put o.dst (vs i)) w' := fun w' hw' => by
          have hg' := hg.put (i := i) (v := vs i) (val' := valOf al vs β) him hli (fun j hj hne => hdst i j him hj hne) (by unfold valOf; rw [hc'']; rfl) (fun _ _ _ => rfl)
          rw [hdi] at hg'
          refine ih fu (L.setIfInBounds i true) β _ w' Ψ (by simpa using hL) (hg'.congr (fun j _ => hsetL j) (fun _ _ _ => rfl)) ?_ hw' htl' (hc.set hi) hopen (by omega)
          have h2 : boxesOf (fun j => (L.setIfInBounds i true).getD j false) β als = boxesOf (fun j => L.getD j false) β als := boxes_congr (fun p hp' => by
            have : p.i ≠ i := fun e => by
              have hin : al.contains p.i = true := by rw [← hal]; simp; exact ⟨p, hp', rfl⟩
              rw [e, hc''] at hin; cases hin
            rw [hsetL]; simp [upd, this]) (fun _ _ _ => rfl)
          rw [h2]; exact hp
        unfold wpOp
        rw [ho]
        simp only []
        rw [hlooks.2]
        by_cases hwt : Region.wanted o (yielded ops (A i).tmps) = true
        · rw [if_pos hwt]
          refine .inl (Oper.wp_of_quiet (C := fun w => Heap X.w0 X.F X.S (Δ ++ Ψ) w) (K := fun a' => a' = a.put o.dst (vs i)) hw (fun a' w' hw' e => by subst e; exact hgo w' hw') ⟨vs i, fun w' hw' => ?_, rfl⟩)
          have := hstep.2.1 hwt Ψ w' hw'
          unfold Oper.quietAt at this ⊢
          rw [hlooks.1]
          exact this
        · rw [if_neg hwt]
          have : vs i = undef := hstep.2.2 (by simpa using hwt)
          rw [← this]
          exact hgo w hw
  subst hops
  refine (hmain (open_ (fun j => (Array.replicate l.toArray.size false).getD j false) m) _ _ (fun _ => 0) a0 _ [] (by simp) ?_ ?_ ?_ (fun j _ hj => by simp [Array.getD]) (fun j o _ hl' => by simp [Array.getD] at hl') rfl ?_)
  · exact (Good.start l.toArray m a0 vs).congr (fun j _ => by simp [Array.getD]) (fun _ _ h => by cases h)
  · have : boxesOf (fun j => (Array.replicate l.toArray.size false).getD j false) (fun _ => 0) als = [] := by
      have hb : ∀ j, (Array.replicate l.toArray.size false).getD j false = false := fun j => by simp [Array.getD]
      simp only [boxesOf, hb, cond_false]
      induction als with
      | nil => rfl
      | cons q als ih => simp
    rw [this]
  · rw [List.append_nil]
    exact hw0.drewN 1
  · have : open_ (fun j => (Array.replicate l.toArray.size false).getD j false) m ≤ m := by
      have := List.countP_le_length (p := fun i => !(Array.replicate l.toArray.size false).getD i false) (l := List.range m)
      simpa [open_] using this
    simp only [List.size_toArray] at this ⊢
    omega
end
end Go.GW
