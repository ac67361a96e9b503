/-
  Gw7: regions that draw their order, whose last operations stand in a row (each waits for all ahead of it); places of arrays that are reckoned.
-/
import Derived.Test.YtiepcikippcfaaaGw6
set_option linter.unusedVariables false
set_option linter.unusedSimpArgs false
namespace Go.GW
open Go

/-! ### The tail -/
theorem blt_lt {a b : Nat} (h : Nat.blt a b = true) : a < b := by simpa [Nat.blt_eq] using h
def waits (md : Region.Mode) (ops : Array Oper) (i : Nat) : Nat → Nat → Bool
  | 0, _ => false
  | fuel + 1, k => match ops[k]? with
    | some o => o.after.any fun e => Region.binds md e && (e.on == i || waits md ops i fuel e.on)
    | none => false
/-- Edges look back, and each of the operations from number m on waits for all ahead of it. -/
def tailB (md : Region.Mode) (ops : Array Oper) (m : Nat) : Bool :=
  ((List.range ops.size).all fun j => match ops[j]? with
    | some o => (o.after.all fun e => !Region.binds md e || Nat.blt e.on j) && (match o.guard with | some (i, _) => Nat.blt i j | none => true)
    | none => true) &&
  ((List.range ops.size).all fun k => Nat.blt k m || (List.range k).all fun j => waits md ops j ops.size k)

section
variable {P : Program} {md : Region.Mode} {ops : Array Oper} {Q : Exit → Act → World → Prop} {C : World → Prop}

def Shutt (md : Region.Mode) (ops : Array Oper) (l : Array Bool) : Prop :=
  ∀ (j : Nat) (o : Oper), ops[j]? = some o → l.getD j false = true → ∀ e ∈ o.after, Region.binds md e = true → l.getD e.on false = true

theorem getD_set_self {l : Array Bool} {i : Nat} (h : i < l.size) (d : Bool) : (l.setIfInBounds i true).getD i d = true := by
  simp [Array.getD, h]
theorem getD_set_off {l : Array Bool} {i j : Nat} (h : j ≠ i) (d : Bool) : (l.setIfInBounds i true).getD j d = l.getD j d := by
  simp only [Array.getD_eq_getD_getElem?]
  rw [Array.getElem?_setIfInBounds_ne (Ne.symm h)]
theorem getD_mono {l : Array Bool} {i j : Nat} (h : l.getD j false = true) : (l.setIfInBounds i true).getD j false = true := by
  by_cases hij : j = i
  · subst hij
    have : j < l.size := by
      rcases Nat.lt_or_ge j l.size with h' | h'
      · exact h'
      · simp [Array.getD, Nat.not_lt.2 h'] at h
    exact getD_set_self this _
  · rw [getD_set_off hij]; exact h

theorem Shutt.set {l : Array Bool} {i : Nat} (h : Shutt md ops l) (hi : i ∈ Region.ready md ops l) : Shutt md ops (l.setIfInBounds i true) := by
  obtain ⟨_, oi, hoi, hall⟩ := mem_ready.1 hi
  intro j oj hj hl e he hb
  by_cases hij : j = i
  · subst hij
    have : oj = oi := Option.some.inj (hj.symm.trans hoi)
    subst this
    exact getD_mono (hall e he hb)
  · rw [getD_set_off hij] at hl
    exact getD_mono (h j oj hj hl e he hb)

theorem waits_listed {l : Array Bool} {i : Nat} (hc : Shutt md ops l) : ∀ (fuel k : Nat), waits md ops i fuel k = true → (∀ o, ops[k]? = some o → ∀ e ∈ o.after, Region.binds md e = true → l.getD e.on false = true) → l.getD i false = true
  | 0, _, h, _ => by simp [waits] at h
  | fuel + 1, k, h, hl => by
    unfold waits at h
    cases ho : ops[k]? with
    | none => rw [ho] at h; simp at h
    | some o =>
      rw [ho] at h
      obtain ⟨e, he, h1⟩ := Array.any_eq_true'.1 h
      simp only [Bool.and_eq_true, Bool.or_eq_true, beq_iff_eq] at h1
      have hle := hl o ho e he h1.1
      rcases h1.2 with h2 | h2
      · rw [← h2]; exact hle
      · exact waits_listed hc fuel e.on h2 (fun o' ho' e' he' hb' => hc e.on o' ho' hle e' he' hb')

/-- What may come up behind m has all ahead of it listed. -/
theorem tail_ready {l : Array Bool} {m k : Nat} (hT : tailB md ops m = true) (hc : Shutt md ops l) (hk : k ∈ Region.ready md ops l) (hm : m ≤ k) : ∀ j < k, l.getD j false = true := by
  intro j hj
  obtain ⟨_, o, ho, hall⟩ := mem_ready.1 hk
  have hlt : k < ops.size := (Array.getElem?_eq_some_iff.1 ho).1
  simp only [tailB, Bool.and_eq_true, List.all_eq_true, List.mem_range] at hT
  have h1 := hT.2 k hlt
  simp only [Bool.or_eq_true, List.all_eq_true, List.mem_range] at h1
  rcases h1 with h1 | h1
  · have := blt_lt h1; omega
  · refine waits_listed hc ops.size k (h1 j hj) fun o' ho' => ?_
    have : o' = o := Option.some.inj (ho'.symm.trans ho)
    subst this
    exact hall

theorem back_edges {m j : Nat} {o : Oper} (hT : tailB md ops m = true) (hj : ops[j]? = some o) : (∀ e ∈ o.after, Region.binds md e = true → e.on < j) ∧ ∀ i g, o.guard = some (i, g) → i < j := by
  have hlt : j < ops.size := (Array.getElem?_eq_some_iff.1 hj).1
  simp only [tailB, Bool.and_eq_true, List.all_eq_true, List.mem_range] at hT
  have h1 := hT.1 j hlt
  rw [hj] at h1
  simp only [Bool.and_eq_true, Array.all_eq_true_iff_forall_mem] at h1
  refine ⟨fun e he hb => ?_, fun i g hg => ?_⟩
  · have h2 := h1.1 e he
    rw [hb] at h2
    exact blt_lt (by simpa using h2)
  · have h2 := h1.2
    rw [hg] at h2
    exact blt_lt h2

/-- The least that is not listed may come up. -/
theorem least_ready {l : Array Bool} {m : Nat} (hT : tailB md ops m = true) (hs : l.size = ops.size) {k : Nat} (hk : k < ops.size) (hun : l.getD k false = false) :
    ∃ i, i ≤ k ∧ i ∈ Region.ready md ops l := by
  induction k using Nat.strongRecOn with
  | _ k ih =>
    by_cases h : ∃ j < k, l.getD j false = false
    · obtain ⟨j, hj, hu⟩ := h
      obtain ⟨i, hi, hr⟩ := ih j hj (by omega) hu
      exact ⟨i, by omega, hr⟩
    · refine ⟨k, Nat.le_refl _, mem_ready.2 ⟨?_, ops[k], by simp [hk], fun e he hb => ?_⟩⟩
      · simpa [Array.getD, hs, hk] using hun
      · have h2 := (back_edges hT (j := k) (o := ops[k]) (by simp [hk])).1 e he hb
        cases h3 : l.getD e.on false
        · exact absurd ⟨e.on, h2, h3⟩ h
        · rfl

theorem wpAny_tail {m : Nat} (hT : tailB md ops m = true) : ∀ (rest : List Oper) (k fuel : Nat) (l : Array Bool) (a : Act) (w : World), (∀ j, rest[j]? = ops[k + j]?) → m ≤ k → rest.length ≤ fuel → l.size = ops.size → Shutt md ops l →
    (∀ j < k, l.getD j true = true) → (∀ j, k ≤ j → j < ops.size → l.getD j false = false) → wpList P ops Q rest a w → wpAny P md ops Q fuel l a w
  | [], k, fuel, l, a, w, hr, hm, hf, hs, hc, h1, h2, h => by
    have hn : Region.ready md ops l = [] := by
      rw [List.eq_nil_iff_forall_not_mem]
      intro i hi
      obtain ⟨hu, o, ho, _⟩ := mem_ready.1 hi
      have hlt : i < ops.size := (Array.getElem?_eq_some_iff.1 ho).1
      have hk : ¬ i < k := fun hik => by rw [h1 i hik] at hu; cases hu
      have := hr (i - k)
      rw [show k + (i - k) = i by omega, ho] at this
      cases this
    cases fuel with
    | zero => exact ⟨hn, h⟩
    | succ f => exact ⟨fun _ => h, by rw [hn]; intro i hi; cases hi⟩
  | o :: rest, k, fuel + 1, l, a, w, hr, hm, hf, hs, hc, h1, h2, h => by
    have h0 : ops[k]? = some o := by simpa using (hr 0).symm
    have hlt : k < ops.size := (Array.getElem?_eq_some_iff.1 h0).1
    have hall : ∀ j < k, l.getD j false = true := fun j hj => by
      have := h1 j hj
      rw [Array.getD_eq_getD_getElem?, Array.getElem?_eq_getElem (by omega)] at this ⊢
      simpa using this
    have hkr : k ∈ Region.ready md ops l := by
      obtain ⟨i, hi, hir⟩ := least_ready hT hs hlt (h2 k (Nat.le_refl _) hlt)
      have : ¬ i < k := fun hik => by have h3 := (mem_ready.1 hir).1; rw [h1 i hik] at h3; cases h3
      have : i = k := by omega
      exact this ▸ hir
    refine ⟨fun h0 => (by rw [h0] at hkr; cases hkr), fun i hi => ?_⟩
    have hik : i = k := by
      have hge : ¬ i < k := fun hik => by have h3 := (mem_ready.1 hi).1; rw [h1 i hik] at h3; cases h3
      rcases Nat.lt_or_ge k i with h' | h'
      · have := tail_ready hT hc hi (by omega) k h'
        rw [h2 k (Nat.le_refl _) hlt] at this
        cases this
      · omega
    subst hik
    have hn : ∀ a w, wpList P ops Q rest a w → wpAny P md ops Q fuel (l.setIfInBounds i true) a w := fun a w h =>
      wpAny_tail hT rest (i + 1) fuel _ a w (fun j => by have := hr (j + 1); simpa [Nat.add_assoc, Nat.add_comm 1 j] using this) (by omega) (by simpa using hf) (by simpa using hs) (hc.set hi)
        (fun j hj => by
          by_cases hji : j = i
          · subst hji; exact getD_set_self (by omega) _
          · rw [getD_set_off hji]; exact h1 j (by omega))
        (fun j hj hj' => by rw [getD_set_off (by omega)]; exact h2 j (by omega) hj') h
    unfold wpOp
    rw [h0]
    unfold wpList at h
    simp only
    split
    · rename_i hw
      rw [if_pos hw] at h
      exact h.imp (Oper.wp_mono hn) id
    · rename_i hw
      rw [if_neg hw] at h
      exact hn _ _ h

/-- Ahead of m any order, all quiet; from m on one row. -/
theorem wpAny_pre {m : Nat} {pre : Array Oper} {K : Act → Prop} (hT : tailB md ops m = true) (hm : m ≤ ops.size) (hps : pre.size = m) (hp : ∀ j < m, pre[j]? = ops[j]?)
    (hK : ∀ a w, C w → K a → wpList P ops Q (ops.toList.drop m) a w) :
    ∀ (f fuel : Nat) (l l' : Array Bool) (a : Act) (w : World), l.size = ops.size → l'.size = m → (∀ j < m, l'.getD j true = l.getD j true) → (∀ j, m ≤ j → j < ops.size → l.getD j false = false) → Shutt md ops l →
      f + (ops.size - m) ≤ fuel → C w → wpAnyQ P md pre C K f l' a → wpAny P md ops Q fuel l a w := by
  have hready : ∀ (l l' : Array Bool), l.size = ops.size → l'.size = m → (∀ j < m, l'.getD j true = l.getD j true) → ∀ i < m, (i ∈ Region.ready md ops l ↔ i ∈ Region.ready md pre l') := by
    intro l l' hl hl' he i hi
    rw [mem_ready, mem_ready, he i hi, hp i hi]
    refine and_congr_right fun _ => exists_congr fun o => and_congr_right fun ho => forall_congr' fun e => ?_
    refine forall_congr' fun he' => forall_congr' fun hb => ?_
    have h1 := (back_edges hT ho).1 e he' hb
    have h2 := he e.on (by omega)
    rw [Array.getD_eq_getD_getElem?, Array.getElem?_eq_getElem (by omega), Array.getD_eq_getD_getElem?, Array.getElem?_eq_getElem (by omega)] at h2
    rw [Array.getD_eq_getD_getElem?, Array.getElem?_eq_getElem (by omega), Array.getD_eq_getD_getElem?, Array.getElem?_eq_getElem (by omega)]
    simp only [Option.getD_some] at h2 ⊢
    rw [h2]
  -- all ahead of m listed: the tail
  have htail : ∀ (fuel : Nat) (l : Array Bool) (a : Act) (w : World), l.size = ops.size → (∀ j < m, l.getD j true = true) → (∀ j, m ≤ j → j < ops.size → l.getD j false = false) → Shutt md ops l → ops.size - m ≤ fuel → C w → K a → wpAny P md ops Q fuel l a w := by
    intro fuel l a w hl h1 h2 hc hf hw hk
    refine wpAny_tail hT (ops.toList.drop m) m fuel l a w (fun j => by simp [List.getElem?_drop]) (Nat.le_refl _) (by simpa using hf) hl hc h1 h2 (hK a w hw hk)
  have hdone : ∀ (l l' : Array Bool), l.size = ops.size → l'.size = m → (∀ j < m, l'.getD j true = l.getD j true) → Region.ready md pre l' = [] → ∀ j < m, l.getD j true = true := by
    intro l l' hl hl' he hr j hj
    cases hu : l.getD j true with
    | true => rfl
    | false =>
      have hu' : l.getD j false = false := by
        rw [Array.getD_eq_getD_getElem?, Array.getElem?_eq_getElem (by omega)] at hu ⊢
        simpa using hu
      obtain ⟨i, hi, hir⟩ := least_ready hT hl (by omega) hu'
      have := (hready l l' hl hl' he i (by omega)).1 hir
      rw [hr] at this
      cases this
  intro f
  induction f with
  | zero =>
    intro fuel l l' a w hl hl' he h2 hc hf hw h
    exact htail fuel l a w hl (hdone l l' hl hl' he h.1) h2 hc (by omega) hw h.2
  | succ f ih =>
    intro fuel l l' a w hl hl' he h2 hc hf hw h
    by_cases hr : Region.ready md pre l' = []
    · exact htail fuel l a w hl (hdone l l' hl hl' he hr) h2 hc (by omega) hw (h.1 hr)
    · obtain ⟨i0, hi0⟩ := List.exists_mem_of_ne_nil _ hr
      have hi0m : i0 < m := by
        obtain ⟨_, o, ho, _⟩ := mem_ready.1 hi0
        have := (Array.getElem?_eq_some_iff.1 ho).1
        omega
      have hex : i0 ∈ Region.ready md ops l := (hready l l' hl hl' he i0 hi0m).2 hi0
      obtain ⟨fu, rfl⟩ : ∃ fu, fuel = fu + 1 := ⟨fuel - 1, by omega⟩
      refine ⟨fun h0 => (by rw [h0] at hex; cases hex), fun i hi => ?_⟩
      have him : i < m := by
        rcases Nat.lt_or_ge i m with h' | h'
        · exact h'
        · have h3 := tail_ready hT hc hi h' i0 (by omega)
          have h4 := (mem_ready.1 hi0).1
          rw [he i0 hi0m] at h4
          rw [Array.getD_eq_getD_getElem?, Array.getElem?_eq_getElem (by omega)] at h3 h4
          simp only [Option.getD_some] at h3 h4
          rw [h3] at h4
          cases h4
      have hq := h.2 i ((hready l l' hl hl' he i him).1 hi)
      have hgo : ∀ a' w', C w' → wpAnyQ P md pre C K f (l'.setIfInBounds i true) a' → wpAny P md ops Q fu (l.setIfInBounds i true) a' w' := fun a' w' hw' h' =>
        ih fu _ _ a' w' (by simpa using hl) (by simpa using hl') (fun j hj => by
          by_cases hji : j = i
          · subst hji; rw [getD_set_self (by omega), getD_set_self (by omega)]
          · rw [getD_set_off hji, getD_set_off hji]; exact he j hj)
          (fun j hj hj' => by rw [getD_set_off (by omega)]; exact h2 j hj hj') (hc.set hi) (by omega) hw' h'
      obtain ⟨_, o, ho, _⟩ := mem_ready.1 hi
      unfold qOp at hq
      rw [hp i him, ho] at hq
      unfold wpOp
      rw [ho]
      have hwt : Region.wanted o (yielded pre a.tmps) = Region.wanted o (yielded ops a.tmps) := by
        unfold Region.wanted
        cases hg : o.guard with
        | none => rfl
        | some ig =>
          obtain ⟨gi, gb⟩ := ig
          have := (back_edges hT ho).2 gi gb hg
          simp only [yielded, hp gi (by omega)]
      simp only at hq ⊢
      rw [hwt] at hq
      split
      · rename_i hw1
        rw [if_pos hw1] at hq
        exact .inl (Oper.wp_of_quiet hw hgo hq)
      · rename_i hw1
        rw [if_neg hw1] at hq
        exact hgo _ _ hw hq

theorem wpAny_region_tail {l : List Oper} {a : Act} {w : World} (m : Nat) (hm : P.follows .mixedOrders = true) (hB : Region.lexB .any (l.take m).toArray = true) (hT : tailB .any l.toArray m = true) (hl : Nat.ble m l.length = true) (hC : C { w with drawn := w.drawn + 1 })
    (h : wpQuiet P (l.take m).toArray C (fun a' => ∀ w', C w' → wpList P l.toArray Q (l.drop m) a' w') (l.take m) a) : wpAny P .any l.toArray Q l.toArray.size (Array.replicate l.toArray.size false) a { w with drawn := w.drawn + 1 } := by
  have hlm := Nat.le_of_ble_eq_true hl
  have hlen : (l.take m).length = m := by simp; omega
  simp only [Region.lexB, Bool.and_eq_true] at hB
  have hs : (l.take m).toArray.size = m := by simp; omega
  have hpre := wpAnyQ_lex (C := C) (md := .any) hB.1 (l.take m) 0 (Array.replicate (l.take m).toArray.size false) a (by simp) (by simpa using hB.2) h
  rw [hlen, hs] at hpre
  refine (wpAny_pre hT (by simpa using hlm) hs (fun j hj => by simp [List.getElem?_take, hj]) (fun a w hw hk => by simpa using hk w hw) m _ (Array.replicate l.toArray.size false) (Array.replicate m false) a _ (by simp) (by simp)
    (fun j hj => by
      have : j < l.length := by omega
      simp [Array.getD, hj, this]) (fun j _ hj => by simp [Array.getD]) (fun j o _ hl' => by simp [Array.getD] at hl') (by simp; omega) hC hpre)

end

section
variable {X : Ctx} {ρ : Env} {Δ : List At} {Q : Exit → Act → World → Prop} {ops : Array Oper} {rest : List Oper}

theorem J.drawT {id : Nat} {l : List Oper} (m : Nat) (h : QL X (KA X (wpList X.P l.toArray (Strict Q) (l.drop m)) [] Δ) (l.take m).toArray [] 0 (l.take m) ρ Δ) (hm : X.P.follows .mixedOrders = true := by kernel_rfl) (hB : Region.lexB .any (l.take m).toArray = true := by kernel_rfl) (hT : tailB .any l.toArray m = true := by kernel_rfl)
    (hl : Nat.ble m l.length = true := by kernel_rfl) (hnd : l.all nodef = true := by kernel_rfl) : JQ X (cw X (Code.region id l.toArray true) Q) ρ Δ := by
  intro a w ha hw
  refine cw_draw hm (wpAny_region_tail (C := fun w => Heap X.w0 X.F X.S (Δ ++ []) w) m hm hB hT hl (by rw [List.append_nil]; exact hw.drewN 1) ?_) (by simpa using hnd)
  have := wpPar_quiet [] _ _ _ (h a ha ⟨w, hw⟩)
  simpa [KA] using this

/-! ### A place of an array, reckoned -/
theorem gives_ixArr {d : Option Tmp} {s x : Operand} {ty ty' E : TypeId} {pos : String} {after : Array Edge} {b o : Nat} {i : Int} (n k sz : Nat) (kd : IntKind) (hi : i = (k : Int)) (hT : X.P.underlying ty = some (.array n E)) (hE : tySize X.P E = some sz)
    (hk : Nat.blt k n = true := by kernel_rfl) (hs : known ρ s = true := by kernel_rfl) (hx : known ρ x = true := by kernel_rfl) (hse : ev ρ s = .pointer (some ⟨b, o, none⟩) := by kernel_rfl) (hxe : ev ρ x = .int kd i := by kernel_rfl) :
    Gives X ρ Δ ⟨d, .indexAddr ty s x, ty', pos, after, none⟩ (.pointer (some ⟨b, o + k * sz, none⟩)) := by
  intro a w ha hw
  have h0 : (0 : Int) ≤ i := by omega
  have h1 : i < (n : Int) := by have := blt_lt hk; omega
  simp only [execOp, ha.eval hs, ha.eval hx, hse, hxe, Instr.indexAt, asIntOf, pure_bind, Sem.run_bind, run_underlying hT, Result.andThen_ok, Sem.run_pure]
  have h2 : 0 ≤ i ∧ i < (n : Int) := ⟨h0, h1⟩
  simp [h2, Instr.sureAddr, Sem.run_bind, gw_sizeOf hE, Result.andThen_ok, Sem.run_pure, addr_add]
  simp [hi]
end
end Go.GW
