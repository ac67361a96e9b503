/-
  Gw12: regions that draw their order, walked order by order: what yields the same whenever it comes up is taken first, all else in each order in which it may come up.
-/
import Derived.Test.YtiepcikippcfaaaGw11
import Derived.Test.YtiepcikippcfaaaGwLast
import Derived.Deep.RegionHeld3
set_option linter.unusedVariables false
set_option linter.unusedSimpArgs false
namespace Go.GW
open Go

def SW (X : Ctx) (Δ0 : List At) (w : World) : Prop := Heap X.w0 X.F X.S Δ0 w

/-- From here on, whatever order is drawn. 'ds': those behind which nothing is shown of Δ0. -/
def JY (X : Ctx) (ops : Array Oper) (Q : Exit → Act → World → Prop) (Δ0 : List At) (ds : List Nat) (n : Nat) (L : Array Bool) (ρ : Env) (Δ : List At) : Prop :=
  ∀ a w, Sees X.n X.ds ρ a → Heap X.w0 X.F X.S Δ w → PL.wpAnyLast X.P .any ops (Strict Q) (SW X Δ0) ds n L a w

/-- What is asked behind one operation of an order. -/
def NX (X : Ctx) (ops : Array Oper) (Q : Exit → Act → World → Prop) (Δ0 : List At) (ds : List Nat) (n : Nat) (L : Array Bool) (i : Nat) : Exit → Act → World → Prop
  | .normal, a, w => (i ∉ ds → SW X Δ0 w) ∧ PL.wpAnyLast X.P .any ops (Strict Q) (SW X Δ0) ds n L a w
  | .panic _, _, _ => False
  | .outgrown, _, _ => False
  | e, a, w => Q e a w

section
variable {X : Ctx} {ops : Array Oper} {Q : Exit → Act → World → Prop} {Δ0 Δ : List At} {ds : List Nat} {n : Nat} {L : Array Bool} {ρ : Env}

theorem JY.start {id : Nat} {l : List Oper} (ds : List Nat) (L0 : Array Bool) (h : JY X l.toArray Q Δ ds l.length L0 ρ Δ) (hL : Array.replicate l.length false = L0 := by kernel_rfl) (hm : X.P.follows .mixedOrders = true := by kernel_rfl) (hnd : l.all nodef = true := by kernel_rfl) : JQ X (cw X (Code.region id l.toArray true) Q) ρ Δ := by
  intro a w ha hw
  refine cw_draw hm (PL.wpAny_of_last (S := SW X Δ) (ds := ds) _ _ _ _ ?_) (by simpa using hnd)
  have h1 := h a w.drew ha (hw.drewN 1)
  rw [← hL] at h1
  simpa using h1

/-! ### Whether an operation is wanted -/
def WantT (X : Ctx) (ρ : Env) (ops : Array Oper) (o : Oper) : Prop := ∀ a, Sees X.n X.ds ρ a → Region.wanted o (yielded ops a.tmps) = true
def WantF (X : Ctx) (ρ : Env) (ops : Array Oper) (o : Oper) : Prop := ∀ a, Sees X.n X.ds ρ a → Region.wanted o (yielded ops a.tmps) = false
theorem want {o : Oper} (hg : o.guard = none := by kernel_rfl) : WantT X ρ ops o := fun a _ => by simp [Region.wanted, hg]
theorem yielded_at {j t : Nat} {b : Bool} (hj : (ops[j]?).bind (·.dst) = some t) (hl : lk ρ t = some (.bool b)) {a : Act} (ha : Sees X.n X.ds ρ a) : yielded ops a.tmps j = some b := by
  have h2 := ha.at_ t _ hl
  have hlt : t < a.tmps.size := by rw [ha.size]; exact h2.1
  have h3 : a.tmps[t]? = some (.bool b) := by
    have := h2.2
    rw [Array.getD_eq_getD_getElem?, Array.getElem?_eq_getElem hlt] at this
    rw [Array.getElem?_eq_getElem hlt]
    simpa using this
  unfold yielded
  simp only [hj, Option.bind_some, h3]
theorem wantOn {o : Oper} (j t : Nat) {g b : Bool} (hb : b = g) (hg : o.guard = some (j, g) := by kernel_rfl) (hj : (ops[j]?).bind (·.dst) = some t := by kernel_rfl) (hl : lk ρ t = some (.bool b) := by kernel_rfl) : WantT X ρ ops o := fun a ha => by
  simp [Region.wanted, hg, yielded_at hj hl ha, hb]
theorem wantOff {o : Oper} (j t : Nat) (g : Bool) {b : Bool} (hb : b = !g) (hg : o.guard = some (j, g) := by kernel_rfl) (hj : (ops[j]?).bind (·.dst) = some t := by kernel_rfl) (hl : lk ρ t = some (.bool b) := by kernel_rfl) : WantF X ρ ops o := fun a ha => by
  simp [Region.wanted, hg, yielded_at hj hl ha, hb]
theorem wantOff' {o : Oper} (j t : Nat) (g : Bool) (hg : o.guard = some (j, g) := by kernel_rfl) (hj : (ops[j]?).bind (·.dst) = some t := by kernel_rfl) (hl : lk ρ t = some undef := by kernel_rfl) : WantF X ρ ops o := fun a ha => by
  have h2 := ha.at_ t _ hl
  have hlt : t < a.tmps.size := by rw [ha.size]; exact h2.1
  have h3 : a.tmps[t]? = some undef := by
    have := h2.2
    rw [Array.getD_eq_getD_getElem?, Array.getElem?_eq_getElem hlt] at this
    rw [Array.getElem?_eq_getElem hlt]
    simpa using this
  have hy : yielded ops a.tmps j = none := by
    unfold yielded
    simp only [hj, Option.bind_some, h3]
    rfl
  simp [Region.wanted, hg, hy]

/-! ### Taken first -/
theorem JY.pur {o : Oper} (i : Nat) (L' : Array Bool) (v : Value) (d : Option Tmp) (hw : WantT X ρ ops o) (h : JY X ops Q Δ0 ds n L' (upO ρ d v) Δ) (hi : ops[i]? = some o := by kernel_rfl) (hdd : o.dst = d := by kernel_rfl) (hc : PL.anyB .any ops L L' i = true := by kernel_rfl) (hd : okd X.n d = true := by kernel_rfl) (hk : knows ρ o = true := by kernel_rfl)
    (hrun : ∀ w, (execOp (ev ρ) o).run X.P w = .ok (.value v) w := by intro _; kernel_rfl) : JY X ops Q Δ0 ds (n + 1) L ρ Δ := by
  intro a w ha hh
  exact PL.pure_ L' hi hdd hc (fun _ _ _ h => h.elim) (.inl ⟨hw a ha, fun w => by rw [ha.exec hk]; exact hrun w⟩) rfl (h _ w (ha.putO hd v) hh)
theorem JY.skip {o : Oper} (i : Nat) (L' : Array Bool) (d : Option Tmp) (hw : WantF X ρ ops o) (h : JY X ops Q Δ0 ds n L' (upO ρ d undef) Δ) (hi : ops[i]? = some o := by kernel_rfl) (hdd : o.dst = d := by kernel_rfl) (hc : PL.anyB .any ops L L' i = true := by kernel_rfl) (hd : okd X.n d = true := by kernel_rfl) : JY X ops Q Δ0 ds (n + 1) L ρ Δ := by
  intro a w ha hh
  exact PL.pure_ L' hi hdd hc (fun _ _ _ h => h.elim) (.inr ⟨hw a ha, rfl⟩) rfl (h _ w (ha.putO hd undef) hh)
theorem JY.take {o : Oper} (i : Nat) (L' : Array Bool) (v : Value) (d : Option Tmp) (m : List Bool) (hw : WantT X ρ ops o) (hy : Gives X ρ Δ0 o v) (h : JY X ops Q Δ0 ds n L' (upO ρ d v) Δ) (hi : ops[i]? = some o := by kernel_rfl) (hdd : o.dst = d := by kernel_rfl) (hc : PL.takeB .any ops ds L L' i = true := by kernel_rfl) (hd : okd X.n d = true := by kernel_rfl) (hS : maskT m Δ = Δ0 := by kernel_rfl) : JY X ops Q Δ0 ds (n + 1) L ρ Δ := by
  intro a w ha hh
  refine PL.take_ L' hi hdd hc (fun _ _ _ h => h.elim) (.inl ⟨hw a ha, fun w hS' => hy a w ha hS'⟩) ?_ rfl (h _ w (ha.putO hd v) hh)
  rw [← hS]
  exact hh.drop (maskT_sub m Δ)

/-! ### One operation of those that may come up -/
/-- Number i comes up now. -/
def JYi (X : Ctx) (ops : Array Oper) (Q : Exit → Act → World → Prop) (Δ0 : List At) (ds : List Nat) (n : Nat) (L : Array Bool) (ρ : Env) (Δ : List At) (i : Nat) : Prop :=
  ∃ o, ops[i]? = some o ∧ JQ X (wpList X.P ops (NX X ops Q Δ0 ds n (L.setIfInBounds i true) i) [o]) ρ Δ
def JYs (X : Ctx) (ops : Array Oper) (Q : Exit → Act → World → Prop) (Δ0 : List At) (ds : List Nat) (n : Nat) (L : Array Bool) (ρ : Env) (Δ : List At) : List Nat → Prop
  | [] => True
  | i :: is => JYi X ops Q Δ0 ds n L ρ Δ i ∧ JYs X ops Q Δ0 ds n L ρ Δ is
theorem JYs.at_ : ∀ {is : List Nat}, JYs X ops Q Δ0 ds n L ρ Δ is → ∀ i ∈ is, JYi X ops Q Δ0 ds n L ρ Δ i
  | j :: is, h, i, hi => by
    rcases List.mem_cons.1 hi with rfl | hi
    · exact h.1
    · exact JYs.at_ h.2 i hi

theorem wp_NX {o : Oper} {i : Nat} {a : Act} {w : World} {K K' : Act → World → Prop} {L' : Array Bool} (h : o.wp X.P a w K (NX X ops Q Δ0 ds n L' i)) (hk : ∀ a w, K a w → K' a w) : o.wp X.P a w K' (Strict Q) := by
  unfold Oper.wp at h ⊢
  generalize (execOp a.eval o).run X.P w = r at h ⊢
  cases r with
  | ok nx w' =>
    cases nx <;> simp only [Oper.upon] at h ⊢ <;> try exact hk _ _ h
    · refine h.mono fun e w'' he => ?_
      cases e with
      | returned v => exact hk _ _ he
      | panicked c => exact he.elim
      | outgrown => obtain ⟨_, _, h⟩ := he; exact h.elim
    · exact Rows.mono h fun _ _ he => hk _ _ he
  | halt x w' => cases x <;> simp only [Oper.upon] at h ⊢ <;> exact h.elim

theorem JY.all (rs : List Nat) (h : JYs X ops Q Δ0 ds n L ρ Δ rs) (hr : Region.ready .any ops L = rs := by kernel_rfl) (hne : rs.isEmpty = false := by rfl) : JY X ops Q Δ0 ds (n + 1) L ρ Δ := by
  intro a w ha hh
  refine PL.wpAnyLast_all hr (fun e => by rw [e] at hne; cases hne) fun i hi => ?_
  obtain ⟨o, ho, hj⟩ := h.at_ i hi
  have h1 := hj a w ha hh
  have hn : ∀ a w, NX X ops Q Δ0 ds n (L.setIfInBounds i true) i .normal a w → ((i ∉ ds → SW X Δ0 w → SW X Δ0 w) ∧ PL.wpAnyLast X.P .any ops (Strict Q) (SW X Δ0) ds n (L.setIfInBounds i true) a w) := fun a w h => ⟨fun _ h => h, h.2⟩
  unfold wpOp
  rw [ho]
  simp only [wpList] at h1 ⊢
  split
  · rename_i hw
    rw [if_pos hw] at h1
    rcases h1 with h1 | ⟨_, _, _, h1⟩
    · exact .inl (wp_NX h1 fun a w h => ⟨fun hd _ => h.1 hd, h.2⟩)
    · exact h1.elim
  · rename_i hw
    rw [if_neg hw] at h1
    exact ⟨fun hd _ => h1.1 hd, h1.2⟩

theorem JY.ran {i : Nat} {L1 : Array Bool} (L' : Array Bool) (m : List Bool) (h : JY X ops Q Δ0 ds n L' ρ Δ) (hL : L1 = L' := by kernel_rfl) (hS : maskT m Δ = Δ0 := by kernel_rfl) : JQ X (NX X ops Q Δ0 ds n L1 i .normal) ρ Δ := by
  intro a w ha hh
  subst hL
  refine ⟨fun _ => ?_, h a w ha hh⟩
  show Heap _ _ _ Δ0 w
  rw [← hS]
  exact hh.drop (maskT_sub m Δ)
theorem JY.ranD {i : Nat} {L1 : Array Bool} (L' : Array Bool) (h : JY X ops Q Δ0 ds n L' ρ Δ) (hL : L1 = L' := by kernel_rfl) (hd : ds.contains i = true := by kernel_rfl) : JQ X (NX X ops Q Δ0 ds n L1 i .normal) ρ Δ := by
  intro a w ha hh
  subst hL
  exact ⟨fun hn => absurd (by simpa using hd) hn, h a w ha hh⟩
theorem JY.done (h : JQ X (Q .normal) ρ Δ) (hr : Region.ready .any ops L = [] := by kernel_rfl) : JY X ops Q Δ0 ds n L ρ Δ := fun a w ha hh => PL.wpAnyLast_done (Q := Strict Q) hr (h a w ha hh) n
theorem JY.sub (ρ' : Env) (h : JY X ops Q Δ0 ds n L ρ' Δ) (hs : Sub ρ ρ' := by delta Go.GW.Sub; kernel_rfl) : JY X ops Q Δ0 ds n L ρ Δ := fun a w ha hw => h a w (ha.sub hs) hw
theorem JY.turn {Δ' : List At} (hd : ∀ w, Heap X.w0 X.F X.S Δ w → Heap X.w0 X.F X.S Δ' w) (h : JY X ops Q Δ0 ds n L ρ Δ') : JY X ops Q Δ0 ds n L ρ Δ := fun a w ha hw => h a w ha (hd w hw)
/-! ### Places in slices -/
theorem JQ.openA {K : Act → World → Prop} {α : Type} {A : Option Addr} {d : Kd α} {xs : List α} {i : Int} {t : At} (j : Nat) (hel : Elems t A d xs) (h0 : 0 ≤ i) (h1 : i < (xs.length : Int)) (h : ∀ g o, A = some ⟨g, o, none⟩ → JQ X K ρ Δ) (hj : Δ[j]? = some t := by kernel_rfl) : JQ X K ρ Δ := by
  intro a w ha hw
  rcases hel w _ (hw.sat t (List.mem_of_getElem? hj)) with h2 | ⟨g, o, cur, cty, fr, cells, hA, _⟩
  · subst h2; simp at h1; omega
  · exact h g o hA a w ha hw
theorem gives_ixSl {d : Option Tmp} {s x : Operand} {ty ty' E : TypeId} {pos : String} {after : Array Edge} {g o n : Nat} {i : Int} (sz c : Nat) (k : IntKind) (hT : X.P.underlying ty = some (.slice E)) (hE : tySize X.P E = some sz) (h0 : 0 ≤ i) (h1 : i < (n : Int))
    (hs : known ρ s = true := by kernel_rfl) (hx : known ρ x = true := by kernel_rfl) (hse : ev ρ s = .slice (some ⟨g, o, none⟩) n c := by kernel_rfl) (hxe : ev ρ x = .int k i := by kernel_rfl) : Gives X ρ Δ ⟨d, .indexAddr ty s x, ty', pos, after, none⟩ (.pointer (some ⟨g, o + i.toNat * sz, none⟩)) := by
  intro a w ha hw
  simp only [execOp, ha.eval hs, ha.eval hx, hse, hxe, Instr.indexAt, asIntOf, pure_bind, Sem.run_bind, run_underlying hT, Result.andThen_ok, Sem.run_pure]
  rw [if_pos ⟨h0, h1⟩]
  simp only [Sem.run_bind, gw_sizeOf hE, Result.andThen_ok, Sem.run_pure, addr_add]
end
end Go.GW
