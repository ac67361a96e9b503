/-
  Gw2: the judgement, control, plain operations, calls, ends.
-/
import Derived.Test.YtiepcikippcfaaaGw1
import Derived.RangeFuncIn
import Derived.RangeFuncLeaves
import Derived.TacticsIn
import Derived.OrdersIn
set_option linter.unusedVariables false
set_option linter.unusedSimpArgs false
namespace Go.GW
open Go

def maskT : List Bool → List At → List At
  | true :: m, t :: Δ => t :: maskT m Δ
  | false :: m, _ :: Δ => maskT m Δ
  | _, _ => []
def maskF : List Bool → List At → List At
  | true :: m, _ :: Δ => maskF m Δ
  | false :: m, t :: Δ => t :: maskF m Δ
  | [], Δ => Δ
  | _, [] => []
theorem mask_perm : ∀ (m : List Bool) (Δ : List At), (maskT m Δ ++ maskF m Δ).Perm Δ
  | [], Δ => by simp [maskT, maskF]
  | true :: m, [] => by simp [maskT, maskF]
  | false :: m, [] => by simp [maskT, maskF]
  | true :: m, t :: Δ => by simpa [maskT, maskF] using mask_perm m Δ
  | false :: m, t :: Δ => by
    simp only [maskT, maskF]
    exact List.perm_middle.trans ((mask_perm m Δ).cons t)
theorem maskT_sub : ∀ (m : List Bool) (Δ : List At), (maskT m Δ).Sublist Δ
  | [], Δ => by simp [maskT]
  | true :: m, [] => by simp [maskT]
  | false :: m, [] => by simp [maskT]
  | true :: m, t :: Δ => (maskT_sub m Δ).cons_cons t
  | false :: m, t :: Δ => (maskT_sub m Δ).cons t

/-! ### The code's judgement: of an ordinary activation, and of one that meets ranges over functions -/
/-- No bound; of a round of the loop 'ro', if it is one. -/
def fen (ro : Option Nat) : Fence := { Fence.wide with round := ro }
def cw (X : Ctx) (c : Code) (Q : Exit → Act → World → Prop) (a : Act) (w : World) : Prop :=
  match X.md with
  | none => c.wp X.P Q a w
  | some ro => c.wpIn (fen ro) 0 X.P Q a w

section
variable {X : Ctx} {Q : Exit → Act → World → Prop} {a : Act} {w : World}
theorem cw_none (h : X.md = none) (c : Code) : cw X c Q = c.wp X.P Q := by funext a w; unfold cw; rw [h]
theorem cw_some {ro : Option Nat} (h : X.md = some ro) (c : Code) : cw X c Q = c.wpIn (fen ro) 0 X.P Q := by funext a w; unfold cw; rw [h]
theorem cw_mono {c : Code} {Q' : Exit → Act → World → Prop} (h : cw X c Q a w) (hq : ∀ e a w, Q e a w → Q' e a w) : cw X c Q' a w := by
  cases hm : X.md with
  | none => rw [cw_none hm] at *; exact wp_mono h hq
  | some ro => rw [cw_some hm] at *; exact wpIn_mono h hq
theorem cw_seq {x y : Code} (h : cw X x (Exit.then (fun a w => cw X y Q a w) Q) a w) : cw X (x.seq y) Q a w := by
  cases hm : X.md with
  | none => rw [cw_none hm] at *; rw [cw_none hm] at h; exact wp_seq h
  | some ro => rw [cw_some hm] at *; rw [cw_some hm] at h; exact wpIn_seq h
theorem cw_block {x : Code} {id : Nat} (h : cw X x (Exit.inBlock id Q) a w) : cw X (Code.block id x) Q a w := by
  cases hm : X.md with
  | none => rw [cw_none hm] at *; exact wp_block h
  | some ro => rw [cw_some hm] at *; exact wpIn_block h
theorem cw_skip (h : Q .normal a w) : cw X Code.skip Q a w := by
  cases hm : X.md with
  | none => rw [cw_none hm]; exact wp_skip h
  | some ro => rw [cw_some hm]; exact wpIn_skip h
theorem cw_exit {id : Nat} (h : Q (.exit id) a w) : cw X (Code.exit id) Q a w := by
  cases hm : X.md with
  | none => rw [cw_none hm]; exact wp_exit h
  | some ro => rw [cw_some hm]; exact wpIn_exit h
theorem cw_ret (h : Q .ret a w) : cw X Code.ret Q a w := by
  cases hm : X.md with
  | none => rw [cw_none hm]; exact wp_ret h
  | some ro => rw [cw_some hm]; exact wpIn_ret h
theorem cw_cond_true {c : Operand} {x y : Code} (hc : a.eval c = .bool true) (h : cw X x Q a w) : cw X (Code.cond c x y) Q a w := by
  cases hm : X.md with
  | none => rw [cw_none hm] at *; exact wp_cond_true hc h
  | some ro => rw [cw_some hm] at *; exact wpIn_cond_true hc h
theorem cw_cond_false {c : Operand} {x y : Code} (hc : a.eval c = .bool false) (h : cw X y Q a w) : cw X (Code.cond c x y) Q a w := by
  cases hm : X.md with
  | none => rw [cw_none hm] at *; exact wp_cond_false hc h
  | some ro => rw [cw_some hm] at *; exact wpIn_cond_false hc h
theorem cw_loop {c : Code} (I : Act → World → Prop) (μ : Act → World → Nat) (h₀ : I a w)
    (round : ∀ a w, I a w → cw X c (Exit.then (fun a' w' => I a' w' ∧ μ a' w' < μ a w) Q) a w) : cw X (Code.loop c) Q a w := by
  cases hm : X.md with
  | none => rw [cw_none hm]; exact wp_loop I μ h₀ fun a w h => by have := round a w h; rw [cw_none hm] at this; exact this
  | some ro => rw [cw_some hm]; exact wpIn_loop I μ h₀ fun a w h => by have := round a w h; rw [cw_some hm] at this; exact this

/-! ### Regions -/
/-- Neither a panic nor a lack of room is taken. -/
def Strict (Q : Exit → Act → World → Prop) : Exit → Act → World → Prop
  | .panic _, _, _ => False
  | .outgrown, _, _ => False
  | e, a, w => Q e a w
theorem Strict.imp : ∀ (e : Exit) (a : Act) (w : World), Strict Q e a w → Q e a w := fun e a w h => by
  cases e <;> first | exact h | exact (h : False).elim

def nodef (o : Oper) : Bool := match o.op with
  | .defer _ => false
  | _ => true

theorem semAt_fen {ro : Option Nat} {o : Oper} (h : nodef o = true) (ev : Operand → Value) : o.semAt ro ev = execOp ev o := by
  cases ro with
  | none => exact Oper.semAt_none ev o
  | some l => exact Oper.semAt_some l ev o fun c e => by simp [nodef, e] at h

theorem callsIn_fen {ro : Option Nat} {n : Nat} {P : Program} {f : FuncId} {args : Array Value} {R : Ending → World → Prop} (h : Calls P f args w R) : CallsIn (fen ro) n P f args w R := by
  have h1 := (callsIn_wide (n := n)).2 h
  exact ⟨trivial, fun cs _ => h1.2 cs (room_wide _)⟩
theorem rowsIn_fen {ro : Option Nat} {n : Nat} {P : Program} {row : String} {args : Array Value} {R : Value → World → Prop} (h : Rows P row args w R) : RowsIn (fen ro) n P row args w R := by
  intro c cs _
  obtain ⟨v, w', hr, hs⟩ := h c cs
  exact ⟨v, w', hr, stepsIn_wide.2 hs⟩

theorem wpIn_of_wp {ro : Option Nat} {P : Program} {o : Oper} {K K' : Act → World → Prop} {Q1 : Exit → Act → World → Prop} (hnd : nodef o = true) (hp : ∀ c a w, ¬ Q1 (.panic c) a w) (hQ : ¬ LetsOut Q1) (h : o.wp P a w K Q1) (hk : ∀ a w, K a w → K' a w) :
    o.wpIn (fen ro) 0 P a w K' Q := by
  refine ⟨fun _ _ => trivial, ?_⟩
  show o.uponIn (fen ro) 0 P a K' Q ((o.semAt ro a.eval).run P w)
  rw [semAt_fen hnd]
  unfold Oper.wp at h
  generalize (execOp a.eval o).run P w = r at h ⊢
  cases r with
  | ok nx w' =>
    cases nx <;> simp only [Oper.upon, Oper.uponIn] at h ⊢ <;> try exact hk _ _ h
    · refine ⟨fun h => (by cases h), callsIn_fen (Calls.mono h fun e w'' he => ?_)⟩
      cases e with
      | returned v => exact hk _ _ he
      | panicked c => exact (hp _ _ _ he).elim
      | outgrown => exact (hQ he).elim
    · exact ⟨fun h => (by cases h), rowsIn_fen (Rows.mono h fun _ _ he => hk _ _ he)⟩
  | halt x w' => cases x <;> simp only [Oper.upon, Oper.uponIn] at h ⊢ <;> exact (hp _ _ _ h).elim

theorem strict_panic (c : List PanicEntry) (a : Act) (w : World) : ¬ Strict Q (.panic c) a w := fun h => h
theorem strict_out : ¬ LetsOut (Strict Q) := fun ⟨_, _, h⟩ => h

/-- What is shown of a list of operations serves in a fence too; 'rest' follows. -/
theorem wpListIn_of {ro : Option Nat} {P : Program} {ops : Array Oper} {rest : List Oper} {Q1 : Exit → Act → World → Prop} (hp : ∀ c a w, ¬ Q1 (.panic c) a w) (hQ : ¬ LetsOut Q1)
    (hn : ∀ a w, Q1 .normal a w → wpListIn (fen ro) 0 P ops Q rest a w) : ∀ (l : List Oper) (a : Act) (w : World), l.all nodef = true → wpList P ops Q1 l a w → wpListIn (fen ro) 0 P ops Q (l ++ rest) a w
  | [], a, w, _, h => hn a w h
  | o :: l, a, w, hnd, h => by
    simp only [List.all_cons, Bool.and_eq_true] at hnd
    have ih := wpListIn_of hp hQ hn l
    simp only [List.cons_append]
    unfold wpList at h
    unfold wpListIn
    split
    · rename_i hw
      rw [if_pos hw] at h
      rcases h with h | ⟨_, h⟩
      · exact wpIn_of_wp hnd.1 hp hQ h fun a w h => ih a w hnd.2 h
      · exact (hQ h).elim
    · rename_i hw
      rw [if_neg hw] at h
      exact ⟨fun _ _ => trivial, ih _ _ hnd.2 h⟩

theorem cw_region {id : Nat} {l : List Oper} (h : wpList X.P l.toArray (Strict Q) l a w) (hnd : l.all nodef = true) : cw X (Code.region id l.toArray false) Q a w := by
  cases hm : X.md with
  | none => rw [cw_none hm]; exact wp_mono (wp_region_lit h) Strict.imp
  | some ro =>
    rw [cw_some hm]
    refine wpIn_region_lit ?_
    have := wpListIn_of (ro := ro) (rest := []) (Q := Q) strict_panic strict_out (fun a w h => (h : Q .normal a w)) l a w hnd h
    rwa [List.append_nil] at this

theorem wpAnyIn_of {ro : Option Nat} {P : Program} {md : Region.Mode} {ops : Array Oper} (hnd : ∀ o ∈ ops.toList, nodef o = true) : ∀ (fuel : Nat) (l : Array Bool) (a : Act) (w : World), wpAny P md ops (Strict Q) fuel l a w → wpAnyIn (fen ro) 0 P md ops Q fuel l a w
  | 0, l, a, w, h => h
  | fuel + 1, l, a, w, h => by
    refine ⟨h.1, fun i hi => ?_⟩
    have h1 := h.2 i hi
    unfold wpOp at h1
    unfold wpOpIn
    split
    · rename_i ho
      rw [ho] at h1
      exact wpAnyIn_of hnd fuel _ a w h1
    · rename_i o ho
      rw [ho] at h1
      have hm : o ∈ ops.toList := by
        obtain ⟨hlt, rfl⟩ := Array.getElem?_eq_some_iff.1 ho
        simp
      simp only [] at h1
      split
      · rename_i hw
        rw [if_pos hw] at h1
        rcases h1 with h1 | ⟨_, h1⟩
        · exact wpIn_of_wp (hnd o hm) strict_panic strict_out h1 fun a w h => wpAnyIn_of hnd fuel _ a w h
        · exact (strict_out h1).elim
      · rename_i hw
        rw [if_neg hw] at h1
        exact ⟨fun _ _ => trivial, wpAnyIn_of hnd fuel _ _ w h1⟩

theorem cw_draw {id : Nat} {ops : Array Oper} (hm : X.P.follows .mixedOrders = true) (h : wpAny X.P .any ops (Strict Q) ops.size (Array.replicate ops.size false) a { w with drawn := w.drawn + 1 }) (hnd : ops.toList.all nodef = true) :
    cw X (Code.region id ops true) Q a w := by
  cases hmd : X.md with
  | none => rw [cw_none hmd]; exact wp_mono (wp_region_any hm h) Strict.imp
  | some ro => rw [cw_some hmd]; exact wpIn_region_any hm (wpAnyIn_of (fun o ho => List.all_eq_true.1 hnd o ho) _ _ _ _ h)
end

/-- In every frame and world that fits what is told, K holds. -/
def JQ (X : Ctx) (K : Act → World → Prop) (ρ : Env) (Δ : List At) : Prop :=
  ∀ a w, Sees X.n X.ds ρ a → Heap X.w0 X.F X.S Δ w → K a w

section
variable {X : Ctx} {ρ : Env} {Δ : List At} {Q : Exit → Act → World → Prop} {K : Act → World → Prop}

theorem JQ.sub (ρ' : Env) (h : JQ X K ρ' Δ) (hs : Sub ρ ρ' := by delta Go.GW.Sub; kernel_rfl) : JQ X K ρ Δ := fun a w ha hw => h a w (ha.sub hs) hw

/-- A length that is known by another name. -/
theorem JQ.len (f : Nat → Env) {a b : Nat} (hn : a = b) (h : JQ X K (f b) Δ) (hs : Sub ρ (f a) := by delta Go.GW.Sub; kernel_rfl) : JQ X K ρ Δ := JQ.sub (f a) (hn ▸ h) hs
theorem JQ.mask (Δ' : List At) (m : List Bool) (h : JQ X K ρ Δ') (hm : maskT m Δ = Δ' := by kernel_rfl) : JQ X K ρ Δ := fun a w ha hw => h a w ha (hm ▸ hw.drop (maskT_sub m Δ))
/-- The heap is told otherwise. -/
theorem JQ.turn {Δ' : List At} (hd : ∀ w, Heap X.w0 X.F X.S Δ w → Heap X.w0 X.F X.S Δ' w) (h : JQ X K ρ Δ') : JQ X K ρ Δ := fun a w ha hw => h a w ha (hd w hw)

/-! ### Control -/
theorem J.seq {x y : Code} (h : JQ X (cw X x (Exit.then (fun a w => cw X y Q a w) Q)) ρ Δ) : JQ X (cw X (x.seq y) Q) ρ Δ :=
  fun a w ha hw => cw_seq (h a w ha hw)
theorem J.block {x : Code} {id : Nat} (h : JQ X (cw X x (Exit.inBlock id Q)) ρ Δ) : JQ X (cw X (Code.block id x) Q) ρ Δ :=
  fun a w ha hw => cw_block (h a w ha hw)
theorem J.skip (h : JQ X (Q .normal) ρ Δ) : JQ X (cw X Code.skip Q) ρ Δ := fun a w ha hw => cw_skip (h a w ha hw)
theorem J.exit {id : Nat} (h : JQ X (Q (.exit id)) ρ Δ) : JQ X (cw X (Code.exit id) Q) ρ Δ := fun a w ha hw => cw_exit (h a w ha hw)
theorem J.ret (h : JQ X (Q .ret) ρ Δ) : JQ X (cw X Code.ret Q) ρ Δ := fun a w ha hw => cw_ret (h a w ha hw)
theorem J.cond_true {c : Operand} {x y : Code} {b : Bool} (hb : b = true) (h : JQ X (cw X x Q) ρ Δ) (hc : known ρ c = true := by kernel_rfl) (he : ev ρ c = .bool b := by kernel_rfl) : JQ X (cw X (Code.cond c x y) Q) ρ Δ :=
  fun a w ha hw => cw_cond_true (by rw [ha.eval hc, he, hb]) (h a w ha hw)
theorem J.cond_false {c : Operand} {x y : Code} {b : Bool} (hb : b = false) (h : JQ X (cw X y Q) ρ Δ) (hc : known ρ c = true := by kernel_rfl) (he : ev ρ c = .bool b := by kernel_rfl) : JQ X (cw X (Code.cond c x y) Q) ρ Δ :=
  fun a w ha hw => cw_cond_false (by rw [ha.eval hc, he, hb]) (h a w ha hw)
theorem J.region {id : Nat} {l : List Oper} (h : JQ X (wpList X.P l.toArray (Strict Q) l) ρ Δ) (hnd : l.all nodef = true := by kernel_rfl) : JQ X (cw X (Code.region id l.toArray false) Q) ρ Δ :=
  fun a w ha hw => cw_region (h a w ha hw) hnd
/-- Where the ways end: through 'then' and 'block'. -/
theorem JQ.then_normal {y : Act → World → Prop} (h : JQ X y ρ Δ) : JQ X (Exit.then y Q .normal) ρ Δ := h
theorem JQ.then_exit {y : Act → World → Prop} {id : Nat} (h : JQ X (Q (.exit id)) ρ Δ) : JQ X (Exit.then y Q (.exit id)) ρ Δ := h
theorem JQ.then_ret {y : Act → World → Prop} (h : JQ X (Q .ret) ρ Δ) : JQ X (Exit.then y Q .ret) ρ Δ := h
theorem JQ.blk_normal {id : Nat} (h : JQ X (Q .normal) ρ Δ) : JQ X (Exit.inBlock id Q .normal) ρ Δ := h
theorem JQ.blk_exit {id : Nat} (h : JQ X (Q .normal) ρ Δ) : JQ X (Exit.inBlock id Q (.exit id)) ρ Δ := fun a w ha hw => by
  simp only [Exit.inBlock, if_true]; exact h a w ha hw
theorem JQ.blk_other {id id' : Nat} (h : JQ X (Q (.exit id')) ρ Δ) (hne : Nat.beq id' id = false := by kernel_rfl) : JQ X (Exit.inBlock id Q (.exit id')) ρ Δ := fun a w ha hw => by
  simp only [Exit.inBlock, if_neg (show ¬ id' = id from fun e => by rw [e, Nat.beq_refl] at hne; cases hne)]; exact h a w ha hw
theorem JQ.blk_ret {id : Nat} (h : JQ X (Q .ret) ρ Δ) : JQ X (Exit.inBlock id Q .ret) ρ Δ := h

/-- Ways that meet again. What follows is walked once, from whatever 't' the first part came to. -/
theorem J.join {T G : Type} {x y : Code} (C : T → Prop) (ρ' : T → G → Env) (Δ' : T → G → List At)
    (hx : JQ X (cw X x (Exit.then (fun a w => ∃ t g, C t ∧ Sees X.n X.ds (ρ' t g) a ∧ Heap X.w0 X.F X.S (Δ' t g) w) Q)) ρ Δ)
    (hy : ∀ t g, C t → JQ X (cw X y Q) (ρ' t g) (Δ' t g)) : JQ X (cw X (x.seq y) Q) ρ Δ := by
  refine J.seq fun a w ha hw => cw_mono (hx a w ha hw) fun e a' w' h => ?_
  cases e with
  | normal => obtain ⟨t, g, hc, h1, h2⟩ := h; exact hy t g hc a' w' h1 h2
  | exit id => exact h
  | goto l => exact h
  | ret => exact h
  | panic c => exact h
  | outgrown => exact h

/-- The place where ways meet. -/
theorem JQ.meet {T G : Type} {C : T → Prop} {ρ' : T → G → Env} {Δ' : T → G → List At} (t : T) (g : G) (hc : C t) (hd : ∀ w, Heap X.w0 X.F X.S Δ w → Heap X.w0 X.F X.S (Δ' t g) w) (hs : Sub ρ (ρ' t g) := by delta Go.GW.Sub; kernel_rfl) :
    JQ X (fun a w => ∃ t g, C t ∧ Sees X.n X.ds (ρ' t g) a ∧ Heap X.w0 X.F X.S (Δ' t g) w) ρ Δ :=
  fun _ w ha hw => ⟨t, g, hc, ha.sub hs, hd w hw⟩

/-! ### Rounds -/
inductive St (σ τ r : Type) where
  | next (s : σ)
  | brk (t : τ)
  | ret (v : r)
inductive Out (τ r : Type) where
  | brk (t : τ)
  | ret (v : r)

def iterN {σ τ r : Type} (f : σ → Option (St σ τ r)) : Nat → σ → Option (Out τ r)
  | 0, _ => none
  | k + 1, s => match f s with
    | none => none
    | some (.next s') => iterN f k s'
    | some (.brk t) => some (.brk t)
    | some (.ret v) => some (.ret v)

theorem iterN_mono {σ τ r : Type} (f : σ → Option (St σ τ r)) : ∀ k s o, iterN f k s = some o → ∀ m, k ≤ m → iterN f m s = some o
  | 0, _, _, h, _, _ => by simp [iterN] at h
  | k + 1, s, o, h, m, hm => by
    obtain ⟨m, rfl⟩ : ∃ q, m = q + 1 := ⟨m - 1, by omega⟩
    simp only [iterN] at h ⊢
    split at h
    · cases h
    · exact iterN_mono f k _ o h m (by omega)
    · exact h
    · exact h

open Classical in
/-- Round after round till it ends; none where a round has no answer, or where it doesn't end. -/
noncomputable def iter {σ τ r : Type} (f : σ → Option (St σ τ r)) (s : σ) : Option (Out τ r) :=
  if h : ∃ k o, iterN f k s = some o then some h.choose_spec.choose else none

theorem iter_of_N {σ τ r : Type} {f : σ → Option (St σ τ r)} {s : σ} {o : Out τ r} {k : Nat} (h : iterN f k s = some o) : iter f s = some o := by
  have hex : ∃ k o, iterN f k s = some o := ⟨k, o, h⟩
  unfold iter
  rw [dif_pos hex]
  have h1 := hex.choose_spec.choose_spec
  have h2 := iterN_mono f _ _ _ h1 (max hex.choose k) (Nat.le_max_left _ _)
  have h3 := iterN_mono f _ _ _ h (max hex.choose k) (Nat.le_max_right _ _)
  rw [h2] at h3
  exact h3
theorem iter_N {σ τ r : Type} {f : σ → Option (St σ τ r)} {s : σ} {o : Out τ r} (h : iter f s = some o) : ∃ k, iterN f k s = some o := by
  unfold iter at h
  split at h
  · rename_i hex
    injection h with h
    exact ⟨_, h ▸ hex.choose_spec.choose_spec⟩
  · cases h
theorem iter_next {σ τ r : Type} {f : σ → Option (St σ τ r)} {s s' : σ} (h : f s = some (.next s')) : iter f s = iter f s' := by
  cases h' : iter f s' with
  | some o =>
    obtain ⟨k, hk⟩ := iter_N h'
    exact iter_of_N (k := k + 1) (by simp [iterN, h, hk])
  | none =>
    cases h2 : iter f s with
    | none => rfl
    | some o =>
      obtain ⟨k, hk⟩ := iter_N h2
      cases k with
      | zero => simp [iterN] at hk
      | succ k =>
        simp only [iterN, h] at hk
        rw [iter_of_N hk] at h'
        cases h'
theorem iter_brk {σ τ r : Type} {f : σ → Option (St σ τ r)} {s : σ} {t : τ} (h : f s = some (.brk t)) : iter f s = some (.brk t) := iter_of_N (k := 1) (by simp [iterN, h])
theorem iter_ret {σ τ r : Type} {f : σ → Option (St σ τ r)} {s : σ} {v : r} (h : f s = some (.ret v)) : iter f s = some (.ret v) := iter_of_N (k := 1) (by simp [iterN, h])
theorem iter_none {σ τ r : Type} {f : σ → Option (St σ τ r)} {s : σ} (h : f s = none) : iter f s = none := by
  cases h2 : iter f s with
  | none => rfl
  | some o =>
    obtain ⟨k, hk⟩ := iter_N h2
    cases k with
    | zero => simp [iterN] at hk
    | succ k => simp [iterN, h] at hk
/-- One round of an iteration that has an answer. -/
theorem iter_step {σ τ r : Type} {f : σ → Option (St σ τ r)} {s : σ} {o : Out τ r} (h : iter f s = some o) : ∃ st, f s = some st ∧ (∀ t, st = .brk t → o = .brk t) ∧ (∀ v, st = .ret v → o = .ret v) := by
  cases hf : f s with
  | none => rw [iter_none hf] at h; cases h
  | some st =>
    refine ⟨st, rfl, fun t e => ?_, fun v e => ?_⟩
    · subst e; rw [iter_brk hf] at h; injection h with h; exact h.symm
    · subst e; rw [iter_ret hf] at h; injection h with h; exact h.symm

/-- The place where a block's ways meet. -/
def Meet {T G : Type} (X : Ctx) (C : T → Prop) (ρ' : T → G → Env) (Δ' : T → G → List At) (Q : Exit → Act → World → Prop) : Exit → Act → World → Prop
  | .normal, a, w => ∃ t g, C t ∧ Sees X.n X.ds (ρ' t g) a ∧ Heap X.w0 X.F X.S (Δ' t g) w
  | e, a, w => Q e a w
theorem JQ.met {T G : Type} {C : T → Prop} {ρ' : T → G → Env} {Δ' : T → G → List At} (t : T) (g : G) (hc : C t) (hd : ∀ w, Heap X.w0 X.F X.S Δ w → Heap X.w0 X.F X.S (Δ' t g) w) (hs : Sub ρ (ρ' t g) := by delta Go.GW.Sub; kernel_rfl) :
    JQ X (Meet X C ρ' Δ' Q .normal) ρ Δ := fun _ w ha hw => ⟨t, g, hc, ha.sub hs, hd w hw⟩
theorem JQ.met_exit {T G : Type} {C : T → Prop} {ρ' : T → G → Env} {Δ' : T → G → List At} {id : Nat} (h : JQ X (Q (.exit id)) ρ Δ) : JQ X (Meet X C ρ' Δ' Q (.exit id)) ρ Δ := h
theorem JQ.met_ret {T G : Type} {C : T → Prop} {ρ' : T → G → Env} {Δ' : T → G → List At} (h : JQ X (Q .ret) ρ Δ) : JQ X (Meet X C ρ' Δ' Q .ret) ρ Δ := h

theorem least_ex {p : Nat → Prop} : ∀ (n : Nat), p n → ∃ k, p k ∧ ∀ m, p m → k ≤ m := by
  intro n
  induction n using Nat.strongRecOn with
  | _ n ih =>
    intro hn
    by_cases h : ∃ m, m < n ∧ p m
    · obtain ⟨m, hm, hp⟩ := h; exact ih m hm hp
    · exact ⟨n, hn, fun m hm => Nat.le_of_not_lt fun hlt => h ⟨m, hlt, hm⟩⟩
open Classical in
noncomputable def least (p : Nat → Prop) : Nat := if h : ∃ n, p n then Classical.choose (least_ex h.choose h.choose_spec) else 0
theorem least_spec {p : Nat → Prop} (h : ∃ n, p n) : p (least p) ∧ ∀ m, p m → least p ≤ m := by
  unfold least
  rw [dif_pos h]
  exact Classical.choose_spec (least_ex h.choose h.choose_spec)

/-- A loop in its block. -/
theorem J.loop {σ τ r G G' : Type} {c : Code} {id : Nat} (f : σ → Option (St σ τ r)) (o : Out τ r) (ρ' : σ → G → Env) (Δ' : σ → G → List At) (C : τ → Prop) (ρT : τ → G' → Env) (ΔT : τ → G' → List At) (s0 : σ) (g0 : G) (hit : iter f s0 = some o)
    (hd : ∀ w, Heap X.w0 X.F X.S Δ w → Heap X.w0 X.F X.S (Δ' s0 g0) w)
    (round : ∀ s g st, f s = some st → (∀ t, st = .brk t → o = .brk t) → (∀ v, st = .ret v → o = .ret v) →
      JQ X (cw X c (Exit.then (fun a w => ∃ s' g', st = .next s' ∧ Sees X.n X.ds (ρ' s' g') a ∧ Heap X.w0 X.F X.S (Δ' s' g') w) (Exit.inBlock id (Meet X C ρT ΔT Q)))) (ρ' s g) (Δ' s g))
    (after : ∀ t g, C t → JQ X (Q .normal) (ρT t g) (ΔT t g)) (hs : Sub ρ (ρ' s0 g0) := by delta Go.GW.Sub; kernel_rfl) :
    JQ X (cw X (Code.block id (Code.loop c)) Q) ρ Δ := by
  have hl : JQ X (cw X (Code.loop c) (Exit.inBlock id (Meet X C ρT ΔT Q))) ρ Δ := by
    intro a w ha hw
    let I : Act → World → Nat → Prop := fun a w n => ∃ s g, iterN f n s = some o ∧ Sees X.n X.ds (ρ' s g) a ∧ Heap X.w0 X.F X.S (Δ' s g) w
    obtain ⟨n, hn⟩ := iter_N hit
    refine cw_loop (fun a w => ∃ n, I a w n) (fun a w => least (I a w)) ⟨n, s0, g0, hn, ha.sub hs, hd w hw⟩ fun a w hex => ?_
    obtain ⟨s, g, hit', hsa, hwa⟩ := (least_spec hex).1
    generalize hk : least (I a w) = k at hit'
    cases k with
    | zero => simp [iterN] at hit'
    | succ k =>
      obtain ⟨st, hst, hends⟩ := iter_step (iter_of_N hit')
      refine cw_mono (round s g st hst hends.1 hends.2 a w hsa hwa) fun e a₁ w₁ hq => ?_
      cases e with
      | normal =>
        obtain ⟨s', g', hnx, h1, h2⟩ := hq
        subst hnx
        have h' : iterN f k s' = some o := by simpa [iterN, hst] using hit'
        have hI : I a₁ w₁ k := ⟨s', g', h', h1, h2⟩
        refine ⟨⟨k, hI⟩, ?_⟩
        have h4 := (least_spec ⟨k, hI⟩).2 k hI
        omega
      | exit jd => exact hq
      | goto l => exact hq
      | ret => exact hq
      | panic ch => exact hq
      | outgrown => exact hq
  intro a w ha hw
  refine cw_mono (cw_block (Q := Meet X C ρT ΔT Q) (hl a w ha hw)) fun e a' w' h => ?_
  cases e with
  | normal => obtain ⟨t, g, hc, h1, h2⟩ := h; exact after t g hc a' w' h1 h2
  | exit id => exact h
  | goto l => exact h
  | ret => exact h
  | panic c => exact h
  | outgrown => exact h

/-- A round's end. -/
theorem JQ.again {σ τ r G : Type} {ρ' : σ → G → Env} {Δ' : σ → G → List At} {st : St σ τ r} (s' : σ) (g' : G) (he : st = .next s') (hd : ∀ w, Heap X.w0 X.F X.S Δ w → Heap X.w0 X.F X.S (Δ' s' g') w) (hs : Sub ρ (ρ' s' g') := by delta Go.GW.Sub; kernel_rfl) :
    JQ X (fun a w => ∃ s' g', st = .next s' ∧ Sees X.n X.ds (ρ' s' g') a ∧ Heap X.w0 X.F X.S (Δ' s' g') w) ρ Δ :=
  fun _ w ha hw => ⟨s', g', he, ha.sub hs, hd w hw⟩

/-- What follows a loop. -/
def fin {τ r : Type} (o : Out τ r) (k : τ → Option r) : Option r := match o with
  | .brk t => k t
  | .ret v => some v
theorem fin_brk {τ r : Type} {t : τ} {k : τ → Option r} : fin (.brk t) k = k t := rfl
theorem fin_ret {τ r : Type} {v : r} {k : τ → Option r} : fin (.ret v) k = some v := rfl
/-- A name for a number that was reckoned. -/
def lt' {α β : Type} (x : α) (f : α → Option β) : Option β := f x
theorem lt_some {α β : Type} {x : α} {f : α → Option β} {r : β} (h : lt' x f = some r) : ∃ y, x = y ∧ f y = some r := ⟨x, rfl, h⟩

/-! ### The model's answers, taken apart -/
theorem bind_some {α β : Type} {x : Option α} {f : α → Option β} {r : β} (h : x.bind f = some r) : ∃ t, x = some t ∧ f t = some r := Option.bind_eq_some_iff.1 h
theorem ite_cases {α : Type} {b : Bool} {x y : Option α} {r : α} (h : (if b = true then x else y) = some r) : (b = true ∧ x = some r) ∨ (b = false ∧ y = some r) := by
  cases b
  · exact .inr ⟨rfl, by simpa using h⟩
  · exact .inl ⟨rfl, by simpa using h⟩
theorem ite_must {α : Type} {p : Prop} [Decidable p] {x : Option α} {r : α} (h : (if p then x else none) = some r) : p ∧ x = some r := by
  by_cases hp : p
  · rw [if_pos hp] at h; exact ⟨hp, h⟩
  · rw [if_neg hp] at h; cases h

/-! ### Operations -/
def upO (ρ : Env) : Option Tmp → Value → Env
  | some d, v => up ρ d v
  | none, _ => ρ
def okd (n : Nat) : Option Tmp → Bool
  | some d => Nat.ble (d + 1) n
  | none => true
theorem Sees.putO {n : Nat} {ds : List Deferred} {a : Act} (h : Sees n ds ρ a) {d : Option Tmp} (hd : okd n d = true) (v : Value) : Sees n ds (upO ρ d v) (a.put d v) := by
  cases d with
  | none => exact h.put_none v
  | some d => exact h.put (Nat.le_of_ble_eq_true hd) v

section
variable {ops : Array Oper} {rest : List Oper} {o : Oper}

theorem JL.nil (h : JQ X (Q .normal) ρ Δ) : JQ X (wpList X.P ops Q []) ρ Δ := fun a w ha hw => wpList_nil (h a w ha hw)
/-- A region's end. -/
theorem JL.end_ (h : JQ X (Q .normal) ρ Δ) : JQ X (wpList X.P ops (Strict Q) []) ρ Δ := fun a w ha hw => wpList_nil (h a w ha hw)

/-- A guarded operation that is carried out. -/
theorem JL.on (j t : Nat) {g : Bool} {b : Bool} (hb : b = g)
    (h : JQ X (wpList X.P ops Q ({ o with guard := none } :: rest)) ρ Δ) (hg : o.guard = some (j, g) := by kernel_rfl) (hj : (ops[j]?).bind (·.dst) = some t := by kernel_rfl) (hl : lk ρ t = some (.bool b) := by kernel_rfl) : JQ X (wpList X.P ops Q (o :: rest)) ρ Δ := by
  intro a w ha hw
  have h1 := h a w ha hw
  have h2 := ha.at_ t _ hl
  have hlt : t < a.tmps.size := by rw [ha.size]; exact h2.1
  have hy : yielded ops a.tmps j = some b := by
    have h3 : a.tmps[t]? = some (.bool b) := by
      have := h2.2
      rw [Array.getD_eq_getD_getElem?, Array.getElem?_eq_getElem hlt] at this
      rw [Array.getElem?_eq_getElem hlt]
      simpa using this
    unfold yielded
    simp only [hj, Option.bind_some, h3]
  have hwt : Region.wanted o (yielded ops a.tmps) = true := by simp [Region.wanted, hg, hy, hb]
  unfold wpList at h1 ⊢
  rw [if_pos hwt]
  rw [if_pos (by simp [Region.wanted])] at h1
  exact h1
/-- A guarded operation that is not. -/
theorem JL.off (j t : Nat) (g : Bool) {b : Bool} (d : Option Tmp) (hb : b = !g)
    (h : JQ X (wpList X.P ops Q rest) (upO ρ d undef) Δ) (hdd : o.dst = d := by kernel_rfl) (hg : o.guard = some (j, g) := by kernel_rfl) (hj : (ops[j]?).bind (·.dst) = some t := by kernel_rfl) (hl : lk ρ t = some (.bool b) := by kernel_rfl) (hd : okd X.n d = true := by kernel_rfl) : JQ X (wpList X.P ops Q (o :: rest)) ρ Δ := by
  intro a w ha hw
  have h2 := ha.at_ t _ hl
  have hlt : t < a.tmps.size := by rw [ha.size]; exact h2.1
  have hy : yielded ops a.tmps j = some b := by
    have h3 : a.tmps[t]? = some (.bool b) := by
      have := h2.2
      rw [Array.getD_eq_getD_getElem?, Array.getElem?_eq_getElem hlt] at this
      rw [Array.getElem?_eq_getElem hlt]
      simpa using this
    unfold yielded
    simp only [hj, Option.bind_some, h3]
  have hwt : ¬ Region.wanted o (yielded ops a.tmps) = true := by simp [Region.wanted, hg, hy, hb]
  unfold wpList
  rw [if_neg hwt, hdd]
  exact h _ _ (ha.putO hd undef) hw
/-- The guard's operation was itself left out. -/
theorem JL.off' (j t : Nat) (g : Bool) (d : Option Tmp)
    (h : JQ X (wpList X.P ops Q rest) (upO ρ d undef) Δ) (hdd : o.dst = d := by kernel_rfl) (hg : o.guard = some (j, g) := by kernel_rfl) (hj : (ops[j]?).bind (·.dst) = some t := by kernel_rfl) (hl : lk ρ t = some undef := by kernel_rfl) (hd : okd X.n d = true := by kernel_rfl) : JQ X (wpList X.P ops Q (o :: rest)) ρ Δ := by
  intro a w ha hw
  have h2 := ha.at_ t _ hl
  have hlt : t < a.tmps.size := by rw [ha.size]; exact h2.1
  have hy : yielded ops a.tmps j = none := by
    have h3 : a.tmps[t]? = some undef := by
      have := h2.2
      rw [Array.getD_eq_getD_getElem?, Array.getElem?_eq_getElem hlt] at this
      rw [Array.getElem?_eq_getElem hlt]
      simpa using this
    unfold yielded
    simp only [hj, Option.bind_some, h3]
    rfl
  have hwt : ¬ Region.wanted o (yielded ops a.tmps) = true := by simp [Region.wanted, hg, hy]
  unfold wpList
  rw [if_neg hwt, hdd]
  exact h _ _ (ha.putO hd undef) hw

/-- An operation that yields a value and leaves the world alone. -/
def Gives (X : Ctx) (ρ : Env) (Δ : List At) (o : Oper) (v : Value) : Prop :=
  ∀ a w, Sees X.n X.ds ρ a → Heap X.w0 X.F X.S Δ w → (execOp a.eval o).run X.P w = .ok (.value v) w

theorem JL.val (v : Value) (d : Option Tmp) (hy : Gives X ρ Δ o v)
    (h : JQ X (wpList X.P ops Q rest) (upO ρ d v) Δ) (hdd : o.dst = d := by kernel_rfl) (hg : o.guard = none := by kernel_rfl) (hd : okd X.n d = true := by kernel_rfl) : JQ X (wpList X.P ops Q (o :: rest)) ρ Δ := by
  intro a w ha hw
  subst hdd
  refine wpList_plain hg fun K hK => ?_
  unfold Oper.wp
  rw [hy a w ha hw]
  exact hK _ _ (h _ _ (ha.putO hd v) hw)

theorem Gives.pur {v : Value} (hk : knows ρ o = true) (h : ∀ w, (execOp (ev ρ) o).run X.P w = .ok (.value v) w) : Gives X ρ Δ o v :=
  fun a w ha _ => by rw [ha.exec hk]; exact h w

theorem JL.pur (v : Value) (d : Option Tmp) (hn : JQ X (wpList X.P ops Q rest) (upO ρ d v) Δ) (hdd : o.dst = d := by kernel_rfl) (hg : o.guard = none := by kernel_rfl) (hd : okd X.n d = true := by kernel_rfl) (hk : knows ρ o = true := by kernel_rfl) (h : ∀ w, (execOp (ev ρ) o).run X.P w = .ok (.value v) w := by intro _; kernel_rfl) :
    JQ X (wpList X.P ops Q (o :: rest)) ρ Δ := JL.val v d (Gives.pur hk h) hn hdd hg hd

theorem JL.mv {d : Option Tmp} {x : Operand} {ty : TypeId} {pos : String} {after : Array Edge} (v : Value)
    (h : JQ X (wpList X.P ops Q rest) (upO ρ d v) Δ) (hv : ev ρ x = v := by kernel_rfl) (hk : known ρ x = true := by kernel_rfl) (hd : okd X.n d = true := by kernel_rfl) : JQ X (wpList X.P ops Q (⟨d, .move x, ty, pos, after, none⟩ :: rest)) ρ Δ :=
  JL.val v d (fun a w ha _ => by simp only [execOp, Sem.run_pure, ha.eval hk, hv]) h rfl rfl hd
theorem JL.as {d : Option Tmp} {x : Operand} {ty : TypeId} {pos : String} {after : Array Edge} (v : Value)
    (h : JQ X (wpList X.P ops Q rest) (upO ρ d v) Δ) (hv : ev ρ x = v := by kernel_rfl) (hk : known ρ x = true := by kernel_rfl) (hd : okd X.n d = true := by kernel_rfl) : JQ X (wpList X.P ops Q (⟨d, .assign x, ty, pos, after, none⟩ :: rest)) ρ Δ :=
  JL.val v d (fun a w ha _ => by simp only [execOp, Sem.run_pure, ha.eval hk, hv]) h rfl rfl hd
/-- A number gets a name. -/
theorem JL.as' {d : Option Tmp} {x : Operand} {ty : TypeId} {pos : String} {after : Array Edge} {k : IntKind} {e : Int} (y : Int) (hy : e = y)
    (h : JQ X (wpList X.P ops Q rest) (upO ρ d (.int k y)) Δ) (hv : ev ρ x = .int k e := by kernel_rfl) (hk : known ρ x = true := by kernel_rfl) (hd : okd X.n d = true := by kernel_rfl) : JQ X (wpList X.P ops Q (⟨d, .assign x, ty, pos, after, none⟩ :: rest)) ρ Δ :=
  JL.as (.int k y) h (by rw [hv, hy]) hk hd

/-- An operation that may turn the heap. -/
theorem JL.step (hg : o.guard = none) (h : ∀ a w, Sees X.n X.ds ρ a → Heap X.w0 X.F X.S Δ w → ∃ v w', ((execOp a.eval o).run X.P w = .ok (.value v) w' ∨ ((execOp a.eval o).run X.P w = .ok .skip w' ∧ v = undef)) ∧
      wpList X.P ops Q rest (a.put o.dst v) w') : JQ X (wpList X.P ops Q (o :: rest)) ρ Δ := by
  intro a w ha hw
  refine wpList_plain hg fun K hK => ?_
  obtain ⟨v, w', hr, hn⟩ := h a w ha hw
  unfold Oper.wp
  rcases hr with hr | ⟨hr, rfl⟩
  · rw [hr]; exact hK _ _ hn
  · rw [hr]; exact hK _ _ hn

/-! ### Calls -/
/-- What a function does: 'pre': what it reads; 'own': what it takes over; behind it: the value and the atoms that it hands back. -/
def Does (P : Program) (f : FuncId) (args : Array Value) (pre own : List At) (sh : Bool) (post : Value → List At → Prop) : Prop :=
  ∀ (w : World) (S : Nat → Prop), (∀ b, S b → b < w.heap.size ∧ b ∉ blks own) → (blks own).Nodup → (∀ b ∈ blks own, b < w.heap.size) → (∀ t ∈ pre, t.sat w S) → (∀ t ∈ own, t.sat w S) →
    Calls P f args w fun e w' => ∃ v Δr, e = .returned v ∧ post v Δr ∧ Heap w (fun b => b < w.heap.size ∧ b ∉ blks own) S Δr w' ∧ (sh = false → ∀ t ∈ Δr, t.sh = false)

theorem Does.mono {P : Program} {f : FuncId} {args : Array Value} {pre own : List At} {sh : Bool} {post post' : Value → List At → Prop} (h : Does P f args pre own sh post) (hp : ∀ v Δr, post v Δr → post' v Δr) : Does P f args pre own sh post' :=
  fun w S h1 h2 h3 h4 h5 => (h w S h1 h2 h3 h4 h5).mono fun _ _ ⟨v, Δr, e, p, r⟩ => ⟨v, Δr, e, hp _ _ p, r⟩

/-- The atoms that the mask keeps. -/
theorem Heap.mask {w0 w : World} {F S : Nat → Prop} {Δ : List At} (m : List Bool) (h : Heap w0 F S Δ w) : Heap w0 F S (maskT m Δ) w := h.drop (maskT_sub m Δ)

/-- What one atom tells serves where another is asked, as long as nothing is written. -/
def Views (u t : At) : Prop := ∀ w S, u.sat w S → (∀ b, u.blk = some b → S b) → t.sat w S
/-- Atoms by their places. -/
def pickL (Δ : List At) : List Nat → List At
  | [] => []
  | i :: is => match Δ[i]? with
    | some t => t :: pickL Δ is
    | none => pickL Δ is
theorem pickL_perm (Δ : List At) : ∀ is : List Nat, is.Nodup → ∃ r, (pickL Δ is ++ r).Perm Δ := by
  intro is hn
  have h1 : pickL Δ is = is.filterMap (fun i => Δ[i]?) := by
    clear hn
    induction is with
    | nil => rfl
    | cons i is ih => simp only [pickL, List.filterMap_cons]; cases Δ[i]? <;> simp [ih]
  have h2 : (List.range Δ.length).filterMap (fun i => Δ[i]?) = Δ := by
    apply List.ext_getElem?
    intro j
    have h3 : (List.range Δ.length).filterMap (fun i => Δ[i]?) = (List.range Δ.length).pmap (fun i h => Δ[i]'h) (fun i h => List.mem_range.1 h) := by
      have : ∀ (l : List Nat) (hl : ∀ i ∈ l, i < Δ.length), l.filterMap (fun i => Δ[i]?) = l.pmap (fun i h => Δ[i]'h) hl := by
        intro l
        induction l with
        | nil => intro _; rfl
        | cons x l ih => intro hl; simp only [List.filterMap_cons, List.pmap_cons, List.getElem?_eq_getElem (hl x (by simp))]; rw [ih]
      exact this _ _
    rw [h3]
    by_cases hj : j < Δ.length
    · simp [List.getElem?_pmap, hj]
    · simp [List.getElem?_eq_none (Nat.le_of_not_lt hj), hj]
  have h4 : ∃ r, (is.filter (· < Δ.length) ++ r).Perm (List.range Δ.length) := by
    refine ⟨(List.range Δ.length).filter (fun i => !(is.filter (· < Δ.length)).contains i), ?_⟩
    rw [List.perm_iff_count]
    intro a
    rw [List.count_append]
    by_cases ha : a < Δ.length
    · have hr : (List.range Δ.length).count a = 1 := by
        rw [List.Nodup.count List.nodup_range]; simp [ha]
      by_cases hm : a ∈ is
      · have h5 : (is.filter (· < Δ.length)).count a = 1 := by
          rw [List.Nodup.count (hn.filter _)]; simp [ha, hm]
        have h6 : ((List.range Δ.length).filter (fun i => !(is.filter (· < Δ.length)).contains i)).count a = 0 := by
          rw [List.count_eq_zero]; simp [ha, hm]
        omega
      · have h5 : (is.filter (· < Δ.length)).count a = 0 := by
          rw [List.count_eq_zero]; simp [hm]
        have h6 : ((List.range Δ.length).filter (fun i => !(is.filter (· < Δ.length)).contains i)).count a = 1 := by
          rw [List.Nodup.count (List.nodup_range.filter _)]; simp [ha, hm]
        omega
    · have hr : (List.range Δ.length).count a = 0 := by rw [List.count_eq_zero]; simp; omega
      have h5 : (is.filter (· < Δ.length)).count a = 0 := by rw [List.count_eq_zero]; simp; omega
      have h6 : ((List.range Δ.length).filter (fun i => !(is.filter (· < Δ.length)).contains i)).count a = 0 := by rw [List.count_eq_zero]; simp; omega
      omega
  obtain ⟨r, hr⟩ := h4
  refine ⟨r.filterMap (fun i => Δ[i]?), ?_⟩
  have h7 := hr.filterMap (fun i => Δ[i]?)
  rw [h2, List.filterMap_append] at h7
  have h8 : (is.filter (· < Δ.length)).filterMap (fun i => Δ[i]?) = is.filterMap (fun i => Δ[i]?) := by
    clear h1 h7 hr hn
    induction is with
    | nil => rfl
    | cons i is ih =>
      by_cases hi : i < Δ.length
      · simp [hi, List.filterMap_cons, ih]
      · simp [hi, List.filterMap_cons, ih, List.getElem?_eq_none (Nat.le_of_not_lt hi)]
  rw [h8, ← h1] at h7
  exact h7
theorem Heap.pick {w0 w : World} {F S : Nat → Prop} {Δ : List At} (is : List Nat) (hn : is.Nodup) (h : Heap w0 F S Δ w) : Heap w0 F S (pickL Δ is) w := by
  obtain ⟨r, hr⟩ := pickL_perm Δ is hn
  exact (h.perm hr.symm).drop (List.sublist_append_left _ _)

theorem Views.refl (t : At) : Views t t := fun _ _ h _ => h
def PreOk (sh : Bool) (Δ : List At) : List At → Prop
  | [] => True
  | t :: ts => ((∀ w S, t.sat w S) ∨ ∃ u ∈ Δ, Views u t ∧ (sh = true → u.blk = none)) ∧ PreOk sh Δ ts
theorem PreOk.at_ {sh : Bool} {Δ : List At} : ∀ {pre : List At}, PreOk sh Δ pre → ∀ t ∈ pre, (∀ w S, t.sat w S) ∨ ∃ u ∈ Δ, Views u t ∧ (sh = true → u.blk = none)
  | [], _, t, ht => by cases ht
  | p :: ps, h, t, ht => by
    rcases List.mem_cons.1 ht with rfl | ht
    · exact h.1
    · exact h.2.at_ t ht
theorem pre_any {sh : Bool} {Δ : List At} {t u : At} (i : Nat) (hv : Views u t) (hi : Δ[i]? = some u := by kernel_rfl) (hb : u.blk = none := by kernel_rfl) : (∀ w S, t.sat w S) ∨ ∃ u ∈ Δ, Views u t ∧ (sh = true → u.blk = none) :=
  .inr ⟨u, List.mem_of_getElem? hi, hv, fun _ => hb⟩
theorem pre_view {Δ : List At} {t u : At} (i : Nat) (hv : Views u t) (hi : Δ[i]? = some u := by kernel_rfl) : (∀ w S, t.sat w S) ∨ ∃ u ∈ Δ, Views u t ∧ (false = true → u.blk = none) :=
  .inr ⟨u, List.mem_of_getElem? hi, hv, fun h => by cases h⟩

/-- The function that a call comes to. -/
def entersB (P : Program) (f : FuncId) : Bool := match P.funcs[f]? with
  | some fn => fn.body.isSome && fn.name != "runtime.NumGoroutine"
  | none => false
theorem run_callFunc {P : Program} {f : FuncId} (h : entersB P f = true) (args : Array Value) (w : World) : (callFunc f args).run P w = .ok (.enter f args) w := by
  unfold entersB at h
  split at h
  · rename_i fn hf
    simp only [Bool.and_eq_true, bne_iff_ne, ne_eq] at h
    obtain ⟨c, hc⟩ := Option.isSome_iff_exists.1 h.1
    unfold callFunc
    simp [hf, h.2, hc]
  · cases h

theorem Sees.args {n : Nat} {ds : List Deferred} {a : Act} (h : Sees n ds ρ a) {xs : Array Operand} (hx : xs.toList.all (known ρ) = true) : xs.map a.eval = xs.map (ev ρ) := by
  apply Array.map_congr_left
  intro x hxm
  exact h.eval (List.all_eq_true.1 hx x (by simpa using hxm))

theorem JL.call {d : Option Tmp} {fo : Operand} {xs : Array Operand} {ats : Array TypeId} {ty : TypeId} {pos : String} {after : Array Edge} {f : FuncId} {args : List Value} {pre own : List At} {sh : Bool} {post : Value → List At → Prop}
    (first caps : List Value) (m : List Bool) (hs : Does X.P f args.toArray pre own sh post) (hpre : PreOk sh (maskF m Δ) pre)
    (h : ∀ v Δr, post v Δr → JQ X (wpList X.P ops Q rest) (upO ρ d v) (maskF m Δ ++ Δr))
    (hf : known ρ fo = true := by kernel_rfl) (hfe : ev ρ fo = .func (.func f) first.toArray caps.toArray := by kernel_rfl) (hb : entersB X.P f = true := by kernel_rfl)
    (hx : xs.toList.all (known ρ) = true := by kernel_rfl) (hxe : first ++ (xs.toList.map (ev ρ) ++ caps) = args := by kernel_rfl) (hd : okd X.n d = true := by kernel_rfl)
    (hown : maskT m Δ = own := by kernel_rfl) :
    JQ X (wpList X.P ops Q (⟨d, .call ⟨.value fo, xs, ats⟩, ty, pos, after, none⟩ :: rest)) ρ Δ := by
  intro a w ha hw
  refine wpList_plain rfl fun K hK => ?_
  have hxe' : first.toArray ++ xs.map (ev ρ) ++ caps.toArray = args.toArray := by
    rw [← hxe]
    apply Array.ext'
    simp
  have hrun : (execOp a.eval ⟨d, .call ⟨.value fo, xs, ats⟩, ty, pos, after, none⟩).run X.P w = .ok (.enter f args.toArray) w := by
    simp only [execOp, resolve, Deferred.ofValue, ha.eval hf, hfe, ha.args hx, pure_bind, invoke]
    rw [hxe']
    exact run_callFunc hb _ w
  unfold Oper.wp
  rw [hrun]
  simp only [Oper.upon]
  have hw' : Heap X.w0 X.F X.S (own ++ maskF m Δ) w := hown ▸ hw.perm (mask_perm m Δ).symm
  have hnd := hw'.nodup
  rw [blks_append, List.nodup_append] at hnd
  have hownlt : ∀ b ∈ blks own, b < w.heap.size := fun b hb => (hw'.own b (by rw [blks_append]; exact List.mem_append_left _ hb)).2
  cases sh with
  | false =>
    have hmono : ∀ t : At, t ∈ own ++ maskF m Δ → t.sat w (fun b => b < w.heap.size ∧ b ∉ blks own) := fun t ht =>
      t.mono (fun b hb => ⟨hb.1, fun hb' => hb.2.1 (by rw [blks_append]; exact List.mem_append_left _ hb')⟩) (hw'.sat t ht)
    refine (hs w (fun b => b < w.heap.size ∧ b ∉ blks own) (fun _ h => h) hnd.1 hownlt (fun t ht => ?_) (fun t ht => hmono t (List.mem_append_left _ ht))).mono ?_
    · rcases hpre.at_ t ht with h0 | ⟨u, hu, hv, _⟩
      · exact h0 w _
      refine hv w _ (hmono u (List.mem_append_right _ hu)) fun b hb => ?_
      have hbm : b ∈ blks (maskF m Δ) := mem_blks hu hb
      exact ⟨(hw'.own b (by rw [blks_append]; exact List.mem_append_right _ hbm)).2, fun hb' => hnd.2.2 b hb' b hbm rfl⟩
    · rintro e w'' ⟨v, Δr, rfl, hp, hr, hsh⟩
      refine hK _ _ (h v Δr hp _ _ (ha.putO hd v) (hw'.call X.hF hr fun t ht htr => ?_))
      rw [hsh rfl t ht] at htr
      cases htr
  | true =>
    have hmono : ∀ t : At, t ∈ own ++ maskF m Δ → t.sat w (frz X.F (selS X.S true) (own ++ maskF m Δ) w) := fun t ht =>
      t.mono (fun b hb => ⟨hb.1, hb.2.1, fun hf => ⟨rfl, (hb.2.2 hf).2⟩⟩) (hw'.sat t ht)
    refine (hs w (frz X.F (selS X.S true) (own ++ maskF m Δ) w) (fun b hb => ⟨hb.1, fun hb' => hb.2.1 (by rw [blks_append]; exact List.mem_append_left _ hb')⟩) hnd.1 hownlt (fun t ht => ?_) (fun t ht => hmono t (List.mem_append_left _ ht))).mono ?_
    · rcases hpre.at_ t ht with h0 | ⟨u, hu, hv, hn⟩
      · exact h0 w _
      exact hv w _ (hmono u (List.mem_append_right _ hu)) fun b hb => by rw [hn rfl] at hb; cases hb
    · rintro e w'' ⟨v, Δr, rfl, hp, hr, hsh⟩
      exact hK _ _ (h v Δr hp _ _ (ha.putO hd v) (hw'.call X.hF hr fun t ht htr b hb => hb))

end
end

/-! ### A function's body -/
def ctx (P : Program) (n : Nat) (w : World) (own : List At) (S : Nat → Prop) : Ctx :=
  { P := P, n := n, w0 := w, F := fun b => b < w.heap.size ∧ b ∉ blks own, S := S, hF := fun _ h => h.1 }

def entry : Nat → List Value → Env
  | _, [] => []
  | i, v :: vs => (i, v) :: entry (i + 1) vs
theorem lk_entry : ∀ (vs : List Value) (k i : Nat) (v : Value), lk (entry k vs) i = some v → ∃ j, i = k + j ∧ vs[j]? = some v
  | [], k, i, v, h => by simp [entry, lk] at h
  | u :: vs, k, i, v, h => by
    simp only [entry, lk] at h
    by_cases hk : k = i
    · subst hk
      rw [beqT, cond_true] at h
      exact ⟨0, rfl, by simpa using h⟩
    · rw [beqF hk, cond_false] at h
      obtain ⟨j, hj, hv⟩ := lk_entry vs (k + 1) i v h
      exact ⟨j + 1, by omega, by simpa using hv⟩

def ShOk : List At → Prop
  | [] => True
  | t :: ts => (t.sh = true ∨ ∀ w S S', t.sat w S → t.sat w S') ∧ ShOk ts
theorem ShOk.at_ : ∀ {ts : List At}, ShOk ts → ∀ t ∈ ts, t.sh = true ∨ ∀ w S S', t.sat w S → t.sat w S'
  | [], _, t, ht => by cases ht
  | p :: ps, h, t, ht => by
    rcases List.mem_cons.1 ht with rfl | ht
    · exact h.1
    · exact h.2.at_ t ht

/-- What is owed at the body's end. -/
def Owed (w : World) (own : List At) (S : Nat → Prop) (sh : Bool) (post : Value → List At → Prop) : Ending → World → Prop :=
  fun e w' => ∃ v Δr, e = .returned v ∧ post v Δr ∧ Heap w (fun b => b < w.heap.size ∧ b ∉ blks own) S Δr w' ∧ (sh = false → ∀ t ∈ Δr, t.sh = false)

theorem Does.body {P : Program} {f : FuncId} {fn : Func} {c : Code} {vs : List Value} {pre own : List At} {sh : Bool} {post : Value → List At → Prop}
    (hf : P.funcs[f]? = some fn) (hb : fn.body = some c)
    (hpsh : ShOk pre) (hosh : ShOk own)
    (h : ∀ w S, JQ (ctx P fn.ntmps w own S) (cw (ctx P fn.ntmps w own S) c (bodyPost P fn (Owed w own S sh post))) (entry 0 vs) (pre ++ own))
    (hn : Nat.ble vs.length fn.ntmps = true := by kernel_rfl) (hpb : blks pre = [] := by kernel_rfl) :
    Does P f vs.toArray pre own sh post := by
  intro w S hS hnd hown hpre hown'
  refine calls_of_wp hf hb (h w S _ _ ⟨?_, rfl, fun i v hv => ?_⟩ ⟨rfl, rfl, rfl, Nat.le_refl _, Nat.le_refl _, fun _ _ => rfl, ?_, fun b hb => ?_, fun t ht => ?_⟩)
  · have := Nat.le_of_ble_eq_true hn
    simp only [ctx, Array.size_append, List.size_toArray, Array.size_replicate]
    omega
  · obtain ⟨j, hj, hv'⟩ := lk_entry vs 0 i v hv
    have hj' : i = j := by omega
    subst hj'
    have hlt : i < vs.length := (List.getElem?_eq_some_iff.1 hv').1
    have := Nat.le_of_ble_eq_true hn
    refine ⟨by simp only [ctx]; omega, ?_⟩
    rw [Array.getD_eq_getD_getElem?, Array.getElem?_append_left (by simpa using hlt)]
    simp [hv']
  · rw [blks_append, hpb, List.nil_append]
    exact hnd
  · rw [blks_append, hpb, List.nil_append] at hb
    exact ⟨fun hF => hF.2 hb, hown b hb⟩
  · have hsat : t.sat w S := by
      rcases List.mem_append.1 ht with ht | ht
      · exact hpre t ht
      · exact hown' t ht
    rcases (show t.sh = true ∨ ∀ w S S', t.sat w S → t.sat w S' from by
      rcases List.mem_append.1 ht with ht | ht
      · exact hpsh.at_ t ht
      · exact hosh.at_ t ht) with hh | hh
    · refine t.mono (fun b hb => ⟨(hS b hb).1, ?_, fun _ => ⟨hh, hb⟩⟩) hsat
      rw [blks_append, hpb, List.nil_append]
      exact (hS b hb).2
    · exact hh w S _ hsat

end Go.GW
