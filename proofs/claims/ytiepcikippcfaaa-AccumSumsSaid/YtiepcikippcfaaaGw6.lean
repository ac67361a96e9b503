/-
  Gw6: regions that draw their order and only read; comparisons of structs; small arrays.
-/
import Derived.Test.YtiepcikippcfaaaGw5
set_option linter.unusedVariables false
set_option linter.unusedSimpArgs false
namespace Go.GW
open Go

section
variable {X : Ctx} {ρ : Env} {Δ : List At} {Q : Exit → Act → World → Prop} {ops : Array Oper} {rest : List Oper}

theorem JL.ixAddr' {α : Type} {d : Option Tmp} {s x : Operand} {ty ty' E : TypeId} {pos : String} {after : Array Edge} {g o : Nat} {dk : Kd α} {xs : List α} {i : Int} {t : At} (j sz c : Nat) (k : IntKind) (hel : Elems t (some ⟨g, o, none⟩) dk xs)
    (hT : X.P.underlying ty = some (.slice E)) (hE : tySize X.P E = some sz) (h0 : 0 ≤ i) (h1 : i < (xs.length : Int)) (h : JQ X (wpList X.P ops Q rest) (upO ρ d (.pointer (some ⟨g, o + i.toNat * sz, none⟩))) Δ)
    (hsz : dk.sz = sz := by kernel_rfl) (hj : Δ[j]? = some t := by kernel_rfl) (hs : known ρ s = true := by kernel_rfl) (hx : known ρ x = true := by kernel_rfl) (hse : ev ρ s = .slice (some ⟨g, o, none⟩) xs.length c := by kernel_rfl) (hxe : ev ρ x = .int k i := by kernel_rfl) (hd : okd X.n d = true := by kernel_rfl) :
    JQ X (wpList X.P ops Q (⟨d, .indexAddr ty s x, ty', pos, after, none⟩ :: rest)) ρ Δ :=
  JL.ixAddr j sz c k hel hT hE h0 h1 (fun g' o' hA => by
    injection hA with hA
    injection hA with hA1 hA2
    subst hA1 hA2
    exact h) hsz hj hs hx hse hxe hd

/-! ### Regions that draw -/
/-- In every world of every class the operation yields this one value, and stays in the class. -/
def quietF {ι : Type} (P : Program) (C : ι → World → Prop) (o : Oper) (a : Act) (v : Value) : Prop := ∀ i w, C i w → Oper.quietAt P o a (C i) w v
/-- The lexical walk over the operations that only read; those of 'al' are passed over. -/
def wpPar {ι : Type} (P : Program) (ops : Array Oper) (C : ι → World → Prop) (K : Act → Prop) (al : List Nat) : Nat → List Oper → Act → Prop
  | _, [], a => K a
  | k, o :: rest, a => bif al.contains k then wpPar P ops C K al (k + 1) rest a else
      if Region.wanted o (yielded ops a.tmps) = true then ∃ v, quietF P C o a v ∧ wpPar P ops C K al (k + 1) rest (a.put o.dst v) else wpPar P ops C K al (k + 1) rest (a.put o.dst undef)
theorem wpPar_quiet {ι : Type} (i : ι) {P : Program} {ops : Array Oper} {C : ι → World → Prop} {K : Act → Prop} : ∀ (l : List Oper) (k : Nat) (a : Act), wpPar P ops C K [] k l a → wpQuiet P ops (C i) K l a
  | [], _, _, h => h
  | o :: rest, k, a, h => by
    unfold wpPar at h
    unfold wpQuiet
    simp only [List.contains_nil, cond_false] at h
    split
    · rename_i hw
      rw [if_pos hw] at h
      obtain ⟨v, h1, h2⟩ := h
      exact ⟨v, h1 i, wpPar_quiet i rest (k + 1) _ h2⟩
    · rename_i hw
      rw [if_neg hw] at h
      exact wpPar_quiet i rest (k + 1) _ h

/-- What is left behind the reading: the variables that were made meanwhile, then R. -/
def KA (X : Ctx) (R : Act → World → Prop) : List (Tmp × TypeId × List Value) → List At → Act → Prop
  | [], Δ, a => ∀ w, Heap X.w0 X.F X.S Δ w → R a w
  | (d, ty, z) :: al, Δ, a => ∀ b, KA X R al (Δ ++ [At.box b ty z]) (a.put (some d) (.pointer (some ⟨b, 0, none⟩)))
def JA (X : Ctx) (R : Act → World → Prop) (als : List (Tmp × TypeId × List Value)) (ρ : Env) (Δ : List At) : Prop := ∀ a, Sees X.n X.ds ρ a → KA X R als Δ a
theorem JA.nil {R : Act → World → Prop} (h : JQ X R ρ Δ) : JA X R [] ρ Δ := fun a ha w hw => h a w ha hw
theorem JA.alloc {R : Act → World → Prop} {d : Tmp} {ty : TypeId} {z : List Value} {als : List (Tmp × TypeId × List Value)} (h : ∀ b, JA X R als (upO ρ (some d) (.pointer (some ⟨b, 0, none⟩))) (Δ ++ [At.box b ty z])) (hd : okd X.n (some d) = true := by kernel_rfl) : JA X R ((d, ty, z) :: als) ρ Δ :=
  fun a ha b => h b _ (ha.putO hd _)

def QL (X : Ctx) (K : Act → Prop) (ops : Array Oper) (al : List Nat) (k : Nat) (l : List Oper) (ρ : Env) (Δ : List At) : Prop :=
  ∀ a, Sees X.n X.ds ρ a → (∃ w, Heap X.w0 X.F X.S Δ w) → wpPar X.P ops (fun Ψ w => Heap X.w0 X.F X.S (Δ ++ Ψ) w) K al k l a

theorem wpAny_lex {P : Program} {id : Nat} {C : World → Prop} {a : Act} {w : World} (hB : Region.lexB .any ops = true) (hC : C { w with drawn := w.drawn + 1 })
    (h : wpQuiet P ops C (fun a' => ∀ w', C w' → Q .normal a' w') ops.toList a) : wpAny P .any ops Q ops.size (Array.replicate ops.size false) a { w with drawn := w.drawn + 1 } := by
  simp only [Region.lexB, Bool.and_eq_true] at hB
  refine wpAny_of_quiet (Q := fun a' => ∀ w', C w' → Q .normal a' w') (fun _ w' hw' h => h w' hw') _ _ _ _ hC ?_
  have h1 := wpAnyQ_lex (C := C) (md := .any) hB.1 ops.toList 0 (Array.replicate ops.size false) a (by simp) (by simpa using hB.2) h
  simpa using h1
theorem J.draw {id : Nat} {l : List Oper} (h : QL X (KA X (Q .normal) [] Δ) l.toArray [] 0 l ρ Δ) (hm : X.P.follows .mixedOrders = true := by kernel_rfl) (hB : Region.lexB .any l.toArray = true := by kernel_rfl) (hnd : l.all nodef = true := by kernel_rfl) : JQ X (cw X (Code.region id l.toArray true) Q) ρ Δ := by
  intro a w ha hw
  refine cw_draw hm (wpAny_lex (id := id) (C := fun w => Heap X.w0 X.F X.S (Δ ++ []) w) hB (by rw [List.append_nil]; exact hw.drewN 1) ?_) (by simpa using hnd)
  have := wpPar_quiet [] _ _ _ (h a ha ⟨w, hw⟩)
  simpa [KA, Strict] using this

theorem QL.nil {R : Act → World → Prop} {als : List (Tmp × TypeId × List Value)} {al : List Nat} {k : Nat} (h : JA X R als ρ Δ) : QL X (KA X R als Δ) ops al k [] ρ Δ := fun a ha _ => h a ha
theorem QL.skipA {K : Act → Prop} {al : List Nat} {k : Nat} {o : Oper} (h : QL X K ops al (k + 1) rest ρ Δ) (hk : al.contains k = true := by kernel_rfl) : QL X K ops al k (o :: rest) ρ Δ := by
  intro a ha hex
  unfold wpPar
  rw [hk, cond_true]
  exact h a ha hex

variable {K : Act → Prop} {al : List Nat} {kk : Nat}
theorem QL.on {o : Oper} (j t : Nat) {g : Bool} {b : Bool} (hb : b = g)
    (h : QL X K ops al kk ({ o with guard := none } :: rest) ρ Δ) (hg : o.guard = some (j, g) := by kernel_rfl) (hj : (ops[j]?).bind (·.dst) = some t := by kernel_rfl) (hl : lk ρ t = some (.bool b) := by kernel_rfl) (hk0 : al.contains kk = false := by kernel_rfl) : QL X K ops al kk (o :: rest) ρ Δ := by
  intro a ha hex
  have h1 := h a ha hex
  have h2 := ha.at_ t _ hl
  have hlt : t < a.tmps.size := by rw [ha.size]; exact h2.1
  have hy : yielded ops a.tmps j = some b := by
    have h3 : a.tmps[t]? = some (.bool b) := by
      have := h2.2
      rw [Array.getD_eq_getD_getElem?, Array.getElem?_eq_getElem hlt] at this
      rw [Array.getElem?_eq_getElem hlt]
      simpa using this
    unfold yielded
    simp only [hj, Option.bind_some, h3]
  have hwt : Region.wanted o (yielded ops a.tmps) = true := by simp [Region.wanted, hg, hy, hb]
  unfold wpPar at h1 ⊢
  rw [hk0, cond_false] at h1 ⊢
  rw [if_pos hwt]
  rw [if_pos (by simp [Region.wanted])] at h1
  exact h1
theorem QL.off {o : Oper} (j t : Nat) (g : Bool) {b : Bool} (d : Option Tmp) (hb : b = !g)
    (h : QL X K ops al (kk + 1) rest (upO ρ d undef) Δ) (hdd : o.dst = d := by kernel_rfl) (hg : o.guard = some (j, g) := by kernel_rfl) (hj : (ops[j]?).bind (·.dst) = some t := by kernel_rfl) (hl : lk ρ t = some (.bool b) := by kernel_rfl) (hd : okd X.n d = true := by kernel_rfl) (hk0 : al.contains kk = false := by kernel_rfl) : QL X K ops al kk (o :: rest) ρ Δ := by
  intro a ha hex
  have h2 := ha.at_ t _ hl
  have hlt : t < a.tmps.size := by rw [ha.size]; exact h2.1
  have hy : yielded ops a.tmps j = some b := by
    have h3 : a.tmps[t]? = some (.bool b) := by
      have := h2.2
      rw [Array.getD_eq_getD_getElem?, Array.getElem?_eq_getElem hlt] at this
      rw [Array.getElem?_eq_getElem hlt]
      simpa using this
    unfold yielded
    simp only [hj, Option.bind_some, h3]
  have hwt : ¬ Region.wanted o (yielded ops a.tmps) = true := by simp [Region.wanted, hg, hy, hb]
  unfold wpPar
  rw [hk0, cond_false]
  rw [if_neg hwt, hdd]
  exact h _ (ha.putO hd undef) hex
theorem QL.off' {o : Oper} (j t : Nat) (g : Bool) (d : Option Tmp)
    (h : QL X K ops al (kk + 1) rest (upO ρ d undef) Δ) (hdd : o.dst = d := by kernel_rfl) (hg : o.guard = some (j, g) := by kernel_rfl) (hj : (ops[j]?).bind (·.dst) = some t := by kernel_rfl) (hl : lk ρ t = some undef := by kernel_rfl) (hd : okd X.n d = true := by kernel_rfl) (hk0 : al.contains kk = false := by kernel_rfl) : QL X K ops al kk (o :: rest) ρ Δ := by
  intro a ha hex
  have h2 := ha.at_ t _ hl
  have hlt : t < a.tmps.size := by rw [ha.size]; exact h2.1
  have hy : yielded ops a.tmps j = none := by
    have h3 : a.tmps[t]? = some undef := by
      have := h2.2
      rw [Array.getD_eq_getD_getElem?, Array.getElem?_eq_getElem hlt] at this
      rw [Array.getElem?_eq_getElem hlt]
      simpa using this
    unfold yielded
    simp only [hj, Option.bind_some, h3]
    rfl
  have hwt : ¬ Region.wanted o (yielded ops a.tmps) = true := by simp [Region.wanted, hg, hy]
  unfold wpPar
  rw [hk0, cond_false]
  rw [if_neg hwt, hdd]
  exact h _ (ha.putO hd undef) hex

theorem QL.val {o : Oper} (v : Value) (d : Option Tmp) (hy : Gives X ρ Δ o v) (h : QL X K ops al (kk + 1) rest (upO ρ d v) Δ) (hdd : o.dst = d := by kernel_rfl) (hg : o.guard = none := by kernel_rfl) (hd : okd X.n d = true := by kernel_rfl) (hk0 : al.contains kk = false := by kernel_rfl) : QL X K ops al kk (o :: rest) ρ Δ := by
  intro a ha hex
  subst hdd
  unfold wpPar
  rw [hk0, cond_false]
  rw [if_pos (by simp [Region.wanted, hg])]
  refine ⟨v, fun Ψ w hw => ?_, h _ (ha.putO hd v) hex⟩
  unfold Oper.quietAt
  rw [hy a w ha (hw.drop (List.sublist_append_left _ _))]
  exact ⟨rfl, rfl⟩
theorem QL.pur {o : Oper} (v : Value) (d : Option Tmp) (hn : QL X K ops al (kk + 1) rest (upO ρ d v) Δ) (hdd : o.dst = d := by kernel_rfl) (hg : o.guard = none := by kernel_rfl) (hd : okd X.n d = true := by kernel_rfl) (hk : knows ρ o = true := by kernel_rfl) (h : ∀ w, (execOp (ev ρ) o).run X.P w = .ok (.value v) w := by intro _; kernel_rfl) (hk0 : al.contains kk = false := by kernel_rfl) : QL X K ops al kk (o :: rest) ρ Δ := QL.val v d (Gives.pur hk h) hn hdd hg hd hk0
theorem QL.mv {d : Option Tmp} {x : Operand} {ty : TypeId} {pos : String} {after : Array Edge} (v : Value)
    (h : QL X K ops al (kk + 1) rest (upO ρ d v) Δ) (hv : ev ρ x = v := by kernel_rfl) (hk : known ρ x = true := by kernel_rfl) (hd : okd X.n d = true := by kernel_rfl) (hk0 : al.contains kk = false := by kernel_rfl) : QL X K ops al kk (⟨d, .move x, ty, pos, after, none⟩ :: rest) ρ Δ :=
  QL.val v d (fun a w ha _ => by simp only [execOp, Sem.run_pure, ha.eval hk, hv]) h rfl rfl hd hk0
theorem QL.as {d : Option Tmp} {x : Operand} {ty : TypeId} {pos : String} {after : Array Edge} (v : Value)
    (h : QL X K ops al (kk + 1) rest (upO ρ d v) Δ) (hv : ev ρ x = v := by kernel_rfl) (hk : known ρ x = true := by kernel_rfl) (hd : okd X.n d = true := by kernel_rfl) (hk0 : al.contains kk = false := by kernel_rfl) : QL X K ops al kk (⟨d, .assign x, ty, pos, after, none⟩ :: rest) ρ Δ :=
  QL.val v d (fun a w ha _ => by simp only [execOp, Sem.run_pure, ha.eval hk, hv]) h rfl rfl hd hk0
theorem QL.as' {d : Option Tmp} {x : Operand} {ty : TypeId} {pos : String} {after : Array Edge} {k : IntKind} {e : Int} (y : Int) (hy : e = y)
    (h : QL X K ops al (kk + 1) rest (upO ρ d (.int k y)) Δ) (hv : ev ρ x = .int k e := by kernel_rfl) (hk : known ρ x = true := by kernel_rfl) (hd : okd X.n d = true := by kernel_rfl) (hk0 : al.contains kk = false := by kernel_rfl) : QL X K ops al kk (⟨d, .assign x, ty, pos, after, none⟩ :: rest) ρ Δ :=
  QL.as (.int k y) h (by rw [hv, hy]) hk hd hk0

theorem QL.ixAddr {α : Type} {d : Option Tmp} {s x : Operand} {ty ty' E : TypeId} {pos : String} {after : Array Edge} {A : Option Addr} {dk : Kd α} {xs : List α} {i : Int} {t : At} (j sz c : Nat) (k : IntKind) (hel : Elems t A dk xs)
    (hT : X.P.underlying ty = some (.slice E)) (hE : tySize X.P E = some sz)
    (h0 : 0 ≤ i) (h1 : i < (xs.length : Int)) (h : ∀ g o, A = some ⟨g, o, none⟩ → QL X K ops al (kk + 1) rest (upO ρ d (.pointer (some ⟨g, o + i.toNat * sz, none⟩))) Δ)
    (hsz : dk.sz = sz := by kernel_rfl) (hj : Δ[j]? = some t := by kernel_rfl) (hs : known ρ s = true := by kernel_rfl) (hx : known ρ x = true := by kernel_rfl) (hse : ev ρ s = .slice A xs.length c := by kernel_rfl) (hxe : ev ρ x = .int k i := by kernel_rfl) (hd : okd X.n d = true := by kernel_rfl) (hk0 : al.contains kk = false := by kernel_rfl) : QL X K ops al kk (⟨d, .indexAddr ty s x, ty', pos, after, none⟩ :: rest) ρ Δ := by
  intro a ha hex
  obtain ⟨w, hw⟩ := hex
  rcases hel w _ (hw.sat t (List.mem_of_getElem? hj)) with h2 | ⟨g, o, cur, cty, fr, cells, hA, _⟩
  · subst h2; simp at h1; omega
  · refine QL.val (Δ := Δ) (ρ := ρ) (.pointer (some ⟨g, o + i.toNat * sz, none⟩)) d ?_ (h g o hA) rfl rfl hd hk0 a ha ⟨w, hw⟩
    intro a w ha hw
    simp only [execOp, ha.eval hs, ha.eval hx, hse, hxe, hA, Instr.indexAt, asIntOf, pure_bind, Sem.run_bind, run_underlying hT, Result.andThen_ok, Sem.run_pure]
    rw [if_pos ⟨h0, h1⟩]
    simp only [Sem.run_bind, gw_sizeOf hE, Result.andThen_ok, Sem.run_pure, addr_add]
theorem QL.ixAddr' {α : Type} {d : Option Tmp} {s x : Operand} {ty ty' E : TypeId} {pos : String} {after : Array Edge} {g o : Nat} {dk : Kd α} {xs : List α} {i : Int} {t : At} (j sz c : Nat) (k : IntKind) (hel : Elems t (some ⟨g, o, none⟩) dk xs)
    (hT : X.P.underlying ty = some (.slice E)) (hE : tySize X.P E = some sz) (h0 : 0 ≤ i) (h1 : i < (xs.length : Int)) (h : QL X K ops al (kk + 1) rest (upO ρ d (.pointer (some ⟨g, o + i.toNat * sz, none⟩))) Δ)
    (hsz : dk.sz = sz := by kernel_rfl) (hj : Δ[j]? = some t := by kernel_rfl) (hs : known ρ s = true := by kernel_rfl) (hx : known ρ x = true := by kernel_rfl) (hse : ev ρ s = .slice (some ⟨g, o, none⟩) xs.length c := by kernel_rfl) (hxe : ev ρ x = .int k i := by kernel_rfl) (hd : okd X.n d = true := by kernel_rfl) (hk0 : al.contains kk = false := by kernel_rfl) : QL X K ops al kk (⟨d, .indexAddr ty s x, ty', pos, after, none⟩ :: rest) ρ Δ :=
  QL.ixAddr j sz c k hel hT hE h0 h1 (fun g' o' hA => by
    injection hA with hA
    injection hA with hA1 hA2
    subst hA1 hA2
    exact h) hsz hj hs hx hse hxe hd hk0

theorem gives_loadEl {α : Type} [Inhabited α] {d : Option Tmp} {x : Operand} {ty ty' : TypeId} {pos : String} {after : Array Edge} {g o k : Nat} {f : Fl α} {xs : List α} {t : At} {v : Value} (j off : Nat) (i : Int)
    (hel : Elems t (some ⟨g, o, none⟩) f.kd xs) (h0 : 0 ≤ i) (h1 : i < (xs.length : Int)) (hk : tySize X.P ty = some k) (hv : (tyAgg X.P ty = some true ∧ v = .agg (((f.enc (ix xs i)).drop off).take k).toArray) ∨ (tyAgg X.P ty = some false ∧ k = 1 ∧ (f.enc (ix xs i))[off]? = some v))
    (hj : Δ[j]? = some t := by kernel_rfl) (hx : known ρ x = true := by kernel_rfl) (he : ev ρ x = .pointer (some ⟨g, o + i.toNat * f.sz + off, none⟩) := by kernel_rfl) (hz : Nat.ble 1 f.sz = true := by kernel_rfl) (hfit : Nat.ble (off + k) f.sz = true := by kernel_rfl) :
    Gives X ρ Δ ⟨d, .load ty x, ty', pos, after, none⟩ v := by
  intro a w ha hw
  rcases hel w _ (hw.sat t (List.mem_of_getElem? hj)) with h2 | ⟨g', o', cur, cty, fr, cs, hA, hg, hcut, hreps⟩
  · subst h2; simp at h1; omega
  injection hA with hA
  injection hA with hA1 hA2
  subst hA1 hA2
  have hq : (cs.drop (i.toNat * f.sz)).take f.sz = f.enc (ix xs i) := hreps.at_ (ix_some h0 h1)
  have hlen : cs.length = xs.length * f.sz := hreps.length
  have hi : i.toNat * f.sz + f.sz ≤ cs.length := by
    rw [hlen, ← Nat.succ_mul]
    exact Nat.mul_le_mul_right _ (by omega)
  have hfit' := Nat.le_of_ble_eq_true hfit
  have hz' := Nat.le_of_ble_eq_true hz
  have hsz : o + cs.length ≤ cur.size := by
    have h5 := congrArg List.length hcut
    have h6 : cur.toList.length = cur.size := Array.length_toList
    simp only [List.length_take, List.length_drop] at h5
    omega
  have hpart : (cur.toList.drop (o + i.toNat * f.sz + off)).take k = ((f.enc (ix xs i)).drop off).take k := by
    rw [take_drop_part hcut (by omega), ← hq, List.drop_take, List.take_take, List.drop_drop, Nat.min_eq_left (by omega)]
  rcases hv with ⟨hagg, hv⟩ | ⟨hagg, hk1, hv⟩
  · have := gw_loadn (P := X.P) (off := o + i.toNat * f.sz + off) hg hagg hk (by omega)
    rw [hpart] at this
    simp only [execOp, ha.eval hx, he, Instr.loadAt, Instr.sureAddr, pure_bind, Sem.run_bind, this, Result.andThen_ok, Sem.run_pure, hv]
  · have hc : cur[o + i.toNat * f.sz + off]? = some v := by
      subst hk1
      have h4 := congrArg (fun l => l[0]?) hpart
      simp only [List.getElem?_take, Nat.zero_lt_one, if_true, List.getElem?_drop, Nat.add_zero] at h4
      rw [← Array.getElem?_toList, h4, hv]
    have := gw_load1 (P := X.P) hg hagg hc
    simp only [execOp, ha.eval hx, he, Instr.loadAt, Instr.sureAddr, pure_bind, Sem.run_bind, this, Result.andThen_ok, Sem.run_pure]

/-- A call whose answer is the same whatever the world. -/
theorem QL.call {d : Option Tmp} {fo : Operand} {xs : Array Operand} {ats : Array TypeId} {ty : TypeId} {pos : String} {after : Array Edge} {f : FuncId} {args : List Value} {pre : List At} {sh : Bool} {v : Value}
    (first caps : List Value) (hs : Does X.P f args.toArray pre [] sh (fun u Δr => u = v ∧ Δr = []))
    (hpre : PreOk false Δ pre) (h : QL X K ops al (kk + 1) rest (upO ρ d v) Δ)
    (hf : known ρ fo = true := by kernel_rfl) (hfe : ev ρ fo = .func (.func f) first.toArray caps.toArray := by kernel_rfl) (hb : entersB X.P f = true := by kernel_rfl)
    (hx : xs.toList.all (known ρ) = true := by kernel_rfl) (hxe : first ++ (xs.toList.map (ev ρ) ++ caps) = args := by kernel_rfl) (hd : okd X.n d = true := by kernel_rfl) (hk0 : al.contains kk = false := by kernel_rfl) : QL X K ops al kk (⟨d, .call ⟨.value fo, xs, ats⟩, ty, pos, after, none⟩ :: rest) ρ Δ := by
  intro a ha hex
  unfold wpPar
  rw [hk0, cond_false]
  rw [if_pos (by simp [Region.wanted])]
  refine ⟨v, fun Ψ w hw => ?_, h _ (ha.putO hd v) hex⟩
  have hxe' : first.toArray ++ xs.map (ev ρ) ++ caps.toArray = args.toArray := by
    rw [← hxe]
    apply Array.ext'
    simp
  have hrun : (execOp a.eval ⟨d, .call ⟨.value fo, xs, ats⟩, ty, pos, after, none⟩).run X.P w = .ok (.enter f args.toArray) w := by
    simp only [execOp, resolve, Deferred.ofValue, ha.eval hf, hfe, ha.args hx, pure_bind, invoke]
    rw [hxe']
    exact run_callFunc hb _ w
  unfold Oper.quietAt
  rw [hrun]
  refine ⟨rfl, (hs w (fun b => b < w.heap.size ∧ b ∉ blks []) (fun _ h => h) (by simp [blks]) (by simp [blks]) (fun t ht => ?_) (fun t ht => by cases ht)).mono ?_⟩
  · rcases hpre.at_ t ht with h0 | ⟨u, hu, hv, _⟩
    · exact h0 w _
    refine hv w _ (u.mono (fun b hb => ⟨hb.1, by simp [blks]⟩) (hw.sat u (List.mem_append_left _ hu))) fun b hb => ⟨(hw.own b (mem_blks (List.mem_append_left Ψ hu) hb)).2, by simp [blks]⟩
  · rintro e w'' ⟨u, Δr, rfl, ⟨rfl, rfl⟩, hr, _⟩
    refine ⟨rfl, ?_⟩
    have h1 : Heap X.w0 X.F X.S ([] ++ (Δ ++ Ψ)) w := hw
    have := h1.call X.hF hr (fun t ht => by cases ht)
    simpa using this

/-! ### Comparing -/
theorem gives_eql {d : Option Tmp} {T T2 ty : TypeId} {x y : Operand} {pos : String} {after : Array Edge} {xs ys : Array Value} {b : Bool} (h1 : X.P.eqGuardType X.P.depth T = false) (h2 : ∀ w, (Op.equal T (.agg xs) (.agg ys)).run X.P w = .ok b w)
    (hx : known ρ x = true := by kernel_rfl) (hy : known ρ y = true := by kernel_rfl) (hxe : ev ρ x = .agg xs := by kernel_rfl) (hye : ev ρ y = .agg ys := by kernel_rfl) : Gives X ρ Δ ⟨d, .binOp .eql T x y T2, ty, pos, after, none⟩ (.bool b) := by
  intro ac w ha hw
  simp [execOp, ha.eval hx, ha.eval hy, hxe, hye, eqGuard, binOp, h1, h2 w]
theorem gives_neq {d : Option Tmp} {T T2 ty : TypeId} {x y : Operand} {pos : String} {after : Array Edge} {xs ys : Array Value} {b : Bool} (h1 : X.P.eqGuardType X.P.depth T = false) (h2 : ∀ w, (Op.equal T (.agg xs) (.agg ys)).run X.P w = .ok b w)
    (hx : known ρ x = true := by kernel_rfl) (hy : known ρ y = true := by kernel_rfl) (hxe : ev ρ x = .agg xs := by kernel_rfl) (hye : ev ρ y = .agg ys := by kernel_rfl) : Gives X ρ Δ ⟨d, .binOp .neq T x y T2, ty, pos, after, none⟩ (.bool (!b)) := by
  intro ac w ha hw
  simp [execOp, ha.eval hx, ha.eval hy, hxe, hye, eqGuard, binOp, h1, h2 w]

end

/-! ### Small arrays -/
structure A2 (α : Type) where
  e0 : α
  e1 : α
  deriving DecidableEq, Inhabited
structure A3 (α : Type) where
  e0 : α
  e1 : α
  e2 : α
  deriving DecidableEq, Inhabited
structure A4 (α : Type) where
  e0 : α
  e1 : α
  e2 : α
  e3 : α
  deriving DecidableEq, Inhabited
structure A5 (α : Type) where
  e0 : α
  e1 : α
  e2 : α
  e3 : α
  e4 : α
  deriving DecidableEq, Inhabited
theorem fl_len {α : Type} (f : Fl α) (x : α) : (f.enc x).length = f.sz := f.len x
def flArr2 {α : Type} (f : Fl α) : Fl (A2 α) := ⟨2 * f.sz, fun x => f.enc x.e0 ++ f.enc x.e1, fun x => by simp only [List.length_append, f.len]; omega, fun x v h => by
  simp only [List.mem_append] at h; rcases h with h | h <;> exact f.one _ v h⟩
def flArr3 {α : Type} (f : Fl α) : Fl (A3 α) := ⟨3 * f.sz, fun x => f.enc x.e0 ++ (f.enc x.e1 ++ f.enc x.e2), fun x => by simp only [List.length_append, f.len]; omega, fun x v h => by
  simp only [List.mem_append] at h; rcases h with h | h | h <;> exact f.one _ v h⟩
def flArr4 {α : Type} (f : Fl α) : Fl (A4 α) := ⟨4 * f.sz, fun x => f.enc x.e0 ++ (f.enc x.e1 ++ (f.enc x.e2 ++ f.enc x.e3)), fun x => by simp only [List.length_append, f.len]; omega, fun x v h => by
  simp only [List.mem_append] at h; rcases h with h | h | h | h <;> exact f.one _ v h⟩
def flArr5 {α : Type} (f : Fl α) : Fl (A5 α) := ⟨5 * f.sz, fun x => f.enc x.e0 ++ (f.enc x.e1 ++ (f.enc x.e2 ++ (f.enc x.e3 ++ f.enc x.e4))), fun x => by simp only [List.length_append, f.len]; omega, fun x v h => by
  simp only [List.mem_append] at h; rcases h with h | h | h | h | h <;> exact f.one _ v h⟩

end Go.GW
