/-
  Gw13: places of arrays in variables at an index that is reckoned.
-/
import Derived.Test.YtiepcikippcfaaaGw12
set_option linter.unusedVariables false
set_option linter.unusedSimpArgs false
namespace Go.GW
open Go

def A2.ofL {α : Type} [Inhabited α] (l : List α) : A2 α := ⟨ix l 0, ix l 1⟩
def A3.ofL {α : Type} [Inhabited α] (l : List α) : A3 α := ⟨ix l 0, ix l 1, ix l 2⟩
def A4.ofL {α : Type} [Inhabited α] (l : List α) : A4 α := ⟨ix l 0, ix l 1, ix l 2, ix l 3⟩
def A5.ofL {α : Type} [Inhabited α] (l : List α) : A5 α := ⟨ix l 0, ix l 1, ix l 2, ix l 3, ix l 4⟩
theorem ofL2 {α : Type} [Inhabited α] (f : Fl α) {l : List α} (h : l.length = 2) : l.flatMap f.enc = f.enc (A2.ofL l).e0 ++ f.enc (A2.ofL l).e1 := by
  match l, h with
  | [a, b], _ => simp [A2.ofL, ix]
theorem ofL3 {α : Type} [Inhabited α] (f : Fl α) {l : List α} (h : l.length = 3) : l.flatMap f.enc = f.enc (A3.ofL l).e0 ++ (f.enc (A3.ofL l).e1 ++ f.enc (A3.ofL l).e2) := by
  match l, h with
  | [a, b, c], _ => simp [A3.ofL, ix]
theorem ofL4 {α : Type} [Inhabited α] (f : Fl α) {l : List α} (h : l.length = 4) : l.flatMap f.enc = f.enc (A4.ofL l).e0 ++ (f.enc (A4.ofL l).e1 ++ (f.enc (A4.ofL l).e2 ++ f.enc (A4.ofL l).e3)) := by
  match l, h with
  | [a, b, c, d], _ => simp [A4.ofL, ix]
theorem ofL5 {α : Type} [Inhabited α] (f : Fl α) {l : List α} (h : l.length = 5) : l.flatMap f.enc = f.enc (A5.ofL l).e0 ++ (f.enc (A5.ofL l).e1 ++ (f.enc (A5.ofL l).e2 ++ (f.enc (A5.ofL l).e3 ++ f.enc (A5.ofL l).e4))) := by
  match l, h with
  | [a, b, c, d, e], _ => simp [A5.ofL, ix]

theorem splice {pre C post v : List Value} {s n off k : Nat} (h : off + k ≤ n) (hs : s + n ≤ C.length) (hv : v.length = k) : (pre ++ C ++ post).take (pre.length + s + off) ++ v ++ (pre ++ C ++ post).drop (pre.length + s + off + k) =
    pre ++ (C.take s ++ (((C.drop s).take n).take off ++ v ++ ((C.drop s).take n).drop (off + k)) ++ C.drop (s + n)) ++ post := by
  have hC : C = C.take s ++ ((C.drop s).take n ++ C.drop (s + n)) := by
    rw [← List.drop_drop, List.take_append_drop, List.take_append_drop]
  have hM : (C.drop s).take n = ((C.drop s).take n).take off ++ ((((C.drop s).take n).drop off).take k ++ ((C.drop s).take n).drop (off + k)) := by
    rw [← List.drop_drop, List.take_append_drop, List.take_append_drop]
  have l1 : (C.take s).length = s := by simp; omega
  have l2 : ((C.drop s).take n).length = n := by simp; omega
  have l3 : (((C.drop s).take n).take off).length = off := by simp; omega
  have l4 : ((((C.drop s).take n).drop off).take k).length = k := by simp; omega
  generalize hA : C.take s = A at *
  generalize hB : (C.drop s).take n = B at *
  generalize hR : C.drop (s + n) = R at *
  generalize hB1 : B.take off = B1 at *
  generalize hB2 : (B.drop off).take k = B2 at *
  generalize hB3 : B.drop (off + k) = B3 at *
  have e1 : pre ++ C ++ post = (pre ++ A ++ B1) ++ (B2 ++ (B3 ++ R ++ post)) := by rw [hC, hM]; simp
  have e2 : pre ++ C ++ post = (pre ++ A ++ B1 ++ B2) ++ (B3 ++ R ++ post) := by rw [hC, hM]; simp
  have t1 : (pre ++ C ++ post).take (pre.length + s + off) = pre ++ A ++ B1 := by
    rw [e1]; exact List.take_left' (by simp; omega)
  have t2 : (pre ++ C ++ post).drop (pre.length + s + off + k) = B3 ++ R ++ post := by
    rw [e2]; exact List.drop_left' (by simp; omega)
  rw [t1, t2]
  simp

section
variable {X : Ctx} {ρ : Env} {Δ : List At} {Q : Exit → Act → World → Prop} {ops : Array Oper} {rest : List Oper}

/-- An array in a variable, told as a row of its parts. -/
theorem elems_arr {α : Type} (b : Nat) (ty : TypeId) (cells : List Value) (f : Fl α) (xs : List α) (o : Nat) (h : (cells.drop o).take (xs.flatMap f.enc).length = xs.flatMap f.enc := by kernel_rfl) : Elems (At.box b ty cells) (some ⟨b, o, none⟩) f.kd xs :=
  fun w S hw => .inr ⟨b, o, cells.toArray, ty, (0, 0), xs.flatMap f.enc, rfl, hw, by simpa using h, Reps.flat.2 rfl⟩
theorem elems_arrC {α : Type} (b : Nat) (ty : TypeId) (cells : List Value) (sh : Bool) (f : Fl α) (xs : List α) (o : Nat) (h : (cells.drop o).take (xs.flatMap f.enc).length = xs.flatMap f.enc := by kernel_rfl) : Elems (At.cst b ty cells sh) (some ⟨b, o, none⟩) f.kd xs :=
  fun w S hw => .inr ⟨b, o, cells.toArray, ty, (0, 0), xs.flatMap f.enc, rfl, hw.2, by simpa using h, Reps.flat.2 rfl⟩

theorem gives_ixArrD {d : Option Tmp} {s x : Operand} {ty ty' E : TypeId} {pos : String} {after : Array Edge} {b o : Nat} {i : Int} (n sz : Nat) (kd : IntKind) (h0 : 0 ≤ i) (h1 : i < (n : Int)) (hT : X.P.underlying ty = some (.array n E)) (hE : tySize X.P E = some sz)
    (hs : known ρ s = true := by kernel_rfl) (hx : known ρ x = true := by kernel_rfl) (hse : ev ρ s = .pointer (some ⟨b, o, none⟩) := by kernel_rfl) (hxe : ev ρ x = .int kd i := by kernel_rfl) :
    Gives X ρ Δ ⟨d, .indexAddr ty s x, ty', pos, after, none⟩ (.pointer (some ⟨b, o + i.toNat * sz, none⟩)) := by
  intro a w ha hw
  simp only [execOp, ha.eval hs, ha.eval hx, hse, hxe, Instr.indexAt, asIntOf, pure_bind, Sem.run_bind, run_underlying hT, Result.andThen_ok, Sem.run_pure]
  have h2 : 0 ≤ i ∧ i < (n : Int) := ⟨h0, h1⟩
  simp [h2, Instr.sureAddr, Sem.run_bind, gw_sizeOf hE, Result.andThen_ok, Sem.run_pure, addr_add]

theorem JL.storeArr {α : Type} [Inhabited α] {dst : Option Tmp} {x y : Operand} {ty ty' : TypeId} {pos : String} {after : Array Edge} {k : Nat} (b o off j : Nat) (bty : TypeId) (f : Fl α) (xs : List α) (i : Int) (cells pre post : List Value) (y' : α)
    (h0 : 0 ≤ i) (h1 : i < (xs.length : Int)) (hk : tySize X.P ty = some k)
    (h : JQ X (wpList X.P ops Q rest) (upO ρ dst undef) (Δ.set j (At.box b bty (pre ++ (xs.set i.toNat y').flatMap f.enc ++ post))))
    (hj : Δ[j]? = some (At.box b bty cells) := by kernel_rfl) (hcs : cells = pre ++ xs.flatMap f.enc ++ post := by kernel_rfl) (hp : pre.length = o := by kernel_rfl) (hx : known ρ x = true := by kernel_rfl) (hy : known ρ y = true := by kernel_rfl) (he : ev ρ x = .pointer (some ⟨b, o + i.toNat * f.sz + off, none⟩) := by kernel_rfl) (hd : okd X.n dst = true := by kernel_rfl)
    (hs : (ev ρ y).cells.toList.length = k := by kernel_rfl) (hall : (ev ρ y).cells.toList.all (·.oneCell') = true := by kernel_rfl) (hfit : Nat.ble (off + k) f.sz = true := by kernel_rfl)
    (henc : (f.enc (ix xs i)).take off ++ (ev ρ y).cells.toList ++ (f.enc (ix xs i)).drop (off + k) = f.enc y' := by kernel_rfl) :
    JQ X (wpList X.P ops Q (⟨dst, .store ty x y, ty', pos, after, none⟩ :: rest)) ρ Δ := by
  subst hcs hp
  refine JL.step rfl fun a w ha hw => ?_
  obtain ⟨hsp, hsp'⟩ := set_split (At.box b bty (pre ++ (xs.set i.toNat y').flatMap f.enc ++ post)) hj
  have hg : w.heap[b]? = some (.cells (pre ++ xs.flatMap f.enc ++ post).toArray bty (0, 0)) := hw.sat _ (List.mem_of_getElem? hj)
  have hfit' := Nat.le_of_ble_eq_true hfit
  have hlt : i.toNat < xs.length := by omega
  have hflen : (xs.flatMap f.enc).length = xs.length * f.sz := ((Reps.flat (w := w) (S := fun _ => True)).2 (rfl : xs.flatMap f.enc = xs.flatMap f.enc)).length
  have hin : i.toNat * f.sz + f.sz ≤ (xs.flatMap f.enc).length := by rw [hflen, ← Nat.succ_mul]; exact Nat.mul_le_mul_right _ hlt
  have hrun := gw_store (P := X.P) (v := ev ρ y) (off := pre.length + i.toNat * f.sz + off) hg hk (by simpa using hs) (by simp only [List.size_toArray, List.length_append]; omega) (fun u hu => List.all_eq_true.1 hall u hu)
  have hE : ((xs.flatMap f.enc).drop (i.toNat * f.sz)).take f.sz = f.enc (ix xs i) := Reps.at_ ((Reps.flat (w := w) (S := fun _ => True)).2 (rfl : xs.flatMap f.enc = xs.flatMap f.enc)) (ix_some h0 h1)
  have hset := Reps.set (f := f) (w := w) (S := fun _ => True) (y := y') (xs := xs) i.toNat hlt
  have hnew := splice (pre := pre) (C := xs.flatMap f.enc) (post := post) (v := (ev ρ y).cells.toList) (s := i.toNat * f.sz) (n := f.sz) hfit' hin hs
  rw [hE, henc] at hnew
  have hfin : (pre ++ xs.flatMap f.enc ++ post).take (pre.length + i.toNat * f.sz + off) ++ (ev ρ y).cells.toList ++ (pre ++ xs.flatMap f.enc ++ post).drop (pre.length + i.toNat * f.sz + off + k) = pre ++ (xs.set i.toNat y').flatMap f.enc ++ post := by
    rw [hnew, hset]
  simp only [hfin] at hrun
  refine ⟨undef, w.setRow b (pre ++ (xs.set i.toNat y').flatMap f.enc ++ post).toArray, .inr ⟨?_, rfl⟩, h _ _ (ha.putO hd undef) ?_⟩
  · simp only [execOp, ha.eval hx, ha.eval hy, he, Instr.storeAt, Instr.sureAddr, pure_bind, Sem.run_bind, hrun, Result.andThen_ok, Sem.run_pure]
  · rw [hsp']
    rw [hsp] at hw
    refine hw.write X.hF rfl rfl rfl (Nat.le_refl _) (by simp) (fun c hc hne => setRow_other w b c _ fun e => hne (by rw [e]; rfl)) (fun c hc => .inl hc) ?_
    intro _
    exact setRow_heap w b _ _ bty (0, 0) hg
/-! ### What yields whatever the world -/
def GivesW (X : Ctx) (ρ : Env) (o : Oper) (v : Value) : Prop := ∀ a w, Sees X.n X.ds ρ a → (execOp a.eval o).run X.P w = .ok (.value v) w
theorem JY.puw {Δ0 : List At} {ds : List Nat} {n : Nat} {L : Array Bool} {o : Oper} (i : Nat) (L' : Array Bool) (v : Value) (d : Option Tmp) (hw : WantT X ρ ops o) (hy : GivesW X ρ o v) (h : JY X ops Q Δ0 ds n L' (upO ρ d v) Δ) (hi : ops[i]? = some o := by kernel_rfl) (hdd : o.dst = d := by kernel_rfl) (hc : PL.anyB .any ops L L' i = true := by kernel_rfl) (hd : okd X.n d = true := by kernel_rfl) : JY X ops Q Δ0 ds (n + 1) L ρ Δ := by
  intro a w ha hh
  exact PL.pure_ L' hi hdd hc (fun _ _ _ h => h.elim) (.inl ⟨hw a ha, fun w => hy a w ha⟩) rfl (h _ w (ha.putO hd v) hh)
theorem givesW_quo {d : Option Tmp} {T T2 ty : TypeId} {x y : Operand} {pos : String} {after : Array Edge} (k : IntKind) (a b : Int) (h : ¬ b = 0) (hx : known ρ x = true := by kernel_rfl) (hy : known ρ y = true := by kernel_rfl) (hxe : ev ρ x = .int k a := by kernel_rfl) (hye : ev ρ y = .int k b := by kernel_rfl) :
    GivesW X ρ ⟨d, .binOp .quo T x y T2, ty, pos, after, none⟩ (.int k (k.wrap (a.tdiv b))) := by
  intro ac w ha
  simp [execOp, ha.eval hx, ha.eval hy, hxe, hye, eqGuard, binOp, Op.intDiv, h]
theorem givesW_rem {d : Option Tmp} {T T2 ty : TypeId} {x y : Operand} {pos : String} {after : Array Edge} (k : IntKind) (a b : Int) (h : ¬ b = 0) (hx : known ρ x = true := by kernel_rfl) (hy : known ρ y = true := by kernel_rfl) (hxe : ev ρ x = .int k a := by kernel_rfl) (hye : ev ρ y = .int k b := by kernel_rfl) :
    GivesW X ρ ⟨d, .binOp .rem T x y T2, ty, pos, after, none⟩ (.int k (a.tmod b)) := by
  intro ac w ha
  simp [execOp, ha.eval hx, ha.eval hy, hxe, hye, eqGuard, binOp, Op.intDiv, h]
theorem givesW_pickT {d : Option Tmp} {ty : TypeId} {c x y : Operand} {pos : String} {after : Array Edge} {b : Bool} {v : Value} (hb : b = true) (hc : known ρ c = true := by kernel_rfl) (hx : known ρ x = true := by kernel_rfl) (hce : ev ρ c = .bool b := by kernel_rfl) (hv : ev ρ x = v := by kernel_rfl) :
    GivesW X ρ ⟨d, .pick c x y, ty, pos, after, none⟩ v := by
  intro ac w ha
  simp [execOp, ha.eval hc, ha.eval hx, hce, hb, asBool, hv]
theorem givesW_pickF {d : Option Tmp} {ty : TypeId} {c x y : Operand} {pos : String} {after : Array Edge} {b : Bool} {v : Value} (hb : b = false) (hc : known ρ c = true := by kernel_rfl) (hy : known ρ y = true := by kernel_rfl) (hce : ev ρ c = .bool b := by kernel_rfl) (hv : ev ρ y = v := by kernel_rfl) :
    GivesW X ρ ⟨d, .pick c x y, ty, pos, after, none⟩ v := by
  intro ac w ha
  simp [execOp, ha.eval hc, ha.eval hy, hce, hb, asBool, hv]

theorem givesW_shl {d : Option Tmp} {T T2 ty : TypeId} {x y : Operand} {pos : String} {after : Array Edge} (k k2 : IntKind) (a b : Int) (h : 0 ≤ b) (hx : known ρ x = true := by kernel_rfl) (hy : known ρ y = true := by kernel_rfl) (hxe : ev ρ x = .int k a := by kernel_rfl) (hye : ev ρ y = .int k2 b := by kernel_rfl) :
    GivesW X ρ ⟨d, .binOp .shl T x y T2, ty, pos, after, none⟩ (.int k (gshl k a b)) := by
  intro ac w ha
  have h' : ¬ b < 0 := by omega
  simp [execOp, ha.eval hx, ha.eval hy, hxe, hye, eqGuard, binOp, Op.shift, h', gshl]
theorem givesW_shr {d : Option Tmp} {T T2 ty : TypeId} {x y : Operand} {pos : String} {after : Array Edge} (k k2 : IntKind) (a b : Int) (h : 0 ≤ b) (hx : known ρ x = true := by kernel_rfl) (hy : known ρ y = true := by kernel_rfl) (hxe : ev ρ x = .int k a := by kernel_rfl) (hye : ev ρ y = .int k2 b := by kernel_rfl) :
    GivesW X ρ ⟨d, .binOp .shr T x y T2, ty, pos, after, none⟩ (.int k (gshr k a b)) := by
  intro ac w ha
  have h' : ¬ b < 0 := by omega
  simp [execOp, ha.eval hx, ha.eval hy, hxe, hye, eqGuard, binOp, Op.shift, h', gshr]

theorem givesW_ixSl {d : Option Tmp} {s x : Operand} {ty ty' E : TypeId} {pos : String} {after : Array Edge} {g o n : Nat} {i : Int} (sz c : Nat) (k : IntKind) (hT : X.P.underlying ty = some (.slice E)) (hE : tySize X.P E = some sz) (h0 : 0 ≤ i) (h1 : i < (n : Int))
    (hs : known ρ s = true := by kernel_rfl) (hx : known ρ x = true := by kernel_rfl) (hse : ev ρ s = .slice (some ⟨g, o, none⟩) n c := by kernel_rfl) (hxe : ev ρ x = .int k i := by kernel_rfl) : GivesW X ρ ⟨d, .indexAddr ty s x, ty', pos, after, none⟩ (.pointer (some ⟨g, o + i.toNat * sz, none⟩)) := by
  intro a w ha
  simp only [execOp, ha.eval hs, ha.eval hx, hse, hxe, Instr.indexAt, asIntOf, pure_bind, Sem.run_bind, run_underlying hT, Result.andThen_ok, Sem.run_pure]
  rw [if_pos ⟨h0, h1⟩]
  simp only [Sem.run_bind, gw_sizeOf hE, Result.andThen_ok, Sem.run_pure, addr_add]
theorem givesW_ixArrD {d : Option Tmp} {s x : Operand} {ty ty' E : TypeId} {pos : String} {after : Array Edge} {b o : Nat} {i : Int} (n sz : Nat) (kd : IntKind) (h0 : 0 ≤ i) (h1 : i < (n : Int)) (hT : X.P.underlying ty = some (.array n E)) (hE : tySize X.P E = some sz)
    (hs : known ρ s = true := by kernel_rfl) (hx : known ρ x = true := by kernel_rfl) (hse : ev ρ s = .pointer (some ⟨b, o, none⟩) := by kernel_rfl) (hxe : ev ρ x = .int kd i := by kernel_rfl) :
    GivesW X ρ ⟨d, .indexAddr ty s x, ty', pos, after, none⟩ (.pointer (some ⟨b, o + i.toNat * sz, none⟩)) := by
  intro a w ha
  simp only [execOp, ha.eval hs, ha.eval hx, hse, hxe, Instr.indexAt, asIntOf, pure_bind, Sem.run_bind, run_underlying hT, Result.andThen_ok, Sem.run_pure]
  have h2 : 0 ≤ i ∧ i < (n : Int) := ⟨h0, h1⟩
  simp [h2, Instr.sureAddr, Sem.run_bind, gw_sizeOf hE, Result.andThen_ok, Sem.run_pure, addr_add]

end
end Go.GW
