/-
  Gw5: numbers, choices, cuts, stores into rows; what is told of the heap, turned.
-/
import Derived.Test.YtiepcikippcfaaaGw4
set_option linter.unusedVariables false
set_option linter.unusedSimpArgs false
namespace Go.GW
open Go

def w64 (x : Int) : Int := IntKind.i64.wrap x
def wu64 (x : Int) : Int := IntKind.u64.wrap x
def wu8 (x : Int) : Int := IntKind.u8.wrap x
def wi32 (x : Int) : Int := IntKind.i32.wrap x
def wu32 (x : Int) : Int := IntKind.u32.wrap x
def gmax (x y : Int) : Int := if y > x then y else x
def gmin (x y : Int) : Int := if y < x then y else x

section
variable {X : Ctx} {ρ : Env} {Δ : List At}

theorem Heap.addRow0 {w0 w : World} {F S : Nat → Prop} {Δ : List At} {α : Type} (E : TypeId) (d : Kd α) (sh : Bool) (h : Heap w0 F S Δ w) : Heap w0 F S (Δ ++ [At.row none 0 E d ([] : List α) sh]) w :=
  h.add (fun t ht => by simp at ht; subst ht; rfl) fun t ht => by simp at ht; subst ht; exact row_nil _ _ _ _ _
theorem rd_nil {α : Type} (A : Option Addr) (c : Nat) (d : Kd α) (sh : Bool) (w : World) (S : Nat → Prop) : (At.rd A c d ([] : List α) sh).sat w S := ⟨Nat.zero_le _, .inl rfl⟩
theorem Heap.addRd0 {w0 w : World} {F S : Nat → Prop} {Δ : List At} {α : Type} (d : Kd α) (sh : Bool) (h : Heap w0 F S Δ w) : Heap w0 F S (Δ ++ [At.rd none 0 d ([] : List α) sh]) w :=
  h.add (fun t ht => by simp at ht; subst ht; rfl) fun t ht => by simp at ht; subst ht; exact rd_nil _ _ _ _ _ _
theorem Heap.upRow {w0 w : World} {F S : Nat → Prop} {Δ : List At} {α : Type} (i : Nat) (A : Option Addr) (c : Nat) (E : TypeId) (d : Kd α) (xs : List α) (h : Heap w0 F S Δ w) (hi : Δ[i]? = some (At.row A c E d xs false) := by kernel_rfl) : Heap w0 F S (Δ.set i (At.row A c E d xs true)) w := by
  obtain ⟨h1, h2⟩ := set_split (At.row A c E d xs true) hi
  rw [h2]
  rw [h1] at h
  exact h.swap (fun b hb => hb) (fun _ => rfl) fun S' hs _ => hs
theorem Heap.upRd {w0 w : World} {F S : Nat → Prop} {Δ : List At} {α : Type} (i : Nat) (A : Option Addr) (c : Nat) (d : Kd α) (xs : List α) (h : Heap w0 F S Δ w) (hi : Δ[i]? = some (At.rd A c d xs false) := by kernel_rfl) : Heap w0 F S (Δ.set i (At.rd A c d xs true)) w := by
  obtain ⟨h1, h2⟩ := set_split (At.rd A c d xs true) hi
  rw [h2]
  rw [h1] at h
  exact h.swap (fun b hb => hb) (fun _ => rfl) fun S' hs _ => hs
theorem view_rd {α : Type} (A : Option Addr) (c : Nat) (d : Kd α) (xs : List α) (sh sh' : Bool) : Views (At.rd A c d xs sh) (At.rd A c d xs sh') := fun _ _ h _ => h
theorem view_cst (b : Nat) (ty : TypeId) (cells : List Value) (sh sh' : Bool) : Views (At.cst b ty cells sh) (At.cst b ty cells sh') := fun _ _ h _ => h

/-- The body's end. -/
theorem JQ.done' {P : Program} {fn : Func} {n : Nat} {w0 : World} {own : List At} {S : Nat → Prop} {sh : Bool} {post : Value → List At → Prop} {e : Exit} {rs : List ResultVar} {vs : List Value} {v : Value}
    (Δr : List At) (he : e = .normal ∨ e = .ret) (hv : ResV (ctx P n w0 own S) ρ Δ rs vs)
    (hd : ∀ w, Heap w0 (fun b => b < w0.heap.size ∧ b ∉ blks own) S Δ w → Heap w0 (fun b => b < w0.heap.size ∧ b ∉ blks own) S Δr w) (hpost : post v Δr) (hr : fn.results = rs.toArray := by kernel_rfl) (hp : packed vs = v := by kernel_rfl) (hsh : (sh || Δr.all (fun t => !t.sh)) = true := by kernel_rfl) :
    JQ (ctx P n w0 own S) (bodyPost P fn (Owed w0 own S sh post) e) ρ Δ := by
  rw [Bool.or_eq_true] at hsh
  intro a w ha hw
  have hb : a.defers = [] ∧ ∃ v, (results fn a.tmps).run P w = .ok v w ∧ (Owed w0 own S sh post) (.returned v) w := by
    refine ⟨ha.defers, v, hp ▸ results_run (X := ctx P n w0 own S) ha hw hr hv, v, Δr, rfl, hpost, hd w hw, fun hs t ht => ?_⟩
    rcases hsh with h | h
    · rw [h] at hs; cases hs
    · simpa using List.all_eq_true.1 h t ht
  rcases he with rfl | rfl
  · exact hb
  · exact hb
end

section
variable {X : Ctx} {ρ : Env} {Δ : List At} {Q : Exit → Act → World → Prop} {ops : Array Oper} {rest : List Oper}

theorem gives_quo {d : Option Tmp} {T T2 ty : TypeId} {x y : Operand} {pos : String} {after : Array Edge} (k : IntKind) (a b : Int) (h : ¬ b = 0) (hx : known ρ x = true := by kernel_rfl) (hy : known ρ y = true := by kernel_rfl) (hxe : ev ρ x = .int k a := by kernel_rfl) (hye : ev ρ y = .int k b := by kernel_rfl) :
    Gives X ρ Δ ⟨d, .binOp .quo T x y T2, ty, pos, after, none⟩ (.int k (k.wrap (a.tdiv b))) := by
  intro ac w ha hw
  simp [execOp, ha.eval hx, ha.eval hy, hxe, hye, eqGuard, binOp, Op.intDiv, h]
theorem gives_rem {d : Option Tmp} {T T2 ty : TypeId} {x y : Operand} {pos : String} {after : Array Edge} (k : IntKind) (a b : Int) (h : ¬ b = 0) (hx : known ρ x = true := by kernel_rfl) (hy : known ρ y = true := by kernel_rfl) (hxe : ev ρ x = .int k a := by kernel_rfl) (hye : ev ρ y = .int k b := by kernel_rfl) :
    Gives X ρ Δ ⟨d, .binOp .rem T x y T2, ty, pos, after, none⟩ (.int k (a.tmod b)) := by
  intro ac w ha hw
  simp [execOp, ha.eval hx, ha.eval hy, hxe, hye, eqGuard, binOp, Op.intDiv, h]
theorem gives_pickT {d : Option Tmp} {ty : TypeId} {c x y : Operand} {pos : String} {after : Array Edge} {b : Bool} {v : Value} (hb : b = true) (hc : known ρ c = true := by kernel_rfl) (hx : known ρ x = true := by kernel_rfl) (hce : ev ρ c = .bool b := by kernel_rfl) (hv : ev ρ x = v := by kernel_rfl) :
    Gives X ρ Δ ⟨d, .pick c x y, ty, pos, after, none⟩ v := by
  intro ac w ha hw
  simp [execOp, ha.eval hc, ha.eval hx, hce, hb, asBool, hv]
theorem gives_pickF {d : Option Tmp} {ty : TypeId} {c x y : Operand} {pos : String} {after : Array Edge} {b : Bool} {v : Value} (hb : b = false) (hc : known ρ c = true := by kernel_rfl) (hy : known ρ y = true := by kernel_rfl) (hce : ev ρ c = .bool b := by kernel_rfl) (hv : ev ρ y = v := by kernel_rfl) :
    Gives X ρ Δ ⟨d, .pick c x y, ty, pos, after, none⟩ v := by
  intro ac w ha hw
  simp [execOp, ha.eval hc, ha.eval hy, hce, hb, asBool, hv]

/-! ### A cut of a slice -/
/-- A bound of a cut: told, or the default. -/
def Bnd (o : Option Value) (dflt n : Nat) : Prop := (o = none ∧ n = dflt) ∨ ∃ k i, o = some (.int k i) ∧ 0 ≤ i ∧ i.toNat = n

theorem gw_sliceBound {P : Program} {k : IntKind} {i : Int} {y : Nat} {c : BoundsCode} {n : Nat} (h0 : 0 ≤ i) (hn : i.toNat = n) (h1 : n ≤ y) (w : World) : (Instr.sliceBound (.int k i) y c).run P w = .ok n w := by
  have : i ≤ (y : Int) := by omega
  simp [Instr.sliceBound, asIntOf, h0, this, hn]

theorem gw_slice {P : Program} {T E : TypeId} {A : Option Addr} {n c l h m sz : Nat} {lo hi mx : Option Value} (hT : P.underlying T = some (.slice E)) (hE : tySize P E = some sz)
    (hm : Bnd mx c m) (hh : Bnd hi n h) (hl : Bnd lo 0 l) (hmh : mx = none ∨ hi ≠ none) (h1 : l ≤ h) (h2 : h ≤ m) (h3 : m ≤ c) (w : World) :
    (Instr.sliceAt T (.slice A n c) lo hi mx).run P w = .ok (.slice (if m = l then A else A.map (·.add (l * sz))) (h - l) (m - l)) w := by
  have hb : (Instr.sliceBounds true n c lo hi mx).run P w = .ok (l, h, m) w := by
    unfold Instr.sliceBounds
    rcases hm with ⟨rfl, rfl⟩ | ⟨k1, i1, rfl, g1, e1⟩
    · rcases hh with ⟨rfl, rfl⟩ | ⟨k2, i2, rfl, g2, e2⟩
      · rcases hl with ⟨rfl, rfl⟩ | ⟨k3, i3, rfl, g3, e3⟩
        · simp
        · simp [gw_sliceBound g3 e3 h1]
      · rcases hl with ⟨rfl, rfl⟩ | ⟨k3, i3, rfl, g3, e3⟩
        · simp [gw_sliceBound g2 e2 h2]
        · simp [gw_sliceBound g2 e2 h2, gw_sliceBound g3 e3 h1]
    · rcases hh with ⟨rfl, rfl⟩ | ⟨k2, i2, rfl, g2, e2⟩
      · rcases hmh with h | h
        · cases h
        · exact absurd rfl h
      · rcases hl with ⟨rfl, rfl⟩ | ⟨k3, i3, rfl, g3, e3⟩
        · simp [gw_sliceBound g1 e1 h3, gw_sliceBound g2 e2 h2]
        · simp [gw_sliceBound g1 e1 h3, gw_sliceBound g2 e2 h2, gw_sliceBound g3 e3 h1]
  unfold Instr.sliceAt Instr.slice
  simp [run_underlying hT, hb, gw_sizeOf hE]

theorem JL.cut {α : Type} {dst : Option Tmp} {T ty' E : TypeId} {x : Operand} {lo hi mx : Option Operand} {pos : String} {after : Array Edge} (l h m j : Nat) (A : Option Addr) (c : Nat) (d : Kd α) (xs : List α) (sh : Bool)
    (hT : X.P.underlying T = some (.slice E)) (hE : tySize X.P E = some d.sz)
    (hm : Bnd (mx.map (ev ρ)) c m) (hh : Bnd (hi.map (ev ρ)) xs.length h) (hl : Bnd (lo.map (ev ρ)) 0 l) (hmh : mx = none ∨ hi ≠ none) (h1 : l ≤ h) (h2 : h ≤ m) (h2' : h ≤ xs.length) (h3 : m ≤ c ∨ (mx = none ∧ m = c))
    (hnext : ∀ A' c', JQ X (wpList X.P ops Q rest) (upO ρ dst (.slice A' ((xs.take h).drop l).length c')) (Δ ++ [At.rd A' c' d ((xs.take h).drop l) sh]))
    (hj : Δ[j]? = some (At.rd A c d xs sh) := by kernel_rfl) (hk : knows ρ ⟨dst, .slice T x lo hi mx, ty', pos, after, none⟩ = true := by kernel_rfl) (hd : okd X.n dst = true := by kernel_rfl) (hxe : ev ρ x = .slice A xs.length c := by kernel_rfl) :
    JQ X (wpList X.P ops Q (⟨dst, .slice T x lo hi mx, ty', pos, after, none⟩ :: rest)) ρ Δ := by
  refine JL.step rfl fun a w ha hw => ?_
  have h3' : m ≤ c := by rcases h3 with h3 | ⟨_, h3⟩ <;> omega
  have hlen : ((xs.take h).drop l).length = h - l := by rw [List.length_drop, List.length_take]; omega
  have hmh' : mx.map (ev ρ) = none ∨ hi.map (ev ρ) ≠ none := by
    rcases hmh with h | h
    · exact .inl (by rw [h]; rfl)
    · refine .inr fun e => h (by simpa using e)
  have hrun := gw_slice (P := X.P) (A := A) (n := xs.length) hT hE hm hh hl hmh' h1 h2 h3' w
  have hat := hw.sat _ (List.mem_of_getElem? hj)
  have hw' : Heap X.w0 X.F X.S (Δ ++ [At.rd (if m = l then A else A.map (·.add (l * d.sz))) (m - l) d ((xs.take h).drop l) sh]) w := by
    refine hw.add (fun t ht => by simp at ht; subst ht; rfl) fun t ht => ?_
    simp at ht
    subst ht
    refine ⟨by rw [hlen]; omega, ?_⟩
    by_cases hlt : l < h
    · right
      rcases hat.2 with h0 | ⟨g, o, cur, cty, fr, cells, hA, hS, hg, hcut, hr⟩
      · subst h0; simp at h2'; omega
      · have h5 := (hr.take h).drop l
        have hcl := hr.length
        rw [if_neg (by omega)]
        refine ⟨g, o + l * d.sz, cur, cty, fr, _, ?_, hS, hg, ?_, h5⟩
        · rw [hA]; simp [addr_add]
        · have hl5 := h5.length
          rw [hlen] at hl5
          rw [hl5]
          conv => rhs; rw [← hcut]
          rw [List.take_take, List.drop_take, List.drop_drop, Nat.min_eq_left (by rw [hcl]; exact Nat.mul_le_mul_right _ h2'), Nat.sub_mul]
    · left
      exact List.eq_nil_of_length_eq_zero (by rw [hlen]; omega)
  have := hnext _ _ _ _ (ha.putO hd _) hw'
  refine ⟨_, w, .inl ?_, this⟩
  rw [ha.exec hk]
  simp only [execOp, hxe, Sem.run_bind, hrun, Result.andThen_ok, Sem.run_pure, hlen]

/-- 'a[:]' of an array in a variable that isn't written any more. -/
theorem JL.cutArr {α : Type} {dst : Option Tmp} {T ty' E : TypeId} {x : Operand} {pos : String} {after : Array Edge} (f : Fl α) (xs : List α) (n j b : Nat) (bty : TypeId) (cells : List Value) (sh : Bool)
    (hT : X.P.underlying T = some (.array n E)) (hE : tySize X.P E = some f.sz)
    (hnext : JQ X (wpList X.P ops Q rest) (upO ρ dst (.slice (some ⟨b, 0, none⟩) xs.length xs.length)) (Δ ++ [At.rd (some ⟨b, 0, none⟩) xs.length f.kd xs sh]))
    (hj : Δ[j]? = some (At.cst b bty cells sh) := by kernel_rfl) (hx : known ρ x = true := by kernel_rfl) (hd : okd X.n dst = true := by kernel_rfl) (hxe : ev ρ x = .pointer (some ⟨b, 0, none⟩) := by kernel_rfl) (hn : n = xs.length := by kernel_rfl) (hc : xs.flatMap f.enc = cells := by kernel_rfl) :
    JQ X (wpList X.P ops Q (⟨dst, .slice T x none none none, ty', pos, after, none⟩ :: rest)) ρ Δ := by
  refine JL.step rfl fun a w ha hw => ?_
  have hat := hw.sat _ (List.mem_of_getElem? hj)
  subst hn
  have hrun : (Instr.sliceAt T (.pointer (some ⟨b, 0, none⟩)) none none none).run X.P w = .ok (.slice (some ⟨b, 0, none⟩) xs.length xs.length) w := by
    unfold Instr.sliceAt
    simp [run_underlying hT, Instr.sureAddr, Instr.sliceBounds, gw_sizeOf hE]
    intro _
    unfold Addr.add
    simp
  have hw' : Heap X.w0 X.F X.S (Δ ++ [At.rd (some ⟨b, 0, none⟩) xs.length f.kd xs sh]) w := by
    refine hw.add (fun t ht => by simp at ht; subst ht; rfl) fun t ht => ?_
    simp at ht
    subst ht
    exact ⟨Nat.le_refl _, .inr ⟨b, 0, cells.toArray, bty, (0, 0), cells, rfl, hat.1, hat.2, by simp, Reps.flat.2 hc.symm⟩⟩
  have := hnext _ _ (ha.putO hd _) hw'
  refine ⟨_, w, .inl ?_, this⟩
  simp only [execOp, ha.eval hx, hxe, Option.map_none, Sem.run_bind, hrun, Result.andThen_ok, Sem.run_pure]

/-! ### A store into a row of one's own -/
theorem JL.storeEl {α : Type} [Inhabited α] {dst : Option Tmp} {x y : Operand} {ty ty' E : TypeId} {pos : String} {after : Array Edge} {k : Nat} (g o off c j : Nat) (f : Fl α) (xs : List α) (i : Int) (sh : Bool) (y' : α)
    (h0 : 0 ≤ i) (h1 : i < (xs.length : Int)) (hk : tySize X.P ty = some k)
    (h : JQ X (wpList X.P ops Q rest) (upO ρ dst undef) (Δ.set j (At.row (some ⟨g, o, none⟩) c E f.kd (xs.set i.toNat y') sh)))
    (hj : Δ[j]? = some (At.row (some ⟨g, o, none⟩) c E f.kd xs sh) := by kernel_rfl) (hx : known ρ x = true := by kernel_rfl) (hy : known ρ y = true := by kernel_rfl) (he : ev ρ x = .pointer (some ⟨g, o + i.toNat * f.sz + off, none⟩) := by kernel_rfl) (hd : okd X.n dst = true := by kernel_rfl)
    (hs : (ev ρ y).cells.toList.length = k := by kernel_rfl) (hall : (ev ρ y).cells.toList.all (·.oneCell') = true := by kernel_rfl) (hfit : Nat.ble (off + k) f.sz = true := by kernel_rfl)
    (henc : (f.enc (ix xs i)).take off ++ (ev ρ y).cells.toList ++ (f.enc (ix xs i)).drop (off + k) = f.enc y' := by kernel_rfl) :
    JQ X (wpList X.P ops Q (⟨dst, .store ty x y, ty', pos, after, none⟩ :: rest)) ρ Δ := by
  refine JL.step rfl fun a w ha hw => ?_
  obtain ⟨hsp, hsp'⟩ := set_split (At.row (some ⟨g, o, none⟩) c E f.kd (xs.set i.toNat y') sh) hj
  obtain ⟨cells, ⟨hl, ho⟩, hr⟩ := hw.sat _ (List.mem_of_getElem? hj)
  rcases ho with ⟨hv, hn0⟩ | ⟨g', cap, cur, hv, h3, h4, h5, h6, h7, h8⟩
  · rw [hn0] at h1; omega
  injection hv with hv _ hc
  injection hv with hv
  injection hv with hg ho _
  subst hg ho hc
  have hcells := Reps.flat.1 hr
  have hfit' := Nat.le_of_ble_eq_true hfit
  have hlt : i.toNat < xs.length := by omega
  have hin : i.toNat * f.sz + f.sz ≤ xs.length * f.sz := by rw [← Nat.succ_mul]; exact Nat.mul_le_mul_right _ hlt
  have hcap : xs.length * f.sz ≤ c * f.sz := Nat.mul_le_mul_right _ h5
  have h7' : cur.size = c * f.sz := h7
  have hpos : 0 + i.toNat * f.sz + off + k ≤ cur.size := by omega
  have hrun := gw_store (P := X.P) (v := ev ρ y) h4 hk (by simpa using hs) hpos (fun u hu => List.all_eq_true.1 hall u hu)
  refine ⟨undef, w.setRow g (cur.toList.take (0 + i.toNat * f.sz + off) ++ (ev ρ y).cells.toList ++ cur.toList.drop (0 + i.toNat * f.sz + off + k)).toArray, .inr ⟨?_, rfl⟩, h _ _ (ha.putO hd undef) ?_⟩
  · simp only [execOp, ha.eval hx, ha.eval hy, he, Instr.storeAt, Instr.sureAddr, pure_bind, Sem.run_bind, hrun, Result.andThen_ok, Sem.run_pure]
  · rw [hsp']
    rw [hsp] at hw
    refine hw.write X.hF rfl rfl rfl (Nat.le_refl _) (by simp) (fun b hb hne => setRow_other w g b _ fun e => hne (by rw [e]; rfl)) (fun b hb => .inl hb) ?_
    intro _
    have hxs : (xs.set i.toNat y').length = xs.length := List.length_set
    refine ⟨(xs.set i.toNat y').flatMap f.enc, ⟨?_, .inr ⟨g, c, _, by rw [hxs], Nat.zero_le _, setRow_heap w g _ _ E (0, 0) h4, by rw [hxs]; exact h5, h6, ?_, ?_⟩⟩, Reps.flat.2 rfl⟩
    · exact (Reps.flat (w := w) (S := fun _ => True)).2 rfl |>.length
    · show (cur.toList.take (0 + i.toNat * f.sz + off) ++ (ev ρ y).cells.toList ++ cur.toList.drop (0 + i.toNat * f.sz + off + k)).length = c * f.sz
      have h9 : cur.toList.length = cur.size := Array.length_toList
      simp only [List.length_append, List.length_take, List.length_drop, hs]
      omega
    · rw [hxs]
      have hset := Reps.set (f := f) (w := w) (S := fun _ => True) (y := y') (xs := xs) i.toNat hlt
      have hE : ((xs.flatMap f.enc).drop (i.toNat * f.sz)).take f.sz = f.enc (ix xs i) := by
        have := Reps.at_ ((Reps.flat (w := w) (S := fun _ => True)).2 (rfl : xs.flatMap f.enc = xs.flatMap f.enc)) (ix_some h0 h1)
        exact this
      rw [hset, ← henc]
      have hcl : cells.length = xs.length * f.sz := hl
      have hC : (cur.toList.take (xs.length * f.sz)) = xs.flatMap f.enc := by rw [← hcells]; exact h8
      show List.take (xs.length * f.sz) (cur.toList.take (0 + i.toNat * f.sz + off) ++ (ev ρ y).cells.toList ++ cur.toList.drop (0 + i.toNat * f.sz + off + k)) = _
      rw [← hE]
      have hflen : (xs.flatMap f.enc).length = xs.length * f.sz := by rw [← hcells]; exact hl
      obtain ⟨tail, htail⟩ : ∃ tail, cur.toList = xs.flatMap f.enc ++ tail := ⟨cur.toList.drop (xs.length * f.sz), by rw [← hC, List.take_append_drop]⟩
      rw [htail]
      generalize xs.flatMap f.enc = C at *
      have e1 : (C ++ tail).take (0 + i.toNat * f.sz + off) = C.take (i.toNat * f.sz) ++ ((C.drop (i.toNat * f.sz)).take f.sz).take off := by
        rw [List.take_append_of_le_length (by omega), Nat.zero_add, List.take_take, Nat.min_eq_left (by omega), List.take_add]
      have e2 : (C ++ tail).drop (0 + i.toNat * f.sz + off + k) = ((C.drop (i.toNat * f.sz)).take f.sz).drop (off + k) ++ C.drop (i.toNat * f.sz + f.sz) ++ tail := by
        rw [List.drop_append_of_le_length (by omega), Nat.zero_add, List.drop_take, List.drop_drop]
        congr 1
        have : C.drop (i.toNat * f.sz + off + k) = (C.drop (i.toNat * f.sz + (off + k))).take (f.sz - (off + k)) ++ (C.drop (i.toNat * f.sz + (off + k))).drop (f.sz - (off + k)) := by rw [List.take_append_drop, Nat.add_assoc]
        rw [this, List.drop_drop]
        congr 2
        omega
      rw [e1, e2]
      have hlen : (C.take (i.toNat * f.sz) ++ ((C.drop (i.toNat * f.sz)).take f.sz).take off ++ (ev ρ y).cells.toList ++ (((C.drop (i.toNat * f.sz)).take f.sz).drop (off + k) ++ C.drop (i.toNat * f.sz + f.sz))).length = xs.length * f.sz := by
        simp only [List.length_append, List.length_take, List.length_drop, hs]
        omega
      rw [← List.append_assoc, ← hlen, List.take_left]
      simp only [List.append_assoc]

end
end Go.GW
