/-
  Gw4: rows that are made, appended to, written and cut; the body's end.
-/
import Derived.Test.YtiepcikippcfaaaGw3
import Derived.IntWalk
set_option linter.unusedVariables false
set_option linter.unusedSimpArgs false
namespace Go.GW
open Go

/-! ### The body's end -/
section
variable {X : Ctx} {ρ : Env} {Δ : List At}

def ResV (X : Ctx) (ρ : Env) (Δ : List At) : List ResultVar → List Value → Prop
  | [], [] => True
  | .tmp t :: rs, v :: vs => lk ρ t = some v ∧ ResV X ρ Δ rs vs
  | .cell p ty :: rs, v :: vs => (∃ (b i : Nat) (t : At) (cells : List Value), lk ρ p = some (.pointer (some ⟨b, 0, none⟩)) ∧ Δ[i]? = some t ∧ Holds t b cells ∧
      ((tyAgg X.P ty = some true ∧ tySize X.P ty = some cells.length ∧ v = .agg cells.toArray) ∨ (tyAgg X.P ty = some false ∧ cells[0]? = some v))) ∧ ResV X ρ Δ rs vs
  | _, _ => False

theorem ResV.run {a : Act} {w : World} (ha : Sees X.n X.ds ρ a) (hw : Heap X.w0 X.F X.S Δ w) (f : ResultVar → Sem Value) (hf : ∀ u, f (.tmp u) = pure (a.tmps.getD u undef)) (hc : ∀ p t, f (.cell p t) = (do loadVar t (← asAddr (a.tmps.getD p undef)))) :
    ∀ (rs : List ResultVar) (vs : List Value), ResV X ρ Δ rs vs → (rs.mapM f).run X.P w = .ok vs w
  | [], [], _ => by simp
  | [], _ :: _, h => h.elim
  | .tmp _ :: _, [], h => h.elim
  | .cell _ _ :: _, [], h => h.elim
  | .tmp t :: rs, v :: vs, h => by
    have h1 := (ha.at_ t v h.1).2
    have h2 := ResV.run ha hw f hf hc rs vs h.2
    simp [List.mapM_cons, hf, h2, h1]
  | .cell p ty :: rs, v :: vs, h => by
    obtain ⟨⟨b, i, t, cells, h1, h2, h3, h4⟩, h5⟩ := h
    have hp := (ha.at_ p _ h1).2
    obtain ⟨bty, fr, hg⟩ := h3 w _ (hw.sat t (List.mem_of_getElem? h2))
    have hl : (loadVar ty ⟨b, 0, none⟩).run X.P w = .ok v w := by
      rcases h4 with ⟨h6, h7, rfl⟩ | ⟨h6, h7⟩
      · have := gw_loadn (P := X.P) (off := 0) hg h6 h7 (by simp)
        simpa using this
      · exact gw_load1 (P := X.P) hg h6 (by simpa using h7)
    have h2' := ResV.run ha hw f hf hc rs vs h5
    rw [List.mapM_cons, hc, hp]
    simp [asAddr, hl, h2']

def packed : List Value → Value
  | [v] => v
  | vs => .tuple vs.toArray

theorem results_run {fn : Func} {rs : List ResultVar} {vs : List Value} {a : Act} {w : World} (ha : Sees X.n X.ds ρ a) (hw : Heap X.w0 X.F X.S Δ w) (hr : fn.results = rs.toArray) (hv : ResV X ρ Δ rs vs) : (results fn a.tmps).run X.P w = .ok (packed vs) w := by
  unfold results
  rw [hr, List.mapM_toArray]
  simp only [Sem.run_bind, Sem.run_map]
  rw [ResV.run ha hw _ (fun _ => rfl) (fun _ _ => rfl) rs vs hv]
  match vs with
  | [] => simp [packed]
  | [v] => simp [packed]
  | v :: u :: vs => simp [packed]

theorem JQ.done {P : Program} {fn : Func} {n : Nat} {w0 : World} {own : List At} {S : Nat → Prop} {sh : Bool} {post : Value → List At → Prop} {e : Exit} {rs : List ResultVar} {vs : List Value} {v : Value}
    (m : List Bool) (he : e = .normal ∨ e = .ret) (hr : fn.results = rs.toArray) (hv : ResV (ctx P n w0 own S) ρ Δ rs vs) (hp : packed vs = v) (hpost : post v (maskT m Δ)) (hsh : sh = true ∨ (maskT m Δ).all (fun t => !t.sh) = true) :
    JQ (ctx P n w0 own S) (bodyPost P fn (Owed w0 own S sh post) e) ρ Δ := by
  intro a w ha hw
  have hb : a.defers = [] ∧ ∃ v, (results fn a.tmps).run P w = .ok v w ∧ (Owed w0 own S sh post) (.returned v) w := by
    refine ⟨ha.defers, v, hp ▸ results_run (X := ctx P n w0 own S) ha hw hr hv, v, maskT m Δ, rfl, hpost, hw.mask m, fun hs t ht => ?_⟩
    rcases hsh with h | h
    · rw [h] at hs; cases hs
    · simpa using List.all_eq_true.1 h t ht
  rcases he with rfl | rfl
  · exact hb
  · exact hb
end

section
variable {X : Ctx} {ρ : Env} {Δ : List At} {Q : Exit → Act → World → Prop} {ops : Array Oper} {rest : List Oper}

/-! ### Rows that are made -/
/-- Elements are there as cells. -/
def Closes {α : Type} (X : Ctx) (Δ : List At) (d : Kd α) (xs : List α) (cells : List Value) (sh : Bool) : Prop :=
  ∀ w, Heap X.w0 X.F X.S Δ w → Reps d w (frz X.F (selS X.S sh) Δ w) xs cells
theorem closes_fl {α : Type} {f : Fl α} {xs : List α} {cells : List Value} {sh : Bool} (h : cells = xs.flatMap f.enc) : Closes X Δ f.kd xs cells sh := fun w _ => Reps.flat.2 h
theorem closes_nil {α : Type} {d : Kd α} {sh : Bool} : Closes X Δ d ([] : List α) [] sh := fun w _ => rfl
theorem closes_sl {α : Type} {d : Kd α} {ys : List α} {xss : List (List α)} {A : Option Addr} {c : Nat} {sh : Bool} {cells : List Value} (j : Nat) (s : Bool) (hs : s = true → sh = true) (h : Closes X Δ d.sl xss cells sh) (hj : Δ[j]? = some (At.rd A c d ys s) := by kernel_rfl) :
    Closes X Δ d.sl (ys :: xss) (.slice A ys.length c :: cells) sh := fun w hw => by
  have h1 := hw.sat _ (List.mem_of_getElem? hj)
  have h2 := (At.rd A c d ys s).mono (frz_mono (S' := selS X.S sh) (fun b hb => hb) fun b hb => ⟨hs hb.1, hb.2⟩) h1
  exact ⟨[.slice A ys.length c], cells, rfl, ⟨A, c, rfl, h2.1, h2.2⟩, h w hw⟩

theorem row_new {α : Type} {w : World} {E : TypeId} {d : Kd α} {xs : List α} {cells : List Value} {cap : Nat} {cur : List Value} {sh : Bool} {S' : Nat → Prop} (hl : cells.length = xs.length * d.sz) (hc : cur.length = cap * d.sz) (hle : xs.length ≤ cap) (hm : cap ≤ maxLen) (ht : cur.take cells.length = cells)
    (hr : Reps d (w.alloc (.cells cur.toArray E)) S' xs cells) : (At.row (some ⟨w.heap.size, 0, none⟩) cap E d xs sh).sat (w.alloc (.cells cur.toArray E)) S' :=
  ⟨cells, ⟨hl, .inr ⟨w.heap.size, cap, cur.toArray, rfl, Nat.zero_le _, heap_alloc_new w _, hle, hm, by simpa using hc, by rw [← hl]; simpa using ht⟩⟩, hr⟩

theorem JL.buildSl {α : Type} {dst : Option Tmp} {T ty' : TypeId} {n : Nat} {parts : Array (Nat × Operand)} {pos : String} {after : Array Edge} (E : TypeId) (d : Kd α) (xs : List α) (cells : List Value) (sh : Bool)
    (hc : Closes X Δ d xs cells sh)
    (h : ∀ b, JQ X (wpList X.P ops Q rest) (upO ρ dst (.slice (some ⟨b, 0, none⟩) n n)) (Δ ++ [At.row (some ⟨b, 0, none⟩) n E d xs sh]))
    (hn : Nat.beq n xs.length = true := by kernel_rfl) (hm : Nat.ble n 1000000 = true := by kernel_rfl) (hk : knows ρ ⟨dst, .buildSlice T n parts, ty', pos, after, none⟩ = true := by kernel_rfl) (hd : okd X.n dst = true := by kernel_rfl)
    (hr : ∀ w, (execOp (ev ρ) ⟨dst, .buildSlice T n parts, ty', pos, after, none⟩).run X.P w = .ok (.value (.slice (some ⟨w.heap.size, 0, none⟩) n n)) (w.alloc (.cells cells.toArray E)) := by intro _; kernel_rfl) :
    JQ X (wpList X.P ops Q (⟨dst, .buildSlice T n parts, ty', pos, after, none⟩ :: rest)) ρ Δ := by
  have hn' : n = xs.length := Nat.eq_of_beq_eq_true hn
  refine JL.newBlock E cells (fun b => At.row (some ⟨b, 0, none⟩) n E d xs sh) (fun b => .slice (some ⟨b, 0, none⟩) n n) hk hd hr (fun _ => rfl) ?_ h
  intro w hw S' hS
  have hreps := hc w hw
  have hl := hreps.length
  have hm' := Nat.le_of_ble_eq_true hm
  refine row_new (cells := cells) hl (by rw [hl, hn']) (by omega) (by simp only [maxLen]; omega) (by simp) (hreps.keep fun b hb => ⟨hS b hb, RowKit.Below.heap_alloc w _ b hb.1⟩)

def zrow (z : List Value) (n : Nat) : List Value := (List.replicate n z).flatten
theorem zrow_length (z : List Value) (n : Nat) : (zrow z n).length = n * z.length := by simp [zrow]
theorem zrow_eq (z : List Value) (n : Nat) : ((Array.range (n * z.length)).map (fun i => z.toArray[i % z.toArray.size]!)).toList = zrow z n := by
  apply List.ext_getElem
  · simp [zrow]
  · intro i h1 h2
    have hz : 0 < z.length := by
      rcases Nat.eq_zero_or_pos z.length with h | h
      · rw [zrow_length, h] at h2; simp at h2
      · exact h
    have hi : i < n * z.length := by rw [zrow_length] at h2; exact h2
    have hmod : i % z.length < z.length := Nat.mod_lt _ hz
    simp only [Array.toList_map, Array.toList_range, List.getElem_map, List.getElem_range, List.size_toArray]
    rw [getElem!_pos z.toArray (i % z.length) (by simpa using hmod)]
    clear h1
    induction n generalizing i with
    | zero => simp at hi
    | succ n ih =>
      simp only [zrow, List.replicate_succ, List.flatten_cons]
      rw [List.getElem_append]
      split
      · rename_i hlt
        simp [Nat.mod_eq_of_lt hlt]
      · rename_i hge
        have hge' : z.length ≤ i := Nat.le_of_not_lt hge
        have h3 : i - z.length < n * z.length := by rw [Nat.succ_mul] at hi; omega
        have := ih (i - z.length) (by rw [zrow_length]; exact h3) h3 (Nat.mod_lt _ hz)
        simp only [zrow] at this
        rw [← this]
        simp [Nat.mod_eq_sub_mod hge']

theorem gw_makeSlice {P : Program} {T E : TypeId} {z : Value} {l c : Int} {sz bytes : Nat} (hT : P.underlying T = some (.slice E)) (hi : (P.info? E).map (fun i => (i.zero, i.size, i.bytes)) = some (some z, sz, bytes)) (hz : z.cells.size = sz)
    (h0 : 0 ≤ l) (h1 : l ≤ c) (h2 : c * bytes ≤ 281474976710656) (h3 : c ≤ 281474976710656) (w : World) :
    (Instr.makeSlice T (.int .i64 l) (.int .i64 c)).run P w = .ok (.slice (some ⟨w.heap.size, 0, none⟩) l.toNat c.toNat) (w.alloc (.cells (zrow z.cells.toList c.toNat).toArray E)) := by
  obtain ⟨i, hi1, hi2⟩ := Option.map_eq_some_iff.1 hi
  simp only [Prod.mk.injEq] at hi2
  obtain ⟨hz1, hz2, hz3⟩ := hi2
  have hwl : IntKind.i64.wrap l = l := IntWalk.i64_in l (by omega)
  have hwc : IntKind.i64.wrap c = c := IntWalk.i64_in c (by omega)
  have hzr : zrow z.cells.toList c.toNat = ((Array.range (c.toNat * sz)).map (fun j => z.cells[j % z.cells.size]!)).toList := by
    have := zrow_eq z.cells.toList c.toNat
    simp only [Array.length_toList, Array.toArray_toList, hz] at this ⊢
    exact this.symm
  rw [hzr]
  have hb2 : (bytes : Int) * c ≤ 281474976710656 := by rw [Int.mul_comm]; exact h2
  have hb3 : (bytes : Int) * l ≤ 281474976710656 := Int.le_trans (Int.mul_le_mul_of_nonneg_left h1 (by omega)) hb2
  by_cases hn : c.toNat * sz = 0
  · have e1 : ¬ l < 0 := by omega
    have e2 : ¬ c < 0 := by omega
    have e3 : ¬ c < l := by omega
    have e4 : ¬ (281474976710656 : Int) < bytes * c := by omega
    simp [Instr.makeSlice, run_underlying hT, asInt, asIntOf, typeInfo, hi1, hwl, hwc, hz3, sizeOf, hz2, zeroValue, hz1, hn, newRow, e1, e2, e3, e4]
    congr 2
    apply Array.ext'
    simp
  · have e1 : ¬ l < 0 := by omega
    have e2 : ¬ c < 0 := by omega
    have e3 : ¬ c < l := by omega
    have e4 : ¬ (281474976710656 : Int) < bytes * c := by omega
    simp [Instr.makeSlice, run_underlying hT, asInt, asIntOf, typeInfo, hi1, hwl, hwc, hz3, sizeOf, hz2, zeroValue, hz1, hn, newRow, e1, e2, e3, e4]
    congr 2
    apply Array.ext'
    simp

theorem Reps.zrow {α : Type} {d : Kd α} {w : World} {S : Nat → Prop} {x : α} {z : List Value} (h : d.rep w S x z) : ∀ n, Reps d w S (List.replicate n x) (zrow z n)
  | 0 => by simp [GW.zrow, Reps]
  | n + 1 => ⟨z, GW.zrow z n, by simp [GW.zrow, List.replicate_succ], h, Reps.zrow h n⟩

theorem zrow_take (z : List Value) {k n : Nat} (h : k ≤ n) : (zrow z n).take (k * z.length) = zrow z k := by
  obtain ⟨m, rfl⟩ : ∃ m, n = k + m := ⟨n - k, by omega⟩
  have : zrow z (k + m) = zrow z k ++ zrow z m := by simp [zrow, ← List.replicate_append_replicate]
  rw [this]
  exact List.take_left' (zrow_length z k)

/-- 'make([]T, l, c)'. -/
theorem JL.makeSl {α : Type} {dst : Option Tmp} {T ty' : TypeId} {xl xc : Operand} {pos : String} {after : Array Edge} {l c : Int} {bytes : Nat} {z : Value} (E : TypeId) (d : Kd α) (x : α)
    (hT : X.P.underlying T = some (.slice E)) (hi : (X.P.info? E).map (fun i => (i.zero, i.size, i.bytes)) = some (some z, d.sz, bytes)) (hx : ∀ w S, d.rep w S x z.cells.toList)
    (h0 : 0 ≤ l) (h1 : l ≤ c) (h2 : c * bytes ≤ 281474976710656) (h3 : c ≤ 281474976710656)
    (h : ∀ b, JQ X (wpList X.P ops Q rest) (upO ρ dst (.slice (some ⟨b, 0, none⟩) (List.replicate l.toNat x).length c.toNat)) (Δ ++ [At.row (some ⟨b, 0, none⟩) c.toNat E d (List.replicate l.toNat x) false]))
    (hl : known ρ xl = true := by kernel_rfl) (hc : known ρ xc = true := by kernel_rfl) (hle : ev ρ xl = .int .i64 l := by kernel_rfl) (hce : ev ρ xc = .int .i64 c := by kernel_rfl) (hd : okd X.n dst = true := by kernel_rfl) :
    JQ X (wpList X.P ops Q (⟨dst, .makeSlice T xl xc, ty', pos, after, none⟩ :: rest)) ρ Δ := by
  have hzs : z.cells.toList.length = d.sz := d.len (hx default (fun _ => False))
  refine JL.newBlock E (zrow z.cells.toList c.toNat) (fun b => At.row (some ⟨b, 0, none⟩) c.toNat E d (List.replicate l.toNat x) false) (fun b => .slice (some ⟨b, 0, none⟩) (List.replicate l.toNat x).length c.toNat) (by simp [knows, noSelect, Op.operands, hl, hc]) hd ?_ (fun _ => rfl) ?_ h
  · intro w
    have := gw_makeSlice (P := X.P) hT hi (by simpa using hzs) h0 h1 h2 h3 w
    simp only [execOp, hle, hce, Sem.run_bind, this, Result.andThen_ok, Sem.run_pure, List.length_replicate]
  · intro w hw S' hS
    refine row_new (cells := zrow z.cells.toList l.toNat) ?_ ?_ ?_ ?_ ?_ ?_
    · rw [zrow_length, hzs, List.length_replicate]
    · rw [zrow_length, hzs]
    · rw [List.length_replicate]; omega
    · simp only [maxLen]; omega
    · rw [zrow_length]
      exact zrow_take _ (by omega)
    · exact Reps.zrow (hx _ _) _

/-! ### append -/
theorem Reps.anywhere {α : Type} {f : Fl α} {w w' : World} {S S' : Nat → Prop} : ∀ {xs : List α} {cs : List Value}, Reps f.kd w S xs cs → Reps f.kd w' S' xs cs
  | [], _, h => h
  | _ :: _, _, ⟨c, r, e, h1, h2⟩ => ⟨c, r, e, h1, h2.anywhere⟩
theorem gw_append_zero {P : Program} (w : World) {T E : TypeId} {i : TypeInfo} (hT : P.underlying T = some (.slice E)) (hi : P.info? E = some i) (ty : TypeId) (A A2 : Option Addr) (n c c2 : Nat) (hle : n ≤ c) :
    (Builtin.append_ #[T, T] ty #[.slice A n c, .slice A2 0 c2]).run P w = .ok (.slice A n c) w := by
  cases A <;> cases A2 <;> simp [Builtin.append_, run_underlying hT, sizeOf, typeInfo, hi, Builtin.lenOf, Builtin.firstCells, hle, storeCells, loadCells, loadCellsFrom]

theorem JL.append {α : Type} {dst : Option Tmp} {s x : Operand} {T ty' : TypeId} {pos : String} {after : Array Edge} {A2 : Option Addr} {bytes : Nat} {E : TypeId} {d : Kd α} {ys : List α} {t : At} {z : Value} (sh sh' : Bool) (i j : Nat) (A : Option Addr) (c c2 : Nat) (xs : List α) (hel : Elems t A2 d ys)
    (hT : X.P.underlying T = some (.slice E)) (hinfo : (X.P.info? E).map (fun i => (i.zero, i.size, i.bytes)) = some (some z, d.sz, bytes)) 
    (hb : (xs.length + ys.length) * bytes ≤ 140737488355328) (hb2 : xs.length + ys.length ≤ 140737488355328) (hsh : sh = true → sh' = true) (hsh2 : (t.sh = true → sh' = true) ∨ ∃ f : Fl α, d = f.kd)
    (h : ∀ A' c', JQ X (wpList X.P ops Q rest) (upO ρ dst (.slice A' (xs ++ ys).length c')) (Δ.set i (At.row A' c' E d (xs ++ ys) sh')))
    (hzs : z.cells.size = d.sz := by kernel_rfl) (hz : Nat.ble 1 d.sz = true := by kernel_rfl) (hi : Δ[i]? = some (At.row A c E d xs sh) := by kernel_rfl) (hj : Δ[j]? = some t := by kernel_rfl)
    (hs : known ρ s = true := by kernel_rfl) (hx : known ρ x = true := by kernel_rfl) (hse : ev ρ s = .slice A xs.length c := by kernel_rfl) (hxe : ev ρ x = .slice A2 ys.length c2 := by kernel_rfl) (hd : okd X.n dst = true := by kernel_rfl) :
    JQ X (wpList X.P ops Q (⟨dst, .call ⟨.builtin .append, #[s, x], #[T, T]⟩, ty', pos, after, none⟩ :: rest)) ρ Δ := by
  refine JL.step rfl fun a w ha hw => ?_
  obtain ⟨ti, hi1, hi2⟩ := Option.map_eq_some_iff.1 hinfo
  simp only [Prod.mk.injEq] at hi2
  obtain ⟨hz1, hz2, hz3⟩ := hi2
  have hz' := Nat.le_of_ble_eq_true hz
  have hrow := hw.sat _ (List.mem_of_getElem? hi)
  have hexec : ∀ v w', (Builtin.append_ #[T, T] ty' #[.slice A xs.length c, .slice A2 ys.length c2]).run X.P w = .ok v w' → (execOp a.eval ⟨dst, .call ⟨.builtin .append, #[s, x], #[T, T]⟩, ty', pos, after, none⟩).run X.P w = .ok (.value v) w' := by
    intro v w' hr
    simp only [execOp, resolve, invoke, builtin, ha.eval hs, ha.eval hx, hse, hxe, pure_bind, List.map_toArray, List.map_cons, List.map_nil, Sem.run_bind, hr, Result.andThen_ok, Sem.run_pure]
  obtain ⟨hsp, hsp'⟩ := set_split (At.row A c E d (xs ++ ys) sh') hi
  rcases hel w _ (hw.sat t (List.mem_of_getElem? hj)) with h0 | ⟨g, o, cur, cty, fr, news, hA2, hg, hcut, hreps⟩
  · subst h0
    have hle : xs.length ≤ c := by
      obtain ⟨cells, ⟨hl, ho⟩, hr⟩ := hrow
      rcases ho with ⟨hv, hn0⟩ | ⟨g, cap, cur, hv, h3, h4, h5, h6, h7, h8⟩
      · omega
      · injection hv with _ _ hc; omega
    refine ⟨.slice A xs.length c, w, .inl (hexec _ _ (gw_append_zero w hT hi1 ty' A A2 xs.length c c2 hle)), ?_⟩
    have hw' : Heap X.w0 X.F X.S (Δ.set i (At.row A c E d (xs ++ []) sh')) w := by
      obtain ⟨hsp1, hsp2⟩ := set_split (At.row A c E d (xs ++ []) sh') hi
      rw [hsp2]
      rw [hsp1] at hw
      refine hw.write X.hF rfl rfl rfl (Nat.le_refl _) (Nat.le_refl _) (fun _ _ _ => rfl) (fun b hb => .inl hb) ?_
      intro hfz
      obtain ⟨cells, h1, h2⟩ := hw.sat (At.row A c E d xs sh) (by simp)
      have h3 := h2.keep (hfz _ _ hsh)
      have h4 := Reps.append (ys := ([] : List α)) (cs' := []) rfl h3
      exact ⟨cells ++ [], by simpa using h1, h4⟩
    have := h A c _ _ (ha.putO hd _) hw'
    simpa using this
  · subst hA2
    obtain ⟨cells, hown, hr⟩ := hrow
    have hnl := hreps.length
    have hnews : ∀ j u, news[j]? = some u → w.cell? ((⟨g, o, none⟩ : Addr).add j) = some u := by
      intro j u hu
      rw [addr_add, cell_of_row w g _ cur cty fr hg, ← Array.getElem?_toList]
      have h5 : (cur.toList.drop o)[j]? = some u := by
        rw [← hcut, List.getElem?_take] at hu
        split at hu
        · exact hu
        · cases hu
      rwa [List.getElem?_drop] at h5
    obtain ⟨v', w', hrun, hown', hgrow, _, hat⟩ := run_append_own_at (P := X.P) w 0 T ty' E ti z d.sz bytes hT hi1 hz1 hz2 hz3 hzs hz' (.slice A xs.length c) xs.length cells hown ⟨g, o, none⟩ ys.length c2 news hnl hnews hreps.one (by simp only [maxLen]; omega) hb (Nat.zero_le _)
    obtain ⟨A', c', rfl⟩ : ∃ A' c', v' = .slice A' (xs.length + ys.length) c' := by
      rcases hown'.2 with ⟨rfl, h0⟩ | ⟨g', cap', cur', rfl, _⟩
      · exact ⟨none, 0, by rw [h0]⟩
      · exact ⟨_, _, rfl⟩
    refine ⟨_, w', .inl (hexec _ _ hrun), ?_⟩
    have hlen : (xs ++ ys).length = xs.length + ys.length := List.length_append
    have hblk : (Value.slice A xs.length c).ownBlock = A.map (·.block) := by cases A <;> rfl
    have hblk' : (Value.slice A' (xs.length + ys.length) c').ownBlock = A'.map (·.block) := by cases A' <;> rfl
    have hw' : Heap X.w0 X.F X.S (Δ.set i (At.row A' c' E d (xs ++ ys) sh')) w' := by
      obtain ⟨hsp1, hsp2⟩ := set_split (At.row A' c' E d (xs ++ ys) sh') hi
      rw [hsp2]
      have hfull := hw
      rw [hsp1] at hw
      refine hw.write X.hF hgrow.os hgrow.tape hgrow.output (run_drawn _ _ _ _ hrun) hgrow.size (fun b hb hne => hgrow.block b hb ?_) (fun b hb => ?_) ?_
      · rw [hblk]
        exact fun e => hne e.symm
      · rw [hblk, hblk'] at hat
        rcases hat with hat | hat
        · refine .inl ?_
          have hb' : A'.map (·.block) = some b := hb
          show A.map (·.block) = some b
          rw [← hat]
          exact hb'
        · refine .inr ?_
          have hb' : A'.map (·.block) = some b := hb
          rw [hat] at hb'
          injection hb' with hb'
          refine ⟨by omega, ?_⟩
          rcases hown'.2 with ⟨hv, _⟩ | ⟨g', cap', cur', hv, _, hh, _⟩
          · injection hv with hv
            rw [hv] at hat
            cases hat
          · injection hv with hv
            rw [hv] at hat
            simp only [Option.map_some, Option.some.injEq] at hat
            have := (Array.getElem?_eq_some_iff.1 hh).1
            omega
      · intro hfz
        refine ⟨cells ++ news, by rw [hlen]; exact hown', Reps.append ?_ ?_⟩
        · rcases hsh2 with hsh2 | ⟨f, rfl⟩
          · refine hreps.keep fun b hb => ?_
            rw [hsp1] at hb
            exact hfz _ _ hsh2 b hb
          · exact hreps.anywhere
        · refine hr.keep fun b hb => ?_
          rw [hsp1] at hb
          exact hfz _ _ hsh b hb
    have := h A' c' _ _ (ha.putO hd _) hw'
    rw [hlen] at this
    exact this

end
end Go.GW
