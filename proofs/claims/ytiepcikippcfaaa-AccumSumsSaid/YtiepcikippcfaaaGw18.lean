/-
  Gw18: parts of a row of one's own, and 'copy' into them.
-/
import Derived.Test.YtiepcikippcfaaaGw17
import Derived.Laws.CopyRow
set_option linter.unusedVariables false
set_option linter.unusedSimpArgs false
namespace Go.GW
open Go

section
variable {X : Ctx} {ρ : Env} {Δ : List At} {Q : Exit → Act → World → Prop} {ops : Array Oper} {rest : List Oper}
theorem elems_win {α : Type} {t : At} {A A' : Option Addr} {d : Kd α} {xs : List α} (l h : Nat) (hel : Elems t A d xs) (hle : h ≤ xs.length) (hA' : A' = A.map (·.add (l * d.sz)) ∨ (xs.take h).drop l = []) : Elems t A' d ((xs.take h).drop l) := by
  intro w S hs
  rcases hA' with hA' | h0
  · rcases hel w S hs with h0 | ⟨g, o, cur, cty, fr, cells, hA, hg, hcut, hr⟩
    · left; subst h0; simp
    · right
      have h5 := (hr.take h).drop l
      have hcl := hr.length
      have hl5 := h5.length
      refine ⟨g, o + l * d.sz, cur, cty, fr, _, ?_, hg, ?_, h5⟩
      · rw [hA', hA]; simp [addr_add]
      · have hlen : ((cells.take (h * d.sz)).drop (l * d.sz)).length = h * d.sz - l * d.sz := by
          rw [List.length_drop, List.length_take, hcl, Nat.min_eq_left (Nat.mul_le_mul_right _ hle)]
        rw [hlen]
        conv => rhs; rw [← hcut]
        rw [List.take_take, List.drop_take, List.drop_drop, Nat.min_eq_left (by rw [hcl]; exact Nat.mul_le_mul_right _ hle)]
  · exact .inl h0
theorem win_or {α : Type} {A X : Option Addr} {xs : List α} {l h : Nat} (hA : A = X ∨ (xs.take h).drop l = []) (hh : h ≤ xs.length) : A = X ∨ h - l = 0 := by
  rcases hA with h1 | h1
  · exact .inl h1
  · right
    have := congrArg List.length h1
    simp only [List.length_drop, List.length_take, List.length_nil] at this
    omega
theorem win_len {α : Type} {xs : List α} {l h : Nat} (hh : h ≤ xs.length) : ((xs.take h).drop l).length = h - l := by
  rw [List.length_drop, List.length_take]; omega
theorem win0 (A : Option Addr) (n : Nat) : A = A.map (·.add (0 * n)) := by
  cases A with
  | none => rfl
  | some a => simp [Addr.add]
theorem caple_row {α : Type} (A : Option Addr) (c E : Nat) (d : Kd α) (xs : List α) (sh : Bool) : ∀ w S, (At.row A c E d xs sh).sat w S → xs.length ≤ c := by
  intro w S hs
  obtain ⟨cells, ⟨_, ho⟩, _⟩ := hs
  rcases ho with ⟨_, h0⟩ | ⟨g', cap, cur, hv, _, _, h5, _⟩
  · have h : xs.length = 0 := h0
    omega
  · injection hv with _ _ hc
    subst hc
    exact h5
theorem caple_rd {α : Type} (A : Option Addr) (c : Nat) (d : Kd α) (xs : List α) (sh : Bool) : ∀ w S, (At.rd A c d xs sh).sat w S → xs.length ≤ c := fun w S h => h.1
theorem JQ.capLe' {K : Act → World → Prop} {t : At} {n c : Nat} (i : Nat) (hc : ∀ w S, t.sat w S → n ≤ c) (h : n ≤ c → JQ X K ρ Δ) (hi : Δ[i]? = some t := by kernel_rfl) : JQ X K ρ Δ :=
  fun a w ha hw => h (hc _ _ (hw.sat _ (List.mem_of_getElem? hi))) a w ha hw
/-- A part of a slice, told by the same atom. -/
theorem givesW_cutWin {dst : Option Tmp} {T ty' E : TypeId} {x : Operand} {lo hi mx : Option Operand} {pos : String} {after : Array Edge} (l h m : Nat) (A : Option Addr) (c n sz : Nat)
    (hT : X.P.underlying T = some (.slice E)) (hE : tySize X.P E = some sz)
    (hm : Bnd (mx.map (ev ρ)) c m) (hh : Bnd (hi.map (ev ρ)) n h) (hl : Bnd (lo.map (ev ρ)) 0 l) (hmh : mx = none ∨ hi ≠ none) (h1 : l ≤ h) (h2 : h ≤ m) (h3 : m ≤ c) (n' : Nat) (hn : n' = h - l)
    (hk : knows ρ ⟨dst, .slice T x lo hi mx, ty', pos, after, none⟩ = true := by kernel_rfl) (hxe : ev ρ x = .slice A n c := by kernel_rfl) :
    GivesW X ρ ⟨dst, .slice T x lo hi mx, ty', pos, after, none⟩ (.slice (if m = l then A else A.map (·.add (l * sz))) n' (m - l)) := by
  intro a w ha
  subst hn
  have hmh' : mx.map (ev ρ) = none ∨ hi.map (ev ρ) ≠ none := by
    rcases hmh with h | h
    · exact .inl (by rw [h]; rfl)
    · refine .inr fun e => h (by simpa using e)
  have hrun := gw_slice (P := X.P) (A := A) (n := n) hT hE hm hh hl hmh' h1 h2 h3 w
  rw [ha.exec hk]
  simp only [execOp, hxe, Sem.run_bind, hrun, Result.andThen_ok, Sem.run_pure]
theorem gives_cutWin {dst : Option Tmp} {T ty' E : TypeId} {x : Operand} {lo hi mx : Option Operand} {pos : String} {after : Array Edge} (l h m : Nat) (A : Option Addr) (c n sz : Nat)
    (hT : X.P.underlying T = some (.slice E)) (hE : tySize X.P E = some sz)
    (hm : Bnd (mx.map (ev ρ)) c m) (hh : Bnd (hi.map (ev ρ)) n h) (hl : Bnd (lo.map (ev ρ)) 0 l) (hmh : mx = none ∨ hi ≠ none) (h1 : l ≤ h) (h2 : h ≤ m) (h3 : m ≤ c) (n' : Nat) (hn : n' = h - l)
    (hk : knows ρ ⟨dst, .slice T x lo hi mx, ty', pos, after, none⟩ = true := by kernel_rfl) (hxe : ev ρ x = .slice A n c := by kernel_rfl) :
    Gives X ρ Δ ⟨dst, .slice T x lo hi mx, ty', pos, after, none⟩ (.slice (if m = l then A else A.map (·.add (l * sz))) n' (m - l)) :=
  fun a w ha _ => givesW_cutWin l h m A c n sz hT hE hm hh hl hmh h1 h2 h3 n' hn hk hxe a w ha
theorem cutWin_or {α : Type} {A : Option Addr} {xs : List α} {l h m sz : Nat} (h1 : l ≤ h) (h2 : h ≤ m) (h2' : h ≤ xs.length) : (if m = l then A else A.map (·.add (l * sz))) = A.map (·.add (l * sz)) ∨ (xs.take h).drop l = [] := by
  have hlen : ((xs.take h).drop l).length = h - l := by rw [List.length_drop, List.length_take]; omega
  by_cases hml : m = l
  · exact .inr (List.eq_nil_of_length_eq_zero (by rw [hlen]; omega))
  · exact .inl (by rw [if_neg hml])
theorem QL.capLe' {K : Act → Prop} {al : List Nat} {kk : Nat} {t : At} {n c : Nat} (i : Nat) (hc : ∀ w S, t.sat w S → n ≤ c) (h : n ≤ c → QL X K ops al kk rest ρ Δ) (hi : Δ[i]? = some t := by kernel_rfl) : QL X K ops al kk rest ρ Δ := by
  intro a ha hw
  obtain ⟨w, hw'⟩ := hw
  exact h (hc _ _ (hw'.sat _ (List.mem_of_getElem? hi))) a ha ⟨w, hw'⟩

/-- 'copy(row[l : l + n], ys)': the row behind it. -/
def cpy {α : Type} (xs : List α) (l n : Nat) (ys : List α) : List α := xs.take l ++ ys.take (min ys.length n) ++ xs.drop (l + min ys.length n)
theorem length_cpy {α : Type} (xs : List α) (l n : Nat) (ys : List α) (h : l + n ≤ xs.length) : (cpy xs l n ys).length = xs.length := by
  unfold cpy
  simp only [List.length_append, List.length_take, List.length_drop]
  omega
theorem cpy_nil {α : Type} (xs : List α) (l n : Nat) (ys : List α) (h : min ys.length n = 0) : cpy xs l n ys = xs := by
  unfold cpy
  rw [h, List.take_zero, List.append_nil, Nat.add_zero, List.take_append_drop]
theorem put_part {cur nc : List Value} {N off : Nat} (h1 : off + nc.length ≤ N) (h2 : N ≤ cur.length) : (cur.take off ++ nc ++ cur.drop (off + nc.length)).take N = (cur.take N).take off ++ nc ++ (cur.take N).drop (off + nc.length) := by
  have hA : (cur.take off ++ nc).length = off + nc.length := by rw [List.length_append, List.length_take]; omega
  rw [List.take_append, List.take_of_length_le (by rw [hA]; exact h1), hA, List.take_take, Nat.min_eq_left (by omega), List.drop_take]
theorem gw_firstCells {P : Program} {w : World} {sz n k : Nat} {g o : Nat} {cur : Array Value} {cty : TypeId} {fr : Nat × Nat} {cells : List Value} (m c : Nat) (hg : w.heap[g]? = some (.cells cur cty fr)) (hcut : (cur.toList.drop o).take cells.length = cells) (hk : k * sz ≤ cells.length) :
    (Builtin.firstCells sz k (.slice (some ⟨g, o, none⟩) m c)).run P w = .ok (cells.take (k * sz)).toArray w := by
  have hl : (cells.take (k * sz)).length = k * sz := by rw [List.length_take]; omega
  have := run_firstCells_some (P := P) w sz k ⟨g, o, none⟩ m c (cells.take (k * sz)) hl (fun j v hj => by
    refine elems_cells (α := Unit) (f := ⟨0, fun _ => [], fun _ => rfl, fun _ v h => by cases h⟩) (xs := []) (S := fun _ => True) hg hcut j v ?_
    rw [List.getElem?_take] at hj
    split at hj
    · exact hj
    · cases hj)
  exact this
theorem JL.copy {α : Type} {dst : Option Tmp} {s x : Operand} {T T2 ty' : TypeId} {pos : String} {after : Array Edge} {A A2 : Option Addr} (A0 : Option Addr) {E : Nat} {f : Fl α} {xs ys : List α} {sh : Bool} {t2 : At} (i j l h nD c cD c2 : Nat)
    (hel2 : Elems t2 A2 f.kd ys) (hA : A = A0.map (·.add (l * f.kd.sz)) ∨ h - l = 0) (hlh : l ≤ h) (hh : h ≤ xs.length) (hn : nD = h - l)
    (hT : X.P.underlying T = some (.slice E)) (hE : tySize X.P E = some f.kd.sz)
    (hnext : JQ X (wpList X.P ops Q rest) (upO ρ dst (.int .i64 ((min ys.length (h - l) : Nat) : Int))) (Δ.set i (At.row A0 c E f.kd (cpy xs l (h - l) ys) sh)))
    (hi : Δ[i]? = some (At.row A0 c E f.kd xs sh) := by kernel_rfl) (hj : Δ[j]? = some t2 := by kernel_rfl)
    (hs : known ρ s = true := by kernel_rfl) (hx : known ρ x = true := by kernel_rfl) (hse : ev ρ s = .slice A nD cD := by kernel_rfl) (hxe : ev ρ x = .slice A2 ys.length c2 := by kernel_rfl) (hd : okd X.n dst = true := by kernel_rfl) :
    JQ X (wpList X.P ops Q (⟨dst, .call ⟨.builtin .copy, #[s, x], #[T, T2]⟩, ty', pos, after, none⟩ :: rest)) ρ Δ := by
  refine JL.step rfl fun a w ha hw => ?_
  subst hn
  obtain ⟨k, hk⟩ : ∃ k, k = min ys.length (h - l) := ⟨_, rfl⟩
  have hexec : ∀ v w', (Builtin.copy_ #[T, T2] ty' #[.slice A (h - l) cD, .slice A2 ys.length c2]).run X.P w = .ok v w' → (execOp a.eval ⟨dst, .call ⟨.builtin .copy, #[s, x], #[T, T2]⟩, ty', pos, after, none⟩).run X.P w = .ok (.value v) w' := by
    intro v w' hr
    simp only [execOp, resolve, invoke, builtin, ha.eval hs, ha.eval hx, hse, hxe, pure_bind, List.map_toArray, List.map_cons, List.map_nil, Sem.run_bind, hr, Result.andThen_ok, Sem.run_pure]
  by_cases hk0 : k = 0
  · have hmin : min ys.length (h - l) = 0 := by omega
    have hmin' : ys.length.min (h - l) = 0 := hmin
    have hset : Δ.set i (At.row A0 c E f.kd (cpy xs l (h - l) ys) sh) = Δ := by
      rw [cpy_nil _ _ _ _ hmin]
      obtain ⟨hsp, hsp'⟩ := set_split (At.row A0 c E f.kd xs sh) hi
      rw [hsp', ← hsp]
    rw [hset, hmin] at hnext
    refine ⟨.int .i64 ((0 : Nat) : Int), w, .inl (hexec _ _ ?_), hnext _ _ (ha.putO hd _) hw⟩
    cases A <;> cases A2 <;> simp [Builtin.copy_, run_underlying hT, gw_sizeOf hE, Builtin.lenOf, hmin, hmin', Builtin.firstCells, storeCells, loadCells, loadCellsFrom, goInt]
  · have hyl : 0 < ys.length := by omega
    rcases hel2 w _ (hw.sat t2 (List.mem_of_getElem? hj)) with h0 | ⟨g2, o2, cur2, cty2, fr2, cells2, hA2, hg2, hcut2, hreps2⟩
    · subst h0; simp at hyl
    subst hA2
    obtain ⟨hsp, hsp'⟩ := set_split (At.row A0 c E f.kd (cpy xs l (h - l) ys) sh) hi
    obtain ⟨cells, ⟨hl', ho⟩, hr⟩ := hw.sat _ (List.mem_of_getElem? hi)
    rcases ho with ⟨hv, hn0⟩ | ⟨b, cap, cur, hv, h3, h4, h5, h6, h7, h8⟩
    · have hn0' : xs.length = 0 := hn0
      omega
    injection hv with hv _ hc
    subst hv hc
    have hA' : A = some ⟨b, 0 + l * f.kd.sz, none⟩ := by
      rcases hA with hA | hA
      · rw [hA]; simp [addr_add]
      · omega
    have hc2 := hreps2.length
    have hks : k * f.kd.sz ≤ cells2.length := by rw [hc2]; exact Nat.mul_le_mul_right _ (by omega)
    have hf := gw_firstCells (P := X.P) (sz := f.kd.sz) (n := 0) (k := k) ys.length c2 hg2 hcut2 hks
    have hncl : (cells2.take (k * f.kd.sz)).length = k * f.kd.sz := by rw [List.length_take]; omega
    have hoff : l * f.kd.sz + k * f.kd.sz ≤ xs.length * f.kd.sz := by rw [← Nat.add_mul]; exact Nat.mul_le_mul_right _ (by omega)
    have hcap : xs.length * f.kd.sz ≤ c * f.kd.sz := Nat.mul_le_mul_right _ h5
    have hst := run_storeCells_at X.P b (0 + l * f.kd.sz) E (cells2.take (k * f.kd.sz)) 0 cur w h4 (by rw [hncl]; omega) (fun v hv => hreps2.one v (List.mem_of_mem_take hv))
    rw [hncl] at hst
    simp only [Nat.zero_add, Nat.add_zero] at hst
    refine ⟨.int .i64 ((min ys.length (h - l) : Nat) : Int), _, .inl (hexec _ (w.setRow b (cur.toList.take (l * f.kd.sz) ++ cells2.take (k * f.kd.sz) ++ cur.toList.drop (l * f.kd.sz + k * f.kd.sz)).toArray) ?_), hnext _ _ (ha.putO hd _) ?_⟩
    · have hm : ys.length.min (h - l) = k := hk.symm
      simp only [Builtin.copy_, List.getElem?_toArray, List.getElem?_cons_zero, List.getElem?_cons_succ, Sem.run_bind, run_underlying hT, Result.andThen_ok, Builtin.lenOf, Sem.run_pure, gw_sizeOf hE, hm, hf, hA', Nat.zero_add, hst, goInt]
    · rw [hsp']
      rw [hsp] at hw
      refine hw.write X.hF rfl rfl rfl (Nat.le_refl _) (by simp) (fun b' hb hne => setRow_other w b b' _ fun e => hne (by rw [e]; rfl)) (fun b' hb => .inl hb) ?_
      intro _
      have hxs : (cpy xs l (h - l) ys).length = xs.length := length_cpy xs l (h - l) ys (by omega)
      have hR : Reps f.kd w (fun _ => True) (cpy xs l (h - l) ys) (cells.take (l * f.kd.sz) ++ cells2.take (k * f.kd.sz) ++ cells.drop ((l + k) * f.kd.sz)) := by
        unfold cpy
        rw [← hk]
        exact Reps.append ((hr.drop (l + k)).anywhere) (Reps.append (hreps2.take k).anywhere (hr.take l).anywhere)
      refine ⟨_, ⟨hR.length, .inr ⟨b, c, _, by rw [hxs], Nat.zero_le _, setRow_heap w b _ _ E (0, 0) h4, by rw [hxs]; exact h5, h6, ?_, ?_⟩⟩, hR.anywhere⟩
      · have h9 : cur.toList.length = cur.size := Array.length_toList
        simp only [List.size_toArray, List.length_append, List.length_take, List.length_drop]
        omega
      · rw [hxs]
        have h9 : cur.toList.length = cur.size := Array.length_toList
        have hp := put_part (cur := cur.toList) (nc := cells2.take (k * f.kd.sz)) (N := xs.length * f.kd.sz) (off := l * f.kd.sz) (by rw [hncl]; omega) (by omega)
        rw [hncl] at hp
        show List.take (xs.length * f.kd.sz) (cur.toList.take (l * f.kd.sz) ++ cells2.take (k * f.kd.sz) ++ cur.toList.drop (l * f.kd.sz + k * f.kd.sz)) = _
        rw [hp, h8, Nat.add_mul]
end
end Go.GW
