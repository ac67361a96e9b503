/-
  Gw17: append to a slice that is full: what was there stays, and the row is a new one.
-/
import Derived.Test.YtiepcikippcfaaaGw16
set_option linter.unusedVariables false
set_option linter.unusedSimpArgs false
namespace Go.GW
open Go

section
variable {X : Ctx} {ρ : Env} {Δ : List At} {Q : Exit → Act → World → Prop} {ops : Array Oper} {rest : List Oper}
theorem elems_cells {α : Type} {f : Fl α} {xs : List α} {w : World} {g o : Nat} {cur : Array Value} {cty : TypeId} {fr : Nat × Nat} {cells : List Value} {S : Nat → Prop} (hg : w.heap[g]? = some (.cells cur cty fr)) (hcut : (cur.toList.drop o).take cells.length = cells) :
    ∀ j u, cells[j]? = some u → w.cell? ((⟨g, o, none⟩ : Addr).add j) = some u := by
  intro j u hu
  rw [addr_add, cell_of_row w g _ cur cty fr hg, ← Array.getElem?_toList]
  have h5 : (cur.toList.drop o)[j]? = some u := by
    rw [← hcut, List.getElem?_take] at hu
    split at hu
    · exact hu
    · cases hu
  rwa [List.getElem?_drop] at h5
theorem JL.appendFull {α : Type} {dst : Option Tmp} {s x : Operand} {T ty' : TypeId} {pos : String} {after : Array Edge} {A A2 : Option Addr} {bytes : Nat} {E : TypeId} {f : Fl α} {xs ys : List α} {t1 t2 : At} {z : Value} (i j c c2 : Nat) (hel1 : Elems t1 A f.kd xs) (hel2 : Elems t2 A2 f.kd ys)
    (hT : X.P.underlying T = some (.slice E)) (hinfo : (X.P.info? E).map (fun i => (i.zero, i.size, i.bytes)) = some (some z, f.kd.sz, bytes))
    (hb : (xs.length + ys.length) * bytes ≤ 140737488355328) (hb2 : xs.length + ys.length ≤ 140737488355328)
    (h : ∀ A' c', JQ X (wpList X.P ops Q rest) (upO ρ dst (.slice A' (xs ++ ys).length c')) (Δ ++ [At.row A' c' E f.kd (xs ++ ys) false]))
    (hfull : Nat.ble (c + 1) (xs.length + ys.length) = true := by kernel_rfl) (hx1 : Nat.ble 1 xs.length = true := by kernel_rfl) (hy1 : Nat.ble 1 ys.length = true := by kernel_rfl)
    (hzs : z.cells.size = f.kd.sz := by kernel_rfl) (hi : Δ[i]? = some t1 := by kernel_rfl) (hj : Δ[j]? = some t2 := by kernel_rfl)
    (hs : known ρ s = true := by kernel_rfl) (hx : known ρ x = true := by kernel_rfl) (hse : ev ρ s = .slice A xs.length c := by kernel_rfl) (hxe : ev ρ x = .slice A2 ys.length c2 := by kernel_rfl) (hd : okd X.n dst = true := by kernel_rfl) :
    JQ X (wpList X.P ops Q (⟨dst, .call ⟨.builtin .append, #[s, x], #[T, T]⟩, ty', pos, after, none⟩ :: rest)) ρ Δ := by
  refine JL.step rfl fun a w ha hw => ?_
  have hfull := Nat.le_of_ble_eq_true hfull
  have hx1 := Nat.le_of_ble_eq_true hx1
  have hy1 := Nat.le_of_ble_eq_true hy1
  obtain ⟨ti, hi1, hi2⟩ := Option.map_eq_some_iff.1 hinfo
  simp only [Prod.mk.injEq] at hi2
  obtain ⟨hz1, hz2, hz3⟩ := hi2
  rcases hel1 w _ (hw.sat t1 (List.mem_of_getElem? hi)) with h0 | ⟨g, o, cur, cty, fr, cells, hA, hg, hcut, hreps⟩
  · subst h0; simp at hx1
  rcases hel2 w _ (hw.sat t2 (List.mem_of_getElem? hj)) with h0 | ⟨g2, o2, cur2, cty2, fr2, cells2, hA2, hg2, hcut2, hreps2⟩
  · subst h0; simp at hy1
  subst hA hA2
  have hr := run_append_grow (P := X.P) w T ty' E ti z hT hi1 hz1 ⟨g, o, none⟩ xs.length c cells (by rw [hz2]; exact hreps.length) (elems_cells (f := f) (xs := xs) (S := fun _ => True) hg hcut) ⟨g2, o2, none⟩ ys.length c2 cells2 (by rw [hz2]; exact hreps2.length) (elems_cells (f := f) (xs := xs) (S := fun _ => True) hg2 hcut2)
    (by omega) (by omega) (growslice_fits (by omega) (by rw [hz3]; exact hb))
  have hexec : (execOp a.eval ⟨dst, .call ⟨.builtin .append, #[s, x], #[T, T]⟩, ty', pos, after, none⟩).run X.P w = .ok (.value (.slice (some ⟨w.heap.size, 0, none⟩) (xs.length + ys.length) (grownCap w (xs.length + ys.length) c E)))
      (w.drew.alloc (.cells (cells.toArray ++ cells2.toArray ++ Builtin.zeroCells z.cells (grownCap w (xs.length + ys.length) c E - (xs.length + ys.length))) E)) := by
    simp only [execOp, resolve, invoke, builtin, ha.eval hs, ha.eval hx, hse, hxe, pure_bind, List.map_toArray, List.map_cons, List.map_nil, Sem.run_bind, hr, Result.andThen_ok, Sem.run_pure]
  refine ⟨_, _, .inl hexec, ?_⟩
  have hlen : (xs ++ ys).length = xs.length + ys.length := List.length_append
  have hge := grownCap_ge w (xs.length + ys.length) c E
  have hcm : grownCap w (xs.length + ys.length) c E ≤ maxLen := grownCap_le_maxLen w (xs.length + ys.length) c E (by simp only [maxLen]; omega)
  have := h (some ⟨w.heap.size, 0, none⟩) (grownCap w (xs.length + ys.length) c E) _ _ (ha.putO hd _) ((hw.drewN 1).alloc X.hF (.cells (cells.toArray ++ cells2.toArray ++ Builtin.zeroCells z.cells (grownCap w (xs.length + ys.length) c E - (xs.length + ys.length))) E) (At.row (some ⟨w.heap.size, 0, none⟩) (grownCap w (xs.length + ys.length) c E) E f.kd (xs ++ ys) false) rfl fun S' hS => ?_)
  · rw [hlen] at this
    exact this
  · have hl1 := hreps.length
    have hl2 := hreps2.length
    have e : cells.toArray ++ cells2.toArray ++ Builtin.zeroCells z.cells (grownCap w (xs.length + ys.length) c E - (xs.length + ys.length)) = ((cells ++ cells2) ++ (Builtin.zeroCells z.cells (grownCap w (xs.length + ys.length) c E - (xs.length + ys.length))).toList).toArray := by
      apply Array.ext'; simp
    rw [e]
    refine row_new (w := w.drew) (cells := cells ++ cells2) ?_ ?_ ?_ hcm ?_ ?_
    · rw [List.length_append, hl1, hl2, hlen, Nat.add_mul]
    · have hsz : (Builtin.zeroCells z.cells (grownCap w (xs.length + ys.length) c E - (xs.length + ys.length))).toList.length = (grownCap w (xs.length + ys.length) c E - (xs.length + ys.length)) * f.kd.sz := by
        have := size_zeroCells z.cells (grownCap w (xs.length + ys.length) c E - (xs.length + ys.length))
        rw [hzs] at this
        simpa using this
      rw [List.length_append, List.length_append, hl1, hl2, hsz, ← Nat.add_mul, ← Nat.add_mul]
      congr 1
      omega
    · rw [hlen]; exact hge
    · exact List.take_left
    · exact Reps.append hreps2.anywhere hreps.anywhere
end
end Go.GW
