/-
  Gw14: guarded operations of regions that draw their order, taken first.
-/
import Derived.Test.YtiepcikippcfaaaGw13
set_option linter.unusedVariables false
set_option linter.unusedSimpArgs false
namespace Go.GW
open Go

/-- The operations that are done, as the digits of a number. -/
def ba (n k : Nat) : Array Bool := ((List.range n).map fun i => k.testBit i).toArray

/-! Several steps as one, for short texts. -/
theorem J.sr {X : Ctx} {Q : Exit → Act → World → Prop} {Δ : List At} {ρ : Env} {y : Code} {id : Nat} {l : List Oper} (h : JQ X (wpList X.P l.toArray (Strict (Exit.then (fun a w => cw X y Q a w) Q)) l) ρ Δ) (hnd : l.all nodef = true := by kernel_rfl) : JQ X (cw X ((Code.region id l.toArray false).seq y) Q) ρ Δ := J.seq (J.region h hnd)
theorem JL.en {X : Ctx} {ops : Array Oper} {Q : Exit → Act → World → Prop} {Δ : List At} {ρ : Env} {y : Act → World → Prop} (h : JQ X y ρ Δ) : JQ X (wpList X.P ops (Strict (Exit.then y Q)) []) ρ Δ := JL.end_ (JQ.then_normal h)
theorem JL.es {X : Ctx} {ops : Array Oper} {Q : Exit → Act → World → Prop} {Δ : List At} {ρ : Env} {y : Act → World → Prop} (ρ' : Env) (h : JQ X y ρ' Δ) (hs : Sub ρ ρ' := by delta Go.GW.Sub; kernel_rfl) : JQ X (wpList X.P ops (Strict (Exit.then y Q)) []) ρ Δ := JL.en (JQ.sub ρ' h hs)
theorem JQ.ts {X : Ctx} {Q : Exit → Act → World → Prop} {Δ : List At} {ρ : Env} {y : Act → World → Prop} (ρ' : Env) (h : JQ X y ρ' Δ) (hs : Sub ρ ρ' := by delta Go.GW.Sub; kernel_rfl) : JQ X (Exit.then y Q .normal) ρ Δ := JQ.then_normal (JQ.sub ρ' h hs)

section
variable {X : Ctx} {ops : Array Oper} {Q : Exit → Act → World → Prop} {Δ0 Δ : List At} {ds : List Nat} {n : Nat} {L : Array Bool} {ρ : Env}
theorem JY.takeG {o : Oper} (i : Nat) (L' : Array Bool) (v : Value) (d : Option Tmp) (m : List Bool) (hi : ops[i]? = some o) (hw : WantT X ρ ops o) (hy : Gives X ρ Δ0 ⟨o.dst, o.op, o.type, o.pos, o.after, none⟩ v) (h : JY X ops Q Δ0 ds n L' (upO ρ d v) Δ) (hdd : o.dst = d := by kernel_rfl) (hc : PL.takeB .any ops ds L L' i = true := by kernel_rfl) (hd : okd X.n d = true := by kernel_rfl) (hS : maskT m Δ = Δ0 := by kernel_rfl) : JY X ops Q Δ0 ds (n + 1) L ρ Δ :=
  JY.take i L' v d m hw (fun a w ha hh => hy a w ha hh) h hi hdd hc hd hS
theorem JY.puwG {o : Oper} (i : Nat) (L' : Array Bool) (v : Value) (d : Option Tmp) (hi : ops[i]? = some o) (hw : WantT X ρ ops o) (hy : GivesW X ρ ⟨o.dst, o.op, o.type, o.pos, o.after, none⟩ v) (h : JY X ops Q Δ0 ds n L' (upO ρ d v) Δ) (hdd : o.dst = d := by kernel_rfl) (hc : PL.anyB .any ops L L' i = true := by kernel_rfl) (hd : okd X.n d = true := by kernel_rfl) : JY X ops Q Δ0 ds (n + 1) L ρ Δ :=
  JY.puw i L' v d hw (fun a w ha => hy a w ha) h hi hdd hc hd
/-- From the region's beginning on, with those atoms that no operation turns. -/
theorem JY.startM {id : Nat} {l : List Oper} (m : List Bool) (ds : List Nat) (L0 : Array Bool) (h : JY X l.toArray Q (maskT m Δ) ds l.length L0 ρ Δ) (hL : Array.replicate l.length false = L0 := by kernel_rfl) (hm : X.P.follows .mixedOrders = true := by kernel_rfl) (hnd : l.all nodef = true := by kernel_rfl) : JQ X (cw X (Code.region id l.toArray true) Q) ρ Δ := by
  intro a w ha hw
  refine cw_draw hm (PL.wpAny_of_last (S := SW X (maskT m Δ)) (ds := ds) _ _ _ _ ?_) (by simpa using hnd)
  have h1 := h a w.drew ha (hw.drewN 1)
  rw [← hL] at h1
  simpa using h1
end
end Go.GW
