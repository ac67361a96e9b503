/-
  Gw10: bits of numbers; what a heap tells of capacities; reckoned shifts.
-/
import Derived.Test.YtiepcikippcfaaaGw9
set_option linter.unusedVariables false
set_option linter.unusedSimpArgs false
namespace Go.GW
open Go

def gand (k : IntKind) (x y : Int) : Int := k.wrap ((BitVec.ofInt k.bits x &&& BitVec.ofInt k.bits y).toNat : Int)
def gor (k : IntKind) (x y : Int) : Int := k.wrap ((BitVec.ofInt k.bits x ||| BitVec.ofInt k.bits y).toNat : Int)
def gxor (k : IntKind) (x y : Int) : Int := k.wrap ((BitVec.ofInt k.bits x ^^^ BitVec.ofInt k.bits y).toNat : Int)
def gandNot (k : IntKind) (x y : Int) : Int := k.wrap ((BitVec.ofInt k.bits x &&& ~~~ BitVec.ofInt k.bits y).toNat : Int)
def gshl (k : IntKind) (x y : Int) : Int := k.wrap (x * 2 ^ min y.toNat k.bits)
def gshr (k : IntKind) (x y : Int) : Int := x.fdiv (2 ^ min y.toNat k.bits)

section
variable {X : Ctx} {ρ : Env} {Δ : List At} {K : Act → World → Prop}

theorem gives_shl {d : Option Tmp} {T T2 ty : TypeId} {x y : Operand} {pos : String} {after : Array Edge} (k k2 : IntKind) (a b : Int) (h : 0 ≤ b) (hx : known ρ x = true := by kernel_rfl) (hy : known ρ y = true := by kernel_rfl) (hxe : ev ρ x = .int k a := by kernel_rfl) (hye : ev ρ y = .int k2 b := by kernel_rfl) :
    Gives X ρ Δ ⟨d, .binOp .shl T x y T2, ty, pos, after, none⟩ (.int k (gshl k a b)) := by
  intro ac w ha hw
  have h' : ¬ b < 0 := by omega
  simp [execOp, ha.eval hx, ha.eval hy, hxe, hye, eqGuard, binOp, Op.shift, h', gshl]
theorem gives_shr {d : Option Tmp} {T T2 ty : TypeId} {x y : Operand} {pos : String} {after : Array Edge} (k k2 : IntKind) (a b : Int) (h : 0 ≤ b) (hx : known ρ x = true := by kernel_rfl) (hy : known ρ y = true := by kernel_rfl) (hxe : ev ρ x = .int k a := by kernel_rfl) (hye : ev ρ y = .int k2 b := by kernel_rfl) :
    Gives X ρ Δ ⟨d, .binOp .shr T x y T2, ty, pos, after, none⟩ (.int k (gshr k a b)) := by
  intro ac w ha hw
  have h' : ¬ b < 0 := by omega
  simp [execOp, ha.eval hx, ha.eval hy, hxe, hye, eqGuard, binOp, Op.shift, h', gshr]

theorem JQ.capLe {α : Type} (j : Nat) (A : Option Addr) (c : Nat) (d : Kd α) (xs : List α) (sh : Bool) (h : xs.length ≤ c → JQ X K ρ Δ) (hj : Δ[j]? = some (At.rd A c d xs sh) := by kernel_rfl) : JQ X K ρ Δ :=
  fun a w ha hw => h (hw.sat _ (List.mem_of_getElem? hj)).1 a w ha hw
end
end Go.GW
