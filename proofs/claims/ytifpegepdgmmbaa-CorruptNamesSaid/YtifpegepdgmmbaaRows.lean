/-
  No cell of these rows narrows 'for every input' (looked for: loops, veiled, ifaces, maps, wideKeys, modest, calm, conditions, laid).
  DERIVED. THE GIVEN ROWS OF THIS SEAT. 3 by the template 'for every input the law returns true; each argument reads behind the call as it read before'; 0 by the template 'total and deterministic' (their statements: YtifpegepdgmmbaaTotals.lean).
  GIVEN WITH THE SEED: the statements are not yours to turn. If you find one false, say at which input.
  Laid BY PROGRAM, IN A SANDBOX (cutbox-rows.mjs): the forced cells as the released guide's own fill.sh prints them over the translation 69fe56b6fbed932f… (all of the seat's roots in one cut). By AI agents, Wed Nov 11 2026. No macro, syntax, notation, axiom, sorry.
-/
import Derived.Test.YtifpegepdgmmbaaChecked
import GoSem.Claim
import GoSem.ClaimJoined
import GoSem.ClaimMapViews
import Derived.JoinedTies
import Derived.KernelRfl
namespace Go.Proofs.Ytifpegepdgmmbaa
/- THE CELL 'sum', in the pinned program and in every row, IS THE sha256 OF THE DUMP (.gsa) THAT YtifpegepdgmmbaaProg.lean LOADS. Nothing in Lean hashes anything: it is a label: what it is worth is what the hold of that sum in a sandbox is worth. -/
noncomputable def Try.pinned : Pinned := { name := "ytifpegepdgmmbaa", sum := "69fe56b6fbed932febe542e96582b16913012657a0f40735d966661b56661afb", checked := Try.checked }
namespace Rows
def none {H : Type} : Left H := { results := [], args := [] }

/-- 'fringelaw35.CorruptTimes': WHATEVER THE INPUT: true; the input reads as it did. -/
def corruptTimesSpec : ChangeSpec := { name := "corruptTimes", fn := fun _ => fun
  | [d1, d2] => { results := [.lit (.bool true)], args := [d1, d2] }
  | _ => none }
def corruptTimesRow : OpenClaim := { program := "ytifpegepdgmmbaa", sum := "69fe56b6fbed932febe542e96582b16913012657a0f40735d966661b56661afb", func := "fringe/fringelaw35.CorruptTimes", spec := "corruptTimes", unfollowed := true, recurses := true, plainKeys := false, apart := false }
def CorruptTimesSaid : Prop := corruptTimesRow.holds Try.pinned (OpenSpec.ofChange corruptTimesSpec)

/-- ITS FALSE NEIGHBOUR: 'it returns false'. Refute it at one input. -/
def corruptTimesWrong : ChangeSpec := { name := "corruptTimes", fn := fun _ => fun
  | [d1, d2] => { results := [.lit (.bool false)], args := [d1, d2] }
  | _ => none }
def CorruptTimesWrongFalsely : Prop := corruptTimesRow.holds Try.pinned (OpenSpec.ofChange corruptTimesWrong)

/-- 'fringelaw35.CorruptOrder': WHATEVER THE INPUT: true; the input reads as it did. -/
def corruptOrderSpec : ChangeSpec := { name := "corruptOrder", fn := fun _ => fun
  | [d1, d2, d3] => { results := [.lit (.bool true)], args := [d1, d2, d3] }
  | _ => none }
def corruptOrderRow : OpenClaim := { program := "ytifpegepdgmmbaa", sum := "69fe56b6fbed932febe542e96582b16913012657a0f40735d966661b56661afb", func := "fringe/fringelaw35.CorruptOrder", spec := "corruptOrder", unfollowed := true, recurses := true, plainKeys := false, apart := false }
def CorruptOrderSaid : Prop := corruptOrderRow.holds Try.pinned (OpenSpec.ofChange corruptOrderSpec)

/-- ITS FALSE NEIGHBOUR: 'it returns false'. Refute it at one input. -/
def corruptOrderWrong : ChangeSpec := { name := "corruptOrder", fn := fun _ => fun
  | [d1, d2, d3] => { results := [.lit (.bool false)], args := [d1, d2, d3] }
  | _ => none }
def CorruptOrderWrongFalsely : Prop := corruptOrderRow.holds Try.pinned (OpenSpec.ofChange corruptOrderWrong)

/-- 'fringelaw35.CorruptNames': WHATEVER THE INPUT: true; the input reads as it did. -/
def corruptNamesSpec : ChangeSpec := { name := "corruptNames", fn := fun _ => fun
  | [] => { results := [.lit (.bool true)], args := [] }
  | _ => none }
def corruptNamesRow : OpenClaim := { program := "ytifpegepdgmmbaa", sum := "69fe56b6fbed932febe542e96582b16913012657a0f40735d966661b56661afb", func := "fringe/fringelaw35.CorruptNames", spec := "corruptNames", unfollowed := true, recurses := true, plainKeys := false, apart := false }
def CorruptNamesSaid : Prop := corruptNamesRow.holds Try.pinned (OpenSpec.ofChange corruptNamesSpec)

/-- ITS FALSE NEIGHBOUR: 'it returns false'. Refute it at one input. -/
def corruptNamesWrong : ChangeSpec := { name := "corruptNames", fn := fun _ => fun
  | [] => { results := [.lit (.bool false)], args := [] }
  | _ => none }
def CorruptNamesWrongFalsely : Prop := corruptNamesRow.holds Try.pinned (OpenSpec.ofChange corruptNamesWrong)

/- THE SECOND FORM. 'bulk': how many values and letters a reading holds, each counted each time it is reached (what is shared counts as often as it is met; a slice's spare places count too). A statement '..UptoSaid' is the law's where the arguments, and the package variables that the reading takes, are together of bulk at most 1048576: NARROWER than '..Said'. Prove '..Said' where nothing that the law and all that it calls make is longer than what came in: it says more and counts as full. Else prove '..UptoSaid'. A law counts once. -/
mutual
def uptoBulk {H : Type} : DataW H → Nat
  | .lit (.string bytes) => bytes.length + 1
  | .lit _ => 1
  | .nil => 1
  | .ptr d => uptoBulk d + 1
  | .slice elems spare => uptoBulkAll elems + uptoBulkAll spare + 1
  | .agg parts => uptoBulkAll parts + 1
  | .iface _ d => uptoBulk d + 1
  | .map entries => uptoBulkEntries entries + 1
  | .held _ => 1
def uptoBulkAll {H : Type} : List (DataW H) → Nat
  | [] => 0
  | d :: r => uptoBulk d + uptoBulkAll r
def uptoBulkEntries {H : Type} : List (Lit × DataW H) → Nat
  | [] => 0
  | x :: r => uptoBulkEntry x + uptoBulkEntries r
def uptoBulkEntry {H : Type} : Lit × DataW H → Nat
  | (.string bytes, d) => bytes.length + uptoBulk d + 1
  | (_, d) => uptoBulk d + 1
 end
def uptoSmall : (H : Type) → List (DataW H) → Bool := fun _ ds => decide (uptoBulkAll ds ≤ 1048576)
def OpenSpec.upto (s : _root_.Go.ChangeSpec) : _root_.Go.OpenSpec := { _root_.Go.OpenSpec.ofChange s with cond := some uptoSmall }

/-- 'fringelaw35.CorruptTimes', WHERE WHAT IT READS IS OF BULK AT MOST 1048576: true; the input reads as it did. -/
def corruptTimesUptoRow : OpenClaim := { program := "ytifpegepdgmmbaa", sum := "69fe56b6fbed932febe542e96582b16913012657a0f40735d966661b56661afb", func := "fringe/fringelaw35.CorruptTimes", spec := "corruptTimes", unfollowed := true, recurses := true, plainKeys := false, apart := false, narrowed := true }
def CorruptTimesUptoSaid : Prop := corruptTimesUptoRow.holds Try.pinned (OpenSpec.upto corruptTimesSpec)

/-- 'fringelaw35.CorruptOrder', WHERE WHAT IT READS IS OF BULK AT MOST 1048576: true; the input reads as it did. -/
def corruptOrderUptoRow : OpenClaim := { program := "ytifpegepdgmmbaa", sum := "69fe56b6fbed932febe542e96582b16913012657a0f40735d966661b56661afb", func := "fringe/fringelaw35.CorruptOrder", spec := "corruptOrder", unfollowed := true, recurses := true, plainKeys := false, apart := false, narrowed := true }
def CorruptOrderUptoSaid : Prop := corruptOrderUptoRow.holds Try.pinned (OpenSpec.upto corruptOrderSpec)

/-- 'fringelaw35.CorruptNames', WHERE WHAT IT READS IS OF BULK AT MOST 1048576: true; the input reads as it did. -/
def corruptNamesUptoRow : OpenClaim := { program := "ytifpegepdgmmbaa", sum := "69fe56b6fbed932febe542e96582b16913012657a0f40735d966661b56661afb", func := "fringe/fringelaw35.CorruptNames", spec := "corruptNames", unfollowed := true, recurses := true, plainKeys := false, apart := false, narrowed := true }
def CorruptNamesUptoSaid : Prop := corruptNamesUptoRow.holds Try.pinned (OpenSpec.upto corruptNamesSpec)

end Rows
end Go.Proofs.Ytifpegepdgmmbaa
