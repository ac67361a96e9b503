import Derived.Test.YtifpegepdgmmbaaGw22
import Derived.Test.YtifpegepdgmmbaaShelf
set_option linter.unusedVariables false
namespace Go.Proofs.Ytifpegepdgmmbaa.M
open Go.GW Go.Proofs
theorem does_ext_84 (xs : List Int) (A : Option Addr) (c : Nat) (E : TypeId) (h : xs.length ≤ 4611686018427387903) : Does Try.prog 84 [.slice A xs.length c].toArray [] [At.row A c E (flInt .i64).kd xs false] false (fun v Δ => v = .slice A (Lib.compact xs).length c ∧ Δ = [At.row A c E (flInt .i64).kd (Lib.compact xs) false]) :=
  does_compactI (fun blk off cap zs w h1 h2 h3 => Try.slices_Compact_int blk off cap zs w h1 h2 h3) (fun a cap w => Try.slices_Compact_int_empty a cap w) xs A c E h
theorem does_ext_83 (xs : List Int) (A : Option Addr) (c : Nat) (E : TypeId) (h : xs.length ≤ 4611686018427387903) : Does Try.prog 83 [.slice A xs.length c].toArray [] [At.row A c E (flInt .i64).kd xs false] false (fun v Δ => v = .tuple #[] ∧ Δ = [At.row A c E (flInt .i64).kd (sortI xs) false]) :=
  does_sortI (fun blk off cap zs w h1 h2 h3 => Try.slices_Sort_int blk off cap zs w h1 h2 h3) (fun p cap w => Try.slices_Sort_int_none p cap w) xs A c E h
end Go.Proofs.Ytifpegepdgmmbaa.M
