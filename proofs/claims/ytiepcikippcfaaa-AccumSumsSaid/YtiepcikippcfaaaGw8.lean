/-
  Gw8: '==' of flat structs and arrays.
-/
import Derived.Test.YtiepcikippcfaaaGw7
import Derived.DeepKeys
import Derived.Laws.StructEq
set_option linter.unusedVariables false
set_option linter.unusedSimpArgs false
namespace Go.GW
open Go

section
variable {P : Program} {d : Nat} {w : World}

theorem eq_int (d : Nat) (t : TypeId) (k : IntKind) (a b : Int) (w : World) (h : P.underlying t = some (.int k)) : (Op.equalIn (d + 1) t (.int k a) (.int k b)).run P w = .ok (decide (a = b)) w := by
  rw [run_equalIn_int w d t k k a b h]; rfl
theorem eq_bool (d : Nat) (t : TypeId) (a b : Bool) (w : World) (h : P.underlying t = some .bool) : (Op.equalIn (d + 1) t (.bool a) (.bool b)).run P w = .ok (decide (a = b)) w := by
  rw [run_equalIn_bool w d t a b h]; cases a <;> cases b <;> rfl

theorem eqf_nil {xs ys : Array Value} : (Op.eqFields d xs ys []).run P w = .ok true w := by simp [Op.eqFields]
theorem eqf_cons {xs ys : Array Value} {f : Field} {fs : List Field} {a b : Value} {r s : Bool} (hr : (Op.equalIn d f.type a b).run P w = .ok r w) (hs : (Op.eqFields d xs ys fs).run P w = .ok s w) (hn : (f.name == "_") = false := by rfl) (ha : (part f.type xs f.offset).run P w = .ok a w := by kernel_rfl) (hb : (part f.type ys f.offset).run P w = .ok b w := by kernel_rfl) :
    (Op.eqFields d xs ys (f :: fs)).run P w = .ok (r && s) w := by
  have hn' : f.name ≠ "_" := by simpa using hn
  rw [Op.eqFields]
  simp only [if_pos hn', Sem.run_bind, ha, hb, hr, Result.andThen_ok]
  cases r
  · simp
  · simpa using hs
theorem eqs_of {t : TypeId} {fs : Array Field} {xs ys : Array Value} {r : Bool} (hu : P.underlying t = some (.struct fs)) (h : (Op.eqFields d xs ys fs.toList).run P w = .ok r w) (hp : P.stoodInHeld t = false := by kernel_rfl) : (Op.equalIn (d + 1) t (.agg xs) (.agg ys)).run P w = .ok r w := by
  have hf : P.fieldsOf t = fs := by simp [Program.fieldsOf, hu]
  rw [run_equalIn_struct (P := P) w d t xs ys (by rw [hf]; exact hu) hp, hf]
  exact h

theorem eqi_nil {e : TypeId} {c : Nat} {xs ys : Array Value} : (Op.eqItems d e c xs ys []).run P w = .ok true w := by simp [Op.eqItems]
theorem eqi_cons {e : TypeId} {c i : Nat} {is : List Nat} {xs ys : Array Value} {a b : Value} {r s : Bool} (hr : (Op.equalIn d e a b).run P w = .ok r w) (hs : (Op.eqItems d e c xs ys is).run P w = .ok s w) (ha : (part e xs (i * c)).run P w = .ok a w := by kernel_rfl) (hb : (part e ys (i * c)).run P w = .ok b w := by kernel_rfl) :
    (Op.eqItems d e c xs ys (i :: is)).run P w = .ok (r && s) w := by
  rw [Op.eqItems]
  simp only [Sem.run_bind, ha, hb, hr, Result.andThen_ok]
  cases r
  · simp
  · simpa using hs
theorem eqa_of {t e : TypeId} {n c : Nat} {xs ys : Array Value} {r : Bool} (hu : P.underlying t = some (.array n e)) (hc : tySize P e = some c) (h : (Op.eqItems d e c xs ys (List.range n)).run P w = .ok r w) : (Op.equalIn (d + 1) t (.agg xs) (.agg ys)).run P w = .ok r w := by
  obtain ⟨i, hi, rfl⟩ := Option.map_eq_some_iff.1 hc
  rw [run_equalIn_array w d xs ys hu hi, show P.cellsOf e = i.size by simp [Program.cellsOf, hi]]
  exact h
end
end Go.GW
