/- The plain law of SamplePacks: packing and unpacking agree with the reference. -/
import Derived.Test.YtlemaejpllhjnaaPUnpack
set_option linter.unusedVariables false
set_option linter.unusedSimpArgs false
set_option maxRecDepth 100000
namespace Go.Proofs.Ytlemaejpllhjnaa.M
open Go.GW Go.Proofs

theorem bytesOk {b : List Int} (k : ∀ y ∈ b, okInt .u8 y) : BytesOk b := by
  intro x hx
  have := k x hx
  unfold okInt Lit.wf at this
  have e1 : IntKind.u8.min = 0 := by decide
  have e2 : IntKind.u8.max = 255 := by decide
  simp only [e1, e2, Bool.and_eq_true, decide_eq_true_eq] at this
  exact this
theorem packs_len (s : List Int) : (packs s).1.length ≤ 1000000 := by
  unfold packs
  split
  · rename_i h
    have := (chk_ok h).1
    simp [pack]; omega
  · simp
theorem unps_len (b : List Int) (n : Int) : (unps b n).1.length ≤ 1000000 := by
  unfold unps
  repeat' split
  all_goals first | (simp; done) | (simp [unp]; omega)

theorem samplePacks_law (x0 : (List Int)) (k0 : ∀ y ∈ x0, okInt .i64 y) (x1 : (List Int)) (k1 : ∀ y ∈ x1, okInt .u8 y) (x2 : Int) (k2 : okInt .i64 x2) : law13_SamplePacks.f x0 x1 x2 = some true := by
  unfold law13_SamplePacks.f ref13_Long.f law13_SamplePacks.k1
  simp only [Option.bind_some]
  by_cases h0 : (300 : Int) < x0.length
  · simp [h0]
  by_cases h1 : (300 : Int) < x1.length
  · simp [h0, h1]
  simp only [h0, h1, decide_false, Bool.false_eq_true, if_false]
  rw [samp_pack, ref_pack, samp_unpack x1 x2 (bytesOk k1) (by omega) k2, ref_unpack x1 x2 (bytesOk k1) (by omega) k2]
  simp only [Option.bind_some]
  rw [same_bytes _ _ (packs_len x0), same_ints _ _ (unps_len x1 x2)]
  simp
end Go.Proofs.Ytlemaejpllhjnaa.M
