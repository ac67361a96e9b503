/- The plain law of JonesDets. -/
import Derived.Test.YtlfmmenlkpoodaaPCxM
import Derived.Test.YtlfmmenlkpoodaaC0
set_option linter.unusedVariables false
set_option linter.unusedSimpArgs false
set_option maxRecDepth 100000
namespace Go.Proofs.Ytlfmmenlkpoodaa.M
open Go.GW Go.Proofs
theorem alive_c : law33_alive.f_c = some true := by kernel_rfl
theorem alive_eq : law33_alive.f = some true := law33_alive.f_le _ alive_c
theorem whole_eq (a b c d : Int) : law33_whole.f a b c d = some ⟨⟨a, 0, 1⟩, ⟨b, 0, 1⟩, ⟨c, 0, 1⟩, ⟨d, 0, 1⟩⟩ := rfl
theorem k12_true (a : A4 Cx) (x : A4 Cx × Int) (h : x.2 ≠ 0) : law33_JonesDets.k12 a true x false = some true := by
  unfold law33_JonesDets.k12
  rw [if_neg (by decide), if_neg (by simpa using h)]
theorem k12_ok {a : A4 Cx} (hv : valJ a = true) (h : (invS a).2 = 0) : law33_JonesDets.k12 a true (invS a) false = some true := by
  obtain ⟨hi, hn⟩ := inv_is (IsJ.of hv) h
  obtain ⟨m1, m2⟩ := MQ.mul_inv _ hn
  have u1 : (mulJ a (invS a).1).2 = 0 → (mulJ a (invS a).1).1 = ⟨⟨1, 0, 1⟩, ⟨0, 0, 1⟩, ⟨0, 0, 1⟩, ⟨1, 0, 1⟩⟩ := fun h1 => ((mulJ_is (IsJ.of hv) hi h1).to m1).uniq one_is
  have u2 : (mulJ (invS a).1 a).2 = 0 → (mulJ (invS a).1 a).1 = ⟨⟨1, 0, 1⟩, ⟨0, 0, 1⟩, ⟨0, 0, 1⟩, ⟨1, 0, 1⟩⟩ := fun h1 => ((mulJ_is hi (IsJ.of hv) h1).to m2).uniq one_is
  unfold law33_JonesDets.k12
  rw [if_neg (by decide), if_pos (by simpa using h), jones_mul_eq, Option.bind_some, jones_mul_eq, Option.bind_some, whole_eq, Option.bind_some, if_pos rfl]
  generalize mulJ a (invS a).1 = x at *
  generalize mulJ (invS a).1 a = y at *
  by_cases c1 : x.2 = 0 <;> by_cases c2 : y.2 = 0 <;> simp [c1, c2] <;> simp_all
theorem k11_ok {a : A4 Cx} (hv : valJ a = true) : law33_JonesDets.k11 a true = some true := by
  unfold law33_JonesDets.k11
  rw [jones_inv_eq, Option.bind_some, jones_det_eq, Option.bind_some]
  rcases inv_cases hv with ⟨hd, hz, h⟩ | ⟨hd, hz, h⟩ | ⟨hd, h⟩
  · have hz' : ¬ ((detS a).1.Re = 0 ∧ (detS a).1.Im = 0) := hz
    rw [if_pos (by simpa using hd), rzero_eq, Option.bind_some]
    rcases h with h | h
    · rw [show (!(decide ((invS a).2 = 18) == decide ((detS a).1.Re = 0 ∧ (detS a).1.Im = 0))) = false by rw [h]; simp [hz']]
      exact k12_ok hv h
    · rw [h]
      rw [show (!(decide (((zJ, 16) : A4 Cx × Int).2 = 18) == decide ((detS a).1.Re = 0 ∧ (detS a).1.Im = 0))) = false by simp [hz']]
      exact k12_true a _ (by decide)
  · have hz' : ((detS a).1.Re = 0 ∧ (detS a).1.Im = 0) := Classical.not_not.1 hz
    rw [if_pos (by simpa using hd), rzero_eq, Option.bind_some, h]
    rw [show (!(decide (((zJ, 18) : A4 Cx × Int).2 = 18) == decide ((detS a).1.Re = 0 ∧ (detS a).1.Im = 0))) = false by simp [hz']]
    exact k12_true a _ (by decide)
  · rw [hd, if_neg (by decide), h]
    exact k12_true a _ (by decide)
theorem k14_ok {a : A4 Cx} (hv : valJ a = true) : law33_JonesDets.k14 a true false = some true := by
  unfold law33_JonesDets.k14
  rw [if_neg (by decide)]; exact k11_ok hv
theorem k8_ok {a b : A4 Cx} (hv : valJ a = true) (hw : valJ b = true) : law33_JonesDets.k8 a true (mulJ a b) (mulJ b a) = some true := by
  unfold law33_JonesDets.k8 law33_JonesDets.k13
  by_cases c1 : (mulJ a b).2 = 0
  · by_cases c2 : (mulJ b a).2 = 0
    · have i1 := mulJ_is (IsJ.of hv) (IsJ.of hw) c1
      have i2 := mulJ_is (IsJ.of hw) (IsJ.of hv) c2
      rw [if_pos (by simpa using c1), if_pos (by simpa using c2), jones_tr_eq, Option.bind_some, jones_tr_eq, Option.bind_some]
      by_cases t1 : (trS (mulJ a b).1).2 = 0
      · by_cases t2 : (trS (mulJ b a).1).2 = 0
        · rw [if_pos (by simpa using t1), if_pos (by simpa using t2)]
          obtain ⟨e1, e2⟩ := MQ.tr_comm (mq a) (mq b)
          have : (trS (mulJ a b).1).1 = (trS (mulJ b a).1).1 := ((trS_is i1 t1).to e1 e2).uniq (trS_is i2 t2)
          rw [this, show (!decide ((trS (mulJ b a).1).1 = (trS (mulJ b a).1).1)) = false by simp]
          exact k14_ok hv
        · rw [if_pos (by simpa using t1), if_neg (by simpa using t2)]; exact k14_ok hv
      · rw [if_neg (by simpa using t1)]; exact k14_ok hv
    · rw [if_pos (by simpa using c1), if_neg (by simpa using c2)]; exact k11_ok hv
  · rw [if_neg (by simpa using c1), if_neg (by decide)]; exact k11_ok hv
theorem k18_ok {a b : A4 Cx} (hv : valJ a = true) (hw : valJ b = true) : law33_JonesDets.k18 a true (mulJ a b) (mulJ b a) false = some true := by
  unfold law33_JonesDets.k18
  rw [if_neg (by decide)]; exact k8_ok hv hw
theorem k17_ok {a b : A4 Cx} (hv : valJ a = true) (hw : valJ b = true) (c1 : (mulJ a b).2 = 0) : law33_JonesDets.k17 a b true (mulJ a b) (mulJ b a) = some true := by
  have ia := IsJ.of hv
  have ib := IsJ.of hw
  have i1 := mulJ_is ia ib c1
  obtain ⟨e1, j1⟩ := adj_is ia
  obtain ⟨e2, j2⟩ := adj_is ib
  obtain ⟨e3, j3⟩ := adj_is i1
  unfold law33_JonesDets.k17
  rw [jones_Adj_eq, Option.bind_some, jones_Adj_eq, Option.bind_some, jones_Adj_eq, Option.bind_some, jones_mul_eq, Option.bind_some]
  rw [if_neg (by rw [e1]; simp), if_neg (by rw [e2]; simp), if_neg (by rw [e3]; simp)]
  by_cases c : (mulJ (adjS b).1 (adjS a).1).2 = 0
  · rw [if_pos (by simpa using c)]
    have : (adjS (mulJ a b).1).1 = (mulJ (adjS b).1 (adjS a).1).1 := by
      rw [e1, e2] at c ⊢
      rw [e3]
      exact (j3.to (MQ.adj_mul _ _)).uniq (mulJ_is j2 j1 c)
    rw [this, show (!decide ((mulJ (adjS b).1 (adjS a).1).1 = (mulJ (adjS b).1 (adjS a).1).1)) = false by simp]
    exact k18_ok hv hw
  · rw [if_neg (by simpa using c)]; exact k18_ok hv hw
theorem k20_ok {a b : A4 Cx} (hv : valJ a = true) (hw : valJ b = true) (c1 : (mulJ a b).2 = 0) : law33_JonesDets.k20 a b true (mulJ a b) (mulJ b a) false = some true := by
  unfold law33_JonesDets.k20
  rw [if_neg (by decide)]; exact k17_ok hv hw c1
theorem k1_ok {a b : A4 Cx} (hv : valJ a = true) (hw : valJ b = true) : law33_JonesDets.k1 a b true false = some true := by
  unfold law33_JonesDets.k1
  rw [if_neg (by decide), jones_mul_eq, Option.bind_some, jones_mul_eq, Option.bind_some]
  by_cases c1 : (mulJ a b).2 = 0
  · rw [if_pos (by simpa using c1), jones_det_eq, Option.bind_some, jones_det_eq, Option.bind_some, jones_det_eq, Option.bind_some]
    have h17 : law33_JonesDets.k19 a b true (mulJ a b) (mulJ b a) (detS a) (detS b) (detS (mulJ a b).1) false = some true := by
      unfold law33_JonesDets.k19
      rw [if_neg (by decide)]; exact k17_ok hv hw c1
    by_cases d1 : (detS a).2 = 0
    · by_cases d2 : (detS b).2 = 0
      · by_cases d3 : (detS (mulJ a b).1).2 = 0
        · rw [if_pos (by simpa using d1), if_pos (by simpa using d2)]
          unfold law33_JonesDets.k19
          rw [if_pos (by simpa using d3), cx_mul_eq, Option.bind_some]
          by_cases d4 : (mulS (detS a).1 (detS b).1).2 = 0
          · rw [if_pos (by simpa using d4)]
            obtain ⟨e1, e2⟩ := MQ.det_mul (mq a) (mq b)
            have : (mulS (detS a).1 (detS b).1).1 = (detS (mulJ a b).1).1 := (mul_is (detS_is (IsJ.of hv) d1) (detS_is (IsJ.of hw) d2) d4).uniq ((detS_is (mulJ_is (IsJ.of hv) (IsJ.of hw) c1) d3).to e1 e2)
            rw [this, show (!decide ((detS (mulJ a b).1).1 = (detS (mulJ a b).1).1)) = false by simp]
            exact k20_ok hv hw c1
          · rw [if_neg (by simpa using d4)]; exact k20_ok hv hw c1
        · rw [if_pos (by simpa using d1), if_pos (by simpa using d2), show decide ((detS (mulJ a b).1).2 = 0) = false by simpa using d3]; exact h17
      · rw [if_pos (by simpa using d1), if_neg (by simpa using d2)]; exact h17
    · rw [if_neg (by simpa using d1)]; exact h17
  · rw [if_neg (by simpa using c1)]; exact k8_ok hv hw
theorem jonesDets_law (x0 : (A4 Cx)) (k0 : (ok_Cx x0.e0) ∧ (ok_Cx x0.e1) ∧ (ok_Cx x0.e2) ∧ (ok_Cx x0.e3)) (x1 : (A4 Cx)) (k1 : (ok_Cx x1.e0) ∧ (ok_Cx x1.e1) ∧ (ok_Cx x1.e2) ∧ (ok_Cx x1.e3)) : law33_JonesDets.f x0 x1 = some true := by
  have hk : law33_JonesDets.k1 x0 x1 true true = some true := by
    unfold law33_JonesDets.k1
    rw [if_pos rfl]
  unfold law33_JonesDets.f
  rw [alive_eq, Option.bind_some, ref_valid_eq, Option.bind_some, ref_valid_eq, Option.bind_some]
  cases hv : valJ x0 with
  | false => exact hk
  | true =>
    cases hw : valJ x1 with
    | false => exact hk
    | true => exact k1_ok hv hw
end Go.Proofs.Ytlfmmenlkpoodaa.M
