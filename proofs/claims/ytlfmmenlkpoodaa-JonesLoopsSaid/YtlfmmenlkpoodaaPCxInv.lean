/- Plain laws of the complex numbers with rational parts: quotients of the reference, inverses. -/
import Derived.Test.YtlfmmenlkpoodaaPCxDiv
set_option linter.unusedVariables false
set_option linter.unusedSimpArgs false
set_option maxRecDepth 100000
namespace Go.Proofs.Ytlfmmenlkpoodaa.M
open Go.GW Go.Proofs

theorem ref_gcd (x y : Int) (hx : W x) (hy : W y) : ref25_Gcd.f x y = some ((Nat.gcd x.natAbs y.natAbs : Nat) : Int) := ref_gcd_eq x y hx hy
theorem div_cases {a b : Cx} (ga : ¬ badCx a) (gb : ¬ badCx b) (hb : nz b) : (divS a b).2 = 0 ∨ divS a b = (⟨0, 0, 0⟩, 16) := by
  unfold divS
  simp only [good2 ga gb, if_true, hb, quoS, finS]
  split
  · exact .inl rfl
  · exact .inr rfl

/-! ### The inverse -/
def negC (x : Cx) : Cx := ⟨-x.Re, -x.Im, x.Den⟩
theorem negC_good {x : Cx} (h : ¬ badCx x) : ¬ badCx (negC x) := fun h' => h ((bad_neg x).1 h')
theorem negC_w {x : Cx} (h : ¬ badCx x) : (⟨w64 (0 - x.Re), w64 (0 - x.Im), x.Den⟩ : Cx) = negC x := by
  obtain ⟨h1, h2, h3, h4⟩ := good_bounds h
  rw [w64_id (by omega) (by omega), w64_id (by omega) (by omega), Int.zero_sub, Int.zero_sub]; rfl
theorem negC_w' {x : Cx} (h : ¬ badCx x) : (⟨w64 (-x.Re), w64 (-x.Im), x.Den⟩ : Cx) = negC x := by
  rw [← negC_w h, Int.zero_sub, Int.zero_sub]
noncomputable def invS (a : A4 Cx) : A4 Cx × Int := open Classical in
  if (detS a).2 = 0 then
    (if nz (detS a).1 then
      (if (divS a.e3 (detS a).1).2 = 0 then if (divS (negC a.e1) (detS a).1).2 = 0 then if (divS (negC a.e2) (detS a).1).2 = 0 then if (divS a.e0 (detS a).1).2 = 0 then
        (⟨(divS a.e3 (detS a).1).1, (divS (negC a.e1) (detS a).1).1, (divS (negC a.e2) (detS a).1).1, (divS a.e0 (detS a).1).1⟩, 0) else (zJ, 16) else (zJ, 16) else (zJ, 16) else (zJ, 16))
    else (zJ, 18))
  else (zJ, (detS a).2)
theorem det_good {a : A4 Cx} (h : (detS a).2 = 0) : valJ a = true ∧ ¬ badCx (detS a).1 := by
  unfold detS at h ⊢
  cases hv : valJ a with
  | false => simp [hv] at h
  | true =>
    obtain ⟨g0, g1, g2, g3⟩ := val_good hv
    rw [hv] at h
    simp only [if_true, true_and] at h ⊢
    rcases mul_cases g0 g3 with ⟨h1, h2⟩ | h1 <;> rcases mul_cases g1 g2 with ⟨h3, h4⟩ | h3
    · simp only [h1, h3, and_self, if_true] at h ⊢
      rcases sub_cases h2 h4 with ⟨h5, h6⟩ | h5
      · exact h6
      · rw [h5] at h; simp at h
    · simp [h3] at h
    · simp [h1] at h
    · simp [h1] at h
theorem ji_body (t4 : Cx × Int) (out : A4 Cx) (k : Int) (hk : 0 ≤ k ∧ k < 4) (y : Cx) (hy : ix ([out.e0, out.e1, out.e2, out.e3] : List Cx) k = y) : jones_Inv.k10 t4 k out = some (if (divS y t4.1).2 = 0 then .next (A4.ofL (([out.e0, out.e1, out.e2, out.e3] : List Cx).set k.toNat (divS y t4.1).1), w64 (k + 1)) else .ret (zJ, (divS y t4.1).2)) := by
  unfold jones_Inv.k10
  rw [if_pos hk, hy, cx_div_eq, Option.bind_some, if_pos hk]
  show (if (!decide ((divS y t4.1).2 = 0)) = true then some (St.ret (zJ, (divS y t4.1).2)) else some (St.next (A4.ofL (([out.e0, out.e1, out.e2, out.e3] : List Cx).set k.toNat (divS y t4.1).1), w64 (k + 1)))) = _
  generalize divS y t4.1 = D
  by_cases h : D.2 = 0
  · simp [h]
  · simp [h]
theorem ji_11f (t4 : Cx × Int) (out : A4 Cx) (k : Int) : jones_Inv.k11 t4 out k false = jones_Inv.k10 t4 k out := by
  unfold jones_Inv.k11; rw [if_neg (by decide)]
theorem ji_11_1 (t4 : Cx × Int) (out : A4 Cx) : jones_Inv.k11 t4 out 1 true = jones_Inv.k10 t4 1 ⟨out.e0, ⟨w64 (0 - out.e1.Re), w64 (0 - out.e1.Im), out.e1.Den⟩, out.e2, out.e3⟩ := by
  have hk : (0 : Int) ≤ 1 ∧ (1 : Int) < 4 := by decide
  unfold jones_Inv.k11 lt'
  rw [if_pos rfl, if_pos hk, if_pos hk, if_pos hk]
  refine (if_pos hk).trans ?_
  rfl
theorem ji_11_2 (t4 : Cx × Int) (out : A4 Cx) : jones_Inv.k11 t4 out 2 true = jones_Inv.k10 t4 2 ⟨out.e0, out.e1, ⟨w64 (0 - out.e2.Re), w64 (0 - out.e2.Im), out.e2.Den⟩, out.e3⟩ := by
  have hk : (0 : Int) ≤ 2 ∧ (2 : Int) < 4 := by decide
  unfold jones_Inv.k11 lt'
  rw [if_pos rfl, if_pos hk, if_pos hk, if_pos hk]
  refine (if_pos hk).trans ?_
  rfl
theorem ji_s0 (t4 : Cx × Int) (out : A4 Cx) : jones_Inv.s7 t4 out 0 = some (if (divS out.e0 t4.1).2 = 0 then .next (⟨(divS out.e0 t4.1).1, out.e1, out.e2, out.e3⟩, 1) else .ret (zJ, (divS out.e0 t4.1).2)) := by
  unfold jones_Inv.s7
  rw [if_pos (by decide), if_neg (by decide), show decide ((0 : Int) = 2) = false from rfl, ji_11f, ji_body t4 out 0 (by decide) out.e0 rfl, show w64 (0 + 1) = 1 by decide]
  rfl
theorem ji_s3 (t4 : Cx × Int) (out : A4 Cx) : jones_Inv.s7 t4 out 3 = some (if (divS out.e3 t4.1).2 = 0 then .next (⟨out.e0, out.e1, out.e2, (divS out.e3 t4.1).1⟩, 4) else .ret (zJ, (divS out.e3 t4.1).2)) := by
  unfold jones_Inv.s7
  rw [if_pos (by decide), if_neg (by decide), show decide ((3 : Int) = 2) = false from rfl, ji_11f, ji_body t4 out 3 (by decide) out.e3 rfl, show w64 (3 + 1) = 4 by decide]
  rfl
theorem ji_s1 (t4 : Cx × Int) (out : A4 Cx) (g : ¬ badCx out.e1) : jones_Inv.s7 t4 out 1 = some (if (divS (negC out.e1) t4.1).2 = 0 then .next (⟨out.e0, (divS (negC out.e1) t4.1).1, out.e2, out.e3⟩, 2) else .ret (zJ, (divS (negC out.e1) t4.1).2)) := by
  unfold jones_Inv.s7
  rw [if_pos (by decide), if_pos (by decide), ji_11_1, negC_w g, ji_body t4 _ 1 (by decide) (negC out.e1) rfl, show w64 (1 + 1) = 2 by decide]
  rfl
theorem ji_s2 (t4 : Cx × Int) (out : A4 Cx) (g : ¬ badCx out.e2) : jones_Inv.s7 t4 out 2 = some (if (divS (negC out.e2) t4.1).2 = 0 then .next (⟨out.e0, out.e1, (divS (negC out.e2) t4.1).1, out.e3⟩, 3) else .ret (zJ, (divS (negC out.e2) t4.1).2)) := by
  unfold jones_Inv.s7
  rw [if_pos (by decide), if_neg (by decide), show decide ((2 : Int) = 2) = true from rfl, ji_11_2, negC_w g, ji_body t4 _ 2 (by decide) (negC out.e2) rfl, show w64 (2 + 1) = 3 by decide]
  rfl
theorem ji_s4 (t4 : Cx × Int) (out : A4 Cx) : jones_Inv.s7 t4 out 4 = some (.brk out) := by
  unfold jones_Inv.s7
  rw [if_neg (by decide)]
theorem jones_inv_eq (a : A4 Cx) : jones_Inv.f a = some (invS a) := by
  unfold jones_Inv.f invS
  rw [jones_det_eq, Option.bind_some]
  by_cases hd : (detS a).2 = 0
  · obtain ⟨hv, gd⟩ := det_good hd
    obtain ⟨g0, g1, g2, g3⟩ := val_good hv
    simp only [hd, decide_true, Bool.not_true, Bool.false_eq_true, if_false, if_true, jzero_eq, Option.bind_some, decide_eq_true_eq]
    by_cases hz : (detS a).1.Re = 0 ∧ (detS a).1.Im = 0
    · simp [hz, nz]
    · have hz' : nz (detS a).1 := hz
      simp only [hz, if_false, hz', if_true]
      rcases div_cases g3 gd hz' with c0 | c0
      · skip
        rcases div_cases (negC_good g1) gd hz' with c1 | c1
        · skip
          rcases div_cases (negC_good g2) gd hz' with c2 | c2
          · skip
            rcases div_cases g0 gd hz' with c3 | c3
            · skip
              rw [show iter (fun (s : A4 Cx × Int) => jones_Inv.s7 (detS a) s.1 s.2) ((⟨a.e3, a.e1, a.e2, a.e0⟩ : A4 Cx), 0) = some (.brk (⟨(divS a.e3 (detS a).1).1, (divS (negC a.e1) (detS a).1).1, (divS (negC a.e2) (detS a).1).1, (divS a.e0 (detS a).1).1⟩ : A4 Cx)) from (iter_next ((ji_s0 (detS a) ⟨a.e3, a.e1, a.e2, a.e0⟩).trans (congrArg some (if_pos c0)))).trans ((iter_next ((ji_s1 (detS a) ⟨(divS a.e3 (detS a).1).1, a.e1, a.e2, a.e0⟩ g1).trans (congrArg some (if_pos c1)))).trans ((iter_next ((ji_s2 (detS a) ⟨(divS a.e3 (detS a).1).1, (divS (negC a.e1) (detS a).1).1, a.e2, a.e0⟩ g2).trans (congrArg some (if_pos c2)))).trans ((iter_next ((ji_s3 (detS a) ⟨(divS a.e3 (detS a).1).1, (divS (negC a.e1) (detS a).1).1, (divS (negC a.e2) (detS a).1).1, a.e0⟩).trans (congrArg some (if_pos c3)))).trans (iter_brk (ji_s4 (detS a) ⟨(divS a.e3 (detS a).1).1, (divS (negC a.e1) (detS a).1).1, (divS (negC a.e2) (detS a).1).1, (divS a.e0 (detS a).1).1⟩)))))]
              simp only [Option.bind_some, fin, jones_Inv.k8, c0, c1, c2, c3, if_true]
            · rw [show iter (fun (s : A4 Cx × Int) => jones_Inv.s7 (detS a) s.1 s.2) ((⟨a.e3, a.e1, a.e2, a.e0⟩ : A4 Cx), 0) = some (.ret (zJ, (divS a.e0 (detS a).1).2)) from (iter_next ((ji_s0 (detS a) ⟨a.e3, a.e1, a.e2, a.e0⟩).trans (congrArg some (if_pos c0)))).trans ((iter_next ((ji_s1 (detS a) ⟨(divS a.e3 (detS a).1).1, a.e1, a.e2, a.e0⟩ g1).trans (congrArg some (if_pos c1)))).trans ((iter_next ((ji_s2 (detS a) ⟨(divS a.e3 (detS a).1).1, (divS (negC a.e1) (detS a).1).1, a.e2, a.e0⟩ g2).trans (congrArg some (if_pos c2)))).trans (iter_ret ((ji_s3 (detS a) ⟨(divS a.e3 (detS a).1).1, (divS (negC a.e1) (detS a).1).1, (divS (negC a.e2) (detS a).1).1, a.e0⟩).trans (congrArg some (if_neg (by rw [c3]; decide)))))))]
              simp [fin, c0, c1, c2, c3]
          · rw [show iter (fun (s : A4 Cx × Int) => jones_Inv.s7 (detS a) s.1 s.2) ((⟨a.e3, a.e1, a.e2, a.e0⟩ : A4 Cx), 0) = some (.ret (zJ, (divS (negC a.e2) (detS a).1).2)) from (iter_next ((ji_s0 (detS a) ⟨a.e3, a.e1, a.e2, a.e0⟩).trans (congrArg some (if_pos c0)))).trans ((iter_next ((ji_s1 (detS a) ⟨(divS a.e3 (detS a).1).1, a.e1, a.e2, a.e0⟩ g1).trans (congrArg some (if_pos c1)))).trans (iter_ret ((ji_s2 (detS a) ⟨(divS a.e3 (detS a).1).1, (divS (negC a.e1) (detS a).1).1, a.e2, a.e0⟩ g2).trans (congrArg some (if_neg (by rw [c2]; decide))))))]
            simp [fin, c0, c1, c2]
        · rw [show iter (fun (s : A4 Cx × Int) => jones_Inv.s7 (detS a) s.1 s.2) ((⟨a.e3, a.e1, a.e2, a.e0⟩ : A4 Cx), 0) = some (.ret (zJ, (divS (negC a.e1) (detS a).1).2)) from (iter_next ((ji_s0 (detS a) ⟨a.e3, a.e1, a.e2, a.e0⟩).trans (congrArg some (if_pos c0)))).trans (iter_ret ((ji_s1 (detS a) ⟨(divS a.e3 (detS a).1).1, a.e1, a.e2, a.e0⟩ g1).trans (congrArg some (if_neg (by rw [c1]; decide)))))]
          simp [fin, c0, c1]
      · rw [show iter (fun (s : A4 Cx × Int) => jones_Inv.s7 (detS a) s.1 s.2) ((⟨a.e3, a.e1, a.e2, a.e0⟩ : A4 Cx), 0) = some (.ret (zJ, (divS a.e3 (detS a).1).2)) from iter_ret ((ji_s0 (detS a) ⟨a.e3, a.e1, a.e2, a.e0⟩).trans (congrArg some (if_neg (by rw [c0]; decide))))]
        simp [fin, c0]
  · simp [hd]
end Go.Proofs.Ytlfmmenlkpoodaa.M
