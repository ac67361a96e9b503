/- Plain laws of the complex numbers with rational parts: check, reduced, product (the part of PCx that stands without matrices). -/
import Derived.Test.YtifpegepdgmmbaaM0
import Derived.Test.YtifpegepdgmmbaaGp2
set_option linter.unusedVariables false
set_option linter.unusedSimpArgs false
set_option maxRecDepth 100000
namespace Go.Proofs.Ytifpegepdgmmbaa.M
open Go.GW Go.Proofs

theorem cx_gcd_eq (l : List Int) (hl : l.length ≤ 1000000) (hb : ∀ x ∈ l, -9223372036854775807 ≤ x ∧ x ≤ 9223372036854775807) : cx_gcd.f l = some (gcds l : Int) := by
  unfold cx_gcd.f
  obtain ⟨b, h1, h2, h3⟩ := iter_foldR l (fun g i => (g, i)) (f := fun s : Int × Int => cx_gcd.s7 l s.1 s.2) (fun (c : Nat) (g : Int) => g.natAbs = c ∧ c ≤ 9223372036854775807) (fun g x => Nat.gcd g x.natAbs) id 0 0 ⟨rfl, by omega⟩
    (fun c g i hi ⟨e1, e2⟩ => by
      obtain ⟨d, hd1, hd2⟩ := iter_gcd (f := fun s : Int × Int => cx_gcd.s9 s.1 s.2) (fun g n hn => by simp [cx_gcd.s9, hn, lt']) (fun g => by simp [cx_gcd.s9]) g l[i]
      have hx := hb l[i] (List.getElem_mem hi)
      refine ⟨d, ?_, by rw [hd2, e1], ?_⟩
      · unfold cx_gcd.s7
        simp only []
        rw [ix_at hi]
        simp only [decide_eq_true_eq, if_pos (show (i : Int) < (l.length : Int) by omega), if_pos (show (0 : Int) ≤ i ∧ (i : Int) < (l.length : Int) by omega)]
        rw [hd1]
        simp only [Option.bind_some, fin, cx_gcd.k10]
        rw [w64_id (by omega) (by omega)]
      · rcases Nat.eq_zero_or_pos c with h0 | h0
        · subst h0; simp; omega
        · exact Nat.le_trans (Nat.gcd_le_left _ h0) e2)
    (fun c g _ => by simp [cx_gcd.s7])
  have h1' : iter (fun s : Int × Int => cx_gcd.s7 l s.1 s.2) (0, 0) = some (.brk (id b)) := h1
  rw [h1']
  simp only [Option.bind_some, fin, cx_gcd.k8, id]
  have h2' : b.natAbs = gcds l := h2
  have h3' : gcds l ≤ 9223372036854775807 := h3
  rw [gmax_abs (by omega) (by omega), h2']

theorem ref_gcd_eq (x y : Int) (hx : -9223372036854775807 ≤ x ∧ x ≤ 9223372036854775807) (hy : -9223372036854775807 ≤ y ∧ y ≤ 9223372036854775807) : ref25_Gcd.f x y = some (Nat.gcd x.natAbs y.natAbs : Int) := by
  unfold ref25_Gcd.f lt'
  rw [gmax_abs hx.1 hx.2, gmax_abs hy.1 hy.2]
  -- both are no less than 0: so is what is found
  have main : ∀ (k : Nat) (a b : Nat), b = k → iter (fun s : Int × Int => ref25_Gcd.s1 s.1 s.2) ((a : Int), (b : Int)) = some (.brk (Nat.gcd a b : Int)) := by
    intro k
    induction k using Nat.strongRecOn with
    | _ k ih =>
      intro a b hk
      by_cases h0 : b = 0
      · subst h0
        rw [iter_brk (t := (a : Int)) (by simp [ref25_Gcd.s1])]
        simp
      · have hne : ¬ (b : Int) = 0 := by omega
        have hm : Int.tmod (a : Int) (b : Int) = ((a % b : Nat) : Int) := rfl
        rw [iter_next (s' := ((b : Int), ((a % b : Nat) : Int))) (by simp only [ref25_Gcd.s1, lt', hm]; simp [h0]), ih (a % b) (by rw [← hk]; exact Nat.mod_lt _ (by omega)) b (a % b) rfl]
        rw [Nat.gcd_comm a b, Nat.gcd_rec b a, Nat.gcd_comm]
  show ((iter (fun s : Int × Int => ref25_Gcd.s1 s.1 s.2) ((x.natAbs : Int), (y.natAbs : Int))).bind fun o1 => fin o1 fun t => ref25_Gcd.k2 t) = _
  rw [main _ _ _ rfl]
  rfl

def badCx (a : Cx) : Prop := a.Den < 1 ∨ 1000000000 < a.Den ∨ a.Re < -1000000000 ∨ 1000000000 < a.Re ∨ a.Im < -1000000000 ∨ 1000000000 < a.Im ∨ Nat.gcd (Nat.gcd a.Re.natAbs a.Im.natAbs) a.Den.natAbs ≠ 1
open Classical in
noncomputable def chkCx (a : Cx) : Int := if badCx a then 8 else 0

theorem gcds3 (x y z : Int) : gcds [x, y, z] = Nat.gcd (Nat.gcd x.natAbs y.natAbs) z.natAbs := by simp [gcds]

theorem cx_small (n : Int) : cx_Check_1.f n = some (decide (-1000000000 ≤ n ∧ n ≤ 1000000000)) := by
  unfold cx_Check_1.f
  by_cases h : -1000000000 ≤ n <;> simp [h]
theorem cx_check_eq (a : Cx) : cx_Check.f a = some (chkCx a) := by
  unfold cx_Check.f chkCx
  simp only [cx_small, Option.bind_some]
  by_cases h1 : a.Den < 1
  · simp [h1, badCx, cx_Check.k1]
  by_cases h2 : -1000000000 ≤ a.Re ∧ a.Re ≤ 1000000000
  · by_cases h3 : -1000000000 ≤ a.Im ∧ a.Im ≤ 1000000000
    · by_cases h4 : -1000000000 ≤ a.Den ∧ a.Den ≤ 1000000000
      · rw [cx_gcd_eq [a.Re, a.Im, a.Den] (by simp) (by simp only [List.mem_cons, List.not_mem_nil, or_false]; rintro x (rfl | rfl | rfl) <;> omega), gcds3]
        simp only [h1, h2, h3, h4, and_self, decide_true, decide_false, Bool.false_eq_true, if_false, Bool.not_true, Option.bind_some, cx_Check.k1]
        have hb : badCx a ↔ Nat.gcd (Nat.gcd a.Re.natAbs a.Im.natAbs) a.Den.natAbs ≠ 1 := by
          unfold badCx
          constructor
          · rintro (h | h | h | h | h | h | h) <;> first | omega | exact h
          · intro h; exact .inr (.inr (.inr (.inr (.inr (.inr h)))))
        simp only [hb]
        by_cases h5 : Nat.gcd (Nat.gcd a.Re.natAbs a.Im.natAbs) a.Den.natAbs = 1
        · simp [h5]
        · have : ¬ ((Nat.gcd (Nat.gcd a.Re.natAbs a.Im.natAbs) a.Den.natAbs : Nat) : Int) = 1 := by omega
          simp [h5, this]
      · have hb : badCx a := by unfold badCx; omega
        simp [h1, h2, h3, h4, hb, cx_Check.k1]
    · have hb : badCx a := by unfold badCx; omega
      simp [h1, h2, h3, hb, cx_Check.k1]
  · have hb : badCx a := by unfold badCx; omega
    simp [h1, h2, hb, cx_Check.k1]
theorem ref_check_eq (a : Cx) : ref25_Check.f a = some (chkCx a) := by
  unfold ref25_Check.f chkCx
  by_cases h1 : a.Den < 1
  · simp [h1, badCx, ref25_Check.k1]
  by_cases h2 : 1000000000 < a.Den
  · simp [h1, h2, badCx, ref25_Check.k1]
  by_cases h3 : a.Re < -1000000000
  · simp [h1, h2, h3, badCx, ref25_Check.k1]
  by_cases h4 : 1000000000 < a.Re
  · simp [h1, h2, h3, h4, badCx, ref25_Check.k1]
  by_cases h5 : a.Im < -1000000000
  · simp [h1, h2, h3, h4, h5, badCx, ref25_Check.k1]
  by_cases h6 : 1000000000 < a.Im
  · simp [h1, h2, h3, h4, h5, h6, badCx, ref25_Check.k1]
  have hg : Nat.gcd a.Re.natAbs a.Im.natAbs ≤ 1000000000 := by
    rcases Nat.eq_zero_or_pos a.Re.natAbs with h0 | h0
    · rw [h0]; simp; omega
    · exact Nat.le_trans (Nat.gcd_le_left _ h0) (by omega)
  rw [ref_gcd_eq _ _ (by omega) (by omega), Option.bind_some, ref_gcd_eq _ _ (by omega) (by omega)]
  have hb : badCx a ↔ Nat.gcd (Nat.gcd a.Re.natAbs a.Im.natAbs) a.Den.natAbs ≠ 1 := by
    unfold badCx
    constructor
    · rintro (h | h | h | h | h | h | h) <;> first | omega | exact h
    · intro h; exact .inr (.inr (.inr (.inr (.inr (.inr h)))))
  simp only [h1, h2, h3, h4, h5, h6, decide_false, Bool.false_eq_true, if_false, Option.bind_some, ref25_Check.k1, hb, Int.natAbs_natCast]
  by_cases h7 : Nat.gcd (Nat.gcd a.Re.natAbs a.Im.natAbs) a.Den.natAbs = 1
  · simp [h7]
  · have : ¬ ((Nat.gcd (Nat.gcd a.Re.natAbs a.Im.natAbs) a.Den.natAbs : Nat) : Int) = 1 := by omega
    simp [h7, this]

/-! ### Reduced -/
abbrev W (x : Int) : Prop := -9223372036854775807 ≤ x ∧ x ≤ 9223372036854775807
abbrev B (x : Int) : Prop := -1000000000 ≤ x ∧ x ≤ 1000000000
theorem mul_bound {x y : Int} (hx : B x) (hy : B y) : -1000000000000000000 ≤ x * y ∧ x * y ≤ 1000000000000000000 := by
  have h1 : (x * y).natAbs ≤ 1000000000 * 1000000000 := by
    rw [Int.natAbs_mul]
    exact Nat.mul_le_mul (by omega) (by omega)
  omega
theorem tdiv_bound {x g : Int} (hx : W x) : W (Int.tdiv x g) := by
  have h1 : (Int.tdiv x g).natAbs ≤ x.natAbs := by
    rw [Int.natAbs_tdiv]
    exact Nat.div_le_self _ _
  omega
noncomputable def red (re im den : Int) : Cx × Int :=
  let g : Int := if den < 0 then -((Nat.gcd (Nat.gcd re.natAbs im.natAbs) den.natAbs : Nat) : Int) else ((Nat.gcd (Nat.gcd re.natAbs im.natAbs) den.natAbs : Nat) : Int)
  let c : Cx := ⟨Int.tdiv re g, Int.tdiv im g, Int.tdiv den g⟩
  if chkCx c = 0 then (c, 0) else (⟨0, 0, 0⟩, 16)
theorem gcd_pos {a b : Nat} {d : Int} (hd : d ≠ 0) : 0 < Nat.gcd (Nat.gcd a b) d.natAbs := Nat.gcd_pos_of_pos_right _ (by omega)
theorem gcd_le {a b : Nat} {d : Int} (hd : d ≠ 0) (h : W d) : Nat.gcd (Nat.gcd a b) d.natAbs ≤ 9223372036854775807 := Nat.le_trans (Nat.gcd_le_right _ (by omega)) (by omega)
theorem cx_reduced_eq (re im den : Int) (h1 : W re) (h2 : W im) (h3 : W den) (hd : den ≠ 0) : cx_reduced.f re im den = some (red re im den) := by
  unfold cx_reduced.f red
  rw [cx_gcd_eq [re, im, den] (by simp) (by simp only [List.mem_cons, List.not_mem_nil, or_false]; rintro x (rfl | rfl | rfl) <;> assumption), gcds3]
  have hp := gcd_pos (a := re.natAbs) (b := im.natAbs) hd
  have hl := gcd_le (a := re.natAbs) (b := im.natAbs) hd h3
  generalize Nat.gcd (Nat.gcd re.natAbs im.natAbs) den.natAbs = g at *
  have key : ∀ G : Int, G ≠ 0 → cx_reduced.k1 re im den G = some (if chkCx ⟨Int.tdiv re G, Int.tdiv im G, Int.tdiv den G⟩ = 0 then ((⟨Int.tdiv re G, Int.tdiv im G, Int.tdiv den G⟩ : Cx), 0) else (⟨0, 0, 0⟩, 16)) := by
    intro G hG
    unfold cx_reduced.k1
    have t1 := tdiv_bound (g := G) h1
    have t2 := tdiv_bound (g := G) h2
    have t3 := tdiv_bound (g := G) h3
    simp only [hG, not_false_eq_true, if_true, w64_id (show -9223372036854775808 ≤ Int.tdiv re G by omega) (by omega), w64_id (show -9223372036854775808 ≤ Int.tdiv im G by omega) (by omega), w64_id (show -9223372036854775808 ≤ Int.tdiv den G by omega) (by omega), cx_check_eq, Option.bind_some]
    by_cases hc : chkCx ⟨Int.tdiv re G, Int.tdiv im G, Int.tdiv den G⟩ = 0 <;> simp [hc]
  simp only [Option.bind_some, decide_eq_true_eq]
  by_cases hn : den < 0
  · simp only [hn, if_true]
    rw [w64_id (by omega) (by omega), show (0 : Int) - (g : Int) = -(g : Int) by omega, key _ (by omega)]
  · simp only [hn, if_false]
    rw [key _ (by omega)]
/-! ### Two numbers -/
theorem chk_cases (a : Cx) : chkCx a = 0 ∧ ¬ badCx a ∨ chkCx a = 8 ∧ badCx a := by
  unfold chkCx; by_cases h : badCx a <;> simp [h]
theorem or2 (x y : Int) : cmp_Or__api_Errno.f [x, y] = some (if x ≠ 0 then x else y) := by
  unfold cmp_Or__api_Errno.f
  have w1 : w64 (0 + 1) = 1 := by decide
  have w2 : w64 (1 + 1) = 2 := by decide
  by_cases hx : x = 0
  · rw [iter_next (s' := 1) (by simp [cmp_Or__api_Errno.s1, ix, hx, show w64 1 = 1 by decide])]
    by_cases hy : y = 0
    · rw [iter_next (s' := 2) (by simp [cmp_Or__api_Errno.s1, ix, hy]; decide), iter_brk (t := ()) (by simp [cmp_Or__api_Errno.s1])]
      simp [fin, cmp_Or__api_Errno.k2, hx, hy]
    · rw [iter_ret (v := y) (by simp [cmp_Or__api_Errno.s1, ix, hy])]
      simp [fin, hx]
  · rw [iter_ret (v := x) (by simp [cmp_Or__api_Errno.s1, ix, hx])]
    simp [fin, hx]
noncomputable def chk2 (a b : Cx) : Int := if chkCx a ≠ 0 then chkCx a else chkCx b
theorem cx_check2 (a b : Cx) : cx_check.f a b = some (chk2 a b) := by
  unfold cx_check.f
  rw [cx_check_eq, Option.bind_some, cx_check_eq, Option.bind_some, or2]
  rfl
theorem good_of {a b : Cx} (h : chk2 a b = 0) : ¬ badCx a ∧ ¬ badCx b := by
  unfold chk2 at h
  rcases chk_cases a with ⟨h1, h3⟩ | ⟨h1, _⟩ <;> rcases chk_cases b with ⟨h2, h4⟩ | ⟨h2, _⟩ <;> simp [h1, h2] at h
  exact ⟨h3, h4⟩
theorem good_bounds {a : Cx} (h : ¬ badCx a) : B a.Re ∧ B a.Im ∧ B a.Den ∧ 1 ≤ a.Den := by
  unfold badCx at h
  simp only [not_or] at h
  omega
theorem chk2_cases (a b : Cx) : chk2 a b = 0 ∨ chk2 a b = 8 := by
  unfold chk2
  rcases chk_cases a with ⟨h1, h3⟩ | ⟨h1, _⟩ <;> rcases chk_cases b with ⟨h2, h4⟩ | ⟨h2, _⟩ <;> simp [h1, h2]
noncomputable def mulS (a b : Cx) : Cx × Int := if chk2 a b = 0 then red (a.Re * b.Re - a.Im * b.Im) (a.Re * b.Im + a.Im * b.Re) (a.Den * b.Den) else (⟨0, 0, 0⟩, 8)
noncomputable def addS (a b : Cx) : Cx × Int := if chk2 a b = 0 then red (a.Re * b.Den + b.Re * a.Den) (a.Im * b.Den + b.Im * a.Den) (a.Den * b.Den) else (⟨0, 0, 0⟩, 8)
noncomputable def subS (a b : Cx) : Cx × Int := if chk2 a b = 0 then red (a.Re * b.Den - b.Re * a.Den) (a.Im * b.Den - b.Im * a.Den) (a.Den * b.Den) else (⟨0, 0, 0⟩, 8)
theorem den_ne {a b : Int} (h1 : 1 ≤ a) (h2 : 1 ≤ b) : a * b ≠ 0 := Int.mul_ne_zero (by omega) (by omega)
theorem cx_mul_eq (a b : Cx) : cx_Mul.f a b = some (mulS a b) := by
  unfold cx_Mul.f mulS
  rw [cx_check2]
  by_cases h : chk2 a b = 0
  · obtain ⟨ga, gb⟩ := good_of h
    obtain ⟨a1, a2, a3, a4⟩ := good_bounds ga
    obtain ⟨b1, b2, b3, b4⟩ := good_bounds gb
    have m1 := mul_bound a1 b1
    have m2 := mul_bound a2 b2
    have m3 := mul_bound a1 b2
    have m4 := mul_bound a2 b1
    have m5 := mul_bound a3 b3
    have hd := den_ne a4 b4
    simp only [Option.bind_some, h, decide_true, Bool.not_true, Bool.false_eq_true, if_false, if_true]
    rw [w64_id (x := a.Re * b.Re) (by omega) (by omega), w64_id (x := a.Im * b.Im) (by omega) (by omega), w64_id (x := a.Re * b.Im) (by omega) (by omega), w64_id (x := a.Im * b.Re) (by omega) (by omega), w64_id (x := a.Den * b.Den) (by omega) (by omega), w64_id (by omega) (by omega), w64_id (by omega) (by omega), cx_reduced_eq _ _ _ (by omega) (by omega) (by omega) hd]
    rfl
  · rcases chk2_cases a b with h' | h'
    · exact absurd h' h
    · simp [h']

theorem chk_zero (a : Cx) : chkCx a = 0 ↔ ¬ badCx a := by
  unfold chkCx; by_cases h : badCx a <;> simp [h]
theorem good2 {a b : Cx} (ha : ¬ badCx a) (hb : ¬ badCx b) : chk2 a b = 0 := by
  unfold chk2; simp [(chk_zero a).2 ha, (chk_zero b).2 hb]
theorem one_good : ¬ badCx ⟨1, 0, 1⟩ := by
  unfold badCx
  simp
/-- One times a good number. -/
theorem mul_one {v : Cx} (h : ¬ badCx v) : mulS ⟨1, 0, 1⟩ v = (v, 0) := by
  obtain ⟨b1, b2, b3, b4⟩ := good_bounds h
  have hg : Nat.gcd (Nat.gcd v.Re.natAbs v.Im.natAbs) v.Den.natAbs = 1 := by
    have h' := h
    unfold badCx at h'
    simp only [not_or] at h'
    simpa using h'.2.2.2.2.2.2
  unfold mulS
  rw [if_pos (good2 one_good h)]
  have e1 : (⟨1, 0, 1⟩ : Cx).Re * v.Re - (⟨1, 0, 1⟩ : Cx).Im * v.Im = v.Re := by simp
  have e2 : (⟨1, 0, 1⟩ : Cx).Re * v.Im + (⟨1, 0, 1⟩ : Cx).Im * v.Re = v.Im := by simp
  have e3 : (⟨1, 0, 1⟩ : Cx).Den * v.Den = v.Den := by simp
  rw [e1, e2, e3]
  unfold red
  simp only [hg, if_neg (show ¬ v.Den < 0 by omega), Int.natCast_one, Int.tdiv_one]
  rw [if_pos ((chk_zero v).2 h)]
end Go.Proofs.Ytifpegepdgmmbaa.M
