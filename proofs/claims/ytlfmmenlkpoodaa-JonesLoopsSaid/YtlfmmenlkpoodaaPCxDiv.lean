/- Plain laws of the complex numbers with rational parts: quotients. -/
import Derived.Test.YtlfmmenlkpoodaaPCx
set_option linter.unusedVariables false
set_option linter.unusedSimpArgs false
set_option maxRecDepth 100000
namespace Go.Proofs.Ytlfmmenlkpoodaa.M
open Go.GW Go.Proofs

/-- What is left behind the divisions has no common divisor. -/
theorem cop_div {p q n d e : Nat} (hn : 0 < n) (he : 0 < e) (hd : 0 < d) (h1 : Nat.gcd (Nat.gcd p q) n = 1) (h2 : Nat.gcd d e = 1) :
    let i := Nat.gcd d n; let j := Nat.gcd (Nat.gcd p q) e
    Nat.gcd (Nat.gcd (p / j * (d / i)) (q / j * (d / i))) (n / i * (e / j)) = 1 := by
  intro i j
  have hi : 0 < i := Nat.gcd_pos_of_pos_left _ hd
  have hj : 0 < j := Nat.gcd_pos_of_pos_right _ he
  have jp : j ∣ p := Nat.dvd_trans (Nat.gcd_dvd_left _ _) (Nat.gcd_dvd_left _ _)
  have jq : j ∣ q := Nat.dvd_trans (Nat.gcd_dvd_left _ _) (Nat.gcd_dvd_right _ _)
  have je : j ∣ e := Nat.gcd_dvd_right _ _
  have id' : i ∣ d := Nat.gcd_dvd_left _ _
  have in' : i ∣ n := Nat.gcd_dvd_right _ _
  rw [Nat.gcd_mul_right]
  have hs : Nat.gcd (p / j) (q / j) = Nat.gcd p q / j := Nat.gcd_div jp jq
  rw [hs]
  have c1 : Nat.Coprime (d / i) (n / i) := Nat.coprime_div_gcd_div_gcd hi
  have c2 : Nat.Coprime (d / i) (e / j) := Nat.Coprime.coprime_dvd_left (Nat.div_dvd_of_dvd id') (Nat.Coprime.coprime_dvd_right (Nat.div_dvd_of_dvd je) h2)
  have c3 : Nat.Coprime (Nat.gcd p q / j) (n / i) := Nat.Coprime.coprime_dvd_left (Nat.div_dvd_of_dvd (Nat.gcd_dvd_left _ _)) (Nat.Coprime.coprime_dvd_right (Nat.div_dvd_of_dvd in') h1)
  have c4 : Nat.Coprime (Nat.gcd p q / j) (e / j) := Nat.coprime_div_gcd_div_gcd hj
  exact Nat.Coprime.mul_left (Nat.Coprime.mul_right c3 c4) (Nat.Coprime.mul_right c1 c2)

theorem le_div {x t : Int} (ht : 1 ≤ t) : x ≤ Int.tdiv 1000000000 t ↔ x * t ≤ 1000000000 := by
  rw [Int.tdiv_eq_ediv_of_nonneg (by omega)]
  exact Int.le_ediv_iff_mul_le (by omega)
theorem fits_iff {x t : Int} (ht : 1 ≤ t) : (x ≤ Int.tdiv 1000000000 t ∧ -(Int.tdiv 1000000000 t) ≤ x) ↔ B (x * t) := by
  have h1 := le_div (x := x) ht
  have h2 := le_div (x := -x) ht
  rw [Int.neg_mul] at h2
  constructor
  · rintro ⟨a, b⟩; exact ⟨by have := h2.1 (by omega); omega, h1.1 a⟩
  · rintro ⟨a, b⟩; exact ⟨h1.2 b, by have := h2.2 (by omega); omega⟩
theorem div_small {t : Int} (ht : 1 ≤ t) : 0 ≤ Int.tdiv 1000000000 t ∧ Int.tdiv 1000000000 t ≤ 1000000000 := by
  rw [Int.tdiv_eq_ediv_of_nonneg (by omega)]
  exact ⟨Int.ediv_nonneg (by omega) (by omega), Int.ediv_le_self _ (by omega)⟩
theorem fits_eq {x t : Int} (ht : 1 ≤ t) : cx_Div_1.f x t = some (decide (B (x * t))) := by
  unfold cx_Div_1.f
  have hs := div_small ht
  have h0 : ¬ t = 0 := by omega
  rw [w64_id (by omega) (by omega), w64_id (by omega) (by omega), show 0 - Int.tdiv 1000000000 t = -(Int.tdiv 1000000000 t) by omega]
  have hf := fits_iff (x := x) ht
  simp only [h0, not_false_eq_true, if_true, decide_eq_true_eq]
  by_cases h1 : x ≤ Int.tdiv 1000000000 t
  · by_cases h2 : -(Int.tdiv 1000000000 t) ≤ x
    · have := hf.1 ⟨h1, h2⟩; simp [h1, h2, this]
    · have : ¬ B (x * t) := fun h => h2 (hf.2 h).2
      simp [h1, h2, this]
  · have : ¬ B (x * t) := fun h => h1 (hf.2 h).1
    simp [h1, this]
noncomputable def finS (p q d n e : Int) : Cx × Int := open Classical in if B (p * d) ∧ B (q * d) ∧ B (n * e) then (⟨p * d, q * d, n * e⟩, 0) else (⟨0, 0, 0⟩, 16)
theorem cx_tail {p q d n e : Int} (hd : 1 ≤ d) (he : 1 ≤ e) : ((cx_Div_1.f p d).bind fun t60 => (if (!t60) = true then cx_Div.k1 d n p q e true else ((cx_Div_1.f q d).bind fun t63 => (if (!t63) = true then cx_Div.k1 d n p q e true else ((cx_Div_1.f n e).bind fun t66 => cx_Div.k1 d n p q e (!t66)))))) = some (finS p q d n e) := by
  unfold finS
  rw [fits_eq hd, fits_eq hd, fits_eq he]
  simp only [Option.bind_some, cx_Div.k1]
  by_cases h1 : B (p * d)
  · by_cases h2 : B (q * d)
    · by_cases h3 : B (n * e)
      · rw [w64_id (x := p * d) (by omega) (by omega), w64_id (x := q * d) (by omega) (by omega), w64_id (x := n * e) (by omega) (by omega)]
        simp [h1, h2, h3]
      · simp [h1, h2, h3]
    · simp [h1, h2]
  · simp [h1]

theorem red_one {x y z : Int} (hz : 1 ≤ z) (hg : Nat.gcd (Nat.gcd x.natAbs y.natAbs) z.natAbs = 1) (hx : B x) (hy : B y) (hz' : B z) : red x y z = (⟨x, y, z⟩, 0) := by
  unfold red
  have hn : ¬ z < 0 := by omega
  simp only [hg, hn, if_false]
  have hb : chkCx ⟨x, y, z⟩ = 0 := (chk_zero _).2 (by unfold badCx; simp only [hg]; omega)
  simp [hb]
theorem abs_fits {x t : Int} (ht : 1 ≤ t) (hx : W x) : (w64 (Int.tdiv 1000000000 t) < gmax x (w64 (0 - x))) ↔ ¬ B (x * t) := by
  have hs := div_small ht
  have hf := fits_iff (x := x) ht
  rw [gmax_abs hx.1 hx.2, w64_id (by omega) (by omega), ← hf]
  omega
theorem pos_fits {x t : Int} (ht : 1 ≤ t) (hx : 1 ≤ x) : (w64 (Int.tdiv 1000000000 t) < x) ↔ ¬ B (x * t) := by
  have hs := div_small ht
  have hf := fits_iff (x := x) ht
  rw [w64_id (by omega) (by omega), ← hf]
  omega
def nz (a : Cx) : Prop := ¬ (a.Re = 0 ∧ a.Im = 0)
theorem zero_eq (a : Cx) : cx_zero.f a = some (decide (a.Re = 0 ∧ a.Im = 0)) := by
  unfold cx_zero.f
  by_cases h : a.Re = 0 <;> simp [h]
theorem rzero_eq (a : Cx) : ref25_Zero.f a = some (decide (a.Re = 0 ∧ a.Im = 0)) := by
  unfold ref25_Zero.f
  by_cases h : a.Re = 0 <;> simp [h]
theorem jzero_eq (a : Cx) : jones_zero.f a = some (decide (a.Re = 0 ∧ a.Im = 0)) := by
  unfold jones_zero.f
  by_cases h : a.Re = 0 <;> simp [h]

/-- The quotient out of P + Q i over N, times b's denominator over a's. -/
noncomputable def quoS (P Q N D E : Int) : Cx × Int :=
  let g : Int := (Nat.gcd (Nat.gcd P.natAbs Q.natAbs) N.natAbs : Nat)
  let h : Int := (Nat.gcd D.natAbs E.natAbs : Nat)
  let i : Int := (Nat.gcd (Int.tdiv D h).natAbs (Int.tdiv N g).natAbs : Nat)
  let j : Int := (Nat.gcd (Nat.gcd (Int.tdiv P g).natAbs (Int.tdiv Q g).natAbs) (Int.tdiv E h).natAbs : Nat)
  finS (Int.tdiv (Int.tdiv P g) j) (Int.tdiv (Int.tdiv Q g) j) (Int.tdiv (Int.tdiv D h) i) (Int.tdiv (Int.tdiv N g) i) (Int.tdiv (Int.tdiv E h) j)

/-- An exact division of what is at least one. -/
theorem tdiv_pos {x : Int} {g : Nat} (hx : 1 ≤ x) (hg : g ∣ x.natAbs) : 1 ≤ Int.tdiv x g ∧ Int.tdiv x g ≤ x := by
  have hg0 : 0 < g := Nat.pos_of_dvd_of_pos hg (by omega)
  obtain ⟨k, hk⟩ := hg
  have hxk : x = (g : Int) * (k : Int) := by
    have : (x.natAbs : Int) = x := by omega
    rw [← this, hk]; simp
  have hk1 : 1 ≤ k := by
    rcases Nat.eq_zero_or_pos k with h | h
    · subst h; simp at hxk; omega
    · exact h
  have hd : Int.tdiv x g = k := by
    rw [hxk, Int.mul_tdiv_cancel_left _ (by omega)]
  rw [hd]
  refine ⟨by omega, ?_⟩
  rw [hxk]
  have : (k : Int) * 1 ≤ (k : Int) * g := Int.mul_le_mul_of_nonneg_left (by omega) (by omega)
  rw [Int.mul_comm (g : Int)]
  omega
theorem tdiv_abs (x : Int) (g : Nat) : (Int.tdiv x g).natAbs = x.natAbs / g := by
  rw [Int.natAbs_tdiv]; rfl

structure QOk (P Q N D E : Int) : Prop where
  p : W P
  q : W Q
  n : 1 ≤ N ∧ N ≤ 9223372036854775807
  d : 1 ≤ D ∧ D ≤ 1000000000
  e : 1 ≤ E ∧ E ≤ 1000000000

/-- What the divisions leave, part by part. -/
structure QF (P Q N D E : Int) (g h i j : Nat) : Prop where
  g0 : 0 < g
  h0 : 0 < h
  i0 : 0 < i
  j0 : 0 < j
  p1 : W (Int.tdiv P g)
  q1 : W (Int.tdiv Q g)
  n1 : 1 ≤ Int.tdiv N g ∧ Int.tdiv N g ≤ 9223372036854775807
  d1 : 1 ≤ Int.tdiv D h ∧ Int.tdiv D h ≤ 1000000000
  e1 : 1 ≤ Int.tdiv E h ∧ Int.tdiv E h ≤ 1000000000
  p2 : W (Int.tdiv (Int.tdiv P g) j)
  q2 : W (Int.tdiv (Int.tdiv Q g) j)
  n2 : 1 ≤ Int.tdiv (Int.tdiv N g) i ∧ Int.tdiv (Int.tdiv N g) i ≤ 9223372036854775807
  d2 : 1 ≤ Int.tdiv (Int.tdiv D h) i ∧ Int.tdiv (Int.tdiv D h) i ≤ 1000000000
  e2 : 1 ≤ Int.tdiv (Int.tdiv E h) j ∧ Int.tdiv (Int.tdiv E h) j ≤ 1000000000
  gl : g ≤ 9223372036854775807
  hl : h ≤ 1000000000
  il : i ≤ 1000000000
  jl : j ≤ 1000000000
  cop : Nat.gcd (Nat.gcd (Int.tdiv (Int.tdiv P g) j * Int.tdiv (Int.tdiv D h) i).natAbs (Int.tdiv (Int.tdiv Q g) j * Int.tdiv (Int.tdiv D h) i).natAbs) (Int.tdiv (Int.tdiv N g) i * Int.tdiv (Int.tdiv E h) j).natAbs = 1
theorem qf {P Q N D E : Int} (k : QOk P Q N D E) {g h i j : Nat} (hg : g = Nat.gcd (Nat.gcd P.natAbs Q.natAbs) N.natAbs) (hh : h = Nat.gcd D.natAbs E.natAbs) (hi : i = Nat.gcd (Int.tdiv D h).natAbs (Int.tdiv N g).natAbs) (hj : j = Nat.gcd (Nat.gcd (Int.tdiv P g).natAbs (Int.tdiv Q g).natAbs) (Int.tdiv E h).natAbs) : QF P Q N D E g h i j := by
  obtain ⟨kp, kq, kn, kd, ke⟩ := k
  have g0 : 0 < g := by rw [hg]; exact Nat.gcd_pos_of_pos_right _ (by omega)
  have h0 : 0 < h := by rw [hh]; exact Nat.gcd_pos_of_pos_right _ (by omega)
  have gn : g ∣ N.natAbs := by rw [hg]; exact Nat.gcd_dvd_right _ _
  have gp : g ∣ P.natAbs := by rw [hg]; exact Nat.dvd_trans (Nat.gcd_dvd_left _ _) (Nat.gcd_dvd_left _ _)
  have gq : g ∣ Q.natAbs := by rw [hg]; exact Nat.dvd_trans (Nat.gcd_dvd_left _ _) (Nat.gcd_dvd_right _ _)
  have hD : h ∣ D.natAbs := by rw [hh]; exact Nat.gcd_dvd_left _ _
  have hE : h ∣ E.natAbs := by rw [hh]; exact Nat.gcd_dvd_right _ _
  have n1 := tdiv_pos kn.1 gn
  have d1 := tdiv_pos kd.1 hD
  have e1 := tdiv_pos ke.1 hE
  have iD : i ∣ (Int.tdiv D h).natAbs := by rw [hi]; exact Nat.gcd_dvd_left _ _
  have iN : i ∣ (Int.tdiv N g).natAbs := by rw [hi]; exact Nat.gcd_dvd_right _ _
  have jE : j ∣ (Int.tdiv E h).natAbs := by rw [hj]; exact Nat.gcd_dvd_right _ _
  have i0 : 0 < i := Nat.pos_of_dvd_of_pos iD (by omega)
  have j0 : 0 < j := Nat.pos_of_dvd_of_pos jE (by omega)
  have n2 := tdiv_pos n1.1 iN
  have d2 := tdiv_pos d1.1 iD
  have e2 := tdiv_pos e1.1 jE
  have p1 := tdiv_bound (g := g) kp
  have q1 := tdiv_bound (g := g) kq
  refine ⟨g0, h0, i0, j0, p1, q1, by omega, by omega, by omega, tdiv_bound p1, tdiv_bound q1, by omega, by omega, by omega, ?_, ?_, ?_, ?_, ?_⟩
  · have := Nat.le_of_dvd (by omega) gn; omega
  · have := Nat.le_of_dvd (by omega) hD; omega
  · have := Nat.le_of_dvd (by omega) iD; omega
  · have := Nat.le_of_dvd (by omega) jE; omega
  · simp only [Int.natAbs_mul, tdiv_abs]
    simp only [tdiv_abs] at hi hj
    have c := cop_div (p := P.natAbs / g) (q := Q.natAbs / g) (n := N.natAbs / g) (d := D.natAbs / h) (e := E.natAbs / h) (Nat.div_pos (Nat.le_of_dvd (by omega) gn) g0) (Nat.div_pos (Nat.le_of_dvd (by omega) hE) h0) (Nat.div_pos (Nat.le_of_dvd (by omega) hD) h0)
      (by rw [Nat.gcd_div gp gq, Nat.gcd_div (by rw [hg]; exact Nat.gcd_dvd_left _ _) gn, ← hg, Nat.div_self g0])
      (by rw [Nat.gcd_div hD hE, ← hh, Nat.div_self h0])
    simp only [← hi, ← hj] at c
    exact c

theorem gcds2 (x y : Int) : gcds [x, y] = Nat.gcd x.natAbs y.natAbs := by simp [gcds]
theorem cx_gcd3 (x y z : Int) (hx : W x) (hy : W y) (hz : W z) : cx_gcd.f [x, y, z] = some ((Nat.gcd (Nat.gcd x.natAbs y.natAbs) z.natAbs : Nat) : Int) := by
  rw [cx_gcd_eq [x, y, z] (by simp) (by simp only [List.mem_cons, List.not_mem_nil, or_false]; rintro x (rfl | rfl | rfl) <;> assumption), gcds3]
theorem cx_gcd2 (x y : Int) (hx : W x) (hy : W y) : cx_gcd.f [x, y] = some ((Nat.gcd x.natAbs y.natAbs : Nat) : Int) := by
  rw [cx_gcd_eq [x, y] (by simp) (by simp only [List.mem_cons, List.not_mem_nil, or_false]; rintro x (rfl | rfl) <;> assumption), gcds2]
theorem w64W {x : Int} (h : W x) : w64 x = x := w64_id (by omega) (by omega)

/-- The program's way from P, Q, N on. -/
theorem cx_way {P Q N D E : Int} (k : QOk P Q N D E) :
    ((cx_gcd.f ([P, Q, N] : List Int)).bind fun t19 => (if ¬ t19 = 0 then (if ¬ t19 = 0 then (if ¬ t19 = 0 then lt' (w64 (Int.tdiv P t19)) fun re24 => lt' (w64 (Int.tdiv Q t19)) fun im25 => lt' (w64 (Int.tdiv N t19)) fun low26 => ((cx_gcd.f ([D, E] : List Int)).bind fun t28 => (if ¬ t28 = 0 then (if ¬ t28 = 0 then lt' (w64 (Int.tdiv D t28)) fun up32 => lt' (w64 (Int.tdiv E t28)) fun down33 => ((cx_gcd.f ([up32, low26] : List Int)).bind fun t35 => (if ¬ t35 = 0 then (if ¬ t35 = 0 then lt' (w64 (Int.tdiv up32 t35)) fun up39 => lt' (w64 (Int.tdiv low26 t35)) fun low40 => ((cx_gcd.f ([re24, im25, down33] : List Int)).bind fun t42 => (if ¬ t42 = 0 then (if ¬ t42 = 0 then (if ¬ t42 = 0 then lt' (w64 (Int.tdiv re24 t42)) fun re47 => lt' (w64 (Int.tdiv im25 t42)) fun im48 => lt' (w64 (Int.tdiv down33 t42)) fun down49 => ((cx_Div_1.f re47 up39).bind fun t60 => (if (!t60) = true then cx_Div.k1 up39 low40 re47 im48 down49 true else ((cx_Div_1.f im48 up39).bind fun t63 => (if (!t63) = true then cx_Div.k1 up39 low40 re47 im48 down49 true else ((cx_Div_1.f low40 down49).bind fun t66 => cx_Div.k1 up39 low40 re47 im48 down49 (!t66)))))) else none) else none) else none)) else none) else none)) else none) else none)) else none) else none) else none)) = some (quoS P Q N D E) := by
  unfold quoS
  simp only []
  obtain ⟨kp, kq, kn, kd, ke⟩ := id k
  generalize hg : Nat.gcd (Nat.gcd P.natAbs Q.natAbs) N.natAbs = g
  generalize hh : Nat.gcd D.natAbs E.natAbs = h
  generalize hi : Nat.gcd (Int.tdiv D h).natAbs (Int.tdiv N g).natAbs = i
  generalize hj : Nat.gcd (Nat.gcd (Int.tdiv P g).natAbs (Int.tdiv Q g).natAbs) (Int.tdiv E h).natAbs = j
  have F := qf k hg.symm hh.symm hi.symm hj.symm
  have g0 : ¬ (g : Int) = 0 := by have := F.g0; omega
  have h0 : ¬ (h : Int) = 0 := by have := F.h0; omega
  have i0 : ¬ (i : Int) = 0 := by have := F.i0; omega
  have j0 : ¬ (j : Int) = 0 := by have := F.j0; omega
  have n1 := F.n1
  have d1 := F.d1
  have e1 := F.e1
  have n2 := F.n2
  have d2 := F.d2
  have e2 := F.e2
  rw [cx_gcd3 P Q N kp kq (by omega), hg, Option.bind_some]
  simp only [g0, not_false_eq_true, if_true, lt', w64W F.p1, w64W F.q1, w64W (show W (Int.tdiv N g) by omega)]
  rw [cx_gcd2 D E (by omega) (by omega), hh, Option.bind_some]
  simp only [h0, not_false_eq_true, if_true, w64W (show W (Int.tdiv D h) by omega), w64W (show W (Int.tdiv E h) by omega)]
  rw [cx_gcd2 _ _ (show W (Int.tdiv D h) by omega) (show W (Int.tdiv N g) by omega), hi, Option.bind_some]
  simp only [i0, not_false_eq_true, if_true, w64W (show W (Int.tdiv (Int.tdiv D h) i) by omega), w64W (show W (Int.tdiv (Int.tdiv N g) i) by omega)]
  rw [cx_gcd3 _ _ _ F.p1 F.q1 (show W (Int.tdiv E h) by omega), hj, Option.bind_some]
  simp only [j0, not_false_eq_true, if_true, w64W F.p2, w64W F.q2, w64W (show W (Int.tdiv (Int.tdiv E h) j) by omega)]
  exact cx_tail d2.1 e2.1

theorem div_ok {a b : Cx} (ga : ¬ badCx a) (gb : ¬ badCx b) (hb : nz b) : QOk (a.Re * b.Re + a.Im * b.Im) (a.Im * b.Re - a.Re * b.Im) (b.Re * b.Re + b.Im * b.Im) b.Den a.Den := by
  obtain ⟨a1, a2, a3, a4⟩ := good_bounds ga
  obtain ⟨b1, b2, b3, b4⟩ := good_bounds gb
  have m1 := mul_bound a1 b1
  have m2 := mul_bound a2 b2
  have m3 := mul_bound a2 b1
  have m4 := mul_bound a1 b2
  have m5 := mul_bound b1 b1
  have m6 := mul_bound b2 b2
  have s1 : 0 ≤ b.Re * b.Re := by rcases Int.le_total 0 b.Re with h | h; exact Int.mul_nonneg h h; exact Int.mul_nonneg_of_nonpos_of_nonpos h h
  have s2 : 0 ≤ b.Im * b.Im := by rcases Int.le_total 0 b.Im with h | h; exact Int.mul_nonneg h h; exact Int.mul_nonneg_of_nonpos_of_nonpos h h
  have s3 : b.Re * b.Re + b.Im * b.Im ≠ 0 := by
    intro h
    have h1 : b.Re * b.Re = 0 := by omega
    have h2 : b.Im * b.Im = 0 := by omega
    exact hb ⟨by rcases Int.mul_eq_zero.1 h1 with h | h <;> exact h, by rcases Int.mul_eq_zero.1 h2 with h | h <;> exact h⟩
  exact ⟨by omega, by omega, by omega, by omega, by omega⟩
noncomputable def divS (a b : Cx) : Cx × Int := open Classical in
  if chk2 a b = 0 then (if nz b then quoS (a.Re * b.Re + a.Im * b.Im) (a.Im * b.Re - a.Re * b.Im) (b.Re * b.Re + b.Im * b.Im) b.Den a.Den else (⟨0, 0, 0⟩, 18)) else (⟨0, 0, 0⟩, 8)
/-- Nought over anything: as it stands. -/
theorem quo_zero {a b : Cx} (ga : ¬ badCx a) (gb : ¬ badCx b) (hb : nz b) (hr : a.Re = 0) (hi : a.Im = 0) : quoS (a.Re * b.Re + a.Im * b.Im) (a.Im * b.Re - a.Re * b.Im) (b.Re * b.Re + b.Im * b.Im) b.Den a.Den = (a, 0) := by
  have k := div_ok ga gb hb
  obtain ⟨b1, b2, b3, b4⟩ := good_bounds gb
  have hden : a.Den = 1 := by
    obtain ⟨a1, a2, a3, a4⟩ := good_bounds ga
    unfold badCx at ga
    simp only [not_or, hr, hi] at ga
    have := ga.2.2.2.2.2.2
    simp at this
    omega
  rw [hr, hi] at k ⊢
  rw [hden] at k ⊢
  have hP : (0 : Int) * b.Re + 0 * b.Im = 0 := by omega
  have hQ : (0 : Int) * b.Re - 0 * b.Im = 0 := by omega
  rw [hP, hQ] at k ⊢
  generalize hN : b.Re * b.Re + b.Im * b.Im = N at *
  obtain ⟨_, _, kn, kd, _⟩ := k
  have hNN : ((N.natAbs : Nat) : Int) = N := by omega
  have hdn : Int.tdiv N N = 1 := Int.tdiv_self (by omega)
  unfold quoS
  simp [hNN, hdn]
  unfold finS
  simp
  obtain ⟨r, m, dn⟩ := a
  simp_all
theorem cx_div_eq (a b : Cx) : cx_Div.f a b = some (divS a b) := by
  unfold cx_Div.f divS
  rw [cx_check2, Option.bind_some]
  rcases chk2_cases a b with h | h
  · obtain ⟨ga, gb⟩ := good_of h
    simp only [h, decide_true, Bool.not_true, Bool.false_eq_true, if_false, if_true, zero_eq, Option.bind_some, decide_eq_true_eq]
    by_cases hb : b.Re = 0 ∧ b.Im = 0
    · simp [hb, nz]
    · have hb' : nz b := hb
      simp only [hb, if_false, hb', if_true]
      by_cases ha : a.Re = 0 ∧ a.Im = 0
      · rw [quo_zero ga gb hb' ha.1 ha.2]; simp [ha]
      · have k := div_ok ga gb hb'
        obtain ⟨a1, a2, a3, a4⟩ := good_bounds ga
        obtain ⟨b1, b2, b3, b4⟩ := good_bounds gb
        have m1 := mul_bound a1 b1
        have m2 := mul_bound a2 b2
        have m3 := mul_bound a2 b1
        have m4 := mul_bound a1 b2
        have m5 := mul_bound b1 b1
        have m6 := mul_bound b2 b2
        simp only [ha, if_false]
        rw [w64W (x := a.Re * b.Re) (by omega), w64W (x := a.Im * b.Im) (by omega), w64W (x := a.Im * b.Re) (by omega), w64W (x := a.Re * b.Im) (by omega), w64W (x := b.Re * b.Re) (by omega), w64W (x := b.Im * b.Im) (by omega), w64W k.p, w64W k.q, w64W (show W (b.Re * b.Re + b.Im * b.Im) by have := k.n; omega)]
        exact cx_way k
  · simp [h]
end Go.Proofs.Ytlfmmenlkpoodaa.M
