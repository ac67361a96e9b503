/-
  Gw22: places of arrays of arrays at reckoned indices; a part of an array value at a reckoned index.
-/
import Derived.Test.YtiepcikippcfaaaGw21
set_option linter.unusedVariables false
set_option linter.unusedSimpArgs false
namespace Go.GW
open Go

def A8.toLL {α : Type} (x : A8 (A8 α)) : List α := [x.e0.e0, x.e0.e1, x.e0.e2, x.e0.e3, x.e0.e4, x.e0.e5, x.e0.e6, x.e0.e7, x.e1.e0, x.e1.e1, x.e1.e2, x.e1.e3, x.e1.e4, x.e1.e5, x.e1.e6, x.e1.e7, x.e2.e0, x.e2.e1, x.e2.e2, x.e2.e3, x.e2.e4, x.e2.e5, x.e2.e6, x.e2.e7, x.e3.e0, x.e3.e1, x.e3.e2, x.e3.e3, x.e3.e4, x.e3.e5, x.e3.e6, x.e3.e7, x.e4.e0, x.e4.e1, x.e4.e2, x.e4.e3, x.e4.e4, x.e4.e5, x.e4.e6, x.e4.e7, x.e5.e0, x.e5.e1, x.e5.e2, x.e5.e3, x.e5.e4, x.e5.e5, x.e5.e6, x.e5.e7, x.e6.e0, x.e6.e1, x.e6.e2, x.e6.e3, x.e6.e4, x.e6.e5, x.e6.e6, x.e6.e7, x.e7.e0, x.e7.e1, x.e7.e2, x.e7.e3, x.e7.e4, x.e7.e5, x.e7.e6, x.e7.e7]
def A8.ofLL {α : Type} [Inhabited α] (l : List α) : A8 (A8 α) := ⟨⟨ix l 0, ix l 1, ix l 2, ix l 3, ix l 4, ix l 5, ix l 6, ix l 7⟩, ⟨ix l 8, ix l 9, ix l 10, ix l 11, ix l 12, ix l 13, ix l 14, ix l 15⟩, ⟨ix l 16, ix l 17, ix l 18, ix l 19, ix l 20, ix l 21, ix l 22, ix l 23⟩, ⟨ix l 24, ix l 25, ix l 26, ix l 27, ix l 28, ix l 29, ix l 30, ix l 31⟩, ⟨ix l 32, ix l 33, ix l 34, ix l 35, ix l 36, ix l 37, ix l 38, ix l 39⟩, ⟨ix l 40, ix l 41, ix l 42, ix l 43, ix l 44, ix l 45, ix l 46, ix l 47⟩, ⟨ix l 48, ix l 49, ix l 50, ix l 51, ix l 52, ix l 53, ix l 54, ix l 55⟩, ⟨ix l 56, ix l 57, ix l 58, ix l 59, ix l 60, ix l 61, ix l 62, ix l 63⟩⟩
theorem cons_of {α : Type} {l : List α} {n : Nat} (h : l.length = n + 1) : ∃ a t, l = a :: t ∧ t.length = n := by
  cases l with
  | nil => cases h
  | cons a t => exact ⟨a, t, rfl, by simpa using h⟩
theorem ofLL8 {α : Type} [Inhabited α] (f : Fl α) {l : List α} (h : l.length = 64) : l.flatMap f.enc = (flArr8 (flArr8 f)).enc (A8.ofLL l) := by
  obtain ⟨a0, l0, e0, h0⟩ := cons_of h; subst e0
  obtain ⟨a1, l1, e1, h1⟩ := cons_of h0; subst e1
  obtain ⟨a2, l2, e2, h2⟩ := cons_of h1; subst e2
  obtain ⟨a3, l3, e3, h3⟩ := cons_of h2; subst e3
  obtain ⟨a4, l4, e4, h4⟩ := cons_of h3; subst e4
  obtain ⟨a5, l5, e5, h5⟩ := cons_of h4; subst e5
  obtain ⟨a6, l6, e6, h6⟩ := cons_of h5; subst e6
  obtain ⟨a7, l7, e7, h7⟩ := cons_of h6; subst e7
  obtain ⟨a8, l8, e8, h8⟩ := cons_of h7; subst e8
  obtain ⟨a9, l9, e9, h9⟩ := cons_of h8; subst e9
  obtain ⟨a10, l10, e10, h10⟩ := cons_of h9; subst e10
  obtain ⟨a11, l11, e11, h11⟩ := cons_of h10; subst e11
  obtain ⟨a12, l12, e12, h12⟩ := cons_of h11; subst e12
  obtain ⟨a13, l13, e13, h13⟩ := cons_of h12; subst e13
  obtain ⟨a14, l14, e14, h14⟩ := cons_of h13; subst e14
  obtain ⟨a15, l15, e15, h15⟩ := cons_of h14; subst e15
  obtain ⟨a16, l16, e16, h16⟩ := cons_of h15; subst e16
  obtain ⟨a17, l17, e17, h17⟩ := cons_of h16; subst e17
  obtain ⟨a18, l18, e18, h18⟩ := cons_of h17; subst e18
  obtain ⟨a19, l19, e19, h19⟩ := cons_of h18; subst e19
  obtain ⟨a20, l20, e20, h20⟩ := cons_of h19; subst e20
  obtain ⟨a21, l21, e21, h21⟩ := cons_of h20; subst e21
  obtain ⟨a22, l22, e22, h22⟩ := cons_of h21; subst e22
  obtain ⟨a23, l23, e23, h23⟩ := cons_of h22; subst e23
  obtain ⟨a24, l24, e24, h24⟩ := cons_of h23; subst e24
  obtain ⟨a25, l25, e25, h25⟩ := cons_of h24; subst e25
  obtain ⟨a26, l26, e26, h26⟩ := cons_of h25; subst e26
  obtain ⟨a27, l27, e27, h27⟩ := cons_of h26; subst e27
  obtain ⟨a28, l28, e28, h28⟩ := cons_of h27; subst e28
  obtain ⟨a29, l29, e29, h29⟩ := cons_of h28; subst e29
  obtain ⟨a30, l30, e30, h30⟩ := cons_of h29; subst e30
  obtain ⟨a31, l31, e31, h31⟩ := cons_of h30; subst e31
  obtain ⟨a32, l32, e32, h32⟩ := cons_of h31; subst e32
  obtain ⟨a33, l33, e33, h33⟩ := cons_of h32; subst e33
  obtain ⟨a34, l34, e34, h34⟩ := cons_of h33; subst e34
  obtain ⟨a35, l35, e35, h35⟩ := cons_of h34; subst e35
  obtain ⟨a36, l36, e36, h36⟩ := cons_of h35; subst e36
  obtain ⟨a37, l37, e37, h37⟩ := cons_of h36; subst e37
  obtain ⟨a38, l38, e38, h38⟩ := cons_of h37; subst e38
  obtain ⟨a39, l39, e39, h39⟩ := cons_of h38; subst e39
  obtain ⟨a40, l40, e40, h40⟩ := cons_of h39; subst e40
  obtain ⟨a41, l41, e41, h41⟩ := cons_of h40; subst e41
  obtain ⟨a42, l42, e42, h42⟩ := cons_of h41; subst e42
  obtain ⟨a43, l43, e43, h43⟩ := cons_of h42; subst e43
  obtain ⟨a44, l44, e44, h44⟩ := cons_of h43; subst e44
  obtain ⟨a45, l45, e45, h45⟩ := cons_of h44; subst e45
  obtain ⟨a46, l46, e46, h46⟩ := cons_of h45; subst e46
  obtain ⟨a47, l47, e47, h47⟩ := cons_of h46; subst e47
  obtain ⟨a48, l48, e48, h48⟩ := cons_of h47; subst e48
  obtain ⟨a49, l49, e49, h49⟩ := cons_of h48; subst e49
  obtain ⟨a50, l50, e50, h50⟩ := cons_of h49; subst e50
  obtain ⟨a51, l51, e51, h51⟩ := cons_of h50; subst e51
  obtain ⟨a52, l52, e52, h52⟩ := cons_of h51; subst e52
  obtain ⟨a53, l53, e53, h53⟩ := cons_of h52; subst e53
  obtain ⟨a54, l54, e54, h54⟩ := cons_of h53; subst e54
  obtain ⟨a55, l55, e55, h55⟩ := cons_of h54; subst e55
  obtain ⟨a56, l56, e56, h56⟩ := cons_of h55; subst e56
  obtain ⟨a57, l57, e57, h57⟩ := cons_of h56; subst e57
  obtain ⟨a58, l58, e58, h58⟩ := cons_of h57; subst e58
  obtain ⟨a59, l59, e59, h59⟩ := cons_of h58; subst e59
  obtain ⟨a60, l60, e60, h60⟩ := cons_of h59; subst e60
  obtain ⟨a61, l61, e61, h61⟩ := cons_of h60; subst e61
  obtain ⟨a62, l62, e62, h62⟩ := cons_of h61; subst e62
  obtain ⟨a63, l63, e63, h63⟩ := cons_of h62; subst e63
  cases List.eq_nil_of_length_eq_zero h63
  simp only [flArr8, List.flatMap_cons, List.flatMap_nil, List.append_nil, List.append_assoc]
  rfl
theorem two_lo {i j : Int} (n : Nat) (h0 : 0 ≤ i) (h1 : 0 ≤ j) : 0 ≤ i * (n : Int) + j := Int.add_nonneg (Int.mul_nonneg h0 (Int.natCast_nonneg n)) h1
theorem two_hi {i j : Int} (m n : Nat) (h1 : i < (m : Int)) (h2 : j < (n : Int)) : i * (n : Int) + j < ((m * n : Nat) : Int) := by
  have h : (i + 1) * (n : Int) ≤ (m : Int) * (n : Int) := Int.mul_le_mul_of_nonneg_right (by omega) (Int.natCast_nonneg n)
  rw [Int.add_mul] at h
  push_cast
  omega
theorem two_off {o i j : Int} (b n sz : Nat) (h0 : 0 ≤ i) (h1 : 0 ≤ j) : b + i.toNat * (n * sz) + j.toNat * sz = b + (i * (n : Int) + j).toNat * sz := by
  have e : (i * (n : Int) + j).toNat = i.toNat * n + j.toNat := by
    have h2 : i = (i.toNat : Int) := by omega
    have h3 : j = (j.toNat : Int) := by omega
    rw [h2, h3]
    rw [← Int.natCast_mul, ← Int.natCast_add, Int.toNat_natCast, Int.toNat_natCast, Int.toNat_natCast]
  rw [e, Nat.add_mul, Nat.mul_assoc, Nat.add_assoc]
section
variable {X : Ctx} {ρ : Env} {Δ : List At} {Q : Exit → Act → World → Prop} {ops : Array Oper} {rest : List Oper}
theorem gives_ixArrE {d : Option Tmp} {s x : Operand} {ty ty' E : TypeId} {pos : String} {after : Array Edge} {b o : Nat} {i j : Int} (n sz : Nat) (kd : IntKind) (hi : 0 ≤ i) (h0 : 0 ≤ j) (h1 : j < (n : Int)) (hT : X.P.underlying ty = some (.array n E)) (hE : tySize X.P E = some sz)
    (hs : known ρ s = true := by kernel_rfl) (hx : known ρ x = true := by kernel_rfl) (hse : ev ρ s = .pointer (some ⟨b, o + i.toNat * (n * sz), none⟩) := by kernel_rfl) (hxe : ev ρ x = .int kd j := by kernel_rfl) :
    Gives X ρ Δ ⟨d, .indexAddr ty s x, ty', pos, after, none⟩ (.pointer (some ⟨b, o + (i * (n : Int) + j).toNat * sz, none⟩)) := by
  rw [← two_off (o := 0) o n sz hi h0]
  exact gives_ixArrD n sz kd h0 h1 hT hE hs hx hse hxe
theorem givesW_ixArrE {d : Option Tmp} {s x : Operand} {ty ty' E : TypeId} {pos : String} {after : Array Edge} {b o : Nat} {i j : Int} (n sz : Nat) (kd : IntKind) (hi : 0 ≤ i) (h0 : 0 ≤ j) (h1 : j < (n : Int)) (hT : X.P.underlying ty = some (.array n E)) (hE : tySize X.P E = some sz)
    (hs : known ρ s = true := by kernel_rfl) (hx : known ρ x = true := by kernel_rfl) (hse : ev ρ s = .pointer (some ⟨b, o + i.toNat * (n * sz), none⟩) := by kernel_rfl) (hxe : ev ρ x = .int kd j := by kernel_rfl) :
    GivesW X ρ ⟨d, .indexAddr ty s x, ty', pos, after, none⟩ (.pointer (some ⟨b, o + (i * (n : Int) + j).toNat * sz, none⟩)) := by
  rw [← two_off (o := 0) o n sz hi h0]
  exact givesW_ixArrD n sz kd h0 h1 hT hE hs hx hse hxe
/-- A part of an array value, itself of several cells, at an index that is reckoned. -/
theorem gives_indexArr {α : Type} [Inhabited α] (f : Fl α) (xs : List α) {d : Option Tmp} {s x : Operand} {ty ty' E : TypeId} {pos : String} {after : Array Edge} {i : Int} (n : Nat) (kd : IntKind) (h0 : 0 ≤ i) (h1 : i < (n : Int)) (hT : X.P.underlying ty = some (.array n E)) (hE : tySize X.P E = some f.sz) (hag : tyAgg X.P E = some true)
    (hn : xs.length = n := by kernel_rfl) (hs : known ρ s = true := by kernel_rfl) (hx : known ρ x = true := by kernel_rfl) (hse : ev ρ s = .agg (xs.flatMap f.enc).toArray := by kernel_rfl) (hxe : ev ρ x = .int kd i := by kernel_rfl) :
    Gives X ρ Δ ⟨d, .index ty s x, ty', pos, after, none⟩ (.agg (f.enc (ix xs i)).toArray) := by
  intro a w ha hw
  have h2 : 0 ≤ i ∧ i < (n : Int) := ⟨h0, h1⟩
  have hE' : ((xs.flatMap f.enc).drop (i.toNat * f.sz)).take f.sz = f.enc (ix xs i) := Reps.at_ ((Reps.flat (w := w) (S := fun _ => True)).2 (rfl : xs.flatMap f.enc = xs.flatMap f.enc)) (ix_some h0 (by omega))
  simp only [execOp, ha.eval hs, ha.eval hx, hse, hxe, Instr.index, asIntOf, pure_bind, Sem.run_bind, run_underlying hT, Result.andThen_ok, Sem.run_pure]
  simp only [h2, and_self, if_true, part, Sem.run_bind, gw_sizeOf hE, gw_isAgg hag, Result.andThen_ok, Sem.run_pure]
  rw [← hE']
  simp [List.take_drop, Nat.add_comm]
theorem gives_indexArr1 {α : Type} [Inhabited α] (f : Fl α) (xs : List α) {d : Option Tmp} {s x : Operand} {ty ty' E : TypeId} {pos : String} {after : Array Edge} {i : Int} {v : Value} (n : Nat) (kd : IntKind) (h0 : 0 ≤ i) (h1 : i < (n : Int)) (hT : X.P.underlying ty = some (.array n E)) (hE : tySize X.P E = some f.sz) (hag : tyAgg X.P E = some false)
    (hv : f.enc (ix xs i) = [v] := by kernel_rfl) (hn : xs.length = n := by kernel_rfl) (hs : known ρ s = true := by kernel_rfl) (hx : known ρ x = true := by kernel_rfl) (hse : ev ρ s = .agg (xs.flatMap f.enc).toArray := by kernel_rfl) (hxe : ev ρ x = .int kd i := by kernel_rfl) :
    Gives X ρ Δ ⟨d, .index ty s x, ty', pos, after, none⟩ v := by
  intro a w ha hw
  have h2 : 0 ≤ i ∧ i < (n : Int) := ⟨h0, h1⟩
  have hE' : ((xs.flatMap f.enc).drop (i.toNat * f.sz)).take f.sz = f.enc (ix xs i) := Reps.at_ ((Reps.flat (w := w) (S := fun _ => True)).2 (rfl : xs.flatMap f.enc = xs.flatMap f.enc)) (ix_some h0 (by omega))
  have hz : f.sz = 1 := by rw [← f.len (ix xs i), hv]; rfl
  simp only [execOp, ha.eval hs, ha.eval hx, hse, hxe, Instr.index, asIntOf, pure_bind, Sem.run_bind, run_underlying hT, Result.andThen_ok, Sem.run_pure]
  simp only [h2, and_self, if_true, part, Sem.run_bind, gw_sizeOf hE, gw_isAgg hag, Result.andThen_ok, Sem.run_pure]
  have hg : (xs.flatMap f.enc).toArray[i.toNat * f.sz]? = some v := by
    rw [hv] at hE'
    have h3 : ((xs.flatMap f.enc).drop (i.toNat * f.sz))[0]? = some v := by
      have h4 : (((xs.flatMap f.enc).drop (i.toNat * f.sz)).take f.sz)[0]? = some v := by rw [hE']; rfl
      rw [List.getElem?_take] at h4
      simpa [hz] using h4
    rw [List.getElem?_drop] at h3
    simpa using h3
  simp [hg, Sem.run_pure]
end
end Go.GW
