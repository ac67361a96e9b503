/-
  Gw21: sums and differences with carries (the model's own entries), an own row cut to its beginning.
-/
import Derived.Test.YtiepcikippcfaaaGw20
import Derived.Laws.Externs
set_option linter.unusedVariables false
set_option linter.unusedSimpArgs false
namespace Go.GW
open Go

def addS (x y c : Int) : Int := (((x.toNat + y.toNat + c.toNat) % 18446744073709551616 : Nat) : Int)
def addC (x y c : Int) : Int := (((x.toNat + y.toNat + c.toNat) / 18446744073709551616 : Nat) : Int)
def subS (x y b : Int) : Int := (((x.toNat + 18446744073709551616 - y.toNat - b.toNat) % 18446744073709551616 : Nat) : Int)
def subB (x y b : Int) : Int := ((if x.toNat < y.toNat + b.toNat then 1 else 0 : Nat) : Int)

def subEntry : Array Value → Sem Value := fun args => do
  let (x, y, b) ← Extern.MathBitsCarry.three "Sub64" args
  pure (Extern.MathBitsCarry.pair ((x + Extern.MathBitsCarry.m64 - y - b) % Extern.MathBitsCarry.m64) (if x < y + b then 1 else 0))

section
variable {X : Ctx} {ρ : Env} {Δ : List At} {Q : Exit → Act → World → Prop} {ops : Array Oper} {rest : List Oper}

theorem gives_bits {d : Option Tmp} {fo a1 a2 a3 : Operand} {ats : Array TypeId} {ty : TypeId} {pos : String} {after : Array Edge} {v : Value} (f : FuncId) (fn : Func) (e : Array Value → Sem Value) (x y c : Int) (k1 k2 k3 : IntKind) (hfn : X.P.funcs[f]? = some fn)
    (hrun : ∀ w, (e #[.int k1 x, .int k2 y, .int k3 c]).run X.P w = .ok v w)
    (hname : (fn.name == "runtime.NumGoroutine") = false := by kernel_rfl) (hb : fn.body.isNone = true := by kernel_rfl) (hn : Extern.findNext fn = none := by kernel_rfl) (he : Extern.find fn = some e := by kernel_rfl)
    (hf : known ρ fo = true := by kernel_rfl) (hfe : ev ρ fo = .func (.func f) #[] #[] := by kernel_rfl) (hx : ([a1, a2, a3] : List Operand).all (known ρ) = true := by kernel_rfl) (h1 : ev ρ a1 = .int k1 x := by kernel_rfl) (h2 : ev ρ a2 = .int k2 y := by kernel_rfl) (h3 : ev ρ a3 = .int k3 c := by kernel_rfl) :
    Gives X ρ Δ ⟨d, .call ⟨.value fo, #[a1, a2, a3], ats⟩, ty, pos, after, none⟩ v := by
  intro a w ha hw
  simp only [List.all_cons, Bool.and_eq_true] at hx
  have r := run_callFunc_extern hfn hname hb hn he #[.int k1 x, .int k2 y, .int k3 c] w
  rw [hrun w] at r
  simp only [execOp, resolve, Deferred.ofValue, ha.eval hf, hfe, pure_bind, invoke, List.map_toArray, List.map_cons, List.map_nil, ha.eval hx.1, ha.eval hx.2.1, ha.eval hx.2.2.1, h1, h2, h3]
  simpa [Result.andThen] using r

theorem add_run {P : Program} (k1 k2 k3 : IntKind) (x y : Int) (w : World) : (add64Entry #[.int k1 x, .int k2 y, .int k3 0]).run P w = .ok (.tuple #[.int .u64 (addS x y 0), .int .u64 (addC x y 0)]) w := rfl
theorem sub_run {P : Program} (k1 k2 k3 : IntKind) (x y : Int) (w : World) : (subEntry #[.int k1 x, .int k2 y, .int k3 0]).run P w = .ok (.tuple #[.int .u64 (subS x y 0), .int .u64 (subB x y 0)]) w := rfl

/-- The beginning of an own row: the row is as long as that, from here on. -/
theorem JL.cutOwn {α : Type} {dst : Option Tmp} {T ty' E : TypeId} {x hi : Operand} {pos : String} {after : Array Edge} (k : IntKind) (h : Int) (i : Nat) (A : Option Addr) (c : Nat) (Er : TypeId) (d : Kd α) (xs : List α) (sh : Bool)
    (hT : X.P.underlying T = some (.slice E)) (hE : tySize X.P E = some d.sz) (h0 : 0 ≤ h) (h1 : h ≤ (xs.length : Int))
    (hnext : JQ X (wpList X.P ops Q rest) (upO ρ dst (.slice A (xs.take h.toNat).length c)) (Δ.set i (At.row A c Er d (xs.take h.toNat) sh)))
    (hi' : Δ[i]? = some (At.row A c Er d xs sh) := by kernel_rfl) (hx : known ρ x = true := by kernel_rfl) (hh : known ρ hi = true := by kernel_rfl) (hxe : ev ρ x = .slice A xs.length c := by kernel_rfl) (hhe : ev ρ hi = .int k h := by kernel_rfl) (hd : okd X.n dst = true := by kernel_rfl) :
    JQ X (wpList X.P ops Q (⟨dst, .slice T x none (some hi) none, ty', pos, after, none⟩ :: rest)) ρ Δ := by
  refine JL.step rfl fun a w ha hw => ?_
  obtain ⟨cells, ⟨hl, ho⟩, hr⟩ := hw.sat _ (List.mem_of_getElem? hi')
  have hlen : (xs.take h.toNat).length = h.toNat := by rw [List.length_take]; omega
  have hle : xs.length ≤ c := by
    rcases ho with ⟨hv, hn⟩ | ⟨g, cap, cur, hv, h3, h4, h5, h6⟩
    · omega
    · injection hv with _ _ hc; omega
  have hA : (if c = 0 then A else A.map (·.add (0 * d.sz))) = A := by
    split
    · rfl
    · rcases ho with ⟨hv, hn⟩ | ⟨g, cap, cur, hv, h3, h4, h5, h6⟩
      · injection hv with hv; rw [hv]; rfl
      · injection hv with hv; rw [hv]; simp [addr_add]
  have hrun : (Instr.sliceAt T (.slice A xs.length c) none (some (.int k h)) none).run X.P w = .ok (.slice A h.toNat c) w := by
    have := gw_slice (P := X.P) (A := A) (n := xs.length) (c := c) (l := 0) (h := h.toNat) (m := c) (lo := none) (hi := some (.int k h)) (mx := none) hT hE (.inl ⟨rfl, rfl⟩) (.inr ⟨k, h, rfl, h0, rfl⟩) (.inl ⟨rfl, rfl⟩) (.inl rfl) (Nat.zero_le _) (by omega) (Nat.le_refl _) w
    rw [hA] at this
    simpa using this
  refine ⟨.slice A h.toNat c, w, .inl ?_, ?_⟩
  · simp only [execOp, ha.eval hx, hxe, Option.map_none, Option.map_some, ha.eval hh, hhe, Sem.run_bind, hrun, Result.andThen_ok, Sem.run_pure]
  · rw [hlen] at hnext
    refine hnext _ _ (ha.putO hd _) ?_
    obtain ⟨hsp1, hsp2⟩ := set_split (At.row A c Er d (xs.take h.toNat) sh) hi'
    rw [hsp2]
    have hfull := hw
    rw [hsp1] at hw
    refine hw.write X.hF rfl rfl rfl (Nat.le_refl _) (Nat.le_refl _) (fun _ _ _ => rfl) (fun b hb => .inl hb) ?_
    intro hfz
    have hr2 := (hr.take h.toNat).keep (fun b hb => by rw [hsp1] at hb; exact hfz _ _ (fun e => e) b hb)
    refine ⟨cells.take (h.toNat * d.sz), ⟨?_, ?_⟩, hr2⟩
    · rw [hlen, List.length_take, hl]
      exact Nat.min_eq_left (Nat.mul_le_mul_right _ (by omega))
    · rw [hlen]
      rcases ho with ⟨hv, hn⟩ | ⟨g, cap, cur, hv, h3, h4, h5, h6, h7, h8⟩
      · injection hv with hv1 hv2 hv3
        left
        have : h.toNat = 0 := by omega
        exact ⟨by rw [hv1, hv3, this], this⟩
      · injection hv with hv1 _ hv3
        refine .inr ⟨g, cap, cur, by rw [hv1, hv3], h3, h4, by omega, h6, h7, ?_⟩
        rw [← h8, List.take_take]
        congr 1
        exact (Nat.min_eq_left (Nat.mul_le_mul_right _ (by omega))).symm
end
end Go.GW
