/-
  Gw19: 'm[k] op= v': a map's entry is held, and written by its stamp.
-/
import Derived.Test.YtiepcikippcfaaaGw18
import GoSem.Instr.MapEntry
set_option linter.unusedVariables false
set_option linter.unusedSimpArgs false
namespace Go.GW
open Go Go.ChangeMaps

structure A8 (α : Type) where
  e0 : α
  e1 : α
  e2 : α
  e3 : α
  e4 : α
  e5 : α
  e6 : α
  e7 : α
  deriving DecidableEq, Inhabited
def flArr8 {α : Type} (f : Fl α) : Fl (A8 α) := ⟨8 * f.sz, fun x => f.enc x.e0 ++ (f.enc x.e1 ++ (f.enc x.e2 ++ (f.enc x.e3 ++ (f.enc x.e4 ++ (f.enc x.e5 ++ (f.enc x.e6 ++ f.enc x.e7)))))), fun x => by simp only [List.length_append, f.len]; omega, fun x v h => by
  simp only [List.mem_append] at h; rcases h with h | h | h | h | h | h | h | h <;> exact f.one _ v h⟩
def A8.ofL {α : Type} [Inhabited α] (l : List α) : A8 α := ⟨ix l 0, ix l 1, ix l 2, ix l 3, ix l 4, ix l 5, ix l 6, ix l 7⟩
theorem ofL8 {α : Type} [Inhabited α] (f : Fl α) {l : List α} (h : l.length = 8) : l.flatMap f.enc = f.enc (A8.ofL l).e0 ++ (f.enc (A8.ofL l).e1 ++ (f.enc (A8.ofL l).e2 ++ (f.enc (A8.ofL l).e3 ++ (f.enc (A8.ofL l).e4 ++ (f.enc (A8.ofL l).e5 ++ (f.enc (A8.ofL l).e6 ++ f.enc (A8.ofL l).e7)))))) := by
  match l, h with
  | [a, b, c, d, e, f, g, h], _ => simp [A8.ofL, ix]
section
variable {P : Program} {kt : TypeId} {K V : Type} [DecidableEq K] {ek : K → Value} {ev : V → Value}
theorem mfind_app {x : K} {v : V} : ∀ {l : List (K × V)} {i : Nat}, mfind x l i = none → mfind x (l ++ [(x, v)]) i = some (i + l.length, v)
  | [], i, h => by simp [mfind]
  | (k, u) :: l, i, h => by
    simp only [mfind] at h
    by_cases hx : x = k
    · simp [hx] at h
    · rw [if_neg hx] at h
      rw [List.cons_append]
      simp only [mfind, if_neg hx, mfind_app h, List.length_cons]
      congr 2
      omega
theorem mput_same {x : K} {l : List (K × V)} {j : Nat} {v : V} (h : mfind x l 0 = some (j, v)) : mput l x v = l := by
  obtain ⟨_, hj, hv, hp⟩ := mfind_at h
  simp only [Nat.sub_zero] at hj hv hp
  rw [hp v, ← hv]
  exact List.set_getElem_self hj
theorem run_mapEntry {T et : TypeId} {w : World} {b : Nat} {es : Array MapEntry} {clock : Nat} {l : List (K × V)} (hk : KeyOk P kt ek) (z : V) (hT : P.underlying T = some (.map kt et)) (hz : (zeroValue et).run P w = .ok (ev z) w) (hb : w.heap[b]? = some (.map es clock)) (h : Ents ek ev es.toList l) (hst : Stm es clock) (x : K) :
    ∃ es' clock' s, (Instr.mapEntry T (.map (some b)) (ek x)).run P w = .ok (.tuple #[ev (mgetD l x z), .int .i64 ((s : Nat) : Int)]) (setBlock w b (.map es' clock')) ∧ Ents ek ev es'.toList (mput l x (mgetD l x z)) ∧ Stm es' clock' ∧
      ∃ j v, mfind x (mput l x (mgetD l x z)) 0 = some (j, v) ∧ es'[j]?.map (·.born) = some s := by
  have hlen : es.size = l.length := by have := congrArg List.length h; simpa using this
  unfold Instr.mapEntry
  simp only [Sem.run_bind, run_underlying hT, Result.andThen_ok, MapKept.run_getObj_map hb, Sem.run_pure, hk.check, run_find hk x w l es.toList h, mgetD]
  cases hf : mfind x l 0 with
  | none =>
    refine ⟨es.push { key := ek x, val := ev z, born := clock }, clock + 1, clock, by simp [hz, MapKept.run_setObj_map _ hb, setBlock, goInt], ?_, hst.push _ _, l.length, z, ?_, ?_⟩
    · rw [mput_new hf]
      simpa [Ents] using h
    · rw [mput_new hf]
      have := mfind_app (v := z) hf
      simpa using this
    · simp [← hlen]
  | some p =>
    obtain ⟨j, v⟩ := p
    obtain ⟨_, hj, hjv, _⟩ := mfind_at hf
    simp only [Nat.sub_zero] at hj hjv
    have hjs : j < es.size := by omega
    have hkey : es[j].key = ek x := by
      have := congrArg (fun q => q[j]?) h
      simp [hjs, hj, hjv] at this
      exact this.1
    refine ⟨es.modify j fun e => { e with key := ek x }, clock, es[j].born, ?_, ?_, hst.modify _ _ fun _ => rfl, j, v, ?_, ?_⟩
    · simp [Instr.keyThatStays, hjs, hkey, hk.same, MapKept.run_setObj_map _ hb, setBlock, goInt]
    · show Ents ek ev _ (mput l x v)
      rw [mput_same hf]
      unfold Ents at h ⊢
      rw [← h]
      apply List.ext_getElem?
      intro i
      by_cases hi : i = j
      · subst hi
        simp [Array.getElem?_modify, hjs, hkey]
      · simp [Array.getElem?_modify, Ne.symm hi]
    · show mfind x (mput l x v) 0 = _
      rw [mput_same hf, hf]
    · simp [Array.getElem_modify, hjs]
theorem find_stamp {es : Array MapEntry} {clock j s : Nat} (hst : Stm es clock) (hj : es[j]?.map (·.born) = some s) : es.findIdx? (fun e => (e.born : Int) == (s : Int)) = some j := by
  obtain ⟨e, he, hs⟩ := Option.map_eq_some_iff.1 hj
  obtain ⟨hlt, hej⟩ := Array.getElem?_eq_some_iff.1 he
  rw [Array.findIdx?_eq_some_iff_getElem]
  refine ⟨hlt, by simp [hej, hs], fun i hi => ?_⟩
  have hne : es[i].born ≠ es[j].born := by
    intro heq
    have hl : (es.toList.map (·.born)).length = es.size := by simp
    have := (List.getElem_inj (i := i) (j := j) (h₀ := by rw [hl]; omega) (h₁ := by rw [hl]; omega) hst.1).1 (by simpa using heq)
    omega
  have : es[j].born = s := by rw [hej]; exact hs
  simp only [beq_iff_eq, Bool.not_eq_true, Bool.decide_eq_false] 
  simp
  omega
theorem run_entryStore {T : TypeId} {w : World} {b : Nat} {es : Array MapEntry} {clock : Nat} {l : List (K × V)} {s : Nat} {x : K} (hb : w.heap[b]? = some (.map es clock)) (h : Ents ek ev es.toList l) (hst : Stm es clock) {j : Nat} {v : V} (hf : mfind x l 0 = some (j, v)) (hj : es[j]?.map (·.born) = some s) (u : V) :
    ∃ es', (Instr.entryStore T (.map (some b)) (.int .i64 ((s : Nat) : Int)) (ev u)).run P w = .ok () (setBlock w b (.map es' clock)) ∧ Ents ek ev es'.toList (mput l x u) ∧ Stm es' clock := by
  have hlen : es.size = l.length := by have := congrArg List.length h; simpa using this
  obtain ⟨_, hjl, hjv, hput⟩ := mfind_at hf
  simp only [Nat.sub_zero] at hjl hjv hput
  have hjs : j < es.size := by omega
  have hkey : es[j].key = ek x := by
    have := congrArg (fun q => q[j]?) h
    simp [hjs, hjl, hjv] at this
    exact this.1
  refine ⟨es.modify j fun e => { e with val := ev u }, ?_, ?_, hst.modify _ _ fun _ => rfl⟩
  · simp [Instr.entryStore, MapKept.run_getObj_map hb, find_stamp hst hj, MapKept.run_setObj_map _ hb, setBlock, asInt, asIntOf]
  · rw [hput u]
    unfold Ents at h ⊢
    rw [List.map_set, ← h]
    apply List.ext_getElem?
    intro i
    by_cases hi : i = j
    · subst hi
      simp [Array.getElem?_modify, hjs, hkey]
    · simp [Array.getElem?_modify, Ne.symm hi, List.getElem?_set_ne (Ne.symm hi)]
end

section
variable {X : Ctx} {ρ : Env} {Δ : List At} {Q : Exit → Act → World → Prop} {ops : Array Oper} {rest : List Oper} {kt : TypeId} {K V : Type} [DecidableEq K] {ek : K → Value} {ev : V → Value}
theorem JL.mapEntry {d : Option Tmp} {m k : Operand} {T ty' et : TypeId} {pos : String} {after : Array Edge} {b : Nat} {l : List (K × V)} (i : Nat) (z : V) (x : K) (hk : KeyOk X.P kt ek) (hT : X.P.underlying T = some (.map kt et)) (hz : ∀ w, (zeroValue et).run X.P w = .ok (ev z) w)
    (h : ∀ s : Nat, JQ X (wpList X.P ops Q rest) (upO ρ d (.tuple #[ev (mgetD l x z), .int .i64 (s : Int)])) (Δ.set i (At.me b ek ev (mput l x (mgetD l x z)) x s))) (hi : Δ[i]? = some (At.mp b ek ev l) := by kernel_rfl) (hm : known ρ m = true := by kernel_rfl) (hme : Go.GW.ev ρ m = .map (some b) := by kernel_rfl) (hkk : known ρ k = true := by kernel_rfl) (hke : Go.GW.ev ρ k = ek x := by kernel_rfl) (hd : okd X.n d = true := by kernel_rfl) :
    JQ X (wpList X.P ops Q (⟨d, .mapEntry T m k, ty', pos, after, none⟩ :: rest)) ρ Δ := by
  refine JL.step rfl fun a w ha hw => ?_
  obtain ⟨es, clock, hb, he, hst⟩ := hw.sat _ (List.mem_of_getElem? hi)
  obtain ⟨es', clock', s, hrun, he'⟩ := run_mapEntry (P := X.P) (ev := ev) hk z hT (hz w) hb he hst x
  obtain ⟨hsp, hsp'⟩ := set_split (At.me b ek ev (mput l x (mgetD l x z)) x s) hi
  refine ⟨.tuple #[ev (mgetD l x z), .int .i64 (s : Int)], setBlock w b (.map es' clock'), .inl ?_, h s _ _ (ha.putO hd _) ?_⟩
  · simp only [execOp, ha.eval hm, ha.eval hkk, show Go.GW.ev ρ m = .map (some b) from hme, show Go.GW.ev ρ k = ek x from hke, Sem.run_bind, hrun, Result.andThen_ok, Sem.run_pure]
  · rw [hsp']
    rw [hsp] at hw
    refine hw.write X.hF rfl rfl rfl (Nat.le_refl _) (by simp [setBlock]) (fun c hc hne => heap_setBlock_other hb _ fun e => hne (by rw [e]; rfl)) (fun c hc => .inl hc) ?_
    intro _
    exact ⟨es', clock', heap_setBlock_same hb _, he'⟩
theorem JL.entryStore {d : Option Tmp} {m st y : Operand} {T ty' : TypeId} {pos : String} {after : Array Edge} {b s : Nat} {l : List (K × V)} (i : Nat) (x : K) (u : V)
    (h : JQ X (wpList X.P ops Q rest) (upO ρ d undef) (Δ.set i (At.mp b ek ev (mput l x u)))) (hi : Δ[i]? = some (At.me b ek ev l x s) := by kernel_rfl) (hm : known ρ m = true := by kernel_rfl) (hme : Go.GW.ev ρ m = .map (some b) := by kernel_rfl) (hkk : known ρ st = true := by kernel_rfl) (hke : Go.GW.ev ρ st = .int .i64 (s : Int) := by kernel_rfl) (hy : known ρ y = true := by kernel_rfl) (hye : Go.GW.ev ρ y = ev u := by kernel_rfl) (hd : okd X.n d = true := by kernel_rfl) :
    JQ X (wpList X.P ops Q (⟨d, .entryStore T m st y, ty', pos, after, none⟩ :: rest)) ρ Δ := by
  refine JL.step rfl fun a w ha hw => ?_
  obtain ⟨hsp, hsp'⟩ := set_split (At.mp b ek ev (mput l x u)) hi
  obtain ⟨es, clock, hb, he, hst, j, v, hf, hj⟩ := hw.sat _ (List.mem_of_getElem? hi)
  obtain ⟨es', hrun, he'⟩ := run_entryStore (P := X.P) (T := T) (ek := ek) (ev := ev) hb he hst hf hj u
  refine ⟨undef, setBlock w b (.map es' clock), .inr ⟨?_, rfl⟩, h _ _ (ha.putO hd undef) ?_⟩
  · simp only [execOp, ha.eval hm, ha.eval hkk, ha.eval hy, show Go.GW.ev ρ m = .map (some b) from hme, hke, show Go.GW.ev ρ y = ev u from hye, Sem.run_bind, hrun, Result.andThen_ok, Sem.run_pure]
  · rw [hsp']
    rw [hsp] at hw
    refine hw.write X.hF rfl rfl rfl (Nat.le_refl _) (by simp [setBlock]) (fun c hc hne => heap_setBlock_other hb _ fun e => hne (by rw [e]; rfl)) (fun c hc => .inl hc) ?_
    intro _
    exact ⟨es', clock, heap_setBlock_same hb _, he'⟩
theorem mfind_put {x : K} {v : V} : ∀ (l : List (K × V)) (i : Nat), ∃ j, mfind x (mput l x v) i = some (j, v)
  | [], i => ⟨i, by simp [mput, mfind]⟩
  | (k, u) :: l, i => by
    by_cases hx : x = k
    · exact ⟨i, by simp [mput, mfind, hx]⟩
    · obtain ⟨j, hj⟩ := mfind_put (x := x) (v := v) l (i + 1)
      exact ⟨j, by simp [mput, mfind, hx, hj]⟩
theorem mgetD_put (l : List (K × V)) (x : K) (v z : V) : mgetD (mput l x v) x z = v := by
  obtain ⟨j, hj⟩ := mfind_put (x := x) (v := v) l 0
  simp [mgetD, hj]
/-- A look-up of the key whose entry is held. -/
theorem gives_mapGetE {d : Option Tmp} {m k : Operand} {T ty' et : TypeId} {pos : String} {after : Array Edge} {b s : Nat} {l l2 : List (K × V)} (i : Nat) (z : V) (x : K) (v : Value) (hl : mput l x (mgetD l x z) = l2) (hk : KeyOk X.P kt ek) (hT : X.P.underlying T = some (.map kt et)) (hz : ∀ w, (zeroValue et).run X.P w = .ok (ev z) w)
    (hv : ev (mgetD l x z) = v) (hi : Δ[i]? = some (At.me b ek ev l2 x s) := by kernel_rfl) (hm : known ρ m = true := by kernel_rfl) (hme : Go.GW.ev ρ m = .map (some b) := by kernel_rfl) (hkk : known ρ k = true := by kernel_rfl) (hke : Go.GW.ev ρ k = ek x := by kernel_rfl) :
    Gives X ρ Δ ⟨d, .lookup T m k false, ty', pos, after, none⟩ v := by
  intro a w ha hw
  obtain ⟨es, clock, hb, he, _⟩ := hw.sat _ (List.mem_of_getElem? hi)
  have := run_mapGet (P := X.P) (ev := ev) hk z hT (hz w) hb he x false
  rw [← hl, mgetD_put] at this
  simp only [execOp, ha.eval hm, ha.eval hkk, show Go.GW.ev ρ m = .map (some b) from hme, show Go.GW.ev ρ k = ek x from hke, Sem.run_bind, this, Result.andThen_ok, Sem.run_pure]
  simp [hv]
theorem closes_slN {α : Type} {d : Kd α} {xss : List (List α)} {sh : Bool} {cells : List Value} (h : Closes X Δ d.sl xss cells sh) : Closes X Δ d.sl ([] :: xss) (.slice none 0 0 :: cells) sh := fun w hw =>
  ⟨[.slice none 0 0], cells, rfl, ⟨none, 0, rfl, Nat.le_refl _, .inl rfl⟩, h w hw⟩
end
end Go.GW
