/-
  Gw16: maps that the call itself has made: flat keys, flat elements.
-/
import Derived.Test.YtiepcikippcfaaaGw15
import Derived.MapKept
import Derived.ChangeMaps5
set_option linter.unusedVariables false
set_option linter.unusedSimpArgs false
set_option linter.unusedSectionVars false
namespace Go.GW
open Go Go.ChangeMaps

/-! ### Maps as lists of pairs -/
def mfind {K V : Type} [DecidableEq K] (x : K) : List (K × V) → Nat → Option (Nat × V)
  | [], _ => none
  | (k, v) :: r, i => if x = k then some (i, v) else mfind x r (i + 1)
def mhas {K V : Type} [DecidableEq K] (l : List (K × V)) (x : K) : Bool := (mfind x l 0).isSome
def mgetD {K V : Type} [DecidableEq K] (l : List (K × V)) (x : K) (z : V) : V := ((mfind x l 0).map (·.2)).getD z
def mput {K V : Type} [DecidableEq K] : List (K × V) → K → V → List (K × V)
  | [], x, y => [(x, y)]
  | (k, v) :: r, x, y => if x = k then (k, y) :: r else (k, v) :: mput r x y

structure KeyOk {K : Type} [DecidableEq K] (P : Program) (kt : TypeId) (ek : K → Value) : Prop where
  check : ∀ b x w, (Instr.checkKey b 10000 kt (ek x)).run P w = .ok () w
  eq : ∀ x y w, (Op.equal kt (ek x) (ek y)).run P w = .ok (decide (x = y)) w
  now : ∃ d, P.underlying kt = some d ∧ ((∀ x y, Instr.sameNow d (ek x) (ek y) = none) ∨ (∀ x y, Instr.sameNow d (ek x) (ek y) = some (decide (x = y))))
  same : ∀ x, Instr.sameBits 10000 (ek x) (ek x) = true

section
variable {P : Program} {kt : TypeId} {K V : Type} [DecidableEq K] {ek : K → Value} {ev : V → Value}
def Ents (ek : K → Value) (ev : V → Value) (es : List MapEntry) (l : List (K × V)) : Prop := es.map (fun e => (e.key, e.val)) = l.map (fun p => (ek p.1, ev p.2))
theorem ents_cons {e : MapEntry} {es : List MapEntry} {p : K × V} {l : List (K × V)} : Ents ek ev (e :: es) (p :: l) ↔ (e.key = ek p.1 ∧ e.val = ev p.2) ∧ Ents ek ev es l := by
  simp [Ents]
theorem ents_nil {es : List MapEntry} (h : Ents ek ev es ([] : List (K × V))) : es = [] := by
  simpa [Ents] using h
theorem run_ask (hk : KeyOk P kt ek) (x : K) (w : World) : ∀ (l : List (K × V)) (es : List MapEntry) (i : Nat), Ents ek ev es l → (Instr.findAsking kt (ek x) es i).run P w = .ok ((mfind x l i).map fun p => (p.1, ev p.2)) w
  | [], es, i, h => by rw [ents_nil h]; simp [Instr.findAsking, mfind]
  | (k, v) :: l, [], i, h => by simp [Ents] at h
  | (k, v) :: l, e :: es, i, h => by
    obtain ⟨⟨h1, h2⟩, h3⟩ := ents_cons.1 h
    simp only [Instr.findAsking, Sem.run_bind, h1, hk.eq, Result.andThen_ok, mfind]
    by_cases hx : x = k
    · simp [hx, h2]
    · simp only [hx, decide_false, Bool.false_eq_true, if_false]
      exact run_ask hk x w l es (i + 1) h3
theorem find_now {d : TypeDesc} (hd : ∀ x y, Instr.sameNow d (ek x) (ek y) = some (decide (x = y))) (x : K) : ∀ (l : List (K × V)) (es : List MapEntry) (i : Nat), Ents ek ev es l → Instr.findNow d (ek x) es i = some ((mfind x l i).map fun p => (p.1, ev p.2))
  | [], es, i, h => by rw [ents_nil h]; simp [Instr.findNow, mfind]
  | (k, v) :: l, [], i, h => by simp [Ents] at h
  | (k, v) :: l, e :: es, i, h => by
    obtain ⟨⟨h1, h2⟩, h3⟩ := ents_cons.1 h
    simp only [Instr.findNow, h1, hd, mfind]
    by_cases hx : x = k
    · simp [hx, h2]
    · simp only [hx, decide_false, if_false]
      exact find_now hd x l es (i + 1) h3
theorem run_find (hk : KeyOk P kt ek) (x : K) (w : World) (l : List (K × V)) (es : List MapEntry) (h : Ents ek ev es l) : (Instr.findKey kt (ek x) es).run P w = .ok ((mfind x l 0).map fun p => (p.1, ev p.2)) w := by
  obtain ⟨d, hd, hn⟩ := hk.now
  unfold Instr.findKey
  simp only [Sem.run_bind, run_underlying hd, Result.andThen_ok]
  rcases hn with hn | hn
  · cases es with
    | nil =>
      cases l with
      | nil => simp [Instr.findNow, mfind]
      | cons p l => simp [Ents] at h
    | cons e es =>
      cases l with
      | nil => simp [Ents] at h
      | cons p l =>
        have h1 := (ents_cons.1 h).1.1
        have : Instr.findNow d (ek x) (e :: es) 0 = none := by simp [Instr.findNow, h1, hn]
        rw [this]
        exact run_ask hk x w (p :: l) (e :: es) 0 h
  · rw [find_now hn x l es 0 h]
    simp
theorem mfind_at {x : K} : ∀ {l : List (K × V)} {i j : Nat} {v : V}, mfind x l i = some (j, v) → i ≤ j ∧ ∃ h : j - i < l.length, l[j - i] = (x, v) ∧ ∀ y, mput l x y = l.set (j - i) (x, y)
  | [], i, j, v, h => by simp [mfind] at h
  | (k, u) :: l, i, j, v, h => by
    simp only [mfind] at h
    by_cases hx : x = k
    · subst hx
      simp at h
      obtain ⟨rfl, rfl⟩ := h
      exact ⟨Nat.le_refl _, by simp, by simp, by simp [mput]⟩
    · rw [if_neg hx] at h
      obtain ⟨h1, h2, h3, h4⟩ := mfind_at h
      refine ⟨by omega, by simp; omega, ?_, ?_⟩
      · have : j - i = (j - (i + 1)) + 1 := by omega
        simp only [this, List.getElem_cons_succ]
        exact h3
      · intro y
        have : j - i = (j - (i + 1)) + 1 := by omega
        rw [this]
        simp [mput, hx, h4 y]
theorem mput_new {x : K} : ∀ {l : List (K × V)} {i : Nat}, mfind x l i = none → ∀ y, mput l x y = l ++ [(x, y)]
  | [], i, h, y => rfl
  | (k, u) :: l, i, h, y => by
    simp only [mfind] at h
    by_cases hx : x = k
    · simp [hx] at h
    · rw [if_neg hx] at h
      simp [mput, hx, mput_new h y]

/-! ### The runs -/
theorem run_mapGet {T et : TypeId} {w : World} {b : Nat} {es : Array MapEntry} {clock : Nat} {l : List (K × V)} (hk : KeyOk P kt ek) (z : V) (hT : P.underlying T = some (.map kt et)) (hz : (zeroValue et).run P w = .ok (ev z) w) (hb : w.heap[b]? = some (.map es clock)) (h : Ents ek ev es.toList l) (x : K) (ok : Bool) :
    (Instr.lookup T (.map (some b)) (ek x) ok).run P w = .ok (if ok then .tuple #[ev (mgetD l x z), .bool (mhas l x)] else ev (mgetD l x z)) w := by
  unfold Instr.lookup
  simp only [Sem.run_bind, run_underlying hT, Result.andThen_ok, MapKept.run_getObj_map hb, Sem.run_pure, hk.check, run_find hk x w l es.toList h, mgetD, mhas]
  cases hf : mfind x l 0 with
  | none => cases ok <;> simp [hz]
  | some p => cases ok <;> simp
/-- The stamps of a map's entries: no two are one, and the clock is ahead. -/
def Stm (es : Array MapEntry) (clock : Nat) : Prop := (es.toList.map (·.born)).Nodup ∧ ∀ s ∈ es.toList.map (·.born), s < clock
theorem Stm.push {es : Array MapEntry} {clock : Nat} (h : Stm es clock) (k v : Value) : Stm (es.push { key := k, val := v, born := clock }) (clock + 1) := by
  have e : (es.push { key := k, val := v, born := clock }).toList.map (·.born) = es.toList.map (·.born) ++ [clock] := by simp
  unfold Stm
  rw [e]
  refine ⟨List.nodup_append.2 ⟨h.1, by simp, fun a ha b hb => ?_⟩, fun a ha => ?_⟩
  · simp only [List.mem_singleton] at hb
    have := h.2 a ha
    omega
  · rcases List.mem_append.1 ha with ha | ha
    · have := h.2 a ha
      omega
    · simp only [List.mem_singleton] at ha
      omega
theorem Stm.modify {es : Array MapEntry} {clock : Nat} (h : Stm es clock) (j : Nat) (f : MapEntry → MapEntry) (hf : ∀ e, (f e).born = e.born) : Stm (es.modify j f) clock := by
  have e : (es.modify j f).toList.map (·.born) = es.toList.map (·.born) := by
    apply List.ext_getElem?
    intro i
    by_cases hi : i = j
    · subst hi
      cases hg : es[i]? <;> simp [Array.getElem?_modify, hg, hf]
    · simp [Array.getElem?_modify, Ne.symm hi]
  unfold Stm
  rw [e]
  exact h
theorem run_mapPut {T et : TypeId} {w : World} {b : Nat} {es : Array MapEntry} {clock : Nat} {l : List (K × V)} (hk : KeyOk P kt ek) (hT : P.underlying T = some (.map kt et)) (hb : w.heap[b]? = some (.map es clock)) (h : Ents ek ev es.toList l) (hst : Stm es clock) (x : K) (y : V) :
    ∃ es' clock', (Instr.mapUpdate T (.map (some b)) (ek x) (ev y)).run P w = .ok () (setBlock w b (.map es' clock')) ∧ Ents ek ev es'.toList (mput l x y) ∧ Stm es' clock' := by
  unfold Instr.mapUpdate
  simp only [Sem.run_bind, run_underlying hT, Result.andThen_ok, MapKept.run_getObj_map hb, Sem.run_pure, hk.check, run_find hk x w l es.toList h]
  cases hf : mfind x l 0 with
  | none =>
    refine ⟨es.push { key := ek x, val := ev y, born := clock }, clock + 1, by simp [MapKept.run_setObj_map _ hb, setBlock], ?_, hst.push _ _⟩
    rw [mput_new hf y]
    simpa [Ents] using h
  | some p =>
    obtain ⟨j, v⟩ := p
    obtain ⟨_, hj, hjv, hput⟩ := mfind_at hf
    simp only [Nat.sub_zero] at hj hjv hput
    have hlen : es.size = l.length := by have := congrArg List.length h; simpa using this
    have hjs : j < es.size := by omega
    have hkey : es[j].key = ek x := by
      have := congrArg (fun q => q[j]?) h
      simp [hjs, hj, hjv] at this
      exact this.1
    refine ⟨es.modify j fun e => { e with key := ek x, val := ev y }, clock, ?_, ?_, hst.modify _ _ fun _ => rfl⟩
    · simp [Instr.keyThatStays, hjs, hkey, hk.same, MapKept.run_setObj_map _ hb, setBlock]
    · rw [hput y]
      unfold Ents at h ⊢
      rw [List.map_set, ← h]
      apply List.ext_getElem?
      intro i
      by_cases hi : i = j
      · subst hi
        simp [Array.getElem?_modify, hjs]
      · simp [Array.getElem?_modify, Ne.symm hi, List.getElem?_set_ne (Ne.symm hi)]
end

/-! ### The atom -/
def At.mp {K V : Type} (b : Nat) (ek : K → Value) (ev : V → Value) (l : List (K × V)) : At where
  blk := some b
  sh := false
  sat := fun w _ => ∃ es clock, w.heap[b]? = some (.map es clock) ∧ Ents ek ev es.toList l ∧ Stm es clock
  keep := fun h1 _ ⟨es, clock, h, he⟩ => ⟨es, clock, (h1 b rfl).trans h, he⟩
/-- The same while an entry is held: that of the key x has the stamp s. -/
def At.me {K V : Type} [DecidableEq K] (b : Nat) (ek : K → Value) (ev : V → Value) (l : List (K × V)) (x : K) (s : Nat) : At where
  blk := some b
  sh := false
  sat := fun w _ => ∃ es clock, w.heap[b]? = some (.map es clock) ∧ Ents ek ev es.toList l ∧ Stm es clock ∧ ∃ j v, mfind x l 0 = some (j, v) ∧ es[j]?.map (·.born) = some s
  keep := fun h1 _ ⟨es, clock, h, he⟩ => ⟨es, clock, (h1 b rfl).trans h, he⟩

section
variable {X : Ctx} {ρ : Env} {Δ : List At} {Q : Exit → Act → World → Prop} {ops : Array Oper} {rest : List Oper} {kt : TypeId} {K V : Type} [DecidableEq K] {ek : K → Value} {ev : V → Value}
theorem JL.mkMap {d : Option Tmp} {ty ty' : TypeId} {pos : String} {after : Array Edge} (ek : K → Value) (ev : V → Value)
    (h : ∀ b, JQ X (wpList X.P ops Q rest) (upO ρ d (.map (some b))) (Δ ++ [At.mp b ek ev ([] : List (K × V))])) (hd : okd X.n d = true := by kernel_rfl) : JQ X (wpList X.P ops Q (⟨d, .makeMap ty none, ty', pos, after, none⟩ :: rest)) ρ Δ := by
  refine JL.step rfl fun a w ha hw => ⟨.map (some w.heap.size), _, .inl (by simp [execOp, Instr.makeMap]; rfl), ?_⟩
  refine h _ _ _ (ha.putO hd _) (hw.alloc X.hF _ (At.mp w.heap.size ek ev []) rfl fun S' _ => ?_)
  exact ⟨#[], 0, heap_alloc_new w _, rfl, by simp [Stm]⟩
theorem gives_mapGet {d : Option Tmp} {m k : Operand} {T ty' et : TypeId} {pos : String} {after : Array Edge} {b : Nat} {l : List (K × V)} (i : Nat) (ok : Bool) (z : V) (x : K) (v : Value) (hk : KeyOk X.P kt ek) (hT : X.P.underlying T = some (.map kt et)) (hz : ∀ w, (zeroValue et).run X.P w = .ok (ev z) w)
    (hv : (if ok then .tuple #[ev (mgetD l x z), .bool (mhas l x)] else ev (mgetD l x z)) = v) (hi : Δ[i]? = some (At.mp b ek ev l) := by kernel_rfl) (hm : known ρ m = true := by kernel_rfl) (hme : Go.GW.ev ρ m = .map (some b) := by kernel_rfl) (hkk : known ρ k = true := by kernel_rfl) (hke : Go.GW.ev ρ k = ek x := by kernel_rfl) :
    Gives X ρ Δ ⟨d, .lookup T m k ok, ty', pos, after, none⟩ v := by
  intro a w ha hw
  obtain ⟨es, clock, hb, he, _⟩ := hw.sat _ (List.mem_of_getElem? hi)
  have := run_mapGet (P := X.P) (ev := ev) hk z hT (hz w) hb he x ok
  simp only [execOp, ha.eval hm, ha.eval hkk, show Go.GW.ev ρ m = .map (some b) from hme, show Go.GW.ev ρ k = ek x from hke, Sem.run_bind, this, Result.andThen_ok, Sem.run_pure, hv]
theorem JL.mapPut {d : Option Tmp} {m k y : Operand} {T ty' et : TypeId} {pos : String} {after : Array Edge} {b : Nat} {l : List (K × V)} (i : Nat) (x : K) (u : V) (hk : KeyOk X.P kt ek) (hT : X.P.underlying T = some (.map kt et))
    (h : JQ X (wpList X.P ops Q rest) (upO ρ d undef) (Δ.set i (At.mp b ek ev (mput l x u)))) (hi : Δ[i]? = some (At.mp b ek ev l) := by kernel_rfl) (hm : known ρ m = true := by kernel_rfl) (hme : Go.GW.ev ρ m = .map (some b) := by kernel_rfl) (hkk : known ρ k = true := by kernel_rfl) (hke : Go.GW.ev ρ k = ek x := by kernel_rfl) (hy : known ρ y = true := by kernel_rfl) (hye : Go.GW.ev ρ y = ev u := by kernel_rfl) (hd : okd X.n d = true := by kernel_rfl) :
    JQ X (wpList X.P ops Q (⟨d, .mapUpdate T m k y, ty', pos, after, none⟩ :: rest)) ρ Δ := by
  refine JL.step rfl fun a w ha hw => ?_
  obtain ⟨hsp, hsp'⟩ := set_split (At.mp b ek ev (mput l x u)) hi
  obtain ⟨es, clock, hb, he, hst⟩ := hw.sat _ (List.mem_of_getElem? hi)
  obtain ⟨es', clock', hrun, he'⟩ := run_mapPut (P := X.P) (ev := ev) hk hT hb he hst x u
  refine ⟨undef, setBlock w b (.map es' clock'), .inr ⟨?_, rfl⟩, h _ _ (ha.putO hd undef) ?_⟩
  · simp only [execOp, ha.eval hm, ha.eval hkk, ha.eval hy, show Go.GW.ev ρ m = .map (some b) from hme, show Go.GW.ev ρ k = ek x from hke, show Go.GW.ev ρ y = ev u from hye, Sem.run_bind, hrun, Result.andThen_ok, Sem.run_pure]
  · rw [hsp']
    rw [hsp] at hw
    refine hw.write X.hF rfl rfl rfl (Nat.le_refl _) (by simp [setBlock]) (fun c hc hne => heap_setBlock_other hb _ fun e => hne (by rw [e]; rfl)) (fun c hc => .inl hc) ?_
    intro _
    exact ⟨es', clock', heap_setBlock_same hb _, he'⟩
theorem gives_mapLen {d : Option Tmp} {m : Operand} {T ty' et : TypeId} {pos : String} {after : Array Edge} {b : Nat} {l : List (K × V)} (i : Nat) (hT : X.P.underlying T = some (.map kt et)) (hi : Δ[i]? = some (At.mp b ek ev l) := by kernel_rfl) (hm : known ρ m = true := by kernel_rfl) (hme : Go.GW.ev ρ m = .map (some b) := by kernel_rfl) :
    Gives X ρ Δ ⟨d, .call ⟨.builtin .len, #[m], #[T]⟩, ty', pos, after, none⟩ (.int .i64 (l.length : Int)) := by
  intro a w ha hw
  obtain ⟨es, clock, hb, he, _⟩ := hw.sat _ (List.mem_of_getElem? hi)
  have hlen : es.size = l.length := by have := congrArg List.length he; simpa using this
  simp [execOp, resolve, invoke, builtin, ha.eval hm, show Go.GW.ev ρ m = .map (some b) from hme, Builtin.len_, run_underlying hT, MapKept.run_getObj_map hb, hlen, goInt]
end
end Go.GW
