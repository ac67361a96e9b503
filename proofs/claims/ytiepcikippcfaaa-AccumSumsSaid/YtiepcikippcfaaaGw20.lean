/-
  Gw20: ranges over functions: the loop's record and the mark as atoms, a round, the statement, the end of an activation that bears marks.
-/
import Derived.Test.YtiepcikippcfaaaGw19
import Derived.RangeFuncRecord
set_option linter.unusedVariables false
set_option linter.unusedSimpArgs false
namespace Go.GW
open Go

/-- The way in which a round has left its loop, as a number: 0: not at all; 1: by a return; k + 2: by the exit k. -/
def jumpOf (p : Int) : Option Code := if p = 0 then none else if p = 1 then some .ret else some (.exit (p.toNat - 2))
def stateOf (p : Int) : LoopState := if p = 0 then .ready else .done

/-- The record of a loop over a function, between two rounds. -/
def At.loop (l n : Nat) (ρ : Env) (ps : Array Tmp) (assign body : Code) (p : Int) : At where
  blk := some l
  sh := false
  sat := fun w _ => ∃ fn tmps D, Sees n [] ρ ⟨tmps, []⟩ ∧ w.heap[l]? = some (.loop { state := stateOf p, pending := jumpOf p, fn := fn, tmps := tmps, params := ps, assign := assign, body := body, defers := D })
  keep := by
    rintro w w' S S' h1 _ ⟨fn, tmps, D, h2, h3⟩
    exact ⟨fn, tmps, D, h2, (h1 l rfl).trans h3⟩
/-- The same in a round. -/
def At.busy (l n : Nat) (ρ : Env) (ps : Array Tmp) (assign body : Code) : At where
  blk := some l
  sh := false
  sat := fun w _ => ∃ fn tmps D, Sees n [] ρ ⟨tmps, []⟩ ∧ w.heap[l]? = some (.loop { state := .busy, pending := none, fn := fn, tmps := tmps, params := ps, assign := assign, body := body, defers := D })
  keep := by
    rintro w w' S S' h1 _ ⟨fn, tmps, D, h2, h3⟩
    exact ⟨fn, tmps, D, h2, (h1 l rfl).trans h3⟩
/-- The block for the rounds' deferred calls: there are none. -/
def At.mark (D : Nat) : At where
  blk := some D
  sh := false
  sat := fun w _ => w.heap[D]? = some (.deferred (some []))
  keep := fun h1 _ h => (h1 D rfl).trans h

def markD (D : Nat) : Deferred := { target := .collected D, args := #[] }

/-! ### One's own part of the heap is handed over -/
theorem use_pre {w0 w : World} {F S : Nat → Prop} {own rest pre : List At} {sh : Bool} {post : Value → List At → Prop} (hF : ∀ b, F b → b < w0.heap.size) (hw : Heap w0 F S (own ++ rest) w) (hpre : PreOk sh rest pre) :
    ∃ S' : Nat → Prop, (∀ b, S' b → b < w.heap.size ∧ b ∉ blks own) ∧ (blks own).Nodup ∧ (∀ b ∈ blks own, b < w.heap.size) ∧ (∀ t ∈ pre, t.sat w S') ∧ (∀ t ∈ own, t.sat w S') ∧
      ∀ e w'', Owed w own S' sh post e w'' → ∃ v Δr, e = .returned v ∧ post v Δr ∧ Heap w0 F S (rest ++ Δr) w'' := by
  have hnd := hw.nodup
  rw [blks_append, List.nodup_append] at hnd
  have hownlt : ∀ b ∈ blks own, b < w.heap.size := fun b hb => (hw.own b (by rw [blks_append]; exact List.mem_append_left _ hb)).2
  cases sh with
  | false =>
    have hmono : ∀ t : At, t ∈ own ++ rest → t.sat w (fun b => b < w.heap.size ∧ b ∉ blks own) := fun t ht =>
      t.mono (fun b hb => ⟨hb.1, fun hb' => hb.2.1 (by rw [blks_append]; exact List.mem_append_left _ hb')⟩) (hw.sat t ht)
    refine ⟨fun b => b < w.heap.size ∧ b ∉ blks own, fun _ h => h, hnd.1, hownlt, fun t ht => ?_, fun t ht => hmono t (List.mem_append_left _ ht), ?_⟩
    · rcases hpre.at_ t ht with h0 | ⟨u, hu, hv, _⟩
      · exact h0 w _
      refine hv w _ (hmono u (List.mem_append_right _ hu)) fun b hb => ?_
      have hbm : b ∈ blks rest := mem_blks hu hb
      exact ⟨(hw.own b (by rw [blks_append]; exact List.mem_append_right _ hbm)).2, fun hb' => hnd.2.2 b hb' b hbm rfl⟩
    · rintro e w'' ⟨v, Δr, rfl, hp, hr, hsh⟩
      refine ⟨v, Δr, rfl, hp, hw.call hF hr fun t ht htr => ?_⟩
      rw [hsh rfl t ht] at htr
      cases htr
  | true =>
    have hmono : ∀ t : At, t ∈ own ++ rest → t.sat w (frz F (selS S true) (own ++ rest) w) := fun t ht =>
      t.mono (fun b hb => ⟨hb.1, hb.2.1, fun hf => ⟨rfl, (hb.2.2 hf).2⟩⟩) (hw.sat t ht)
    refine ⟨frz F (selS S true) (own ++ rest) w, fun b hb => ⟨hb.1, fun hb' => hb.2.1 (by rw [blks_append]; exact List.mem_append_left _ hb')⟩, hnd.1, hownlt, fun t ht => ?_, fun t ht => hmono t (List.mem_append_left _ ht), ?_⟩
    · rcases hpre.at_ t ht with h0 | ⟨u, hu, hv, hn⟩
      · exact h0 w _
      exact hv w _ (hmono u (List.mem_append_right _ hu)) fun b hb => by rw [hn rfl] at hb; cases hb
    · rintro e w'' ⟨v, Δr, rfl, hp, hr, hsh⟩
      exact ⟨v, Δr, rfl, hp, hw.call hF hr fun t ht htr b hb => hb⟩

/-! ### A round -/
/-- What a call of yield does: as 'Does', of the loop l. -/
def DoesY (P : Program) (l : Nat) (args : List Value) (pre own : List At) (sh : Bool) (post : Value → List At → Prop) : Prop :=
  ∀ (w : World) (S : Nat → Prop), (∀ b, S b → b < w.heap.size ∧ b ∉ blks own) → (blks own).Nodup → (∀ b ∈ blks own, b < w.heap.size) → (∀ t ∈ pre, t.sat w S) → (∀ t ∈ own, t.sat w S) →
    ∃ f tmps assign body, (Instr.yield l args.toArray).run P w = .ok (.round l f tmps assign body) w ∧ RoundIn (fen none) 0 P l f tmps assign body w (Owed w own S sh post)

theorem roundIn_fen {ro : Option Nat} {n : Nat} {P : Program} {l : Nat} {f : FuncId} {tmps : Array Value} {assign body : Code} {w : World} {R : Ending → World → Prop} (h : RoundIn (fen none) 0 P l f tmps assign body w R) : RoundIn (fen ro) n P l f tmps assign body w R :=
  ⟨trivial, fun c cs _ => h.2 c cs (room_wide _)⟩

def ctxR (P : Program) (n : Nat) (w : World) (own : List At) (S : Nat → Prop) (l : Nat) : Ctx := { ctx P n w own S with md := some (some l) }
def ctxF (P : Program) (n : Nat) (w : World) (own : List At) (S : Nat → Prop) : Ctx := { ctx P n w own S with md := some none }

def ups : Env → List Tmp → List Value → Env
  | ρ, t :: ts, v :: vs => ups (up ρ t v) ts vs
  | ρ, _, _ => ρ
theorem sees_ups {n : Nat} {ds : List Deferred} : ∀ (ts : List Tmp) (vs : List Value) (ρ : Env) (tmps : Array Value), Sees n ds ρ ⟨tmps, ds⟩ → ts.all (fun t => Nat.ble (t + 1) n) = true → Sees n ds (ups ρ ts vs) ⟨(ts.zip vs).foldl (fun tmps (t, a) => tmps.setIfInBounds t a) tmps, ds⟩
  | [], _, ρ, tmps, h, _ => by simpa [ups] using h
  | _ :: _, [], ρ, tmps, h, _ => by simpa [ups] using h
  | t :: ts, v :: vs, ρ, tmps, h, hok => by
    simp only [List.all_cons, Bool.and_eq_true] at hok
    exact sees_ups ts vs (up ρ t v) (tmps.setIfInBounds t v) (h.put (Nat.le_of_ble_eq_true hok.1) v) hok.2

theorem DoesY.body {P : Program} {l n : Nat} {ρ : Env} {ps : List Tmp} {assign body : Code} {args : List Value} {pre own : List At} {sh : Bool} {post : Value → List At → Prop}
    (hpsh : ShOk pre) (hosh : ShOk own)
    (h : ∀ w S, JQ (ctxR P n w (At.loop l n ρ ps.toArray assign body 0 :: own) S l) (cw (ctxR P n w (At.loop l n ρ ps.toArray assign body 0 :: own) S l) assign
      (Exit.then (fun a₁ w₁ => ∃ w₂, (Instr.beginRound l).run P w₁ = .ok () w₂ ∧ cw (ctxR P n w (At.loop l n ρ ps.toArray assign body 0 :: own) S l) body (roundPost P l (Owed w (At.loop l n ρ ps.toArray assign body 0 :: own) S sh post)) a₁ w₂) (fun _ _ _ => False)))
      (ups ρ ps args) (At.loop l n ρ ps.toArray assign body 0 :: (pre ++ own)))
    (hlen : Nat.beq ps.length args.length = true := by kernel_rfl) (hok : ps.all (fun t => Nat.ble (t + 1) n) = true := by kernel_rfl) (hpb : blks pre = [] := by kernel_rfl) :
    DoesY P l args pre (At.loop l n ρ ps.toArray assign body 0 :: own) sh post := by
  intro w S hS hnd hown hpre hown'
  obtain ⟨fn, tmps, D, hsee, hl⟩ : (At.loop l n ρ ps.toArray assign body 0).sat w S := hown' _ (by simp)
  have hb : ∀ (x : List At), blks (At.loop l n ρ ps.toArray assign body 0 :: (pre ++ x)) = blks (At.loop l n ρ ps.toArray assign body 0 :: x) := fun x => by
    rw [blks_cons, blks_append, hpb, List.nil_append, blks_cons]
  have hlen' := Nat.eq_of_beq_eq_true hlen
  refine ⟨fn, _, assign, body, run_yield hl (by simp [hlen']), ?_⟩
  refine roundIn_of_wpIn (F := fen none) trivial ?_
  refine h w S _ _ ?_ ⟨rfl, rfl, rfl, Nat.le_refl _, Nat.le_refl _, fun _ _ => rfl, ?_, fun b hb' => ?_, fun t ht => ?_⟩
  · have := sees_ups ps args ρ tmps hsee hok
    simpa [ctxR, ctx] using this
  · rw [hb]; exact hnd
  · rw [hb] at hb'
    exact ⟨fun hF => hF.2 hb', hown b hb'⟩
  · have hcase : t ∈ pre ∨ t ∈ At.loop l n ρ ps.toArray assign body 0 :: own := by
      simp only [List.mem_cons, List.mem_append] at ht ⊢
      rcases ht with h1 | h1 | h1
      · exact .inr (.inl h1)
      · exact .inl h1
      · exact .inr (.inr h1)
    have hsat : t.sat w S := hcase.elim (hpre t) (hown' t)
    rcases (show t.sh = true ∨ ∀ w S S', t.sat w S → t.sat w S' from by
      rcases hcase with ht | ht
      · exact hpsh.at_ t ht
      · rcases List.mem_cons.1 ht with rfl | ht
        · exact .inr fun _ _ _ h => h
        · exact hosh.at_ t ht) with hh | hh
    · refine t.mono (fun b hb' => ⟨(hS b hb').1, ?_, fun _ => ⟨hh, hb'⟩⟩) hsat
      rw [hb]
      exact (hS b hb').2
    · exact hh w S _ hsat

section
variable {X : Ctx} {ρ : Env} {Δ : List At} {Q : Exit → Act → World → Prop} {ops : Array Oper} {rest : List Oper}

theorem heap_put {w0 w : World} {F S : Nat → Prop} {Δ : List At} {i l : Nat} {t t' : At} {o : Obj} (hF : ∀ b, F b → b < w0.heap.size) (h : Heap w0 F S Δ w) (hi : Δ[i]? = some t) (hb : t.blk = some l) (hb' : t'.blk = some l) (hsat : ∀ S', t'.sat (w.putObj l o) S') : Heap w0 F S (Δ.set i t') (w.putObj l o) := by
  obtain ⟨hsp, hsp'⟩ := set_split t' hi
  rw [hsp']
  rw [hsp] at h
  refine h.write hF rfl rfl rfl (Nat.le_refl _) (by simp) (fun b _ hne => World.putObj_heap_other fun e => hne (by rw [hb, e])) (fun b hbb => .inl (by rw [hb, ← hb', hbb])) fun _ => hsat _

/-- A round begins. -/
theorem JQ.begin {l n : Nat} {ρl : Env} {ps : Array Tmp} {assign body : Code} {K : Act → World → Prop} (i : Nat) (h : JQ X K ρ (Δ.set i (At.busy l n ρl ps assign body))) (hi : Δ[i]? = some (At.loop l n ρl ps assign body 0) := by kernel_rfl) :
    JQ X (fun a₁ w₁ => ∃ w₂, (Instr.beginRound l).run X.P w₁ = .ok () w₂ ∧ K a₁ w₂) ρ Δ := by
  intro a w ha hw
  obtain ⟨fn, tmps, D, hs, hl⟩ := hw.sat _ (List.mem_of_getElem? hi)
  have hlt : l < w.heap.size := (Array.getElem?_eq_some_iff.1 hl).1
  refine ⟨_, run_beginRound hl rfl, h a _ ha (heap_put X.hF hw hi rfl rfl fun S' => ?_)⟩
  exact ⟨fn, tmps, D, hs, World.putObj_heap_same hlt⟩

/-- A round ends. -/
theorem JQ.rdone {P : Program} {n n' l : Nat} {ρl : Env} {ps : Array Tmp} {assign body : Code} {w0 : World} {own : List At} {S : Nat → Prop} {sh : Bool} {post : Value → List At → Prop} {e : Exit} (p : Int) (i : Nat) (Δr : List At)
    (he : (e = .normal ∧ p = 0) ∨ (e = .ret ∧ p = 1) ∨ ∃ id : Nat, e = .exit id ∧ p = (id : Int) + 2)
    (hd : ∀ w, Heap w0 (fun b => b < w0.heap.size ∧ b ∉ blks own) S (Δ.set i (At.loop l n' ρl ps assign body p)) w → Heap w0 (fun b => b < w0.heap.size ∧ b ∉ blks own) S Δr w)
    (hpost : post (.bool (decide (p = 0))) Δr) (hi : Δ[i]? = some (At.busy l n' ρl ps assign body) := by kernel_rfl) (hsh : (sh || Δr.all (fun t => !t.sh)) = true := by kernel_rfl) :
    JQ (ctxR P n w0 own S l) (roundPost P l (Owed w0 own S sh post) e) ρ Δ := by
  rw [Bool.or_eq_true] at hsh
  intro a w ha hw
  obtain ⟨fn, tmps, D, hs, hl⟩ := hw.sat _ (List.mem_of_getElem? hi)
  have hlt : l < w.heap.size := (Array.getElem?_eq_some_iff.1 hl).1
  have hcore : ∀ jump : Option Code, jump = jumpOf p → jump.isNone = decide (p = 0) → ∃ v w', (Instr.endRound l jump).run P w = .ok v w' ∧ Owed w0 own S sh post (.returned v) w' := by
    intro jump hj hn
    refine ⟨_, _, run_endRound jump hl, ?_⟩
    refine ⟨_, Δr, rfl, hn ▸ hpost, hd _ (heap_put (ctxR P n w0 own S l).hF hw hi rfl rfl fun S' => ?_), fun hs t ht => ?_⟩
    · refine ⟨fn, tmps, D, hs, ?_⟩
      rw [World.putObj_heap_same hlt, hn, hj]
      unfold stateOf
      by_cases hp : p = 0 <;> simp [hp]
    · rcases hsh with h | h
      · rw [h] at hs; cases hs
      · simpa using List.all_eq_true.1 h t ht
  rcases he with ⟨rfl, rfl⟩ | ⟨rfl, rfl⟩ | ⟨id, rfl, rfl⟩
  · exact hcore none rfl rfl
  · exact hcore (some .ret) rfl rfl
  · refine hcore (some (.exit id)) ?_ ?_
    · unfold jumpOf
      rw [if_neg (by omega), if_neg (by omega)]
      congr 2
    · have : ¬ ((id : Int) + 2 = 0) := by omega
      simp [this]

/-! ### yield is called -/
def YK (X : Ctx) (ops : Array Oper) (Q : Exit → Act → World → Prop) (ro : Option Nat) (rest : List Oper) : Exit → Act → World → Prop
  | .normal, a, w => wpListIn (fen ro) 0 X.P ops Q rest a w
  | _, _, _ => False

/-- A region with a call of yield: the operations ahead of it. -/
theorem J.regionY {id : Nat} {l : List Oper} (k : Nat) (ro : Option Nat) (h : JQ X (wpList X.P l.toArray (YK X l.toArray Q ro (l.drop k)) (l.take k)) ρ Δ) (hmd : X.md = some ro := by rfl) (hnd : (l.take k).all nodef = true := by kernel_rfl) : JQ X (cw X (Code.region id l.toArray false) Q) ρ Δ := by
  intro a w ha hw
  rw [cw_some hmd]
  refine wpIn_region_lit ?_
  have := wpListIn_of (ro := ro) (rest := l.drop k) (Q := Q) (Q1 := YK X l.toArray Q ro (l.drop k)) (fun _ _ _ h => h) (fun ⟨_, _, h⟩ => h) (fun a w h => h) (l.take k) a w hnd (h a w ha hw)
  rwa [List.take_append_drop] at this

theorem JL.callY {d : Option Tmp} {fo : Operand} {xs : Array Operand} {ats : Array TypeId} {ty : TypeId} {pos : String} {after : Array Edge} {l : Nat} {args : List Value} {pre own : List At} {sh : Bool} {post : Value → List At → Prop} {ro : Option Nat} {rest0 : List Oper}
    (m : List Bool) (hs : DoesY X.P l args pre own sh post) (hpre : PreOk sh (maskF m Δ) pre) (hr : rest0 = ⟨d, .call ⟨.value fo, xs, ats⟩, ty, pos, after, none⟩ :: rest)
    (h : ∀ v Δr, post v Δr → JQ X (wpList X.P ops (Strict Q) rest) (upO ρ d v) (maskF m Δ ++ Δr))
    (hf : known ρ fo = true := by kernel_rfl) (hfe : ev ρ fo = .func (.yield l) #[] #[] := by kernel_rfl) 
    (hx : xs.toList.all (known ρ) = true := by kernel_rfl) (hxe : xs.toList.map (ev ρ) = args := by kernel_rfl) (hd : okd X.n d = true := by kernel_rfl)
    (hown : maskT m Δ = own := by kernel_rfl) (hnd : rest.all nodef = true := by kernel_rfl) :
    JQ X (YK X ops Q ro rest0 .normal) ρ Δ := by
  intro a w ha hw
  subst hr
  show wpListIn (fen ro) 0 X.P ops Q _ a w
  refine wpListIn_plain rfl fun K hK => ?_
  have hw' : Heap X.w0 X.F X.S (own ++ maskF m Δ) w := hown ▸ hw.perm (mask_perm m Δ).symm
  obtain ⟨S', h1, h2, h3, h4, h5, h6⟩ := use_pre (post := post) X.hF hw' hpre
  obtain ⟨f, tmps, assign, body, hy, hround⟩ := hs w S' h1 h2 h3 h4 h5
  have hargs : xs.map (ev ρ) = args.toArray := by
    rw [← hxe]
    apply Array.ext'
    simp
  have hrun : (execOp a.eval ⟨d, .call ⟨.value fo, xs, ats⟩, ty, pos, after, none⟩).run X.P w = .ok (.round l f tmps assign body) w := by
    simp only [execOp, resolve, Deferred.ofValue, ha.eval hf, hfe, ha.args hx, pure_bind, invoke, hargs]
    simpa using hy
  refine ⟨fun _ _ => trivial, ?_⟩
  rw [show (Oper.semAt (fen ro).round a.eval ⟨d, .call ⟨.value fo, xs, ats⟩, ty, pos, after, none⟩) = execOp a.eval ⟨d, .call ⟨.value fo, xs, ats⟩, ty, pos, after, none⟩ from semAt_fen (ro := ro) rfl a.eval, hrun]
  refine ⟨fun h => (by cases h), roundIn_fen (hround.mono fun e w'' he => ?_)⟩
  obtain ⟨v, Δr, rfl, hp, hheap⟩ := h6 e w'' he
  refine hK _ _ ?_
  have := wpListIn_of (ro := ro) (rest := []) (Q := Q) strict_panic strict_out (fun a w h => (h : Q .normal a w)) rest (a.put d v) w'' hnd (h v Δr hp _ _ (ha.putO hd v) hheap)
  rwa [List.append_nil] at this

/-! ### The statement -/
def jumpTo (p : Int) (Q : Exit → Act → World → Prop) (a : Act) (w : World) : Prop := if p = 0 then Q .normal a w else if p = 1 then Q .ret a w else Q (.exit (p.toNat - 2)) a w
theorem JQ.jump0 {p : Int} (hp : p = 0) (h : JQ X (Q .normal) ρ Δ) : JQ X (jumpTo p Q) ρ Δ := fun a w ha hw => by unfold jumpTo; rw [if_pos hp]; exact h a w ha hw
theorem JQ.jump1 {p : Int} (hp : p = 1) (h : JQ X (Q .ret) ρ Δ) : JQ X (jumpTo p Q) ρ Δ := fun a w ha hw => by unfold jumpTo; rw [if_neg (by omega), if_pos hp]; exact h a w ha hw
theorem JQ.jumpX {p : Int} (id : Nat) (hp : p = (id : Int) + 2) (h : JQ X (Q (.exit id)) ρ Δ) : JQ X (jumpTo p Q) ρ Δ := fun a w ha hw => by
  unfold jumpTo; rw [if_neg (by omega), if_neg (by omega)]
  have : p.toNat - 2 = id := by omega
  rw [this]; exact h a w ha hw

def Ctx.mark (X : Ctx) (D : Nat) : Ctx := { X with ds := markD D :: X.ds }

theorem J.rangeFunc0 {g : Operand} {ps : Array Tmp} {assign body : Code} {f : FuncId} {caps : List Value} {pre own : List At} {post : Nat → Value → List At → Prop} (m : List Bool) (ρl : Env)
    (hs : ∀ l, Does X.P f (.func (.yield l) #[] #[] :: caps).toArray pre (At.loop l X.n ρl ps assign body 0 :: own) true (post l))
    (hpre : PreOk true (maskF m Δ) pre)
    (h : ∀ D l v Δr, post l v Δr → ∃ p Δ1, Δr = At.loop l X.n ρl ps assign body p :: Δ1 ∧ JQ (X.mark D) (jumpTo p Q) ρ (maskF m Δ ++ At.mark D :: Δ1))
    (hmd : X.md = some none := by rfl) (hg : known ρ g = true := by kernel_rfl) (hge : ev ρ g = .func (.func f) #[] caps.toArray := by kernel_rfl) (hb : entersB X.P f = true := by kernel_rfl) (hown : maskT m Δ = own := by kernel_rfl) (hsub : Sub ρ ρl := by delta Go.GW.Sub; kernel_rfl) :
    JQ X (cw X (Code.rangeFunc g ps assign body) Q) ρ Δ := by
  intro a w ha hw
  rw [cw_some hmd]
  refine wpIn_rangeFunc fun fn _ => ?_
  let D := w.heap.size
  let l := D + 1
  let rc : Loop := { state := .ready, pending := none, fn := fn, tmps := a.tmps, params := ps, assign := assign, body := body, defers := D }
  let w1 := w.alloc (.deferred (some []))
  let w2 := w1.alloc (.loop rc)
  have hw1 : Heap X.w0 X.F X.S (Δ ++ [At.mark D]) w1 := hw.alloc X.hF _ (At.mark D) rfl fun S' _ => heap_alloc_new w _
  have hsz1 : w1.heap.size = D + 1 := by simp [w1, D]
  have hw2 : Heap X.w0 X.F X.S ((Δ ++ [At.mark D]) ++ [At.loop l X.n ρl ps assign body 0]) w2 := hw1.alloc X.hF _ (At.loop l X.n ρl ps assign body 0) (by show some l = some w1.heap.size; rw [hsz1]) fun S' _ => by
    refine ⟨fn, a.tmps, D, ⟨ha.size, rfl, (ha.sub hsub).at_⟩, ?_⟩
    have := heap_alloc_new w1 (.loop rc)
    rw [hsz1] at this
    exact this
  have henter : (Instr.enterLoop fn a.tmps ps assign body none).run X.P w = .ok (l, [markD D]) w2 := run_enterLoop_outer _ _ _ _ _
  have hperm : ((At.loop l X.n ρl ps assign body 0 :: own) ++ (maskF m Δ ++ [At.mark D])).Perm ((Δ ++ [At.mark D]) ++ [At.loop l X.n ρl ps assign body 0]) := by
    have h1 : (own ++ maskF m Δ).Perm Δ := hown ▸ mask_perm m Δ
    have h2 : (own ++ (maskF m Δ ++ [At.mark D])).Perm (Δ ++ [At.mark D]) := by rw [← List.append_assoc]; exact h1.append_right _
    have h3 : (At.loop l X.n ρl ps assign body 0 :: (own ++ (maskF m Δ ++ [At.mark D]))).Perm (At.loop l X.n ρl ps assign body 0 :: (Δ ++ [At.mark D])) := h2.cons _
    exact h3.trans (List.perm_append_singleton _ _).symm
  have hw3 : Heap X.w0 X.F X.S ((At.loop l X.n ρl ps assign body 0 :: own) ++ (maskF m Δ ++ [At.mark D])) w2 := hw2.perm hperm.symm
  have hpre2 : PreOk true (maskF m Δ ++ [At.mark D]) pre := by
    clear hs h hw3 hperm
    induction pre with
    | nil => trivial
    | cons t ts ih =>
      refine ⟨?_, ih hpre.2⟩
      rcases hpre.1 with h0 | ⟨u, hu, h1⟩
      · exact .inl h0
      · exact .inr ⟨u, List.mem_append_left _ hu, h1⟩
  obtain ⟨S', g1, g2, g3, g4, g5, g6⟩ := use_pre (post := post l) X.hF hw3 hpre2
  have hcall := hs l w2 S' g1 g2 g3 g4 g5
  refine ⟨l, [markD D], w2, ⟨.fn (.func f) caps.toArray, #[.func (.yield l) #[] #[]]⟩, w2, f, #[Value.func (.yield l) #[] #[]] ++ caps.toArray, w2, henter, ?_, fun _ _ => trivial, ?_, fun h => (by cases h), ?_⟩
  · have hev : a.eval g = .func (.func f) #[] caps.toArray := (ha.eval hg).trans hge
    simp only [resolve, rangeCall, Deferred.ofValue, hev]
    simp [Act.eval]
  · simp only [invoke]
    exact run_callFunc hb _ w2
  · have hargs : (#[Value.func (.yield l) #[] #[]] ++ caps.toArray) = (Value.func (.yield l) #[] #[] :: caps).toArray := by apply Array.ext'; simp
    rw [hargs]
    refine callsIn_fen (hcall.mono fun e w'' he => ?_)
    obtain ⟨v, Δr, rfl, hp, hheap⟩ := g6 e w'' he
    obtain ⟨p, Δ1, rfl, hj⟩ := h D l v Δr hp
    have hi : ((maskF m Δ ++ [At.mark D]) ++ At.loop l X.n ρl ps assign body p :: Δ1)[(maskF m Δ ++ [At.mark D]).length]? = some (At.loop l X.n ρl ps assign body p) := by simp
    obtain ⟨fn', tmps', D', hsees, hl⟩ := hheap.sat _ (List.mem_of_getElem? hi)
    have hend : (Instr.endLoop l).run X.P w'' = .ok (jumpOf p) (w''.putObj l (.loop { state := .exhausted, pending := jumpOf p, fn := fn', tmps := tmps', params := ps, assign := assign, body := body, defers := D' })) := by
      have := run_endLoop (P := X.P) hl (by unfold stateOf; by_cases hp0 : p = 0 <;> simp [hp0])
      exact this
    have hheap2 : Heap X.w0 X.F X.S (maskF m Δ ++ At.mark D :: Δ1) (w''.putObj l (.loop { state := .exhausted, pending := jumpOf p, fn := fn', tmps := tmps', params := ps, assign := assign, body := body, defers := D' })) := by
      let tt : At := ⟨some l, false, fun _ _ => True, fun _ _ _ => trivial⟩
      have h7 := heap_put (t' := tt) (o := .loop { state := .exhausted, pending := jumpOf p, fn := fn', tmps := tmps', params := ps, assign := assign, body := body, defers := D' }) X.hF hheap hi rfl rfl fun _ => trivial
      refine h7.drop ?_
      rw [List.set_append_right _ _ (Nat.le_refl _)]
      simp only [Nat.sub_self, List.set_cons_zero, List.append_assoc, List.singleton_append]
      exact List.Sublist.append (List.Sublist.refl _) (List.Sublist.cons_cons _ (List.sublist_cons_self _ _))
    have ha' : Sees X.n (markD D :: X.ds) ρ { a with defers := [markD D] ++ a.defers } := ⟨ha.size, by rw [ha.defers]; rfl, ha.at_⟩
    have hfin := hj _ _ ha' hheap2
    refine ⟨jumpOf p, _, hend, ?_⟩
    clear hend hheap2 hheap
    generalize w''.putObj l (.loop { state := .exhausted, pending := jumpOf p, fn := fn', tmps := tmps', params := ps, assign := assign, body := body, defers := D' }) = wf at hfin ⊢
    unfold jumpTo at hfin
    unfold jumpOf
    by_cases hp0 : p = 0
    · rw [if_pos hp0] at hfin ⊢
      exact hfin
    · rw [if_neg hp0] at hfin ⊢
      by_cases hp1 : p = 1
      · rw [if_pos hp1] at hfin ⊢
        exact wpIn_ret hfin
      · rw [if_neg hp1] at hfin ⊢
        exact wpIn_exit hfin

/-- The same; in what is shown of the function that is ranged over, the record's parts go by names of their own. -/
theorem J.rangeFunc {g : Operand} {ps : Array Tmp} {assign body : Code} {f : FuncId} {caps : List Value} {pre own : List At} {post : Nat → Nat → Env → Array Tmp → Code → Code → Value → List At → Prop} (m : List Bool) (ρl : Env)
    (hs : ∀ l n ρr psr asr bor, X.n = n → ρl = ρr → ps = psr → assign = asr → body = bor → Does X.P f (.func (.yield l) #[] #[] :: caps).toArray pre (At.loop l n ρr psr asr bor 0 :: own) true (post l n ρr psr asr bor))
    (hpre : PreOk true (maskF m Δ) pre)
    (h : ∀ D l v Δr, post l X.n ρl ps assign body v Δr → ∃ p Δ1, Δr = At.loop l X.n ρl ps assign body p :: Δ1 ∧ JQ (X.mark D) (jumpTo p Q) ρ (maskF m Δ ++ At.mark D :: Δ1))
    (hmd : X.md = some none := by rfl) (hg : known ρ g = true := by kernel_rfl) (hge : ev ρ g = .func (.func f) #[] caps.toArray := by kernel_rfl) (hb : entersB X.P f = true := by kernel_rfl) (hown : maskT m Δ = own := by kernel_rfl) (hsub : Sub ρ ρl := by delta Go.GW.Sub; kernel_rfl) :
    JQ X (cw X (Code.rangeFunc g ps assign body) Q) ρ Δ :=
  J.rangeFunc0 (post := fun l => post l X.n ρl ps assign body) m ρl (fun l => hs l _ _ _ _ _ rfl rfl rfl rfl rfl) hpre h hmd hg hge hb hown hsub

/-- What follows a loop over a function: the activation bears more marks. -/
theorem JQ.reX {X' : Ctx} {c : Code} (h : JQ X' (cw X' c Q) ρ Δ) (hp : X'.P = X.P) (hm : X'.md = X.md) : JQ X' (cw X c Q) ρ Δ := by
  have : cw X' c Q = cw X c Q := by funext a w; unfold cw; rw [hp, hm]
  rw [← this]
  exact h
end

theorem DoesY.body' {P : Program} {l n n0 : Nat} {ρr ρ0 : Env} {psr : Array Tmp} {ps0 : List Tmp} {asr bor assign body : Code} {args : List Value} {pre own : List At} {sh : Bool} {post : Value → List At → Prop}
    (hn : n0 = n) (hρ : ρ0 = ρr) (hps : ps0.toArray = psr) (has : assign = asr) (hbo : body = bor) (hpsh : ShOk pre) (hosh : ShOk own)
    (h : ∀ w S, JQ (ctxR P n0 w (At.loop l n ρr psr asr bor 0 :: own) S l) (cw (ctxR P n0 w (At.loop l n ρr psr asr bor 0 :: own) S l) assign
      (Exit.then (fun a₁ w₁ => ∃ w₂, (Instr.beginRound l).run P w₁ = .ok () w₂ ∧ cw (ctxR P n0 w (At.loop l n ρr psr asr bor 0 :: own) S l) body (roundPost P l (Owed w (At.loop l n ρr psr asr bor 0 :: own) S sh post)) a₁ w₂) (fun _ _ _ => False)))
      (ups ρ0 ps0 args) (At.loop l n ρr psr asr bor 0 :: (pre ++ own)))
    (hlen : Nat.beq ps0.length args.length = true := by kernel_rfl) (hok : ps0.all (fun t => Nat.ble (t + 1) n0) = true := by kernel_rfl) (hpb : blks pre = [] := by kernel_rfl) :
    DoesY P l args pre (At.loop l n ρr psr asr bor 0 :: own) sh post := by
  subst hn hρ hps has hbo
  exact DoesY.body hpsh hosh h hlen hok hpb

theorem row_any {α : Type} (A : Option Addr) (c : Nat) (E : TypeId) (f : Fl α) (xs : List α) (sh : Bool) : ∀ w S S', (At.row A c E f.kd xs sh).sat w S → (At.row A c E f.kd xs sh).sat w S' := fun w S S' ⟨cells, h1, h2⟩ => ⟨cells, h1, h2.anywhere⟩
theorem loop_any (l n : Nat) (ρ : Env) (ps : Array Tmp) (assign body : Code) (p : Int) : ∀ w S S', (At.loop l n ρ ps assign body p).sat w S → (At.loop l n ρ ps assign body p).sat w S' := fun _ _ _ h => h

/-! ### The body of a function that holds such loops -/
theorem Does.bodyF {P : Program} {f : FuncId} {fn : Func} {c : Code} {vs : List Value} {pre own : List At} {sh : Bool} {post : Value → List At → Prop}
    (hf : P.funcs[f]? = some fn) (hb : fn.body = some c) (hpsh : ShOk pre) (hosh : ShOk own)
    (h : ∀ w S, JQ (ctxF P fn.ntmps w own S) (cw (ctxF P fn.ntmps w own S) c (bodyPostM Fence.wide 0 P fn (Owed w own S sh post))) (entry 0 vs) (pre ++ own))
    (hn : Nat.ble vs.length fn.ntmps = true := by kernel_rfl) (hpb : blks pre = [] := by kernel_rfl) :
    Does P f vs.toArray pre own sh post := by
  intro w S hS hnd hown hpre hown'
  refine (callsIn_wide (n := 0)).1 (callsIn_of_wp_marks hf hb trivial (h w S _ _ ⟨?_, rfl, fun i v hv => ?_⟩ ⟨rfl, rfl, rfl, Nat.le_refl _, Nat.le_refl _, fun _ _ => rfl, ?_, fun b hb => ?_, fun t ht => ?_⟩) rfl)
  · have := Nat.le_of_ble_eq_true hn
    simp only [ctxF, ctx, Array.size_append, List.size_toArray, Array.size_replicate]
    omega
  · obtain ⟨j, hj, hv'⟩ := lk_entry vs 0 i v hv
    have hj' : i = j := by omega
    subst hj'
    have hlt : i < vs.length := (List.getElem?_eq_some_iff.1 hv').1
    have := Nat.le_of_ble_eq_true hn
    refine ⟨by simp only [ctxF, ctx]; omega, ?_⟩
    rw [Array.getD_eq_getD_getElem?, Array.getElem?_append_left (by simpa using hlt)]
    simp [hv']
  · rw [blks_append, hpb, List.nil_append]
    exact hnd
  · rw [blks_append, hpb, List.nil_append] at hb
    exact ⟨fun hF => hF.2 hb, hown b hb⟩
  · have hsat : t.sat w S := by
      rcases List.mem_append.1 ht with ht | ht
      · exact hpre t ht
      · exact hown' t ht
    rcases (show t.sh = true ∨ ∀ w S S', t.sat w S → t.sat w S' from by
      rcases List.mem_append.1 ht with ht | ht
      · exact hpsh.at_ t ht
      · exact hosh.at_ t ht) with hh | hh
    · refine t.mono (fun b hb => ⟨(hS b hb).1, ?_, fun _ => ⟨hh, hb⟩⟩) hsat
      rw [blks_append, hpb, List.nil_append]
      exact (hS b hb).2
    · exact hh w S _ hsat

theorem leaves_marks {P : Program} {fn : Func} {tmps : Array Value} {R : Ending → World → Prop} {w0 : World} {F S : Nat → Prop} (hF : ∀ b, F b → b < w0.heap.size) {Δ0 : List At} :
    ∀ (Ds : List Nat) (w : World), Heap w0 F S (Ds.map At.mark ++ Δ0) w → (∀ w', Heap w0 F S Δ0 w' → ∃ v, (results fn tmps).run P w' = .ok v w' ∧ R (.returned v) w') →
      LeavesInM Fence.wide 0 P fn tmps R (Ds.map markD) .returning w
  | [], w, h, hR => hR w h
  | D :: Ds, w, h, hR => by
    have hi : (At.mark D :: (Ds.map At.mark ++ Δ0))[0]? = some (At.mark D) := rfl
    have hD : w.heap[D]? = some (.deferred (some [])) := h.sat (At.mark D) (by simp)
    refine ⟨by simp, .inl ⟨D, _, rfl, run_takeDeferred hD, leaves_marks hF Ds _ ?_ hR⟩⟩
    let tt : At := ⟨some D, false, fun _ _ => True, fun _ _ _ => trivial⟩
    have h7 := heap_put (t' := tt) (o := .deferred none) hF h hi rfl rfl fun _ => trivial
    exact h7.drop (List.sublist_cons_self _ _)

/-- The body's end, marks and all. -/
theorem JQ.doneM {P : Program} {X : Ctx} {ρ : Env} {Δ : List At} {fn : Func} {n : Nat} {w0 : World} {own : List At} {S : Nat → Prop} {sh : Bool} {post : Value → List At → Prop} {e : Exit} {rs : List ResultVar} {vs : List Value} {v : Value}
    (Ds : List Nat) (Δ0 Δr : List At) (he : e = .normal ∨ e = .ret) (hv : ResV (ctx P n w0 own S) ρ Δ0 rs vs)
    (hm : ∀ w, Heap w0 (fun b => b < w0.heap.size ∧ b ∉ blks own) S Δ w → Heap w0 (fun b => b < w0.heap.size ∧ b ∉ blks own) S (Ds.map At.mark ++ Δ0) w)
    (hd : ∀ w, Heap w0 (fun b => b < w0.heap.size ∧ b ∉ blks own) S Δ0 w → Heap w0 (fun b => b < w0.heap.size ∧ b ∉ blks own) S Δr w) (hpost : post v Δr)
    (hX : X = { ctxF P n w0 own S with ds := Ds.map markD } := by rfl)
    (hr : fn.results = rs.toArray := by kernel_rfl) (hp : packed vs = v := by kernel_rfl) (hsh : (sh || Δr.all (fun t => !t.sh)) = true := by kernel_rfl) :
    JQ X (bodyPostM Fence.wide 0 P fn (Owed w0 own S sh post) e) ρ Δ := by
  subst hX
  rw [Bool.or_eq_true] at hsh
  intro a w ha hw
  have hds : a.defers = Ds.map markD := ha.defers
  have ha' : Sees n [] ρ { a with defers := [] } := ⟨ha.size, rfl, ha.at_⟩
  have key : LeavesInM Fence.wide 0 P fn a.tmps (Owed w0 own S sh post) a.defers .returning w := by
    rw [hds]
    refine leaves_marks (fun _ h => h.1) Ds w (hm w hw) fun w' hw' => ?_
    refine ⟨v, hp ▸ results_run (X := ctx P n w0 own S) (a := { a with defers := [] }) ha' hw' hr hv, v, Δr, rfl, hpost, hd w' hw', fun hs t ht => ?_⟩
    rcases hsh with h | h
    · rw [h] at hs; cases hs
    · simpa using List.all_eq_true.1 h t ht
  rcases he with rfl | rfl
  · exact key
  · exact key
end Go.GW
