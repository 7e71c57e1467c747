/- Deferred calls that recover from a panic. No statement of the program stands here. -/
import Derived.Test.YtbfleiickdobnaaXLt
import Derived.RecoverIn
set_option autoImplicit false
set_option linter.unusedSimpArgs false
set_option linter.unusedVariables false
namespace Go.XL
/-- 'f', as a deferred call above a frame that is on its way out in the mode u, comes back, and has left that frame's mode as R says. -/
def FnD (P : Program) (f : FuncId) (args : Array Value) (u : FrameMode) (H : Hp) (own : Own) (R : FrameMode → Hp → Own → Prop) : Prop :=
  Callable P f ∧ ∀ G rest w, Ok G H (own ++ rest) w → CallsDIn Fence.wide 0 P f args u w fun e u' w' => (∃ v, e = .returned v) ∧ ∃ H' own', Le H H' ∧ Ok G H' (own' ++ rest) w' ∧ R u' H' own'
theorem FnD.mono {P : Program} {f : FuncId} {args : Array Value} {u : FrameMode} {H : Hp} {own : Own} {R R' : FrameMode → Hp → Own → Prop} (h : FnD P f args u H own R) (hr : ∀ u' H' own', Le H H' → R u' H' own' → R' u' H' own') : FnD P f args u H own R' :=
  ⟨h.1, fun G rest w ok => (h.2 G rest w ok).mono fun _ _ _ ⟨h0, H', own', h1, h2, h3⟩ => ⟨h0, H', own', h1, h2, hr _ _ _ h1 h3⟩⟩

/-! ### The walk of a deferred function -/
def liftS (C : Ctx) (H : Hp) (c0 : Frame) (cs : List Frame) (Q : Exit → FrameMode → St → Prop) (e : Exit) (a : Act) (cs' : List Frame) (w : World) : Prop :=
  ∃ u σ, cs' = { c0 with mode := u } :: cs ∧ Rel C σ a w ∧ Le H σ.H ∧ Q e u σ
def XS (C : Ctx) (c : Code) (Q : Exit → FrameMode → St → Prop) (u : FrameMode) (σ : St) : Prop :=
  ∀ a w c0 cs, Rel C σ a w → c.wpSIn (Fr none) 0 C.P (liftS C σ.H c0 cs Q) a ({ c0 with mode := u } :: cs) w
theorem wpS_mono {F : Fence} {n : Nat} {P : Program} {c : Code} {Q Q' : Exit → Act → List Frame → World → Prop} {a : Act} {cs : List Frame} {w : World} (h : c.wpSIn F n P Q a cs w) (hq : ∀ e a cs w, Q e a cs w → Q' e a cs w) : c.wpSIn F n P Q' a cs w :=
  fun b k hb hr hF hroom => let ⟨e, a', cs', w', l, q, r⟩ := h b k hb hr hF hroom; ⟨e, a', cs', w', l, hq _ _ _ _ q, r⟩
section
variable {C : Ctx} {Q : Exit → FrameMode → St → Prop} {u : FrameMode} {σ : St}
theorem XS.of {c : Code} (hr : C.r = none) (h : XC C c (fun e τ => Q e u τ) σ) : XS C c Q u σ := by
  intro a w c0 cs hrel
  refine wpSIn_of_wpIn rfl ?_
  have h2 := h a w hrel
  rw [hr] at h2
  exact Go.wpIn_mono h2 fun e a' w' ⟨τ, h3, h4, h5⟩ => ⟨u, τ, rfl, h3, h4, h5⟩
def seqS (C : Ctx) (y : Code) (Q : Exit → FrameMode → St → Prop) : Exit → FrameMode → St → Prop
  | .normal, u, σ => XS C y Q u σ
  | e, u, σ => Q e u σ
theorem liftS_le {C : Ctx} {H H' : Hp} {c0 : Frame} {cs cs' : List Frame} {Q : Exit → FrameMode → St → Prop} {e : Exit} {a : Act} {w : World} (hle : Le H H') (h : liftS C H' c0 cs Q e a cs' w) : liftS C H c0 cs Q e a cs' w :=
  let ⟨u, τ, h1, h2, h3, h4⟩ := h; ⟨u, τ, h1, h2, hle.trans h3, h4⟩
theorem XS.seq {x y : Code} (h : XS C x (seqS C y Q) u σ) : XS C (.seq x y) Q u σ := by
  intro a w c0 cs hrel
  refine wpSIn_seq (wpS_mono (h a w c0 cs hrel) ?_)
  rintro e a' cs' w' ⟨u', τ, rfl, h2, h3, h4⟩
  cases e with
  | normal => exact wpS_mono (h4 a' w' c0 cs h2) fun _ _ _ _ hl => liftS_le h3 hl
  | _ => exact ⟨u', τ, rfl, h2, h3, h4⟩
theorem XS.condT {c : Operand} {x y : Code} {t : Bool} (hc : ev σ.env c = some (.bool t)) (ht : t = true) (h : XS C x Q u σ) : XS C (.cond c x y) Q u σ := by
  intro a w c0 cs hrel
  subst ht
  exact wpSIn_cond (hrel.eval hc) (by simpa using h a w c0 cs hrel)
theorem XS.condF {c : Operand} {x y : Code} {t : Bool} (hc : ev σ.env c = some (.bool t)) (ht : t = false) (h : XS C y Q u σ) : XS C (.cond c x y) Q u σ := by
  intro a w c0 cs hrel
  subst ht
  exact wpSIn_cond (hrel.eval hc) (by simpa using h a w c0 cs hrel)
/-- what recover finds -/
def recV : FrameMode → Value × FrameMode
  | .panicking ({ v, recovered := false, goexit := false } :: older) => (v, .panicking ({ v, recovered := true } :: older))
  | u => (.nilIface, u)
theorem recV_spec (c0 : Frame) (u : FrameMode) (cs : List Frame) :
    recoverD ({ c0 with mode := u } :: cs) = some ((recV u).1, { c0 with mode := (recV u).2 } :: cs) ∨ (recoverD ({ c0 with mode := u } :: cs) = none ∧ recV u = (.nilIface, u)) := by
  unfold recoverD recV
  cases u with
  | panicking l =>
    cases l with
    | nil => exact Or.inr ⟨rfl, rfl⟩
    | cons p older =>
      obtain ⟨v, r, g⟩ := p
      cases r <;> cases g <;> first | exact Or.inl rfl | exact Or.inr ⟨rfl, rfl⟩
  | _ => exact Or.inr ⟨rfl, rfl⟩
/-- A region that begins with recover. -/
theorem XS.recover {id : Nat} {t : Option Tmp} {ts : Array TypeId} {ty : TypeId} {pos : String} {af : Array Edge} {l : List Oper} (hr : C.r = none) (hd : dstOk C.N t = true)
    (h : XO C (⟨t, .call { callee := .builtin .recover, args := #[], argTypes := ts }, ty, pos, af, none⟩ :: l : List Oper).toArray (fun e τ => Q e (recV u).2 τ) l { σ with env := putE t (recV u).1 σ.env }) :
    XS C (.region id (⟨t, .call { callee := .builtin .recover, args := #[], argTypes := ts }, ty, pos, af, none⟩ :: l : List Oper).toArray false) Q u σ := by
  intro a w c0 cs hrel b k hb hro hF hroom
  generalize hops : (⟨t, .call { callee := .builtin .recover, args := #[], argTypes := ts }, ty, pos, af, none⟩ :: l : List Oper).toArray = ops at h ⊢
  have hsz : List.range ops.size = 0 :: List.range' 1 l.length := by
    rw [← hops]; simp [List.range_eq_range', List.range'_succ]
  have ho : ops[0]? = some ⟨t, .call { callee := .builtin .recover, args := #[], argTypes := ts }, ty, pos, af, none⟩ := by rw [← hops]; rfl
  have hput := hrel.put (dstOk_lt hd) (recV u).1 (H' := σ.H) (own' := σ.own) (w' := w) hrel.ok
  have hw2 := h _ _ hput
  rw [hr] at hw2
  rw [← wpOpsIn_eq_wpListIn l 1 (by intro j; rw [← hops]; simp [Nat.add_comm])] at hw2
  have hsr : (execOp a.eval ⟨t, .call { callee := .builtin .recover, args := #[], argTypes := ts }, ty, pos, af, none⟩).run C.P w = .ok .recover w := by
    simp [execOp, resolve, invoke, builtin, Sem.run_bind, Sem.run, Result.andThen, Pure.pure]
  have habout : ∀ f, Oper.about C.P w a.eval ⟨t, .call { callee := .builtin .recover, args := #[], argTypes := ts }, ty, pos, af, none⟩ = some f → (Fr none).fn f := fun _ _ => trivial
  have h0 : (lone (b.atR a (.inRegion ops (0 :: List.range' 1 l.length) :: k)) ({ c0 with mode := u } :: cs) w).fenced C.P (Fr none) := fenced_oper hF hroom ho habout
  obtain ⟨e, a', w', ⟨τ, hq1, hq2, hq3⟩, harr⟩ := wp_opsIn (List.range' 1 l.length) _ w hw2 b k ({ c0 with mode := (recV u).2 } :: cs) hro hF hroom
  refine ⟨e, a', { c0 with mode := (recV u).2 } :: cs, w', rfl, ⟨_, τ, rfl, hq1, hq2, hq3⟩, .of_steps (.one (fenced_calm hF hroom rfl) stepR_region) ?_⟩
  rw [hsz]
  refine .of_steps (.one h0 (step_lone_go ?_)) harr
  have hg := stepGR_op (P := C.P) (b := b) (k := k) (cs := { c0 with mode := u } :: cs) (w := w) (rest := List.range' 1 l.length) (a := a) ho (by simp [Region.wanted])
  rw [hro, Oper.semAt_none] at hg
  have hfin : ∀ v, (b.atR a (.inRegion ops (0 :: List.range' 1 l.length) :: k)).finish v = b.atR (a.put t v) (.inRegion ops (List.range' 1 l.length) :: k) := by
    intro v; rw [Frame.finish_atR, ho]; rfl
  have hk : (b.atR a (.inRegion ops (0 :: List.range' 1 l.length) :: k)).kind = .deferred := hb
  have htr := tryRecover_deferred hk ({ c0 with mode := u } :: cs)
  rw [hg, ← hfin]
  simp only [Frame.atR, hro] at htr ⊢
  rcases recV_spec c0 u cs with hrec | ⟨hrec, hv⟩
  · simp [stepG.apply, hsr, htr, hrec]
  · simp [stepG.apply, hsr, htr, hrec, hv]
end

/-! ### Contracts of deferred functions -/
theorem takeMark {P : Program} {G : World} {H : Hp} {own : Own} {r : Nat} {ms : List Nat} {w : World} (ok : Ok G H (own ++ (r :: ms).map hid) w) :
    ∃ w', (Instr.takeDeferred r).run P w = .ok [] w' ∧ Ok G H (own ++ ms.map hid) w' := by
  have hm : (hid r) ∈ own ++ (r :: ms).map hid := by simp
  obtain ⟨⟨o, ho, hw⟩, _⟩ := ok.at hm rfl
  simp only [hid, SObj.Is] at ho
  subst ho
  have hw' : w.heap[r]? = some (.deferred (some [])) := hw
  refine ⟨{ w with heap := w.heap.setIfInBounds r (.deferred none) }, ?_, ?_⟩
  · have hw2 := hw'
    simp [Instr.takeDeferred, getObj, setObj, Sem.run_bind, Sem.run, Result.andThen, hw2, bind, Sem.bind, pure]
  · have ok' : Ok G H (own ++ ((r, SObj.obj (.deferred (some []))) :: ms.map hid)) w := ok
    have := ok'.write (b := r) (s' := .obj (.deferred none)) (o' := .deferred none) (w' := { w with heap := w.heap.setIfInBounds r (.deferred none) }) rfl rfl rfl rfl rfl
      (by have := heap_lt hw'; simp [this]) (fun k hk => by simp [Array.getElem?_setIfInBounds, Ne.symm hk])
    exact this.shrink (Le.refl _) (List.Sublist.append_left (List.sublist_cons_self _ _) _)
theorem marks_steps {P : Program} {G : World} {H : Hp} {own : Own} : ∀ (ms : List Nat) (w : World) (fr : Frame) (cs : List Frame), fr.mode = .returning → fr.defers = ms.map mark → Ok G H (own ++ ms.map hid) w →
    ∃ w', StepsIn (Machine.fenced P Fence.wide) P (lone fr cs w) (lone { fr with defers := [] } cs w') ∧ Ok G H own w'
  | [], w, fr, cs, hm, hd, ok => by
    have h : { fr with defers := [] } = fr := by cases fr; simp at hd; simp [hd]
    exact ⟨w, by rw [h]; exact StepsIn.refl _, by simpa using ok⟩
  | r :: ms, w, fr, cs, hm, hd, ok => by
    obtain ⟨w1, h1, ok1⟩ := takeMark (P := P) ok
    have hs := step_collected (P := P) (cs := cs) (d := mark r) (ds := ms.map mark) (by rw [hm]; simp) (by simpa using hd) rfl h1
    have i1 : (lone fr cs w).fenced P Fence.wide := fenced_out (n := 0) trivial (fun d hd => by cases hd) (by rw [hm]; simp) (d := mark r) (ds := ms.map mark) (by simpa using hd) (fun g _ => trivial)
    obtain ⟨w2, h2, ok2⟩ := marks_steps ms w1 { fr with defers := ms.map mark } cs hm rfl ok1
    exact ⟨w2, .head i1 hs h2, ok2⟩
def bodyQS (rs : List ResultVar) (R : FrameMode → Hp → Own → Prop) (rest : Own) : Exit → FrameMode → St → Prop
  | .normal, u, σ | .ret, u, σ => σ.df = [] ∧ ∃ vs own', resE σ.env rs = some vs ∧ (own' ++ rest).Sublist σ.own ∧ R u σ.H own'
  | _, _, _ => False
theorem init_rel {P : Program} {G : World} {fn : Func} {args : List Value} {N : Nat} {env : Env} {H : Hp} {own : Own} {w : World} (hN : fn.ntmps = N) (hlt : Nat.ble args.length N = true) (hi : Env.init 0 args = some env) (ok : Ok G H own w) :
    Rel ⟨P, G, N, none, []⟩ ⟨env, [], H, own⟩ { tmps := args.toArray ++ Array.replicate (fn.ntmps - args.toArray.size) undef, defers := [] } w := by
  have hle : args.length ≤ N := Nat.le_of_ble_eq_true hlt
  refine ⟨by simp [hN]; omega, ?_, [], rfl, by simpa using ok⟩
  intro t v hg
  obtain ⟨_, h2⟩ := Env.init_get hi hg
  simp only [Nat.sub_zero] at h2
  have hlt : t < args.length := by
    rcases Nat.lt_or_ge t args.length with h | h
    · exact h
    · rw [List.getElem?_eq_none h] at h2; cases h2
  rw [Array.getD_eq_getD_getElem?, Array.getElem?_append_left (by simpa using hlt)]
  simp [h2]
theorem callable_of {P : Program} {f : FuncId} {fn : Func} {c : Code} (hf : P.funcs[f]? = some fn) (hb : fn.body = some c) (hn : (fn.name == "runtime.NumGoroutine") = false) : Callable P f := by
  intro as w
  have hn' : fn.name ≠ "runtime.NumGoroutine" := by simpa using hn
  simp [callFunc, program, Sem.run_bind, Sem.run, Result.andThen, hf, hn', hb, bind, Sem.bind, pure]
theorem FnD.intro {P : Program} {f : FuncId} {fn : Func} {c : Code} {args : List Value} {u : FrameMode} {H : Hp} {own : Own} {R : FrameMode → Hp → Own → Prop} {N : Nat} {env : Env} {rs : List ResultVar}
    (hf : P.funcs[f]? = some fn) (hb : fn.body = some c) (hn : (fn.name == "runtime.NumGoroutine") = false) (hN : fn.ntmps = N) (hrs : fn.results = rs.toArray) (hlt : Nat.ble args.length N = true)
    (hi : Env.init 0 args = some env)
    (h : ∀ G rest, XS ⟨P, G, N, none, []⟩ c (bodyQS rs R rest) u ⟨env, [], H, own ++ rest⟩) : FnD P f args.toArray u H own R := by
  refine ⟨callable_of hf hb hn, fun G rest w ok => ⟨trivial, fun c₀ cs hu hroom => ?_⟩⟩
  let b : Frame := { (default : Frame) with fn := f, kind := .deferred, roundOf := none }
  have henter : Frame.enter P f args.toArray .deferred =
      b.atR { tmps := args.toArray ++ Array.replicate (fn.ntmps - args.toArray.size) undef, defers := [] } [.code c] := by
    simp [Frame.enter, Frame.atR, hf, hb, b]
  have hc : ({ c₀ with mode := u } : Frame) = c₀ := by subst hu; rfl
  have hw := h G rest _ w c₀ cs (init_rel hN hlt hi ok)
  rw [hc] at hw
  obtain ⟨e, a', cs', w', hl, ⟨u', τ, rfl, hr, hle, hq⟩, harr⟩ := hw b [] rfl rfl trivial hroom
  rw [← henter] at harr
  have fin : ∀ todo, (∃ vs own', resE τ.env rs = some vs ∧ (own' ++ rest).Sublist τ.own ∧ R u' τ.H own') → τ.df = [] →
      StepsIn (Machine.fenced P Fence.wide) P (lone (Frame.enter P f args.toArray .deferred) (c₀ :: cs) w) (lone { b.atR a' todo with mode := .returning } ({ c₀ with mode := u' } :: cs) w') →
      ∃ e u' w' fr, ((∃ v, e = .returned v) ∧ ∃ H' own', Le H H' ∧ Ok G H' (own' ++ rest) w' ∧ R u' H' own') ∧
        ComesIn (Machine.fenced P Fence.wide) P (lone (Frame.enter P f args.toArray .deferred) (c₀ :: cs) w) (lone fr ({ c₀ with mode := u' } :: cs) w') e ∧ fr.kind = .deferred ∧ fr.fn = f ∧ fr.going P w' e := by
    intro todo ⟨vs, own', hres, hs, hR⟩ hd hsteps
    obtain ⟨ms, hdf, hok⟩ := hr.ok
    obtain ⟨w2, h2, ok2⟩ := marks_steps (P := P) ms w' { b.atR a' todo with mode := .returning } ({ c₀ with mode := u' } :: cs) rfl (by show a'.defers = _; rw [hdf, hd, List.append_nil]) (by simpa using hok)
    exact ⟨.returned (resV vs), u', w2, _, ⟨⟨_, rfl⟩, τ.H, own', hle, ok2.shrink (Le.refl _) hs, hR⟩, StepsIn.trans hsteps h2, rfl, rfl, rfl, rfl, fn, hf, results_run hr hrs hres⟩
  cases e with
  | normal =>
    obtain ⟨hd, hq⟩ := hq
    exact fin [] hq hd (StepsIn.trans harr (.one (fenced_calm (fr := b.atR a' []) (n := 0) trivial hroom rfl) (stepR_end rfl)))
  | ret =>
    obtain ⟨hd, hq⟩ := hq
    obtain ⟨todo, hs⟩ := harr.1 rfl
    exact fin todo hq hd hs
  | panic chain => exact hq.elim
  | exit id => exact hq.elim
  | goto l => exact hq.elim
  | outgrown => exact hq.elim
end Go.XL
