/- Functions that defer a call, panics, interface values. No statement of the program stands here. -/
import Derived.Test.YtbfleiickdobnaaXLu
set_option autoImplicit false
set_option linter.unusedSimpArgs false
set_option linter.unusedVariables false
namespace Go.XL
/-- what is to be shown where a frame leaves that has deferred one call -/
def leaveD (P : Program) (rs : List ResultVar) (R : Ending → Hp → Own → Prop) (rest : Own) (u : FrameMode) (σ : St) : Prop :=
  ∃ (f : FuncId) (cap dargs : Array Value) (ms0 : List Nat) (own1 own2 : Own), σ.df = ⟨.fn (.func f) cap, dargs⟩ :: ms0.map mark ∧ σ.own.Perm (own1 ++ (own2 ++ ms0.map hid)) ∧
    FnD P f (dargs ++ cap) u σ.H own1 fun u' H' own1' => settle u' = .returning ∧ ∃ vs own'', resC P σ.env (own1' ++ own2) rs vs ∧ (own'' ++ rest).Sublist (own1' ++ own2) ∧ R (.returned (resV vs)) H' own''
def bodyQD (P : Program) (rs : List ResultVar) (R : Ending → Hp → Own → Prop) (rest : Own) : Exit → St → Prop
  | .normal, σ | .ret, σ => leaveD P rs R rest .returning σ
  | .panic ch, σ => leaveD P rs R rest (.panicking ch) σ
  | _, _ => False
theorem leavesM2 {P : Program} {fn : Func} {tmps : Array Value} {G : World} {H : Hp} {u : FrameMode} (hu : u ≠ .run) {R : Ending → World → Prop} {ds : List Deferred} : ∀ (ms : List Nat) (own : Own) (w : World),
    Ok G H (own ++ ms.map hid) w → (∀ w', Ok G H own w' → LeavesInM Fence.wide 0 P fn tmps R ds u w') → LeavesInM Fence.wide 0 P fn tmps R (ms.map mark ++ ds) u w
  | [], own, w, ok, h => by simpa using h w (by simpa using ok)
  | r :: ms, own, w, ok, h => by
    obtain ⟨w1, h1, ok1⟩ := takeMark (P := P) ok
    exact ⟨hu, .inl ⟨r, w1, rfl, h1, leavesM2 hu ms own w1 ok1 h⟩⟩
theorem FnC.introD {P : Program} {f : FuncId} {fn : Func} {c : Code} {args : List Value} {H : Hp} {own : Own} {R : Ending → Hp → Own → Prop} {N : Nat} {env : Env} {rs : List ResultVar}
    (hf : P.funcs[f]? = some fn) (hb : fn.body = some c) (hn : (fn.name == "runtime.NumGoroutine") = false) (hN : fn.ntmps = N) (hrs : fn.results = rs.toArray) (hlt : Nat.ble args.length N = true)
    (hi : Env.init 0 args = some env)
    (h : ∀ G rest, XC ⟨P, G, N, none, []⟩ c (bodyQD P rs R rest) ⟨env, [], H, own ++ rest⟩) : FnC P f args.toArray H own R := by
  refine ⟨callable_of hf hb hn, fun G rest w ok => ?_⟩
  refine callsIn_wide.1 (callsIn_of_wp_marks (n := 0) hf hb trivial ?_)
  refine Go.wpIn_mono (h G rest _ w (init_rel hN hlt hi ok)) ?_
  intro e a w' ⟨τ, hr, hle, hq⟩
  have key : ∀ u, u ≠ .run → leaveD P rs R rest u τ → LeavesInM Fence.wide 0 P fn a.tmps (fun e w' => e ≠ .outgrown ∧ ∃ H' own', Le H H' ∧ Ok G H' (own' ++ rest) w' ∧ R e H' own') a.defers u w' := by
    intro u hu ⟨g, cap, dargs, ms0, own1, own2, hdf, hperm, hD⟩
    obtain ⟨ms, hd, hok⟩ := hr.ok
    rw [hd, hdf]
    refine leavesM2 hu ms τ.own w' (by simpa using hok) fun w1 ok1 => ?_
    refine ⟨hu, .inr ⟨fun hx => (by cases hx), .func g, cap, g, dargs ++ cap, rfl, hD.1 _ _, fun _ _ => trivial, ?_⟩⟩
    have ok2 : Ok G τ.H (own1 ++ (own2 ++ ms0.map hid)) w1 := ok1.perm hperm.symm
    refine (hD.2 G (own2 ++ ms0.map hid) w1 ok2).mono ?_
    rintro e u' w2 ⟨⟨v, rfl⟩, H', own1', hle', ok3, hset, vs, own'', hres, hsub, hR⟩
    show LeavesInM Fence.wide 0 P fn a.tmps _ (ms0.map mark) (settle u') w2
    rw [hset]
    refine leavesM (by simp) ms0 (own1' ++ own2) w2 (by rw [List.append_assoc]; exact ok3) ?_
    intro w3 ok4
    have hrel : Rel ⟨P, G, N, none, []⟩ ⟨τ.env, a.defers, H', own1' ++ own2⟩ a w3 := ⟨hr.size, hr.get, [], rfl, by simpa using ok4⟩
    refine ⟨_, results_runC (fr := []) hrel (by simpa using ok4) hrs hres, by simp, H', own'', hle.trans hle', ok4.shrink (Le.refl _) hsub, hR⟩
  cases e with
  | normal => exact key .returning (by simp) hq
  | ret => exact key .returning (by simp) hq
  | panic chain => exact key (.panicking chain) (by simp) hq
  | exit _ => exact hq.elim
  | goto _ => exact hq.elim
  | outgrown => exact hq.elim
theorem at_perm : ∀ (own : Own) (i : Nat) (p : Nat × SObj), Own.at own i = some p → own.Perm (p :: own.eraseIdx i)
  | [], _, _, h => by cases h
  | q :: r, 0, p, h => by simp only [Own.at, Option.some.injEq] at h; subst h; exact List.Perm.refl _
  | q :: r, i + 1, p, h => by
    have := at_perm r i p h
    rw [List.eraseIdx_cons_succ]
    exact (this.cons q).trans (List.Perm.swap _ _ _)
theorem leaveD_one {P : Program} {rs : List ResultVar} {R : Ending → Hp → Own → Prop} {rest rest' : Own} {u : FrameMode} {env : Env} {H : Hp} {L own : Own} {ms : List Nat} {f : FuncId} {dargs : Array Value} (i : Nat) {p : Nat × SObj} (hL : own = L ++ rest') (hrest : rest' = rest ++ ms.map hid) (hp : Own.at L i = some p)
    (hD : FnD P f dargs u H [p] fun u' H' own1' => settle u' = .returning ∧ ∃ p' vs, own1' = [p'] ∧ resC P env (p' :: (L.eraseIdx i ++ rest)) rs vs ∧ R (.returned (resV vs)) H' []) :
    leaveD P rs R rest u ⟨env, ⟨.fn (.func f) #[], dargs⟩ :: ms.map mark, H, own⟩ := by
  subst hL; subst hrest
  refine ⟨f, #[], dargs, ms, [p], L.eraseIdx i ++ rest, rfl, ?_, ?_⟩
  · have := (at_perm L i p hp).append_right (rest ++ ms.map hid)
    simpa using this
  · rw [Array.append_empty]
    refine hD.mono ?_
    rintro u' H' own' _ ⟨h1, p', vs, rfl, h2, h3⟩
    exact ⟨h1, vs, [], h2, (List.sublist_append_right _ _).cons _, h3⟩
def PanR (ch : List PanicEntry) : Ending → Hp → Own → Prop
  | .panicked c, _, own => c = ch ∧ own = []
  | _, _, _ => False
theorem PanR.mk {ch : List PanicEntry} {H : Hp} : PanR ch (.panicked ch) H [] := ⟨rfl, rfl⟩
section
variable {C : Ctx} {ops : Array Oper} {Q : Exit → St → Prop} {rest : List Oper} {env : Env} {df : List Deferred} {H : Hp} {own : Own} {dst : Option Tmp} {ty : TypeId} {pos : String} {af : Array Edge}
theorem XO.defer0 {f : FuncId} {xs : List Operand} {ts : Array TypeId} {vs : List Value} {L rst : Own} (hr : C.r = none) (hh : C.hid = []) (hxs : evs env xs = some vs) (ho : own = L ++ rst) (hd : dst = none)
    (h : ∀ ms rst', rst' = rst ++ List.map hid ms → XO C ops Q rest ⟨env, ⟨.fn (.func f) #[], vs.toArray⟩ :: ms.map mark, H, L ++ rst'⟩) :
    XO C ops Q (⟨dst, .defer { callee := .value (.func f), args := xs.toArray, argTypes := ts }, ty, pos, af, none⟩ :: rest) ⟨env, [], H, own⟩ := by
  intro a w hrel
  refine wpListIn_plain rfl fun K hK => ⟨fun _ _ => trivial, ?_⟩
  obtain ⟨ms, hdf, hok⟩ := hrel.ok
  subst ho; subst hd
  have hrun : (Oper.semAt (Fr C.r).round a.eval ⟨none, .defer { callee := .value (.func f), args := xs.toArray, argTypes := ts }, ty, pos, af, none⟩).run C.P w = .ok (.defer ⟨.fn (.func f) #[], vs.toArray⟩) w := by
    rw [show (Fr C.r).round = none from hr, Oper.semAt_none]
    simp only [execOp, resolve, Sem.run_bind]
    have : xs.toArray.map a.eval = vs.toArray := by simp [hrel.evals hxs]
    simp [this, Act.eval, Deferred.ofValue, Sem.run, Pure.pure, Result.andThen]
  rw [hrun]
  have hrel2 : Rel C ⟨env, ⟨.fn (.func f) #[], vs.toArray⟩ :: ms.map mark, H, L ++ (rst ++ ms.map hid)⟩ ({ a with defers := ⟨.fn (.func f) #[], vs.toArray⟩ :: a.defers }.put none undef) w := by
    refine ⟨hrel.size, hrel.get, [], ?_, ?_⟩
    · show ⟨.fn (.func f) #[], vs.toArray⟩ :: a.defers = _
      rw [hdf]; simp
    · rw [hh] at hok ⊢
      simpa using hok
  exact hK _ _ (h ms _ rfl _ w hrel2)
theorem XO.panic {x : Operand} {t : TypeId} {v : Value} (hx : ev env x = some (.iface t v)) (h : Q (.panic [{ v := .iface t v, recovered := false }]) ⟨env, df, H, own⟩) :
    XO C ops Q (⟨dst, .panic x, ty, pos, af, none⟩ :: rest) ⟨env, df, H, own⟩ := by
  intro a w hrel
  refine wpListIn_plain rfl fun K hK => ⟨fun _ _ => trivial, ?_⟩
  rw [semAt_plain _ _ _ rfl]
  have hrun : (execOp a.eval ⟨dst, .panic x, ty, pos, af, none⟩).run C.P w = .halt (.panic (.iface t v)) w := by
    simp [execOp, hrel.eval hx, Instr.panic, goPanic, Sem.run_bind, Sem.run, Result.andThen]
  rw [hrun]
  exact ⟨_, hrel, Le.refl _, h⟩
theorem XO.makeInterface {x : Operand} {t : TypeId} {v : Value} {ut : TypeDesc} (hx : ev env x = some v) (ht : C.P.underlying t = some ut) (hi : ∀ ms, ut ≠ .interface ms) (hd : dstOk C.N dst = true) (h : XO C ops Q rest ⟨putE dst (.iface t v) env, df, H, own⟩) :
    XO C ops Q (⟨dst, .makeInterface t x, ty, pos, af, none⟩ :: rest) ⟨env, df, H, own⟩ := by
  refine XO.pure rfl rfl hd (fun ρ ha w => ?_) h
  simp only [execOp, ha _ _ hx, Instr.makeInterface, underlying, program, Sem.run_bind]
  simp only [Sem.run, Pure.pure, Result.andThen, ht]
theorem equal_nilI {P : Program} {t : TypeId} {v : Value} {ms : Array (String × TypeId)} {b : Bool} (hv : (v = .nilIface ∧ b = false) ∨ (∃ t2 u, v = .iface t2 u ∧ b = true)) (ht : P.underlying t = some (.interface ms)) (w : World) : (Op.equal t v .nilIface).run P w = .ok (!b) w := by
  have h0 : (underlying t).run P w = .ok (.interface ms) w := by
    simp only [underlying, program, Sem.run_bind, Sem.run, Result.andThen, ht]; rfl
  rw [Op.equal, show Op.maxDepth = 9999 + 1 from rfl, Op.equalIn, Sem.run_bind, h0]
  rcases hv with ⟨rfl, rfl⟩ | ⟨t2, u, rfl, rfl⟩ <;> rfl
theorem XO.neqNilI {x : Operand} {t : TypeId} {v : Value} {ms : Array (String × TypeId)} {b : Bool} (hx : ev env x = some v) (hv : (v = .nilIface ∧ b = false) ∨ (∃ t2 u, v = .iface t2 u ∧ b = true)) (ht : C.P.underlying t = some (.interface ms)) (hd : dstOk C.N dst = true) (h : XO C ops Q rest ⟨putE dst (.bool b) env, df, H, own⟩) {yt : TypeId} :
    XO C ops Q (⟨dst, .binOp .neq t x (.const .nilIface) yt, ty, pos, af, none⟩ :: rest) ⟨env, df, H, own⟩ := by
  refine XO.pure rfl rfl hd (fun ρ ha w => ?_) h
  have hy : ρ (.const .nilIface) = .nilIface := ha (.const .nilIface) _ rfl
  have hgd : ∀ w, (eqGuard .neq t x (.const .nilIface) v .nilIface).run C.P w = .ok () w := by
    intro w
    rcases hv with ⟨rfl, rfl⟩ | ⟨t2, u, rfl, rfl⟩
    · cases x <;> rfl
    · rfl
  have hbin : (binOp .neq t v .nilIface).run C.P w = .ok (.bool b) w := by
    have e1 : binOp .neq t v .nilIface = (do Pure.pure (Value.bool (!(← Op.equal t v .nilIface))) : Sem Value) := by
      rcases hv with ⟨rfl, rfl⟩ | ⟨t2, u, rfl, rfl⟩ <;> rfl
    rw [e1, Sem.run_bind, equal_nilI hv ht]
    cases b <;> rfl
  simp only [execOp, ha _ _ hx, hy, Sem.run_bind, hgd]
  simp only [Result.andThen, hbin]
  rfl
theorem XO.assertOk {x : Operand} {st t : TypeId} {v : Value} {k : IntKind} (hx : ev env x = some (.iface t v)) (ht : C.P.underlying t = some (.int k)) (hd : dstOk C.N dst = true) (h : XO C ops Q rest ⟨putE dst (.tuple #[v, .bool true]) env, df, H, own⟩) :
    XO C ops Q (⟨dst, .typeAssert x st t true, ty, pos, af, none⟩ :: rest) ⟨env, df, H, own⟩ := by
  refine XO.pure rfl rfl hd (fun ρ ha w => ?_) h
  simp [execOp, ha _ _ hx, Instr.typeAssert, underlying, program, Sem.run_bind, Sem.run, Pure.pure, Result.andThen, ht]
theorem XO.assertVal {x : Operand} {st t : TypeId} {v : Value} {k : IntKind} (hx : ev env x = some (.iface t v)) (ht : C.P.underlying t = some (.int k)) (hd : dstOk C.N dst = true) (h : XO C ops Q rest ⟨putE dst v env, df, H, own⟩) :
    XO C ops Q (⟨dst, .typeAssert x st t false, ty, pos, af, none⟩ :: rest) ⟨env, df, H, own⟩ := by
  refine XO.pure rfl rfl hd (fun ρ ha w => ?_) h
  simp [execOp, ha _ _ hx, Instr.typeAssert, underlying, program, Sem.run_bind, Sem.run, Pure.pure, Result.andThen, ht]
theorem XO.nilCheckP {x : Operand} {a : Addr} (hx : ev env x = some (.pointer (some a))) (hd : dstOk C.N dst = true) (h : XO C ops Q rest ⟨putE dst (.pointer (some a)) env, df, H, own⟩) :
    XO C ops Q (⟨dst, .nilCheck x, ty, pos, af, none⟩ :: rest) ⟨env, df, H, own⟩ := by
  refine XO.pure rfl rfl hd (fun ρ ha w => ?_) h
  simp [execOp, ha _ _ hx, Sem.run, Pure.pure]
theorem XO.callP {f : FuncId} {xs : List Operand} {ts : Array TypeId} {vs : List Value} {ch : List PanicEntry} (hxs : evs env xs = some vs) (hf : FnC C.P f vs.toArray H [] (PanR ch)) (hd : dstOk C.N dst = true)
    (h : ∀ H', Le H H' → Q (.panic ch) ⟨env, df, H', own⟩) : XO C ops Q (⟨dst, .call { callee := .value (.func f), args := xs.toArray, argTypes := ts }, ty, pos, af, none⟩ :: rest) ⟨env, df, H, own⟩ :=
  XO.call0 hxs hf hd (rst := own) rfl (fun _ _ _ _ hR => hR.elim) (fun c H' own' hle hR => by obtain ⟨rfl, rfl⟩ := hR; exact h H' hle)
end
end Go.XL
