/- The logic's rules for function values, iterators and loops over functions. No statement of the program stands here. -/
import Derived.Test.YtbfleiickdobnaaXLg
set_option autoImplicit false
set_option linter.unusedSimpArgs false
set_option linter.unusedVariables false
namespace Go.XL

/-- A function value is called. -/
def CallV (P : Program) (v : Value) (args : Array Value) (w : World) (R : Ending → World → Prop) : Prop :=
  ∃ d nx w', (Deferred.ofValue v args).run P w = .ok d w ∧ (invoke d.target d.args).run P w = .ok nx w' ∧
    match nx with
    | .enter f as => Calls P f as w' R
    | .round l f tmps as bd => RoundIn Fence.wide 0 P l f tmps as bd w' R
    | _ => False

def FnV (P : Program) (v : Value) (args : List Value) (H : Hp) (own : Own) (R : Ending → Hp → Own → Prop) : Prop :=
  ∀ G rest w, Ok G H (own ++ rest) w → CallV P v args.toArray w fun e w' => e ≠ .outgrown ∧ ∃ H' own', Le H H' ∧ Ok G H' (own' ++ rest) w' ∧ R e H' own'

theorem CallV.mono {P : Program} {v : Value} {args : Array Value} {w : World} {R R' : Ending → World → Prop} (h : CallV P v args w R) (hr : ∀ e w', R e w' → R' e w') : CallV P v args w R' := by
  obtain ⟨d, nx, w', h1, h2, h3⟩ := h
  refine ⟨d, nx, w', h1, h2, ?_⟩
  cases nx with
  | enter f as => exact Calls.mono h3 hr
  | round l f tmps as bd => exact RoundIn.mono h3 hr
  | _ => exact h3.elim

theorem FnV.mono {P : Program} {v : Value} {args : List Value} {H : Hp} {own : Own} {R R' : Ending → Hp → Own → Prop} (h : FnV P v args H own R) (hr : ∀ e H' own', Le H H' → R e H' own' → R' e H' own') : FnV P v args H own R' :=
  fun G rest w ok => (h G rest w ok).mono fun _ _ ⟨h0, H', own', h1, h2, h3⟩ => ⟨h0, H', own', h1, h2, hr _ _ _ h1 h3⟩

theorem FnV.of_fn {P : Program} {f : FuncId} {args cap : List Value} {H : Hp} {own : Own} {R : Ending → Hp → Own → Prop} (h : FnC P f (args ++ cap).toArray H own R) : FnV P (.func (.func f) #[] cap.toArray) args H own R := by
  intro G rest w ok
  refine ⟨_, .enter f (args ++ cap).toArray, w, rfl, ?_, h.2 G rest w ok⟩
  have := h.1 (args ++ cap).toArray w
  simpa [invoke] using this

theorem Own.perm_mid (l ownF rst : Own) : (ownF ++ (l ++ rst)).Perm (l ++ (ownF ++ rst)) := by
  rw [← List.append_assoc, ← List.append_assoc]
  exact List.Perm.append_right _ List.perm_append_comm

section
variable {C : Ctx} {ops : Array Oper} {Q : Exit → St → Prop} {rest : List Oper} {env : Env} {df : List Deferred} {H : Hp} {own : Own}
variable {dst : Option Tmp} {ty : TypeId} {pos : String} {af : Array Edge}

theorem XO.makeFunc {fn : Fn} {cs : List Operand} {vs : List Value} (hc : evs env cs = some vs) (hd : dstOk C.N dst = true)
    (h : XO C ops Q rest ⟨putE dst (.func fn #[] vs.toArray) env, df, H, own⟩) : XO C ops Q (⟨dst, .makeFunc fn #[] cs.toArray, ty, pos, af, none⟩ :: rest) ⟨env, df, H, own⟩ :=
  XO.pure rfl rfl hd (fun ρ ha w => by
    have := evs_map ha hc
    simp [execOp, Instr.makeFunc, this, Sem.run, Pure.pure, bind, Sem.bind]) h

/-- A call of a function value; the blocks that it is handed stand in the middle: 'l ++ (ownF ++ rst)'. -/
theorem XO.callVal0 {x : Operand} {xs : List Operand} {ts : Array TypeId} {v : Value} {vs : List Value} {l ownF rst : Own} {R : Ending → Hp → Own → Prop} (hx : ev env x = some v) (hnf : match x with | .func _ => False | _ => True)
    (hxs : evs env xs = some vs) (hf : FnV C.P v vs H ownF R) (hd : dstOk C.N dst = true) (ho : own = l ++ (ownF ++ rst))
    (h : ∀ u H' own', Le H H' → R (.returned u) H' own' → ∃ H'' own'', Le H H'' ∧ Le H'' H' ∧ own''.Sublist (l ++ (own' ++ rst)) ∧ XO C ops Q rest ⟨putE dst u env, df, H'', own''⟩)
    (hp : ∀ ch H' own', Le H H' → R (.panicked ch) H' own' → Q (.panic ch) ⟨env, df, H', l ++ (own' ++ rst)⟩) :
    XO C ops Q (⟨dst, .call { callee := .value x, args := xs.toArray, argTypes := ts }, ty, pos, af, none⟩ :: rest) ⟨env, df, H, own⟩ := by
  intro a w hr
  refine wpListIn_plain rfl fun K hK => ⟨fun _ _ => trivial, ?_⟩
  obtain ⟨ms, hdf, hok⟩ := hr.ok
  subst ho
  rw [semAt_plain _ _ _ rfl]
  have hok2 : Ok C.G H (ownF ++ (l ++ (rst ++ (ms.map hid ++ C.hid)))) w := by
    refine hok.perm ?_
    simp only [List.append_assoc]
    exact Own.perm_mid _ _ _
  obtain ⟨d, nx, w', h1, h2, h3⟩ := hf C.G _ w hok2
  have hrun : (execOp a.eval ⟨dst, .call { callee := .value x, args := xs.toArray, argTypes := ts }, ty, pos, af, none⟩).run C.P w = .ok nx w' := by
    have hmap : Array.map a.eval xs.toArray = vs.toArray := by simp [hr.evals hxs]
    simp only [execOp, resolve, Sem.run_bind, hr.eval hx, hmap, h1, Result.andThen, h2]
  rw [hrun]
  have hback : ∀ {H' : Hp} {own' : Own} {w'' : World}, Ok C.G H' (own' ++ (l ++ (rst ++ (ms.map hid ++ C.hid)))) w'' → Ok C.G H' ((l ++ (own' ++ rst)) ++ (ms.map hid ++ C.hid)) w'' := by
    intro H' own' w'' hk
    refine hk.perm ?_
    simp only [List.append_assoc]
    exact (Own.perm_mid _ _ _).symm
  have fin : ∀ e w'', (e ≠ .outgrown ∧ ∃ H' own', Le H H' ∧ Ok C.G H' (own' ++ (l ++ (rst ++ (ms.map hid ++ C.hid)))) w'' ∧ R e H' own') →
      (match e, w'' with
        | .returned u, w'' => K (a.put dst u) w''
        | .panicked ch, w'' => lift C H Q (.panic ch) a w''
        | .outgrown, _ => LetsOut (lift C H Q)) := by
    rintro e w'' ⟨hne, H', own', hle, hok', hR⟩
    cases e with
    | returned u =>
      obtain ⟨H'', own'', k1, k2, k3, k4⟩ := h u H' own' hle hR
      exact hK _ _ (wpList_mono k1 _ _ _ (k4 _ _ (hr.put (dstOk_lt hd) u ⟨ms, hdf, (hback hok').shrink k2 (k3.append_right _)⟩)))
    | panicked ch => exact ⟨⟨env, df, H', l ++ (own' ++ rst)⟩, ⟨hr.size, hr.get, ms, hdf, hback hok'⟩, hle, hp ch H' own' hle hR⟩
    | outgrown => exact absurd rfl hne
  cases nx with
  | enter f as =>
    refine ⟨fun hx => (by cases hx), ?_⟩
    have hin : CallsIn Fence.wide 0 C.P f as w' _ := callsIn_wide.2 h3
    have hin2 : CallsIn (Fr C.r) 0 C.P f as w' _ := hin
    refine ⟨hin2.1, fun cs hcs => ?_⟩
    obtain ⟨e, w'', fr, hR, hx⟩ := hin2.2 cs hcs
    exact ⟨e, w'', fr, fin e w'' hR, hx⟩
  | round lp f tmps as bd =>
    refine ⟨fun hx => (by cases hx), ?_⟩
    have hin2 : RoundIn (Fr C.r) 0 C.P lp f tmps as bd w' _ := h3
    exact hin2.mono fun e w'' hR => fin e w'' hR
  | _ => exact h3.elim

theorem XO.callVal {x : Operand} {xs : List Operand} {ts : Array TypeId} {v : Value} {vs : List Value} (l : Own) {ownF rst : Own} {R : Value → Hp → Own → Prop} (hx : ev env x = some v) (hnf : match x with | .func _ => False | _ => True)
    (hxs : evs env xs = some vs) (hf : FnV C.P v vs H ownF (RetR R)) (hd : dstOk C.N dst = true) (ho : own = l ++ (ownF ++ rst))
    (h : ∀ u H' own', Le H H' → R u H' own' → XO C ops Q rest ⟨putE dst u env, df, H', l ++ (own' ++ rst)⟩) :
    XO C ops Q (⟨dst, .call { callee := .value x, args := xs.toArray, argTypes := ts }, ty, pos, af, none⟩ :: rest) ⟨env, df, H, own⟩ :=
  XO.callVal0 hx hnf hxs hf hd ho (fun u H' own' hle hR => ⟨H', _, hle, Le.refl _, List.Sublist.refl _, h u H' own' hle hR⟩) (fun _ _ _ _ hR => hR.elim)

/-- The function value only reckons: nothing is handed over, the published heap may be taken as it was. -/
theorem XO.callValK {x : Operand} {xs : List Operand} {ts : Array TypeId} {v : Value} {vs : List Value} {R : Value → Prop} (hx : ev env x = some v) (hnf : match x with | .func _ => False | _ => True)
    (hxs : evs env xs = some vs) (hf : FnV C.P v vs H [] (RetR fun u _ _ => R u)) (hd : dstOk C.N dst = true)
    (h : ∀ u, R u → XO C ops Q rest ⟨putE dst u env, df, H, own⟩) :
    XO C ops Q (⟨dst, .call { callee := .value x, args := xs.toArray, argTypes := ts }, ty, pos, af, none⟩ :: rest) ⟨env, df, H, own⟩ :=
  XO.callVal0 (l := []) (ownF := []) (rst := own) hx hnf hxs hf hd rfl (fun u H' own' hle hR => ⟨H, own, Le.refl _, hle, by simp, h u hR⟩) (fun _ _ _ _ hR => hR.elim)

theorem XO.callMid {f : FuncId} {xs : List Operand} {ts : Array TypeId} {vs : List Value} (l : Own) {ownF rst : Own} {R : Value → Hp → Own → Prop}
    (hxs : evs env xs = some vs) (hf : FnC C.P f vs.toArray H ownF (RetR R)) (hd : dstOk C.N dst = true) (ho : own = l ++ (ownF ++ rst))
    (h : ∀ v H' own', Le H H' → R v H' own' → XO C ops Q rest ⟨putE dst v env, df, H', l ++ (own' ++ rst)⟩) :
    XO C ops Q (⟨dst, .call { callee := .value (.func f), args := xs.toArray, argTypes := ts }, ty, pos, af, none⟩ :: rest) ⟨env, df, H, own⟩ := by
  have hf' : FnV C.P (.func (.func f) #[] #[]) vs H ownF (RetR R) := by
    have := FnV.of_fn (P := C.P) (f := f) (args := vs) (cap := []) (H := H) (own := ownF) (R := RetR R) (by simpa using hf)
    exact this
  intro a w hr
  have hr' : Rel C ⟨env, df, H, ownF ++ (l ++ rst)⟩ a w := hr.perm (by subst ho; exact Own.perm_mid _ _ _)
  refine wpList_mono (Le.refl _) _ _ _ (XO.call0 (C := C) (ops := ops) (Q := Q) (rest := rest) (df := df) hxs hf hd (rst := l ++ rst) rfl ?_ (fun _ _ _ _ hR => hR.elim) a w hr')
  intro v H' own' hle hR
  refine ⟨H', own' ++ (l ++ rst), hle, Le.refl _, List.Sublist.refl _, ?_⟩
  intro a w hr
  exact h v H' own' hle hR a w (hr.perm (Own.perm_mid _ _ _).symm)
end

/-! ### Iterators -/
/-- The closure of f over 'cap' ranges over 'xs': whatever stands in for yield. -/
def SeqC {α : Type} (P : Program) (f : FuncId) (cap : List Value) (H : Hp) (ownI : Own) (enc : α → List Value) (xs : List α) : Prop :=
  ∀ (yv : Value) (J : List α → Hp → Own → Prop) (K : Hp → Own → Prop) (ownY : Own),
    (∀ pre x post, xs = pre ++ x :: post → ∀ H' own', Le H H' → J pre H' own' → FnV P yv (enc x) H' own' (RetR fun v H'' own'' => (v = .bool true ∧ J (pre ++ [x]) H'' own'') ∨ (v = .bool false ∧ K H'' own''))) →
    J [] H ownY →
    FnC P f ((yv :: cap).toArray) H (ownI ++ ownY) (RetR fun v H' own' => v = .tuple #[] ∧ ∃ ownI' ownY', own' = ownI' ++ ownY' ∧ (J xs H' ownY' ∨ K H' ownY'))

def bindP : List Tmp → List Value → Env → Env
  | t :: ts, v :: vs, e => bindP ts vs ((t, v) :: e)
  | _, _, e => e

/-- How a round is left. -/
def roundQ {α : Type} (l : Nat) (I : List α → Hp → Own → Prop) (Kx : Code → Hp → Own → Prop) (pre : List α) : Exit → St → Prop
  | .normal, σ => σ.df = [] ∧ ∃ o, o.Sublist σ.own ∧ I pre σ.H o
  | .exit id, σ => σ.df = [] ∧ ∃ o, o.Sublist σ.own ∧ Kx (.exit id) σ.H o
  | .goto t, σ => σ.df = [] ∧ ∃ o, o.Sublist σ.own ∧ Kx (.goto t) σ.H o
  | .ret, σ => σ.df = [] ∧ ∃ o, o.Sublist σ.own ∧ Kx .ret σ.H o
  | _, _ => False

def jumpOf : Code → Option Exit
  | .exit id => some (.exit id)
  | .goto l => some (.goto l)
  | .ret => some .ret
  | _ => none

end Go.XL
