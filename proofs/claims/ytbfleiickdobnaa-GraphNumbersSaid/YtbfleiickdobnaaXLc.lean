/- The logic's rules for single operations. No statement of the program stands here. -/
import Derived.Test.YtbfleiickdobnaaXLb
set_option autoImplicit false
set_option linter.unusedSimpArgs false
set_option linter.unusedVariables false
namespace Go.XL

abbrev Agree (env : Env) (ρ : Operand → Value) : Prop := ∀ x u, ev env x = some u → ρ x = u

def OpRuns (C : Ctx) (env : Env) (H : Hp) (own : Own) (o : Oper) (K : Value → Hp → Own → Prop) : Prop :=
  ∀ (ρ : Operand → Value) (w : World) (fr : Own), Agree env ρ → Ok C.G H (own ++ fr) w →
    ∃ nx v w' H' own', (execOp ρ o).run C.P w = .ok nx w' ∧ (nx = .value v ∨ (nx = .skip ∧ v = undef)) ∧ Le H H' ∧ Ok C.G H' (own' ++ fr) w' ∧ K v H' own'

theorem wpList_mono {C : Ctx} {ops : Array Oper} {Q : Exit → St → Prop} {H H' : Hp} (hle : Le H H') (l : List Oper) (a : Act) (w : World) (h : wpListIn (Fr C.r) 0 C.P ops (lift C H' Q) l a w) : wpListIn (Fr C.r) 0 C.P ops (lift C H Q) l a w := by
  have hq : ∀ e a w, lift C H' Q e a w → lift C H Q e a w := fun _ _ _ l => lift_mono l hle fun _ _ q => q
  induction l generalizing a w with
  | nil => exact hq _ _ _ h
  | cons o l ih =>
    simp only [wpListIn] at h ⊢
    split at h
    · rename_i hw
      rw [if_pos hw]
      refine ⟨h.1, ?_⟩
      have h2 := h.2
      generalize (o.semAt (Fr C.r).round a.eval).run C.P w = res at h2
      have hlo : LetsOut (lift C H' Q) → LetsOut (lift C H Q) := fun ⟨a, w, l⟩ => ⟨a, w, hq _ _ _ l⟩
      cases res with
      | ok nx w' =>
        cases nx with
        | value v => exact ih _ _ h2
        | skip => exact ih _ _ h2
        | defer d => exact ih _ _ h2
        | enter f args =>
          refine ⟨h2.1, h2.2.1, fun cs hcs => ?_⟩
          obtain ⟨e, w', fr, hR, hx⟩ := h2.2.2 cs hcs
          refine ⟨e, w', fr, ?_, hx⟩
          cases e with
          | returned v => exact ih _ _ hR
          | panicked ch => exact hq _ _ _ hR
          | outgrown => exact hlo hR
        | row row args => exact ⟨h2.1, h2.2.mono fun _ _ hR => ih _ _ hR⟩
        | round l f tmps as bd =>
          refine ⟨h2.1, h2.2.mono fun e w hR => ?_⟩
          cases e with
          | returned v => exact ih _ _ hR
          | panicked ch => exact hq _ _ _ hR
          | outgrown => exact hlo hR
        | _ => exact h2.elim
      | halt hh w' =>
        cases hh with
        | panic v => exact hq _ _ _ h2
        | _ => exact h2.elim
    · rename_i hw
      rw [if_neg hw]
      exact ⟨h.1, ih _ _ h.2⟩

section
variable {C : Ctx} {ops : Array Oper} {Q : Exit → St → Prop} {rest : List Oper} {env : Env} {df : List Deferred} {H : Hp} {own : Own}

theorem XC.region {id : Nat} {l : List Oper} {σ : St} (h : XO C l.toArray Q l σ) : XC C (.region id l.toArray false) Q σ :=
  fun a w hr => wpIn_region_lit (h a w hr)

theorem XO.nil {σ : St} (h : Q .normal σ) : XO C ops Q [] σ := fun _ _ hr => ⟨σ, hr, Le.refl _, h⟩

theorem semAt_plain (r : Option Nat) (ρ : Operand → Value) (o : Oper) (h : notDefer o.op = true) : Oper.semAt r ρ o = execOp ρ o :=
  Oper.semAt_eq r ρ o (fun c e => by rw [e] at h; cases h)

theorem XO.op {o : Oper} (hg : o.guard = none) (hnd : notDefer o.op = true) (hd : dstOk C.N o.dst = true)
    (h : OpRuns C env H own o fun v H' own' => XO C ops Q rest ⟨putE o.dst v env, df, H', own'⟩) : XO C ops Q (o :: rest) ⟨env, df, H, own⟩ := by
  intro a w hr
  refine wpListIn_plain hg fun K hK => ⟨fun _ _ => trivial, ?_⟩
  obtain ⟨ms, hdf, hok⟩ := hr.ok
  obtain ⟨nx, v, w', H', own', hrun, hnx, hle, hok', hk⟩ := h a.eval w (ms.map hid ++ C.hid) (fun x u hx => hr.eval hx) hok
  rw [semAt_plain _ _ _ hnd, hrun]
  have hput := hr.put (dstOk_lt hd) v (H' := H') (own' := own') (w' := w') ⟨ms, hdf, hok'⟩
  have hnext : K (a.put o.dst v) w' := by
    refine hK _ _ ?_
    exact wpList_mono hle _ _ _ (hk _ _ hput)
  rcases hnx with rfl | ⟨rfl, rfl⟩
  · exact hnext
  · exact hnext

/-- A guard that says yes. -/
theorem XO.guardT {dst : Option Tmp} {op : Op} {ty : TypeId} {pos : String} {af : Array Edge} {j t : Nat} {want b : Bool} (hj : (ops[j]?).bind (·.dst) = some t) (hv : env.get t = some (.bool b)) (hb : b = want) (hN : Nat.blt t C.N = true)
    (h : XO C ops Q (⟨dst, op, ty, pos, af, none⟩ :: rest) ⟨env, df, H, own⟩) : XO C ops Q (⟨dst, op, ty, pos, af, some (j, want)⟩ :: rest) ⟨env, df, H, own⟩ := by
  intro a w hr
  have h1 := h a w hr
  subst hb
  have hlt : t < a.tmps.size := by rw [hr.size]; simpa using hN
  have hy : yielded ops a.tmps j = some b := by
    have := hr.get t _ hv
    rw [Array.getD_eq_getD_getElem?] at this
    simp only [yielded, hj, Option.bind_some]
    rw [Array.getElem?_eq_getElem hlt] at this ⊢
    simp only [Option.getD_some] at this
    rw [this]
  simp only [wpListIn, Region.wanted, hy, beq_self_eq_true, if_true] at h1 ⊢
  exact h1

/-- A guard that says no: the operation is passed over. -/
theorem XO.guardF {dst : Option Tmp} {op : Op} {ty : TypeId} {pos : String} {af : Array Edge} {j t : Nat} {want b : Bool} (hj : (ops[j]?).bind (·.dst) = some t) (hv : env.get t = some (.bool b)) (hb : b = !want) (hN : Nat.blt t C.N = true) (hd : dstOk C.N dst = true)
    (h : XO C ops Q rest ⟨putE dst undef env, df, H, own⟩) : XO C ops Q (⟨dst, op, ty, pos, af, some (j, want)⟩ :: rest) ⟨env, df, H, own⟩ := by
  intro a w hr
  subst hb
  have hlt : t < a.tmps.size := by rw [hr.size]; simpa using hN
  have hy : yielded ops a.tmps j = some (!want) := by
    have := hr.get t _ hv
    rw [Array.getD_eq_getD_getElem?] at this
    simp only [yielded, hj, Option.bind_some]
    rw [Array.getElem?_eq_getElem hlt] at this ⊢
    simp only [Option.getD_some] at this
    rw [this]
  have hw : Region.wanted (⟨dst, op, ty, pos, af, some (j, want)⟩ : Oper) (yielded ops a.tmps) = false := by
    simp only [Region.wanted, hy]; cases want <;> rfl
  simp only [wpListIn, hw]
  exact ⟨fun _ _ => trivial, h _ _ (hr.put (dstOk_lt hd) undef hr.ok)⟩

theorem XO.pure {o : Oper} {v : Value} (hg : o.guard = none) (hnd : notDefer o.op = true) (hd : dstOk C.N o.dst = true) (hv : ∀ ρ, Agree env ρ → ∀ w, (execOp ρ o).run C.P w = .ok (.value v) w)
    (h : XO C ops Q rest ⟨putE o.dst v env, df, H, own⟩) : XO C ops Q (o :: rest) ⟨env, df, H, own⟩ :=
  XO.op hg hnd hd fun ρ w fr ha hok => ⟨_, v, w, H, own, hv ρ ha w, .inl rfl, Le.refl _, hok, h⟩

section ops
variable {dst : Option Tmp} {ty : TypeId} {pos : String} {af : Array Edge}

theorem XO.move {x : Operand} {v : Value} (hx : ev env x = some v) (hd : dstOk C.N dst = true) (h : XO C ops Q rest ⟨putE dst v env, df, H, own⟩) :
    XO C ops Q (⟨dst, .move x, ty, pos, af, none⟩ :: rest) ⟨env, df, H, own⟩ :=
  XO.pure rfl rfl hd (fun ρ ha w => by simp [execOp, ha _ _ hx, Sem.run, Pure.pure]) h
theorem XO.assign {x : Operand} {v : Value} (hx : ev env x = some v) (hd : dstOk C.N dst = true) (h : XO C ops Q rest ⟨putE dst v env, df, H, own⟩) :
    XO C ops Q (⟨dst, .assign x, ty, pos, af, none⟩ :: rest) ⟨env, df, H, own⟩ :=
  XO.pure rfl rfl hd (fun ρ ha w => by simp [execOp, ha _ _ hx, Sem.run, Pure.pure]) h
theorem XO.pickT {c x y : Operand} {b : Bool} {v : Value} (hc : ev env c = some (.bool b)) (hb : b = true) (hx : ev env x = some v) (hd : dstOk C.N dst = true) (h : XO C ops Q rest ⟨putE dst v env, df, H, own⟩) :
    XO C ops Q (⟨dst, .pick c x y, ty, pos, af, none⟩ :: rest) ⟨env, df, H, own⟩ :=
  XO.pure rfl rfl hd (fun ρ ha w => by subst hb; simp [execOp, ha _ _ hx, ha _ _ hc, asBool, Sem.run, Pure.pure, bind, Sem.bind]) h
theorem XO.pickF {c x y : Operand} {b : Bool} {v : Value} (hc : ev env c = some (.bool b)) (hb : b = false) (hx : ev env y = some v) (hd : dstOk C.N dst = true) (h : XO C ops Q rest ⟨putE dst v env, df, H, own⟩) :
    XO C ops Q (⟨dst, .pick c x y, ty, pos, af, none⟩ :: rest) ⟨env, df, H, own⟩ :=
  XO.pure rfl rfl hd (fun ρ ha w => by subst hb; simp [execOp, ha _ _ hx, ha _ _ hc, asBool, Sem.run, Pure.pure, bind, Sem.bind]) h

/-! Numbers -/
theorem run_binOp {P : Program} {ρ : Operand → Value} {op : BinOp} {xt yt : TypeId} {x y : Operand} {k k' : IntKind} {a b : Int} {w : World} (hx : ρ x = .int k a) (hy : ρ y = .int k' b) :
    (execOp ρ ⟨dst, .binOp op xt x y yt, ty, pos, af, none⟩).run P w = ((binOp op xt (.int k a) (.int k' b)).run P w).andThen fun v w => .ok (.value v) w := by
  have hgd : ∀ w, (eqGuard op xt x y (.int k a) (.int k' b)).run P w = .ok () w := by
    intro w; unfold eqGuard; cases op <;> rfl
  simp only [execOp, hx, hy, Sem.run_bind, hgd]
  simp only [Result.andThen]
  cases (binOp op xt (.int k a) (.int k' b)).run P w <;> rfl

theorem XO.add {xt yt : TypeId} {x y : Operand} {k : IntKind} {a b c : Int} (hx : ev env x = some (.int k a)) (hy : ev env y = some (.int k b)) (hw : k.wrap (a + b) = c) (hd : dstOk C.N dst = true)
    (h : XO C ops Q rest ⟨putE dst (.int k c) env, df, H, own⟩) : XO C ops Q (⟨dst, .binOp .add xt x y yt, ty, pos, af, none⟩ :: rest) ⟨env, df, H, own⟩ :=
  XO.pure rfl rfl hd (fun ρ ha w => by rw [run_binOp (ha _ _ hx) (ha _ _ hy)]; simp [binOp, Op.intArith, hw, Sem.run, Pure.pure, Result.andThen]) h
theorem XO.sub {xt yt : TypeId} {x y : Operand} {k : IntKind} {a b c : Int} (hx : ev env x = some (.int k a)) (hy : ev env y = some (.int k b)) (hw : k.wrap (a - b) = c) (hd : dstOk C.N dst = true)
    (h : XO C ops Q rest ⟨putE dst (.int k c) env, df, H, own⟩) : XO C ops Q (⟨dst, .binOp .sub xt x y yt, ty, pos, af, none⟩ :: rest) ⟨env, df, H, own⟩ :=
  XO.pure rfl rfl hd (fun ρ ha w => by rw [run_binOp (ha _ _ hx) (ha _ _ hy)]; simp [binOp, Op.intArith, hw, Sem.run, Pure.pure, Result.andThen]) h
theorem XO.mul {xt yt : TypeId} {x y : Operand} {k : IntKind} {a b c : Int} (hx : ev env x = some (.int k a)) (hy : ev env y = some (.int k b)) (hw : k.wrap (a * b) = c) (hd : dstOk C.N dst = true)
    (h : XO C ops Q rest ⟨putE dst (.int k c) env, df, H, own⟩) : XO C ops Q (⟨dst, .binOp .mul xt x y yt, ty, pos, af, none⟩ :: rest) ⟨env, df, H, own⟩ :=
  XO.pure rfl rfl hd (fun ρ ha w => by rw [run_binOp (ha _ _ hx) (ha _ _ hy)]; simp [binOp, Op.intArith, hw, Sem.run, Pure.pure, Result.andThen]) h
theorem XO.quo {xt yt : TypeId} {x y : Operand} {k : IntKind} {a b c : Int} (hx : ev env x = some (.int k a)) (hy : ev env y = some (.int k b)) (h0 : b ≠ 0) (hw : k.wrap (a.tdiv b) = c) (hd : dstOk C.N dst = true)
    (h : XO C ops Q rest ⟨putE dst (.int k c) env, df, H, own⟩) : XO C ops Q (⟨dst, .binOp .quo xt x y yt, ty, pos, af, none⟩ :: rest) ⟨env, df, H, own⟩ :=
  XO.pure rfl rfl hd (fun ρ ha w => by rw [run_binOp (ha _ _ hx) (ha _ _ hy)]; simp [binOp, Op.intDiv, h0, hw, Sem.run, Pure.pure, Result.andThen]) h
theorem XO.rem {xt yt : TypeId} {x y : Operand} {k : IntKind} {a b c : Int} (hx : ev env x = some (.int k a)) (hy : ev env y = some (.int k b)) (h0 : b ≠ 0) (hw : a.tmod b = c) (hd : dstOk C.N dst = true)
    (h : XO C ops Q rest ⟨putE dst (.int k c) env, df, H, own⟩) : XO C ops Q (⟨dst, .binOp .rem xt x y yt, ty, pos, af, none⟩ :: rest) ⟨env, df, H, own⟩ :=
  XO.pure rfl rfl hd (fun ρ ha w => by rw [run_binOp (ha _ _ hx) (ha _ _ hy)]; simp [binOp, Op.intDiv, h0, hw, Sem.run, Pure.pure, Result.andThen]) h

def cmpOf : BinOp → Int → Int → Bool
  | .eql, a, b => decide (a = b) | .neq, a, b => decide (a ≠ b) | .lss, a, b => decide (a < b) | .leq, a, b => decide (a ≤ b)
  | .gtr, a, b => decide (b < a) | .geq, a, b => decide (b ≤ a) | _, _, _ => false
def isCmp : BinOp → Bool | .eql | .neq | .lss | .leq | .gtr | .geq => true | _ => false
theorem XO.cmpG {op : BinOp} {xt yt : TypeId} {x y : Operand} {k : IntKind} {a b : Int} {v : Bool} (hx : ev env x = some (.int k a)) (hy : ev env y = some (.int k b)) (hop : isCmp op = true) (hv : cmpOf op a b = v) (hd : dstOk C.N dst = true)
    (h : XO C ops Q rest ⟨putE dst (.bool v) env, df, H, own⟩) : XO C ops Q (⟨dst, .binOp op xt x y yt, ty, pos, af, none⟩ :: rest) ⟨env, df, H, own⟩ :=
  XO.pure rfl rfl hd (fun ρ ha w => by
    subst hv
    rw [run_binOp (ha _ _ hx) (ha _ _ hy)]
    cases op <;> first | (exact absurd hop (by decide)) | rfl | (simp [binOp, Op.intCmp, cmpOf, Sem.run, Pure.pure, Result.andThen]; done) | (simp [binOp, Op.intCmp, cmpOf, Sem.run, Pure.pure, Result.andThen, bne]; rfl)) h
theorem XO.eql {xt yt : TypeId} {x y : Operand} {k : IntKind} {a b : Int} (hx : ev env x = some (.int k a)) (hy : ev env y = some (.int k b)) (hd : dstOk C.N dst = true)
    (h : XO C ops Q rest ⟨putE dst (.bool (decide (a = b))) env, df, H, own⟩) : XO C ops Q (⟨dst, .binOp .eql xt x y yt, ty, pos, af, none⟩ :: rest) ⟨env, df, H, own⟩ := XO.cmpG hx hy rfl rfl hd h
theorem XO.neq {xt yt : TypeId} {x y : Operand} {k : IntKind} {a b : Int} (hx : ev env x = some (.int k a)) (hy : ev env y = some (.int k b)) (hd : dstOk C.N dst = true)
    (h : XO C ops Q rest ⟨putE dst (.bool (decide (a ≠ b))) env, df, H, own⟩) : XO C ops Q (⟨dst, .binOp .neq xt x y yt, ty, pos, af, none⟩ :: rest) ⟨env, df, H, own⟩ := XO.cmpG hx hy rfl rfl hd h
theorem XO.lss {xt yt : TypeId} {x y : Operand} {k : IntKind} {a b : Int} (hx : ev env x = some (.int k a)) (hy : ev env y = some (.int k b)) (hd : dstOk C.N dst = true)
    (h : XO C ops Q rest ⟨putE dst (.bool (decide (a < b))) env, df, H, own⟩) : XO C ops Q (⟨dst, .binOp .lss xt x y yt, ty, pos, af, none⟩ :: rest) ⟨env, df, H, own⟩ := XO.cmpG hx hy rfl rfl hd h
theorem XO.leq {xt yt : TypeId} {x y : Operand} {k : IntKind} {a b : Int} (hx : ev env x = some (.int k a)) (hy : ev env y = some (.int k b)) (hd : dstOk C.N dst = true)
    (h : XO C ops Q rest ⟨putE dst (.bool (decide (a ≤ b))) env, df, H, own⟩) : XO C ops Q (⟨dst, .binOp .leq xt x y yt, ty, pos, af, none⟩ :: rest) ⟨env, df, H, own⟩ := XO.cmpG hx hy rfl rfl hd h
theorem XO.gtr {xt yt : TypeId} {x y : Operand} {k : IntKind} {a b : Int} (hx : ev env x = some (.int k a)) (hy : ev env y = some (.int k b)) (hd : dstOk C.N dst = true)
    (h : XO C ops Q rest ⟨putE dst (.bool (decide (b < a))) env, df, H, own⟩) : XO C ops Q (⟨dst, .binOp .gtr xt x y yt, ty, pos, af, none⟩ :: rest) ⟨env, df, H, own⟩ := XO.cmpG hx hy rfl rfl hd h
theorem XO.geq {xt yt : TypeId} {x y : Operand} {k : IntKind} {a b : Int} (hx : ev env x = some (.int k a)) (hy : ev env y = some (.int k b)) (hd : dstOk C.N dst = true)
    (h : XO C ops Q rest ⟨putE dst (.bool (decide (b ≤ a))) env, df, H, own⟩) : XO C ops Q (⟨dst, .binOp .geq xt x y yt, ty, pos, af, none⟩ :: rest) ⟨env, df, H, own⟩ := XO.cmpG hx hy rfl rfl hd h

theorem XO.neg {xt : TypeId} {x : Operand} {k : IntKind} {a c : Int} (hx : ev env x = some (.int k a)) (hw : k.wrap (0 - a) = c) (hd : dstOk C.N dst = true)
    (h : XO C ops Q rest ⟨putE dst (.int k c) env, df, H, own⟩) : XO C ops Q (⟨dst, .unOp .neg xt x, ty, pos, af, none⟩ :: rest) ⟨env, df, H, own⟩ :=
  XO.pure rfl rfl hd (fun ρ ha w => by
    have hw' : k.wrap (-a) = c := by simpa using hw
    simp [execOp, ha _ _ hx, Op.unary, Op.intArith, hw', Sem.run, Pure.pure, bind, Sem.bind]) h
theorem XO.notB {xt : TypeId} {x : Operand} {b : Bool} (hx : ev env x = some (.bool b)) (hd : dstOk C.N dst = true)
    (h : XO C ops Q rest ⟨putE dst (.bool (!b)) env, df, H, own⟩) : XO C ops Q (⟨dst, .unOp .not xt x, ty, pos, af, none⟩ :: rest) ⟨env, df, H, own⟩ :=
  XO.pure rfl rfl hd (fun ρ ha w => by simp [execOp, ha _ _ hx, Op.unary, Sem.run, Pure.pure, bind, Sem.bind]) h
theorem XO.not {xt : TypeId} {x : Operand} {p : Prop} [Decidable p] (hx : ev env x = some (.bool (decide p))) (hd : dstOk C.N dst = true)
    (h : XO C ops Q rest ⟨putE dst (.bool (decide (¬ p))) env, df, H, own⟩) : XO C ops Q (⟨dst, .unOp .not xt x, ty, pos, af, none⟩ :: rest) ⟨env, df, H, own⟩ :=
  XO.notB hx hd (by rw [← decide_not]; exact h)

theorem XO.extract {x : Operand} {i : Nat} {vs : List Value} {v : Value} (hx : ev env x = some (.tuple vs.toArray)) (hv : vs[i]? = some v) (hd : dstOk C.N dst = true)
    (h : XO C ops Q rest ⟨putE dst v env, df, H, own⟩) : XO C ops Q (⟨dst, .extract x i, ty, pos, af, none⟩ :: rest) ⟨env, df, H, own⟩ :=
  XO.pure rfl rfl hd (fun ρ ha w => by simp [execOp, ha _ _ hx, Instr.extract, hv, Sem.run, Pure.pure, bind, Sem.bind]) h

/-! Calls -/
theorem evs_map {ρ : Operand → Value} (ha : Agree env ρ) {xs : List Operand} {vs : List Value} (h : evs env xs = some vs) : xs.map ρ = vs := by
  induction xs generalizing vs with
  | nil => cases h; rfl
  | cons x xs ih =>
    simp only [evs] at h
    split at h
    · rename_i v hv
      split at h
      · rename_i r hr; cases h; simp [ha _ _ hv, ih hr]
      · cases h
    · cases h

/-- A call of a named function: the general rule (the blocks that it is handed stand first). -/
theorem XO.call0 {f : FuncId} {xs : List Operand} {ts : Array TypeId} {vs : List Value} {ownF : Own} {R : Ending → Hp → Own → Prop}
    (hxs : evs env xs = some vs) (hf : FnC C.P f vs.toArray H ownF R) (hd : dstOk C.N dst = true) {rst : Own} (ho : own = ownF ++ rst)
    (h : ∀ v H' own', Le H H' → R (.returned v) H' own' → ∃ H'' own'', Le H H'' ∧ Le H'' H' ∧ own''.Sublist (own' ++ rst) ∧ XO C ops Q rest ⟨putE dst v env, df, H'', own''⟩)
    (hp : ∀ ch H' own', Le H H' → R (.panicked ch) H' own' → Q (.panic ch) ⟨env, df, H', own' ++ rst⟩) :
    XO C ops Q (⟨dst, .call { callee := .value (.func f), args := xs.toArray, argTypes := ts }, ty, pos, af, none⟩ :: rest) ⟨env, df, H, own⟩ := by
  intro a w hr
  refine wpListIn_plain rfl fun K hK => ⟨fun _ _ => trivial, ?_⟩
  obtain ⟨ms, hdf, hok⟩ := hr.ok
  subst ho
  rw [semAt_plain _ _ _ rfl]
  have hrun : (execOp a.eval ⟨dst, .call { callee := .value (.func f), args := xs.toArray, argTypes := ts }, ty, pos, af, none⟩).run C.P w = .ok (.enter f vs.toArray) w := by
    show (callFunc f (#[] ++ xs.toArray.map a.eval ++ #[])).run C.P w = _
    have : #[] ++ xs.toArray.map a.eval ++ #[] = vs.toArray := by simp [hr.evals hxs]
    rw [this]
    exact hf.1 _ _
  rw [hrun]
  have hok2 : Ok C.G H (ownF ++ (rst ++ (ms.map hid ++ C.hid))) w := by rw [← List.append_assoc]; exact hok
  have hcalls := hf.2 C.G (rst ++ (ms.map hid ++ C.hid)) w hok2
  refine ⟨fun hx => (by cases hx), ?_⟩
  have hin : CallsIn Fence.wide 0 C.P f vs.toArray w _ := callsIn_wide.2 hcalls
  have hin2 : CallsIn (Fr C.r) 0 C.P f vs.toArray w _ := hin
  refine ⟨hin2.1, fun cs hcs => ?_⟩
  obtain ⟨e, w', fr, ⟨hne, H', own', hle, hok', hR⟩, hx⟩ := hin2.2 cs hcs
  refine ⟨e, w', fr, ?_, hx⟩
  rw [← List.append_assoc] at hok'
  cases e with
  | returned v =>
    obtain ⟨H'', own'', h1, h2, h3, h4⟩ := h v H' own' hle hR
    exact hK _ _ (wpList_mono h1 _ _ _ (h4 _ _ (hr.put (dstOk_lt hd) v ⟨ms, hdf, hok'.shrink h2 (h3.append_right _)⟩)))
  | panicked ch => exact ⟨⟨env, df, H', own' ++ rst⟩, ⟨hr.size, hr.get, ms, hdf, hok'⟩, hle, hp ch H' own' hle hR⟩
  | outgrown => exact absurd rfl hne

/-- The contract of a function that always returns. -/
def RetR (R : Value → Hp → Own → Prop) : Ending → Hp → Own → Prop
  | .returned v, H, own => R v H own
  | _, _, _ => False

theorem RetR.mk {R : Value → Hp → Own → Prop} {v : Value} {H : Hp} {own : Own} (h : R v H own) : RetR R (.returned v) H own := h

theorem XO.callG {f : FuncId} {xs : List Operand} {ts : Array TypeId} {vs : List Value} {ownF : Own} {R : Value → Hp → Own → Prop}
    (hxs : evs env xs = some vs) (hf : FnC C.P f vs.toArray H ownF (RetR R)) (hd : dstOk C.N dst = true) {rst : Own} (ho : own = ownF ++ rst)
    (h : ∀ v H' own', Le H H' → R v H' own' → XO C ops Q rest ⟨putE dst v env, df, H', own' ++ rst⟩) :
    XO C ops Q (⟨dst, .call { callee := .value (.func f), args := xs.toArray, argTypes := ts }, ty, pos, af, none⟩ :: rest) ⟨env, df, H, own⟩ :=
  XO.call0 hxs hf hd ho (fun v H' own' hle hR => ⟨H', _, hle, Le.refl _, List.Sublist.refl _, h v H' own' hle hR⟩) (fun _ _ _ _ hR => hR.elim)

/-- A call that is handed no block of the call's own and gives back something that is published. -/
theorem XO.callH {f : FuncId} {xs : List Operand} {ts : Array TypeId} {vs : List Value} {R : Value → Hp → Prop}
    (hxs : evs env xs = some vs) (hf : FnC C.P f vs.toArray H [] (RetR fun v H' _ => R v H')) (hd : dstOk C.N dst = true)
    (h : ∀ v H', Le H H' → R v H' → XO C ops Q rest ⟨putE dst v env, df, H', own⟩) :
    XO C ops Q (⟨dst, .call { callee := .value (.func f), args := xs.toArray, argTypes := ts }, ty, pos, af, none⟩ :: rest) ⟨env, df, H, own⟩ :=
  XO.call0 hxs hf hd (rst := own) rfl (fun v H' own' hle hR => ⟨H', own, hle, Le.refl _, List.sublist_append_right _ _, h v H' hle hR⟩) (fun _ _ _ _ hR => hR.elim)

/-- A call that is handed nothing and gives back one known value; the published heap may be taken as it was. -/
theorem XO.callV {f : FuncId} {xs : List Operand} {ts : Array TypeId} {vs : List Value} {v : Value} (hxs : evs env xs = some vs) (hf : FnC C.P f vs.toArray H [] (RetR fun u _ _ => u = v)) (hd : dstOk C.N dst = true)
    (h : XO C ops Q rest ⟨putE dst v env, df, H, own⟩) :
    XO C ops Q (⟨dst, .call { callee := .value (.func f), args := xs.toArray, argTypes := ts }, ty, pos, af, none⟩ :: rest) ⟨env, df, H, own⟩ :=
  XO.call0 hxs hf hd (rst := own) rfl (fun u H' own' hle hR => by obtain rfl : u = v := hR; exact ⟨H, own, Le.refl _, hle, List.sublist_append_right _ _, h⟩) (fun _ _ _ _ hR => hR.elim)
/-- A call that is handed nothing and gives back a value of which R is known; the published heap may be taken as it was. -/
theorem XO.callK {f : FuncId} {xs : List Operand} {ts : Array TypeId} {vs : List Value} {R : Value → Prop} (hxs : evs env xs = some vs) (hf : FnC C.P f vs.toArray H [] (RetR fun u _ _ => R u)) (hd : dstOk C.N dst = true)
    (h : ∀ v, R v → XO C ops Q rest ⟨putE dst v env, df, H, own⟩) :
    XO C ops Q (⟨dst, .call { callee := .value (.func f), args := xs.toArray, argTypes := ts }, ty, pos, af, none⟩ :: rest) ⟨env, df, H, own⟩ :=
  XO.call0 hxs hf hd (rst := own) rfl (fun u H' own' hle hR => ⟨H, own, Le.refl _, hle, List.sublist_append_right _ _, h u hR⟩) (fun _ _ _ _ hR => hR.elim)

theorem XO.guardC {dst : Option Tmp} {op : Op} {ty : TypeId} {pos : String} {af : Array Edge} {j t : Nat} {want b : Bool} (hj : (ops[j]?).bind (·.dst) = some t) (hv : env.get t = some (.bool b)) (hN : Nat.blt t C.N = true) (hd : dstOk C.N dst = true)
    (hy : b = want → XO C ops Q (⟨dst, op, ty, pos, af, none⟩ :: rest) ⟨env, df, H, own⟩) (hn : b = (!want) → XO C ops Q rest ⟨putE dst undef env, df, H, own⟩) : XO C ops Q (⟨dst, op, ty, pos, af, some (j, want)⟩ :: rest) ⟨env, df, H, own⟩ := by
  cases b <;> cases want
  · exact XO.guardT hj hv rfl hN (hy rfl)
  · exact XO.guardF hj hv rfl hN hd (hn rfl)
  · exact XO.guardF hj hv rfl hN hd (hn rfl)
  · exact XO.guardT hj hv rfl hN (hy rfl)

theorem XO.convI {s t : TypeId} {x : Operand} {ds : TypeDesc} {k k' : IntKind} {a c : Int} (hx : ev env x = some (.int k a)) (hs : C.P.underlying s = some ds) (ht : C.P.underlying t = some (.int k')) (hw : k'.wrap a = c) (hd : dstOk C.N dst = true)
    (h : XO C ops Q rest ⟨putE dst (.int k' c) env, df, H, own⟩) : XO C ops Q (⟨dst, .convert s t x, ty, pos, af, none⟩ :: rest) ⟨env, df, H, own⟩ :=
  XO.pure rfl rfl hd (fun ρ ha w => by
    simp only [execOp, ha _ _ hx, convert, Sem.run_bind]
    simp only [underlying, program, Sem.run_bind, bind, Sem.bind, Sem.run, hs, ht, Pure.pure, Result.andThen, Conv.intToInt, hw]) h
end ops
end
end Go.XL
