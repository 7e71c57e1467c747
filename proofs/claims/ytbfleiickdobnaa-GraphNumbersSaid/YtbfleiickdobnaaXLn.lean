/- More rules for single operations: bools compared, the greatest and the least of two numbers. No statement of the program stands here. -/
import Derived.Test.YtbfleiickdobnaaXLm
set_option autoImplicit false
set_option linter.unusedSimpArgs false
namespace Go.XL
theorem wf_i64 {n : Int} (h : (Lit.int .i64 n).wf = true) : -9223372036854775808 ≤ n ∧ n ≤ 9223372036854775807 := by
  simpa [Lit.wf, IntKind.min, IntKind.max, IntKind.signed, IntKind.bits] using h
theorem wf_u8 {n : Int} (h : (Lit.int .u8 n).wf = true) : 0 ≤ n ∧ n ≤ 255 := by
  simpa [Lit.wf, IntKind.min, IntKind.max, IntKind.signed, IntKind.bits] using h
theorem equal_bool {P : Program} {t : TypeId} {a b : Bool} {w : World} (ht : P.underlying t = some .bool) : (Op.equal t (.bool a) (.bool b)).run P w = .ok (a == b) w := by
  unfold Op.equal Op.maxDepth
  rw [show (10000 : Nat) = 9999 + 1 from rfl, Op.equalIn]
  simp only [Sem.run_bind, run_underlying ht, Result.andThen]
  rfl
section
variable {C : Ctx} {ops : Array Oper} {Q : Exit → St → Prop} {rest : List Oper} {env : Env} {df : List Deferred} {H : Hp} {own : Own}
variable {dst : Option Tmp} {ty : TypeId} {pos : String} {af : Array Edge}
theorem XO.eqlB {xt yt : TypeId} {x y : Operand} {a b : Bool} (hx : ev env x = some (.bool a)) (hy : ev env y = some (.bool b)) (ht : C.P.underlying xt = some .bool) (hd : dstOk C.N dst = true)
    (h : XO C ops Q rest ⟨putE dst (.bool (a == b)) env, df, H, own⟩) : XO C ops Q (⟨dst, .binOp .eql xt x y yt, ty, pos, af, none⟩ :: rest) ⟨env, df, H, own⟩ :=
  XO.pure rfl rfl hd (fun ρ ha w => by
    have hgd : ∀ w, (eqGuard .eql xt x y (.bool a) (.bool b)).run C.P w = .ok () w := fun w => rfl
    simp only [execOp, ha _ _ hx, ha _ _ hy, Sem.run_bind, hgd]
    simp only [Result.andThen, binOp, Sem.run_bind, equal_bool ht]
    rfl) h
theorem XO.neqB {xt yt : TypeId} {x y : Operand} {a b : Bool} (hx : ev env x = some (.bool a)) (hy : ev env y = some (.bool b)) (ht : C.P.underlying xt = some .bool) (hd : dstOk C.N dst = true)
    (h : XO C ops Q rest ⟨putE dst (.bool (!(a == b))) env, df, H, own⟩) : XO C ops Q (⟨dst, .binOp .neq xt x y yt, ty, pos, af, none⟩ :: rest) ⟨env, df, H, own⟩ :=
  XO.pure rfl rfl hd (fun ρ ha w => by
    have hgd : ∀ w, (eqGuard .neq xt x y (.bool a) (.bool b)).run C.P w = .ok () w := fun w => rfl
    simp only [execOp, ha _ _ hx, ha _ _ hy, Sem.run_bind, hgd]
    simp only [Result.andThen, binOp, Sem.run_bind, equal_bool ht]
    rfl) h
theorem XO.maxI {s t : TypeId} {x y : Operand} {k : IntKind} {a b c : Int} (hx : ev env x = some (.int k a)) (hy : ev env y = some (.int k b)) (hc : (if b > a then b else a) = c) (hd : dstOk C.N dst = true)
    (h : XO C ops Q rest ⟨putE dst (.int k c) env, df, H, own⟩) :
    XO C ops Q (⟨dst, .call { callee := .builtin .max, args := #[x, y], argTypes := #[s, t] }, ty, pos, af, none⟩ :: rest) ⟨env, df, H, own⟩ :=
  XO.pure rfl rfl hd (fun ρ ha w => by
    subst hc
    simp only [execOp, resolve, Sem.run_bind]
    simp only [Pure.pure, Sem.run, Result.andThen, invoke, builtin, Sem.run_bind, Builtin.max_]
    simp [ha _ _ hx, ha _ _ hy, Sem.run_bind, Result.andThen, Pure.pure, Sem.run, Builtin.max2, List.foldlM]) h
end
end Go.XL
