/- Structs compared. No statement of the program stands here. -/
import Derived.Test.YtbfleiickdobnaaXLo
import Derived.Laws.StructEq
set_option autoImplicit false
set_option linter.unusedSimpArgs false
set_option linter.unusedVariables false
namespace Go.XL
theorem run_part_int {P : Program} {t : TypeId} {k : IntKind} {cs : Array Value} {off : Nat} {v : Value} {w : World} (ht : P.underlying t = some (.int k)) (hv : cs[off]? = some v) : (part t cs off).run P w = .ok v w := by
  unfold part
  simp only [Sem.run_bind, isAgg, run_underlying ht, Result.andThen]
  simp [hv, Sem.run, Pure.pure]
theorem equal_s2 {P : Program} {t : TypeId} {f0 f1 : Field} {k0 k1 q0 q1 : IntKind} {a b c d : Int} {w : World} (ht : P.underlying t = some (.struct #[f0, f1])) (hp : P.stoodInHeld t = false) (h0 : P.underlying f0.type = some (.int k0)) (h1 : P.underlying f1.type = some (.int k1))
    (ho : f0.offset = 0 ∧ f1.offset = 1 ∧ f0.name ≠ "_" ∧ f1.name ≠ "_") : (Op.equal t (.agg #[.int q0 a, .int q1 b]) (.agg #[.int q0 c, .int q1 d])).run P w = .ok (decide (a = c ∧ b = d)) w := by
  have hf : P.fieldsOf t = #[f0, f1] := by rw [Program.fieldsOf, ht]
  have ht' : P.underlying t = some (.struct (P.fieldsOf t)) := by rw [hf]; exact ht
  unfold Op.equal Op.maxDepth
  rw [show (10000 : Nat) = 9999 + 1 from rfl, run_equalIn_struct w 9999 t _ _ ht' hp, hf]
  rw [show (9999 : Nat) = 9998 + 1 from rfl]
  have p0 : ∀ (u v : Value) (w : World), (part f0.type #[u, v] f0.offset).run P w = .ok u w := fun u v w => run_part_int h0 (by rw [ho.1]; rfl)
  have p1 : ∀ (u v : Value) (w : World), (part f1.type #[u, v] f1.offset).run P w = .ok v w := fun u v w => run_part_int h1 (by rw [ho.2.1]; rfl)
  simp only [Op.eqFields, if_pos ho.2.2.1, if_pos ho.2.2.2, Sem.run_bind, p0, p1, Result.andThen, run_equalIn_int w _ _ _ _ _ _ h0, run_equalIn_int w _ _ _ _ _ _ h1]
  by_cases e1 : a = c
  · by_cases e2 : b = d
    · simp [e1, e2, Op.eqFields, Sem.run, Pure.pure, p1, run_equalIn_int w _ _ _ _ _ _ h1, Sem.run_bind, Result.andThen]
    · simp [e1, e2, Op.eqFields, Sem.run, Pure.pure, p1, run_equalIn_int w _ _ _ _ _ _ h1, Sem.run_bind, Result.andThen]
  · simp [e1, Op.eqFields, Sem.run, Pure.pure, Sem.run_bind, Result.andThen]
section
variable {C : Ctx} {ops : Array Oper} {Q : Exit → St → Prop} {rest : List Oper} {env : Env} {df : List Deferred} {H : Hp} {own : Own}
variable {dst : Option Tmp} {ty : TypeId} {pos : String} {af : Array Edge}
theorem XO.neqS2 {xt yt : TypeId} {x y : Operand} {f0 f1 : Field} {k0 k1 q0 q1 : IntKind} {a b c d : Int} (hx : ev env x = some (.agg #[.int q0 a, .int q1 b])) (hy : ev env y = some (.agg #[.int q0 c, .int q1 d])) (ht : C.P.underlying xt = some (.struct #[f0, f1]))
    (hp : C.P.stoodInHeld xt = false) (he : C.P.eqGuardType C.P.depth xt = false) (h0 : C.P.underlying f0.type = some (.int k0)) (h1 : C.P.underlying f1.type = some (.int k1)) (ho : f0.offset = 0 ∧ f1.offset = 1 ∧ f0.name ≠ "_" ∧ f1.name ≠ "_") (hd : dstOk C.N dst = true)
    (h : XO C ops Q rest ⟨putE dst (.bool (decide (¬ (a = c ∧ b = d)))) env, df, H, own⟩) : XO C ops Q (⟨dst, .binOp .neq xt x y yt, ty, pos, af, none⟩ :: rest) ⟨env, df, H, own⟩ :=
  XO.pure rfl rfl hd (fun ρ ha w => by
    have hgd := fun w => run_eqGuard_agg (P := C.P) w .neq xt x y #[.int q0 a, .int q1 b] #[.int q0 c, .int q1 d] he
    simp only [execOp, ha _ _ hx, ha _ _ hy, Sem.run_bind, hgd]
    simp only [Result.andThen, binOp, Sem.run_bind, equal_s2 ht hp h0 h1 ho]
    simp [Sem.run, Pure.pure]) h
end
end Go.XL
