/- Method values. No statement of the program stands here. -/
import Derived.Test.YtbfleiickdobnaaXLx
set_option autoImplicit false
set_option linter.unusedSimpArgs false
set_option linter.unusedVariables false
namespace Go.XL
theorem FnV.of_first {P : Program} {f : FuncId} {fst args cap : List Value} {H : Hp} {own : Own} {R : Ending → Hp → Own → Prop} (h : FnC P f (fst ++ args ++ cap).toArray H own R) : FnV P (.func (.func f) fst.toArray cap.toArray) args H own R := by
  intro G rest w ok
  refine ⟨_, .enter f (fst ++ args ++ cap).toArray, w, rfl, ?_, h.2 G rest w ok⟩
  have := h.1 (fst ++ args ++ cap).toArray w
  simpa [invoke] using this
theorem XO.makeFunc1 {C : Ctx} {ops : Array Oper} {Q : Exit → St → Prop} {rest : List Oper} {env : Env} {df : List Deferred} {H : Hp} {own : Own} {dst : Option Tmp} {ty : TypeId} {pos : String} {af : Array Edge} {fn : Fn} {fs cs : List Operand} {us vs : List Value} (hf : evs env fs = some us) (hc : evs env cs = some vs) (hd : dstOk C.N dst = true)
    (h : XO C ops Q rest ⟨putE dst (.func fn us.toArray vs.toArray) env, df, H, own⟩) : XO C ops Q (⟨dst, .makeFunc fn fs.toArray cs.toArray, ty, pos, af, none⟩ :: rest) ⟨env, df, H, own⟩ :=
  XO.pure rfl rfl hd (fun ρ ha w => by
    have h1 := evs_map ha hc
    have h2 := evs_map ha hf
    simp [execOp, Instr.makeFunc, h1, h2, Sem.run, Pure.pure, bind, Sem.bind]) h
end Go.XL
