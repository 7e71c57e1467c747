/- The law FieldSpec: it returns true, whatever the input, and what it was handed reads as before. No condition. -/
import Derived.Test.YtdiknopliedddaaXLm
import Derived.Test.YtdiknopliedddaaRaW
import Derived.Test.YtdiknopliedddaaRows
import Derived.WalkKit
import Derived.ProofKit
import Derived.OpenShut
import Derived.ShutString
import Derived.ChangeOld
import Derived.Below
set_option autoImplicit false
set_option linter.unusedVariables false
namespace Go.Proofs.Ytdiknopliedddaa
open Go.XL



theorem fieldSpec_fn (a b : Int) (H : Hp) : FnC Try.prog 3 #[.int .i64 a, .int .i64 b] H [] (RetR fun v _ _ => v = .bool true) := by
  refine FnC.intro (args := [.int .i64 a, .int .i64 b]) Try.func3 rfl rfl Try.ntmps3 rfl rfl rfl fun G rest => ?_
  refine XC.seq ?_
  refine XC.region ?_
  refine XO.assign rfl rfl ?_
  refine XO.nil ?_
  refine XC.seq2 ?_
  refine XC.seq ?_
  refine XC.seq ?_
  refine XC.region ?_
  refine XO.callV rfl (sane12 _) rfl ?_
  refine XO.notB rfl rfl ?_
  refine XO.nil ?_
  refine XC.seq2 ?_
  refine XC.condF rfl (rfl) ?_
  refine XC.skip ?_
  refine XC.seq2 ?_
  refine XC.seq ?_
  refine XC.region ?_
  refine XO.move rfl rfl ?_
  refine XO.callV rfl (inv_fn _ _) rfl ?_
  refine XO.move rfl rfl ?_
  refine XO.extract rfl rfl rfl ?_
  refine XO.extract rfl rfl rfl ?_
  refine XO.assign rfl rfl ?_
  refine XO.assign rfl rfl ?_
  refine XO.nil ?_
  refine XC.seq2 ?_
  refine XC.seq ?_
  refine XC.region ?_
  refine XO.move rfl rfl ?_
  refine XO.callV rfl (rinv_fn _ _) rfl ?_
  refine XO.move rfl rfl ?_
  refine XO.extract rfl rfl rfl ?_
  refine XO.extract rfl rfl rfl ?_
  refine XO.assign rfl rfl ?_
  refine XO.assign rfl rfl ?_
  refine XO.nil ?_
  refine XC.seq2 ?_
  refine XC.seq ?_
  refine XC.region ?_
  refine XO.move rfl rfl ?_
  refine XO.callV rfl (mod_fn _ _) rfl ?_
  refine XO.move rfl rfl ?_
  refine XO.callV rfl (rmod_fn _ _) rfl ?_
  refine XO.eql rfl rfl rfl ?_
  refine XO.move rfl rfl ?_
  refine XO.guardT rfl rfl (by simp) rfl ?_
  refine XO.move rfl rfl ?_
  refine XO.guardT rfl rfl (by simp) rfl ?_
  refine XO.move rfl rfl ?_
  refine XO.guardT rfl rfl (by simp) rfl ?_
  refine XO.callV rfl (add_fn _ _ _) rfl ?_
  refine XO.guardT rfl rfl (by simp) rfl ?_
  refine XO.move rfl rfl ?_
  refine XO.guardT rfl rfl (by simp) rfl ?_
  refine XO.move rfl rfl ?_
  refine XO.guardT rfl rfl (by simp) rfl ?_
  refine XO.callV rfl (radd_fn _ _ _) rfl ?_
  refine XO.guardT rfl rfl (by simp) rfl ?_
  refine XO.eql rfl rfl rfl ?_
  refine XO.pickT rfl (by simp) rfl rfl ?_
  refine XO.move rfl rfl ?_
  refine XO.guardT rfl rfl (by simp) rfl ?_
  refine XO.move rfl rfl ?_
  refine XO.guardT rfl rfl (by simp) rfl ?_
  refine XO.move rfl rfl ?_
  refine XO.guardT rfl rfl (by simp) rfl ?_
  refine XO.callV rfl (mul_fn _ _ _) rfl ?_
  refine XO.guardT rfl rfl (by simp) rfl ?_
  refine XO.move rfl rfl ?_
  refine XO.guardT rfl rfl (by simp) rfl ?_
  refine XO.move rfl rfl ?_
  refine XO.guardT rfl rfl (by simp) rfl ?_
  refine XO.callV rfl (rmul_fn _ _ _) rfl ?_
  refine XO.guardT rfl rfl (by simp) rfl ?_
  refine XO.eql rfl rfl rfl ?_
  refine XO.pickT rfl (by simp) rfl rfl ?_
  refine XO.move rfl rfl ?_
  refine XO.guardT rfl rfl (by simp) rfl ?_
  refine XO.move rfl rfl ?_
  refine XO.guardT rfl rfl (by simp) rfl ?_
  refine XO.move rfl rfl ?_
  refine XO.guardT rfl rfl (by simp) rfl ?_
  refine XO.eql rfl rfl rfl ?_
  refine XO.pickT rfl (by simp) rfl rfl ?_
  refine XO.move rfl rfl ?_
  refine XO.guardT rfl rfl (by simp) rfl ?_
  refine XO.move rfl rfl ?_
  refine XO.guardT rfl rfl (by simp) rfl ?_
  refine XO.move rfl rfl ?_
  refine XO.guardT rfl rfl (by simp) rfl ?_
  refine XO.eql rfl rfl rfl ?_
  refine XO.pickT rfl (by simp) rfl rfl ?_
  refine XO.assign rfl rfl ?_
  refine XO.nil ?_
  refine XC.seq2 ?_
  refine XC.ret ?_
  refine ⟨rfl, _, [], rfl, (by repeat (first | exact List.Sublist.refl _ | apply List.Sublist.cons)), RetR.mk ?_⟩
  exact congrArg Value.bool (by simp)

namespace fieldSpec
open Go.ChangeShapes Go.WideShapes Go.ChangeAt Go.RowKit
open Go.ChangeMaps (open_string shut_string)
theorem own : ownKnob Try.prog.godebug = none := by kernel_rfl
theorem laidOut : laidOutB Try.prog = true := by kernel_rfl
set_option maxRecDepth 100000 in
theorem lifted (os : Os) (started : os.Started) (H : Type) (enc : TypeId × Value → H) :
    ReturnsInHanded {} Try.checked os 3 .any (Rows.fieldSpecSpec.pre6 enc Try.prog Try.f3 Rows.fieldSpecRow.domain false) (Rows.fieldSpecSpec.post enc Try.prog Try.f3 false true false false) := by
  refine returnsInHanded_of_change (C := Try.checked) own started (by kernel_rfl) Try.func3
    (ChangeSpec.witness6 (enc := enc) (C := Try.checked) false ⟨#[], #[.int .i64 0, .int .i64 0], []⟩ 8 (by kernel_rfl) (by kernel_rfl) (by kernel_rfl) (by kernel_rfl)) ?_
  intro W base args ds gs before hval0 hW hcnd _
  have hval : ∀ (j : Nat) t v, Try.f3.params[j]? = some t → args[j]? = some v → Value.okWide Try.prog W .any base t v := hval0
  have hW' := hW
  obtain ⟨p, q, hA0, hV, rfl, hfz, hnd⟩ := hW
  have hA : DataW.TrodAll enc Try.prog W 0 (fun _ => true) true Try.f3.params.toList args.toList ds p := hA0
  rw [Try.params3] at hA hval
  obtain ⟨v0, vs0, d0, ds0, p0, q0, hargs, rfl, rfl, h0, r0⟩ := trodAll_cons hA
  obtain ⟨v1, vs1, d1, ds1, p1, q1, rfl, rfl, rfl, h1, r1⟩ := trodAll_cons r0
  obtain ⟨rfl, rfl, rfl⟩ := trodAll_nil r1
  obtain rfl : args = #[v0, v1] := by cases args; simp_all
  obtain ⟨rfl, rfl⟩ := trodVars_none hV
  obtain ⟨a0, rfl, rfl, rfl, w0⟩ := open_int Try.underlying3 (hval 0 3 v0 rfl rfl) h0
  obtain ⟨a1, rfl, rfl, rfl, w1⟩ := open_int Try.underlying3 (hval 1 3 v1 rfl rfl) h1
  clear hA0 hval0
  refine (fieldSpec_fn a0 a1 (hpOf W)).below.mono fun e W' ⟨he, bel⟩ => ?_
  subst he
  exact ⟨_, rfl, _, _, _, [], _, [], hW', trodAll_mk1 (shut_bool Try.underlying4 _), (trodAll_cons_mk (shut_int Try.underlying3 w0) (trodAll_cons_mk (shut_int Try.underlying3 w1) trodAll_mk0)), rfl, bel.frame _, fun h => by cases h⟩
theorem over : Rows.fieldSpecRow.holds Try.pinned (OpenSpec.ofChange Rows.fieldSpecSpec) :=
  OpenClaim.holds_of_wide 3 Try.f3 rfl rfl rfl rfl rfl rfl rfl ⟨rfl, rfl, rfl, rfl, rfl⟩ rfl rfl rfl rfl rfl (by kernel_rfl) Try.func3 (by kernel_rfl)
    (of_decide_eq_true (by kernel_rfl)) (by unfold Func.isWrapper; first | (rw [if_pos (by decide +kernel)]; kernel_rfl) | (rw [if_neg (by decide +kernel)]; exact ⟨rfl, rfl⟩))
    (fun os started H enc _ => lifted os started H enc)
/-- The given statement. -/
theorem proved : Rows.FieldSpecSaid := over
#print axioms proved
end fieldSpec
end Go.Proofs.Ytdiknopliedddaa
