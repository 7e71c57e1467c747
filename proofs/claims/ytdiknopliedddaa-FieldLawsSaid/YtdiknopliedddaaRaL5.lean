/- The law FieldLaws: it returns true, whatever the input, and what it was handed reads as before. No condition. -/
import Derived.Test.YtdiknopliedddaaRaO
import Derived.Test.YtdiknopliedddaaRaW
import Derived.Test.YtdiknopliedddaaRaP
import Derived.Test.YtdiknopliedddaaXLn
import Derived.Test.YtdiknopliedddaaRows
import Derived.WalkKit
import Derived.ProofKit
import Derived.OpenShut
import Derived.ShutString
import Derived.ChangeOld
import Derived.Below
set_option autoImplicit false
set_option linter.unusedVariables false
set_option linter.unusedSimpArgs false
namespace Go.Proofs.Ytdiknopliedddaa
open Go.XL



set_option maxRecDepth 100000 in
theorem fieldLaws_fn (a b c : Int) (H : Hp) (ha : a ≤ 9223372036854775807) : FnC Try.prog 5 #[.int .i64 a, .int .i64 b, .int .i64 c] H [] (RetR fun v _ _ => v = .bool true) := by
  refine FnC.intro (args := [.int .i64 a, .int .i64 b, .int .i64 c]) Try.func5 rfl rfl Try.ntmps5 rfl rfl rfl fun G rest => ?_
  refine XC.seq ?_
  refine XC.region ?_
  refine XO.assign rfl rfl ?_
  refine XO.nil ?_
  refine XC.seq2 ?_
  refine XC.seq ?_
  refine XC.seq ?_
  refine XC.region ?_
  refine XO.callV rfl (sane12 _) rfl ?_
  refine XO.notB rfl rfl ?_
  refine XO.nil ?_
  refine XC.seq2 ?_
  refine XC.condF rfl (rfl) ?_
  refine XC.skip ?_
  refine XC.seq2 ?_
  refine XC.seq ?_
  refine XC.region ?_
  refine XO.move rfl rfl ?_
  refine XO.callV rfl (mod_fn _ _) rfl ?_
  refine XO.move rfl rfl ?_
  refine XO.callV rfl (mod_fn _ _) rfl ?_
  refine XO.move rfl rfl ?_
  refine XO.callV rfl (mod_fn _ _) rfl ?_
  refine XO.assign rfl rfl ?_
  refine XO.assign rfl rfl ?_
  refine XO.assign rfl rfl ?_
  refine XO.nil ?_
  refine XC.seq2 ?_
  refine XC.seq ?_
  refine XC.seq ?_
  refine XC.region ?_
  refine XO.move rfl rfl ?_
  refine XO.callV rfl (in_fn _ _) rfl ?_
  refine XO.not rfl rfl ?_
  refine XO.move rfl rfl ?_
  refine XO.guardT rfl rfl (decide_eq_false (by omega)) rfl ?_
  refine XO.move rfl rfl ?_
  refine XO.guardT rfl rfl (decide_eq_false (by omega)) rfl ?_
  refine XO.callV rfl (in_fn _ _) rfl ?_
  refine XO.guardT rfl rfl (decide_eq_false (by omega)) rfl ?_
  refine XO.not rfl rfl ?_
  refine XO.pickF rfl (decide_eq_false (by omega)) rfl rfl ?_
  refine XO.move rfl rfl ?_
  refine XO.guardT rfl rfl (decide_eq_false (by omega)) rfl ?_
  refine XO.move rfl rfl ?_
  refine XO.guardT rfl rfl (decide_eq_false (by omega)) rfl ?_
  refine XO.callV rfl (in_fn _ _) rfl ?_
  refine XO.guardT rfl rfl (decide_eq_false (by omega)) rfl ?_
  refine XO.not rfl rfl ?_
  refine XO.pickF rfl (decide_eq_false (by omega)) rfl rfl ?_
  refine XO.move rfl rfl ?_
  refine XO.guardT rfl rfl (decide_eq_false (by omega)) rfl ?_
  refine XO.move rfl rfl ?_
  refine XO.guardT rfl rfl (decide_eq_false (by omega)) rfl ?_
  refine XO.callV rfl (mod_fn _ _) rfl ?_
  refine XO.guardT rfl rfl (decide_eq_false (by omega)) rfl ?_
  refine XO.move rfl rfl ?_
  refine XO.guardT rfl rfl (decide_eq_false (by omega)) rfl ?_
  refine XO.neq rfl rfl rfl ?_
  refine XO.pickF rfl (decide_eq_false (by omega)) rfl rfl ?_
  refine XO.move rfl rfl ?_
  refine XO.guardT rfl rfl (decide_eq_false (by omega)) rfl ?_
  refine XO.move rfl rfl ?_
  refine XO.guardT rfl rfl (decide_eq_false (by omega)) rfl ?_
  refine XO.move rfl rfl ?_
  refine XO.guardT rfl rfl (decide_eq_false (by omega)) rfl ?_
  refine XO.sub (c := IntKind.i64.wrap (a - a % 1073741789)) rfl rfl rfl rfl ?_
  refine XO.guardT rfl rfl (decide_eq_false (by omega)) rfl ?_
  refine XO.rem rfl rfl (by decide) rfl rfl ?_
  refine XO.guardT rfl rfl (decide_eq_false (by omega)) rfl ?_
  refine XO.neq rfl rfl rfl ?_
  refine XO.guardT rfl rfl (decide_eq_false (by omega)) rfl ?_
  refine XO.move rfl rfl ?_
  refine XO.guardC rfl rfl rfl rfl (fun g11 => ?_) (fun g11 => ?_)
  · have g11p := of_decide_eq_true g11
    refine XO.move rfl rfl ?_
    refine XO.guardT rfl rfl (g11) rfl ?_
    refine XO.geq rfl rfl rfl ?_
    refine XO.guardT rfl rfl (decide_eq_false (by omega)) rfl ?_
    refine XO.pickT rfl (g11) rfl rfl ?_
    refine XO.pickF rfl (decide_eq_false (by omega)) rfl rfl ?_
    refine XO.nil ?_
    refine XC.seq2 ?_
    refine XC.condF rfl (decide_eq_false (fl_neg ha (by assumption))) ?_
    refine XC.skip ?_
    refine XC.seq2 ?_
    refine XC.seq ?_
    refine XC.seq ?_
    refine XC.region ?_
    refine XO.move rfl rfl ?_
    refine XO.move rfl rfl ?_
    refine XO.callV rfl (add_fn _ _ _) rfl ?_
    refine XO.move rfl rfl ?_
    refine XO.move rfl rfl ?_
    refine XO.callV rfl (add_fn _ _ _) rfl ?_
    refine XO.neq rfl rfl rfl ?_
    refine XO.move rfl rfl ?_
    refine XO.guardT rfl rfl (decide_eq_false (by omega)) rfl ?_
    refine XO.move rfl rfl ?_
    refine XO.guardT rfl rfl (decide_eq_false (by omega)) rfl ?_
    refine XO.move rfl rfl ?_
    refine XO.guardT rfl rfl (decide_eq_false (by omega)) rfl ?_
    refine XO.callV rfl (mul_fn _ _ _) rfl ?_
    refine XO.guardT rfl rfl (decide_eq_false (by omega)) rfl ?_
    refine XO.move rfl rfl ?_
    refine XO.guardT rfl rfl (decide_eq_false (by omega)) rfl ?_
    refine XO.move rfl rfl ?_
    refine XO.guardT rfl rfl (decide_eq_false (by omega)) rfl ?_
    refine XO.callV rfl (mul_fn _ _ _) rfl ?_
    refine XO.guardT rfl rfl (decide_eq_false (by omega)) rfl ?_
    refine XO.neq rfl rfl rfl ?_
    refine XO.pickF rfl (decide_eq_false (by omega)) rfl rfl ?_
    refine XO.move rfl rfl ?_
    refine XO.guardT rfl rfl (decide_eq_false (fun h => h (mul_c _ _))) rfl ?_
    refine XO.move rfl rfl ?_
    refine XO.guardT rfl rfl (decide_eq_false (fun h => h (mul_c _ _))) rfl ?_
    refine XO.move rfl rfl ?_
    refine XO.guardT rfl rfl (decide_eq_false (fun h => h (mul_c _ _))) rfl ?_
    refine XO.callV rfl (add_fn _ _ _) rfl ?_
    refine XO.guardT rfl rfl (decide_eq_false (fun h => h (mul_c _ _))) rfl ?_
    refine XO.move rfl rfl ?_
    refine XO.guardT rfl rfl (decide_eq_false (fun h => h (mul_c _ _))) rfl ?_
    refine XO.callV rfl (add_fn _ _ _) rfl ?_
    refine XO.guardT rfl rfl (decide_eq_false (fun h => h (mul_c _ _))) rfl ?_
    refine XO.move rfl rfl ?_
    refine XO.guardT rfl rfl (decide_eq_false (fun h => h (mul_c _ _))) rfl ?_
    refine XO.move rfl rfl ?_
    refine XO.guardT rfl rfl (decide_eq_false (fun h => h (mul_c _ _))) rfl ?_
    refine XO.move rfl rfl ?_
    refine XO.guardT rfl rfl (decide_eq_false (fun h => h (mul_c _ _))) rfl ?_
    refine XO.callV rfl (add_fn _ _ _) rfl ?_
    refine XO.guardT rfl rfl (decide_eq_false (fun h => h (mul_c _ _))) rfl ?_
    refine XO.callV rfl (add_fn _ _ _) rfl ?_
    refine XO.guardT rfl rfl (decide_eq_false (fun h => h (mul_c _ _))) rfl ?_
    refine XO.neq rfl rfl rfl ?_
    refine XO.pickF rfl (decide_eq_false (fun h => h (mul_c _ _))) rfl rfl ?_
    refine XO.move rfl rfl ?_
    refine XO.guardT rfl rfl (decide_eq_false (by omega)) rfl ?_
    refine XO.move rfl rfl ?_
    refine XO.guardT rfl rfl (decide_eq_false (by omega)) rfl ?_
    refine XO.move rfl rfl ?_
    refine XO.guardT rfl rfl (decide_eq_false (by omega)) rfl ?_
    refine XO.callV rfl (mul_fn _ _ _) rfl ?_
    refine XO.guardT rfl rfl (decide_eq_false (by omega)) rfl ?_
    refine XO.move rfl rfl ?_
    refine XO.guardT rfl rfl (decide_eq_false (by omega)) rfl ?_
    refine XO.callV rfl (mul_fn _ _ _) rfl ?_
    refine XO.guardT rfl rfl (decide_eq_false (by omega)) rfl ?_
    refine XO.move rfl rfl ?_
    refine XO.guardT rfl rfl (decide_eq_false (by omega)) rfl ?_
    refine XO.move rfl rfl ?_
    refine XO.guardT rfl rfl (decide_eq_false (by omega)) rfl ?_
    refine XO.move rfl rfl ?_
    refine XO.guardT rfl rfl (decide_eq_false (by omega)) rfl ?_
    refine XO.callV rfl (mul_fn _ _ _) rfl ?_
    refine XO.guardT rfl rfl (decide_eq_false (by omega)) rfl ?_
    refine XO.callV rfl (mul_fn _ _ _) rfl ?_
    refine XO.guardT rfl rfl (decide_eq_false (by omega)) rfl ?_
    refine XO.neq rfl rfl rfl ?_
    refine XO.pickF rfl (decide_eq_false (by omega)) rfl rfl ?_
    refine XO.nil ?_
    refine XC.seq2 ?_
    refine XC.condF rfl (decide_eq_false (fun h => h (mul_a _ _ _))) ?_
    refine XC.skip ?_
    refine XC.seq2 ?_
    refine XC.seq ?_
    refine XC.seq ?_
    refine XC.region ?_
    refine XO.move rfl rfl ?_
    refine XO.move rfl rfl ?_
    refine XO.move rfl rfl ?_
    refine XO.callV rfl (add_fn _ _ _) rfl ?_
    refine XO.callV rfl (mul_fn _ _ _) rfl ?_
    refine XO.move rfl rfl ?_
    refine XO.move rfl rfl ?_
    refine XO.callV rfl (mul_fn _ _ _) rfl ?_
    refine XO.move rfl rfl ?_
    refine XO.move rfl rfl ?_
    refine XO.callV rfl (mul_fn _ _ _) rfl ?_
    refine XO.callV rfl (add_fn _ _ _) rfl ?_
    refine XO.neq rfl rfl rfl ?_
    refine XO.move rfl rfl ?_
    refine XO.guardT rfl rfl (decide_eq_false (fun h => h (mul_d _ _ _))) rfl ?_
    refine XO.move rfl rfl ?_
    refine XO.guardT rfl rfl (decide_eq_false (fun h => h (mul_d _ _ _))) rfl ?_
    refine XO.callV rfl (add_fn _ _ _) rfl ?_
    refine XO.guardT rfl rfl (decide_eq_false (fun h => h (mul_d _ _ _))) rfl ?_
    refine XO.move rfl rfl ?_
    refine XO.guardT rfl rfl (decide_eq_false (fun h => h (mul_d _ _ _))) rfl ?_
    refine XO.neq rfl rfl rfl ?_
    refine XO.pickF rfl (decide_eq_false (fun h => h (mul_d _ _ _))) rfl rfl ?_
    refine XO.move rfl rfl ?_
    refine XO.guardT rfl rfl (decide_eq_false (by omega)) rfl ?_
    refine XO.move rfl rfl ?_
    refine XO.guardT rfl rfl (decide_eq_false (by omega)) rfl ?_
    refine XO.callV rfl (mul_fn _ _ _) rfl ?_
    refine XO.guardT rfl rfl (decide_eq_false (by omega)) rfl ?_
    refine XO.move rfl rfl ?_
    refine XO.guardT rfl rfl (decide_eq_false (by omega)) rfl ?_
    refine XO.neq rfl rfl rfl ?_
    refine XO.pickF rfl (decide_eq_false (by omega)) rfl rfl ?_
    refine XO.move rfl rfl ?_
    refine XO.guardT rfl rfl (decide_eq_false (fun h => h (by simp))) rfl ?_
    refine XO.move rfl rfl ?_
    refine XO.guardT rfl rfl (decide_eq_false (fun h => h (by simp))) rfl ?_
    refine XO.move rfl rfl ?_
    refine XO.guardT rfl rfl (decide_eq_false (fun h => h (by simp))) rfl ?_
    refine XO.neg rfl (wrap_i64 (by omega) (by omega)) rfl ?_
    refine XO.guardT rfl rfl (decide_eq_false (fun h => h (by simp))) rfl ?_
    refine XO.callV rfl (add_fn _ _ _) rfl ?_
    refine XO.guardT rfl rfl (decide_eq_false (fun h => h (by simp))) rfl ?_
    refine XO.neq rfl rfl rfl ?_
    refine XO.pickF rfl (decide_eq_false (fun h => h (by simp))) rfl rfl ?_
    refine XO.move rfl rfl ?_
    refine XO.guardT rfl rfl (decide_eq_false (by omega)) rfl ?_
    refine XO.move rfl rfl ?_
    refine XO.guardT rfl rfl (decide_eq_false (by omega)) rfl ?_
    refine XO.move rfl rfl ?_
    refine XO.guardT rfl rfl (decide_eq_false (by omega)) rfl ?_
    refine XO.callV rfl (mul_fn _ _ _) rfl ?_
    refine XO.guardT rfl rfl (decide_eq_false (by omega)) rfl ?_
    refine XO.eql rfl rfl rfl ?_
    refine XO.guardT rfl rfl (decide_eq_false (by omega)) rfl ?_
    refine XO.move rfl rfl ?_
    refine XO.guardT rfl rfl (decide_eq_false (by omega)) rfl ?_
    refine XO.eql rfl rfl rfl ?_
    refine XO.guardT rfl rfl (decide_eq_false (by omega)) rfl ?_
    refine XO.move rfl rfl ?_
    refine XO.guardC rfl rfl rfl rfl (fun g33 => ?_) (fun g33 => ?_)
    · have g33p := of_decide_eq_false g33
      refine XO.move rfl rfl ?_
      refine XO.guardT rfl rfl (g33) rfl ?_
      refine XO.eql rfl rfl rfl ?_
      refine XO.guardT rfl rfl (decide_eq_false (by omega)) rfl ?_
      refine XO.pickF rfl (g33) rfl rfl ?_
      refine XO.guardT rfl rfl (decide_eq_false (by omega)) rfl ?_
      refine XO.neqB rfl rfl Try.underlying4 rfl ?_
      refine XO.pickF rfl (decide_eq_false (by omega)) rfl rfl ?_
      refine XO.nil ?_
      refine XC.seq2 ?_
      refine XC.condF rfl (by simp [prod_zero, *]) ?_
      refine XC.skip ?_
      refine XC.seq2 ?_
      refine XC.seq ?_
      refine XC.region ?_
      refine XO.move rfl rfl ?_
      refine XO.callV rfl (inv_fn _ _) rfl ?_
      refine XO.move rfl rfl ?_
      refine XO.extract rfl rfl rfl ?_
      refine XO.extract rfl rfl rfl ?_
      refine XO.assign rfl rfl ?_
      refine XO.assign rfl rfl ?_
      refine XO.nil ?_
      refine XC.seq2 ?_
      refine XC.seq ?_
      refine XC.seq ?_
      refine XC.region ?_
      refine XO.move rfl rfl ?_
      refine XO.eql rfl rfl rfl ?_
      refine XO.nil ?_
      refine XC.seq2 ?_
      refine XC.cond rfl (fun c4_36 => ?_) (fun c4_36 => ?_)
      · refine XC.seq ?_
        refine XC.region ?_
        refine XO.move rfl rfl ?_
        refine XO.eql rfl rfl rfl ?_
        refine XO.move rfl rfl ?_
        refine XO.guardT rfl rfl (by first | contradiction | (simp [invE, *]; done)) rfl ?_
        refine XO.move rfl rfl ?_
        refine XO.guardT rfl rfl (by first | contradiction | (simp [invE, *]; done)) rfl ?_
        refine XO.eql rfl rfl rfl ?_
        refine XO.pickT rfl (by first | contradiction | (simp [invE, *]; done)) rfl rfl ?_
        refine XO.assign rfl rfl ?_
        refine XO.nil ?_
        refine XC.seq2 ?_
        refine XC.ret ?_
        refine seqX_ret ?_
        refine ⟨rfl, _, [], rfl, (by repeat (first | exact List.Sublist.refl _ | apply List.Sublist.cons)), RetR.mk ?_⟩
        first | rfl | exact congrArg Value.bool (by first | contradiction | (simp [inv0_mul, *]; done) | (simp [inv0, *]; done))
      · refine XC.skip ?_
        refine XC.seq2 ?_
        refine XC.seq ?_
        refine XC.region ?_
        refine XO.move rfl rfl ?_
        refine XO.eql rfl rfl rfl ?_
        refine XO.move rfl rfl ?_
        refine XO.guardT rfl rfl (by first | contradiction | (simp [invE, *]; done)) rfl ?_
        refine XO.move rfl rfl ?_
        refine XO.guardT rfl rfl (by first | contradiction | (simp [invE, *]; done)) rfl ?_
        refine XO.callV rfl (in_fn _ _) rfl ?_
        refine XO.pickT rfl (by first | contradiction | (simp [invE, *]; done)) rfl rfl ?_
        refine XO.move rfl rfl ?_
        refine XO.guardT rfl rfl (by have := inv0_rng a; simp [this]) rfl ?_
        refine XO.move rfl rfl ?_
        refine XO.guardT rfl rfl (by have := inv0_rng a; simp [this]) rfl ?_
        refine XO.move rfl rfl ?_
        refine XO.guardT rfl rfl (by have := inv0_rng a; simp [this]) rfl ?_
        refine XO.callV rfl (mul_fn _ _ _) rfl ?_
        refine XO.guardT rfl rfl (by have := inv0_rng a; simp [this]) rfl ?_
        refine XO.eql rfl rfl rfl ?_
        refine XO.pickT rfl (by have := inv0_rng a; simp [this]) rfl rfl ?_
        refine XO.assign rfl rfl ?_
        refine XO.nil ?_
        refine XC.seq2 ?_
        refine XC.ret ?_
        refine ⟨rfl, _, [], rfl, (by repeat (first | exact List.Sublist.refl _ | apply List.Sublist.cons)), RetR.mk ?_⟩
        first | rfl | exact congrArg Value.bool (by first | contradiction | (simp [inv0_mul, *]; done) | (simp [inv0, *]; done))
    · have g33p := of_decide_eq_true g33
      refine XO.guardF rfl rfl (g33) rfl rfl ?_
      refine XO.guardT rfl rfl (decide_eq_false (by omega)) rfl ?_
      refine XO.pickT rfl (g33) rfl rfl ?_
      refine XO.guardT rfl rfl (decide_eq_false (by omega)) rfl ?_
      refine XO.neqB rfl rfl Try.underlying4 rfl ?_
      refine XO.pickF rfl (decide_eq_false (by omega)) rfl rfl ?_
      refine XO.nil ?_
      refine XC.seq2 ?_
      refine XC.condF rfl (by simp [prod_zero, *]) ?_
      refine XC.skip ?_
      refine XC.seq2 ?_
      refine XC.seq ?_
      refine XC.region ?_
      refine XO.move rfl rfl ?_
      refine XO.callV rfl (inv_fn _ _) rfl ?_
      refine XO.move rfl rfl ?_
      refine XO.extract rfl rfl rfl ?_
      refine XO.extract rfl rfl rfl ?_
      refine XO.assign rfl rfl ?_
      refine XO.assign rfl rfl ?_
      refine XO.nil ?_
      refine XC.seq2 ?_
      refine XC.seq ?_
      refine XC.seq ?_
      refine XC.region ?_
      refine XO.move rfl rfl ?_
      refine XO.eql rfl rfl rfl ?_
      refine XO.nil ?_
      refine XC.seq2 ?_
      refine XC.cond rfl (fun c4_41 => ?_) (fun c4_41 => ?_)
      · refine XC.seq ?_
        refine XC.region ?_
        refine XO.move rfl rfl ?_
        refine XO.eql rfl rfl rfl ?_
        refine XO.move rfl rfl ?_
        refine XO.guardT rfl rfl (by first | contradiction | (simp [invE, *]; done)) rfl ?_
        refine XO.move rfl rfl ?_
        refine XO.guardT rfl rfl (by first | contradiction | (simp [invE, *]; done)) rfl ?_
        refine XO.eql rfl rfl rfl ?_
        refine XO.pickT rfl (by first | contradiction | (simp [invE, *]; done)) rfl rfl ?_
        refine XO.assign rfl rfl ?_
        refine XO.nil ?_
        refine XC.seq2 ?_
        refine XC.ret ?_
        refine seqX_ret ?_
        refine ⟨rfl, _, [], rfl, (by repeat (first | exact List.Sublist.refl _ | apply List.Sublist.cons)), RetR.mk ?_⟩
        first | rfl | exact congrArg Value.bool (by first | contradiction | (simp [inv0_mul, *]; done) | (simp [inv0, *]; done))
      · refine XC.skip ?_
        refine XC.seq2 ?_
        refine XC.seq ?_
        refine XC.region ?_
        refine XO.move rfl rfl ?_
        refine XO.eql rfl rfl rfl ?_
        refine XO.move rfl rfl ?_
        refine XO.guardT rfl rfl (by first | contradiction | (simp [invE, *]; done)) rfl ?_
        refine XO.move rfl rfl ?_
        refine XO.guardT rfl rfl (by first | contradiction | (simp [invE, *]; done)) rfl ?_
        refine XO.callV rfl (in_fn _ _) rfl ?_
        refine XO.pickT rfl (by first | contradiction | (simp [invE, *]; done)) rfl rfl ?_
        refine XO.move rfl rfl ?_
        refine XO.guardT rfl rfl (by have := inv0_rng a; simp [this]) rfl ?_
        refine XO.move rfl rfl ?_
        refine XO.guardT rfl rfl (by have := inv0_rng a; simp [this]) rfl ?_
        refine XO.move rfl rfl ?_
        refine XO.guardT rfl rfl (by have := inv0_rng a; simp [this]) rfl ?_
        refine XO.callV rfl (mul_fn _ _ _) rfl ?_
        refine XO.guardT rfl rfl (by have := inv0_rng a; simp [this]) rfl ?_
        refine XO.eql rfl rfl rfl ?_
        refine XO.pickT rfl (by have := inv0_rng a; simp [this]) rfl rfl ?_
        refine XO.assign rfl rfl ?_
        refine XO.nil ?_
        refine XC.seq2 ?_
        refine XC.ret ?_
        refine ⟨rfl, _, [], rfl, (by repeat (first | exact List.Sublist.refl _ | apply List.Sublist.cons)), RetR.mk ?_⟩
        first | rfl | exact congrArg Value.bool (by first | contradiction | (simp [inv0_mul, *]; done) | (simp [inv0, *]; done))
  · have g11p := of_decide_eq_false g11
    refine XO.guardF rfl rfl (g11) rfl rfl ?_
    refine XO.guardT rfl rfl (decide_eq_false (by omega)) rfl ?_
    refine XO.pickF rfl (g11) rfl rfl ?_
    refine XO.pickF rfl (decide_eq_false (by omega)) rfl rfl ?_
    refine XO.nil ?_
    refine XC.seq2 ?_
    refine XC.condF rfl (rfl) ?_
    refine XC.skip ?_
    refine XC.seq2 ?_
    refine XC.seq ?_
    refine XC.seq ?_
    refine XC.region ?_
    refine XO.move rfl rfl ?_
    refine XO.move rfl rfl ?_
    refine XO.callV rfl (add_fn _ _ _) rfl ?_
    refine XO.move rfl rfl ?_
    refine XO.move rfl rfl ?_
    refine XO.callV rfl (add_fn _ _ _) rfl ?_
    refine XO.neq rfl rfl rfl ?_
    refine XO.move rfl rfl ?_
    refine XO.guardT rfl rfl (decide_eq_false (by omega)) rfl ?_
    refine XO.move rfl rfl ?_
    refine XO.guardT rfl rfl (decide_eq_false (by omega)) rfl ?_
    refine XO.move rfl rfl ?_
    refine XO.guardT rfl rfl (decide_eq_false (by omega)) rfl ?_
    refine XO.callV rfl (mul_fn _ _ _) rfl ?_
    refine XO.guardT rfl rfl (decide_eq_false (by omega)) rfl ?_
    refine XO.move rfl rfl ?_
    refine XO.guardT rfl rfl (decide_eq_false (by omega)) rfl ?_
    refine XO.move rfl rfl ?_
    refine XO.guardT rfl rfl (decide_eq_false (by omega)) rfl ?_
    refine XO.callV rfl (mul_fn _ _ _) rfl ?_
    refine XO.guardT rfl rfl (decide_eq_false (by omega)) rfl ?_
    refine XO.neq rfl rfl rfl ?_
    refine XO.pickF rfl (decide_eq_false (by omega)) rfl rfl ?_
    refine XO.move rfl rfl ?_
    refine XO.guardT rfl rfl (decide_eq_false (fun h => h (mul_c _ _))) rfl ?_
    refine XO.move rfl rfl ?_
    refine XO.guardT rfl rfl (decide_eq_false (fun h => h (mul_c _ _))) rfl ?_
    refine XO.move rfl rfl ?_
    refine XO.guardT rfl rfl (decide_eq_false (fun h => h (mul_c _ _))) rfl ?_
    refine XO.callV rfl (add_fn _ _ _) rfl ?_
    refine XO.guardT rfl rfl (decide_eq_false (fun h => h (mul_c _ _))) rfl ?_
    refine XO.move rfl rfl ?_
    refine XO.guardT rfl rfl (decide_eq_false (fun h => h (mul_c _ _))) rfl ?_
    refine XO.callV rfl (add_fn _ _ _) rfl ?_
    refine XO.guardT rfl rfl (decide_eq_false (fun h => h (mul_c _ _))) rfl ?_
    refine XO.move rfl rfl ?_
    refine XO.guardT rfl rfl (decide_eq_false (fun h => h (mul_c _ _))) rfl ?_
    refine XO.move rfl rfl ?_
    refine XO.guardT rfl rfl (decide_eq_false (fun h => h (mul_c _ _))) rfl ?_
    refine XO.move rfl rfl ?_
    refine XO.guardT rfl rfl (decide_eq_false (fun h => h (mul_c _ _))) rfl ?_
    refine XO.callV rfl (add_fn _ _ _) rfl ?_
    refine XO.guardT rfl rfl (decide_eq_false (fun h => h (mul_c _ _))) rfl ?_
    refine XO.callV rfl (add_fn _ _ _) rfl ?_
    refine XO.guardT rfl rfl (decide_eq_false (fun h => h (mul_c _ _))) rfl ?_
    refine XO.neq rfl rfl rfl ?_
    refine XO.pickF rfl (decide_eq_false (fun h => h (mul_c _ _))) rfl rfl ?_
    refine XO.move rfl rfl ?_
    refine XO.guardT rfl rfl (decide_eq_false (by omega)) rfl ?_
    refine XO.move rfl rfl ?_
    refine XO.guardT rfl rfl (decide_eq_false (by omega)) rfl ?_
    refine XO.move rfl rfl ?_
    refine XO.guardT rfl rfl (decide_eq_false (by omega)) rfl ?_
    refine XO.callV rfl (mul_fn _ _ _) rfl ?_
    refine XO.guardT rfl rfl (decide_eq_false (by omega)) rfl ?_
    refine XO.move rfl rfl ?_
    refine XO.guardT rfl rfl (decide_eq_false (by omega)) rfl ?_
    refine XO.callV rfl (mul_fn _ _ _) rfl ?_
    refine XO.guardT rfl rfl (decide_eq_false (by omega)) rfl ?_
    refine XO.move rfl rfl ?_
    refine XO.guardT rfl rfl (decide_eq_false (by omega)) rfl ?_
    refine XO.move rfl rfl ?_
    refine XO.guardT rfl rfl (decide_eq_false (by omega)) rfl ?_
    refine XO.move rfl rfl ?_
    refine XO.guardT rfl rfl (decide_eq_false (by omega)) rfl ?_
    refine XO.callV rfl (mul_fn _ _ _) rfl ?_
    refine XO.guardT rfl rfl (decide_eq_false (by omega)) rfl ?_
    refine XO.callV rfl (mul_fn _ _ _) rfl ?_
    refine XO.guardT rfl rfl (decide_eq_false (by omega)) rfl ?_
    refine XO.neq rfl rfl rfl ?_
    refine XO.pickF rfl (decide_eq_false (by omega)) rfl rfl ?_
    refine XO.nil ?_
    refine XC.seq2 ?_
    refine XC.condF rfl (decide_eq_false (fun h => h (mul_a _ _ _))) ?_
    refine XC.skip ?_
    refine XC.seq2 ?_
    refine XC.seq ?_
    refine XC.seq ?_
    refine XC.region ?_
    refine XO.move rfl rfl ?_
    refine XO.move rfl rfl ?_
    refine XO.move rfl rfl ?_
    refine XO.callV rfl (add_fn _ _ _) rfl ?_
    refine XO.callV rfl (mul_fn _ _ _) rfl ?_
    refine XO.move rfl rfl ?_
    refine XO.move rfl rfl ?_
    refine XO.callV rfl (mul_fn _ _ _) rfl ?_
    refine XO.move rfl rfl ?_
    refine XO.move rfl rfl ?_
    refine XO.callV rfl (mul_fn _ _ _) rfl ?_
    refine XO.callV rfl (add_fn _ _ _) rfl ?_
    refine XO.neq rfl rfl rfl ?_
    refine XO.move rfl rfl ?_
    refine XO.guardT rfl rfl (decide_eq_false (fun h => h (mul_d _ _ _))) rfl ?_
    refine XO.move rfl rfl ?_
    refine XO.guardT rfl rfl (decide_eq_false (fun h => h (mul_d _ _ _))) rfl ?_
    refine XO.callV rfl (add_fn _ _ _) rfl ?_
    refine XO.guardT rfl rfl (decide_eq_false (fun h => h (mul_d _ _ _))) rfl ?_
    refine XO.move rfl rfl ?_
    refine XO.guardT rfl rfl (decide_eq_false (fun h => h (mul_d _ _ _))) rfl ?_
    refine XO.neq rfl rfl rfl ?_
    refine XO.pickF rfl (decide_eq_false (fun h => h (mul_d _ _ _))) rfl rfl ?_
    refine XO.move rfl rfl ?_
    refine XO.guardT rfl rfl (decide_eq_false (by omega)) rfl ?_
    refine XO.move rfl rfl ?_
    refine XO.guardT rfl rfl (decide_eq_false (by omega)) rfl ?_
    refine XO.callV rfl (mul_fn _ _ _) rfl ?_
    refine XO.guardT rfl rfl (decide_eq_false (by omega)) rfl ?_
    refine XO.move rfl rfl ?_
    refine XO.guardT rfl rfl (decide_eq_false (by omega)) rfl ?_
    refine XO.neq rfl rfl rfl ?_
    refine XO.pickF rfl (decide_eq_false (by omega)) rfl rfl ?_
    refine XO.move rfl rfl ?_
    refine XO.guardT rfl rfl (decide_eq_false (fun h => h (by simp))) rfl ?_
    refine XO.move rfl rfl ?_
    refine XO.guardT rfl rfl (decide_eq_false (fun h => h (by simp))) rfl ?_
    refine XO.move rfl rfl ?_
    refine XO.guardT rfl rfl (decide_eq_false (fun h => h (by simp))) rfl ?_
    refine XO.neg rfl (wrap_i64 (by omega) (by omega)) rfl ?_
    refine XO.guardT rfl rfl (decide_eq_false (fun h => h (by simp))) rfl ?_
    refine XO.callV rfl (add_fn _ _ _) rfl ?_
    refine XO.guardT rfl rfl (decide_eq_false (fun h => h (by simp))) rfl ?_
    refine XO.neq rfl rfl rfl ?_
    refine XO.pickF rfl (decide_eq_false (fun h => h (by simp))) rfl rfl ?_
    refine XO.move rfl rfl ?_
    refine XO.guardT rfl rfl (decide_eq_false (by omega)) rfl ?_
    refine XO.move rfl rfl ?_
    refine XO.guardT rfl rfl (decide_eq_false (by omega)) rfl ?_
    refine XO.move rfl rfl ?_
    refine XO.guardT rfl rfl (decide_eq_false (by omega)) rfl ?_
    refine XO.callV rfl (mul_fn _ _ _) rfl ?_
    refine XO.guardT rfl rfl (decide_eq_false (by omega)) rfl ?_
    refine XO.eql rfl rfl rfl ?_
    refine XO.guardT rfl rfl (decide_eq_false (by omega)) rfl ?_
    refine XO.move rfl rfl ?_
    refine XO.guardT rfl rfl (decide_eq_false (by omega)) rfl ?_
    refine XO.eql rfl rfl rfl ?_
    refine XO.guardT rfl rfl (decide_eq_false (by omega)) rfl ?_
    refine XO.move rfl rfl ?_
    refine XO.guardC rfl rfl rfl rfl (fun g65 => ?_) (fun g65 => ?_)
    · have g65p := of_decide_eq_false g65
      refine XO.move rfl rfl ?_
      refine XO.guardT rfl rfl (g65) rfl ?_
      refine XO.eql rfl rfl rfl ?_
      refine XO.guardT rfl rfl (decide_eq_false (by omega)) rfl ?_
      refine XO.pickF rfl (g65) rfl rfl ?_
      refine XO.guardT rfl rfl (decide_eq_false (by omega)) rfl ?_
      refine XO.neqB rfl rfl Try.underlying4 rfl ?_
      refine XO.pickF rfl (decide_eq_false (by omega)) rfl rfl ?_
      refine XO.nil ?_
      refine XC.seq2 ?_
      refine XC.condF rfl (by simp [prod_zero, *]) ?_
      refine XC.skip ?_
      refine XC.seq2 ?_
      refine XC.seq ?_
      refine XC.region ?_
      refine XO.move rfl rfl ?_
      refine XO.callV rfl (inv_fn _ _) rfl ?_
      refine XO.move rfl rfl ?_
      refine XO.extract rfl rfl rfl ?_
      refine XO.extract rfl rfl rfl ?_
      refine XO.assign rfl rfl ?_
      refine XO.assign rfl rfl ?_
      refine XO.nil ?_
      refine XC.seq2 ?_
      refine XC.seq ?_
      refine XC.seq ?_
      refine XC.region ?_
      refine XO.move rfl rfl ?_
      refine XO.eql rfl rfl rfl ?_
      refine XO.nil ?_
      refine XC.seq2 ?_
      refine XC.cond rfl (fun c4_68 => ?_) (fun c4_68 => ?_)
      · refine XC.seq ?_
        refine XC.region ?_
        refine XO.move rfl rfl ?_
        refine XO.eql rfl rfl rfl ?_
        refine XO.move rfl rfl ?_
        refine XO.guardT rfl rfl (by first | contradiction | (simp [invE, *]; done)) rfl ?_
        refine XO.move rfl rfl ?_
        refine XO.guardT rfl rfl (by first | contradiction | (simp [invE, *]; done)) rfl ?_
        refine XO.eql rfl rfl rfl ?_
        refine XO.pickT rfl (by first | contradiction | (simp [invE, *]; done)) rfl rfl ?_
        refine XO.assign rfl rfl ?_
        refine XO.nil ?_
        refine XC.seq2 ?_
        refine XC.ret ?_
        refine seqX_ret ?_
        refine ⟨rfl, _, [], rfl, (by repeat (first | exact List.Sublist.refl _ | apply List.Sublist.cons)), RetR.mk ?_⟩
        first | rfl | exact congrArg Value.bool (by first | contradiction | (simp [inv0_mul, *]; done) | (simp [inv0, *]; done))
      · refine XC.skip ?_
        refine XC.seq2 ?_
        refine XC.seq ?_
        refine XC.region ?_
        refine XO.move rfl rfl ?_
        refine XO.eql rfl rfl rfl ?_
        refine XO.move rfl rfl ?_
        refine XO.guardT rfl rfl (by first | contradiction | (simp [invE, *]; done)) rfl ?_
        refine XO.move rfl rfl ?_
        refine XO.guardT rfl rfl (by first | contradiction | (simp [invE, *]; done)) rfl ?_
        refine XO.callV rfl (in_fn _ _) rfl ?_
        refine XO.pickT rfl (by first | contradiction | (simp [invE, *]; done)) rfl rfl ?_
        refine XO.move rfl rfl ?_
        refine XO.guardT rfl rfl (by have := inv0_rng a; simp [this]) rfl ?_
        refine XO.move rfl rfl ?_
        refine XO.guardT rfl rfl (by have := inv0_rng a; simp [this]) rfl ?_
        refine XO.move rfl rfl ?_
        refine XO.guardT rfl rfl (by have := inv0_rng a; simp [this]) rfl ?_
        refine XO.callV rfl (mul_fn _ _ _) rfl ?_
        refine XO.guardT rfl rfl (by have := inv0_rng a; simp [this]) rfl ?_
        refine XO.eql rfl rfl rfl ?_
        refine XO.pickT rfl (by have := inv0_rng a; simp [this]) rfl rfl ?_
        refine XO.assign rfl rfl ?_
        refine XO.nil ?_
        refine XC.seq2 ?_
        refine XC.ret ?_
        refine ⟨rfl, _, [], rfl, (by repeat (first | exact List.Sublist.refl _ | apply List.Sublist.cons)), RetR.mk ?_⟩
        first | rfl | exact congrArg Value.bool (by first | contradiction | (simp [inv0_mul, *]; done) | (simp [inv0, *]; done))
    · have g65p := of_decide_eq_true g65
      refine XO.guardF rfl rfl (g65) rfl rfl ?_
      refine XO.guardT rfl rfl (decide_eq_false (by omega)) rfl ?_
      refine XO.pickT rfl (g65) rfl rfl ?_
      refine XO.guardT rfl rfl (decide_eq_false (by omega)) rfl ?_
      refine XO.neqB rfl rfl Try.underlying4 rfl ?_
      refine XO.pickF rfl (decide_eq_false (by omega)) rfl rfl ?_
      refine XO.nil ?_
      refine XC.seq2 ?_
      refine XC.condF rfl (by simp [prod_zero, *]) ?_
      refine XC.skip ?_
      refine XC.seq2 ?_
      refine XC.seq ?_
      refine XC.region ?_
      refine XO.move rfl rfl ?_
      refine XO.callV rfl (inv_fn _ _) rfl ?_
      refine XO.move rfl rfl ?_
      refine XO.extract rfl rfl rfl ?_
      refine XO.extract rfl rfl rfl ?_
      refine XO.assign rfl rfl ?_
      refine XO.assign rfl rfl ?_
      refine XO.nil ?_
      refine XC.seq2 ?_
      refine XC.seq ?_
      refine XC.seq ?_
      refine XC.region ?_
      refine XO.move rfl rfl ?_
      refine XO.eql rfl rfl rfl ?_
      refine XO.nil ?_
      refine XC.seq2 ?_
      refine XC.cond rfl (fun c4_73 => ?_) (fun c4_73 => ?_)
      · refine XC.seq ?_
        refine XC.region ?_
        refine XO.move rfl rfl ?_
        refine XO.eql rfl rfl rfl ?_
        refine XO.move rfl rfl ?_
        refine XO.guardT rfl rfl (by first | contradiction | (simp [invE, *]; done)) rfl ?_
        refine XO.move rfl rfl ?_
        refine XO.guardT rfl rfl (by first | contradiction | (simp [invE, *]; done)) rfl ?_
        refine XO.eql rfl rfl rfl ?_
        refine XO.pickT rfl (by first | contradiction | (simp [invE, *]; done)) rfl rfl ?_
        refine XO.assign rfl rfl ?_
        refine XO.nil ?_
        refine XC.seq2 ?_
        refine XC.ret ?_
        refine seqX_ret ?_
        refine ⟨rfl, _, [], rfl, (by repeat (first | exact List.Sublist.refl _ | apply List.Sublist.cons)), RetR.mk ?_⟩
        first | rfl | exact congrArg Value.bool (by first | contradiction | (simp [inv0_mul, *]; done) | (simp [inv0, *]; done))
      · refine XC.skip ?_
        refine XC.seq2 ?_
        refine XC.seq ?_
        refine XC.region ?_
        refine XO.move rfl rfl ?_
        refine XO.eql rfl rfl rfl ?_
        refine XO.move rfl rfl ?_
        refine XO.guardT rfl rfl (by first | contradiction | (simp [invE, *]; done)) rfl ?_
        refine XO.move rfl rfl ?_
        refine XO.guardT rfl rfl (by first | contradiction | (simp [invE, *]; done)) rfl ?_
        refine XO.callV rfl (in_fn _ _) rfl ?_
        refine XO.pickT rfl (by first | contradiction | (simp [invE, *]; done)) rfl rfl ?_
        refine XO.move rfl rfl ?_
        refine XO.guardT rfl rfl (by have := inv0_rng a; simp [this]) rfl ?_
        refine XO.move rfl rfl ?_
        refine XO.guardT rfl rfl (by have := inv0_rng a; simp [this]) rfl ?_
        refine XO.move rfl rfl ?_
        refine XO.guardT rfl rfl (by have := inv0_rng a; simp [this]) rfl ?_
        refine XO.callV rfl (mul_fn _ _ _) rfl ?_
        refine XO.guardT rfl rfl (by have := inv0_rng a; simp [this]) rfl ?_
        refine XO.eql rfl rfl rfl ?_
        refine XO.pickT rfl (by have := inv0_rng a; simp [this]) rfl rfl ?_
        refine XO.assign rfl rfl ?_
        refine XO.nil ?_
        refine XC.seq2 ?_
        refine XC.ret ?_
        refine ⟨rfl, _, [], rfl, (by repeat (first | exact List.Sublist.refl _ | apply List.Sublist.cons)), RetR.mk ?_⟩
        first | rfl | exact congrArg Value.bool (by first | contradiction | (simp [inv0_mul, *]; done) | (simp [inv0, *]; done))

namespace fieldLaws
open Go.ChangeShapes Go.WideShapes Go.ChangeAt Go.RowKit
open Go.ChangeMaps (open_string shut_string)
theorem own : ownKnob Try.prog.godebug = none := by kernel_rfl
theorem laidOut : laidOutB Try.prog = true := by kernel_rfl
set_option maxRecDepth 100000 in
theorem lifted (os : Os) (started : os.Started) (H : Type) (enc : TypeId × Value → H) :
    ReturnsInHanded {} Try.checked os 5 .any (Rows.fieldLawsSpec.pre6 enc Try.prog Try.f5 Rows.fieldLawsRow.domain false) (Rows.fieldLawsSpec.post enc Try.prog Try.f5 false true false false) := by
  refine returnsInHanded_of_change (C := Try.checked) own started (by kernel_rfl) Try.func5
    (ChangeSpec.witness6 (enc := enc) (C := Try.checked) false ⟨#[], #[.int .i64 0, .int .i64 0, .int .i64 0], []⟩ 8 (by kernel_rfl) (by kernel_rfl) (by kernel_rfl) (by kernel_rfl)) ?_
  intro W base args ds gs before hval0 hW hcnd _
  have hval : ∀ (j : Nat) t v, Try.f5.params[j]? = some t → args[j]? = some v → Value.okWide Try.prog W .any base t v := hval0
  have hW' := hW
  obtain ⟨p, q, hA0, hV, rfl, hfz, hnd⟩ := hW
  have hA : DataW.TrodAll enc Try.prog W 0 (fun _ => true) true Try.f5.params.toList args.toList ds p := hA0
  rw [Try.params5] at hA hval
  obtain ⟨v0, vs0, d0, ds0, p0, q0, hargs, rfl, rfl, h0, r0⟩ := trodAll_cons hA
  obtain ⟨v1, vs1, d1, ds1, p1, q1, rfl, rfl, rfl, h1, r1⟩ := trodAll_cons r0
  obtain ⟨v2, vs2, d2, ds2, p2, q2, rfl, rfl, rfl, h2, r2⟩ := trodAll_cons r1
  obtain ⟨rfl, rfl, rfl⟩ := trodAll_nil r2
  obtain rfl : args = #[v0, v1, v2] := by cases args; simp_all
  obtain ⟨rfl, rfl⟩ := trodVars_none hV
  obtain ⟨a0, rfl, rfl, rfl, w0⟩ := open_int Try.underlying3 (hval 0 3 v0 rfl rfl) h0
  obtain ⟨a1, rfl, rfl, rfl, w1⟩ := open_int Try.underlying3 (hval 1 3 v1 rfl rfl) h1
  obtain ⟨a2, rfl, rfl, rfl, w2⟩ := open_int Try.underlying3 (hval 2 3 v2 rfl rfl) h2
  clear hA0 hval0
  refine (fieldLaws_fn a0 a1 a2 (hpOf W) (wf_i64 w0).2).below.mono fun e W' ⟨he, bel⟩ => ?_
  subst he
  exact ⟨_, rfl, _, _, _, [], _, [], hW', trodAll_mk1 (shut_bool Try.underlying4 _), (trodAll_cons_mk (shut_int Try.underlying3 w0) (trodAll_cons_mk (shut_int Try.underlying3 w1) (trodAll_cons_mk (shut_int Try.underlying3 w2) trodAll_mk0))), rfl, bel.frame _, fun h => by cases h⟩
theorem over : Rows.fieldLawsRow.holds Try.pinned (OpenSpec.ofChange Rows.fieldLawsSpec) :=
  OpenClaim.holds_of_wide 5 Try.f5 rfl rfl rfl rfl rfl rfl rfl ⟨rfl, rfl, rfl, rfl, rfl⟩ rfl rfl rfl rfl rfl (by kernel_rfl) Try.func5 (by kernel_rfl)
    (of_decide_eq_true (by kernel_rfl)) (by unfold Func.isWrapper; first | (rw [if_pos (by decide +kernel)]; kernel_rfl) | (rw [if_neg (by decide +kernel)]; exact ⟨rfl, rfl⟩))
    (fun os started H enc _ => lifted os started H enc)
/-- The given statement. -/
theorem proved : Rows.FieldLawsSaid := over
#print axioms proved
end fieldLaws
end Go.Proofs.Ytdiknopliedddaa
