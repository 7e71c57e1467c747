/- The law GraphResistSpec: it returns true, whatever the input, and what it was handed reads as before. No condition. -/
import Derived.Test.YtbfleiickdobnaaRcO
import Derived.Test.YtbfleiickdobnaaXLn
import Derived.Test.YtbfleiickdobnaaRows
import Derived.WalkKit
import Derived.ProofKit
import Derived.OpenShut
import Derived.ShutString
import Derived.ChangeOld
import Derived.Below
set_option autoImplicit false
set_option linter.unusedVariables false
set_option linter.unusedSimpArgs false
namespace Go.Proofs.Ytbfleiickdobnaa
open Go.XL



theorem graphResistSpec_fn (a : Option Addr) (c : Nat) (m : Tb) (H : Hp) (hs : SlR tbR H a c m) (hl : m.length < 9223372036854775808) (t : Int) (ht : -9223372036854775808 ≤ t ∧ t ≤ 9223372036854775807) : FnC Try.prog 4 #[.slice a m.length c, .int .i64 t] H [] (RetR (fun v _ _ => v = .bool true)) := by
  refine FnC.intro (args := [.slice a m.length c, .int .i64 t]) Try.func4 rfl rfl Try.ntmps4 rfl rfl rfl fun G rest => ?_
  refine XC.seq ?_
  refine XC.region ?_
  refine XO.assign rfl rfl ?_
  refine XO.nil ?_
  refine XC.seq2 ?_
  refine XC.seq ?_
  refine XC.seq ?_
  refine XC.region ?_
  refine XO.callV rfl (sane37 _) rfl ?_
  refine XO.notB rfl rfl ?_
  refine XO.nil ?_
  refine XC.seq2 ?_
  refine XC.condF rfl (rfl) ?_
  refine XC.skip ?_
  refine XC.seq2 ?_
  refine XC.seq ?_
  refine XC.seq ?_
  refine XC.region ?_
  refine XO.move rfl rfl ?_
  refine XO.callV rfl (few_fn _ _ m _ hs hl) rfl ?_
  refine XO.not rfl rfl ?_
  refine XO.nil ?_
  refine XC.seq2 ?_
  refine XC.cond rfl (fun c1_3 => ?_) (fun c1_3 => ?_)
  · refine XC.seq ?_
    refine XC.region ?_
    refine XO.assign rfl rfl ?_
    refine XO.nil ?_
    refine XC.seq2 ?_
    refine XC.ret ?_
    refine seqX_ret ?_
    refine ⟨rfl, _, [], rfl, (by repeat (first | exact List.Sublist.refl _ | apply List.Sublist.cons)), RetR.mk ?_⟩
    first | rfl | exact congrArg Value.bool (decide_eq_true rfl)
  · refine XC.skip ?_
    refine XC.seq2 ?_
    refine XC.seq ?_
    refine XC.region ?_
    refine XO.move rfl rfl ?_
    refine XO.move rfl rfl ?_
    have hcall19 := resist_u _ _ m _ hs (by omega) t ht
    refine XO.callH rfl hcall19 rfl ?_
    rintro _ HT19 hleT19 ⟨a19, c19, h19, rfl⟩
    replace hs := hs.mono hleT19
    refine XO.move rfl rfl ?_
    refine XO.extract rfl rfl rfl ?_
    refine XO.extract rfl rfl rfl ?_
    refine XO.extract rfl rfl rfl ?_
    refine XO.assign rfl rfl ?_
    refine XO.assign rfl rfl ?_
    refine XO.assign rfl rfl ?_
    refine XO.nil ?_
    refine XC.seq2 ?_
    refine XC.seq ?_
    refine XC.region ?_
    refine XO.move rfl rfl ?_
    refine XO.move rfl rfl ?_
    have hcall26 := rresist_u _ _ m _ hs (by omega) t ht
    refine XO.callH rfl hcall26 rfl ?_
    rintro _ HT26 hleT26 ⟨a26, c26, h26, rfl⟩
    replace hs := hs.mono hleT26
    replace h19 := h19.mono hleT26
    refine XO.move rfl rfl ?_
    refine XO.extract rfl rfl rfl ?_
    refine XO.extract rfl rfl rfl ?_
    refine XO.extract rfl rfl rfl ?_
    refine XO.assign rfl rfl ?_
    refine XO.assign rfl rfl ?_
    refine XO.assign rfl rfl ?_
    refine XO.nil ?_
    refine XC.seq2 ?_
    refine XC.seq ?_
    refine XC.region ?_
    have l1 := reL_len (m := m) (t := t)
    refine XO.move rfl rfl ?_
    refine XO.move rfl rfl ?_
    refine XO.callV rfl (sameInts_fn _ _ _ _ (reL m t) (reL m t) _ h19 h26 (by omega)) rfl ?_
    refine XO.move rfl rfl ?_
    refine XO.guardT rfl rfl (decide_eq_true rfl) rfl ?_
    refine XO.move rfl rfl ?_
    refine XO.guardT rfl rfl (decide_eq_true rfl) rfl ?_
    refine XO.move rfl rfl ?_
    refine XO.guardT rfl rfl (decide_eq_true rfl) rfl ?_
    refine XO.eqlB rfl rfl Try.underlying4 rfl ?_
    refine XO.pickT rfl (decide_eq_true rfl) rfl rfl ?_
    refine XO.move rfl rfl ?_
    refine XO.guardT rfl rfl (by simp) rfl ?_
    refine XO.move rfl rfl ?_
    refine XO.guardT rfl rfl (by simp) rfl ?_
    refine XO.move rfl rfl ?_
    refine XO.guardT rfl rfl (by simp) rfl ?_
    refine XO.eql rfl rfl rfl ?_
    refine XO.pickT rfl (by simp) rfl rfl ?_
    refine XO.assign rfl rfl ?_
    refine XO.nil ?_
    refine XC.seq2 ?_
    refine XC.ret ?_
    refine ⟨rfl, _, [], rfl, (by repeat (first | exact List.Sublist.refl _ | apply List.Sublist.cons)), RetR.mk ?_⟩
    first | rfl | exact congrArg Value.bool (decide_eq_true rfl)

namespace graphResistSpec
open Go.ChangeShapes Go.WideShapes Go.ChangeAt Go.RowKit
open Go.ChangeMaps (open_string shut_string)
theorem own : ownKnob Try.prog.godebug = none := by kernel_rfl
theorem laidOut : laidOutB Try.prog = true := by kernel_rfl
set_option maxRecDepth 100000 in
theorem lifted (os : Os) (started : os.Started) (H : Type) (enc : TypeId × Value → H) :
    ReturnsInHanded {} Try.checked os 4 .any (Rows.graphResistSpecSpec.pre6 enc Try.prog Try.f4 Rows.graphResistSpecRow.domain false) (Rows.graphResistSpecSpec.post enc Try.prog Try.f4 false true false false) := by
  refine returnsInHanded_of_change (C := Try.checked) own started (by kernel_rfl) Try.func4
    (ChangeSpec.witness6 (enc := enc) (C := Try.checked) false ⟨#[], #[.slice none 0 0, .int .i64 0], []⟩ 8 (by kernel_rfl) (by kernel_rfl) (by kernel_rfl) (by kernel_rfl)) ?_
  intro W base args ds gs before hval0 hW hcnd _
  have hval : ∀ (j : Nat) t v, Try.f4.params[j]? = some t → args[j]? = some v → Value.okWide Try.prog W .any base t v := hval0
  have hW' := hW
  obtain ⟨p, q, hA0, hV, rfl, hfz, hnd⟩ := hW
  have hA : DataW.TrodAll enc Try.prog W 0 (fun _ => true) true Try.f4.params.toList args.toList ds p := hA0
  rw [Try.params4] at hA hval
  obtain ⟨v0, vs0, d0, ds0, p0, q0, hargs, rfl, rfl, h0, r0⟩ := trodAll_cons hA
  obtain ⟨v1, vs1, d1, ds1, p1, q1, rfl, rfl, rfl, h1, r1⟩ := trodAll_cons r0
  obtain ⟨rfl, rfl, rfl⟩ := trodAll_nil r1
  obtain rfl : args = #[v0, v1] := by cases args; simp_all
  obtain ⟨rfl, rfl⟩ := trodVars_none hV
  obtain ⟨a0, len0, cap0, rfl⟩ := okWide_slice Try.underlying22 (hval 0 22 v0 rfl rfl)
  have k0 := h0
  have lt0 : ∀ x ∈ p0, x.block < W.heap.size := by obtain ⟨m, hm⟩ := k0; exact DataW.trod_lt m _ _ _ hm
  obtain ⟨fuel0, hf0⟩ := h0
  obtain ⟨l0, ⟨aa0, cc0, hcs0, hs0⟩, hw0⟩ := opens_tb enc W 0 _ _ fuel0 _ _ hf0
  simp [Value.cells] at hcs0
  obtain ⟨rfl, rfl, rfl⟩ := hcs0
  obtain ⟨a1, rfl, rfl, rfl, w1⟩ := open_int Try.underlying3 (hval 1 3 v1 rfl rfl) h1
  clear hA0 hval0
  refine (graphResistSpec_fn _ _ l0 (hpOf W) hs0 (by have := hw0.1; unfold maxLen at this; omega) a1 (wf_i64 w1)).below.mono fun e W' ⟨he, bel⟩ => ?_
  subst he
  exact ⟨_, rfl, _, _, _, [], _, [], hW', trodAll_mk1 (shut_bool Try.underlying4 _), (trodAll_cons_mk (Below.trod laidOut (by kernel_rfl) (of_decide_eq_true (by kernel_rfl)) k0 bel lt0) (trodAll_cons_mk (shut_int Try.underlying3 w1) trodAll_mk0)), rfl, bel.frame _, fun h => by cases h⟩
theorem over : Rows.graphResistSpecRow.holds Try.pinned (OpenSpec.ofChange Rows.graphResistSpecSpec) :=
  OpenClaim.holds_of_wide 4 Try.f4 rfl rfl rfl rfl rfl rfl rfl ⟨rfl, rfl, rfl, rfl, rfl⟩ rfl rfl rfl rfl rfl (by kernel_rfl) Try.func4 (by kernel_rfl)
    (of_decide_eq_true (by kernel_rfl)) (by unfold Func.isWrapper; first | (rw [if_pos (by decide +kernel)]; kernel_rfl) | (rw [if_neg (by decide +kernel)]; exact ⟨rfl, rfl⟩))
    (fun os started H enc _ => lifted os started H enc)
/-- The given statement. -/
theorem proved : Rows.GraphResistSpecSaid := over
#print axioms proved
end graphResistSpec
end Go.Proofs.Ytbfleiickdobnaa
