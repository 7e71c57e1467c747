/- The law BoxesSpec: it returns true, whatever the input, and what it was handed reads as before. No condition. -/
import Derived.Test.YtamnnngilmgbgaaB10
import Derived.Test.YtamnnngilmgbgaaRows
import Derived.WalkKit
import Derived.ProofKit
import Derived.OpenShut
import Derived.ShutString
import Derived.ChangeOld
import Derived.Below
set_option maxRecDepth 100000
set_option autoImplicit false
set_option linter.unusedVariables false
set_option linter.unusedSimpArgs false
namespace Go.Proofs.Ytamnnngilmgbgaa
open Go.XL



theorem boxesSpec_fn (l : Box) (s : Card) (a b : Option Addr) (c d : Nat) (H : Hp) (hs : SlR (slR cardR) H a c l) (ht : SlR (intR .i64) H b d s.C) (hD : s.D.length = 32) (hl : l.length < 9223372036854775808) (hlx : ∀ x ∈ l, x.length < 9223372036854775808) (hlc : ∀ x ∈ l, ∀ s ∈ x, s.C.length < 9223372036854775808) (hc : s.C.length < 9223372036854775808) (hDl : D32 l) : FnC Try.prog 3 #[.slice a l.length c, .agg ⟨cardV s.R s.E s.J s.C.length s.D b d⟩] H [] (RetR (fun v _ _ => v = .bool true)) := by
 refine FnC.intro (args := [.slice a l.length c, .agg ⟨cardV s.R s.E s.J s.C.length s.D b d⟩]) Try.func3 rfl rfl Try.ntmps3 rfl rfl rfl fun G rest => ?_
 refine XC.seq ?_; refine XC.region ?_; refine XO.box rfl rfl rfl (fun b3 => ?_); refine XO.assign rfl rfl ?_; refine XO.nil ?_; refine XC.seq2 ?_; refine XC.seq ?_; refine XC.seq ?_; refine XC.region ?_; refine XO.callV rfl (saneB _) rfl ?_; refine XO.notB rfl rfl ?_; refine XO.nil ?_; refine XC.seq2 ?_; refine XC.condF rfl (rfl) ?_; refine XC.skip ?_; refine XC.seq2 ?_; refine XC.seq ?_; refine XC.seq ?_; refine XC.region ?_; refine XO.move rfl rfl ?_; refine XO.callK rfl (few2_b _ _ l _ hs hl hlx) rfl ?_; rintro _ ⟨bf, rfl, hbf⟩; refine XO.notB rfl rfl ?_; refine XO.move rfl rfl ?_; refine XO.guardC rfl rfl rfl rfl (fun g3 => ?_) (fun g3 => ?_)
 ·have g3p := g3
  refine XO.loadO 0 rfl rfl ty_27 rfl rfl rfl ?_; refine XO.guardT rfl rfl (g3) rfl ?_; refine XO.buildSlice rfl Try.underlying31 ty_27 ze_27 rfl rfl rfl (fun b16 => ?_); refine XO.publish 0 rfl rfl rfl (fun HP16 oP16 hleP16 hbP16 hoP16 => ?_); replace hs := hs.mono hleP16; replace ht := ht.mono hleP16
  have hsl16 := SlR.lit (ρ := cardR) (l := [s]) hbP16 hoP16 (RowsR.one1 ⟨_, _, rfl, ht, hD⟩)
  refine XO.guardT rfl rfl (g3) rfl ?_; refine XO.callK rfl (fewcards_fn _ _ [s] _ hsl16 (by simp)) rfl ?_; rintro _ ⟨bg, rfl, hbg⟩; refine XO.guardT rfl rfl (g3) rfl ?_; refine XO.notB rfl rfl ?_; refine XO.pickF rfl (g3) rfl rfl ?_; refine XO.nil ?_; refine XC.seq2 ?_; refine XC.condB rfl (fun c1_5 => ?_) (fun c1_5 => ?_)
  ·refine XC.seq ?_; refine XC.region ?_; refine XO.assign rfl rfl ?_; refine XO.nil ?_; refine XC.seq2 ?_; refine XC.ret ?_; refine seqX_ret ?_; refine ⟨rfl, _, [], rfl, (by repeat (first | exact List.Sublist.refl _ | apply List.Sublist.cons)), RetR.mk ?_⟩
   first | rfl | exact congrArg Value.bool (decide_eq_true rfl)
  ·refine XC.skip ?_; refine XC.seq2 ?_; refine XC.seq ?_; refine XC.region ?_; refine XO.move rfl rfl ?_; refine XO.loadO 0 rfl rfl ty_27 rfl rfl rfl ?_; refine XO.callH rfl (pput_b l s _ _ _ _ _ hs ht hD hl hlx hlc hc) rfl ?_; rintro _ HN23 hleN23 hU23; obtain ⟨aN23, cN23, rfl, hN23⟩ := hU23; replace hs := hs.mono hleN23; replace ht := ht.mono hleN23; replace hsl16 := hsl16.mono hleN23; refine XO.move rfl rfl ?_; refine XO.extract rfl rfl rfl ?_; refine XO.extract rfl rfl rfl ?_; refine XO.assign rfl rfl ?_; refine XO.assign rfl rfl ?_; refine XO.nil ?_; refine XC.seq2 ?_; refine XC.seq ?_; refine XC.region ?_; refine XO.move rfl rfl ?_; refine XO.loadO 0 rfl rfl ty_27 rfl rfl rfl ?_; refine XO.callH rfl (rput_b l s _ _ _ _ _ hs ht hD hl hlx hlc hc) rfl ?_; rintro _ HN29 hleN29 hU29
   rw [← (pput_r hDl hD).1, ← (pput_r hDl hD).2] at hU29
   obtain ⟨aN29, cN29, rfl, hN29⟩ := hU29; replace hs := hs.mono hleN29; replace ht := ht.mono hleN29; replace hsl16 := hsl16.mono hleN29; replace hN23 := hN23.mono hleN29; refine XO.move rfl rfl ?_; refine XO.extract rfl rfl rfl ?_; refine XO.extract rfl rfl rfl ?_; refine XO.assign rfl rfl ?_; refine XO.assign rfl rfl ?_; refine XO.nil ?_; refine XC.seq2 ?_; refine XC.seq ?_; refine XC.region ?_; refine XO.move rfl rfl ?_; refine XO.callV rfl (check_b _ _ l _ hs hl hlx hlc) rfl ?_; refine XO.move rfl rfl ?_; refine XO.callV rfl (rcheck_b _ _ l _ hs hl hlx hlc) rfl ?_; refine XO.eql rfl rfl rfl ?_; refine XO.move rfl rfl ?_; refine XO.guardT rfl rfl (decide_eq_true rfl) rfl ?_; refine XO.move rfl rfl ?_; refine XO.guardT rfl rfl (decide_eq_true rfl) rfl ?_; refine XO.move rfl rfl ?_; refine XO.guardT rfl rfl (decide_eq_true rfl) rfl ?_; refine XO.callV rfl (sameB_fn _ _ _ _ (pputX l s) (pputX l s) _ hN23 hN29 (small_of (pput_good l s)).1 (small_of (pput_good l s)).2.1 (small_of (pput_good l s)).2.2 (small_of (pput_good l s)).2.2) rfl ?_; refine XO.pickT rfl (decide_eq_true rfl) rfl rfl ?_; refine XO.move rfl rfl ?_; refine XO.guardT rfl rfl (decide_eq_true rfl) rfl ?_; refine XO.move rfl rfl ?_; refine XO.guardT rfl rfl (decide_eq_true rfl) rfl ?_; refine XO.move rfl rfl ?_; refine XO.guardT rfl rfl (decide_eq_true rfl) rfl ?_; refine XO.eql rfl rfl rfl ?_; refine XO.pickT rfl (decide_eq_true rfl) rfl rfl ?_; refine XO.assign rfl rfl ?_; refine XO.nil ?_; refine XC.seq2 ?_; refine XC.ret ?_; refine ⟨rfl, _, [], rfl, (by repeat (first | exact List.Sublist.refl _ | apply List.Sublist.cons)), RetR.mk ?_⟩
   first | rfl | exact congrArg Value.bool (decide_eq_true rfl)
 ·have g3p := g3
  refine XO.guardF rfl rfl (g3) rfl rfl ?_; refine XO.guardF rfl rfl (g3) rfl rfl ?_; refine XO.guardF rfl rfl (g3) rfl rfl ?_; refine XO.pickT rfl (g3) rfl rfl ?_; refine XO.nil ?_; refine XC.seq2 ?_; refine XC.condT rfl (rfl) ?_; refine XC.seq ?_; refine XC.region ?_; refine XO.assign rfl rfl ?_; refine XO.nil ?_; refine XC.seq2 ?_; refine XC.ret ?_; refine seqX_ret ?_; refine ⟨rfl, _, [], rfl, (by repeat (first | exact List.Sublist.refl _ | apply List.Sublist.cons)), RetR.mk ?_⟩
  first | rfl | exact congrArg Value.bool (decide_eq_true rfl)

namespace boxesSpec
open Go.ChangeShapes Go.WideShapes Go.ChangeAt Go.RowKit
open Go.ChangeMaps (open_string shut_string)
theorem own : ownKnob Try.prog.godebug = none := by kernel_rfl
theorem laidOut : laidOutB Try.prog = true := by kernel_rfl
set_option maxRecDepth 100000 in
theorem lifted (os : Os) (started : os.Started) (H : Type) (enc : TypeId × Value → H) :
  ReturnsInHanded {} Try.checked os 3 .any (Rows.boxesSpecSpec.pre6 enc Try.prog Try.f3 Rows.boxesSpecRow.domain false) (Rows.boxesSpecSpec.post enc Try.prog Try.f3 false true false false) := by
 refine returnsInHanded_of_change (C := Try.checked) own started (by kernel_rfl) Try.func3
  (ChangeSpec.witness6 (enc := enc) (C := Try.checked) false ⟨#[], #[.slice none 0 0, .agg ⟨[.int .i64 0, .int .i64 0, .int .i64 0, .slice none 0 0, .int .u8 0, .int .u8 0, .int .u8 0, .int .u8 0, .int .u8 0, .int .u8 0, .int .u8 0, .int .u8 0, .int .u8 0, .int .u8 0, .int .u8 0, .int .u8 0, .int .u8 0, .int .u8 0, .int .u8 0, .int .u8 0, .int .u8 0, .int .u8 0, .int .u8 0, .int .u8 0, .int .u8 0, .int .u8 0, .int .u8 0, .int .u8 0, .int .u8 0, .int .u8 0, .int .u8 0, .int .u8 0, .int .u8 0, .int .u8 0, .int .u8 0, .int .u8 0]⟩], []⟩ 8 (by kernel_rfl) (by kernel_rfl) (by kernel_rfl) (by kernel_rfl)) ?_
 intro W base args ds gs before hval0 hW hcnd _
 have hval : ∀ (j : Nat) t v, Try.f3.params[j]? = some t → args[j]? = some v → Value.okWide Try.prog W .any base t v := hval0
 have hW' := hW
 obtain ⟨p, q, hA0, hV, rfl, hfz, hnd⟩ := hW
 have hA : DataW.TrodAll enc Try.prog W 0 (fun _ => true) true Try.f3.params.toList args.toList ds p := hA0
 rw [Try.params3] at hA hval
 obtain ⟨v0, vs0, d0, ds0, p0, q0, hargs, rfl, rfl, h0, r0⟩ := trodAll_cons hA; obtain ⟨v1, vs1, d1, ds1, p1, q1, rfl, rfl, rfl, h1, r1⟩ := trodAll_cons r0; obtain ⟨rfl, rfl, rfl⟩ := trodAll_nil r1
 obtain rfl : args = #[v0, v1] := by cases args; simp_all
 obtain ⟨rfl, rfl⟩ := trodVars_none hV; obtain ⟨a0, len0, cap0, rfl⟩ := okWide_slice Try.underlying22 (hval 0 22 v0 rfl rfl)
 have k0 := h0
 have lt0 : ∀ x ∈ p0, x.block < W.heap.size := by obtain ⟨m, hm⟩ := k0; exact DataW.trod_lt m _ _ _ hm
 obtain ⟨fuel0, hf0⟩ := h0; obtain ⟨l0, ⟨aa0, cc0, hcs0, hs0⟩, hw0⟩ := opens_box enc W 0 _ _ fuel0 _ _ hf0
 simp [Value.cells] at hcs0
 obtain ⟨rfl, rfl, rfl⟩ := hcs0
 have k1 := h1
 have lt1 : ∀ x ∈ p1, x.block < W.heap.size := by obtain ⟨m, hm⟩ := k1; exact DataW.trod_lt m _ _ _ hm
 obtain ⟨fuel1, hf1⟩ := h1; obtain ⟨l1, cl1, rfl, hR1, hw1⟩ := open_agg opens_card Try.underlying27 (hval 1 27 v1 rfl rfl) hf1; obtain ⟨xaC, xcC, rfl, xC, xD⟩ := hR1
 clear hA0 hval0
 refine (boxesSpec_fn l0 l1 _ _ _ _ (hpOf W) hs0 xC xD (mlt hw0.1) (fun x hx => mlt (hw0.2 x hx).1) (fun x hx s hs => mlt ((hw0.2 x hx).2 s hs).1) (mlt hw1.1) (fun x hx s hs => ((hw0.2 x hx).2 s hs).2)).below.mono fun e W' ⟨he, bel⟩ => ?_
 subst he
 exact ⟨_, rfl, _, _, _, [], _, [], hW', trodAll_mk1 (shut_bool Try.underlying4 _), (trodAll_cons_mk (Below.trod laidOut (by kernel_rfl) (of_decide_eq_true (by kernel_rfl)) k0 bel lt0) (trodAll_cons_mk (Below.trod laidOut (by kernel_rfl) (of_decide_eq_true (by kernel_rfl)) k1 bel lt1) trodAll_mk0)), rfl, bel.frame _, fun h => by cases h⟩
theorem over : Rows.boxesSpecRow.holds Try.pinned (OpenSpec.ofChange Rows.boxesSpecSpec) :=
 OpenClaim.holds_of_wide 3 Try.f3 rfl rfl rfl rfl rfl rfl rfl ⟨rfl, rfl, rfl, rfl, rfl⟩ rfl rfl rfl rfl rfl (by kernel_rfl) Try.func3 (by kernel_rfl)
  (of_decide_eq_true (by kernel_rfl)) (by unfold Func.isWrapper; first | (rw [if_pos (by decide +kernel)]; kernel_rfl) | (rw [if_neg (by decide +kernel)]; exact ⟨rfl, rfl⟩))
  (fun os started H enc _ => lifted os started H enc)
/-- The given statement. -/
theorem proved : Rows.BoxesSpecSaid := over
#print axioms proved
end boxesSpec
end Go.Proofs.Ytamnnngilmgbgaa
