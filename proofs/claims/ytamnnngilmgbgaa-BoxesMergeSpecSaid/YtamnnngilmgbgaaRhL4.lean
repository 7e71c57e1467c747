/- The law BoxesMergeSpec: it returns true, whatever the input, and what it was handed reads as before. No condition. -/
import Derived.Test.YtamnnngilmgbgaaB10
import Derived.Test.YtamnnngilmgbgaaRows
import Derived.WalkKit
import Derived.ProofKit
import Derived.OpenShut
import Derived.ShutString
import Derived.ChangeOld
import Derived.Below
set_option maxRecDepth 100000
set_option autoImplicit false
set_option linter.unusedVariables false
set_option linter.unusedSimpArgs false
namespace Go.Proofs.Ytamnnngilmgbgaa
open Go.XL



set_option maxRecDepth 100000 in
set_option maxHeartbeats 1600000 in
theorem boxesMergeSpec_fn (l m : Box) (a b : Option Addr) (c d : Nat) (H : Hp) (hs : SlR (slR cardR) H a c l) (ht : SlR (slR cardR) H b d m) (hl : l.length < 9223372036854775808) (hm : m.length < 9223372036854775808) (hlx : ∀ x ∈ l, x.length < 9223372036854775808) (hlc : ∀ x ∈ l, ∀ s ∈ x, s.C.length < 9223372036854775808) (hmx : ∀ x ∈ m, x.length < 9223372036854775808) (hmc : ∀ x ∈ m, ∀ s ∈ x, s.C.length < 9223372036854775808) (x y z : Int) (hDl : D32 l) (hDm : D32 m) : FnC Try.prog 4 #[.slice a l.length c, .slice b m.length d, .int .i64 x, .int .i64 y, .int .i64 z] H [] (RetR (fun v _ _ => v = .bool true)) := by
 refine FnC.intro (args := [.slice a l.length c, .slice b m.length d, .int .i64 x, .int .i64 y, .int .i64 z]) Try.func4 rfl rfl Try.ntmps4 rfl rfl rfl fun G rest => ?_
 refine XC.seq ?_; refine XC.region ?_; refine XO.assign rfl rfl ?_; refine XO.nil ?_; refine XC.seq2 ?_; refine XC.seq ?_; refine XC.seq ?_; refine XC.region ?_; refine XO.callV rfl (saneB _) rfl ?_; refine XO.notB rfl rfl ?_; refine XO.nil ?_; refine XC.seq2 ?_; refine XC.condF rfl (rfl) ?_; refine XC.skip ?_; refine XC.seq2 ?_; refine XC.seq ?_; refine XC.seq ?_; refine XC.region ?_; refine XO.move rfl rfl ?_; refine XO.callK rfl (few2_b _ _ l _ hs hl hlx) rfl ?_; rintro _ ⟨bf, rfl, hbf⟩; refine XO.notB rfl rfl ?_; refine XO.move rfl rfl ?_; refine XO.guardC rfl rfl rfl rfl (fun g3 => ?_) (fun g3 => ?_)
 ·have g3p := g3
  refine XO.move rfl rfl ?_; refine XO.guardT rfl rfl (g3) rfl ?_; refine XO.callK rfl (few2_b _ _ m _ ht hm hmx) rfl ?_; rintro _ ⟨bf2, rfl, hbf2⟩; refine XO.guardT rfl rfl (g3) rfl ?_; refine XO.notB rfl rfl ?_; refine XO.pickF rfl (g3) rfl rfl ?_; refine XO.nil ?_; refine XC.seq2 ?_; refine XC.condB rfl (fun c1_5 => ?_) (fun c1_5 => ?_)
  ·refine XC.seq ?_; refine XC.region ?_; refine XO.assign rfl rfl ?_; refine XO.nil ?_; refine XC.seq2 ?_; refine XC.ret ?_; refine seqX_ret ?_; refine ⟨rfl, _, [], rfl, (by repeat (first | exact List.Sublist.refl _ | apply List.Sublist.cons)), RetR.mk ?_⟩
   first | rfl | exact congrArg Value.bool (decide_eq_true rfl)
  ·refine XC.skip ?_; refine XC.seq2 ?_; refine XC.seq ?_; refine XC.region ?_; refine XO.move rfl rfl ?_; refine XO.move rfl rfl ?_; refine XO.callH rfl (pmrg_b l m _ _ _ _ _ hs ht hl hm hlx hlc hmx hmc) rfl ?_; rintro _ HN34 hleN34 hU34; obtain ⟨aN34, cN34, rfl, hN34⟩ := hU34; replace hs := hs.mono hleN34; replace ht := ht.mono hleN34; refine XO.move rfl rfl ?_; refine XO.extract rfl rfl rfl ?_; refine XO.extract rfl rfl rfl ?_; refine XO.assign rfl rfl ?_; refine XO.assign rfl rfl ?_; refine XO.nil ?_; refine XC.seq2 ?_; refine XC.seq ?_; refine XC.region ?_; refine XO.move rfl rfl ?_; refine XO.move rfl rfl ?_; refine XO.callH rfl (rmrg_b l m _ _ _ _ _ hs ht hl hm hlx hlc hmx hmc) rfl ?_; rintro _ HN40 hleN40 hU40
   rw [← (pmrg_r hDl hDm).1, ← (pmrg_r hDl hDm).2] at hU40
   obtain ⟨aN40, cN40, rfl, hN40⟩ := hU40; replace hs := hs.mono hleN40; replace ht := ht.mono hleN40; replace hN34 := hN34.mono hleN40; refine XO.move rfl rfl ?_; refine XO.extract rfl rfl rfl ?_; refine XO.extract rfl rfl rfl ?_; refine XO.assign rfl rfl ?_; refine XO.assign rfl rfl ?_; refine XO.nil ?_; refine XC.seq2 ?_; refine XC.seq ?_; refine XC.region ?_; refine XO.move rfl rfl ?_; refine XO.move rfl rfl ?_; refine XO.move rfl rfl ?_; refine XO.move rfl rfl ?_; refine XO.callH rfl (find_b _ _ l _ hs hl hlx hlc x y z) rfl ?_; rintro _ HN48 hleN48 hU48; obtain ⟨aN48, cN48, rfl, hN48, hE48⟩ := hU48; replace hs := hs.mono hleN48; replace ht := ht.mono hleN48; replace hN34 := hN34.mono hleN48; replace hN40 := hN40.mono hleN48; refine XO.move rfl rfl ?_; refine XO.extract rfl rfl rfl ?_; refine XO.extract rfl rfl rfl ?_; refine XO.extract rfl rfl rfl ?_; refine XO.alloc ze_27 rfl (fun b15 => ?_); refine XO.storeO 0 rfl rfl rfl rfl ty_27 rfl rfl rfl rfl rfl ?_; refine XO.assign rfl rfl ?_; refine XO.assign rfl rfl ?_; refine XO.nil ?_; refine XC.seq2 ?_; refine XC.seq ?_; refine XC.region ?_; refine XO.move rfl rfl ?_; refine XO.move rfl rfl ?_; refine XO.move rfl rfl ?_; refine XO.move rfl rfl ?_; refine XO.callH rfl (rfind_b _ _ l _ hs hl hlx hlc x y z) rfl ?_; rintro _ HN57 hleN57 hU57; obtain ⟨aN57, cN57, rfl, hN57, hE57⟩ := hU57; replace hs := hs.mono hleN57; replace ht := ht.mono hleN57; replace hN34 := hN34.mono hleN57; replace hN40 := hN40.mono hleN57; replace hN48 := hN48.mono hleN57; refine XO.move rfl rfl ?_; refine XO.extract rfl rfl rfl ?_; refine XO.extract rfl rfl rfl ?_; refine XO.extract rfl rfl rfl ?_; refine XO.alloc ze_27 rfl (fun b18 => ?_); refine XO.storeO 0 rfl rfl rfl rfl ty_27 rfl rfl rfl rfl rfl ?_; refine XO.assign rfl rfl ?_; refine XO.assign rfl rfl ?_; refine XO.nil ?_; refine XC.seq2 ?_; refine XC.seq ?_; refine XC.region ?_; refine XO.move rfl rfl ?_; refine XO.move rfl rfl ?_; refine XO.callV rfl (sameB_fn _ _ _ _ (pmrgX l m) (pmrgX l m) _ hN34 hN40 (small_of (pmrg_good l m)).1 (small_of (pmrg_good l m)).2.1 (small_of (pmrg_good l m)).2.2 (small_of (pmrg_good l m)).2.2) rfl ?_; refine XO.move rfl rfl ?_; refine XO.guardT rfl rfl (decide_eq_true rfl) rfl ?_; refine XO.move rfl rfl ?_; refine XO.guardT rfl rfl (decide_eq_true rfl) rfl ?_; refine XO.move rfl rfl ?_; refine XO.guardT rfl rfl (decide_eq_true rfl) rfl ?_; refine XO.eql rfl rfl rfl ?_; refine XO.pickT rfl (decide_eq_true rfl) rfl rfl ?_; refine XO.move rfl rfl ?_; refine XO.guardT rfl rfl (decide_eq_true rfl) rfl ?_; refine XO.loadO 1 rfl rfl ty_27 rfl rfl rfl ?_; refine XO.guardT rfl rfl (decide_eq_true rfl) rfl ?_; refine XO.loadO 0 rfl rfl ty_27 rfl rfl rfl ?_; refine XO.guardT rfl rfl (decide_eq_true rfl) rfl ?_; refine XO.callV rfl (sameC_fn ((fndR l [x, y, z]).getD c0) ((fndR l [x, y, z]).getD c0) _ _ _ _ _ hN48 hN57 hE48 hE57 (fnd_small hlc) (fnd_small hlc)) rfl ?_; refine XO.pickT rfl (decide_eq_true rfl) rfl rfl ?_; refine XO.move rfl rfl ?_; refine XO.guardT rfl rfl (decide_eq_true rfl) rfl ?_; refine XO.move rfl rfl ?_; refine XO.guardT rfl rfl (decide_eq_true rfl) rfl ?_; refine XO.move rfl rfl ?_; refine XO.guardT rfl rfl (decide_eq_true rfl) rfl ?_; refine XO.eqlB rfl rfl Try.underlying4 rfl ?_; refine XO.pickT rfl (decide_eq_true rfl) rfl rfl ?_; refine XO.move rfl rfl ?_; refine XO.guardT rfl rfl (beq_self_eq_true _) rfl ?_; refine XO.move rfl rfl ?_; refine XO.guardT rfl rfl (beq_self_eq_true _) rfl ?_; refine XO.move rfl rfl ?_; refine XO.guardT rfl rfl (beq_self_eq_true _) rfl ?_; refine XO.eql rfl rfl rfl ?_; refine XO.pickT rfl (beq_self_eq_true _) rfl rfl ?_; refine XO.assign rfl rfl ?_; refine XO.nil ?_; refine XC.seq2 ?_; refine XC.ret ?_; refine ⟨rfl, _, [], rfl, (by repeat (first | exact List.Sublist.refl _ | apply List.Sublist.cons)), RetR.mk ?_⟩
   first | rfl | exact congrArg Value.bool (decide_eq_true rfl)
 ·have g3p := g3
  refine XO.guardF rfl rfl (g3) rfl rfl ?_; refine XO.guardF rfl rfl (g3) rfl rfl ?_; refine XO.pickT rfl (g3) rfl rfl ?_; refine XO.nil ?_; refine XC.seq2 ?_; refine XC.condT rfl (rfl) ?_; refine XC.seq ?_; refine XC.region ?_; refine XO.assign rfl rfl ?_; refine XO.nil ?_; refine XC.seq2 ?_; refine XC.ret ?_; refine seqX_ret ?_; refine ⟨rfl, _, [], rfl, (by repeat (first | exact List.Sublist.refl _ | apply List.Sublist.cons)), RetR.mk ?_⟩
  first | rfl | exact congrArg Value.bool (decide_eq_true rfl)

namespace boxesMergeSpec
open Go.ChangeShapes Go.WideShapes Go.ChangeAt Go.RowKit
open Go.ChangeMaps (open_string shut_string)
theorem own : ownKnob Try.prog.godebug = none := by kernel_rfl
theorem laidOut : laidOutB Try.prog = true := by kernel_rfl
set_option maxRecDepth 100000 in
theorem lifted (os : Os) (started : os.Started) (H : Type) (enc : TypeId × Value → H) :
  ReturnsInHanded {} Try.checked os 4 .any (Rows.boxesMergeSpecSpec.pre6 enc Try.prog Try.f4 Rows.boxesMergeSpecRow.domain false) (Rows.boxesMergeSpecSpec.post enc Try.prog Try.f4 false true false false) := by
 refine returnsInHanded_of_change (C := Try.checked) own started (by kernel_rfl) Try.func4
  (ChangeSpec.witness6 (enc := enc) (C := Try.checked) false ⟨#[], #[.slice none 0 0, .slice none 0 0, .int .i64 0, .int .i64 0, .int .i64 0], []⟩ 8 (by kernel_rfl) (by kernel_rfl) (by kernel_rfl) (by kernel_rfl)) ?_
 intro W base args ds gs before hval0 hW hcnd _
 have hval : ∀ (j : Nat) t v, Try.f4.params[j]? = some t → args[j]? = some v → Value.okWide Try.prog W .any base t v := hval0
 have hW' := hW
 obtain ⟨p, q, hA0, hV, rfl, hfz, hnd⟩ := hW
 have hA : DataW.TrodAll enc Try.prog W 0 (fun _ => true) true Try.f4.params.toList args.toList ds p := hA0
 rw [Try.params4] at hA hval
 obtain ⟨v0, vs0, d0, ds0, p0, q0, hargs, rfl, rfl, h0, r0⟩ := trodAll_cons hA; obtain ⟨v1, vs1, d1, ds1, p1, q1, rfl, rfl, rfl, h1, r1⟩ := trodAll_cons r0; obtain ⟨v2, vs2, d2, ds2, p2, q2, rfl, rfl, rfl, h2, r2⟩ := trodAll_cons r1; obtain ⟨v3, vs3, d3, ds3, p3, q3, rfl, rfl, rfl, h3, r3⟩ := trodAll_cons r2; obtain ⟨v4, vs4, d4, ds4, p4, q4, rfl, rfl, rfl, h4, r4⟩ := trodAll_cons r3; obtain ⟨rfl, rfl, rfl⟩ := trodAll_nil r4
 obtain rfl : args = #[v0, v1, v2, v3, v4] := by cases args; simp_all
 obtain ⟨rfl, rfl⟩ := trodVars_none hV; obtain ⟨a0, len0, cap0, rfl⟩ := okWide_slice Try.underlying22 (hval 0 22 v0 rfl rfl)
 have k0 := h0
 have lt0 : ∀ x ∈ p0, x.block < W.heap.size := by obtain ⟨m, hm⟩ := k0; exact DataW.trod_lt m _ _ _ hm
 obtain ⟨fuel0, hf0⟩ := h0; obtain ⟨l0, ⟨aa0, cc0, hcs0, hs0⟩, hw0⟩ := opens_box enc W 0 _ _ fuel0 _ _ hf0
 simp [Value.cells] at hcs0
 obtain ⟨rfl, rfl, rfl⟩ := hcs0; obtain ⟨a1, len1, cap1, rfl⟩ := okWide_slice Try.underlying22 (hval 1 22 v1 rfl rfl)
 have k1 := h1
 have lt1 : ∀ x ∈ p1, x.block < W.heap.size := by obtain ⟨m, hm⟩ := k1; exact DataW.trod_lt m _ _ _ hm
 obtain ⟨fuel1, hf1⟩ := h1; obtain ⟨l1, ⟨aa1, cc1, hcs1, hs1⟩, hw1⟩ := opens_box enc W 0 _ _ fuel1 _ _ hf1
 simp [Value.cells] at hcs1
 obtain ⟨rfl, rfl, rfl⟩ := hcs1; obtain ⟨a2, rfl, rfl, rfl, w2⟩ := open_int Try.underlying3 (hval 2 3 v2 rfl rfl) h2; obtain ⟨a3, rfl, rfl, rfl, w3⟩ := open_int Try.underlying3 (hval 3 3 v3 rfl rfl) h3; obtain ⟨a4, rfl, rfl, rfl, w4⟩ := open_int Try.underlying3 (hval 4 3 v4 rfl rfl) h4
 clear hA0 hval0
 refine (boxesMergeSpec_fn l0 l1 _ _ _ _ (hpOf W) hs0 hs1 (mlt hw0.1) (mlt hw1.1) (fun x hx => mlt (hw0.2 x hx).1) (fun x hx s hs => mlt ((hw0.2 x hx).2 s hs).1) (fun x hx => mlt (hw1.2 x hx).1) (fun x hx s hs => mlt ((hw1.2 x hx).2 s hs).1) a2 a3 a4 (fun x hx s hs => ((hw0.2 x hx).2 s hs).2) (fun x hx s hs => ((hw1.2 x hx).2 s hs).2)).below.mono fun e W' ⟨he, bel⟩ => ?_
 subst he
 exact ⟨_, rfl, _, _, _, [], _, [], hW', trodAll_mk1 (shut_bool Try.underlying4 _), (trodAll_cons_mk (Below.trod laidOut (by kernel_rfl) (of_decide_eq_true (by kernel_rfl)) k0 bel lt0) (trodAll_cons_mk (Below.trod laidOut (by kernel_rfl) (of_decide_eq_true (by kernel_rfl)) k1 bel lt1) (trodAll_cons_mk (shut_int Try.underlying3 w2) (trodAll_cons_mk (shut_int Try.underlying3 w3) (trodAll_cons_mk (shut_int Try.underlying3 w4) trodAll_mk0))))), rfl, bel.frame _, fun h => by cases h⟩
theorem over : Rows.boxesMergeSpecRow.holds Try.pinned (OpenSpec.ofChange Rows.boxesMergeSpecSpec) :=
 OpenClaim.holds_of_wide 4 Try.f4 rfl rfl rfl rfl rfl rfl rfl ⟨rfl, rfl, rfl, rfl, rfl⟩ rfl rfl rfl rfl rfl (by kernel_rfl) Try.func4 (by kernel_rfl)
  (of_decide_eq_true (by kernel_rfl)) (by unfold Func.isWrapper; first | (rw [if_pos (by decide +kernel)]; kernel_rfl) | (rw [if_neg (by decide +kernel)]; exact ⟨rfl, rfl⟩))
  (fun os started H enc _ => lifted os started H enc)
/-- The given statement. -/
theorem proved : Rows.BoxesMergeSpecSaid := over
#print axioms proved
end boxesMergeSpec
end Go.Proofs.Ytamnnngilmgbgaa
