/- The law SharesSpec: it returns true, whatever the input, and what it was handed reads as before. No condition. -/
import Derived.Test.YtdiknopliedddaaRaO2
import Derived.Test.YtdiknopliedddaaRaY
import Derived.Test.YtdiknopliedddaaXLn
import Derived.Test.YtdiknopliedddaaRows
import Derived.WalkKit
import Derived.ProofKit
import Derived.OpenShut
import Derived.ShutString
import Derived.ChangeOld
import Derived.Below
set_option autoImplicit false
set_option linter.unusedVariables false
set_option linter.unusedSimpArgs false
namespace Go.Proofs.Ytdiknopliedddaa
open Go.XL



set_option maxRecDepth 100000 in
set_option maxHeartbeats 1600000 in
theorem sharesSpec_fn (s : Int) (a : Option Addr) (c : Nat) (l : List Int) (n : Int) (a0 : Option Addr) (c0 : Nat) (l0 : List Pt) (H : Hp) (hs : SlR (intR .i64) H a c l) (hs0 : SlR ptR H a0 c0 l0) : FnC Try.prog 9 #[.int .i64 s, .slice a l.length c, .int .i64 n, .slice a0 l0.length c0] H [] (RetR fun v _ _ => v = .bool true) := by
  refine FnC.intro (args := [.int .i64 s, .slice a l.length c, .int .i64 n, .slice a0 l0.length c0]) Try.func9 rfl rfl Try.ntmps9 rfl rfl rfl fun G rest => ?_
  refine XC.seq ?_
  refine XC.region ?_
  refine XO.assign rfl rfl ?_
  refine XO.nil ?_
  refine XC.seq2 ?_
  refine XC.seq ?_
  refine XC.seq ?_
  refine XC.region ?_
  refine XO.callV rfl (sane33 _) rfl ?_
  refine XO.notB rfl rfl ?_
  refine XO.nil ?_
  refine XC.seq2 ?_
  refine XC.condF rfl (rfl) ?_
  refine XC.skip ?_
  refine XC.seq2 ?_
  refine XC.seq ?_
  refine XC.seq ?_
  refine XC.region ?_
  refine XO.move rfl rfl ?_
  refine XO.lenS (ts := #[]) rfl Try.underlying29 rfl ?_
  refine XO.gtr rfl rfl rfl ?_
  refine XO.move rfl rfl ?_
  refine XO.guardC rfl rfl rfl rfl (fun g2 => ?_) (fun g2 => ?_)
  · have g2p := of_decide_eq_false g2
    refine XO.move rfl rfl ?_
    refine XO.guardT rfl rfl (g2) rfl ?_
    refine XO.lenS (ts := #[]) rfl Try.underlying42 rfl ?_
    refine XO.guardT rfl rfl (g2) rfl ?_
    refine XO.gtr rfl rfl rfl ?_
    refine XO.pickF rfl (g2) rfl rfl ?_
    refine XO.nil ?_
    refine XC.seq2 ?_
    refine XC.cond rfl (fun c1_3 => ?_) (fun c1_3 => ?_)
    · refine XC.seq ?_
      refine XC.region ?_
      refine XO.assign rfl rfl ?_
      refine XO.nil ?_
      refine XC.seq2 ?_
      refine XC.ret ?_
      refine seqX_ret ?_
      refine ⟨rfl, _, [], rfl, (by repeat (first | exact List.Sublist.refl _ | apply List.Sublist.cons)), RetR.mk ?_⟩
      first | rfl | exact congrArg Value.bool (decide_eq_true rfl)
    · refine XC.skip ?_
      refine XC.seq2 ?_
      refine XC.seq ?_
      refine XC.region ?_
      refine XO.move rfl rfl ?_
      refine XO.move rfl rfl ?_
      refine XO.move rfl rfl ?_
      refine XO.callH rfl (deal_fn _ _ _ _ _ _ hs) rfl ?_
      rintro _ HD31 hleD31 ⟨aD31, cD31, rfl, hsD31⟩
      replace hs := hs.mono hleD31
      replace hs0 := hs0.mono hleD31
      refine XO.move rfl rfl ?_
      refine XO.extract rfl rfl rfl ?_
      refine XO.extract rfl rfl rfl ?_
      refine XO.assign rfl rfl ?_
      refine XO.assign rfl rfl ?_
      refine XO.nil ?_
      refine XC.seq2 ?_
      refine XC.seq ?_
      refine XC.region ?_
      refine XO.move rfl rfl ?_
      refine XO.move rfl rfl ?_
      refine XO.move rfl rfl ?_
      refine XO.callH rfl (rdeal_fn _ _ _ _ _ _ hs) rfl ?_
      rintro _ HD38 hleD38 ⟨aD38, cD38, rfl, hsD38⟩
      replace hs := hs.mono hleD38
      replace hs0 := hs0.mono hleD38
      replace hsD31 := hsD31.mono hleD38
      refine XO.move rfl rfl ?_
      refine XO.extract rfl rfl rfl ?_
      refine XO.extract rfl rfl rfl ?_
      refine XO.assign rfl rfl ?_
      refine XO.assign rfl rfl ?_
      refine XO.nil ?_
      refine XC.seq2 ?_
      refine XC.seq ?_
      refine XC.region ?_
      refine XO.move rfl rfl ?_
      refine XO.callV rfl (recover_fn _ _ _ _ hs0 (by first | omega | (simp; omega))) rfl ?_
      refine XO.move rfl rfl ?_
      refine XO.extract rfl rfl rfl ?_
      refine XO.extract rfl rfl rfl ?_
      refine XO.assign rfl rfl ?_
      refine XO.assign rfl rfl ?_
      refine XO.nil ?_
      refine XC.seq2 ?_
      refine XC.seq ?_
      refine XC.region ?_
      refine XO.move rfl rfl ?_
      refine XO.callV rfl (rrecover_fn _ _ _ _ hs0 (by first | omega | (simp; omega))) rfl ?_
      refine XO.move rfl rfl ?_
      refine XO.extract rfl rfl rfl ?_
      refine XO.extract rfl rfl rfl ?_
      refine XO.assign rfl rfl ?_
      refine XO.assign rfl rfl ?_
      refine XO.nil ?_
      refine XC.seq2 ?_
      refine XC.seq ?_
      refine XC.region ?_
      refine XO.move rfl rfl ?_
      refine XO.move rfl rfl ?_
      refine XO.callK rfl (same_fn _ _ _ _ _ _ _ hsD31 hsD38 (by first | exact Nat.lt_of_le_of_lt (dealR_len _ _ _) (by decide) | (rw [‹dealR _ _ _ = _›, dealL_len]; omega) | decide +kernel)) rfl ?_
      rintro _ ⟨bS53, rfl, hS53⟩
      refine XO.move rfl rfl ?_
      refine XO.guardT rfl rfl (hS53.2 rfl) rfl ?_
      refine XO.move rfl rfl ?_
      refine XO.guardT rfl rfl (hS53.2 rfl) rfl ?_
      refine XO.move rfl rfl ?_
      refine XO.guardT rfl rfl (hS53.2 rfl) rfl ?_
      refine XO.eql rfl rfl rfl ?_
      refine XO.pickT rfl (hS53.2 rfl) rfl rfl ?_
      refine XO.move rfl rfl ?_
      refine XO.guardT rfl rfl (decide_eq_true rfl) rfl ?_
      refine XO.move rfl rfl ?_
      refine XO.guardT rfl rfl (decide_eq_true rfl) rfl ?_
      refine XO.move rfl rfl ?_
      refine XO.guardT rfl rfl (decide_eq_true rfl) rfl ?_
      refine XO.eql rfl rfl rfl ?_
      refine XO.pickT rfl (decide_eq_true rfl) rfl rfl ?_
      refine XO.move rfl rfl ?_
      refine XO.guardT rfl rfl (decide_eq_true rfl) rfl ?_
      refine XO.move rfl rfl ?_
      refine XO.guardT rfl rfl (decide_eq_true rfl) rfl ?_
      refine XO.move rfl rfl ?_
      refine XO.guardT rfl rfl (decide_eq_true rfl) rfl ?_
      refine XO.eql rfl rfl rfl ?_
      refine XO.pickT rfl (decide_eq_true rfl) rfl rfl ?_
      refine XO.assign rfl rfl ?_
      refine XO.nil ?_
      refine XC.seq2 ?_
      refine XC.ret ?_
      refine ⟨rfl, _, [], rfl, (by repeat (first | exact List.Sublist.refl _ | apply List.Sublist.cons)), RetR.mk ?_⟩
      first | rfl | exact congrArg Value.bool (decide_eq_true rfl)
  · have g2p := of_decide_eq_true g2
    refine XO.guardF rfl rfl (g2) rfl rfl ?_
    refine XO.guardF rfl rfl (g2) rfl rfl ?_
    refine XO.pickT rfl (g2) rfl rfl ?_
    refine XO.nil ?_
    refine XC.seq2 ?_
    refine XC.condT rfl (rfl) ?_
    refine XC.seq ?_
    refine XC.region ?_
    refine XO.assign rfl rfl ?_
    refine XO.nil ?_
    refine XC.seq2 ?_
    refine XC.ret ?_
    refine seqX_ret ?_
    refine ⟨rfl, _, [], rfl, (by repeat (first | exact List.Sublist.refl _ | apply List.Sublist.cons)), RetR.mk ?_⟩
    first | rfl | exact congrArg Value.bool (decide_eq_true rfl)

namespace sharesSpec
open Go.ChangeShapes Go.WideShapes Go.ChangeAt Go.RowKit
open Go.ChangeMaps (open_string shut_string)
theorem own : ownKnob Try.prog.godebug = none := by kernel_rfl
theorem laidOut : laidOutB Try.prog = true := by kernel_rfl
set_option maxRecDepth 100000 in
theorem lifted (os : Os) (started : os.Started) (H : Type) (enc : TypeId × Value → H) :
    ReturnsInHanded {} Try.checked os 9 .any (Rows.sharesSpecSpec.pre6 enc Try.prog Try.f9 Rows.sharesSpecRow.domain false) (Rows.sharesSpecSpec.post enc Try.prog Try.f9 false true false false) := by
  refine returnsInHanded_of_change (C := Try.checked) own started (by kernel_rfl) Try.func9
    (ChangeSpec.witness6 (enc := enc) (C := Try.checked) false ⟨#[], #[.int .i64 0, .slice none 0 0, .int .i64 0, .slice none 0 0], []⟩ 8 (by kernel_rfl) (by kernel_rfl) (by kernel_rfl) (by kernel_rfl)) ?_
  intro W base args ds gs before hval0 hW hcnd _
  have hval : ∀ (j : Nat) t v, Try.f9.params[j]? = some t → args[j]? = some v → Value.okWide Try.prog W .any base t v := hval0
  have hW' := hW
  obtain ⟨p, q, hA0, hV, rfl, hfz, hnd⟩ := hW
  have hA : DataW.TrodAll enc Try.prog W 0 (fun _ => true) true Try.f9.params.toList args.toList ds p := hA0
  rw [Try.params9] at hA hval
  obtain ⟨v0, vs0, d0, ds0, p0, q0, hargs, rfl, rfl, h0, r0⟩ := trodAll_cons hA
  obtain ⟨v1, vs1, d1, ds1, p1, q1, rfl, rfl, rfl, h1, r1⟩ := trodAll_cons r0
  obtain ⟨v2, vs2, d2, ds2, p2, q2, rfl, rfl, rfl, h2, r2⟩ := trodAll_cons r1
  obtain ⟨v3, vs3, d3, ds3, p3, q3, rfl, rfl, rfl, h3, r3⟩ := trodAll_cons r2
  obtain ⟨rfl, rfl, rfl⟩ := trodAll_nil r3
  obtain rfl : args = #[v0, v1, v2, v3] := by cases args; simp_all
  obtain ⟨rfl, rfl⟩ := trodVars_none hV
  obtain ⟨a0, rfl, rfl, rfl, w0⟩ := open_int Try.underlying3 (hval 0 3 v0 rfl rfl) h0
  obtain ⟨a1, len1, cap1, rfl⟩ := okWide_slice Try.underlying29 (hval 1 29 v1 rfl rfl)
  have k1 := h1
  have lt1 : ∀ x ∈ p1, x.block < W.heap.size := by obtain ⟨m, hm⟩ := k1; exact DataW.trod_lt m _ _ _ hm
  obtain ⟨fuel1, hf1⟩ := h1
  obtain ⟨l1, ⟨aa1, cc1, hcs1, hs1⟩, hw1⟩ := opens_ints enc W 0 _ _ fuel1 _ _ hf1
  simp [Value.cells] at hcs1
  obtain ⟨rfl, rfl, rfl⟩ := hcs1
  obtain ⟨a2, rfl, rfl, rfl, w2⟩ := open_int Try.underlying3 (hval 2 3 v2 rfl rfl) h2
  obtain ⟨a3, len3, cap3, rfl⟩ := okWide_slice Try.underlying42 (hval 3 42 v3 rfl rfl)
  have k3 := h3
  have lt3 : ∀ x ∈ p3, x.block < W.heap.size := by obtain ⟨m, hm⟩ := k3; exact DataW.trod_lt m _ _ _ hm
  obtain ⟨fuel3, hf3⟩ := h3
  obtain ⟨l3, ⟨aa3, cc3, hcs3, hs3⟩, hw3⟩ := opens_shares enc W 0 _ _ fuel3 _ _ hf3
  simp [Value.cells] at hcs3
  obtain ⟨rfl, rfl, rfl⟩ := hcs3
  clear hA0 hval0
  refine (sharesSpec_fn a0 _ _ _ a2 _ _ _ (hpOf W) hs1 hs3).below.mono fun e W' ⟨he, bel⟩ => ?_
  subst he
  exact ⟨_, rfl, _, _, _, [], _, [], hW', trodAll_mk1 (shut_bool Try.underlying4 _), (trodAll_cons_mk (shut_int Try.underlying3 w0) (trodAll_cons_mk (Below.trod laidOut (by kernel_rfl) (of_decide_eq_true (by kernel_rfl)) k1 bel lt1) (trodAll_cons_mk (shut_int Try.underlying3 w2) (trodAll_cons_mk (Below.trod laidOut (by kernel_rfl) (of_decide_eq_true (by kernel_rfl)) k3 bel lt3) trodAll_mk0)))), rfl, bel.frame _, fun h => by cases h⟩
theorem over : Rows.sharesSpecRow.holds Try.pinned (OpenSpec.ofChange Rows.sharesSpecSpec) :=
  OpenClaim.holds_of_wide 9 Try.f9 rfl rfl rfl rfl rfl rfl rfl ⟨rfl, rfl, rfl, rfl, rfl⟩ rfl rfl rfl rfl rfl (by kernel_rfl) Try.func9 (by kernel_rfl)
    (of_decide_eq_true (by kernel_rfl)) (by unfold Func.isWrapper; first | (rw [if_pos (by decide +kernel)]; kernel_rfl) | (rw [if_neg (by decide +kernel)]; exact ⟨rfl, rfl⟩))
    (fun os started H enc _ => lifted os started H enc)
/-- The given statement. -/
theorem proved : Rows.SharesSpecSaid := over
#print axioms proved
end sharesSpec
end Go.Proofs.Ytdiknopliedddaa
