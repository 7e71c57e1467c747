/- The law SharesEnough: it returns true, whatever the input, and what it was handed reads as before. No condition. -/
import Derived.Test.YtdiknopliedddaaRaO2
import Derived.Test.YtdiknopliedddaaRaY
import Derived.Test.YtdiknopliedddaaXLn
import Derived.Test.YtdiknopliedddaaRows
import Derived.WalkKit
import Derived.ProofKit
import Derived.OpenShut
import Derived.ShutString
import Derived.ChangeOld
import Derived.Below
set_option autoImplicit false
set_option linter.unusedVariables false
set_option linter.unusedSimpArgs false
namespace Go.Proofs.Ytdiknopliedddaa
open Go.XL



set_option maxRecDepth 100000 in
set_option maxHeartbeats 1600000 in
theorem sharesEnough_fn (s : Int) (a : Option Addr) (c : Nat) (l : List Int) (n bits : Int) (turned : Bool) (H : Hp) (hs : SlR (intR .i64) H a c l) : FnC Try.prog 10 #[.int .i64 s, .slice a l.length c, .int .i64 n, .int .u32 bits, .bool turned] H [] (RetR fun v _ _ => v = .bool true) := by
  refine FnC.intro (args := [.int .i64 s, .slice a l.length c, .int .i64 n, .int .u32 bits, .bool turned]) Try.func10 rfl rfl Try.ntmps10 rfl rfl rfl fun G rest => ?_
  refine XC.seq ?_
  refine XC.region ?_
  refine XO.assign rfl rfl ?_
  refine XO.nil ?_
  refine XC.seq2 ?_
  refine XC.seq ?_
  refine XC.seq ?_
  refine XC.region ?_
  refine XO.callV rfl (sane33 _) rfl ?_
  refine XO.notB rfl rfl ?_
  refine XO.nil ?_
  refine XC.seq2 ?_
  refine XC.condF rfl (rfl) ?_
  refine XC.skip ?_
  refine XC.seq2 ?_
  refine XC.seq ?_
  refine XC.region ?_
  refine XO.move rfl rfl ?_
  refine XO.move rfl rfl ?_
  refine XO.move rfl rfl ?_
  refine XO.callH rfl (deal_fn _ _ _ _ _ _ hs) rfl ?_
  rintro _ HD22 hleD22 ⟨aD22, cD22, rfl, hsD22⟩
  replace hs := hs.mono hleD22
  refine XO.move rfl rfl ?_
  refine XO.extract rfl rfl rfl ?_
  refine XO.extract rfl rfl rfl ?_
  refine XO.assign rfl rfl ?_
  refine XO.assign rfl rfl ?_
  refine XO.nil ?_
  refine XC.seq2 ?_
  refine XC.seq ?_
  refine XC.seq ?_
  refine XC.region ?_
  refine XO.move rfl rfl ?_
  refine XO.neq rfl rfl rfl ?_
  refine XO.nil ?_
  refine XC.seq2 ?_
  refine XC.cond rfl (fun c1_3 => ?_) (fun c1_3 => ?_)
  · refine XC.seq ?_
    refine XC.region ?_
    refine XO.move rfl rfl ?_
    refine XO.lenS (ts := #[]) rfl Try.underlying42 rfl ?_
    refine XO.eql rfl rfl rfl ?_
    refine XO.assign rfl rfl ?_
    refine XO.nil ?_
    refine XC.seq2 ?_
    refine XC.ret ?_
    refine seqX_ret ?_
    refine ⟨rfl, _, [], rfl, (by repeat (first | exact List.Sublist.refl _ | apply List.Sublist.cons)), RetR.mk ?_⟩
    exact congrArg Value.bool (decide_eq_true (by rw [dealE_bad (by assumption)]; rfl))
  · have hE : dealE s l n = 0 := by omega
    have hDB := dealE_ok hE
    obtain ⟨m, rfl⟩ : ∃ m : Nat, n = m := ⟨n.toNat, by unfold DB at hDB; omega⟩
    have e2 := (deal_ok hDB).2
    unfold DB at hDB
    refine XC.skip ?_
    refine XC.seq2 ?_
    refine XC.seq ?_
    refine XC.seq ?_
    refine XC.region ?_
    refine XO.move rfl rfl ?_
    refine XO.lss rfl rfl rfl ?_
    refine XO.move rfl rfl ?_
    refine XO.guardT rfl rfl (decide_eq_false (by omega)) rfl ?_
    refine XO.move rfl rfl ?_
    refine XO.guardT rfl rfl (decide_eq_false (by omega)) rfl ?_
    refine XO.gtr rfl rfl rfl ?_
    refine XO.pickF rfl (decide_eq_false (by omega)) rfl rfl ?_
    refine XO.move rfl rfl ?_
    refine XO.guardT rfl rfl (decide_eq_false (by omega)) rfl ?_
    refine XO.move rfl rfl ?_
    refine XO.guardT rfl rfl (decide_eq_false (by omega)) rfl ?_
    refine XO.lenS (ts := #[]) rfl Try.underlying42 rfl ?_
    refine XO.guardT rfl rfl (decide_eq_false (by omega)) rfl ?_
    refine XO.move rfl rfl ?_
    refine XO.guardT rfl rfl (decide_eq_false (by omega)) rfl ?_
    refine XO.neq rfl rfl rfl ?_
    refine XO.pickF rfl (decide_eq_false (by omega)) rfl rfl ?_
    refine XO.nil ?_
    refine XC.seq2 ?_
    refine XC.condF rfl (decide_eq_false (by rw [e2, dealL_len]; omega)) ?_
    refine XC.skip ?_
    refine XC.seq2 ?_
    refine XC.seq ?_
    refine XC.region ?_
    refine XO.move rfl rfl ?_
    refine XO.move rfl rfl ?_
    refine XO.move rfl rfl ?_
    refine XO.move rfl rfl ?_
    refine XO.callH rfl (picked_fn _ _ _ _ _ _ _ hsD22 (by rw [e2, dealL_len]; omega)) rfl ?_
    rintro _ HP hleP ⟨xP, aP, cP, rfl, hsP, hPick, hPm⟩
    replace hs := hs.mono hleP
    replace hsD22 := hsD22.mono hleP
    refine XO.assign rfl rfl ?_
    refine XO.nil ?_
    refine XC.seq2 ?_
    refine XC.seq ?_
    refine XC.seq ?_
    refine XC.region ?_
    refine XO.move rfl rfl ?_
    refine XO.lenS (ts := #[]) rfl Try.underlying42 rfl ?_
    refine XO.move rfl rfl ?_
    refine XO.lenS (ts := #[]) rfl Try.underlying29 rfl ?_
    refine XO.leq rfl rfl rfl ?_
    refine XO.nil ?_
    refine XC.seq2 ?_
    refine XC.cond rfl (fun c3_5 => ?_) (fun c3_5 => ?_)
    · refine XC.seq ?_
      refine XC.region ?_
      refine XO.assign rfl rfl ?_
      refine XO.nil ?_
      refine XC.seq2 ?_
      refine XC.ret ?_
      refine seqX_ret ?_
      refine ⟨rfl, _, [], rfl, (by repeat (first | exact List.Sublist.refl _ | apply List.Sublist.cons)), RetR.mk ?_⟩
      rfl
    · rw [e2] at hPick
      have hrec : recV xP = (s, 0) := enough (by omega) (by omega) (by omega) hPick (by omega)
      refine XC.skip ?_
      refine XC.seq2 ?_
      refine XC.seq ?_
      refine XC.region ?_
      refine XO.move rfl rfl ?_
      refine XO.callV rfl (recover_fn _ _ _ _ hsP (by first | omega | (simp; omega))) rfl ?_
      refine XO.move rfl rfl ?_
      refine XO.extract rfl rfl rfl ?_
      refine XO.extract rfl rfl rfl ?_
      refine XO.assign rfl rfl ?_
      refine XO.assign rfl rfl ?_
      refine XO.nil ?_
      refine XC.seq2 ?_
      refine XC.seq ?_
      refine XC.region ?_
      refine XO.move rfl rfl ?_
      refine XO.eql rfl rfl rfl ?_
      refine XO.move rfl rfl ?_
      refine XO.guardT rfl rfl (by rw [hrec]; rfl) rfl ?_
      refine XO.move rfl rfl ?_
      refine XO.guardT rfl rfl (by rw [hrec]; rfl) rfl ?_
      refine XO.move rfl rfl ?_
      refine XO.guardT rfl rfl (by rw [hrec]; rfl) rfl ?_
      refine XO.eql rfl rfl rfl ?_
      refine XO.pickT rfl (by rw [hrec]; rfl) rfl rfl ?_
      refine XO.assign rfl rfl ?_
      refine XO.nil ?_
      refine XC.seq2 ?_
      refine XC.ret ?_
      refine ⟨rfl, _, [], rfl, (by repeat (first | exact List.Sublist.refl _ | apply List.Sublist.cons)), RetR.mk ?_⟩
      exact congrArg Value.bool (by rw [hrec]; simp)

namespace sharesEnough
open Go.ChangeShapes Go.WideShapes Go.ChangeAt Go.RowKit
open Go.ChangeMaps (open_string shut_string)
theorem own : ownKnob Try.prog.godebug = none := by kernel_rfl
theorem laidOut : laidOutB Try.prog = true := by kernel_rfl
set_option maxRecDepth 100000 in
theorem lifted (os : Os) (started : os.Started) (H : Type) (enc : TypeId × Value → H) :
    ReturnsInHanded {} Try.checked os 10 .any (Rows.sharesEnoughSpec.pre6 enc Try.prog Try.f10 Rows.sharesEnoughRow.domain false) (Rows.sharesEnoughSpec.post enc Try.prog Try.f10 false true false false) := by
  refine returnsInHanded_of_change (C := Try.checked) own started (by kernel_rfl) Try.func10
    (ChangeSpec.witness6 (enc := enc) (C := Try.checked) false ⟨#[], #[.int .i64 0, .slice none 0 0, .int .i64 0, .int .u32 0, .bool false], []⟩ 8 (by kernel_rfl) (by kernel_rfl) (by kernel_rfl) (by kernel_rfl)) ?_
  intro W base args ds gs before hval0 hW hcnd _
  have hval : ∀ (j : Nat) t v, Try.f10.params[j]? = some t → args[j]? = some v → Value.okWide Try.prog W .any base t v := hval0
  have hW' := hW
  obtain ⟨p, q, hA0, hV, rfl, hfz, hnd⟩ := hW
  have hA : DataW.TrodAll enc Try.prog W 0 (fun _ => true) true Try.f10.params.toList args.toList ds p := hA0
  rw [Try.params10] at hA hval
  obtain ⟨v0, vs0, d0, ds0, p0, q0, hargs, rfl, rfl, h0, r0⟩ := trodAll_cons hA
  obtain ⟨v1, vs1, d1, ds1, p1, q1, rfl, rfl, rfl, h1, r1⟩ := trodAll_cons r0
  obtain ⟨v2, vs2, d2, ds2, p2, q2, rfl, rfl, rfl, h2, r2⟩ := trodAll_cons r1
  obtain ⟨v3, vs3, d3, ds3, p3, q3, rfl, rfl, rfl, h3, r3⟩ := trodAll_cons r2
  obtain ⟨v4, vs4, d4, ds4, p4, q4, rfl, rfl, rfl, h4, r4⟩ := trodAll_cons r3
  obtain ⟨rfl, rfl, rfl⟩ := trodAll_nil r4
  obtain rfl : args = #[v0, v1, v2, v3, v4] := by cases args; simp_all
  obtain ⟨rfl, rfl⟩ := trodVars_none hV
  obtain ⟨a0, rfl, rfl, rfl, w0⟩ := open_int Try.underlying3 (hval 0 3 v0 rfl rfl) h0
  obtain ⟨a1, len1, cap1, rfl⟩ := okWide_slice Try.underlying29 (hval 1 29 v1 rfl rfl)
  have k1 := h1
  have lt1 : ∀ x ∈ p1, x.block < W.heap.size := by obtain ⟨m, hm⟩ := k1; exact DataW.trod_lt m _ _ _ hm
  obtain ⟨fuel1, hf1⟩ := h1
  obtain ⟨l1, ⟨aa1, cc1, hcs1, hs1⟩, hw1⟩ := opens_ints enc W 0 _ _ fuel1 _ _ hf1
  simp [Value.cells] at hcs1
  obtain ⟨rfl, rfl, rfl⟩ := hcs1
  obtain ⟨a2, rfl, rfl, rfl, w2⟩ := open_int Try.underlying3 (hval 2 3 v2 rfl rfl) h2
  obtain ⟨a3, rfl, rfl, rfl, w3⟩ := open_int Try.underlying48 (hval 3 48 v3 rfl rfl) h3
  obtain ⟨a4, rfl, rfl, rfl⟩ := open_bool Try.underlying4 (hval 4 4 v4 rfl rfl) h4
  clear hA0 hval0
  refine (sharesEnough_fn a0 _ _ _ a2 a3 a4 (hpOf W) hs1).below.mono fun e W' ⟨he, bel⟩ => ?_
  subst he
  exact ⟨_, rfl, _, _, _, [], _, [], hW', trodAll_mk1 (shut_bool Try.underlying4 _), (trodAll_cons_mk (shut_int Try.underlying3 w0) (trodAll_cons_mk (Below.trod laidOut (by kernel_rfl) (of_decide_eq_true (by kernel_rfl)) k1 bel lt1) (trodAll_cons_mk (shut_int Try.underlying3 w2) (trodAll_cons_mk (shut_int Try.underlying48 w3) (trodAll_cons_mk (shut_bool Try.underlying4 _) trodAll_mk0))))), rfl, bel.frame _, fun h => by cases h⟩
theorem over : Rows.sharesEnoughRow.holds Try.pinned (OpenSpec.ofChange Rows.sharesEnoughSpec) :=
  OpenClaim.holds_of_wide 10 Try.f10 rfl rfl rfl rfl rfl rfl rfl ⟨rfl, rfl, rfl, rfl, rfl⟩ rfl rfl rfl rfl rfl (by kernel_rfl) Try.func10 (by kernel_rfl)
    (of_decide_eq_true (by kernel_rfl)) (by unfold Func.isWrapper; first | (rw [if_pos (by decide +kernel)]; kernel_rfl) | (rw [if_neg (by decide +kernel)]; exact ⟨rfl, rfl⟩))
    (fun os started H enc _ => lifted os started H enc)
/-- The given statement. -/
theorem proved : Rows.SharesEnoughSaid := over
#print axioms proved
end sharesEnough
end Go.Proofs.Ytdiknopliedddaa
