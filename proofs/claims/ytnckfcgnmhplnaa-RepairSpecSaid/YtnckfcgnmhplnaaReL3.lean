/- The law RepairSpec: it returns true, whatever the input, and what it was handed reads as before. No condition. -/
import Derived.Test.YtnckfcgnmhplnaaRePl
import Derived.Test.YtnckfcgnmhplnaaB2
import Derived.Test.YtnckfcgnmhplnaaRows
import Derived.WalkKit
import Derived.ProofKit
import Derived.OpenShut
import Derived.ShutString
import Derived.ChangeOld
import Derived.Below
set_option autoImplicit false
set_option linter.unusedVariables false
set_option linter.unusedSimpArgs false
namespace Go.Proofs.Ytnckfcgnmhplnaa
open Go.XL



set_option maxRecDepth 100000 in
set_option maxHeartbeats 1600000 in
theorem repairSpec_fn (w : Wi) (old : Ls) (ab : List Int) (aB a aA : Option Addr) (cB c cA : Nat) (H : Hp) (hB : SlR tbR H aB cB w.B) (hO : SlR ilR H a c old) (hA : SlR (intR .i64) H aA cA ab) (hBl : w.B.length < 9223372036854775808) (hl : old.length < 9223372036854775808) (hw : ∀ x ∈ old, x.length < 9223372036854775808) (hal : ab.length < 9223372036854775808) (lim : Int) : FnC Try.prog 3 #[.agg ⟨[.int .i64 w.J, .int .i64 w.S, .int .i64 w.N, .slice aB w.B.length cB]⟩, .slice a old.length c, .slice aA ab.length cA, .int .i64 lim] H [] (RetR (fun v _ _ => v = .bool true)) := by
 refine FnC.intro (args := [.agg ⟨[.int .i64 w.J, .int .i64 w.S, .int .i64 w.N, .slice aB w.B.length cB]⟩, .slice a old.length c, .slice aA ab.length cA, .int .i64 lim]) Try.func3 rfl rfl Try.ntmps3 rfl rfl rfl fun G rest => ?_
 refine XC.seq ?_; refine XC.region ?_; refine XO.box rfl rfl rfl (fun b4 => ?_); refine XO.assign rfl rfl ?_; refine XO.nil ?_; refine XC.seq2 ?_; refine XC.seq ?_; refine XC.seq ?_; refine XC.region ?_; refine XO.callV rfl (sane30 _) rfl ?_; refine XO.notB rfl rfl ?_; refine XO.nil ?_; refine XC.seq2 ?_; refine XC.condF rfl (rfl) ?_; refine XC.skip ?_; refine XC.seq2 ?_; refine XC.seq ?_; refine XC.seq ?_; refine XC.region ?_; refine XO.loadO 0 rfl rfl ty_24 rfl rfl rfl ?_; refine XO.move rfl rfl ?_; refine XO.move rfl rfl ?_; refine XO.callK rfl (few_fn w _ _ _ _ old _ _ ab _ hO hl hB hBl hA hal) rfl ?_; rintro _ ⟨bf, rfl, hfew⟩; refine XO.notB rfl rfl ?_; refine XO.nil ?_; refine XC.seq2 ?_; refine XC.condB rfl (fun c1_3 => ?_) (fun c1_3 => ?_)
 ·refine XC.seq ?_; refine XC.region ?_; refine XO.assign rfl rfl ?_; refine XO.nil ?_; refine XC.seq2 ?_; refine XC.ret ?_; refine seqX_ret ?_; refine ⟨rfl, _, [], rfl, (by repeat (first | exact List.Sublist.refl _ | apply List.Sublist.cons)), RetR.mk ?_⟩
  first | rfl | exact congrArg Value.bool (decide_eq_true rfl)
 ·refine XC.skip ?_; refine XC.seq2 ?_; refine XC.seq ?_; refine XC.region ?_; refine XO.loadO 0 rfl rfl ty_24 rfl rfl rfl ?_; refine XO.move rfl rfl ?_; refine XO.move rfl rfl ?_; refine XO.callH rfl (make_fn w old ab _ _ _ _ _ _ _ hB hO hA hBl hl hw hal) rfl ?_; rintro _ HN34 hleN34 hM34; obtain ⟨aN34, cN34, rfl, hN34⟩ := hM34; replace hB := hB.mono hleN34; replace hO := hO.mono hleN34; replace hA := hA.mono hleN34; refine XO.move rfl rfl ?_; refine XO.extract rfl rfl rfl ?_; refine XO.extract rfl rfl rfl ?_; refine XO.extract rfl rfl rfl ?_; refine XO.extract rfl rfl rfl ?_; refine XO.assign rfl rfl ?_; refine XO.assign rfl rfl ?_; refine XO.assign rfl rfl ?_; refine XO.assign rfl rfl ?_; refine XO.nil ?_; refine XC.seq2 ?_; refine XC.seq ?_; refine XC.region ?_; refine XO.loadO 0 rfl rfl ty_24 rfl rfl rfl ?_; refine XO.move rfl rfl ?_; refine XO.move rfl rfl ?_; refine XO.callH rfl (rmake_fn w old ab _ _ _ _ _ _ _ hB hO hA hBl hl hw hal) rfl ?_; rintro _ HN43 hleN43 hM43
  rw [mq_eq] at hM43
  obtain ⟨aN43, cN43, rfl, hN43⟩ := hM43; replace hB := hB.mono hleN43; replace hO := hO.mono hleN43; replace hA := hA.mono hleN43; replace hN34 := hN34.mono hleN43; refine XO.move rfl rfl ?_; refine XO.extract rfl rfl rfl ?_; refine XO.extract rfl rfl rfl ?_; refine XO.extract rfl rfl rfl ?_; refine XO.extract rfl rfl rfl ?_; refine XO.assign rfl rfl ?_; refine XO.assign rfl rfl ?_; refine XO.assign rfl rfl ?_; refine XO.assign rfl rfl ?_; refine XO.nil ?_; refine XC.seq2 ?_; refine XC.seq ?_; refine XC.region ?_; refine XO.loadO 0 rfl rfl ty_24 rfl rfl rfl ?_; refine XO.move rfl rfl ?_; refine XO.move rfl rfl ?_; refine XO.move rfl rfl ?_; refine XO.callH rfl (deny_fn w old ab _ _ _ _ _ _ _ hB hO hA hBl hl hw hal lim) rfl ?_; rintro _ HN53 hleN53 ⟨aN53, cN53, rfl, hN53⟩; replace hB := hB.mono hleN53; replace hO := hO.mono hleN53; replace hA := hA.mono hleN53; replace hN34 := hN34.mono hleN53; replace hN43 := hN43.mono hleN53; refine XO.move rfl rfl ?_; refine XO.extract rfl rfl rfl ?_; refine XO.extract rfl rfl rfl ?_; refine XO.extract rfl rfl rfl ?_; refine XO.alloc ze_34 rfl (fun b17 => ?_); refine XO.storeO 0 rfl rfl rfl rfl ty_34 rfl rfl rfl rfl rfl ?_; refine XO.assign rfl rfl ?_; refine XO.assign rfl rfl ?_; refine XO.nil ?_; refine XC.seq2 ?_; refine XC.seq ?_; refine XC.region ?_; refine XO.loadO 1 rfl rfl ty_24 rfl rfl rfl ?_; refine XO.move rfl rfl ?_; refine XO.move rfl rfl ?_; refine XO.move rfl rfl ?_; refine XO.callH rfl (rdenyq_fn w old ab _ _ _ _ _ _ _ hB hO hA hBl hl hw hal lim) rfl ?_; rintro _ HN62 hleN62 ⟨aN62, cN62, rfl, hN62⟩; replace hB := hB.mono hleN62; replace hO := hO.mono hleN62; replace hA := hA.mono hleN62; replace hN34 := hN34.mono hleN62; replace hN43 := hN43.mono hleN62; replace hN53 := hN53.mono hleN62; refine XO.move rfl rfl ?_; refine XO.extract rfl rfl rfl ?_; refine XO.extract rfl rfl rfl ?_; refine XO.extract rfl rfl rfl ?_; refine XO.alloc ze_34 rfl (fun b20 => ?_); refine XO.storeO 0 rfl rfl rfl rfl ty_34 rfl rfl rfl rfl rfl ?_; refine XO.assign rfl rfl ?_; refine XO.assign rfl rfl ?_; refine XO.nil ?_; refine XC.seq2 ?_; refine XC.seq ?_; refine XC.region ?_; refine XO.move rfl rfl ?_; refine XO.move rfl rfl ?_; refine XO.callV rfl (same_fn _ _ _ _ (oL (makQ w old ab)) (oL (makQ w old ab)) _ hN34 hN43 mq_len.1 mq_len.2) rfl ?_; refine XO.move rfl rfl ?_; refine XO.guardT rfl rfl (decide_eq_true rfl) rfl ?_; refine XO.move rfl rfl ?_; refine XO.guardT rfl rfl (decide_eq_true rfl) rfl ?_; refine XO.move rfl rfl ?_; refine XO.guardT rfl rfl (decide_eq_true rfl) rfl ?_; refine XO.eql rfl rfl rfl ?_; refine XO.pickT rfl (decide_eq_true rfl) rfl rfl ?_; refine XO.move rfl rfl ?_; refine XO.guardT rfl rfl (decide_eq_true rfl) rfl ?_; refine XO.move rfl rfl ?_; refine XO.guardT rfl rfl (decide_eq_true rfl) rfl ?_; refine XO.move rfl rfl ?_; refine XO.guardT rfl rfl (decide_eq_true rfl) rfl ?_; refine XO.eqlB rfl rfl Try.underlying4 rfl ?_; refine XO.pickT rfl (decide_eq_true rfl) rfl rfl ?_; refine XO.move rfl rfl ?_; refine XO.guardT rfl rfl (beq_self_eq_true _) rfl ?_; refine XO.move rfl rfl ?_; refine XO.guardT rfl rfl (beq_self_eq_true _) rfl ?_; refine XO.move rfl rfl ?_; refine XO.guardT rfl rfl (beq_self_eq_true _) rfl ?_; refine XO.eql rfl rfl rfl ?_; refine XO.pickT rfl (beq_self_eq_true _) rfl rfl ?_; refine XO.move rfl rfl ?_; refine XO.guardT rfl rfl (decide_eq_true rfl) rfl ?_; refine XO.loadO 1 rfl rfl ty_34 rfl rfl rfl ?_; refine XO.guardT rfl rfl (decide_eq_true rfl) rfl ?_; refine XO.loadO 0 rfl rfl ty_34 rfl rfl rfl ?_; refine XO.guardT rfl rfl (decide_eq_true rfl) rfl ?_; refine XO.callV rfl (sameD_all (dsz (Den.mk ((denQ w old ab lim).getD d0).E ((denQ w old ab lim).getD d0).Y ((denQ w old ab lim).getD d0).K)) ((denQ w old ab lim).getD d0).E ((denQ w old ab lim).getD d0).Y ((denQ w old ab lim).getD d0).E ((denQ w old ab lim).getD d0).Y ((denQ w old ab lim).getD d0).K ((denQ w old ab lim).getD d0).K _ _ _ _ _ (Nat.le_refl _) (by rw [eta_den]; exact dq_fitD) hN53 hN62) rfl ?_; refine XO.pickT rfl (decide_eq_true rfl) rfl rfl ?_; refine XO.move rfl rfl ?_; refine XO.guardT rfl rfl ((sameD_iff _ _).2 rfl) rfl ?_; refine XO.move rfl rfl ?_; refine XO.guardT rfl rfl ((sameD_iff _ _).2 rfl) rfl ?_; refine XO.move rfl rfl ?_; refine XO.guardT rfl rfl ((sameD_iff _ _).2 rfl) rfl ?_; refine XO.eqlB rfl rfl Try.underlying4 rfl ?_; refine XO.pickT rfl ((sameD_iff _ _).2 rfl) rfl rfl ?_; refine XO.move rfl rfl ?_; refine XO.guardT rfl rfl (beq_self_eq_true _) rfl ?_; refine XO.move rfl rfl ?_; refine XO.guardT rfl rfl (beq_self_eq_true _) rfl ?_; refine XO.move rfl rfl ?_; refine XO.guardT rfl rfl (beq_self_eq_true _) rfl ?_; refine XO.eql rfl rfl rfl ?_; refine XO.pickT rfl (beq_self_eq_true _) rfl rfl ?_; refine XO.assign rfl rfl ?_; refine XO.nil ?_; refine XC.seq2 ?_; refine XC.ret ?_; refine ⟨rfl, _, [], rfl, (by repeat (first | exact List.Sublist.refl _ | apply List.Sublist.cons)), RetR.mk ?_⟩
  first | rfl | exact congrArg Value.bool (decide_eq_true rfl)

namespace repairSpec
open Go.ChangeShapes Go.WideShapes Go.ChangeAt Go.RowKit
open Go.ChangeMaps (open_string shut_string)
theorem own : ownKnob Try.prog.godebug = none := by kernel_rfl
theorem laidOut : laidOutB Try.prog = true := by kernel_rfl
set_option maxRecDepth 100000 in
theorem lifted (os : Os) (started : os.Started) (H : Type) (enc : TypeId × Value → H) :
  ReturnsInHanded {} Try.checked os 3 .any (Rows.repairSpecSpec.pre6 enc Try.prog Try.f3 Rows.repairSpecRow.domain false) (Rows.repairSpecSpec.post enc Try.prog Try.f3 false true false false) := by
 refine returnsInHanded_of_change (C := Try.checked) own started (by kernel_rfl) Try.func3
  (ChangeSpec.witness6 (enc := enc) (C := Try.checked) false ⟨#[], #[.agg ⟨[.int .i64 0, .int .i64 0, .int .i64 0, .slice none 0 0]⟩, .slice none 0 0, .slice none 0 0, .int .i64 0], []⟩ 8 (by kernel_rfl) (by kernel_rfl) (by kernel_rfl) (by kernel_rfl)) ?_
 intro W base args ds gs before hval0 hW hcnd _
 have hval : ∀ (j : Nat) t v, Try.f3.params[j]? = some t → args[j]? = some v → Value.okWide Try.prog W .any base t v := hval0
 have hW' := hW
 obtain ⟨p, q, hA0, hV, rfl, hfz, hnd⟩ := hW
 have hA : DataW.TrodAll enc Try.prog W 0 (fun _ => true) true Try.f3.params.toList args.toList ds p := hA0
 rw [Try.params3] at hA hval
 obtain ⟨v0, vs0, d0, ds0, p0, q0, hargs, rfl, rfl, h0, r0⟩ := trodAll_cons hA; obtain ⟨v1, vs1, d1, ds1, p1, q1, rfl, rfl, rfl, h1, r1⟩ := trodAll_cons r0; obtain ⟨v2, vs2, d2, ds2, p2, q2, rfl, rfl, rfl, h2, r2⟩ := trodAll_cons r1; obtain ⟨v3, vs3, d3, ds3, p3, q3, rfl, rfl, rfl, h3, r3⟩ := trodAll_cons r2; obtain ⟨rfl, rfl, rfl⟩ := trodAll_nil r3
 obtain rfl : args = #[v0, v1, v2, v3] := by cases args; simp_all
 obtain ⟨rfl, rfl⟩ := trodVars_none hV
 have k0 := h0
 have lt0 : ∀ x ∈ p0, x.block < W.heap.size := by obtain ⟨m, hm⟩ := k0; exact DataW.trod_lt m _ _ _ hm
 obtain ⟨fuel0, hf0⟩ := h0; obtain ⟨l0, cl0, rfl, hR0, hw0⟩ := open_agg opens_wi Try.underlying24 (hval 0 24 v0 rfl rfl) hf0; obtain ⟨xaB, xcB, rfl, xB⟩ := hR0; obtain ⟨a1, len1, cap1, rfl⟩ := okWide_slice Try.underlying25 (hval 1 25 v1 rfl rfl)
 have k1 := h1
 have lt1 : ∀ x ∈ p1, x.block < W.heap.size := by obtain ⟨m, hm⟩ := k1; exact DataW.trod_lt m _ _ _ hm
 obtain ⟨fuel1, hf1⟩ := h1; obtain ⟨l1, ⟨aa1, cc1, hcs1, hs1⟩, hw1⟩ := opens_ls enc W 0 _ _ fuel1 _ _ hf1
 simp [Value.cells] at hcs1
 obtain ⟨rfl, rfl, rfl⟩ := hcs1; obtain ⟨a2, len2, cap2, rfl⟩ := okWide_slice Try.underlying26 (hval 2 26 v2 rfl rfl)
 have k2 := h2
 have lt2 : ∀ x ∈ p2, x.block < W.heap.size := by obtain ⟨m, hm⟩ := k2; exact DataW.trod_lt m _ _ _ hm
 obtain ⟨fuel2, hf2⟩ := h2; obtain ⟨l2, ⟨aa2, cc2, hcs2, hs2⟩, hw2⟩ := opens_ints enc W 0 _ _ fuel2 _ _ hf2
 simp [Value.cells] at hcs2
 obtain ⟨rfl, rfl, rfl⟩ := hcs2; obtain ⟨a3, rfl, rfl, rfl, w3⟩ := open_int Try.underlying3 (hval 3 3 v3 rfl rfl) h3
 clear hA0 hval0
 refine (repairSpec_fn l0 l1 l2 _ _ _ _ _ _ (hpOf W) xB hs1 hs2 hw0 (mlt hw1.1) (fun x hx => mlt (hw1.2 x hx).1) (mlt hw2.1) a3).below.mono fun e W' ⟨he, bel⟩ => ?_
 subst he
 exact ⟨_, rfl, _, _, _, [], _, [], hW', trodAll_mk1 (shut_bool Try.underlying4 _), (trodAll_cons_mk (Below.trod laidOut (by kernel_rfl) (of_decide_eq_true (by kernel_rfl)) k0 bel lt0) (trodAll_cons_mk (Below.trod laidOut (by kernel_rfl) (of_decide_eq_true (by kernel_rfl)) k1 bel lt1) (trodAll_cons_mk (Below.trod laidOut (by kernel_rfl) (of_decide_eq_true (by kernel_rfl)) k2 bel lt2) (trodAll_cons_mk (shut_int Try.underlying3 w3) trodAll_mk0)))), rfl, bel.frame _, fun h => by cases h⟩
theorem over : Rows.repairSpecRow.holds Try.pinned (OpenSpec.ofChange Rows.repairSpecSpec) :=
 OpenClaim.holds_of_wide 3 Try.f3 rfl rfl rfl rfl rfl rfl rfl ⟨rfl, rfl, rfl, rfl, rfl⟩ rfl rfl rfl rfl rfl (by kernel_rfl) Try.func3 (by kernel_rfl)
  (of_decide_eq_true (by kernel_rfl)) (by unfold Func.isWrapper; first | (rw [if_pos (by decide +kernel)]; kernel_rfl) | (rw [if_neg (by decide +kernel)]; exact ⟨rfl, rfl⟩))
  (fun os started H enc _ => lifted os started H enc)
/-- The given statement. -/
theorem proved : Rows.RepairSpecSaid := over
#print axioms proved
end repairSpec
end Go.Proofs.Ytnckfcgnmhplnaa
