/- The law ConflictsTurned: it returns true, whatever the input, and what it was handed reads as before. No condition. -/
import Derived.Test.YtapacjfkgiigiaaB9
import Derived.Test.YtapacjfkgiigiaaRows
import Derived.WalkKit
import Derived.ProofKit
import Derived.OpenShut
import Derived.ShutString
import Derived.ChangeOld
import Derived.Below
set_option autoImplicit false
set_option linter.unusedVariables false
set_option linter.unusedSimpArgs false
namespace Go.Proofs.Ytapacjfkgiigiaa
open Go.XL



set_option maxRecDepth 100000 in
set_option maxHeartbeats 1600000 in
theorem conflictsTurned_fn (a : Option Addr) (c : Nat) (l : Fs) (H : Hp) (hs : SlR faR H a c l) (hl : l.length < 9223372036854775808) (x y day time : Int) : FnC Try.prog 6 #[.slice a l.length c, .int .i64 x, .int .i64 y, .int .i64 day, .int .i64 time] H [] (RetR (fun v _ _ => v = .bool true)) := by
 refine FnC.intro (args := [.slice a l.length c, .int .i64 x, .int .i64 y, .int .i64 day, .int .i64 time]) Try.func6 rfl rfl Try.ntmps6 rfl rfl rfl fun G rest => ?_
 refine XC.seq ?_; refine XC.region ?_; refine XO.assign rfl rfl ?_; refine XO.nil ?_; refine XC.seq2 ?_; refine XC.seq ?_; refine XC.seq ?_; refine XC.region ?_; refine XO.callV rfl (sane27 _) rfl ?_; refine XO.notB rfl rfl ?_; refine XO.nil ?_; refine XC.seq2 ?_; refine XC.condF rfl (rfl) ?_; refine XC.skip ?_; refine XC.seq2 ?_; refine XC.seq ?_; refine XC.seq ?_; refine XC.region ?_; refine XO.move rfl rfl ?_; refine XO.callV rfl (few_fn _ none none _ 0 0 l [] [] _ hs (SlR.nil0 _ _) (SlR.nil0 _ _)) rfl ?_; refine XO.not rfl rfl ?_; refine XO.nil ?_; refine XC.seq2 ?_; refine XC.cond rfl (fun c1_3 => ?_) (fun c1_3 => ?_)
 ·refine XC.seq ?_; refine XC.region ?_; refine XO.assign rfl rfl ?_; refine XO.nil ?_; refine XC.seq2 ?_; refine XC.ret ?_; refine seqX_ret ?_; refine ⟨rfl, _, [], rfl, (by repeat (first | exact List.Sublist.refl _ | apply List.Sublist.cons)), RetR.mk ?_⟩
  first | rfl | exact congrArg Value.bool (tu_prv hyes)
 ·refine XC.skip ?_; refine XC.seq2 ?_; refine XC.seq ?_; refine XC.region ?_; refine XO.move rfl rfl ?_; refine XO.move rfl rfl ?_; refine XO.move rfl rfl ?_; refine XO.move rfl rfl ?_; refine XO.move rfl rfl ?_; refine XO.callH rfl (conf_fn _ _ l _ hs hl x y day time) rfl ?_; rintro _ HN32 hleN32 hM32
  unfold CnfU at hM32
  obtain ⟨aN32, cN32, rfl, hN32⟩ := hM32; replace hs := hs.mono hleN32; refine XO.move rfl rfl ?_; refine XO.extract rfl rfl rfl ?_; refine XO.extract rfl rfl rfl ?_; refine XO.extract rfl rfl rfl ?_; refine XO.assign rfl rfl ?_; refine XO.assign rfl rfl ?_; refine XO.assign rfl rfl ?_; refine XO.nil ?_; refine XC.seq2 ?_; refine XC.seq ?_; refine XC.region ?_; refine XO.move rfl rfl ?_; refine XO.move rfl rfl ?_; refine XO.move rfl rfl ?_; refine XO.move rfl rfl ?_; refine XO.move rfl rfl ?_; refine XO.callH rfl (conf_fn _ _ l _ hs hl y x day time) rfl ?_; rintro _ HN42 hleN42 hM42
  unfold CnfU at hM42
  obtain ⟨aN42, cN42, rfl, hN42⟩ := hM42; replace hs := hs.mono hleN42; replace hN32 := hN32.mono hleN42; refine XO.move rfl rfl ?_; refine XO.extract rfl rfl rfl ?_; refine XO.extract rfl rfl rfl ?_; refine XO.extract rfl rfl rfl ?_; refine XO.assign rfl rfl ?_; refine XO.assign rfl rfl ?_; refine XO.assign rfl rfl ?_; refine XO.nil ?_; refine XC.seq2 ?_; refine XC.seq ?_; refine XC.seq ?_; refine XC.region ?_; refine XO.move rfl rfl ?_; refine XO.move rfl rfl ?_; refine XO.neq rfl rfl rfl ?_; refine XO.move rfl rfl ?_; refine XO.guardT rfl rfl (decide_eq_false (fun h => h err_swap)) rfl ?_; refine XO.move rfl rfl ?_; refine XO.guardT rfl rfl (decide_eq_false (fun h => h err_swap)) rfl ?_; refine XO.move rfl rfl ?_; refine XO.guardT rfl rfl (decide_eq_false (fun h => h err_swap)) rfl ?_; refine XO.neqB rfl rfl Try.underlying4 rfl ?_; refine XO.pickF rfl (decide_eq_false (fun h => h err_swap)) rfl rfl ?_; refine XO.move rfl rfl ?_; refine XO.guardT rfl rfl (by rw [tu_some l x y]; exact bne_self_eq_false _) rfl ?_; refine XO.move rfl rfl ?_; refine XO.guardT rfl rfl (by rw [tu_some l x y]; exact bne_self_eq_false _) rfl ?_; refine XO.lenS (ts := #[]) rfl Try.underlying25 rfl ?_; refine XO.guardT rfl rfl (by rw [tu_some l x y]; exact bne_self_eq_false _) rfl ?_; refine XO.move rfl rfl ?_; refine XO.guardT rfl rfl (by rw [tu_some l x y]; exact bne_self_eq_false _) rfl ?_; refine XO.lenS (ts := #[]) rfl Try.underlying25 rfl ?_; refine XO.guardT rfl rfl (by rw [tu_some l x y]; exact bne_self_eq_false _) rfl ?_; refine XO.neq rfl rfl rfl ?_; refine XO.pickF rfl (by rw [tu_some l x y]; exact bne_self_eq_false _) rfl rfl ?_; refine XO.nil ?_; refine XC.seq2 ?_; refine XC.condF rfl (decide_eq_false (fun h => h (by rw [tu_len l x y]))) ?_; refine XC.skip ?_; refine XC.seq2 ?_; refine XC.seq ?_; refine XC.seq ?_; refine XC.region ?_; refine XO.move rfl rfl ?_; refine XO.neq rfl rfl rfl ?_; refine XO.move rfl rfl ?_; refine XO.guardC rfl rfl rfl rfl (fun g6 => ?_) (fun g6 => ?_)
  ·have g6p := of_decide_eq_false g6
   refine XO.move rfl rfl ?_; refine XO.guardT rfl rfl (g6) rfl ?_; refine XO.notB rfl rfl ?_; refine XO.pickF rfl (g6) rfl rfl ?_; refine XO.nil ?_; refine XC.seq2 ?_; refine XC.condB rfl (fun c3_7 => ?_) (fun c3_7 => ?_)
   ·refine XC.seq ?_; refine XC.region ?_; refine XO.assign rfl rfl ?_; refine XO.nil ?_; refine XC.seq2 ?_; refine XC.ret ?_; refine seqX_ret ?_; refine ⟨rfl, _, [], rfl, (by repeat (first | exact List.Sublist.refl _ | apply List.Sublist.cons)), RetR.mk ?_⟩
    first | rfl | exact congrArg Value.bool (tu_prv hyes)
   ·have hE : errC l x y day time = 0 := by omega
    have hyes : (cnfC l x y day time).isSome = true := by simpa using c3_7
    refine XC.skip ?_; refine XC.seq2 ?_; refine XC.seq ?_; refine XC.region ?_; refine XO.assign rfl rfl ?_; refine XO.nil ?_; refine XC.seq2 ?_; refine XC.seq ?_; refine XC.seq ?_; refine XC.region ?_; refine XO.move rfl rfl ?_; refine XO.lenS (ts := #[]) rfl Try.underlying25 rfl ?_
    have hC5 := cnfC_len l x y day time
    refine XO.sub (c := ((((cnfC l x y day time).getD []).length : Nat) : Int) - 1 - ((0 : Nat) : Int)) rfl rfl ((wrap_i64 (by omega) (by omega)).trans (by omega)) rfl ?_; refine XO.assign rfl rfl ?_; refine XO.nil ?_; refine XC.seq2 ?_; refine XC.block ?_; refine XC.keep [17, 18, 0, 1, 2, 3, 4, 11] rfl ?_; refine XC.open0 0 ?_; refine XC.loop (base := [(0, _), (1, _), (2, _), (3, _), (4, _), (11, _)]) (fun ζ : Nat × ((Nat × SObj) × Option Addr × Nat) => [(17, .slice ζ.2.2.1 (((cnfC l x y day time).getD []).reverse.take (ζ.1)).length ζ.2.2.2), (18, .int .i64 (((((cnfC l x y day time).getD []).length : Nat) : Int) - 1 - ((ζ.1 : Nat) : Int)))]) (fun ζ Hl own => ζ.1 ≤ ((cnfC l x y day time).getD []).length ∧ ζ.2.1 :: rest = own ∧ Acc (intR .i64) 3 Hl ζ.2.1 ζ.2.2.1 ζ.2.2.2 (((cnfC l x y day time).getD []).reverse.take (ζ.1))) (fun ζ => ((cnfC l x y day time).getD []).length - ζ.1) (0, ((0, .nothing), none, 0)) (prov_cons (rfl) (prov_cons (rfl) (prov_cons (rfl) (prov_cons (rfl) (prov_cons (rfl) (prov_cons (rfl) (prov_cons (rfl) (prov_cons (rfl) prov_nil)))))))) (by repeat (first | exact List.Sublist.refl _ | apply List.Sublist.cons_cons | apply List.Sublist.cons)) ⟨Nat.zero_le _, rfl, Acc.nil _ _ _ _⟩ ?_; rintro ⟨k, ⟨pw, aw, cw⟩⟩ Hl0 _ hle0 ⟨hkk, rfl, haccw⟩; replace hs := hs.mono hle0; replace hN32 := hN32.mono hle0; replace hN42 := hN42.mono hle0
    try dsimp only at hkk haccw ⊢
    refine XC.seq ?_; refine XC.seq ?_; refine XC.region ?_; refine XO.move rfl rfl ?_; refine XO.geq rfl rfl rfl ?_; refine XO.nil ?_; refine XC.seq2 ?_; refine XC.cond rfl (fun c4_9 => ?_) (fun c4_9 => ?_)
    ·obtain ⟨j, hj⟩ : ∃ j : Nat, ((((cnfC l x y day time).getD []).length : Nat) : Int) - 1 - ((k : Nat) : Int) = ((j : Nat) : Int) := ⟨((cnfC l x y day time).getD []).length - 1 - k, by omega⟩
     rw [hj]
     refine XC.skip ?_; refine XC.seq2 ?_; refine XC.seq ?_; refine XC.block ?_; refine XC.region ?_; refine XO.move rfl rfl ?_; refine XO.move rfl rfl ?_; refine XO.move rfl rfl ?_; refine XO.indexN (i := j) rfl hN32 rfl Try.underlying25 ty_3 (by omega) rfl ?_; rintro eb77 eo77 _ x77 hx77 rfl hp77; refine XO.loadH rfl (by assumption) ty_3 rfl rfl rfl ?_; refine XO.buildSlice rfl Try.underlying25 ty_3 ze_3 rfl rfl rfl (fun b79 => ?_); refine XO.publish 0 rfl rfl rfl (fun HP79 oP79 hleP79 hbP79 hoP79 => ?_)
     have hsl79 := SlR.lit (ρ := (intR .i64)) (l := [x77]) hbP79 hoP79 (RowsR.one1 rfl)
     replace hs := hs.mono hleP79; replace hN32 := hN32.mono hleP79; replace hN42 := hN42.mono hleP79; replace haccw := haccw.mono hleP79; replace hp77 := hp77.mono hleP79; replace hle0 := hle0.trans hleP79; refine XO.appendA 0 rfl rfl haccw rfl rfl hsl79 rfl Try.underlying25 ty_3 ze_3 rfl by_3 (by simp; omega) rfl (fun p80 a80 c80 hacc80 => ?_); refine XO.assign rfl rfl ?_; refine XO.nil ?_; refine blockN ?_; refine XC.seq2 ?_; refine XC.region ?_; refine XO.move rfl rfl ?_; refine XO.sub (c := ((((cnfC l x y day time).getD []).length : Nat) : Int) - 1 - ((k + 1 : Nat) : Int)) rfl rfl ((wrap_i64 (by omega) (by omega)).trans (by omega)) rfl ?_; refine XO.assign rfl rfl ?_; refine XO.nil ?_; refine loop_next ((k + 1, (p80, a80, c80))) (by show ((cnfC l x y day time).getD []).length - (k + 1) < ((cnfC l x y day time).getD []).length - k; omega) (prov_cons (by first | rfl | (rw [take_snoc (rv_at hj hx77)]; rfl)) (prov_cons (rfl) (prov_cons (rfl) (prov_cons (rfl) (prov_cons (rfl) (prov_cons (rfl) (prov_cons (rfl) (prov_cons (rfl) prov_nil)))))))) (⟨by show k + 1 ≤ ((cnfC l x y day time).getD []).length; omega, rfl, by first | (exact hacc80) | (rw [take_snoc (rv_at hj hx77)]; exact hacc80)⟩) (by repeat (first | exact List.Sublist.refl _ | apply List.Sublist.cons_cons | apply List.Sublist.cons)) (hle0)
    ·obtain rfl : k = ((cnfC l x y day time).getD []).length := by omega
     rw [rv_take] at haccw ⊢
     refine XC.exit ?_; refine seqX_exit ?_; refine loopX_exit ?_; refine blockHit rfl ?_; refine XC.seq2 ?_; refine XC.seq ?_; refine XC.region ?_; refine XO.move rfl rfl ?_; refine XO.move rfl rfl ?_; refine XO.move rfl rfl ?_; refine XO.move rfl rfl ?_; refine XO.move rfl rfl ?_; refine XO.publishA 0 rfl haccw rfl (fun HQ13 hleQ13 hsQ13 => ?_); replace hs := hs.mono hleQ13; replace hN32 := hN32.mono hleQ13; replace hN42 := hN42.mono hleQ13; replace hle0 := hle0.trans hleQ13; refine XO.move rfl rfl ?_; refine XO.callV rfl (progproves_fn _ _ _ _ l ((cnfC l x y day time).getD []).reverse y x day time _ hs hsQ13 hl (by rw [List.length_reverse]; have := cnfC_len l x y day time; omega)) rfl ?_; refine XO.move rfl rfl ?_; refine XO.extract rfl rfl rfl ?_; refine XO.extract rfl rfl rfl ?_; refine XO.assign rfl rfl ?_; refine XO.assign rfl rfl ?_; refine XO.nil ?_; refine XC.seq2 ?_; refine XC.seq ?_; refine XC.region ?_; refine XO.move rfl rfl ?_; refine XO.eql rfl rfl rfl ?_; refine XO.move rfl rfl ?_; refine XO.guardT rfl rfl (decide_eq_true (err_swap.trans hE)) rfl ?_; refine XO.move rfl rfl ?_; refine XO.pickT rfl (decide_eq_true (err_swap.trans hE)) rfl rfl ?_; refine XO.assign rfl rfl ?_; refine XO.nil ?_; refine XC.seq2 ?_; refine XC.ret ?_; refine ⟨rfl, _, [], rfl, (by repeat (first | exact List.Sublist.refl _ | apply List.Sublist.cons)), RetR.mk ?_⟩
     first | rfl | exact congrArg Value.bool (tu_prv hyes)
  ·have g6p := of_decide_eq_true g6
   refine XO.guardF rfl rfl (g6) rfl rfl ?_; refine XO.pickT rfl (g6) rfl rfl ?_; refine XO.nil ?_; refine XC.seq2 ?_; refine XC.condT rfl (rfl) ?_; refine XC.seq ?_; refine XC.region ?_; refine XO.assign rfl rfl ?_; refine XO.nil ?_; refine XC.seq2 ?_; refine XC.ret ?_; refine seqX_ret ?_; refine ⟨rfl, _, [], rfl, (by repeat (first | exact List.Sublist.refl _ | apply List.Sublist.cons)), RetR.mk ?_⟩
   first | rfl | exact congrArg Value.bool (tu_prv hyes)

namespace conflictsTurned
open Go.ChangeShapes Go.WideShapes Go.ChangeAt Go.RowKit
open Go.ChangeMaps (open_string shut_string)
theorem own : ownKnob Try.prog.godebug = none := by kernel_rfl
theorem laidOut : laidOutB Try.prog = true := by kernel_rfl
set_option maxRecDepth 100000 in
theorem lifted (os : Os) (started : os.Started) (H : Type) (enc : TypeId × Value → H) :
  ReturnsInHanded {} Try.checked os 6 .any (Rows.conflictsTurnedSpec.pre6 enc Try.prog Try.f6 Rows.conflictsTurnedRow.domain false) (Rows.conflictsTurnedSpec.post enc Try.prog Try.f6 false true false false) := by
 refine returnsInHanded_of_change (C := Try.checked) own started (by kernel_rfl) Try.func6
  (ChangeSpec.witness6 (enc := enc) (C := Try.checked) false ⟨#[], #[.slice none 0 0, .int .i64 0, .int .i64 0, .int .i64 0, .int .i64 0], []⟩ 8 (by kernel_rfl) (by kernel_rfl) (by kernel_rfl) (by kernel_rfl)) ?_
 intro W base args ds gs before hval0 hW hcnd _
 have hval : ∀ (j : Nat) t v, Try.f6.params[j]? = some t → args[j]? = some v → Value.okWide Try.prog W .any base t v := hval0
 have hW' := hW
 obtain ⟨p, q, hA0, hV, rfl, hfz, hnd⟩ := hW
 have hA : DataW.TrodAll enc Try.prog W 0 (fun _ => true) true Try.f6.params.toList args.toList ds p := hA0
 rw [Try.params6] at hA hval
 obtain ⟨v0, vs0, d0, ds0, p0, q0, hargs, rfl, rfl, h0, r0⟩ := trodAll_cons hA; obtain ⟨v1, vs1, d1, ds1, p1, q1, rfl, rfl, rfl, h1, r1⟩ := trodAll_cons r0; obtain ⟨v2, vs2, d2, ds2, p2, q2, rfl, rfl, rfl, h2, r2⟩ := trodAll_cons r1; obtain ⟨v3, vs3, d3, ds3, p3, q3, rfl, rfl, rfl, h3, r3⟩ := trodAll_cons r2; obtain ⟨v4, vs4, d4, ds4, p4, q4, rfl, rfl, rfl, h4, r4⟩ := trodAll_cons r3; obtain ⟨rfl, rfl, rfl⟩ := trodAll_nil r4
 obtain rfl : args = #[v0, v1, v2, v3, v4] := by cases args; simp_all
 obtain ⟨rfl, rfl⟩ := trodVars_none hV; obtain ⟨a0, len0, cap0, rfl⟩ := okWide_slice Try.underlying22 (hval 0 22 v0 rfl rfl)
 have k0 := h0
 have lt0 : ∀ x ∈ p0, x.block < W.heap.size := by obtain ⟨m, hm⟩ := k0; exact DataW.trod_lt m _ _ _ hm
 obtain ⟨fuel0, hf0⟩ := h0; obtain ⟨l0, ⟨aa0, cc0, hcs0, hs0⟩, hw0⟩ := opens_fas enc W 0 _ _ fuel0 _ _ hf0
 simp [Value.cells] at hcs0
 obtain ⟨rfl, rfl, rfl⟩ := hcs0; obtain ⟨a1, rfl, rfl, rfl, w1⟩ := open_int Try.underlying3 (hval 1 3 v1 rfl rfl) h1; obtain ⟨a2, rfl, rfl, rfl, w2⟩ := open_int Try.underlying3 (hval 2 3 v2 rfl rfl) h2; obtain ⟨a3, rfl, rfl, rfl, w3⟩ := open_int Try.underlying3 (hval 3 3 v3 rfl rfl) h3; obtain ⟨a4, rfl, rfl, rfl, w4⟩ := open_int Try.underlying3 (hval 4 3 v4 rfl rfl) h4
 clear hA0 hval0
 refine (conflictsTurned_fn _ _ l0 (hpOf W) hs0 (mlt hw0.1) a1 a2 a3 a4).below.mono fun e W' ⟨he, bel⟩ => ?_
 subst he
 exact ⟨_, rfl, _, _, _, [], _, [], hW', trodAll_mk1 (shut_bool Try.underlying4 _), (trodAll_cons_mk (Below.trod laidOut (by kernel_rfl) (of_decide_eq_true (by kernel_rfl)) k0 bel lt0) (trodAll_cons_mk (shut_int Try.underlying3 w1) (trodAll_cons_mk (shut_int Try.underlying3 w2) (trodAll_cons_mk (shut_int Try.underlying3 w3) (trodAll_cons_mk (shut_int Try.underlying3 w4) trodAll_mk0))))), rfl, bel.frame _, fun h => by cases h⟩
theorem over : Rows.conflictsTurnedRow.holds Try.pinned (OpenSpec.ofChange Rows.conflictsTurnedSpec) :=
 OpenClaim.holds_of_wide 6 Try.f6 rfl rfl rfl rfl rfl rfl rfl ⟨rfl, rfl, rfl, rfl, rfl⟩ rfl rfl rfl rfl rfl (by kernel_rfl) Try.func6 (by kernel_rfl)
  (of_decide_eq_true (by kernel_rfl)) (by unfold Func.isWrapper; first | (rw [if_pos (by decide +kernel)]; kernel_rfl) | (rw [if_neg (by decide +kernel)]; exact ⟨rfl, rfl⟩))
  (fun os started H enc _ => lifted os started H enc)
/-- The given statement. -/
theorem proved : Rows.ConflictsTurnedSaid := over
#print axioms proved
end conflictsTurned
end Go.Proofs.Ytapacjfkgiigiaa
