/- The law NetworkCuts: it returns true, whatever the input, and what it was handed reads as before. No condition. -/
import Derived.Test.YtonmnpdhpailcaaRbO
import Derived.Test.YtonmnpdhpailcaaRbD
import Derived.Test.YtonmnpdhpailcaaRbN
import Derived.Test.YtonmnpdhpailcaaRows
import Derived.WalkKit
import Derived.ProofKit
import Derived.OpenShut
import Derived.ShutString
import Derived.ChangeOld
import Derived.Below
set_option autoImplicit false
set_option linter.unusedVariables false
set_option linter.unusedSimpArgs false
namespace Go.Proofs.Ytonmnpdhpailcaa
open Go.XL



set_option maxRecDepth 100000 in
set_option maxHeartbeats 1600000 in
theorem networkCuts_fn (aq ap : Option Addr) (cq cp : Nat) (n : Nt) (a b u : Int) (H : Hp) (hq : SlR pkR H aq cq n.q) (hp : SlR pairR H ap cp n.ap) (hu0 : 0 ≤ u) (hu1 : u < 18446744073709551616) : FnC Try.prog 5 #[.agg ⟨[.slice aq n.q.length cq, .slice ap n.ap.length cp]⟩, .int .i64 a, .int .i64 b, .int .u64 u] H [] (RetR fun v _ _ => v = .bool true) := by
  refine FnC.intro (args := [.agg ⟨[.slice aq n.q.length cq, .slice ap n.ap.length cp]⟩, .int .i64 a, .int .i64 b, .int .u64 u]) Try.func5 rfl rfl Try.ntmps5 rfl rfl rfl fun G rest => ?_
  refine XC.seq ?_
  refine XC.region ?_
  refine XO.box rfl rfl rfl (fun b4 => ?_)
  refine XO.assign rfl rfl ?_
  refine XO.nil ?_
  refine XC.seq2 ?_
  refine XC.seq ?_
  refine XC.seq ?_
  refine XC.region ?_
  refine XO.callV rfl (sane06 _) rfl ?_
  refine XO.notB rfl rfl ?_
  refine XO.nil ?_
  refine XC.seq2 ?_
  refine XC.condF rfl (rfl) ?_
  refine XC.skip ?_
  refine XC.seq2 ?_
  refine XC.seq ?_
  refine XC.seq ?_
  refine XC.region ?_
  refine XO.loadO 0 rfl rfl ty_25 rfl rfl rfl ?_
  refine XO.callV rfl (few_fn _ _ _ _ _ _) rfl ?_
  refine XO.not rfl rfl ?_
  refine XO.move rfl rfl ?_
  refine XO.guardC rfl rfl rfl rfl (fun g3 => ?_) (fun g3 => ?_)
  · have g3p := of_decide_eq_false g3
    have hfew : n.q.length ≤ 40 ∧ n.ap.length ≤ 40 := Decidable.not_not.1 (by assumption)
    have hlq : n.q.length < 4611686018427387904 := by omega
    have hlp : n.ap.length < 4611686018427387904 := by omega
    
    refine XO.loadO 0 rfl rfl ty_25 rfl rfl rfl ?_
    refine XO.guardT rfl rfl (g3) rfl ?_
    refine XO.callV rfl (check_fn _ _ _ _ n _ hq hp hlq hlp) rfl ?_
    refine XO.guardT rfl rfl (g3) rfl ?_
    refine XO.neq rfl rfl rfl ?_
    refine XO.pickF rfl (g3) rfl rfl ?_
    refine XO.nil ?_
    refine XC.seq2 ?_
    refine XC.cond rfl (fun c1_5 => ?_) (fun c1_5 => ?_)
    · refine XC.seq ?_
      refine XC.region ?_
      refine XO.assign rfl rfl ?_
      refine XO.nil ?_
      refine XC.seq2 ?_
      refine XC.ret ?_
      refine seqX_ret ?_
      refine ⟨rfl, _, [], rfl, (by repeat (first | exact List.Sublist.refl _ | apply List.Sublist.cons)), RetR.mk ?_⟩
      first | rfl | (clear hxy hxz hmk hcount e1 e2 e3 e4 e5 n1 n2 n3 n4 n5 d1 d2 d3 d4 q1 q2 q3 q4 q5; rcases hAB with ⟨ho, hne, hT⟩ | ⟨ho, hne, hT⟩ <;> simp_all [resV])
    · have hnet : netOk n := chk_eq.1 (by omega)
      refine XC.skip ?_
      refine XC.seq2 ?_
      refine XC.seq ?_
      refine XC.region ?_
      refine XO.loadO 0 rfl rfl ty_25 rfl rfl rfl ?_
      refine XO.move rfl rfl ?_
      refine XO.move rfl rfl ?_
      refine XO.callH rfl (cut_fn _ _ _ _ n a b true _ hq hp hlq hlp) rfl ?_
      rintro _ HD41 hleD41 ⟨_, rfl, ⟨d41, e41, f41, g41, rfl, i41, j41⟩⟩
      replace hq := hq.mono hleD41
      replace hp := hp.mono hleD41
      refine XO.move rfl rfl ?_
      refine XO.extract rfl rfl rfl ?_
      refine XO.extract rfl rfl rfl ?_
      refine XO.alloc ze_25 rfl (fun b9 => ?_)
      refine XO.storeO 0 rfl rfl rfl rfl ty_25 rfl rfl rfl rfl rfl ?_
      refine XO.assign rfl rfl ?_
      refine XO.nil ?_
      refine XC.seq2 ?_
      refine XC.seq ?_
      refine XC.seq ?_
      refine XC.region ?_
      refine XO.move rfl rfl ?_
      refine XO.neq rfl rfl rfl ?_
      refine XO.nil ?_
      refine XC.seq2 ?_
      refine XC.cond rfl (fun c2_7 => ?_) (fun c2_7 => ?_)
      · refine XC.seq ?_
        refine XC.region ?_
        refine XO.move rfl rfl ?_
        refine XO.eql rfl rfl rfl ?_
        refine XO.assign rfl rfl ?_
        refine XO.nil ?_
        refine XC.seq2 ?_
        refine XC.ret ?_
        refine seqX_ret ?_
        refine ⟨rfl, _, [], rfl, (by repeat (first | exact List.Sublist.refl _ | apply List.Sublist.cons)), RetR.mk ?_⟩
        exact congrArg Value.bool (decide_eq_true (cutE_one hnet c2_7))
      · have hs := cutE_site (show cutE n a b = 0 by omega)
        have hs2 : site b ∧ site a ∧ b ≠ a := ⟨hs.2.1, hs.1, fun e => hs.2.2 e.symm⟩
        have hlk := (link_site a b).2 hs
        obtain ⟨e1, n1⟩ := cutN_ok (on := true) hnet hs
        obtain ⟨e2, n2⟩ := cutN_ok (on := true) hnet hs2
        obtain ⟨e3, n3⟩ := cutN_ok (on := false) hnet hs
        obtain ⟨e4, n4⟩ := cutN_ok (n := ⟨n.q, cutL n (lnk a b) true⟩) (on := true) (cut_net hnet) hs
        obtain ⟨e5, n5⟩ := cutN_ok (n := ⟨n.q, cutL n (lnk a b) true⟩) (on := false) (cut_net hnet) hs2
        have q1 := cut_len n a b true
        have q2 := cut_len n b a true
        have q3 := cut_len n a b false
        have q4 := cut_len (cutN n a b true) a b true
        have q5 := cut_len (cutN n a b true) b a false
        rw [← n1] at e4 n4 e5 n5
        have hxy : cutN n a b true = cutN n b a true := by rw [n1, n2, lnk_comm]
        have hxz : cutN n a b true = cutN (cutN n a b true) a b true := by rw [n4, n1]; exact congrArg _ (cut_again hnet hlk).symm
        have hmk : cutN (cutN n a b true) b a false = cutN n a b false := by rw [n5, n3, n1, lnk_comm b a]; exact congrArg _ (cut_again hnet hlk)
        have hcount : (cutN n a b true).ap.length = (cutN n a b false).ap.length + 1 := by rw [n1, n3]; exact cut_count hlk
        refine XC.skip ?_
        refine XC.seq2 ?_
        refine XC.seq ?_
        refine XC.region ?_
        refine XO.loadO 1 rfl rfl ty_25 rfl rfl rfl ?_
        refine XO.move rfl rfl ?_
        refine XO.move rfl rfl ?_
        refine XO.callH rfl (cut_fn _ _ _ _ n b a true _ hq hp hlq hlp) rfl ?_
        rintro _ HD52 hleD52 ⟨_, rfl, ⟨d52, e52, f52, g52, rfl, i52, j52⟩⟩
        replace hq := hq.mono hleD52
        replace hp := hp.mono hleD52
        replace i41 := i41.mono hleD52
        replace j41 := j41.mono hleD52
        refine XO.move rfl rfl ?_
        refine XO.extract rfl rfl rfl ?_
        refine XO.extract rfl rfl rfl ?_
        refine XO.alloc ze_25 rfl (fun b11 => ?_)
        refine XO.storeO 0 rfl rfl rfl rfl ty_25 rfl rfl rfl rfl rfl ?_
        refine XO.assign rfl rfl ?_
        refine XO.nil ?_
        refine XC.seq2 ?_
        refine XC.seq ?_
        refine XC.region ?_
        refine XO.loadO 1 rfl rfl ty_25 rfl rfl rfl ?_
        refine XO.move rfl rfl ?_
        refine XO.move rfl rfl ?_
        refine XO.callH rfl (cut_fn _ _ _ _ (cutN n a b true) a b true _ i41 j41 (by omega) (by omega)) rfl ?_
        rintro _ HD59 hleD59 ⟨_, rfl, ⟨d59, e59, f59, g59, rfl, i59, j59⟩⟩
        replace hq := hq.mono hleD59
        replace hp := hp.mono hleD59
        replace i41 := i41.mono hleD59
        replace j41 := j41.mono hleD59
        replace i52 := i52.mono hleD59
        replace j52 := j52.mono hleD59
        refine XO.move rfl rfl ?_
        refine XO.extract rfl rfl rfl ?_
        refine XO.extract rfl rfl rfl ?_
        refine XO.alloc ze_25 rfl (fun b13 => ?_)
        refine XO.storeO 0 rfl rfl rfl rfl ty_25 rfl rfl rfl rfl rfl ?_
        refine XO.assign rfl rfl ?_
        refine XO.nil ?_
        refine XC.seq2 ?_
        refine XC.seq ?_
        refine XC.region ?_
        refine XO.loadO 2 rfl rfl ty_25 rfl rfl rfl ?_
        refine XO.move rfl rfl ?_
        refine XO.move rfl rfl ?_
        refine XO.callH rfl (cut_fn _ _ _ _ (cutN n a b true) b a false _ i41 j41 (by omega) (by omega)) rfl ?_
        rintro _ HD66 hleD66 ⟨_, rfl, ⟨d66, e66, f66, g66, rfl, i66, j66⟩⟩
        replace hq := hq.mono hleD66
        replace hp := hp.mono hleD66
        replace i41 := i41.mono hleD66
        replace j41 := j41.mono hleD66
        replace i52 := i52.mono hleD66
        replace j52 := j52.mono hleD66
        replace i59 := i59.mono hleD66
        replace j59 := j59.mono hleD66
        refine XO.move rfl rfl ?_
        refine XO.extract rfl rfl rfl ?_
        refine XO.extract rfl rfl rfl ?_
        refine XO.alloc ze_25 rfl (fun b15 => ?_)
        refine XO.storeO 0 rfl rfl rfl rfl ty_25 rfl rfl rfl rfl rfl ?_
        refine XO.assign rfl rfl ?_
        refine XO.nil ?_
        refine XC.seq2 ?_
        refine XC.seq ?_
        refine XC.region ?_
        refine XO.loadO 4 rfl rfl ty_25 rfl rfl rfl ?_
        refine XO.move rfl rfl ?_
        refine XO.move rfl rfl ?_
        refine XO.callH rfl (cut_fn _ _ _ _ n a b false _ hq hp hlq hlp) rfl ?_
        rintro _ HD73 hleD73 ⟨_, rfl, ⟨d73, e73, f73, g73, rfl, i73, j73⟩⟩
        replace hq := hq.mono hleD73
        replace hp := hp.mono hleD73
        replace i41 := i41.mono hleD73
        replace j41 := j41.mono hleD73
        replace i52 := i52.mono hleD73
        replace j52 := j52.mono hleD73
        replace i59 := i59.mono hleD73
        replace j59 := j59.mono hleD73
        replace i66 := i66.mono hleD73
        replace j66 := j66.mono hleD73
        refine XO.move rfl rfl ?_
        refine XO.extract rfl rfl rfl ?_
        refine XO.extract rfl rfl rfl ?_
        refine XO.alloc ze_25 rfl (fun b17 => ?_)
        refine XO.storeO 0 rfl rfl rfl rfl ty_25 rfl rfl rfl rfl rfl ?_
        refine XO.assign rfl rfl ?_
        refine XO.nil ?_
        refine XC.seq2 ?_
        refine XC.seq ?_
        refine XC.seq ?_
        refine XC.region ?_
        refine XO.move rfl rfl ?_
        refine XO.neq rfl rfl rfl ?_
        refine XO.move rfl rfl ?_
        refine XO.guardT rfl rfl (by rw [e2]; rfl) rfl ?_
        refine XO.move rfl rfl ?_
        refine XO.guardT rfl rfl (by rw [e2]; rfl) rfl ?_
        refine XO.neq rfl rfl rfl ?_
        refine XO.pickF rfl (by rw [e2]; rfl) rfl rfl ?_
        refine XO.move rfl rfl ?_
        refine XO.guardT rfl rfl (by rw [e4]; rfl) rfl ?_
        refine XO.move rfl rfl ?_
        refine XO.guardT rfl rfl (by rw [e4]; rfl) rfl ?_
        refine XO.neq rfl rfl rfl ?_
        refine XO.pickF rfl (by rw [e4]; rfl) rfl rfl ?_
        refine XO.move rfl rfl ?_
        refine XO.guardT rfl rfl (by rw [e5]; rfl) rfl ?_
        refine XO.move rfl rfl ?_
        refine XO.guardT rfl rfl (by rw [e5]; rfl) rfl ?_
        refine XO.neq rfl rfl rfl ?_
        refine XO.pickF rfl (by rw [e5]; rfl) rfl rfl ?_
        refine XO.move rfl rfl ?_
        refine XO.guardT rfl rfl (by rw [e3]; rfl) rfl ?_
        refine XO.loadO 4 rfl rfl ty_25 rfl rfl rfl ?_
        refine XO.guardT rfl rfl (by rw [e3]; rfl) rfl ?_
        refine XO.loadO 3 rfl rfl ty_25 rfl rfl rfl ?_
        refine XO.guardT rfl rfl (by rw [e3]; rfl) rfl ?_
        refine XO.callV rfl (same_fn _ _ _ _ _ _ _ _ (cutN n a b true) (cutN n b a true) _ i41 j41 (by omega) (by omega) i52 j52) rfl ?_
        refine XO.guardT rfl rfl (by rw [e3]; rfl) rfl ?_
        refine XO.notB rfl rfl ?_
        refine XO.pickF rfl (by rw [e3]; rfl) rfl rfl ?_
        refine XO.move rfl rfl ?_
        refine XO.guardT rfl rfl (by rw [decide_eq_true hxy]; rfl) rfl ?_
        refine XO.loadO 4 rfl rfl ty_25 rfl rfl rfl ?_
        refine XO.guardT rfl rfl (by rw [decide_eq_true hxy]; rfl) rfl ?_
        refine XO.loadO 2 rfl rfl ty_25 rfl rfl rfl ?_
        refine XO.guardT rfl rfl (by rw [decide_eq_true hxy]; rfl) rfl ?_
        refine XO.callV rfl (same_fn _ _ _ _ _ _ _ _ (cutN n a b true) (cutN (cutN n a b true) a b true) _ i41 j41 (by omega) (by omega) i59 j59) rfl ?_
        refine XO.guardT rfl rfl (by rw [decide_eq_true hxy]; rfl) rfl ?_
        refine XO.notB rfl rfl ?_
        refine XO.pickF rfl (by rw [decide_eq_true hxy]; rfl) rfl rfl ?_
        refine XO.move rfl rfl ?_
        refine XO.guardT rfl rfl (by rw [decide_eq_true hxz]; rfl) rfl ?_
        refine XO.loadO 1 rfl rfl ty_25 rfl rfl rfl ?_
        refine XO.guardT rfl rfl (by rw [decide_eq_true hxz]; rfl) rfl ?_
        refine XO.loadO 0 rfl rfl ty_25 rfl rfl rfl ?_
        refine XO.guardT rfl rfl (by rw [decide_eq_true hxz]; rfl) rfl ?_
        refine XO.callV rfl (same_fn _ _ _ _ _ _ _ _ (cutN (cutN n a b true) b a false) (cutN n a b false) _ i66 j66 (by omega) (by omega) i73 j73) rfl ?_
        refine XO.guardT rfl rfl (by rw [decide_eq_true hxz]; rfl) rfl ?_
        refine XO.notB rfl rfl ?_
        refine XO.pickF rfl (by rw [decide_eq_true hxz]; rfl) rfl rfl ?_
        refine XO.move rfl rfl ?_
        refine XO.guardT rfl rfl (by rw [decide_eq_true hmk]; rfl) rfl ?_
        refine XO.fieldAddr rfl fa_25_1 rfl ?_
        refine XO.guardT rfl rfl (by rw [decide_eq_true hmk]; rfl) rfl ?_
        refine XO.loadO 4 rfl rfl ty_23 rfl rfl rfl ?_
        refine XO.guardT rfl rfl (by rw [decide_eq_true hmk]; rfl) rfl ?_
        refine XO.lenS (ts := #[]) rfl Try.underlying23 rfl ?_
        refine XO.guardT rfl rfl (by rw [decide_eq_true hmk]; rfl) rfl ?_
        refine XO.fieldAddr rfl fa_25_1 rfl ?_
        refine XO.guardT rfl rfl (by rw [decide_eq_true hmk]; rfl) rfl ?_
        refine XO.loadO 0 rfl rfl ty_23 rfl rfl rfl ?_
        refine XO.guardT rfl rfl (by rw [decide_eq_true hmk]; rfl) rfl ?_
        refine XO.lenS (ts := #[]) rfl Try.underlying23 rfl ?_
        refine XO.guardT rfl rfl (by rw [decide_eq_true hmk]; rfl) rfl ?_
        refine XO.add rfl rfl (wrap_i64 (by omega) (by omega)) rfl ?_
        refine XO.guardT rfl rfl (by rw [decide_eq_true hmk]; rfl) rfl ?_
        refine XO.neq rfl rfl rfl ?_
        refine XO.pickF rfl (by rw [decide_eq_true hmk]; rfl) rfl rfl ?_
        refine XO.nil ?_
        refine XC.seq2 ?_
        refine XC.condF rfl (decide_eq_false (by omega)) ?_
        refine XC.skip ?_
        refine XC.seq2 ?_
        refine XC.seq ?_
        refine XC.seq ?_
        refine XC.region ?_
        refine XO.fieldAddr rfl fa_25_0 rfl ?_
        refine XO.loadO 5 rfl rfl ty_22 rfl rfl rfl ?_
        refine XO.lenS (ts := #[]) rfl Try.underlying22 rfl ?_
        refine XO.eql rfl rfl rfl ?_
        refine XO.nil ?_
        refine XC.seq2 ?_
        refine XC.cond rfl (fun c4_15 => ?_) (fun c4_15 => ?_)
        · refine XC.seq ?_
          refine XC.region ?_
          refine XO.assign rfl rfl ?_
          refine XO.nil ?_
          refine XC.seq2 ?_
          refine XC.ret ?_
          refine seqX_ret ?_
          refine ⟨rfl, _, [], rfl, (by repeat (first | exact List.Sublist.refl _ | apply List.Sublist.cons)), RetR.mk ?_⟩
          first | rfl | (clear hxy hxz hmk hcount e1 e2 e3 e4 e5 n1 n2 n3 n4 n5 d1 d2 d3 d4 q1 q2 q3 q4 q5; rcases hAB with ⟨ho, hne, hT⟩ | ⟨ho, hne, hT⟩ <;> simp_all [resV])
        · refine XC.skip ?_
          refine XC.seq2 ?_
          refine XC.seq ?_
          refine XC.region ?_
          refine XO.move rfl rfl ?_
          refine XO.fieldAddr rfl fa_25_0 rfl ?_
          refine XO.loadO 5 rfl rfl ty_22 rfl rfl rfl ?_
          refine XO.lenS (ts := #[]) rfl Try.underlying22 rfl ?_
          refine XO.convI rfl Try.underlying3 Try.underlying42 (wrap_u64 (by omega) (by omega)) rfl ?_
          obtain ⟨k, hk⟩ : ∃ k : Nat, u % (n.q.length : Int) = k := ⟨_, (Int.toNat_of_nonneg (Int.emod_nonneg _ (by omega))).symm⟩
          have hkl : k < n.q.length := by have := Int.emod_lt_of_pos u (show 0 < (n.q.length : Int) by omega); omega
          obtain ⟨x, hx⟩ : ∃ x, n.q[k]? = some x := ⟨_, List.getElem?_eq_getElem hkl⟩
          obtain ⟨d1, d2⟩ := del_cut hnet hs hx true
          obtain ⟨d3, d4⟩ := del_cut hnet hs hx false
          refine XO.rem (c := (k : Int)) rfl rfl (by omega) (by rw [rem_nn (by omega)]; exact hk) rfl ?_
          refine XO.convI rfl Try.underlying42 Try.underlying3 (wrap_i64 (by omega) (by omega)) rfl ?_
          refine XO.assign rfl rfl ?_
          refine XO.nil ?_
          refine XC.seq2 ?_
          refine XC.seq ?_
          refine XC.region ?_
          refine XO.loadO 4 rfl rfl ty_25 rfl rfl rfl ?_
          refine XO.move rfl rfl ?_
          refine XO.callH rfl (deliver_fn _ _ _ _ (cutN n a b true) (k : Int) _ i41 j41 (by omega) (by omega)) rfl ?_
          rintro _ HD132 hleD132 ⟨_, _, rfl, ⟨a132, c132, rfl, h132⟩, ⟨d132, e132, f132, g132, rfl, i132, j132⟩⟩
          replace hq := hq.mono hleD132
          replace hp := hp.mono hleD132
          replace i41 := i41.mono hleD132
          replace j41 := j41.mono hleD132
          replace i52 := i52.mono hleD132
          replace j52 := j52.mono hleD132
          replace i59 := i59.mono hleD132
          replace j59 := j59.mono hleD132
          replace i66 := i66.mono hleD132
          replace j66 := j66.mono hleD132
          replace i73 := i73.mono hleD132
          replace j73 := j73.mono hleD132
          refine XO.move rfl rfl ?_
          refine XO.extract rfl rfl rfl ?_
          refine XO.extract rfl rfl rfl ?_
          refine XO.extract rfl rfl rfl ?_
          refine XO.alloc ze_28 rfl (fun b20 => ?_)
          refine XO.alloc ze_25 rfl (fun b21 => ?_)
          refine XO.storeO 1 rfl rfl rfl rfl ty_28 rfl rfl rfl rfl rfl ?_
          refine XO.storeO 0 rfl rfl rfl rfl ty_25 rfl rfl rfl rfl rfl ?_
          refine XO.assign rfl rfl ?_
          refine XO.nil ?_
          refine XC.seq2 ?_
          refine XC.seq ?_
          refine XC.region ?_
          refine XO.loadO 2 rfl rfl ty_25 rfl rfl rfl ?_
          refine XO.move rfl rfl ?_
          refine XO.callH rfl (deliver_fn _ _ _ _ (cutN n a b false) (k : Int) _ i73 j73 (by omega) (by omega)) rfl ?_
          rintro _ HD139 hleD139 ⟨_, _, rfl, ⟨a139, c139, rfl, h139⟩, ⟨d139, e139, f139, g139, rfl, i139, j139⟩⟩
          replace hq := hq.mono hleD139
          replace hp := hp.mono hleD139
          replace i41 := i41.mono hleD139
          replace j41 := j41.mono hleD139
          replace i52 := i52.mono hleD139
          replace j52 := j52.mono hleD139
          replace i59 := i59.mono hleD139
          replace j59 := j59.mono hleD139
          replace i66 := i66.mono hleD139
          replace j66 := j66.mono hleD139
          replace i73 := i73.mono hleD139
          replace j73 := j73.mono hleD139
          replace h132 := h132.mono hleD139
          replace i132 := i132.mono hleD139
          replace j132 := j132.mono hleD139
          refine XO.move rfl rfl ?_
          refine XO.extract rfl rfl rfl ?_
          refine XO.extract rfl rfl rfl ?_
          refine XO.extract rfl rfl rfl ?_
          refine XO.alloc ze_28 rfl (fun b23 => ?_)
          refine XO.alloc ze_25 rfl (fun b24 => ?_)
          refine XO.storeO 1 rfl rfl rfl rfl ty_28 rfl rfl rfl rfl rfl ?_
          refine XO.storeO 0 rfl rfl rfl rfl ty_25 rfl rfl rfl rfl rfl ?_
          refine XO.assign rfl rfl ?_
          refine XO.nil ?_
          refine XC.seq2 ?_
          refine XC.seq ?_
          refine XC.region ?_
          refine XO.fieldAddr rfl fa_28_0 rfl ?_
          refine XO.loadO 1 rfl rfl ty_3 rfl rfl rfl ?_
          refine XO.move rfl rfl ?_
          refine XO.eql rfl rfl rfl ?_
          refine XO.move rfl rfl ?_
          refine XO.guardC rfl rfl rfl rfl (fun g19 => ?_) (fun g19 => ?_)
          · have g19p := of_decide_eq_true g19
            refine XO.fieldAddr rfl fa_28_1 rfl ?_
            refine XO.guardT rfl rfl (g19) rfl ?_
            refine XO.loadO 1 rfl rfl ty_3 rfl rfl rfl ?_
            refine XO.guardT rfl rfl (g19) rfl ?_
            refine XO.move rfl rfl ?_
            refine XO.guardT rfl rfl (g19) rfl ?_
            refine XO.eql rfl rfl rfl ?_
            refine XO.pickT rfl (g19) rfl rfl ?_
            refine XO.move rfl rfl ?_
            refine XO.guardC rfl rfl rfl rfl (fun g20 => ?_) (fun g20 => ?_)
            · have g20p := of_decide_eq_false g20
              refine XO.fieldAddr rfl fa_28_0 rfl ?_
              refine XO.guardT rfl rfl (g20) rfl ?_
              refine XO.loadO 1 rfl rfl ty_3 rfl rfl rfl ?_
              refine XO.guardT rfl rfl (g20) rfl ?_
              refine XO.move rfl rfl ?_
              refine XO.guardT rfl rfl (g20) rfl ?_
              refine XO.eql rfl rfl rfl ?_
              refine XO.guardT rfl rfl (g20) rfl ?_
              refine XO.move rfl rfl ?_
              refine XO.guardC rfl rfl rfl rfl (fun g21 => ?_) (fun g21 => ?_)
              · have g21p := of_decide_eq_true g21
                refine XO.fieldAddr rfl fa_28_1 rfl ?_
                refine XO.guardT rfl rfl (g21) rfl ?_
                refine XO.loadO 1 rfl rfl ty_3 rfl rfl rfl ?_
                refine XO.guardT rfl rfl (g21) rfl ?_
                refine XO.move rfl rfl ?_
                refine XO.guardT rfl rfl (g21) rfl ?_
                refine XO.eql rfl rfl rfl ?_
                refine XO.guardT rfl rfl (g20) rfl ?_
                refine XO.pickT rfl (g21) rfl rfl ?_
                refine XO.pickF rfl (g20) rfl rfl ?_
                refine XO.assign rfl rfl ?_
                refine XO.nil ?_
                refine XC.seq2 ?_
                refine XC.seq ?_
                refine XC.region ?_
                have hAB := cuts_own hnet hs hx
                refine XO.move rfl rfl ?_
                refine XO.eql rfl rfl rfl ?_
                refine XO.move rfl rfl ?_
                refine XO.guardT rfl rfl (by rw [d1]; rfl) rfl ?_
                refine XO.move rfl rfl ?_
                refine XO.guardT rfl rfl (by rw [d1]; rfl) rfl ?_
                refine XO.eql rfl rfl rfl ?_
                refine XO.pickT rfl (by rw [d1]; rfl) rfl rfl ?_
                refine XO.move rfl rfl ?_
                refine XO.guardT rfl rfl (by rw [d3]; rfl) rfl ?_
                refine XO.loadO 3 rfl rfl ty_28 rfl rfl rfl ?_
                refine XO.guardT rfl rfl (by rw [d3]; rfl) rfl ?_
                refine XO.build bk_28 bf_28 ze_28 rfl rfl rfl ?_
                refine XO.guardT rfl rfl (by rw [d3]; rfl) rfl ?_
                refine XO.callV rfl (samep_fn (delP (cutN n a b true) (k : Int)) pk0 _ none _ 0 _ h132 (SlR.nil0 _ _)) rfl ?_
                refine XO.guardT rfl rfl (by rw [d3]; rfl) rfl ?_
                refine XO.move rfl rfl ?_
                refine XO.guardT rfl rfl (by rw [d3]; rfl) rfl ?_
                refine XO.move rfl rfl ?_
                refine XO.guardC rfl rfl rfl rfl (fun g23 => ?_) (fun g23 => ?_)
                · have g23p := of_decide_eq_false g23
                  refine XO.loadO 1 rfl rfl ty_28 rfl rfl rfl ?_
                  refine XO.guardT rfl rfl (g23) rfl ?_
                  refine XO.build bk_28 bf_28 ze_28 rfl rfl rfl ?_
                  refine XO.guardT rfl rfl (g23) rfl ?_
                  refine XO.callV rfl (samep_fn (delP (cutN n a b false) (k : Int)) pk0 _ none _ 0 _ h139 (SlR.nil0 _ _)) rfl ?_
                  refine XO.guardT rfl rfl (by rw [d3]; rfl) rfl ?_
                  refine XO.pickF rfl (g23) rfl rfl ?_
                  refine XO.guardT rfl rfl (by rw [d3]; rfl) rfl ?_
                  refine XO.eqlB rfl rfl Try.underlying4 rfl ?_
                  refine XO.pickT rfl (by rw [d3]; rfl) rfl rfl ?_
                  refine XO.move rfl rfl ?_
                  refine XO.guardC rfl rfl rfl rfl (fun g25 => ?_) (fun g25 => ?_)
                  · have g25p := of_decide_eq_true g25
                    refine XO.move rfl rfl ?_
                    refine XO.guardT rfl rfl (g25) rfl ?_
                    refine XO.move rfl rfl ?_
                    refine XO.guardC rfl rfl rfl rfl (fun g26 => ?_) (fun g26 => ?_)
                    · have g26p := of_decide_eq_false g26
                      refine XO.loadO 3 rfl rfl ty_28 rfl rfl rfl ?_
                      refine XO.guardT rfl rfl (g26) rfl ?_
                      refine XO.loadO 1 rfl rfl ty_28 rfl rfl rfl ?_
                      refine XO.guardT rfl rfl (g26) rfl ?_
                      refine XO.callV rfl (samep_fn (delP (cutN n a b true) (k : Int)) (delP (cutN n a b false) (k : Int)) _ _ _ _ _ h132 h139) rfl ?_
                      refine XO.guardT rfl rfl (g25) rfl ?_
                      refine XO.pickF rfl (g26) rfl rfl ?_
                      refine XO.pickT rfl (g25) rfl rfl ?_
                      refine XO.assign rfl rfl ?_
                      refine XO.nil ?_
                      refine XC.seq2 ?_
                      refine XC.ret ?_
                      refine ⟨rfl, _, [], rfl, (by repeat (first | exact List.Sublist.refl _ | apply List.Sublist.cons)), RetR.mk ?_⟩
                      first | rfl | (clear hxy hxz hmk hcount e1 e2 e3 e4 e5 n1 n2 n3 n4 n5 d1 d2 d3 d4 q1 q2 q3 q4 q5; rcases hAB with ⟨ho, hne, hT⟩ | ⟨ho, hne, hT⟩ <;> simp_all [resV])
                    · have g26p := of_decide_eq_true g26
                      refine XO.guardF rfl rfl (g26) rfl rfl ?_
                      refine XO.guardF rfl rfl (g26) rfl rfl ?_
                      refine XO.guardT rfl rfl (g25) rfl ?_
                      refine XO.pickT rfl (g26) rfl rfl ?_
                      refine XO.pickT rfl (g25) rfl rfl ?_
                      refine XO.assign rfl rfl ?_
                      refine XO.nil ?_
                      refine XC.seq2 ?_
                      refine XC.ret ?_
                      refine ⟨rfl, _, [], rfl, (by repeat (first | exact List.Sublist.refl _ | apply List.Sublist.cons)), RetR.mk ?_⟩
                      first | rfl | (clear hxy hxz hmk hcount e1 e2 e3 e4 e5 n1 n2 n3 n4 n5 d1 d2 d3 d4 q1 q2 q3 q4 q5; rcases hAB with ⟨ho, hne, hT⟩ | ⟨ho, hne, hT⟩ <;> simp_all [resV])
                  · have g25p := of_decide_eq_false g25
                    refine XO.guardF rfl rfl (g25) rfl rfl ?_
                    refine XO.guardU rfl rfl rfl rfl ?_
                    refine XO.guardU rfl rfl rfl rfl ?_
                    refine XO.guardU rfl rfl rfl rfl ?_
                    refine XO.guardF rfl rfl (g25) rfl rfl ?_
                    refine XO.pickF rfl (g25) rfl rfl ?_
                    refine XO.assign rfl rfl ?_
                    refine XO.nil ?_
                    refine XC.seq2 ?_
                    refine XC.ret ?_
                    refine ⟨rfl, _, [], rfl, (by repeat (first | exact List.Sublist.refl _ | apply List.Sublist.cons)), RetR.mk ?_⟩
                    first | rfl | (clear hxy hxz hmk hcount e1 e2 e3 e4 e5 n1 n2 n3 n4 n5 d1 d2 d3 d4 q1 q2 q3 q4 q5; rcases hAB with ⟨ho, hne, hT⟩ | ⟨ho, hne, hT⟩ <;> simp_all [resV])
                · have g23p := of_decide_eq_true g23
                  refine XO.guardF rfl rfl (g23) rfl rfl ?_
                  refine XO.guardF rfl rfl (g23) rfl rfl ?_
                  refine XO.guardT rfl rfl (by rw [d3]; rfl) rfl ?_
                  refine XO.pickT rfl (g23) rfl rfl ?_
                  refine XO.guardT rfl rfl (by rw [d3]; rfl) rfl ?_
                  refine XO.eqlB rfl rfl Try.underlying4 rfl ?_
                  refine XO.pickT rfl (by rw [d3]; rfl) rfl rfl ?_
                  refine XO.move rfl rfl ?_
                  refine XO.guardC rfl rfl rfl rfl (fun g28 => ?_) (fun g28 => ?_)
                  · have g28p := of_decide_eq_true g28
                    refine XO.move rfl rfl ?_
                    refine XO.guardT rfl rfl (g28) rfl ?_
                    refine XO.move rfl rfl ?_
                    refine XO.guardC rfl rfl rfl rfl (fun g29 => ?_) (fun g29 => ?_)
                    · have g29p := of_decide_eq_false g29
                      refine XO.loadO 3 rfl rfl ty_28 rfl rfl rfl ?_
                      refine XO.guardT rfl rfl (g29) rfl ?_
                      refine XO.loadO 1 rfl rfl ty_28 rfl rfl rfl ?_
                      refine XO.guardT rfl rfl (g29) rfl ?_
                      refine XO.callV rfl (samep_fn (delP (cutN n a b true) (k : Int)) (delP (cutN n a b false) (k : Int)) _ _ _ _ _ h132 h139) rfl ?_
                      refine XO.guardT rfl rfl (g28) rfl ?_
                      refine XO.pickF rfl (g29) rfl rfl ?_
                      refine XO.pickT rfl (g28) rfl rfl ?_
                      refine XO.assign rfl rfl ?_
                      refine XO.nil ?_
                      refine XC.seq2 ?_
                      refine XC.ret ?_
                      refine ⟨rfl, _, [], rfl, (by repeat (first | exact List.Sublist.refl _ | apply List.Sublist.cons)), RetR.mk ?_⟩
                      first | rfl | (clear hxy hxz hmk hcount e1 e2 e3 e4 e5 n1 n2 n3 n4 n5 d1 d2 d3 d4 q1 q2 q3 q4 q5; rcases hAB with ⟨ho, hne, hT⟩ | ⟨ho, hne, hT⟩ <;> simp_all [resV])
                    · have g29p := of_decide_eq_true g29
                      refine XO.guardF rfl rfl (g29) rfl rfl ?_
                      refine XO.guardF rfl rfl (g29) rfl rfl ?_
                      refine XO.guardT rfl rfl (g28) rfl ?_
                      refine XO.pickT rfl (g29) rfl rfl ?_
                      refine XO.pickT rfl (g28) rfl rfl ?_
                      refine XO.assign rfl rfl ?_
                      refine XO.nil ?_
                      refine XC.seq2 ?_
                      refine XC.ret ?_
                      refine ⟨rfl, _, [], rfl, (by repeat (first | exact List.Sublist.refl _ | apply List.Sublist.cons)), RetR.mk ?_⟩
                      first | rfl | (clear hxy hxz hmk hcount e1 e2 e3 e4 e5 n1 n2 n3 n4 n5 d1 d2 d3 d4 q1 q2 q3 q4 q5; rcases hAB with ⟨ho, hne, hT⟩ | ⟨ho, hne, hT⟩ <;> simp_all [resV])
                  · have g28p := of_decide_eq_false g28
                    refine XO.guardF rfl rfl (g28) rfl rfl ?_
                    refine XO.guardU rfl rfl rfl rfl ?_
                    refine XO.guardU rfl rfl rfl rfl ?_
                    refine XO.guardU rfl rfl rfl rfl ?_
                    refine XO.guardF rfl rfl (g28) rfl rfl ?_
                    refine XO.pickF rfl (g28) rfl rfl ?_
                    refine XO.assign rfl rfl ?_
                    refine XO.nil ?_
                    refine XC.seq2 ?_
                    refine XC.ret ?_
                    refine ⟨rfl, _, [], rfl, (by repeat (first | exact List.Sublist.refl _ | apply List.Sublist.cons)), RetR.mk ?_⟩
                    first | rfl | (clear hxy hxz hmk hcount e1 e2 e3 e4 e5 n1 n2 n3 n4 n5 d1 d2 d3 d4 q1 q2 q3 q4 q5; rcases hAB with ⟨ho, hne, hT⟩ | ⟨ho, hne, hT⟩ <;> simp_all [resV])
              · have g21p := of_decide_eq_false g21
                refine XO.guardF rfl rfl (g21) rfl rfl ?_
                refine XO.guardF rfl rfl (g21) rfl rfl ?_
                refine XO.guardF rfl rfl (g21) rfl rfl ?_
                refine XO.guardT rfl rfl (g20) rfl ?_
                refine XO.pickF rfl (g21) rfl rfl ?_
                refine XO.pickF rfl (g20) rfl rfl ?_
                refine XO.assign rfl rfl ?_
                refine XO.nil ?_
                refine XC.seq2 ?_
                refine XC.seq ?_
                refine XC.region ?_
                have hAB := cuts_own hnet hs hx
                refine XO.move rfl rfl ?_
                refine XO.eql rfl rfl rfl ?_
                refine XO.move rfl rfl ?_
                refine XO.guardT rfl rfl (by rw [d1]; rfl) rfl ?_
                refine XO.move rfl rfl ?_
                refine XO.guardT rfl rfl (by rw [d1]; rfl) rfl ?_
                refine XO.eql rfl rfl rfl ?_
                refine XO.pickT rfl (by rw [d1]; rfl) rfl rfl ?_
                refine XO.move rfl rfl ?_
                refine XO.guardT rfl rfl (by rw [d3]; rfl) rfl ?_
                refine XO.loadO 3 rfl rfl ty_28 rfl rfl rfl ?_
                refine XO.guardT rfl rfl (by rw [d3]; rfl) rfl ?_
                refine XO.build bk_28 bf_28 ze_28 rfl rfl rfl ?_
                refine XO.guardT rfl rfl (by rw [d3]; rfl) rfl ?_
                refine XO.callV rfl (samep_fn (delP (cutN n a b true) (k : Int)) pk0 _ none _ 0 _ h132 (SlR.nil0 _ _)) rfl ?_
                refine XO.guardT rfl rfl (by rw [d3]; rfl) rfl ?_
                refine XO.move rfl rfl ?_
                refine XO.guardT rfl rfl (by rw [d3]; rfl) rfl ?_
                refine XO.move rfl rfl ?_
                refine XO.guardT rfl rfl (rfl) rfl ?_
                refine XO.loadO 1 rfl rfl ty_28 rfl rfl rfl ?_
                refine XO.guardT rfl rfl (rfl) rfl ?_
                refine XO.build bk_28 bf_28 ze_28 rfl rfl rfl ?_
                refine XO.guardT rfl rfl (rfl) rfl ?_
                refine XO.callV rfl (samep_fn (delP (cutN n a b false) (k : Int)) pk0 _ none _ 0 _ h139 (SlR.nil0 _ _)) rfl ?_
                refine XO.guardT rfl rfl (by rw [d3]; rfl) rfl ?_
                refine XO.pickF rfl (rfl) rfl rfl ?_
                refine XO.guardT rfl rfl (by rw [d3]; rfl) rfl ?_
                refine XO.eqlB rfl rfl Try.underlying4 rfl ?_
                refine XO.pickT rfl (by rw [d3]; rfl) rfl rfl ?_
                refine XO.move rfl rfl ?_
                refine XO.guardC rfl rfl rfl rfl (fun g33 => ?_) (fun g33 => ?_)
                · have g33p := of_decide_eq_true g33
                  refine XO.move rfl rfl ?_
                  refine XO.guardT rfl rfl (g33) rfl ?_
                  refine XO.move rfl rfl ?_
                  refine XO.guardT rfl rfl (rfl) rfl ?_
                  refine XO.loadO 3 rfl rfl ty_28 rfl rfl rfl ?_
                  refine XO.guardT rfl rfl (rfl) rfl ?_
                  refine XO.loadO 1 rfl rfl ty_28 rfl rfl rfl ?_
                  refine XO.guardT rfl rfl (rfl) rfl ?_
                  refine XO.callV rfl (samep_fn (delP (cutN n a b true) (k : Int)) (delP (cutN n a b false) (k : Int)) _ _ _ _ _ h132 h139) rfl ?_
                  refine XO.guardT rfl rfl (g33) rfl ?_
                  refine XO.pickF rfl (rfl) rfl rfl ?_
                  refine XO.pickT rfl (g33) rfl rfl ?_
                  refine XO.assign rfl rfl ?_
                  refine XO.nil ?_
                  refine XC.seq2 ?_
                  refine XC.ret ?_
                  refine ⟨rfl, _, [], rfl, (by repeat (first | exact List.Sublist.refl _ | apply List.Sublist.cons)), RetR.mk ?_⟩
                  first | rfl | (clear hxy hxz hmk hcount e1 e2 e3 e4 e5 n1 n2 n3 n4 n5 d1 d2 d3 d4 q1 q2 q3 q4 q5; rcases hAB with ⟨ho, hne, hT⟩ | ⟨ho, hne, hT⟩ <;> simp_all [resV])
                · have g33p := of_decide_eq_false g33
                  refine XO.guardF rfl rfl (g33) rfl rfl ?_
                  refine XO.guardU rfl rfl rfl rfl ?_
                  refine XO.guardU rfl rfl rfl rfl ?_
                  refine XO.guardU rfl rfl rfl rfl ?_
                  refine XO.guardF rfl rfl (g33) rfl rfl ?_
                  refine XO.pickF rfl (g33) rfl rfl ?_
                  refine XO.assign rfl rfl ?_
                  refine XO.nil ?_
                  refine XC.seq2 ?_
                  refine XC.ret ?_
                  refine ⟨rfl, _, [], rfl, (by repeat (first | exact List.Sublist.refl _ | apply List.Sublist.cons)), RetR.mk ?_⟩
                  first | rfl | (clear hxy hxz hmk hcount e1 e2 e3 e4 e5 n1 n2 n3 n4 n5 d1 d2 d3 d4 q1 q2 q3 q4 q5; rcases hAB with ⟨ho, hne, hT⟩ | ⟨ho, hne, hT⟩ <;> simp_all [resV])
            · have g20p := of_decide_eq_true g20
              refine XO.guardF rfl rfl (g20) rfl rfl ?_
              refine XO.guardF rfl rfl (g20) rfl rfl ?_
              refine XO.guardF rfl rfl (g20) rfl rfl ?_
              refine XO.guardF rfl rfl (g20) rfl rfl ?_
              refine XO.guardU rfl rfl rfl rfl ?_
              refine XO.guardU rfl rfl rfl rfl ?_
              refine XO.guardU rfl rfl rfl rfl ?_
              refine XO.guardU rfl rfl rfl rfl ?_
              refine XO.guardF rfl rfl (g20) rfl rfl ?_
              refine XO.pickT rfl (g20) rfl rfl ?_
              refine XO.assign rfl rfl ?_
              refine XO.nil ?_
              refine XC.seq2 ?_
              refine XC.seq ?_
              refine XC.region ?_
              have hAB := cuts_own hnet hs hx
              refine XO.move rfl rfl ?_
              refine XO.eql rfl rfl rfl ?_
              refine XO.move rfl rfl ?_
              refine XO.guardT rfl rfl (by rw [d1]; rfl) rfl ?_
              refine XO.move rfl rfl ?_
              refine XO.guardT rfl rfl (by rw [d1]; rfl) rfl ?_
              refine XO.eql rfl rfl rfl ?_
              refine XO.pickT rfl (by rw [d1]; rfl) rfl rfl ?_
              refine XO.move rfl rfl ?_
              refine XO.guardT rfl rfl (by rw [d3]; rfl) rfl ?_
              refine XO.loadO 3 rfl rfl ty_28 rfl rfl rfl ?_
              refine XO.guardT rfl rfl (by rw [d3]; rfl) rfl ?_
              refine XO.build bk_28 bf_28 ze_28 rfl rfl rfl ?_
              refine XO.guardT rfl rfl (by rw [d3]; rfl) rfl ?_
              refine XO.callV rfl (samep_fn (delP (cutN n a b true) (k : Int)) pk0 _ none _ 0 _ h132 (SlR.nil0 _ _)) rfl ?_
              refine XO.guardT rfl rfl (by rw [d3]; rfl) rfl ?_
              refine XO.move rfl rfl ?_
              refine XO.guardT rfl rfl (by rw [d3]; rfl) rfl ?_
              refine XO.move rfl rfl ?_
              refine XO.guardF rfl rfl (rfl) rfl rfl ?_
              refine XO.guardF rfl rfl (rfl) rfl rfl ?_
              refine XO.guardF rfl rfl (rfl) rfl rfl ?_
              refine XO.guardT rfl rfl (by rw [d3]; rfl) rfl ?_
              refine XO.pickT rfl (rfl) rfl rfl ?_
              refine XO.guardT rfl rfl (by rw [d3]; rfl) rfl ?_
              refine XO.eqlB rfl rfl Try.underlying4 rfl ?_
              refine XO.pickT rfl (by rw [d3]; rfl) rfl rfl ?_
              refine XO.move rfl rfl ?_
              refine XO.guardC rfl rfl rfl rfl (fun g36 => ?_) (fun g36 => ?_)
              · have g36p := of_decide_eq_true g36
                refine XO.move rfl rfl ?_
                refine XO.guardT rfl rfl (g36) rfl ?_
                refine XO.move rfl rfl ?_
                refine XO.guardF rfl rfl (rfl) rfl rfl ?_
                refine XO.guardF rfl rfl (rfl) rfl rfl ?_
                refine XO.guardF rfl rfl (rfl) rfl rfl ?_
                refine XO.guardT rfl rfl (g36) rfl ?_
                refine XO.pickT rfl (rfl) rfl rfl ?_
                refine XO.pickT rfl (g36) rfl rfl ?_
                refine XO.assign rfl rfl ?_
                refine XO.nil ?_
                refine XC.seq2 ?_
                refine XC.ret ?_
                refine ⟨rfl, _, [], rfl, (by repeat (first | exact List.Sublist.refl _ | apply List.Sublist.cons)), RetR.mk ?_⟩
                first | rfl | (clear hxy hxz hmk hcount e1 e2 e3 e4 e5 n1 n2 n3 n4 n5 d1 d2 d3 d4 q1 q2 q3 q4 q5; rcases hAB with ⟨ho, hne, hT⟩ | ⟨ho, hne, hT⟩ <;> simp_all [resV])
              · have g36p := of_decide_eq_false g36
                refine XO.guardF rfl rfl (g36) rfl rfl ?_
                refine XO.guardU rfl rfl rfl rfl ?_
                refine XO.guardU rfl rfl rfl rfl ?_
                refine XO.guardU rfl rfl rfl rfl ?_
                refine XO.guardF rfl rfl (g36) rfl rfl ?_
                refine XO.pickF rfl (g36) rfl rfl ?_
                refine XO.assign rfl rfl ?_
                refine XO.nil ?_
                refine XC.seq2 ?_
                refine XC.ret ?_
                refine ⟨rfl, _, [], rfl, (by repeat (first | exact List.Sublist.refl _ | apply List.Sublist.cons)), RetR.mk ?_⟩
                first | rfl | (clear hxy hxz hmk hcount e1 e2 e3 e4 e5 n1 n2 n3 n4 n5 d1 d2 d3 d4 q1 q2 q3 q4 q5; rcases hAB with ⟨ho, hne, hT⟩ | ⟨ho, hne, hT⟩ <;> simp_all [resV])
          · have g19p := of_decide_eq_false g19
            refine XO.guardF rfl rfl (g19) rfl rfl ?_
            refine XO.guardF rfl rfl (g19) rfl rfl ?_
            refine XO.guardF rfl rfl (g19) rfl rfl ?_
            refine XO.pickF rfl (g19) rfl rfl ?_
            refine XO.move rfl rfl ?_
            refine XO.guardT rfl rfl (rfl) rfl ?_
            refine XO.fieldAddr rfl fa_28_0 rfl ?_
            refine XO.guardT rfl rfl (rfl) rfl ?_
            refine XO.loadO 1 rfl rfl ty_3 rfl rfl rfl ?_
            refine XO.guardT rfl rfl (rfl) rfl ?_
            refine XO.move rfl rfl ?_
            refine XO.guardT rfl rfl (rfl) rfl ?_
            refine XO.eql rfl rfl rfl ?_
            refine XO.guardT rfl rfl (rfl) rfl ?_
            refine XO.move rfl rfl ?_
            refine XO.guardC rfl rfl rfl rfl (fun g37 => ?_) (fun g37 => ?_)
            · have g37p := of_decide_eq_true g37
              refine XO.fieldAddr rfl fa_28_1 rfl ?_
              refine XO.guardT rfl rfl (g37) rfl ?_
              refine XO.loadO 1 rfl rfl ty_3 rfl rfl rfl ?_
              refine XO.guardT rfl rfl (g37) rfl ?_
              refine XO.move rfl rfl ?_
              refine XO.guardT rfl rfl (g37) rfl ?_
              refine XO.eql rfl rfl rfl ?_
              refine XO.guardT rfl rfl (rfl) rfl ?_
              refine XO.pickT rfl (g37) rfl rfl ?_
              refine XO.pickF rfl (rfl) rfl rfl ?_
              refine XO.assign rfl rfl ?_
              refine XO.nil ?_
              refine XC.seq2 ?_
              refine XC.seq ?_
              refine XC.region ?_
              have hAB := cuts_own hnet hs hx
              refine XO.move rfl rfl ?_
              refine XO.eql rfl rfl rfl ?_
              refine XO.move rfl rfl ?_
              refine XO.guardT rfl rfl (by rw [d1]; rfl) rfl ?_
              refine XO.move rfl rfl ?_
              refine XO.guardT rfl rfl (by rw [d1]; rfl) rfl ?_
              refine XO.eql rfl rfl rfl ?_
              refine XO.pickT rfl (by rw [d1]; rfl) rfl rfl ?_
              refine XO.move rfl rfl ?_
              refine XO.guardT rfl rfl (by rw [d3]; rfl) rfl ?_
              refine XO.loadO 3 rfl rfl ty_28 rfl rfl rfl ?_
              refine XO.guardT rfl rfl (by rw [d3]; rfl) rfl ?_
              refine XO.build bk_28 bf_28 ze_28 rfl rfl rfl ?_
              refine XO.guardT rfl rfl (by rw [d3]; rfl) rfl ?_
              refine XO.callV rfl (samep_fn (delP (cutN n a b true) (k : Int)) pk0 _ none _ 0 _ h132 (SlR.nil0 _ _)) rfl ?_
              refine XO.guardT rfl rfl (by rw [d3]; rfl) rfl ?_
              refine XO.move rfl rfl ?_
              refine XO.guardT rfl rfl (by rw [d3]; rfl) rfl ?_
              refine XO.move rfl rfl ?_
              refine XO.guardC rfl rfl rfl rfl (fun g39 => ?_) (fun g39 => ?_)
              · have g39p := of_decide_eq_false g39
                refine XO.loadO 1 rfl rfl ty_28 rfl rfl rfl ?_
                refine XO.guardT rfl rfl (g39) rfl ?_
                refine XO.build bk_28 bf_28 ze_28 rfl rfl rfl ?_
                refine XO.guardT rfl rfl (g39) rfl ?_
                refine XO.callV rfl (samep_fn (delP (cutN n a b false) (k : Int)) pk0 _ none _ 0 _ h139 (SlR.nil0 _ _)) rfl ?_
                refine XO.guardT rfl rfl (by rw [d3]; rfl) rfl ?_
                refine XO.pickF rfl (g39) rfl rfl ?_
                refine XO.guardT rfl rfl (by rw [d3]; rfl) rfl ?_
                refine XO.eqlB rfl rfl Try.underlying4 rfl ?_
                refine XO.pickT rfl (by rw [d3]; rfl) rfl rfl ?_
                refine XO.move rfl rfl ?_
                refine XO.guardC rfl rfl rfl rfl (fun g41 => ?_) (fun g41 => ?_)
                · have g41p := of_decide_eq_true g41
                  refine XO.move rfl rfl ?_
                  refine XO.guardT rfl rfl (g41) rfl ?_
                  refine XO.move rfl rfl ?_
                  refine XO.guardC rfl rfl rfl rfl (fun g42 => ?_) (fun g42 => ?_)
                  · have g42p := of_decide_eq_false g42
                    refine XO.loadO 3 rfl rfl ty_28 rfl rfl rfl ?_
                    refine XO.guardT rfl rfl (g42) rfl ?_
                    refine XO.loadO 1 rfl rfl ty_28 rfl rfl rfl ?_
                    refine XO.guardT rfl rfl (g42) rfl ?_
                    refine XO.callV rfl (samep_fn (delP (cutN n a b true) (k : Int)) (delP (cutN n a b false) (k : Int)) _ _ _ _ _ h132 h139) rfl ?_
                    refine XO.guardT rfl rfl (g41) rfl ?_
                    refine XO.pickF rfl (g42) rfl rfl ?_
                    refine XO.pickT rfl (g41) rfl rfl ?_
                    refine XO.assign rfl rfl ?_
                    refine XO.nil ?_
                    refine XC.seq2 ?_
                    refine XC.ret ?_
                    refine ⟨rfl, _, [], rfl, (by repeat (first | exact List.Sublist.refl _ | apply List.Sublist.cons)), RetR.mk ?_⟩
                    first | rfl | (clear hxy hxz hmk hcount e1 e2 e3 e4 e5 n1 n2 n3 n4 n5 d1 d2 d3 d4 q1 q2 q3 q4 q5; rcases hAB with ⟨ho, hne, hT⟩ | ⟨ho, hne, hT⟩ <;> simp_all [resV])
                  · have g42p := of_decide_eq_true g42
                    refine XO.guardF rfl rfl (g42) rfl rfl ?_
                    refine XO.guardF rfl rfl (g42) rfl rfl ?_
                    refine XO.guardT rfl rfl (g41) rfl ?_
                    refine XO.pickT rfl (g42) rfl rfl ?_
                    refine XO.pickT rfl (g41) rfl rfl ?_
                    refine XO.assign rfl rfl ?_
                    refine XO.nil ?_
                    refine XC.seq2 ?_
                    refine XC.ret ?_
                    refine ⟨rfl, _, [], rfl, (by repeat (first | exact List.Sublist.refl _ | apply List.Sublist.cons)), RetR.mk ?_⟩
                    first | rfl | (clear hxy hxz hmk hcount e1 e2 e3 e4 e5 n1 n2 n3 n4 n5 d1 d2 d3 d4 q1 q2 q3 q4 q5; rcases hAB with ⟨ho, hne, hT⟩ | ⟨ho, hne, hT⟩ <;> simp_all [resV])
                · have g41p := of_decide_eq_false g41
                  refine XO.guardF rfl rfl (g41) rfl rfl ?_
                  refine XO.guardU rfl rfl rfl rfl ?_
                  refine XO.guardU rfl rfl rfl rfl ?_
                  refine XO.guardU rfl rfl rfl rfl ?_
                  refine XO.guardF rfl rfl (g41) rfl rfl ?_
                  refine XO.pickF rfl (g41) rfl rfl ?_
                  refine XO.assign rfl rfl ?_
                  refine XO.nil ?_
                  refine XC.seq2 ?_
                  refine XC.ret ?_
                  refine ⟨rfl, _, [], rfl, (by repeat (first | exact List.Sublist.refl _ | apply List.Sublist.cons)), RetR.mk ?_⟩
                  first | rfl | (clear hxy hxz hmk hcount e1 e2 e3 e4 e5 n1 n2 n3 n4 n5 d1 d2 d3 d4 q1 q2 q3 q4 q5; rcases hAB with ⟨ho, hne, hT⟩ | ⟨ho, hne, hT⟩ <;> simp_all [resV])
              · have g39p := of_decide_eq_true g39
                refine XO.guardF rfl rfl (g39) rfl rfl ?_
                refine XO.guardF rfl rfl (g39) rfl rfl ?_
                refine XO.guardT rfl rfl (by rw [d3]; rfl) rfl ?_
                refine XO.pickT rfl (g39) rfl rfl ?_
                refine XO.guardT rfl rfl (by rw [d3]; rfl) rfl ?_
                refine XO.eqlB rfl rfl Try.underlying4 rfl ?_
                refine XO.pickT rfl (by rw [d3]; rfl) rfl rfl ?_
                refine XO.move rfl rfl ?_
                refine XO.guardC rfl rfl rfl rfl (fun g44 => ?_) (fun g44 => ?_)
                · have g44p := of_decide_eq_true g44
                  refine XO.move rfl rfl ?_
                  refine XO.guardT rfl rfl (g44) rfl ?_
                  refine XO.move rfl rfl ?_
                  refine XO.guardC rfl rfl rfl rfl (fun g45 => ?_) (fun g45 => ?_)
                  · have g45p := of_decide_eq_false g45
                    refine XO.loadO 3 rfl rfl ty_28 rfl rfl rfl ?_
                    refine XO.guardT rfl rfl (g45) rfl ?_
                    refine XO.loadO 1 rfl rfl ty_28 rfl rfl rfl ?_
                    refine XO.guardT rfl rfl (g45) rfl ?_
                    refine XO.callV rfl (samep_fn (delP (cutN n a b true) (k : Int)) (delP (cutN n a b false) (k : Int)) _ _ _ _ _ h132 h139) rfl ?_
                    refine XO.guardT rfl rfl (g44) rfl ?_
                    refine XO.pickF rfl (g45) rfl rfl ?_
                    refine XO.pickT rfl (g44) rfl rfl ?_
                    refine XO.assign rfl rfl ?_
                    refine XO.nil ?_
                    refine XC.seq2 ?_
                    refine XC.ret ?_
                    refine ⟨rfl, _, [], rfl, (by repeat (first | exact List.Sublist.refl _ | apply List.Sublist.cons)), RetR.mk ?_⟩
                    first | rfl | (clear hxy hxz hmk hcount e1 e2 e3 e4 e5 n1 n2 n3 n4 n5 d1 d2 d3 d4 q1 q2 q3 q4 q5; rcases hAB with ⟨ho, hne, hT⟩ | ⟨ho, hne, hT⟩ <;> simp_all [resV])
                  · have g45p := of_decide_eq_true g45
                    refine XO.guardF rfl rfl (g45) rfl rfl ?_
                    refine XO.guardF rfl rfl (g45) rfl rfl ?_
                    refine XO.guardT rfl rfl (g44) rfl ?_
                    refine XO.pickT rfl (g45) rfl rfl ?_
                    refine XO.pickT rfl (g44) rfl rfl ?_
                    refine XO.assign rfl rfl ?_
                    refine XO.nil ?_
                    refine XC.seq2 ?_
                    refine XC.ret ?_
                    refine ⟨rfl, _, [], rfl, (by repeat (first | exact List.Sublist.refl _ | apply List.Sublist.cons)), RetR.mk ?_⟩
                    first | rfl | (clear hxy hxz hmk hcount e1 e2 e3 e4 e5 n1 n2 n3 n4 n5 d1 d2 d3 d4 q1 q2 q3 q4 q5; rcases hAB with ⟨ho, hne, hT⟩ | ⟨ho, hne, hT⟩ <;> simp_all [resV])
                · have g44p := of_decide_eq_false g44
                  refine XO.guardF rfl rfl (g44) rfl rfl ?_
                  refine XO.guardU rfl rfl rfl rfl ?_
                  refine XO.guardU rfl rfl rfl rfl ?_
                  refine XO.guardU rfl rfl rfl rfl ?_
                  refine XO.guardF rfl rfl (g44) rfl rfl ?_
                  refine XO.pickF rfl (g44) rfl rfl ?_
                  refine XO.assign rfl rfl ?_
                  refine XO.nil ?_
                  refine XC.seq2 ?_
                  refine XC.ret ?_
                  refine ⟨rfl, _, [], rfl, (by repeat (first | exact List.Sublist.refl _ | apply List.Sublist.cons)), RetR.mk ?_⟩
                  first | rfl | (clear hxy hxz hmk hcount e1 e2 e3 e4 e5 n1 n2 n3 n4 n5 d1 d2 d3 d4 q1 q2 q3 q4 q5; rcases hAB with ⟨ho, hne, hT⟩ | ⟨ho, hne, hT⟩ <;> simp_all [resV])
            · have g37p := of_decide_eq_false g37
              refine XO.guardF rfl rfl (g37) rfl rfl ?_
              refine XO.guardF rfl rfl (g37) rfl rfl ?_
              refine XO.guardF rfl rfl (g37) rfl rfl ?_
              refine XO.guardT rfl rfl (rfl) rfl ?_
              refine XO.pickF rfl (g37) rfl rfl ?_
              refine XO.pickF rfl (rfl) rfl rfl ?_
              refine XO.assign rfl rfl ?_
              refine XO.nil ?_
              refine XC.seq2 ?_
              refine XC.seq ?_
              refine XC.region ?_
              have hAB := cuts_own hnet hs hx
              refine XO.move rfl rfl ?_
              refine XO.eql rfl rfl rfl ?_
              refine XO.move rfl rfl ?_
              refine XO.guardT rfl rfl (by rw [d1]; rfl) rfl ?_
              refine XO.move rfl rfl ?_
              refine XO.guardT rfl rfl (by rw [d1]; rfl) rfl ?_
              refine XO.eql rfl rfl rfl ?_
              refine XO.pickT rfl (by rw [d1]; rfl) rfl rfl ?_
              refine XO.move rfl rfl ?_
              refine XO.guardT rfl rfl (by rw [d3]; rfl) rfl ?_
              refine XO.loadO 3 rfl rfl ty_28 rfl rfl rfl ?_
              refine XO.guardT rfl rfl (by rw [d3]; rfl) rfl ?_
              refine XO.build bk_28 bf_28 ze_28 rfl rfl rfl ?_
              refine XO.guardT rfl rfl (by rw [d3]; rfl) rfl ?_
              refine XO.callV rfl (samep_fn (delP (cutN n a b true) (k : Int)) pk0 _ none _ 0 _ h132 (SlR.nil0 _ _)) rfl ?_
              refine XO.guardT rfl rfl (by rw [d3]; rfl) rfl ?_
              refine XO.move rfl rfl ?_
              refine XO.guardT rfl rfl (by rw [d3]; rfl) rfl ?_
              refine XO.move rfl rfl ?_
              refine XO.guardT rfl rfl (rfl) rfl ?_
              refine XO.loadO 1 rfl rfl ty_28 rfl rfl rfl ?_
              refine XO.guardT rfl rfl (rfl) rfl ?_
              refine XO.build bk_28 bf_28 ze_28 rfl rfl rfl ?_
              refine XO.guardT rfl rfl (rfl) rfl ?_
              refine XO.callV rfl (samep_fn (delP (cutN n a b false) (k : Int)) pk0 _ none _ 0 _ h139 (SlR.nil0 _ _)) rfl ?_
              refine XO.guardT rfl rfl (by rw [d3]; rfl) rfl ?_
              refine XO.pickF rfl (rfl) rfl rfl ?_
              refine XO.guardT rfl rfl (by rw [d3]; rfl) rfl ?_
              refine XO.eqlB rfl rfl Try.underlying4 rfl ?_
              refine XO.pickT rfl (by rw [d3]; rfl) rfl rfl ?_
              refine XO.move rfl rfl ?_
              refine XO.guardC rfl rfl rfl rfl (fun g49 => ?_) (fun g49 => ?_)
              · have g49p := of_decide_eq_true g49
                refine XO.move rfl rfl ?_
                refine XO.guardT rfl rfl (g49) rfl ?_
                refine XO.move rfl rfl ?_
                refine XO.guardT rfl rfl (rfl) rfl ?_
                refine XO.loadO 3 rfl rfl ty_28 rfl rfl rfl ?_
                refine XO.guardT rfl rfl (rfl) rfl ?_
                refine XO.loadO 1 rfl rfl ty_28 rfl rfl rfl ?_
                refine XO.guardT rfl rfl (rfl) rfl ?_
                refine XO.callV rfl (samep_fn (delP (cutN n a b true) (k : Int)) (delP (cutN n a b false) (k : Int)) _ _ _ _ _ h132 h139) rfl ?_
                refine XO.guardT rfl rfl (g49) rfl ?_
                refine XO.pickF rfl (rfl) rfl rfl ?_
                refine XO.pickT rfl (g49) rfl rfl ?_
                refine XO.assign rfl rfl ?_
                refine XO.nil ?_
                refine XC.seq2 ?_
                refine XC.ret ?_
                refine ⟨rfl, _, [], rfl, (by repeat (first | exact List.Sublist.refl _ | apply List.Sublist.cons)), RetR.mk ?_⟩
                first | rfl | (clear hxy hxz hmk hcount e1 e2 e3 e4 e5 n1 n2 n3 n4 n5 d1 d2 d3 d4 q1 q2 q3 q4 q5; rcases hAB with ⟨ho, hne, hT⟩ | ⟨ho, hne, hT⟩ <;> simp_all [resV])
              · have g49p := of_decide_eq_false g49
                refine XO.guardF rfl rfl (g49) rfl rfl ?_
                refine XO.guardU rfl rfl rfl rfl ?_
                refine XO.guardU rfl rfl rfl rfl ?_
                refine XO.guardU rfl rfl rfl rfl ?_
                refine XO.guardF rfl rfl (g49) rfl rfl ?_
                refine XO.pickF rfl (g49) rfl rfl ?_
                refine XO.assign rfl rfl ?_
                refine XO.nil ?_
                refine XC.seq2 ?_
                refine XC.ret ?_
                refine ⟨rfl, _, [], rfl, (by repeat (first | exact List.Sublist.refl _ | apply List.Sublist.cons)), RetR.mk ?_⟩
                first | rfl | (clear hxy hxz hmk hcount e1 e2 e3 e4 e5 n1 n2 n3 n4 n5 d1 d2 d3 d4 q1 q2 q3 q4 q5; rcases hAB with ⟨ho, hne, hT⟩ | ⟨ho, hne, hT⟩ <;> simp_all [resV])
  · have g3p := of_decide_eq_true g3
    refine XO.guardF rfl rfl (g3) rfl rfl ?_
    refine XO.guardF rfl rfl (g3) rfl rfl ?_
    refine XO.pickT rfl (g3) rfl rfl ?_
    refine XO.nil ?_
    refine XC.seq2 ?_
    refine XC.condT rfl (rfl) ?_
    refine XC.seq ?_
    refine XC.region ?_
    refine XO.assign rfl rfl ?_
    refine XO.nil ?_
    refine XC.seq2 ?_
    refine XC.ret ?_
    refine seqX_ret ?_
    refine ⟨rfl, _, [], rfl, (by repeat (first | exact List.Sublist.refl _ | apply List.Sublist.cons)), RetR.mk ?_⟩
    first | rfl | (clear hxy hxz hmk hcount e1 e2 e3 e4 e5 n1 n2 n3 n4 n5 d1 d2 d3 d4 q1 q2 q3 q4 q5; rcases hAB with ⟨ho, hne, hT⟩ | ⟨ho, hne, hT⟩ <;> simp_all [resV])

namespace networkCuts
open Go.ChangeShapes Go.WideShapes Go.ChangeAt Go.RowKit
open Go.ChangeMaps (open_string shut_string)
theorem own : ownKnob Try.prog.godebug = none := by kernel_rfl
theorem laidOut : laidOutB Try.prog = true := by kernel_rfl
set_option maxRecDepth 100000 in
theorem lifted (os : Os) (started : os.Started) (H : Type) (enc : TypeId × Value → H) :
    ReturnsInHanded {} Try.checked os 5 .any (Rows.networkCutsSpec.pre6 enc Try.prog Try.f5 Rows.networkCutsRow.domain false) (Rows.networkCutsSpec.post enc Try.prog Try.f5 false true false false) := by
  refine returnsInHanded_of_change (C := Try.checked) own started (by kernel_rfl) Try.func5
    (ChangeSpec.witness6 (enc := enc) (C := Try.checked) false ⟨#[], #[.agg ⟨[.slice none 0 0, .slice none 0 0]⟩, .int .i64 0, .int .i64 0, .int .u64 0], []⟩ 8 (by kernel_rfl) (by kernel_rfl) (by kernel_rfl) (by kernel_rfl)) ?_
  intro W base args ds gs before hval0 hW hcnd _
  have hval : ∀ (j : Nat) t v, Try.f5.params[j]? = some t → args[j]? = some v → Value.okWide Try.prog W .any base t v := hval0
  have hW' := hW
  obtain ⟨p, q, hA0, hV, rfl, hfz, hnd⟩ := hW
  have hA : DataW.TrodAll enc Try.prog W 0 (fun _ => true) true Try.f5.params.toList args.toList ds p := hA0
  rw [Try.params5] at hA hval
  obtain ⟨v0, vs0, d0, ds0, p0, q0, hargs, rfl, rfl, h0, r0⟩ := trodAll_cons hA
  obtain ⟨v1, vs1, d1, ds1, p1, q1, rfl, rfl, rfl, h1, r1⟩ := trodAll_cons r0
  obtain ⟨v2, vs2, d2, ds2, p2, q2, rfl, rfl, rfl, h2, r2⟩ := trodAll_cons r1
  obtain ⟨v3, vs3, d3, ds3, p3, q3, rfl, rfl, rfl, h3, r3⟩ := trodAll_cons r2
  obtain ⟨rfl, rfl, rfl⟩ := trodAll_nil r3
  obtain rfl : args = #[v0, v1, v2, v3] := by cases args; simp_all
  obtain ⟨rfl, rfl⟩ := trodVars_none hV
  have k0 := h0
  have lt0 : ∀ x ∈ p0, x.block < W.heap.size := by obtain ⟨m, hm⟩ := k0; exact DataW.trod_lt m _ _ _ hm
  obtain ⟨fuel0, hf0⟩ := h0
  obtain ⟨l0, cl0, rfl, hR0, hw0⟩ := open_agg opens_net Try.underlying25 (hval 0 25 v0 rfl rfl) hf0
  obtain ⟨aq0, cq0, ap0, cp0, rfl, hq0, hp0⟩ := hR0
  obtain ⟨a1, rfl, rfl, rfl, w1⟩ := open_int Try.underlying3 (hval 1 3 v1 rfl rfl) h1
  obtain ⟨a2, rfl, rfl, rfl, w2⟩ := open_int Try.underlying3 (hval 2 3 v2 rfl rfl) h2
  obtain ⟨a3, rfl, rfl, rfl, w3⟩ := open_int Try.underlying42 (hval 3 42 v3 rfl rfl) h3
  clear hA0 hval0
  refine (networkCuts_fn _ _ _ _ l0 a1 a2 a3 (hpOf W) hq0 hp0 (wf_u64 w3).1 (wf_u64 w3).2).below.mono fun e W' ⟨he, bel⟩ => ?_
  subst he
  exact ⟨_, rfl, _, _, _, [], _, [], hW', trodAll_mk1 (shut_bool Try.underlying4 _), (trodAll_cons_mk (Below.trod laidOut (by kernel_rfl) (of_decide_eq_true (by kernel_rfl)) k0 bel lt0) (trodAll_cons_mk (shut_int Try.underlying3 w1) (trodAll_cons_mk (shut_int Try.underlying3 w2) (trodAll_cons_mk (shut_int Try.underlying42 w3) trodAll_mk0)))), rfl, bel.frame _, fun h => by cases h⟩
theorem over : Rows.networkCutsRow.holds Try.pinned (OpenSpec.ofChange Rows.networkCutsSpec) :=
  OpenClaim.holds_of_wide 5 Try.f5 rfl rfl rfl rfl rfl rfl rfl ⟨rfl, rfl, rfl, rfl, rfl⟩ rfl rfl rfl rfl rfl (by kernel_rfl) Try.func5 (by kernel_rfl)
    (of_decide_eq_true (by kernel_rfl)) (by unfold Func.isWrapper; first | (rw [if_pos (by decide +kernel)]; kernel_rfl) | (rw [if_neg (by decide +kernel)]; exact ⟨rfl, rfl⟩))
    (fun os started H enc _ => lifted os started H enc)
/-- The given statement. -/
theorem proved : Rows.NetworkCutsSaid := over
#print axioms proved
end networkCuts
end Go.Proofs.Ytonmnpdhpailcaa
