/- The law NetworkLost: it returns true, whatever the input, and what it was handed reads as before. No condition. -/
import Derived.Test.YtonmnpdhpailcaaRbO
import Derived.Test.YtonmnpdhpailcaaRbD
import Derived.Test.YtonmnpdhpailcaaXLt
import Derived.Test.YtonmnpdhpailcaaRbN
import Derived.Test.YtonmnpdhpailcaaRows
import Derived.WalkKit
import Derived.ProofKit
import Derived.OpenShut
import Derived.ShutString
import Derived.ChangeOld
import Derived.Below
set_option autoImplicit false
set_option linter.unusedVariables false
set_option linter.unusedSimpArgs false
namespace Go.Proofs.Ytonmnpdhpailcaa
open Go.XL



set_option maxRecDepth 100000 in
set_option maxHeartbeats 1600000 in
theorem networkLost_fn (aq ap : Option Addr) (cq cp : Nat) (n : Nt) (u : Int) (H : Hp) (hq : SlR pkR H aq cq n.q) (hp : SlR pairR H ap cp n.ap) (hu0 : 0 ≤ u) (hu1 : u < 18446744073709551616) : FnC Try.prog 8 #[.agg ⟨[.slice aq n.q.length cq, .slice ap n.ap.length cp]⟩, .int .u64 u] H [] (RetR fun v _ _ => v = .bool true) := by
  refine FnC.intro (args := [.agg ⟨[.slice aq n.q.length cq, .slice ap n.ap.length cp]⟩, .int .u64 u]) Try.func8 rfl rfl Try.ntmps8 rfl rfl rfl fun G rest => ?_
  refine XC.seq ?_
  refine XC.region ?_
  refine XO.box rfl rfl rfl (fun b2 => ?_)
  refine XO.assign rfl rfl ?_
  refine XO.nil ?_
  refine XC.seq2 ?_
  refine XC.seq ?_
  refine XC.seq ?_
  refine XC.region ?_
  refine XO.callV rfl (sane06 _) rfl ?_
  refine XO.notB rfl rfl ?_
  refine XO.nil ?_
  refine XC.seq2 ?_
  refine XC.condF rfl (rfl) ?_
  refine XC.skip ?_
  refine XC.seq2 ?_
  refine XC.seq ?_
  refine XC.seq ?_
  refine XC.region ?_
  refine XO.loadO 0 rfl rfl ty_25 rfl rfl rfl ?_
  refine XO.callV rfl (few_fn _ _ _ _ _ _) rfl ?_
  refine XO.not rfl rfl ?_
  refine XO.move rfl rfl ?_
  refine XO.guardC rfl rfl rfl rfl (fun g3 => ?_) (fun g3 => ?_)
  · have g3p := of_decide_eq_false g3
    have hfew : n.q.length ≤ 40 ∧ n.ap.length ≤ 40 := Decidable.not_not.1 (by assumption)
    have hlq : n.q.length < 4611686018427387904 := by omega
    have hlp : n.ap.length < 4611686018427387904 := by omega
    
    refine XO.loadO 0 rfl rfl ty_25 rfl rfl rfl ?_
    refine XO.guardT rfl rfl (g3) rfl ?_
    refine XO.callV rfl (check_fn _ _ _ _ n _ hq hp hlq hlp) rfl ?_
    refine XO.guardT rfl rfl (g3) rfl ?_
    refine XO.neq rfl rfl rfl ?_
    refine XO.pickF rfl (g3) rfl rfl ?_
    refine XO.move rfl rfl ?_
    refine XO.guardC rfl rfl rfl rfl (fun g5 => ?_) (fun g5 => ?_)
    · have g5p := of_decide_eq_false g5
      refine XO.fieldAddr rfl fa_25_0 rfl ?_
      refine XO.guardT rfl rfl (g5) rfl ?_
      refine XO.loadO 0 rfl rfl ty_22 rfl rfl rfl ?_
      refine XO.guardT rfl rfl (g5) rfl ?_
      refine XO.lenS (ts := #[]) rfl Try.underlying22 rfl ?_
      refine XO.guardT rfl rfl (g5) rfl ?_
      refine XO.eql rfl rfl rfl ?_
      refine XO.pickF rfl (g5) rfl rfl ?_
      refine XO.nil ?_
      refine XC.seq2 ?_
      refine XC.cond rfl (fun c1_6 => ?_) (fun c1_6 => ?_)
      · refine XC.seq ?_
        refine XC.region ?_
        refine XO.assign rfl rfl ?_
        refine XO.nil ?_
        refine XC.seq2 ?_
        refine XC.ret ?_
        refine seqX_ret ?_
        refine ⟨rfl, _, [], rfl, (by repeat (first | exact List.Sublist.refl _ | apply List.Sublist.cons)), RetR.mk ?_⟩
        first | rfl | exact congrArg Value.bool (by rw [l1]; simp)
      · have hnet : netOk n := chk_eq.1 (by omega)
        refine XC.skip ?_
        refine XC.seq2 ?_
        refine XC.seq ?_
        refine XC.region ?_
        refine XO.move rfl rfl ?_
        refine XO.fieldAddr rfl fa_25_0 rfl ?_
        refine XO.loadO 0 rfl rfl ty_22 rfl rfl rfl ?_
        refine XO.lenS (ts := #[]) rfl Try.underlying22 rfl ?_
        refine XO.convI rfl Try.underlying3 Try.underlying42 (wrap_u64 (by omega) (by omega)) rfl ?_
        obtain ⟨k, hk⟩ : ∃ k : Nat, u % (n.q.length : Int) = k := ⟨_, (Int.toNat_of_nonneg (Int.emod_nonneg _ (by omega))).symm⟩
        have hkl : k < n.q.length := by have := Int.emod_lt_of_pos u (show 0 < (n.q.length : Int) by omega); omega
        obtain ⟨x, hx⟩ : ∃ x, n.q[k]? = some x := ⟨_, List.getElem?_eq_getElem hkl⟩
        obtain ⟨l1, l2, l3, l4, l5⟩ := lost hnet (by omega) hx
        have hrl := rep_len n (k : Int)
        have hdl := del_len n (k : Int)
        have hdl2 := del_len (repV n (k : Int)).1 (k : Int)
        have hsl := send_len (delN n (k : Int)) x
        refine XO.rem (c := (k : Int)) rfl rfl (by omega) (by rw [rem_nn (by omega)]; exact hk) rfl ?_
        refine XO.convI rfl Try.underlying42 Try.underlying3 (wrap_i64 (by omega) (by omega)) rfl ?_
        refine XO.assign rfl rfl ?_
        refine XO.nil ?_
        refine XC.seq2 ?_
        refine XC.seq ?_
        refine XC.region ?_
        refine XO.loadO 0 rfl rfl ty_25 rfl rfl rfl ?_
        refine XO.move rfl rfl ?_
        refine XO.callH rfl (deliver_fn _ _ _ _ n (k : Int) _ hq hp hlq hlp) rfl ?_
        rintro _ HD43 hleD43 ⟨_, _, rfl, ⟨a43, c43, rfl, h43⟩, ⟨d43, e43, f43, g43, rfl, i43, j43⟩⟩
        replace hq := hq.mono hleD43
        replace hp := hp.mono hleD43
        refine XO.move rfl rfl ?_
        refine XO.extract rfl rfl rfl ?_
        refine XO.extract rfl rfl rfl ?_
        refine XO.extract rfl rfl rfl ?_
        refine XO.alloc ze_28 rfl (fun b6 => ?_)
        refine XO.alloc ze_25 rfl (fun b7 => ?_)
        refine XO.storeO 1 rfl rfl rfl rfl ty_28 rfl rfl rfl rfl rfl ?_
        refine XO.storeO 0 rfl rfl rfl rfl ty_25 rfl rfl rfl rfl rfl ?_
        refine XO.assign rfl rfl ?_
        refine XO.nil ?_
        refine XC.seq2 ?_
        refine XC.seq ?_
        refine XC.region ?_
        refine XO.loadO 2 rfl rfl ty_25 rfl rfl rfl ?_
        refine XO.move rfl rfl ?_
        refine XO.callH rfl (lose_fn _ _ _ _ n (k : Int) _ hq hp hlq hlp) rfl ?_
        rintro _ HD50 hleD50 ⟨_, rfl, ⟨d50, e50, f50, g50, rfl, i50, j50⟩⟩
        replace hq := hq.mono hleD50
        replace hp := hp.mono hleD50
        replace h43 := h43.mono hleD50
        replace i43 := i43.mono hleD50
        replace j43 := j43.mono hleD50
        refine XO.move rfl rfl ?_
        refine XO.extract rfl rfl rfl ?_
        refine XO.extract rfl rfl rfl ?_
        refine XO.alloc ze_25 rfl (fun b9 => ?_)
        refine XO.storeO 0 rfl rfl rfl rfl ty_25 rfl rfl rfl rfl rfl ?_
        refine XO.assign rfl rfl ?_
        refine XO.nil ?_
        refine XC.seq2 ?_
        refine XC.seq ?_
        refine XC.region ?_
        refine XO.loadO 3 rfl rfl ty_25 rfl rfl rfl ?_
        refine XO.move rfl rfl ?_
        refine XO.callH rfl (repeat_fn _ _ _ _ n (k : Int) _ hq hp hlq hlp) rfl ?_
        rintro _ HD56 hleD56 ⟨_, rfl, ⟨d56, e56, f56, g56, rfl, i56, j56⟩⟩
        replace hq := hq.mono hleD56
        replace hp := hp.mono hleD56
        replace h43 := h43.mono hleD56
        replace i43 := i43.mono hleD56
        replace j43 := j43.mono hleD56
        replace i50 := i50.mono hleD56
        replace j50 := j50.mono hleD56
        refine XO.move rfl rfl ?_
        refine XO.extract rfl rfl rfl ?_
        refine XO.extract rfl rfl rfl ?_
        refine XO.alloc ze_25 rfl (fun b11 => ?_)
        refine XO.storeO 0 rfl rfl rfl rfl ty_25 rfl rfl rfl rfl rfl ?_
        refine XO.assign rfl rfl ?_
        refine XO.nil ?_
        refine XC.seq2 ?_
        refine XC.seq ?_
        refine XC.region ?_
        refine XO.loadO 0 rfl rfl ty_25 rfl rfl rfl ?_
        refine XO.move rfl rfl ?_
        refine XO.callH rfl (lose_fn _ _ _ _ (repV n (k : Int)).1 (k : Int) _ i56 j56 (by omega) (by omega)) rfl ?_
        rintro _ HD62 hleD62 ⟨_, rfl, ⟨d62, e62, f62, g62, rfl, i62, j62⟩⟩
        replace hq := hq.mono hleD62
        replace hp := hp.mono hleD62
        replace h43 := h43.mono hleD62
        replace i43 := i43.mono hleD62
        replace j43 := j43.mono hleD62
        replace i50 := i50.mono hleD62
        replace j50 := j50.mono hleD62
        replace i56 := i56.mono hleD62
        replace j56 := j56.mono hleD62
        refine XO.move rfl rfl ?_
        refine XO.extract rfl rfl rfl ?_
        refine XO.extract rfl rfl rfl ?_
        refine XO.alloc ze_25 rfl (fun b13 => ?_)
        refine XO.storeO 0 rfl rfl rfl rfl ty_25 rfl rfl rfl rfl rfl ?_
        refine XO.assign rfl rfl ?_
        refine XO.nil ?_
        refine XC.seq2 ?_
        refine XC.seq ?_
        refine XC.keep [2, 5, 7, 8, 9, 10, 11, 12, 13, 14] rfl ?_
        obtain ⟨bEX, oEX, rfl⟩ := hq.addr (by omega)
        obtain ⟨_, xX, hxX, ⟨axX, cxX, rfl, hdX⟩, hpX⟩ := hq.elem (k) (by omega)
        obtain rfl := Option.some.inj (hx.symm.trans hxX)
        apply XC.drawM (fun _ => True) trivial [10] (by decide) [(11, 10)] (fun _ v p _ => v = .pointer (some ⟨p.1, 0, none⟩) ∧ p.2 = .cells 25 [.slice none 0 0, .slice none 0 0]) (fun _ v p H => ∃ a c b d, v = .pointer (some ⟨p.1, 0, none⟩) ∧ p.2 = .cells 25 [.slice a ((sendV (delN n k) x).1).q.length c, .slice b ((sendV (delN n k) x).1).ap.length d] ∧ SlR pkR H a c ((sendV (delN n k) x).1).q ∧ SlR pairR H b d ((sendV (delN n k) x).1).ap) (fun _ _ _ _ _ _ h => h) (fun _ _ _ _ _ hle ⟨a, c, b, d, h1, h2, h3, h4⟩ => ⟨a, c, b, d, h1, h2, h3.mono hle, h4.mono hle⟩) 12 [eqF _, eqF _, eqF _, eqF _, eqF _, eqF _, fun v H => ∃ v1, v = .tuple #[v1, .int .i64 (sendV (delN n k) x).2] ∧ NtV H v1 (sendV (delN n k) x).1, fun v H => ∃ v1, v = .tuple #[v1, .int .i64 (sendV (delN n k) x).2] ∧ NtV H v1 (sendV (delN n k) x).1, fun v H => NtV H v (sendV (delN n k) x).1, eqF _, anyF, anyF] follows (by kernel_rfl) ⟨eqF_mono _, eqF_mono _, eqF_mono _, eqF_mono _, eqF_mono _, eqF_mono _, fun _ _ _ hle ⟨v1, h1, h2⟩ => ⟨v1, h1, h2.mono hle⟩, fun _ _ _ hle ⟨v1, h1, h2⟩ => ⟨v1, h1, h2.mono hle⟩, fun _ _ _ hle h => h.mono hle, eqF_mono _, anyF_mono, anyF_mono, trivial⟩ (by decide) (by kernel_rfl) ?steps12 ?tail12
        case steps12 =>
          refine stepsM_cons rfl rfl ?_ ?_
          · intro X ext HD hleD _
            replace hq := hq.mono hleD
            replace hp := hp.mono hleD
            replace h43 := h43.mono hleD
            replace i43 := i43.mono hleD
            replace j43 := j43.mono hleD
            replace i50 := i50.mono hleD
            replace j50 := j50.mono hleD
            replace i56 := i56.mono hleD
            replace j56 := j56.mono hleD
            replace i62 := i62.mono hleD
            replace j62 := j62.mono hleD
            replace hpX := hpX.mono hleD
            replace hdX := hdX.mono hleD
            refine withP_nil rfl ?_
            refine XO.loadO 2 rfl rfl ty_25 rfl rfl rfl ?_
            refine XO.nil ?_
            exact stepQN_ok rfl trivial (rfl)
          refine stepsM_cons rfl rfl ?_ ?_
          · intro X ext HD hleD _
            replace hq := hq.mono hleD
            replace hp := hp.mono hleD
            replace h43 := h43.mono hleD
            replace i43 := i43.mono hleD
            replace j43 := j43.mono hleD
            replace i50 := i50.mono hleD
            replace j50 := j50.mono hleD
            replace i56 := i56.mono hleD
            replace j56 := j56.mono hleD
            replace i62 := i62.mono hleD
            replace j62 := j62.mono hleD
            replace hpX := hpX.mono hleD
            replace hdX := hdX.mono hleD
            refine withP_nil rfl ?_
            refine XO.fieldAddr rfl fa_25_0 rfl ?_
            refine XO.nil ?_
            exact stepQN_ok rfl trivial (rfl)
          refine stepsM_cons rfl rfl ?_ ?_
          · intro X ext HD hleD _
            replace hq := hq.mono hleD
            replace hp := hp.mono hleD
            replace h43 := h43.mono hleD
            replace i43 := i43.mono hleD
            replace j43 := j43.mono hleD
            replace i50 := i50.mono hleD
            replace j50 := j50.mono hleD
            replace i56 := i56.mono hleD
            replace j56 := j56.mono hleD
            replace i62 := i62.mono hleD
            replace j62 := j62.mono hleD
            replace hpX := hpX.mono hleD
            replace hdX := hdX.mono hleD
            refine withP_cons rfl rfl ?_
            rintro _ rfl
            refine withP_nil rfl ?_
            refine XO.loadO 5 rfl rfl ty_22 rfl rfl rfl ?_
            refine XO.nil ?_
            exact stepQN_ok rfl trivial (rfl)
          refine stepsM_cons rfl rfl ?_ ?_
          · intro X ext HD hleD _
            replace hq := hq.mono hleD
            replace hp := hp.mono hleD
            replace h43 := h43.mono hleD
            replace i43 := i43.mono hleD
            replace j43 := j43.mono hleD
            replace i50 := i50.mono hleD
            replace j50 := j50.mono hleD
            replace i56 := i56.mono hleD
            replace j56 := j56.mono hleD
            replace i62 := i62.mono hleD
            replace j62 := j62.mono hleD
            replace hpX := hpX.mono hleD
            replace hdX := hdX.mono hleD
            refine withP_nil rfl ?_
            refine XO.move rfl rfl ?_
            refine XO.nil ?_
            exact stepQN_ok rfl trivial (rfl)
          refine stepsM_cons rfl rfl ?_ ?_
          · intro X ext HD hleD _
            replace hq := hq.mono hleD
            replace hp := hp.mono hleD
            replace h43 := h43.mono hleD
            replace i43 := i43.mono hleD
            replace j43 := j43.mono hleD
            replace i50 := i50.mono hleD
            replace j50 := j50.mono hleD
            replace i56 := i56.mono hleD
            replace j56 := j56.mono hleD
            replace i62 := i62.mono hleD
            replace j62 := j62.mono hleD
            replace hpX := hpX.mono hleD
            replace hdX := hdX.mono hleD
            refine withP_cons rfl rfl ?_
            rintro _ rfl
            refine withP_cons rfl rfl ?_
            rintro _ rfl
            refine withP_nil rfl ?_
            refine XO.indexE rfl rfl Try.underlying22 ty_28 (by omega) (by omega) rfl ?_
            refine XO.nil ?_
            exact stepQN_ok rfl trivial (rfl)
          refine stepsM_cons rfl rfl ?_ ?_
          · intro X ext HD hleD _
            replace hq := hq.mono hleD
            replace hp := hp.mono hleD
            replace h43 := h43.mono hleD
            replace i43 := i43.mono hleD
            replace j43 := j43.mono hleD
            replace i50 := i50.mono hleD
            replace j50 := j50.mono hleD
            replace i56 := i56.mono hleD
            replace j56 := j56.mono hleD
            replace i62 := i62.mono hleD
            replace j62 := j62.mono hleD
            replace hpX := hpX.mono hleD
            replace hdX := hdX.mono hleD
            refine withP_cons rfl rfl ?_
            rintro _ rfl
            refine withP_nil rfl ?_
            refine XO.loadH rfl (by assumption) ty_28 rfl rfl rfl ?_
            refine XO.nil ?_
            exact stepQN_ok rfl trivial (rfl)
          refine stepsM_cons rfl rfl ?_ ?_
          · intro X ext HD hleD _
            replace hq := hq.mono hleD
            replace hp := hp.mono hleD
            replace h43 := h43.mono hleD
            replace i43 := i43.mono hleD
            replace j43 := j43.mono hleD
            replace i50 := i50.mono hleD
            replace j50 := j50.mono hleD
            replace i56 := i56.mono hleD
            replace j56 := j56.mono hleD
            replace i62 := i62.mono hleD
            replace j62 := j62.mono hleD
            replace hpX := hpX.mono hleD
            replace hdX := hdX.mono hleD
            refine withP_cons rfl rfl ?_
            rintro _ rfl
            refine withP_cons rfl rfl ?_
            rintro _ rfl
            refine withP_nil rfl ?_
            refine XO.callH rfl (send_fn _ _ _ _ (delN n (k : Int)) x _ _ _ i50 j50 (by omega) (by omega) hdX) rfl ?_
            rintro _ HD72 hleD72 ⟨_, rfl, ⟨d72, e72, f72, g72, rfl, i72, j72⟩⟩
            replace hq := hq.mono hleD72
            replace hp := hp.mono hleD72
            replace h43 := h43.mono hleD72
            replace i43 := i43.mono hleD72
            replace j43 := j43.mono hleD72
            replace i50 := i50.mono hleD72
            replace j50 := j50.mono hleD72
            replace i56 := i56.mono hleD72
            replace j56 := j56.mono hleD72
            replace i62 := i62.mono hleD72
            replace j62 := j62.mono hleD72
            replace hpX := hpX.mono hleD72
            replace hdX := hdX.mono hleD72
            refine XO.nil ?_
            exact stepQN_ok rfl trivial (⟨_, rfl, _, _, _, _, rfl, i72, j72⟩)
          refine stepsM_cons rfl rfl ?_ ?_
          · intro X ext HD hleD _
            replace hq := hq.mono hleD
            replace hp := hp.mono hleD
            replace h43 := h43.mono hleD
            replace i43 := i43.mono hleD
            replace j43 := j43.mono hleD
            replace i50 := i50.mono hleD
            replace j50 := j50.mono hleD
            replace i56 := i56.mono hleD
            replace j56 := j56.mono hleD
            replace i62 := i62.mono hleD
            replace j62 := j62.mono hleD
            replace hpX := hpX.mono hleD
            replace hdX := hdX.mono hleD
            refine withP_cons rfl rfl ?_
            rintro _ ⟨v6, rfl, a6, c6, b6, d6, rfl, h6, k6⟩
            refine withP_nil rfl ?_
            refine XO.move rfl rfl ?_
            refine XO.nil ?_
            exact stepQN_ok rfl trivial (⟨_, rfl, _, _, _, _, rfl, h6, k6⟩)
          refine stepsM_cons rfl rfl ?_ ?_
          · intro X ext HD hleD _
            replace hq := hq.mono hleD
            replace hp := hp.mono hleD
            replace h43 := h43.mono hleD
            replace i43 := i43.mono hleD
            replace j43 := j43.mono hleD
            replace i50 := i50.mono hleD
            replace j50 := j50.mono hleD
            replace i56 := i56.mono hleD
            replace j56 := j56.mono hleD
            replace i62 := i62.mono hleD
            replace j62 := j62.mono hleD
            replace hpX := hpX.mono hleD
            replace hdX := hdX.mono hleD
            refine withP_cons rfl rfl ?_
            rintro _ ⟨v7, rfl, a7, c7, b7, d7, rfl, h7, k7⟩
            refine withP_nil rfl ?_
            refine XO.extract rfl rfl rfl ?_
            refine XO.nil ?_
            exact stepQN_ok rfl trivial (⟨_, _, _, _, rfl, h7, k7⟩)
          refine stepsM_cons rfl rfl ?_ ?_
          · intro X ext HD hleD _
            replace hq := hq.mono hleD
            replace hp := hp.mono hleD
            replace h43 := h43.mono hleD
            replace i43 := i43.mono hleD
            replace j43 := j43.mono hleD
            replace i50 := i50.mono hleD
            replace j50 := j50.mono hleD
            replace i56 := i56.mono hleD
            replace j56 := j56.mono hleD
            replace i62 := i62.mono hleD
            replace j62 := j62.mono hleD
            replace hpX := hpX.mono hleD
            replace hdX := hdX.mono hleD
            refine withP_cons rfl rfl ?_
            rintro _ ⟨v7, rfl, a7, c7, b7, d7, rfl, h7, k7⟩
            refine withP_nil rfl ?_
            refine XO.extract rfl rfl rfl ?_
            refine XO.nil ?_
            exact stepQN_ok rfl trivial (rfl)
          refine stepsM_cons rfl rfl ?_ ?_
          · intro X ext HD hleD _
            replace hq := hq.mono hleD
            replace hp := hp.mono hleD
            replace h43 := h43.mono hleD
            replace i43 := i43.mono hleD
            replace j43 := j43.mono hleD
            replace i50 := i50.mono hleD
            replace j50 := j50.mono hleD
            replace i56 := i56.mono hleD
            replace j56 := j56.mono hleD
            replace i62 := i62.mono hleD
            replace j62 := j62.mono hleD
            replace hpX := hpX.mono hleD
            replace hdX := hdX.mono hleD
            refine withP_nil rfl ?_
            refine XO.alloc ze_25 rfl (fun b15 => ?_)
            refine XO.nil ?_
            exact stepQN_new rfl trivial trivial (⟨rfl, rfl⟩)
          refine stepsM_mod rfl rfl ?_ ?_
          · intro X ext p HD hleD _
            replace hq := hq.mono hleD
            replace hp := hp.mono hleD
            replace h43 := h43.mono hleD
            replace i43 := i43.mono hleD
            replace j43 := j43.mono hleD
            replace i50 := i50.mono hleD
            replace j50 := j50.mono hleD
            replace i56 := i56.mono hleD
            replace j56 := j56.mono hleD
            replace i62 := i62.mono hleD
            replace j62 := j62.mono hleD
            replace hpX := hpX.mono hleD
            replace hdX := hdX.mono hleD
            refine withP_cons rfl rfl ?_
            rintro _ _
            refine withP_cons rfl rfl ?_
            rintro _ ⟨a8, c8, b8, d8, rfl, h8, k8⟩
            refine withP_nil rfl ?_
            intro hfo
            obtain ⟨be10, se10⟩ := p
            obtain ⟨rfl, hse10⟩ := hfo _ _ rfl rfl
            simp only at hse10
            subst hse10
            refine XO.storeO 0 rfl rfl rfl rfl ty_25 rfl rfl rfl rfl rfl ?_
            refine XO.nil ?_
            exact stepQM_ok trivial trivial (fun u t h1 h2 => by cases (show some _ = some t from h1); cases (show some (Value.pointer _) = some u from h2); exact ⟨_, _, _, _, rfl, rfl, h8, k8⟩)
          exact stepsM_end rfl
        case tail12 =>
          intro HD hleD _
          replace hq := hq.mono hleD
          replace hp := hp.mono hleD
          replace h43 := h43.mono hleD
          replace i43 := i43.mono hleD
          replace j43 := j43.mono hleD
          replace i50 := i50.mono hleD
          replace j50 := j50.mono hleD
          replace i56 := i56.mono hleD
          replace j56 := j56.mono hleD
          replace i62 := i62.mono hleD
          replace j62 := j62.mono hleD
          replace hpX := hpX.mono hleD
          replace hdX := hdX.mono hleD
          refine withP_cons rfl rfl ?_
          rintro _ rfl
          refine withP_cons rfl rfl ?_
          rintro _ rfl
          refine withP_cons rfl rfl ?_
          rintro _ rfl
          refine withP_cons rfl rfl ?_
          rintro _ rfl
          refine withP_cons rfl rfl ?_
          rintro _ rfl
          refine withP_cons rfl rfl ?_
          rintro _ rfl
          refine withP_cons rfl rfl ?_
          rintro _ ⟨v6, rfl, a6, c6, b6, d6, rfl, h6, k6⟩
          refine withP_cons rfl rfl ?_
          rintro _ ⟨v7, rfl, a7, c7, b7, d7, rfl, h7, k7⟩
          refine withP_cons rfl rfl ?_
          rintro _ ⟨a8, c8, b8, d8, rfl, h8, k8⟩
          refine withP_cons rfl rfl ?_
          rintro _ rfl
          refine withP_cons rfl rfl ?_
          rintro _ _
          refine withP_skip rfl rfl ?_
          refine withP_nil rfl ?_
          refine withEnts_cons ?_
          intro pe hpe
          obtain ⟨am10, cm10, bm10, dm10, rfl, hpe2, hm10, km10⟩ := hpe _ ⟨_, rfl, rfl⟩
          obtain ⟨be10, se10⟩ := pe
          simp only at hpe2
          subst hpe2
          refine withEnts_nil ?_
          refine XO.assign rfl rfl ?_
          refine XO.nil ?_
          refine XC.seq2 ?_
          refine XC.seq ?_
          refine XC.region ?_
          refine XO.move rfl rfl ?_
          refine XO.eql rfl rfl rfl ?_
          refine XO.move rfl rfl ?_
          refine XO.guardT rfl rfl (decide_eq_true l5) rfl ?_
          refine XO.move rfl rfl ?_
          refine XO.guardT rfl rfl (decide_eq_true l5) rfl ?_
          refine XO.eql rfl rfl rfl ?_
          refine XO.pickT rfl (decide_eq_true l5) rfl rfl ?_
          refine XO.move rfl rfl ?_
          refine XO.guardT rfl rfl (decide_eq_true l5) rfl ?_
          refine XO.move rfl rfl ?_
          refine XO.guardT rfl rfl (decide_eq_true l5) rfl ?_
          refine XO.eql rfl rfl rfl ?_
          refine XO.pickT rfl (decide_eq_true l5) rfl rfl ?_
          refine XO.move rfl rfl ?_
          refine XO.guardT rfl rfl (by rw [l1]; rfl) rfl ?_
          refine XO.move rfl rfl ?_
          refine XO.guardT rfl rfl (by rw [l1]; rfl) rfl ?_
          refine XO.eql rfl rfl rfl ?_
          refine XO.pickT rfl (by rw [l1]; rfl) rfl rfl ?_
          refine XO.move rfl rfl ?_
          refine XO.guardT rfl rfl (by rw [l1, l2]; rfl) rfl ?_
          refine XO.move rfl rfl ?_
          refine XO.guardT rfl rfl (by rw [l1, l2]; rfl) rfl ?_
          refine XO.eql rfl rfl rfl ?_
          refine XO.pickT rfl (by rw [l1, l2]; rfl) rfl rfl ?_
          refine XO.move rfl rfl ?_
          refine XO.guardT rfl rfl (by rw [l3]; rfl) rfl ?_
          refine XO.loadO 4 rfl rfl ty_25 rfl rfl rfl ?_
          refine XO.guardT rfl rfl (by rw [l3]; rfl) rfl ?_
          refine XO.loadO 3 rfl rfl ty_25 rfl rfl rfl ?_
          refine XO.guardT rfl rfl (by rw [l3]; rfl) rfl ?_
          refine XO.callV rfl (same_fn _ _ _ _ _ _ _ _ (delN n (k : Int)) (delN n (k : Int)) _ i43 j43 (by omega) (by omega) i50 j50) rfl ?_
          refine XO.pickT rfl (by rw [l3]; rfl) rfl rfl ?_
          refine XO.move rfl rfl ?_
          refine XO.guardT rfl rfl (decide_eq_true rfl) rfl ?_
          refine XO.loadO 1 rfl rfl ty_25 rfl rfl rfl ?_
          refine XO.guardT rfl rfl (decide_eq_true rfl) rfl ?_
          refine XO.loadO 0 rfl rfl ty_25 rfl rfl rfl ?_
          refine XO.guardT rfl rfl (decide_eq_true rfl) rfl ?_
          refine XO.callV rfl (same_fn _ _ _ _ _ _ _ _ (delN (repV n (k : Int)).1 (k : Int)) (sendV (delN n (k : Int)) x).1 _ i62 j62 (by omega) (by omega) hm10 km10) rfl ?_
          refine XO.pickT rfl (decide_eq_true rfl) rfl rfl ?_
          refine XO.move rfl rfl ?_
          refine XO.guardT rfl rfl (by rw [l1, l3, l4]; exact decide_eq_true rfl) rfl ?_
          refine XO.fieldAddr rfl fa_25_0 rfl ?_
          refine XO.guardT rfl rfl (by rw [l1, l3, l4]; exact decide_eq_true rfl) rfl ?_
          refine XO.loadO 2 rfl rfl ty_22 rfl rfl rfl ?_
          refine XO.guardT rfl rfl (by rw [l1, l3, l4]; exact decide_eq_true rfl) rfl ?_
          refine XO.lenS (ts := #[]) rfl Try.underlying22 rfl ?_
          refine XO.guardT rfl rfl (by rw [l1, l3, l4]; exact decide_eq_true rfl) rfl ?_
          refine XO.fieldAddr rfl fa_25_0 rfl ?_
          refine XO.guardT rfl rfl (by rw [l1, l3, l4]; exact decide_eq_true rfl) rfl ?_
          refine XO.loadO 6 rfl rfl ty_22 rfl rfl rfl ?_
          refine XO.guardT rfl rfl (by rw [l1, l3, l4]; exact decide_eq_true rfl) rfl ?_
          refine XO.lenS (ts := #[]) rfl Try.underlying22 rfl ?_
          refine XO.guardT rfl rfl (by rw [l1, l3, l4]; exact decide_eq_true rfl) rfl ?_
          refine XO.add rfl rfl (wrap_i64 (by omega) (by omega)) rfl ?_
          refine XO.guardT rfl rfl (by rw [l1, l3, l4]; exact decide_eq_true rfl) rfl ?_
          refine XO.eql rfl rfl rfl ?_
          refine XO.pickT rfl (by rw [l1, l3, l4]; exact decide_eq_true rfl) rfl rfl ?_
          refine XO.assign rfl rfl ?_
          refine XO.nil ?_
          refine XC.seq2 ?_
          refine XC.ret ?_
          refine ⟨rfl, _, [], rfl, (by repeat (first | exact List.Sublist.refl _ | apply List.Sublist.cons)), RetR.mk ?_⟩
          first | rfl | exact congrArg Value.bool (by rw [l1]; simp)
    · have g5p := of_decide_eq_true g5
      refine XO.guardF rfl rfl (g5) rfl rfl ?_
      refine XO.guardF rfl rfl (g5) rfl rfl ?_
      refine XO.guardF rfl rfl (g5) rfl rfl ?_
      refine XO.pickT rfl (g5) rfl rfl ?_
      refine XO.nil ?_
      refine XC.seq2 ?_
      refine XC.condT rfl (rfl) ?_
      refine XC.seq ?_
      refine XC.region ?_
      refine XO.assign rfl rfl ?_
      refine XO.nil ?_
      refine XC.seq2 ?_
      refine XC.ret ?_
      refine seqX_ret ?_
      refine ⟨rfl, _, [], rfl, (by repeat (first | exact List.Sublist.refl _ | apply List.Sublist.cons)), RetR.mk ?_⟩
      first | rfl | exact congrArg Value.bool (by rw [l1]; simp)
  · have g3p := of_decide_eq_true g3
    refine XO.guardF rfl rfl (g3) rfl rfl ?_
    refine XO.guardF rfl rfl (g3) rfl rfl ?_
    refine XO.pickT rfl (g3) rfl rfl ?_
    refine XO.move rfl rfl ?_
    refine XO.guardF rfl rfl (rfl) rfl rfl ?_
    refine XO.guardF rfl rfl (rfl) rfl rfl ?_
    refine XO.guardF rfl rfl (rfl) rfl rfl ?_
    refine XO.guardF rfl rfl (rfl) rfl rfl ?_
    refine XO.pickT rfl (rfl) rfl rfl ?_
    refine XO.nil ?_
    refine XC.seq2 ?_
    refine XC.condT rfl (rfl) ?_
    refine XC.seq ?_
    refine XC.region ?_
    refine XO.assign rfl rfl ?_
    refine XO.nil ?_
    refine XC.seq2 ?_
    refine XC.ret ?_
    refine seqX_ret ?_
    refine ⟨rfl, _, [], rfl, (by repeat (first | exact List.Sublist.refl _ | apply List.Sublist.cons)), RetR.mk ?_⟩
    first | rfl | exact congrArg Value.bool (by rw [l1]; simp)

namespace networkLost
open Go.ChangeShapes Go.WideShapes Go.ChangeAt Go.RowKit
open Go.ChangeMaps (open_string shut_string)
theorem own : ownKnob Try.prog.godebug = none := by kernel_rfl
theorem laidOut : laidOutB Try.prog = true := by kernel_rfl
set_option maxRecDepth 100000 in
theorem lifted (os : Os) (started : os.Started) (H : Type) (enc : TypeId × Value → H) :
    ReturnsInHanded {} Try.checked os 8 .any (Rows.networkLostSpec.pre6 enc Try.prog Try.f8 Rows.networkLostRow.domain false) (Rows.networkLostSpec.post enc Try.prog Try.f8 false true false false) := by
  refine returnsInHanded_of_change (C := Try.checked) own started (by kernel_rfl) Try.func8
    (ChangeSpec.witness6 (enc := enc) (C := Try.checked) false ⟨#[], #[.agg ⟨[.slice none 0 0, .slice none 0 0]⟩, .int .u64 0], []⟩ 8 (by kernel_rfl) (by kernel_rfl) (by kernel_rfl) (by kernel_rfl)) ?_
  intro W base args ds gs before hval0 hW hcnd _
  have hval : ∀ (j : Nat) t v, Try.f8.params[j]? = some t → args[j]? = some v → Value.okWide Try.prog W .any base t v := hval0
  have hW' := hW
  obtain ⟨p, q, hA0, hV, rfl, hfz, hnd⟩ := hW
  have hA : DataW.TrodAll enc Try.prog W 0 (fun _ => true) true Try.f8.params.toList args.toList ds p := hA0
  rw [Try.params8] at hA hval
  obtain ⟨v0, vs0, d0, ds0, p0, q0, hargs, rfl, rfl, h0, r0⟩ := trodAll_cons hA
  obtain ⟨v1, vs1, d1, ds1, p1, q1, rfl, rfl, rfl, h1, r1⟩ := trodAll_cons r0
  obtain ⟨rfl, rfl, rfl⟩ := trodAll_nil r1
  obtain rfl : args = #[v0, v1] := by cases args; simp_all
  obtain ⟨rfl, rfl⟩ := trodVars_none hV
  have k0 := h0
  have lt0 : ∀ x ∈ p0, x.block < W.heap.size := by obtain ⟨m, hm⟩ := k0; exact DataW.trod_lt m _ _ _ hm
  obtain ⟨fuel0, hf0⟩ := h0
  obtain ⟨l0, cl0, rfl, hR0, hw0⟩ := open_agg opens_net Try.underlying25 (hval 0 25 v0 rfl rfl) hf0
  obtain ⟨aq0, cq0, ap0, cp0, rfl, hq0, hp0⟩ := hR0
  obtain ⟨a1, rfl, rfl, rfl, w1⟩ := open_int Try.underlying42 (hval 1 42 v1 rfl rfl) h1
  clear hA0 hval0
  refine (networkLost_fn _ _ _ _ l0 a1 (hpOf W) hq0 hp0 (wf_u64 w1).1 (wf_u64 w1).2).below.mono fun e W' ⟨he, bel⟩ => ?_
  subst he
  exact ⟨_, rfl, _, _, _, [], _, [], hW', trodAll_mk1 (shut_bool Try.underlying4 _), (trodAll_cons_mk (Below.trod laidOut (by kernel_rfl) (of_decide_eq_true (by kernel_rfl)) k0 bel lt0) (trodAll_cons_mk (shut_int Try.underlying42 w1) trodAll_mk0)), rfl, bel.frame _, fun h => by cases h⟩
theorem over : Rows.networkLostRow.holds Try.pinned (OpenSpec.ofChange Rows.networkLostSpec) :=
  OpenClaim.holds_of_wide 8 Try.f8 rfl rfl rfl rfl rfl rfl rfl ⟨rfl, rfl, rfl, rfl, rfl⟩ rfl rfl rfl rfl rfl (by kernel_rfl) Try.func8 (by kernel_rfl)
    (of_decide_eq_true (by kernel_rfl)) (by unfold Func.isWrapper; first | (rw [if_pos (by decide +kernel)]; kernel_rfl) | (rw [if_neg (by decide +kernel)]; exact ⟨rfl, rfl⟩))
    (fun os started H enc _ => lifted os started H enc)
/-- The given statement. -/
theorem proved : Rows.NetworkLostSaid := over
#print axioms proved
end networkLost
end Go.Proofs.Ytonmnpdhpailcaa
