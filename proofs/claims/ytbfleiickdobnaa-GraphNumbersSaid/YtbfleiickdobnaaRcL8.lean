/- The law GraphNumbers: it returns true, whatever the input, and what it was handed reads as before. No condition. -/
import Derived.Test.YtbfleiickdobnaaRcE2
import Derived.Test.YtbfleiickdobnaaXLn
import Derived.Test.YtbfleiickdobnaaRcI3
import Derived.Test.YtbfleiickdobnaaRows
import Derived.WalkKit
import Derived.ProofKit
import Derived.OpenShut
import Derived.ShutString
import Derived.ChangeOld
import Derived.Below
set_option autoImplicit false
set_option linter.unusedVariables false
set_option linter.unusedSimpArgs false
namespace Go.Proofs.Ytbfleiickdobnaa
open Go.XL



set_option maxRecDepth 100000 in
set_option maxHeartbeats 1600000 in
theorem graphNumbers_fn (a : Option Addr) (c : Nat) (m : Tb) (H : Hp) (hs : SlR tbR H a c m) (hl : m.length < 9223372036854775808) (ua ub uc ud t : Int) (ha0 : 0 ≤ ua ∧ ua ≤ 255) (hb0 : 0 ≤ ub ∧ ub ≤ 255) (hc0 : 0 ≤ uc ∧ uc ≤ 255) (hd0 : 0 ≤ ud ∧ ud ≤ 255) (ht : -9223372036854775808 ≤ t ∧ t ≤ 9223372036854775807) : FnC Try.prog 8 #[.slice a m.length c, .int .u8 ua, .int .u8 ub, .int .u8 uc, .int .u8 ud, .int .i64 t] H [] (RetR (fun v _ _ => v = .bool true)) := by
  refine FnC.intro (args := [.slice a m.length c, .int .u8 ua, .int .u8 ub, .int .u8 uc, .int .u8 ud, .int .i64 t]) Try.func8 rfl rfl Try.ntmps8 rfl rfl rfl fun G rest => ?_
  refine XC.seq ?_
  refine XC.region ?_
  refine XO.assign rfl rfl ?_
  refine XO.nil ?_
  refine XC.seq2 ?_
  refine XC.seq ?_
  refine XC.seq ?_
  refine XC.region ?_
  refine XO.callV rfl (sane37 _) rfl ?_
  refine XO.notB rfl rfl ?_
  refine XO.nil ?_
  refine XC.seq2 ?_
  refine XC.condF rfl (rfl) ?_
  refine XC.skip ?_
  refine XC.seq2 ?_
  refine XC.seq ?_
  refine XC.seq ?_
  refine XC.region ?_
  refine XO.move rfl rfl ?_
  refine XO.callV rfl (small_fn _ _ m _ hs hl) rfl ?_
  refine XO.not rfl rfl ?_
  refine XO.move rfl rfl ?_
  refine XO.guardC rfl rfl rfl rfl (fun g3 => ?_) (fun g3 => ?_)
  · have g3p := of_decide_eq_false g3
    refine XO.move rfl rfl ?_
    refine XO.guardT rfl rfl (g3) rfl ?_
    refine XO.callV rfl (judges_fn _ _ m _ hs hl) rfl ?_
    refine XO.guardT rfl rfl (g3) rfl ?_
    refine XO.eql rfl rfl rfl ?_
    refine XO.pickF rfl (g3) rfl rfl ?_
    refine XO.nil ?_
    refine XC.seq2 ?_
    refine XC.cond rfl (fun c1_5 => ?_) (fun c1_5 => ?_)
    · refine XC.seq ?_
      refine XC.region ?_
      refine XO.assign rfl rfl ?_
      refine XO.nil ?_
      refine XC.seq2 ?_
      refine XC.ret ?_
      refine seqX_ret ?_
      refine ⟨rfl, _, [], rfl, (by repeat (first | exact List.Sublist.refl _ | apply List.Sublist.cons)), RetR.mk ?_⟩
      first | rfl | exact congrArg Value.bool (decide_eq_true (by omega))
    · have hsm : smallG m := Decidable.not_not.1 (by assumption)
      have hck := hsm.2.2.1
      have hok := chk_eq0.1 hck
      have hlm := hsm.1
      have hwm := hsm.2.2.2
      have hwm16 := okG_wide hok
      have hm0 : 0 < m.length := by
        rcases Nat.eq_zero_or_pos m.length with h0 | h0
        · exact absurd (wide_nil h0) (by omega)
        · exact h0
      refine XC.skip ?_
      refine XC.seq2 ?_
      refine XC.seq ?_
      refine XC.region ?_
      refine XO.assign rfl rfl ?_
      refine XO.nil ?_
      refine XC.seq2 ?_
      refine XC.seq ?_
      refine XC.keep [0, 1, 2, 3, 4, 5, 13] rfl ?_
      obtain ⟨bEZ, oEZ, rfl⟩ := hs.addr (by omega)
      obtain ⟨_, xZ, hxZ, ⟨axZ, cxZ, rfl, hdZ⟩, hpZ⟩ := hs.elem (0) (by omega)
      have hwz : xZ.length = wideM m := (hok.2 _ (List.mem_of_getElem? hxZ)).1
      obtain ⟨i0, hqi0⟩ : ∃ q : Nat, uc % (xZ.length : Int) = q := ⟨_, (Int.toNat_of_nonneg (Int.emod_nonneg _ (by omega))).symm⟩
      have hli0 : (i0 : Int) < xZ.length := by have := Int.emod_lt_of_pos uc (show 0 < (xZ.length : Int) by omega); omega
      obtain ⟨k0, hqk0⟩ : ∃ q : Nat, ud % (xZ.length : Int) = q := ⟨_, (Int.toNat_of_nonneg (Int.emod_nonneg _ (by omega))).symm⟩
      have hlk0 : (k0 : Int) < xZ.length := by have := Int.emod_lt_of_pos ud (show 0 < (xZ.length : Int) by omega); omega
      apply XC.draw 15 [eqF _, eqF _, eqF _, eqF _, eqF _, eqF _, eqF _, eqF _, eqF _, eqF _, eqF _, eqF _, eqF _, eqF _, eqF _] follows (by kernel_rfl) (by kernel_rfl) ⟨eqF_mono _, eqF_mono _, eqF_mono _, eqF_mono _, eqF_mono _, eqF_mono _, eqF_mono _, eqF_mono _, eqF_mono _, eqF_mono _, eqF_mono _, eqF_mono _, eqF_mono _, eqF_mono _, eqF_mono _, trivial⟩ ?steps6 ?tail6
      case steps6 =>
        refine stepsK_cons rfl ?_ ?_
        · intro X
          refine withPreds_nil rfl ?_
          refine XO.move rfl rfl ?_
          refine XO.nil ?_
          exact stepQ_ok rfl (rfl)
        refine stepsK_cons rfl ?_ ?_
        · intro X
          refine withPreds_cons rfl rfl ?_
          rintro _ rfl
          refine withPreds_nil rfl ?_
          refine XO.convI rfl Try.underlying5 Try.underlying3 (wrap_i64 (by omega) (by omega)) rfl ?_
          refine XO.nil ?_
          exact stepQ_ok rfl (rfl)
        refine stepsK_cons rfl ?_ ?_
        · intro X
          refine withPreds_nil rfl ?_
          refine XO.move rfl rfl ?_
          refine XO.nil ?_
          exact stepQ_ok rfl (rfl)
        refine stepsK_cons rfl ?_ ?_
        · intro X
          refine withPreds_cons rfl rfl ?_
          rintro _ rfl
          refine withPreds_nil rfl ?_
          refine XO.indexE rfl rfl Try.underlying22 ty_40 (by omega) (by omega) rfl ?_
          refine XO.nil ?_
          exact stepQ_ok rfl (rfl)
        refine stepsK_cons rfl ?_ ?_
        · intro X
          refine withPreds_cons rfl rfl ?_
          rintro _ rfl
          refine withPreds_nil rfl ?_
          refine XO.loadH rfl (by assumption) ty_40 rfl rfl rfl ?_
          refine XO.nil ?_
          exact stepQ_ok rfl (rfl)
        refine stepsK_cons rfl ?_ ?_
        · intro X
          refine withPreds_cons rfl rfl ?_
          rintro _ rfl
          refine withPreds_nil rfl ?_
          refine XO.lenS (ts := #[]) rfl Try.underlying40 rfl ?_
          refine XO.nil ?_
          exact stepQ_ok rfl (rfl)
        refine stepsK_cons rfl ?_ ?_
        · intro X
          refine withPreds_cons rfl rfl ?_
          rintro _ rfl
          refine withPreds_cons rfl rfl ?_
          rintro _ rfl
          refine withPreds_nil rfl ?_
          refine XO.rem (c := ((i0 : Nat) : Int)) rfl rfl (by first | omega | (dsimp only; omega)) (by rw [rem_nn (by omega)]; exact hqi0) rfl ?_
          refine XO.nil ?_
          exact stepQ_ok rfl (rfl)
        refine stepsK_cons rfl ?_ ?_
        · intro X
          refine withPreds_nil rfl ?_
          refine XO.move rfl rfl ?_
          refine XO.nil ?_
          exact stepQ_ok rfl (rfl)
        refine stepsK_cons rfl ?_ ?_
        · intro X
          refine withPreds_cons rfl rfl ?_
          rintro _ rfl
          refine withPreds_nil rfl ?_
          refine XO.convI rfl Try.underlying5 Try.underlying3 (wrap_i64 (by omega) (by omega)) rfl ?_
          refine XO.nil ?_
          exact stepQ_ok rfl (rfl)
        refine stepsK_cons rfl ?_ ?_
        · intro X
          refine withPreds_nil rfl ?_
          refine XO.move rfl rfl ?_
          refine XO.nil ?_
          exact stepQ_ok rfl (rfl)
        refine stepsK_cons rfl ?_ ?_
        · intro X
          refine withPreds_cons rfl rfl ?_
          rintro _ rfl
          refine withPreds_nil rfl ?_
          refine XO.indexE rfl rfl Try.underlying22 ty_40 (by omega) (by omega) rfl ?_
          refine XO.nil ?_
          exact stepQ_ok rfl (rfl)
        refine stepsK_cons rfl ?_ ?_
        · intro X
          refine withPreds_cons rfl rfl ?_
          rintro _ rfl
          refine withPreds_nil rfl ?_
          refine XO.loadH rfl (by assumption) ty_40 rfl rfl rfl ?_
          refine XO.nil ?_
          exact stepQ_ok rfl (rfl)
        refine stepsK_cons rfl ?_ ?_
        · intro X
          refine withPreds_cons rfl rfl ?_
          rintro _ rfl
          refine withPreds_nil rfl ?_
          refine XO.lenS (ts := #[]) rfl Try.underlying40 rfl ?_
          refine XO.nil ?_
          exact stepQ_ok rfl (rfl)
        refine stepsK_cons rfl ?_ ?_
        · intro X
          refine withPreds_cons rfl rfl ?_
          rintro _ rfl
          refine withPreds_cons rfl rfl ?_
          rintro _ rfl
          refine withPreds_nil rfl ?_
          refine XO.rem (c := ((k0 : Nat) : Int)) rfl rfl (by first | omega | (dsimp only; omega)) (by rw [rem_nn (by omega)]; exact hqk0) rfl ?_
          refine XO.nil ?_
          exact stepQ_ok rfl (rfl)
        refine stepsK_cons rfl ?_ ?_
        · intro X
          refine withPreds_cons rfl rfl ?_
          rintro _ rfl
          refine withPreds_nil rfl ?_
          refine XO.assign rfl rfl ?_
          refine XO.nil ?_
          exact stepQ_ok rfl (rfl)
        exact stepsD_end rfl
      case tail6 =>
        refine withPreds_cons rfl rfl ?_
        rintro _ rfl
        refine withPreds_cons rfl rfl ?_
        rintro _ rfl
        refine withPreds_cons rfl rfl ?_
        rintro _ rfl
        refine withPreds_cons rfl rfl ?_
        rintro _ rfl
        refine withPreds_cons rfl rfl ?_
        rintro _ rfl
        refine withPreds_cons rfl rfl ?_
        rintro _ rfl
        refine withPreds_cons rfl rfl ?_
        rintro _ rfl
        refine withPreds_cons rfl rfl ?_
        rintro _ rfl
        refine withPreds_cons rfl rfl ?_
        rintro _ rfl
        refine withPreds_cons rfl rfl ?_
        rintro _ rfl
        refine withPreds_cons rfl rfl ?_
        rintro _ rfl
        refine withPreds_cons rfl rfl ?_
        rintro _ rfl
        refine withPreds_cons rfl rfl ?_
        rintro _ rfl
        refine withPreds_cons rfl rfl ?_
        rintro _ rfl
        refine withPreds_cons rfl rfl ?_
        rintro _ rfl
        refine withPreds_nil rfl ?_
        refine XO.assign rfl rfl ?_
        refine XO.nil ?_
        refine XC.seq2 ?_
        refine XC.seq ?_
        refine XC.seq ?_
        refine XC.region ?_
        refine XO.move rfl rfl ?_
        refine XO.lenS (ts := #[]) rfl Try.underlying22 rfl ?_
        refine XO.move rfl rfl ?_
        refine XO.nil ?_
        refine XC.seq2 ?_
        refine XC.block ?_
        refine XC.keep [13, 59, 0, 1, 2, 5, 14, 15, 57, 58] rfl ?_
        refine XC.open0 0 ?_
        refine XC.loop (base := [(0, _), (1, _), (2, _), (5, _), (14, _), (15, _), (57, _), (58, _)]) (fun ζ : Nat × ((Nat × SObj) × Option Addr × Nat) => [(13, .slice ζ.2.2.1 ((m.take (ζ.1)).map fun r => swapL r i0 k0 false).length ζ.2.2.2), (59, .int .i64 (ζ.1 : Nat))]) (fun ζ Hl own => ζ.1 ≤ m.length ∧ ζ.2.1 :: rest = own ∧ Acc tbR 40 Hl ζ.2.1 ζ.2.2.1 ζ.2.2.2 ((m.take (ζ.1)).map fun r => swapL r i0 k0 false)) (fun ζ => m.length - ζ.1) (0, ((0, .nothing), none, 0)) (prov_cons (rfl) (prov_cons (rfl) (prov_cons (rfl) (prov_cons (rfl) (prov_cons (rfl) (prov_cons (rfl) (prov_cons (rfl) (prov_cons (rfl) (prov_cons (rfl) (prov_cons (rfl) prov_nil)))))))))) (by repeat (first | exact List.Sublist.refl _ | apply List.Sublist.cons_cons | apply List.Sublist.cons)) ⟨Nat.zero_le _, rfl, Acc.nil _ _ _ _⟩ ?_
        rintro ⟨k, ⟨po, ao, co⟩⟩ Hl0 _ hle0 ⟨hkk, rfl, hacco⟩
        replace hs := hs.mono hle0
        replace hpZ := hpZ.mono hle0
        replace hdZ := hdZ.mono hle0
        try dsimp only at hkk hacco ⊢
        refine XC.seq ?_
        refine XC.region ?_
        refine XO.lss rfl rfl rfl ?_
        refine XO.nil ?_
        refine XC.seq2 ?_
        refine XC.seq ?_
        refine XC.cond rfl (fun c2_11 => ?_) (fun c2_11 => ?_)
        · refine XC.skip ?_
          refine XC.seq2 ?_
          refine XC.seq ?_
          refine XC.block ?_
          refine XC.seq ?_
          refine XC.region ?_
          refine XO.indexN rfl hs rfl Try.underlying22 ty_40 (by omega) rfl ?_
          rintro eb61 eo61 _ x61 hx61 ⟨ax61, cx61, rfl, hd61⟩ hp61
          refine XO.loadH rfl (by assumption) ty_40 rfl rfl rfl ?_
          refine XO.assign rfl rfl ?_
          refine XO.nil ?_
          refine XC.seq2 ?_
          refine XC.seq ?_
          refine XC.region ?_
          have hwx : x61.length = wideM m := (hok.2 _ (List.mem_of_getElem? hx61)).1
          have hlt8 : (m.take k).length = k := by rw [List.length_take]; omega
          refine XO.buildRow (ρ := boolR) (l := []) rfl Try.underlying40 ty_4 ze_4 rfl rfl rfl rfl rfl (fun p63 a63 c63 hacc63 => ?_)
          refine XO.move rfl rfl ?_
          refine XO.appendA 0 rfl rfl hacc63 rfl rfl (by assumption) rfl Try.underlying40 ty_4 ze_4 rfl by_4 (by simp; omega) rfl (fun p65 a65 c65 hacc65 => ?_)
          refine XO.assign rfl rfl ?_
          refine XO.nil ?_
          refine XC.seq2 ?_
          refine XC.seq ?_
          refine XC.keep [0, 1, 2, 5, 13, 14, 15, 18, 57, 58, 59] rfl ?_
          rw [List.nil_append] at hacc65 ⊢
          have haddr := hacc65.addr (by omega)
          subst haddr
          apply XC.drawS (fun _ => True) trivial 13 (fun p H => XL.Acc boolR 4 H p (some ⟨p65.1, 0, none⟩) c65 x61) (fun p H => XL.Acc boolR 4 H p (some ⟨p65.1, 0, none⟩) c65 (x61.set i0 (x61.getD k0 false))) (fun _ _ _ hle h => h.mono hle) (fun _ _ _ hle h => h.mono hle) 14 [eqF _, eqF _, eqF _, eqF _, eqF _, eqF _, eqF _, eqF _, eqF _, eqF _, eqF _, eqF _, eqF _, anyF] follows (by kernel_rfl) ⟨eqF_mono _, eqF_mono _, eqF_mono _, eqF_mono _, eqF_mono _, eqF_mono _, eqF_mono _, eqF_mono _, eqF_mono _, eqF_mono _, eqF_mono _, eqF_mono _, eqF_mono _, anyF_mono, trivial⟩ rfl (hacc65) ?steps14 ?tail14
          case steps14 =>
            refine stepsS_cons rfl ?_ ?_
            · intro X e HD hleD _ hfa
              replace hs := hs.mono hleD
              replace hpZ := hpZ.mono hleD
              replace hdZ := hdZ.mono hleD
              replace hacco := hacco.mono hleD
              replace hp61 := hp61.mono hleD
              replace hd61 := hd61.mono hleD
              replace hacc65 := hacc65.mono hleD
              replace hle0 := hle0.trans hleD
              refine withP_nil rfl ?_
              refine XO.move rfl rfl ?_
              refine XO.nil ?_
              exact stepQV_ok trivial (rfl) (by unfold foS; rw [if_neg (by decide)])
            refine stepsS_cons rfl ?_ ?_
            · intro X e HD hleD _ hfa
              replace hs := hs.mono hleD
              replace hpZ := hpZ.mono hleD
              replace hdZ := hdZ.mono hleD
              replace hacco := hacco.mono hleD
              replace hp61 := hp61.mono hleD
              replace hd61 := hd61.mono hleD
              replace hacc65 := hacc65.mono hleD
              replace hle0 := hle0.trans hleD
              refine withP_nil rfl ?_
              refine XO.move rfl rfl ?_
              refine XO.nil ?_
              exact stepQV_ok trivial (rfl) (by unfold foS; rw [if_neg (by decide)])
            refine stepsS_cons rfl ?_ ?_
            · intro X e HD hleD _ hfa
              replace hs := hs.mono hleD
              replace hpZ := hpZ.mono hleD
              replace hdZ := hdZ.mono hleD
              replace hacco := hacco.mono hleD
              replace hp61 := hp61.mono hleD
              replace hd61 := hd61.mono hleD
              replace hacc65 := hacc65.mono hleD
              replace hle0 := hle0.trans hleD
              refine withP_nil rfl ?_
              refine XO.move rfl rfl ?_
              refine XO.nil ?_
              exact stepQV_ok trivial (rfl) (by unfold foS; rw [if_neg (by decide)])
            refine stepsS_cons rfl ?_ ?_
            · intro X e HD hleD _ hfa
              replace hs := hs.mono hleD
              replace hpZ := hpZ.mono hleD
              replace hdZ := hdZ.mono hleD
              replace hacco := hacco.mono hleD
              replace hp61 := hp61.mono hleD
              replace hd61 := hd61.mono hleD
              replace hacc65 := hacc65.mono hleD
              replace hle0 := hle0.trans hleD
              refine withP_nil rfl ?_
              refine XO.move rfl rfl ?_
              refine XO.nil ?_
              exact stepQV_ok trivial (rfl) (by unfold foS; rw [if_neg (by decide)])
            refine stepsS_cons rfl ?_ ?_
            · intro X e HD hleD _ hfa
              replace hs := hs.mono hleD
              replace hpZ := hpZ.mono hleD
              replace hdZ := hdZ.mono hleD
              replace hacco := hacco.mono hleD
              replace hp61 := hp61.mono hleD
              replace hd61 := hd61.mono hleD
              replace hacc65 := hacc65.mono hleD
              replace hle0 := hle0.trans hleD
              refine withP_nil rfl ?_
              refine XO.move rfl rfl ?_
              refine XO.nil ?_
              exact stepQV_ok trivial (rfl) (by unfold foS; rw [if_neg (by decide)])
            refine stepsS_cons rfl ?_ ?_
            · intro X e HD hleD _ hfa
              replace hs := hs.mono hleD
              replace hpZ := hpZ.mono hleD
              replace hdZ := hdZ.mono hleD
              replace hacco := hacco.mono hleD
              replace hp61 := hp61.mono hleD
              replace hd61 := hd61.mono hleD
              replace hacc65 := hacc65.mono hleD
              replace hle0 := hle0.trans hleD
              refine withP_nil rfl ?_
              refine XO.move rfl rfl ?_
              refine XO.nil ?_
              exact stepQV_ok trivial (rfl) (by unfold foS; rw [if_neg (by decide)])
            refine stepsS_cons rfl ?_ ?_
            · intro X e HD hleD _ hfa
              replace hs := hs.mono hleD
              replace hpZ := hpZ.mono hleD
              replace hdZ := hdZ.mono hleD
              replace hacco := hacco.mono hleD
              replace hp61 := hp61.mono hleD
              replace hd61 := hd61.mono hleD
              replace hacc65 := hacc65.mono hleD
              replace hle0 := hle0.trans hleD
              refine withP_cons rfl rfl ?_
              rintro _ rfl
              refine withP_cons rfl rfl ?_
              rintro _ rfl
              refine withP_nil rfl ?_
              refine XO.indexE rfl rfl Try.underlying40 ty_4 (by omega) (by omega) rfl ?_
              refine XO.nil ?_
              exact stepQV_ok trivial (rfl) (by unfold foS; rw [if_neg (by decide)])
            refine stepsS_cons rfl ?_ ?_
            · intro X e HD hleD _ hfa
              replace hs := hs.mono hleD
              replace hpZ := hpZ.mono hleD
              replace hdZ := hdZ.mono hleD
              replace hacco := hacco.mono hleD
              replace hp61 := hp61.mono hleD
              replace hd61 := hd61.mono hleD
              replace hacc65 := hacc65.mono hleD
              replace hle0 := hle0.trans hleD
              refine withP_cons rfl rfl ?_
              rintro _ rfl
              refine withP_nil rfl ?_
              replace hfa := hfa (Or.inr rfl)
              skip
              refine XO.loadA 0 rfl rfl hfa (getD_at false (by omega)) ty_4 rfl (fun cs16 v16 hR16 hv16 => ?_) (fun cs16 hR16 => ⟨_, by cases hR16; rfl⟩)
              cases hR16; cases hv16
              refine XO.nil ?_
              exact stepQV_ok trivial (rfl) (by unfold foS; rw [if_neg (by decide)])
            refine stepsS_cons rfl ?_ ?_
            · intro X e HD hleD _ hfa
              replace hs := hs.mono hleD
              replace hpZ := hpZ.mono hleD
              replace hdZ := hdZ.mono hleD
              replace hacco := hacco.mono hleD
              replace hp61 := hp61.mono hleD
              replace hd61 := hd61.mono hleD
              replace hacc65 := hacc65.mono hleD
              replace hle0 := hle0.trans hleD
              refine withP_nil rfl ?_
              refine XO.move rfl rfl ?_
              refine XO.nil ?_
              exact stepQV_ok trivial (rfl) (by unfold foS; rw [if_neg (by decide)])
            refine stepsS_cons rfl ?_ ?_
            · intro X e HD hleD _ hfa
              replace hs := hs.mono hleD
              replace hpZ := hpZ.mono hleD
              replace hdZ := hdZ.mono hleD
              replace hacco := hacco.mono hleD
              replace hp61 := hp61.mono hleD
              replace hd61 := hd61.mono hleD
              replace hacc65 := hacc65.mono hleD
              replace hle0 := hle0.trans hleD
              refine withP_nil rfl ?_
              refine XO.move rfl rfl ?_
              refine XO.nil ?_
              exact stepQV_ok trivial (rfl) (by unfold foS; rw [if_neg (by decide)])
            refine stepsS_cons rfl ?_ ?_
            · intro X e HD hleD _ hfa
              replace hs := hs.mono hleD
              replace hpZ := hpZ.mono hleD
              replace hdZ := hdZ.mono hleD
              replace hacco := hacco.mono hleD
              replace hp61 := hp61.mono hleD
              replace hd61 := hd61.mono hleD
              replace hacc65 := hacc65.mono hleD
              replace hle0 := hle0.trans hleD
              refine withP_cons rfl rfl ?_
              rintro _ rfl
              refine withP_cons rfl rfl ?_
              rintro _ rfl
              refine withP_nil rfl ?_
              refine XO.indexE rfl rfl Try.underlying40 ty_4 (by omega) (by omega) rfl ?_
              refine XO.nil ?_
              exact stepQV_ok trivial (rfl) (by unfold foS; rw [if_neg (by decide)])
            refine stepsS_cons rfl ?_ ?_
            · intro X e HD hleD _ hfa
              replace hs := hs.mono hleD
              replace hpZ := hpZ.mono hleD
              replace hdZ := hdZ.mono hleD
              replace hacco := hacco.mono hleD
              replace hp61 := hp61.mono hleD
              replace hd61 := hd61.mono hleD
              replace hacc65 := hacc65.mono hleD
              replace hle0 := hle0.trans hleD
              refine withP_cons rfl rfl ?_
              rintro _ rfl
              refine withP_nil rfl ?_
              replace hfa := hfa (Or.inr rfl)
              skip
              refine XO.loadA 0 rfl rfl hfa (getD_at false (by omega)) ty_4 rfl (fun cs18 v18 hR18 hv18 => ?_) (fun cs18 hR18 => ⟨_, by cases hR18; rfl⟩)
              cases hR18; cases hv18
              refine XO.nil ?_
              exact stepQV_ok trivial (rfl) (by unfold foS; rw [if_neg (by decide)])
            refine stepsS_cons rfl ?_ ?_
            · intro X e HD hleD _ hfa
              replace hs := hs.mono hleD
              replace hpZ := hpZ.mono hleD
              replace hdZ := hdZ.mono hleD
              replace hacco := hacco.mono hleD
              replace hp61 := hp61.mono hleD
              replace hd61 := hd61.mono hleD
              replace hacc65 := hacc65.mono hleD
              replace hle0 := hle0.trans hleD
              refine withP_cons rfl rfl ?_
              rintro _ rfl
              refine withP_cons rfl rfl ?_
              rintro _ rfl
              refine withP_nil rfl ?_
              refine XO.indexE rfl rfl Try.underlying40 ty_4 (by omega) (by omega) rfl ?_
              refine XO.nil ?_
              exact stepQV_ok trivial (rfl) (by unfold foS; rw [if_neg (by decide)])
            refine stepsS_cons rfl ?_ ?_
            · intro X e HD hleD _ hfa
              replace hs := hs.mono hleD
              replace hpZ := hpZ.mono hleD
              replace hdZ := hdZ.mono hleD
              replace hacco := hacco.mono hleD
              replace hp61 := hp61.mono hleD
              replace hd61 := hd61.mono hleD
              replace hacc65 := hacc65.mono hleD
              replace hle0 := hle0.trans hleD
              refine withP_cons rfl rfl ?_
              rintro _ rfl
              refine withP_cons rfl rfl ?_
              rintro _ rfl
              refine withP_nil rfl ?_
              replace hfa := hfa (Or.inl rfl)
              skip
              refine XO.storeA 0 rfl rfl rfl hfa (k := i0) (by omega) rfl rfl ty_4 rfl (fun p13 hacc13 => ?_)
              refine XO.nil ?_
              exact stepQV_ok trivial (trivial) (by unfold foS; rw [if_pos rfl]; exact hacc13)
            exact stepsS_end rfl
          case tail14 =>
            intro HD hleD _
            replace hs := hs.mono hleD
            replace hpZ := hpZ.mono hleD
            replace hdZ := hdZ.mono hleD
            replace hacco := hacco.mono hleD
            replace hp61 := hp61.mono hleD
            replace hd61 := hd61.mono hleD
            replace hacc65 := hacc65.mono hleD
            replace hle0 := hle0.trans hleD
            refine withP_cons rfl rfl ?_
            rintro _ rfl
            refine withP_cons rfl rfl ?_
            rintro _ rfl
            refine withP_cons rfl rfl ?_
            rintro _ rfl
            refine withP_cons rfl rfl ?_
            rintro _ rfl
            refine withP_cons rfl rfl ?_
            rintro _ rfl
            refine withP_cons rfl rfl ?_
            rintro _ rfl
            refine withP_cons rfl rfl ?_
            rintro _ rfl
            refine withP_cons rfl rfl ?_
            rintro _ rfl
            refine withP_cons rfl rfl ?_
            rintro _ rfl
            refine withP_cons rfl rfl ?_
            rintro _ rfl
            refine withP_cons rfl rfl ?_
            rintro _ rfl
            refine withP_cons rfl rfl ?_
            rintro _ rfl
            refine withP_cons rfl rfl ?_
            rintro _ rfl
            refine withP_skip rfl rfl ?_
            refine withP_nil rfl ?_
            intro e he
            skip
            refine XO.indexE rfl rfl Try.underlying40 ty_4 (by omega) (by omega) rfl ?_
            refine XO.storeA 0 rfl rfl rfl he (k := k0) (by rw [List.length_set]; omega) rfl rfl ty_4 rfl (fun p79 hacc79 => ?_)
            change XL.Acc _ _ _ _ _ _ (swapL x61 i0 k0 false) at hacc79
            refine XO.nil ?_
            refine XC.seq2 ?_
            refine XC.region ?_
            refine XO.move rfl rfl ?_
            refine XO.publishA 0 rfl hacc79 rfl (fun HQX hleQX hsX => ?_)
            replace hs := hs.mono hleQX
            replace hpZ := hpZ.mono hleQX
            replace hdZ := hdZ.mono hleQX
            replace hacco := hacco.mono hleQX
            replace hp61 := hp61.mono hleQX
            replace hd61 := hd61.mono hleQX
            replace hacc65 := hacc65.mono hleQX
            replace hacc79 := hacc79.mono hleQX
            replace hle0 := hle0.trans hleQX
            refine XO.move rfl rfl ?_
            refine XO.buildSlice rfl Try.underlying22 ty_40 ze_40 rfl rfl rfl (fun b82 => ?_)
            refine XO.publish 0 rfl rfl rfl (fun HP82 oP82 hleP82 hbP82 hoP82 => ?_)
            replace hs := hs.mono hleP82
            replace hpZ := hpZ.mono hleP82
            replace hdZ := hdZ.mono hleP82
            replace hacco := hacco.mono hleP82
            replace hp61 := hp61.mono hleP82
            replace hd61 := hd61.mono hleP82
            replace hsX := hsX.mono hleP82
            replace hle0 := hle0.trans hleP82
            have hsl82 := SlR.lit (ρ := tbR) (l := [swapL x61 i0 k0 false]) hbP82 hoP82 (RowsR.one1 ⟨some ⟨p65.1, 0, none⟩, c65, by rw [swapL_len]; rfl, hsX⟩)
            refine XO.appendA 0 rfl rfl hacco rfl rfl hsl82 rfl Try.underlying22 ty_40 ze_40 rfl by_40 (by simp; omega) rfl (fun p83 a83 c83 hacc83 => ?_)
            refine XO.assign rfl rfl ?_
            refine XO.nil ?_
            refine blockN ?_
            refine XC.seq2 ?_
            refine XC.region ?_
            refine XO.add rfl rfl (wrap_i64 (by omega) (by omega)) rfl ?_
            refine XO.move rfl rfl ?_
            refine XO.nil ?_
            refine loop_next ((k + 1, (p83, a83, c83))) (by show m.length - (k + 1) < m.length - k; omega) (prov_cons (by first | rfl | (rw [take_snoc hx61, List.map_append]; rfl)) (prov_cons (rfl) (prov_cons (rfl) (prov_cons (rfl) (prov_cons (rfl) (prov_cons (rfl) (prov_cons (rfl) (prov_cons (rfl) (prov_cons (rfl) (prov_cons (rfl) prov_nil)))))))))) (⟨by show k + 1 ≤ m.length; omega, rfl, by first | (exact hacc83) | (rw [take_snoc hx61, List.map_append]; exact hacc83)⟩) (by repeat (first | exact List.Sublist.refl _ | apply List.Sublist.cons_cons | apply List.Sublist.cons)) (hle0)
        · obtain rfl : k = m.length := by omega
          rw [List.take_length] at hacco ⊢
          refine XC.exit ?_
          refine seqX_exit ?_
          refine loopX_exit ?_
          refine blockHit rfl ?_
          refine XC.seq2 ?_
          refine XC.seq ?_
          refine XC.keep [0, 1, 2, 5, 13] rfl ?_
          have hlmm : (m.map fun r => swapL r i0 k0 false).length = m.length := by simp
          obtain ⟨n0, hqn0⟩ : ∃ q : Nat, ua % ((m.map fun r => swapL r i0 k0 false).length : Int) = q := ⟨_, (Int.toNat_of_nonneg (Int.emod_nonneg _ (by omega))).symm⟩
          have hln0 : (n0 : Int) < (m.map fun r => swapL r i0 k0 false).length := by have := Int.emod_lt_of_pos ua (show 0 < ((m.map fun r => swapL r i0 k0 false).length : Int) by omega); omega
          obtain ⟨o0, hqo0⟩ : ∃ q : Nat, ub % ((m.map fun r => swapL r i0 k0 false).length : Int) = q := ⟨_, (Int.toNat_of_nonneg (Int.emod_nonneg _ (by omega))).symm⟩
          have hlo0 : (o0 : Int) < (m.map fun r => swapL r i0 k0 false).length := by have := Int.emod_lt_of_pos ub (show 0 < ((m.map fun r => swapL r i0 k0 false).length : Int) by omega); omega
          apply XC.draw 11 [eqF _, eqF _, eqF _, eqF _, eqF _, eqF _, eqF _, eqF _, eqF _, eqF _, eqF _] follows (by kernel_rfl) (by kernel_rfl) ⟨eqF_mono _, eqF_mono _, eqF_mono _, eqF_mono _, eqF_mono _, eqF_mono _, eqF_mono _, eqF_mono _, eqF_mono _, eqF_mono _, eqF_mono _, trivial⟩ ?steps23 ?tail23
          case steps23 =>
            refine stepsK_cons rfl ?_ ?_
            · intro X
              refine withPreds_nil rfl ?_
              refine XO.move rfl rfl ?_
              refine XO.nil ?_
              exact stepQ_ok rfl (rfl)
            refine stepsK_cons rfl ?_ ?_
            · intro X
              refine withPreds_cons rfl rfl ?_
              rintro _ rfl
              refine withPreds_nil rfl ?_
              refine XO.convI rfl Try.underlying5 Try.underlying3 (wrap_i64 (by omega) (by omega)) rfl ?_
              refine XO.nil ?_
              exact stepQ_ok rfl (rfl)
            refine stepsK_cons rfl ?_ ?_
            · intro X
              refine withPreds_nil rfl ?_
              refine XO.move rfl rfl ?_
              refine XO.nil ?_
              exact stepQ_ok rfl (rfl)
            refine stepsK_cons rfl ?_ ?_
            · intro X
              refine withPreds_cons rfl rfl ?_
              rintro _ rfl
              refine withPreds_nil rfl ?_
              refine XO.lenS (ts := #[]) rfl Try.underlying22 rfl ?_
              refine XO.nil ?_
              exact stepQ_ok rfl (rfl)
            refine stepsK_cons rfl ?_ ?_
            · intro X
              refine withPreds_cons rfl rfl ?_
              rintro _ rfl
              refine withPreds_cons rfl rfl ?_
              rintro _ rfl
              refine withPreds_nil rfl ?_
              refine XO.rem (c := ((n0 : Nat) : Int)) rfl rfl (by first | omega | (dsimp only; omega)) (by rw [rem_nn (by omega)]; exact hqn0) rfl ?_
              refine XO.nil ?_
              exact stepQ_ok rfl (rfl)
            refine stepsK_cons rfl ?_ ?_
            · intro X
              refine withPreds_nil rfl ?_
              refine XO.move rfl rfl ?_
              refine XO.nil ?_
              exact stepQ_ok rfl (rfl)
            refine stepsK_cons rfl ?_ ?_
            · intro X
              refine withPreds_cons rfl rfl ?_
              rintro _ rfl
              refine withPreds_nil rfl ?_
              refine XO.convI rfl Try.underlying5 Try.underlying3 (wrap_i64 (by omega) (by omega)) rfl ?_
              refine XO.nil ?_
              exact stepQ_ok rfl (rfl)
            refine stepsK_cons rfl ?_ ?_
            · intro X
              refine withPreds_nil rfl ?_
              refine XO.move rfl rfl ?_
              refine XO.nil ?_
              exact stepQ_ok rfl (rfl)
            refine stepsK_cons rfl ?_ ?_
            · intro X
              refine withPreds_cons rfl rfl ?_
              rintro _ rfl
              refine withPreds_nil rfl ?_
              refine XO.lenS (ts := #[]) rfl Try.underlying22 rfl ?_
              refine XO.nil ?_
              exact stepQ_ok rfl (rfl)
            refine stepsK_cons rfl ?_ ?_
            · intro X
              refine withPreds_cons rfl rfl ?_
              rintro _ rfl
              refine withPreds_cons rfl rfl ?_
              rintro _ rfl
              refine withPreds_nil rfl ?_
              refine XO.rem (c := ((o0 : Nat) : Int)) rfl rfl (by first | omega | (dsimp only; omega)) (by rw [rem_nn (by omega)]; exact hqo0) rfl ?_
              refine XO.nil ?_
              exact stepQ_ok rfl (rfl)
            refine stepsK_cons rfl ?_ ?_
            · intro X
              refine withPreds_cons rfl rfl ?_
              rintro _ rfl
              refine withPreds_nil rfl ?_
              refine XO.assign rfl rfl ?_
              refine XO.nil ?_
              exact stepQ_ok rfl (rfl)
            exact stepsD_end rfl
          case tail23 =>
            refine withPreds_cons rfl rfl ?_
            rintro _ rfl
            refine withPreds_cons rfl rfl ?_
            rintro _ rfl
            refine withPreds_cons rfl rfl ?_
            rintro _ rfl
            refine withPreds_cons rfl rfl ?_
            rintro _ rfl
            refine withPreds_cons rfl rfl ?_
            rintro _ rfl
            refine withPreds_cons rfl rfl ?_
            rintro _ rfl
            refine withPreds_cons rfl rfl ?_
            rintro _ rfl
            refine withPreds_cons rfl rfl ?_
            rintro _ rfl
            refine withPreds_cons rfl rfl ?_
            rintro _ rfl
            refine withPreds_cons rfl rfl ?_
            rintro _ rfl
            refine withPreds_cons rfl rfl ?_
            rintro _ rfl
            refine withPreds_nil rfl ?_
            refine XO.assign rfl rfl ?_
            refine XO.nil ?_
            refine XC.seq2 ?_
            refine XC.seq ?_
            refine XC.keep [0, 5, 13, 19, 20] rfl ?_
            have haddr := hacco.addr (by omega)
            subst haddr
            obtain ⟨rws, haccr, hraw⟩ := Acc.toRaw hacco
            have hrwl := hraw.1
            apply XC.drawS (fun _ => True) trivial 13 (fun p H => XL.Acc rawR 40 H p (some ⟨po.1, 0, none⟩) co rws) (fun p H => XL.Acc rawR 40 H p (some ⟨po.1, 0, none⟩) co (rws.set n0 (rws.getD o0 (none, 0, 0)))) (fun _ _ _ hle h => h.mono hle) (fun _ _ _ hle h => h.mono hle) 14 [eqF _, eqF _, eqF _, eqF _, eqF _, eqF _, eqF _, eqF _, eqF _, eqF _, eqF _, eqF _, eqF _, anyF] follows (by kernel_rfl) ⟨eqF_mono _, eqF_mono _, eqF_mono _, eqF_mono _, eqF_mono _, eqF_mono _, eqF_mono _, eqF_mono _, eqF_mono _, eqF_mono _, eqF_mono _, eqF_mono _, eqF_mono _, anyF_mono, trivial⟩ rfl (haccr) ?steps26 ?tail26
            case steps26 =>
              refine stepsS_cons rfl ?_ ?_
              · intro X e HD hleD _ hfa
                replace hs := hs.mono hleD
                replace hpZ := hpZ.mono hleD
                replace hdZ := hdZ.mono hleD
                replace hacco := hacco.mono hleD
                replace hle0 := hle0.trans hleD
                refine withP_nil rfl ?_
                refine XO.move rfl rfl ?_
                refine XO.nil ?_
                exact stepQV_ok trivial (rfl) (by unfold foS; rw [if_neg (by decide)])
              refine stepsS_cons rfl ?_ ?_
              · intro X e HD hleD _ hfa
                replace hs := hs.mono hleD
                replace hpZ := hpZ.mono hleD
                replace hdZ := hdZ.mono hleD
                replace hacco := hacco.mono hleD
                replace hle0 := hle0.trans hleD
                refine withP_nil rfl ?_
                refine XO.move rfl rfl ?_
                refine XO.nil ?_
                exact stepQV_ok trivial (rfl) (by unfold foS; rw [if_neg (by decide)])
              refine stepsS_cons rfl ?_ ?_
              · intro X e HD hleD _ hfa
                replace hs := hs.mono hleD
                replace hpZ := hpZ.mono hleD
                replace hdZ := hdZ.mono hleD
                replace hacco := hacco.mono hleD
                replace hle0 := hle0.trans hleD
                refine withP_nil rfl ?_
                refine XO.move rfl rfl ?_
                refine XO.nil ?_
                exact stepQV_ok trivial (rfl) (by unfold foS; rw [if_neg (by decide)])
              refine stepsS_cons rfl ?_ ?_
              · intro X e HD hleD _ hfa
                replace hs := hs.mono hleD
                replace hpZ := hpZ.mono hleD
                replace hdZ := hdZ.mono hleD
                replace hacco := hacco.mono hleD
                replace hle0 := hle0.trans hleD
                refine withP_nil rfl ?_
                refine XO.move rfl rfl ?_
                refine XO.nil ?_
                exact stepQV_ok trivial (rfl) (by unfold foS; rw [if_neg (by decide)])
              refine stepsS_cons rfl ?_ ?_
              · intro X e HD hleD _ hfa
                replace hs := hs.mono hleD
                replace hpZ := hpZ.mono hleD
                replace hdZ := hdZ.mono hleD
                replace hacco := hacco.mono hleD
                replace hle0 := hle0.trans hleD
                refine withP_nil rfl ?_
                refine XO.move rfl rfl ?_
                refine XO.nil ?_
                exact stepQV_ok trivial (rfl) (by unfold foS; rw [if_neg (by decide)])
              refine stepsS_cons rfl ?_ ?_
              · intro X e HD hleD _ hfa
                replace hs := hs.mono hleD
                replace hpZ := hpZ.mono hleD
                replace hdZ := hdZ.mono hleD
                replace hacco := hacco.mono hleD
                replace hle0 := hle0.trans hleD
                refine withP_nil rfl ?_
                refine XO.move rfl rfl ?_
                refine XO.nil ?_
                exact stepQV_ok trivial (rfl) (by unfold foS; rw [if_neg (by decide)])
              refine stepsS_cons rfl ?_ ?_
              · intro X e HD hleD _ hfa
                replace hs := hs.mono hleD
                replace hpZ := hpZ.mono hleD
                replace hdZ := hdZ.mono hleD
                replace hacco := hacco.mono hleD
                replace hle0 := hle0.trans hleD
                refine withP_cons rfl rfl ?_
                rintro _ rfl
                refine withP_cons rfl rfl ?_
                rintro _ rfl
                refine withP_nil rfl ?_
                refine XO.indexE rfl rfl Try.underlying22 ty_40 (by omega) (by omega) rfl ?_
                refine XO.nil ?_
                exact stepQV_ok trivial (rfl) (by unfold foS; rw [if_neg (by decide)])
              refine stepsS_cons rfl ?_ ?_
              · intro X e HD hleD _ hfa
                replace hs := hs.mono hleD
                replace hpZ := hpZ.mono hleD
                replace hdZ := hdZ.mono hleD
                replace hacco := hacco.mono hleD
                replace hle0 := hle0.trans hleD
                refine withP_cons rfl rfl ?_
                rintro _ rfl
                refine withP_nil rfl ?_
                replace hfa := hfa (Or.inr rfl)
                skip
                refine XO.loadA 0 rfl rfl hfa (getD_at (none, 0, 0) (by omega)) ty_40 rfl (fun cs28 v28 hR28 hv28 => ?_) (fun cs28 hR28 => ⟨_, by cases hR28; rfl⟩)
                cases hR28; cases hv28
                refine XO.nil ?_
                exact stepQV_ok trivial (rfl) (by unfold foS; rw [if_neg (by decide)])
              refine stepsS_cons rfl ?_ ?_
              · intro X e HD hleD _ hfa
                replace hs := hs.mono hleD
                replace hpZ := hpZ.mono hleD
                replace hdZ := hdZ.mono hleD
                replace hacco := hacco.mono hleD
                replace hle0 := hle0.trans hleD
                refine withP_nil rfl ?_
                refine XO.move rfl rfl ?_
                refine XO.nil ?_
                exact stepQV_ok trivial (rfl) (by unfold foS; rw [if_neg (by decide)])
              refine stepsS_cons rfl ?_ ?_
              · intro X e HD hleD _ hfa
                replace hs := hs.mono hleD
                replace hpZ := hpZ.mono hleD
                replace hdZ := hdZ.mono hleD
                replace hacco := hacco.mono hleD
                replace hle0 := hle0.trans hleD
                refine withP_nil rfl ?_
                refine XO.move rfl rfl ?_
                refine XO.nil ?_
                exact stepQV_ok trivial (rfl) (by unfold foS; rw [if_neg (by decide)])
              refine stepsS_cons rfl ?_ ?_
              · intro X e HD hleD _ hfa
                replace hs := hs.mono hleD
                replace hpZ := hpZ.mono hleD
                replace hdZ := hdZ.mono hleD
                replace hacco := hacco.mono hleD
                replace hle0 := hle0.trans hleD
                refine withP_cons rfl rfl ?_
                rintro _ rfl
                refine withP_cons rfl rfl ?_
                rintro _ rfl
                refine withP_nil rfl ?_
                refine XO.indexE rfl rfl Try.underlying22 ty_40 (by omega) (by omega) rfl ?_
                refine XO.nil ?_
                exact stepQV_ok trivial (rfl) (by unfold foS; rw [if_neg (by decide)])
              refine stepsS_cons rfl ?_ ?_
              · intro X e HD hleD _ hfa
                replace hs := hs.mono hleD
                replace hpZ := hpZ.mono hleD
                replace hdZ := hdZ.mono hleD
                replace hacco := hacco.mono hleD
                replace hle0 := hle0.trans hleD
                refine withP_cons rfl rfl ?_
                rintro _ rfl
                refine withP_nil rfl ?_
                replace hfa := hfa (Or.inr rfl)
                skip
                refine XO.loadA 0 rfl rfl hfa (getD_at (none, 0, 0) (by omega)) ty_40 rfl (fun cs30 v30 hR30 hv30 => ?_) (fun cs30 hR30 => ⟨_, by cases hR30; rfl⟩)
                cases hR30; cases hv30
                refine XO.nil ?_
                exact stepQV_ok trivial (rfl) (by unfold foS; rw [if_neg (by decide)])
              refine stepsS_cons rfl ?_ ?_
              · intro X e HD hleD _ hfa
                replace hs := hs.mono hleD
                replace hpZ := hpZ.mono hleD
                replace hdZ := hdZ.mono hleD
                replace hacco := hacco.mono hleD
                replace hle0 := hle0.trans hleD
                refine withP_cons rfl rfl ?_
                rintro _ rfl
                refine withP_cons rfl rfl ?_
                rintro _ rfl
                refine withP_nil rfl ?_
                refine XO.indexE rfl rfl Try.underlying22 ty_40 (by omega) (by omega) rfl ?_
                refine XO.nil ?_
                exact stepQV_ok trivial (rfl) (by unfold foS; rw [if_neg (by decide)])
              refine stepsS_cons rfl ?_ ?_
              · intro X e HD hleD _ hfa
                replace hs := hs.mono hleD
                replace hpZ := hpZ.mono hleD
                replace hdZ := hdZ.mono hleD
                replace hacco := hacco.mono hleD
                replace hle0 := hle0.trans hleD
                refine withP_cons rfl rfl ?_
                rintro _ rfl
                refine withP_cons rfl rfl ?_
                rintro _ rfl
                refine withP_nil rfl ?_
                replace hfa := hfa (Or.inl rfl)
                skip
                refine XO.storeA 0 rfl rfl rfl hfa (k := n0) (by omega) rfl rfl ty_40 rfl (fun p13 hacc13 => ?_)
                refine XO.nil ?_
                exact stepQV_ok trivial (trivial) (by unfold foS; rw [if_pos rfl]; exact hacc13)
              exact stepsS_end rfl
            case tail26 =>
              intro HD hleD _
              replace hs := hs.mono hleD
              replace hpZ := hpZ.mono hleD
              replace hdZ := hdZ.mono hleD
              replace hacco := hacco.mono hleD
              replace hle0 := hle0.trans hleD
              refine withP_cons rfl rfl ?_
              rintro _ rfl
              refine withP_cons rfl rfl ?_
              rintro _ rfl
              refine withP_cons rfl rfl ?_
              rintro _ rfl
              refine withP_cons rfl rfl ?_
              rintro _ rfl
              refine withP_cons rfl rfl ?_
              rintro _ rfl
              refine withP_cons rfl rfl ?_
              rintro _ rfl
              refine withP_cons rfl rfl ?_
              rintro _ rfl
              refine withP_cons rfl rfl ?_
              rintro _ rfl
              refine withP_cons rfl rfl ?_
              rintro _ rfl
              refine withP_cons rfl rfl ?_
              rintro _ rfl
              refine withP_cons rfl rfl ?_
              rintro _ rfl
              refine withP_cons rfl rfl ?_
              rintro _ rfl
              refine withP_cons rfl rfl ?_
              rintro _ rfl
              refine withP_skip rfl rfl ?_
              refine withP_nil rfl ?_
              intro e he
              replace hraw := hraw.mono hleD
              refine XO.indexE rfl rfl Try.underlying22 ty_40 (by omega) (by omega) rfl ?_
              refine XO.storeA 0 rfl rfl rfl he (k := o0) (by rw [List.length_set]; omega) rfl rfl ty_40 rfl (fun pX haccX => ?_)
              replace haccX := Acc.fromRaw haccX (raw_swap hraw (by omega) (by omega))
              refine XO.publishA 0 rfl haccX rfl (fun HX hleX hsX => ?_)
              rw [show swapL (m.map fun r => swapL r i0 k0 false) n0 o0 [] = swapT m n0 o0 i0 k0 from rfl] at hsX
              rw [show (m.map fun r => swapL r i0 k0 false).length = (swapT m n0 o0 i0 k0).length by simp [swapT, swapL_len]]
              have hdims := swapT_dims (m := m) (n := n0) (o := o0) (i := i0) (k := k0) hok (by omega) (by omega)
              have hk2 := chk_eq0.2 (hdims.ok hok)
              have hlx := hdims.len
              obtain ⟨t1, t2⟩ := sw_tr (n := n0) (o := o0) (i := i0) (k := k0) hok (by omega) (by omega) (by omega) (by omega)
              obtain ⟨u1, u2⟩ := sw_re (n := n0) (o := o0) (i := i0) (k := k0) hok (by omega) (by omega) (by omega) (by omega) t
              replace hs := hs.mono hleX
              replace hpZ := hpZ.mono hleX
              replace hdZ := hdZ.mono hleX
              replace hacco := hacco.mono hleX
              replace hle0 := hle0.trans hleX
              refine XO.nil ?_
              refine XC.seq2 ?_
              refine XC.seq ?_
              refine XC.region ?_
              refine XO.move rfl rfl ?_
              have hcall111 := tree_u _ _ m _ hs (by omega)
              refine XO.callH rfl hcall111 rfl ?_
              rintro _ HT111 hleT111 ⟨a111, c111, h111, rfl⟩
              replace hs := hs.mono hleT111
              replace hpZ := hpZ.mono hleT111
              replace hdZ := hdZ.mono hleT111
              replace hsX := hsX.mono hleT111
              replace hle0 := hle0.trans hleT111
              refine XO.move rfl rfl ?_
              refine XO.extract rfl rfl rfl ?_
              refine XO.extract rfl rfl rfl ?_
              refine XO.extract rfl rfl rfl ?_
              refine XO.assign rfl rfl ?_
              refine XO.assign rfl rfl ?_
              refine XO.assign rfl rfl ?_
              refine XO.nil ?_
              refine XC.seq2 ?_
              refine XC.seq ?_
              refine XC.region ?_
              refine XO.move rfl rfl ?_
              have hcall117 := tree_u _ _ (swapT m n0 o0 i0 k0) _ hsX (by omega)
              refine XO.callH rfl hcall117 rfl ?_
              rintro _ HT117 hleT117 ⟨a117, c117, h117, rfl⟩
              replace hs := hs.mono hleT117
              replace hpZ := hpZ.mono hleT117
              replace hdZ := hdZ.mono hleT117
              replace hsX := hsX.mono hleT117
              replace h111 := h111.mono hleT117
              replace hle0 := hle0.trans hleT117
              refine XO.move rfl rfl ?_
              refine XO.extract rfl rfl rfl ?_
              refine XO.extract rfl rfl rfl ?_
              refine XO.extract rfl rfl rfl ?_
              refine XO.assign rfl rfl ?_
              refine XO.assign rfl rfl ?_
              refine XO.assign rfl rfl ?_
              refine XO.nil ?_
              refine XC.seq2 ?_
              refine XC.seq ?_
              refine XC.region ?_
              refine XO.move rfl rfl ?_
              refine XO.move rfl rfl ?_
              have hcall124 := resist_u _ _ m _ hs (by omega) t ht
              refine XO.callH rfl hcall124 rfl ?_
              rintro _ HT124 hleT124 ⟨a124, c124, h124, rfl⟩
              replace hs := hs.mono hleT124
              replace hpZ := hpZ.mono hleT124
              replace hdZ := hdZ.mono hleT124
              replace hsX := hsX.mono hleT124
              replace h111 := h111.mono hleT124
              replace h117 := h117.mono hleT124
              replace hle0 := hle0.trans hleT124
              refine XO.move rfl rfl ?_
              refine XO.extract rfl rfl rfl ?_
              refine XO.extract rfl rfl rfl ?_
              refine XO.extract rfl rfl rfl ?_
              refine XO.assign rfl rfl ?_
              refine XO.assign rfl rfl ?_
              refine XO.assign rfl rfl ?_
              refine XO.nil ?_
              refine XC.seq2 ?_
              refine XC.seq ?_
              refine XC.region ?_
              refine XO.move rfl rfl ?_
              refine XO.move rfl rfl ?_
              have hcall131 := resist_u _ _ (swapT m n0 o0 i0 k0) _ hsX (by omega) t ht
              refine XO.callH rfl hcall131 rfl ?_
              rintro _ HT131 hleT131 ⟨a131, c131, h131, rfl⟩
              replace hs := hs.mono hleT131
              replace hpZ := hpZ.mono hleT131
              replace hdZ := hdZ.mono hleT131
              replace hsX := hsX.mono hleT131
              replace h111 := h111.mono hleT131
              replace h117 := h117.mono hleT131
              replace h124 := h124.mono hleT131
              replace hle0 := hle0.trans hleT131
              refine XO.move rfl rfl ?_
              refine XO.extract rfl rfl rfl ?_
              refine XO.extract rfl rfl rfl ?_
              refine XO.extract rfl rfl rfl ?_
              refine XO.assign rfl rfl ?_
              refine XO.assign rfl rfl ?_
              refine XO.assign rfl rfl ?_
              refine XO.nil ?_
              refine XC.seq2 ?_
              refine XC.seq ?_
              refine XC.region ?_
              refine XO.move rfl rfl ?_
              refine XO.eql rfl rfl rfl ?_
              refine XO.move rfl rfl ?_
              refine XO.guardT rfl rfl (decide_eq_true hck) rfl ?_
              refine XO.move rfl rfl ?_
              refine XO.guardT rfl rfl (decide_eq_true hck) rfl ?_
              refine XO.eql rfl rfl rfl ?_
              refine XO.pickT rfl (decide_eq_true hck) rfl rfl ?_
              refine XO.move rfl rfl ?_
              refine XO.guardT rfl rfl (decide_eq_true hk2) rfl ?_
              refine XO.move rfl rfl ?_
              refine XO.guardT rfl rfl (decide_eq_true hk2) rfl ?_
              refine XO.move rfl rfl ?_
              refine XO.guardT rfl rfl (decide_eq_true hk2) rfl ?_
              refine XO.eqlB rfl rfl Try.underlying4 rfl ?_
              refine XO.pickT rfl (decide_eq_true hk2) rfl rfl ?_
              refine XO.move rfl rfl ?_
              refine XO.guardT rfl rfl (by simp [t1]) rfl ?_
              refine XO.move rfl rfl ?_
              refine XO.guardT rfl rfl (by simp [t1]) rfl ?_
              refine XO.lenS (ts := #[]) rfl Try.underlying25 rfl ?_
              refine XO.guardT rfl rfl (by simp [t1]) rfl ?_
              refine XO.move rfl rfl ?_
              refine XO.guardT rfl rfl (by simp [t1]) rfl ?_
              refine XO.lenS (ts := #[]) rfl Try.underlying25 rfl ?_
              refine XO.guardT rfl rfl (by simp [t1]) rfl ?_
              refine XO.eql rfl rfl rfl ?_
              refine XO.pickT rfl (by simp [t1]) rfl rfl ?_
              refine XO.move rfl rfl ?_
              refine XO.guardT rfl rfl (decide_eq_true (by omega)) rfl ?_
              refine XO.move rfl rfl ?_
              refine XO.guardT rfl rfl (decide_eq_true (by omega)) rfl ?_
              refine XO.move rfl rfl ?_
              refine XO.guardT rfl rfl (decide_eq_true (by omega)) rfl ?_
              refine XO.eql rfl rfl rfl ?_
              refine XO.pickT rfl (decide_eq_true (by omega)) rfl rfl ?_
              refine XO.move rfl rfl ?_
              refine XO.guardT rfl rfl (decide_eq_true (reE_dims hok hdims _)) rfl ?_
              refine XO.move rfl rfl ?_
              refine XO.guardT rfl rfl (decide_eq_true (reE_dims hok hdims _)) rfl ?_
              refine XO.move rfl rfl ?_
              refine XO.guardT rfl rfl (decide_eq_true (reE_dims hok hdims _)) rfl ?_
              refine XO.eqlB rfl rfl Try.underlying4 rfl ?_
              refine XO.pickT rfl (decide_eq_true (reE_dims hok hdims _)) rfl rfl ?_
              refine XO.move rfl rfl ?_
              refine XO.guardT rfl rfl (by simp [u1]) rfl ?_
              refine XO.move rfl rfl ?_
              refine XO.guardT rfl rfl (by simp [u1]) rfl ?_
              refine XO.lenS (ts := #[]) rfl Try.underlying29 rfl ?_
              refine XO.guardT rfl rfl (by simp [u1]) rfl ?_
              refine XO.move rfl rfl ?_
              refine XO.guardT rfl rfl (by simp [u1]) rfl ?_
              refine XO.lenS (ts := #[]) rfl Try.underlying29 rfl ?_
              refine XO.guardT rfl rfl (by simp [u1]) rfl ?_
              refine XO.eql rfl rfl rfl ?_
              refine XO.pickT rfl (by simp [u1]) rfl rfl ?_
              refine XO.assign rfl rfl ?_
              refine XO.nil ?_
              refine XC.seq2 ?_
              refine XC.ret ?_
              refine ⟨rfl, _, [], rfl, (by repeat (first | exact List.Sublist.refl _ | apply List.Sublist.cons)), RetR.mk ?_⟩
              first | rfl | exact congrArg Value.bool (decide_eq_true (by omega))
  · have g3p := of_decide_eq_true g3
    refine XO.guardF rfl rfl (g3) rfl rfl ?_
    refine XO.guardF rfl rfl (g3) rfl rfl ?_
    refine XO.pickT rfl (g3) rfl rfl ?_
    refine XO.nil ?_
    refine XC.seq2 ?_
    refine XC.condT rfl (rfl) ?_
    refine XC.seq ?_
    refine XC.region ?_
    refine XO.assign rfl rfl ?_
    refine XO.nil ?_
    refine XC.seq2 ?_
    refine XC.ret ?_
    refine seqX_ret ?_
    refine ⟨rfl, _, [], rfl, (by repeat (first | exact List.Sublist.refl _ | apply List.Sublist.cons)), RetR.mk ?_⟩
    first | rfl | exact congrArg Value.bool (decide_eq_true (by omega))

namespace graphNumbers
open Go.ChangeShapes Go.WideShapes Go.ChangeAt Go.RowKit
open Go.ChangeMaps (open_string shut_string)
theorem own : ownKnob Try.prog.godebug = none := by kernel_rfl
theorem laidOut : laidOutB Try.prog = true := by kernel_rfl
set_option maxRecDepth 100000 in
theorem lifted (os : Os) (started : os.Started) (H : Type) (enc : TypeId × Value → H) :
    ReturnsInHanded {} Try.checked os 8 .any (Rows.graphNumbersSpec.pre6 enc Try.prog Try.f8 Rows.graphNumbersRow.domain false) (Rows.graphNumbersSpec.post enc Try.prog Try.f8 false true false false) := by
  refine returnsInHanded_of_change (C := Try.checked) own started (by kernel_rfl) Try.func8
    (ChangeSpec.witness6 (enc := enc) (C := Try.checked) false ⟨#[], #[.slice none 0 0, .int .u8 0, .int .u8 0, .int .u8 0, .int .u8 0, .int .i64 0], []⟩ 8 (by kernel_rfl) (by kernel_rfl) (by kernel_rfl) (by kernel_rfl)) ?_
  intro W base args ds gs before hval0 hW hcnd _
  have hval : ∀ (j : Nat) t v, Try.f8.params[j]? = some t → args[j]? = some v → Value.okWide Try.prog W .any base t v := hval0
  have hW' := hW
  obtain ⟨p, q, hA0, hV, rfl, hfz, hnd⟩ := hW
  have hA : DataW.TrodAll enc Try.prog W 0 (fun _ => true) true Try.f8.params.toList args.toList ds p := hA0
  rw [Try.params8] at hA hval
  obtain ⟨v0, vs0, d0, ds0, p0, q0, hargs, rfl, rfl, h0, r0⟩ := trodAll_cons hA
  obtain ⟨v1, vs1, d1, ds1, p1, q1, rfl, rfl, rfl, h1, r1⟩ := trodAll_cons r0
  obtain ⟨v2, vs2, d2, ds2, p2, q2, rfl, rfl, rfl, h2, r2⟩ := trodAll_cons r1
  obtain ⟨v3, vs3, d3, ds3, p3, q3, rfl, rfl, rfl, h3, r3⟩ := trodAll_cons r2
  obtain ⟨v4, vs4, d4, ds4, p4, q4, rfl, rfl, rfl, h4, r4⟩ := trodAll_cons r3
  obtain ⟨v5, vs5, d5, ds5, p5, q5, rfl, rfl, rfl, h5, r5⟩ := trodAll_cons r4
  obtain ⟨rfl, rfl, rfl⟩ := trodAll_nil r5
  obtain rfl : args = #[v0, v1, v2, v3, v4, v5] := by cases args; simp_all
  obtain ⟨rfl, rfl⟩ := trodVars_none hV
  obtain ⟨a0, len0, cap0, rfl⟩ := okWide_slice Try.underlying22 (hval 0 22 v0 rfl rfl)
  have k0 := h0
  have lt0 : ∀ x ∈ p0, x.block < W.heap.size := by obtain ⟨m, hm⟩ := k0; exact DataW.trod_lt m _ _ _ hm
  obtain ⟨fuel0, hf0⟩ := h0
  obtain ⟨l0, ⟨aa0, cc0, hcs0, hs0⟩, hw0⟩ := opens_tb enc W 0 _ _ fuel0 _ _ hf0
  simp [Value.cells] at hcs0
  obtain ⟨rfl, rfl, rfl⟩ := hcs0
  obtain ⟨a1, rfl, rfl, rfl, w1⟩ := open_int Try.underlying5 (hval 1 5 v1 rfl rfl) h1
  obtain ⟨a2, rfl, rfl, rfl, w2⟩ := open_int Try.underlying5 (hval 2 5 v2 rfl rfl) h2
  obtain ⟨a3, rfl, rfl, rfl, w3⟩ := open_int Try.underlying5 (hval 3 5 v3 rfl rfl) h3
  obtain ⟨a4, rfl, rfl, rfl, w4⟩ := open_int Try.underlying5 (hval 4 5 v4 rfl rfl) h4
  obtain ⟨a5, rfl, rfl, rfl, w5⟩ := open_int Try.underlying3 (hval 5 3 v5 rfl rfl) h5
  clear hA0 hval0
  refine (graphNumbers_fn _ _ l0 (hpOf W) hs0 (by have := hw0.1; unfold maxLen at this; omega) a1 a2 a3 a4 a5 (wf_u8 w1) (wf_u8 w2) (wf_u8 w3) (wf_u8 w4) (wf_i64 w5)).below.mono fun e W' ⟨he, bel⟩ => ?_
  subst he
  exact ⟨_, rfl, _, _, _, [], _, [], hW', trodAll_mk1 (shut_bool Try.underlying4 _), (trodAll_cons_mk (Below.trod laidOut (by kernel_rfl) (of_decide_eq_true (by kernel_rfl)) k0 bel lt0) (trodAll_cons_mk (shut_int Try.underlying5 w1) (trodAll_cons_mk (shut_int Try.underlying5 w2) (trodAll_cons_mk (shut_int Try.underlying5 w3) (trodAll_cons_mk (shut_int Try.underlying5 w4) (trodAll_cons_mk (shut_int Try.underlying3 w5) trodAll_mk0)))))), rfl, bel.frame _, fun h => by cases h⟩
theorem over : Rows.graphNumbersRow.holds Try.pinned (OpenSpec.ofChange Rows.graphNumbersSpec) :=
  OpenClaim.holds_of_wide 8 Try.f8 rfl rfl rfl rfl rfl rfl rfl ⟨rfl, rfl, rfl, rfl, rfl⟩ rfl rfl rfl rfl rfl (by kernel_rfl) Try.func8 (by kernel_rfl)
    (of_decide_eq_true (by kernel_rfl)) (by unfold Func.isWrapper; first | (rw [if_pos (by decide +kernel)]; kernel_rfl) | (rw [if_neg (by decide +kernel)]; exact ⟨rfl, rfl⟩))
    (fun os started H enc _ => lifted os started H enc)
/-- The given statement. -/
theorem proved : Rows.GraphNumbersSaid := over
#print axioms proved
end graphNumbers
end Go.Proofs.Ytbfleiickdobnaa
