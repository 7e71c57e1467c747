/- The law CodecNumbers: it returns true, whatever the input, and what it was handed reads as before. No condition. -/
import Derived.Test.YtngedgknbebgpaaB7
import Derived.Test.YtngedgknbebgpaaB2
import Derived.Test.YtngedgknbebgpaaRows
import Derived.WalkKit
import Derived.ProofKit
import Derived.OpenShut
import Derived.ShutString
import Derived.ChangeOld
import Derived.Below
set_option autoImplicit false
set_option linter.unusedVariables false
set_option linter.unusedSimpArgs false
namespace Go.Proofs.Ytngedgknbebgpaa
open Go.XL



set_option maxRecDepth 100000 in
set_option maxHeartbeats 1600000 in
theorem codecNumbers_fn (a b : Int) (H : Hp) (ha : -9223372036854775808 ≤ a ∧ a ≤ 9223372036854775807) (hb : -9223372036854775808 ≤ b ∧ b ≤ 9223372036854775807) : FnC Try.prog 9 #[.int .i64 a, .int .i64 b] H [] (RetR (fun v _ _ => v = .bool true)) := by
  refine FnC.intro (args := [.int .i64 a, .int .i64 b]) Try.func9 rfl rfl Try.ntmps9 rfl rfl rfl fun G rest => ?_
  refine XC.seq ?_
  refine XC.region ?_
  refine XO.assign rfl rfl ?_
  refine XO.nil ?_
  refine XC.seq2 ?_
  refine XC.seq ?_
  refine XC.seq ?_
  refine XC.region ?_
  refine XO.callV rfl (sane01 _) rfl ?_
  refine XO.notB rfl rfl ?_
  refine XO.nil ?_
  refine XC.seq2 ?_
  refine XC.condF rfl (rfl) ?_
  refine XC.skip ?_
  refine XC.seq2 ?_
  refine XC.seq ?_
  refine XC.region ?_
  refine XO.move rfl rfl ?_
  refine XO.callV rfl (int_fn _ _) rfl ?_
  refine XO.callV rfl (size_fn 1 a [] [] none 0 _ (w_int _) (fit1 _ ha) (SlR.nil0 _ _)) rfl ?_
  refine XO.move rfl rfl ?_
  refine XO.extract rfl rfl rfl ?_
  refine XO.extract rfl rfl rfl ?_
  refine XO.assign rfl rfl ?_
  refine XO.assign rfl rfl ?_
  refine XO.nil ?_
  refine XC.seq2 ?_
  refine XC.seq ?_
  refine XC.region ?_
  refine XO.move rfl rfl ?_
  refine XO.callV rfl (int_fn _ _) rfl ?_
  refine XO.callV rfl (size_fn 1 b [] [] none 0 _ (w_int _) (fit1 _ hb) (SlR.nil0 _ _)) rfl ?_
  refine XO.move rfl rfl ?_
  refine XO.extract rfl rfl rfl ?_
  refine XO.extract rfl rfl rfl ?_
  refine XO.assign rfl rfl ?_
  refine XO.assign rfl rfl ?_
  refine XO.nil ?_
  refine XC.seq2 ?_
  refine XC.seq ?_
  refine XC.seq ?_
  refine XC.region ?_
  refine XO.move rfl rfl ?_
  refine XO.neq rfl rfl rfl ?_
  refine XO.move rfl rfl ?_
  refine XO.guardT rfl rfl (decide_eq_false (fun h => h (chk_int _))) rfl ?_
  refine XO.move rfl rfl ?_
  refine XO.guardT rfl rfl (decide_eq_false (fun h => h (chk_int _))) rfl ?_
  refine XO.neq rfl rfl rfl ?_
  refine XO.pickF rfl (decide_eq_false (fun h => h (chk_int _))) rfl rfl ?_
  refine XO.move rfl rfl ?_
  refine XO.guardT rfl rfl (decide_eq_false (fun h => h (chk_int _))) rfl ?_
  refine XO.move rfl rfl ?_
  refine XO.guardT rfl rfl (decide_eq_false (fun h => h (chk_int _))) rfl ?_
  refine XO.lss rfl rfl rfl ?_
  refine XO.pickF rfl (decide_eq_false (fun h => h (chk_int _))) rfl rfl ?_
  refine XO.move rfl rfl ?_
  refine XO.guardT rfl rfl (decide_eq_false (by have h1 := siz_bounds ha; have h2 := siz_bounds hb; unfold sizN at h1 h2; omega)) rfl ?_
  refine XO.move rfl rfl ?_
  refine XO.guardT rfl rfl (decide_eq_false (by have h1 := siz_bounds ha; have h2 := siz_bounds hb; unfold sizN at h1 h2; omega)) rfl ?_
  refine XO.gtr rfl rfl rfl ?_
  refine XO.pickF rfl (decide_eq_false (by have h1 := siz_bounds ha; have h2 := siz_bounds hb; unfold sizN at h1 h2; omega)) rfl rfl ?_
  refine XO.move rfl rfl ?_
  refine XO.guardT rfl rfl (decide_eq_false (by have h1 := siz_bounds ha; have h2 := siz_bounds hb; unfold sizN at h1 h2; omega)) rfl ?_
  refine XO.move rfl rfl ?_
  refine XO.guardT rfl rfl (decide_eq_false (by have h1 := siz_bounds ha; have h2 := siz_bounds hb; unfold sizN at h1 h2; omega)) rfl ?_
  refine XO.lss rfl rfl rfl ?_
  refine XO.pickF rfl (decide_eq_false (by have h1 := siz_bounds ha; have h2 := siz_bounds hb; unfold sizN at h1 h2; omega)) rfl rfl ?_
  refine XO.move rfl rfl ?_
  refine XO.guardT rfl rfl (decide_eq_false (by have h1 := siz_bounds ha; have h2 := siz_bounds hb; unfold sizN at h1 h2; omega)) rfl ?_
  refine XO.move rfl rfl ?_
  refine XO.guardT rfl rfl (decide_eq_false (by have h1 := siz_bounds ha; have h2 := siz_bounds hb; unfold sizN at h1 h2; omega)) rfl ?_
  refine XO.gtr rfl rfl rfl ?_
  refine XO.pickF rfl (decide_eq_false (by have h1 := siz_bounds ha; have h2 := siz_bounds hb; unfold sizN at h1 h2; omega)) rfl rfl ?_
  refine XO.nil ?_
  refine XC.seq2 ?_
  refine XC.condF rfl (decide_eq_false (by have h1 := siz_bounds ha; have h2 := siz_bounds hb; unfold sizN at h1 h2; omega)) ?_
  refine XC.skip ?_
  refine XC.seq2 ?_
  refine XC.seq ?_
  refine XC.seq ?_
  refine XC.region ?_
  refine XO.move rfl rfl ?_
  refine XO.geq rfl rfl rfl ?_
  refine XO.move rfl rfl ?_
  refine XO.guardC rfl rfl rfl rfl (fun g6 => ?_) (fun g6 => ?_)
  · have g6p := of_decide_eq_true g6
    refine XO.move rfl rfl ?_
    refine XO.guardT rfl rfl (g6) rfl ?_
    refine XO.move rfl rfl ?_
    refine XO.guardT rfl rfl (g6) rfl ?_
    refine XO.geq rfl rfl rfl ?_
    refine XO.pickT rfl (g6) rfl rfl ?_
    refine XO.move rfl rfl ?_
    refine XO.guardC rfl rfl rfl rfl (fun g7 => ?_) (fun g7 => ?_)
    · have g7p := of_decide_eq_true g7
      refine XO.move rfl rfl ?_
      refine XO.guardT rfl rfl (g7) rfl ?_
      refine XO.move rfl rfl ?_
      refine XO.guardT rfl rfl (g7) rfl ?_
      refine XO.lss rfl rfl rfl ?_
      refine XO.pickT rfl (g7) rfl rfl ?_
      refine XO.move rfl rfl ?_
      refine XO.guardT rfl rfl (decide_eq_false (by have h1 := siz_mono (b := b) ha (by omega); unfold sizN at h1; omega)) rfl ?_
      refine XO.move rfl rfl ?_
      refine XO.guardT rfl rfl (decide_eq_false (by have h1 := siz_mono (b := b) ha (by omega); unfold sizN at h1; omega)) rfl ?_
      refine XO.lss rfl rfl rfl ?_
      refine XO.guardT rfl rfl (decide_eq_false (by have h1 := siz_mono (b := b) ha (by omega); unfold sizN at h1; omega)) rfl ?_
      refine XO.move rfl rfl ?_
      refine XO.guardC rfl rfl rfl rfl (fun g8 => ?_) (fun g8 => ?_)
      · have g8p := of_decide_eq_true g8
        refine XO.move rfl rfl ?_
        refine XO.guardT rfl rfl (g8) rfl ?_
        refine XO.move rfl rfl ?_
        refine XO.guardT rfl rfl (g8) rfl ?_
        refine XO.leq rfl rfl rfl ?_
        refine XO.guardT rfl rfl (decide_eq_false (by have h1 := siz_mono (b := b) ha (by omega); unfold sizN at h1; omega)) rfl ?_
        refine XO.pickT rfl (g8) rfl rfl ?_
        refine XO.guardT rfl rfl (decide_eq_false (by have h1 := siz_mono (b := b) ha (by omega); unfold sizN at h1; omega)) rfl ?_
        refine XO.move rfl rfl ?_
        refine XO.guardC rfl rfl rfl rfl (fun g9 => ?_) (fun g9 => ?_)
        · have g9p := of_decide_eq_true g9
          refine XO.move rfl rfl ?_
          refine XO.guardT rfl rfl (g9) rfl ?_
          refine XO.move rfl rfl ?_
          refine XO.guardT rfl rfl (g9) rfl ?_
          refine XO.lss rfl rfl rfl ?_
          refine XO.guardT rfl rfl (decide_eq_false (by have h1 := siz_mono (b := b) ha (by omega); unfold sizN at h1; omega)) rfl ?_
          refine XO.pickT rfl (g9) rfl rfl ?_
          refine XO.pickF rfl (decide_eq_false (by have h1 := siz_mono (b := b) ha (by omega); unfold sizN at h1; omega)) rfl rfl ?_
          refine XO.nil ?_
          refine XC.seq2 ?_
          refine XC.condF rfl (decide_eq_false (by have h1 := siz_mono (b := b) ha (by omega); unfold sizN at h1; omega)) ?_
          refine XC.skip ?_
          refine XC.seq2 ?_
          refine XC.seq ?_
          refine XC.region ?_
          refine XO.move rfl rfl ?_
          refine XO.callV rfl (int_fn _ _) rfl ?_
          refine XO.callH rfl (enc_fn 1 a [] [] none 0 _ (w_int _) (fit1 _ ha) (SlR.nil0 _ _)) rfl ?_
          rintro _ HN78 hleN78 ⟨aN78, cN78, hN78, rfl⟩
          refine XO.move rfl rfl ?_
          refine XO.extract rfl rfl rfl ?_
          refine XO.extract rfl rfl rfl ?_
          refine XO.assign rfl rfl ?_
          refine XO.assign rfl rfl ?_
          refine XO.nil ?_
          refine XC.seq2 ?_
          refine XC.seq ?_
          refine XC.region ?_
          refine XO.move rfl rfl ?_
          have hcall83 := decode_u _ _ _ _ hN78 (eB_len (fit1 _ ha) (w_int _))
          refine XO.callH rfl hcall83 rfl ?_
          rintro _ HN83 hleN83 hD83
          unfold DecVR at hD83
          rw [dec_int ha] at hD83
          obtain ⟨_, ⟨aN83, cN83, rfl, hN83⟩, rfl⟩ := hD83
          replace hN78 := hN78.mono hleN83
          refine XO.move rfl rfl ?_
          refine XO.extract rfl rfl rfl ?_
          refine XO.extract rfl rfl rfl ?_
          refine XO.alloc ze_24 rfl (fun b11 => ?_)
          refine XO.storeO 0 rfl rfl rfl rfl ty_24 rfl rfl rfl rfl rfl ?_
          refine XO.assign rfl rfl ?_
          refine XO.nil ?_
          refine XC.seq2 ?_
          refine XC.seq ?_
          refine XC.region ?_
          refine XO.move rfl rfl ?_
          refine XO.eql rfl rfl rfl ?_
          refine XO.move rfl rfl ?_
          refine XO.guardT rfl rfl (decide_eq_true (chk_int _)) rfl ?_
          refine XO.move rfl rfl ?_
          refine XO.guardT rfl rfl (decide_eq_true (chk_int _)) rfl ?_
          refine XO.eql rfl rfl rfl ?_
          refine XO.pickT rfl (decide_eq_true (chk_int _)) rfl rfl ?_
          refine XO.move rfl rfl ?_
          refine XO.guardT rfl rfl (decide_eq_true rfl) rfl ?_
          refine XO.fieldAddr rfl fa_24_0 rfl ?_
          refine XO.guardT rfl rfl (decide_eq_true rfl) rfl ?_
          refine XO.loadO 0 rfl rfl ty_3 rfl rfl rfl ?_
          refine XO.guardT rfl rfl (decide_eq_true rfl) rfl ?_
          refine XO.eql rfl rfl rfl ?_
          refine XO.pickT rfl (decide_eq_true rfl) rfl rfl ?_
          refine XO.move rfl rfl ?_
          refine XO.guardT rfl rfl (decide_eq_true rfl) rfl ?_
          refine XO.fieldAddr rfl fa_24_1 rfl ?_
          refine XO.guardT rfl rfl (decide_eq_true rfl) rfl ?_
          refine XO.loadO 0 rfl rfl ty_3 rfl rfl rfl ?_
          refine XO.guardT rfl rfl (decide_eq_true rfl) rfl ?_
          refine XO.move rfl rfl ?_
          refine XO.guardT rfl rfl (decide_eq_true rfl) rfl ?_
          refine XO.eql rfl rfl rfl ?_
          refine XO.pickT rfl (decide_eq_true rfl) rfl rfl ?_
          refine XO.move rfl rfl ?_
          refine XO.guardT rfl rfl (decide_eq_true rfl) rfl ?_
          refine XO.fieldAddr rfl fa_24_3 rfl ?_
          refine XO.guardT rfl rfl (decide_eq_true rfl) rfl ?_
          refine XO.loadO 0 rfl rfl ty_22 rfl rfl rfl ?_
          refine XO.guardT rfl rfl (decide_eq_true rfl) rfl ?_
          refine XO.lenS (ts := #[]) rfl Try.underlying22 rfl ?_
          refine XO.guardT rfl rfl (decide_eq_true rfl) rfl ?_
          refine XO.eql rfl rfl rfl ?_
          refine XO.pickT rfl (decide_eq_true rfl) rfl rfl ?_
          refine XO.move rfl rfl ?_
          refine XO.guardT rfl rfl (decide_eq_true rfl) rfl ?_
          refine XO.fieldAddr rfl fa_24_2 rfl ?_
          refine XO.guardT rfl rfl (decide_eq_true rfl) rfl ?_
          refine XO.loadO 0 rfl rfl ty_9 rfl rfl rfl ?_
          refine XO.guardT rfl rfl (decide_eq_true rfl) rfl ?_
          refine XO.eqlS rfl rfl rfl ?_
          refine XO.pickT rfl (decide_eq_true rfl) rfl rfl ?_
          refine XO.assign rfl rfl ?_
          refine XO.nil ?_
          refine XC.seq2 ?_
          refine XC.ret ?_
          refine ⟨rfl, _, [], rfl, (by repeat (first | exact List.Sublist.refl _ | apply List.Sublist.cons)), RetR.mk ?_⟩
          first | rfl | exact congrArg Value.bool (decide_eq_true rfl)
        · have g9p := of_decide_eq_false g9
          refine XO.guardF rfl rfl (g9) rfl rfl ?_
          refine XO.guardF rfl rfl (g9) rfl rfl ?_
          refine XO.guardT rfl rfl (decide_eq_false (by have h1 := siz_mono (b := b) ha (by omega); unfold sizN at h1; omega)) rfl ?_
          refine XO.pickF rfl (g9) rfl rfl ?_
          refine XO.pickF rfl (decide_eq_false (by have h1 := siz_mono (b := b) ha (by omega); unfold sizN at h1; omega)) rfl rfl ?_
          refine XO.nil ?_
          refine XC.seq2 ?_
          refine XC.condF rfl (rfl) ?_
          refine XC.skip ?_
          refine XC.seq2 ?_
          refine XC.seq ?_
          refine XC.region ?_
          refine XO.move rfl rfl ?_
          refine XO.callV rfl (int_fn _ _) rfl ?_
          refine XO.callH rfl (enc_fn 1 a [] [] none 0 _ (w_int _) (fit1 _ ha) (SlR.nil0 _ _)) rfl ?_
          rintro _ HN78 hleN78 ⟨aN78, cN78, hN78, rfl⟩
          refine XO.move rfl rfl ?_
          refine XO.extract rfl rfl rfl ?_
          refine XO.extract rfl rfl rfl ?_
          refine XO.assign rfl rfl ?_
          refine XO.assign rfl rfl ?_
          refine XO.nil ?_
          refine XC.seq2 ?_
          refine XC.seq ?_
          refine XC.region ?_
          refine XO.move rfl rfl ?_
          have hcall83 := decode_u _ _ _ _ hN78 (eB_len (fit1 _ ha) (w_int _))
          refine XO.callH rfl hcall83 rfl ?_
          rintro _ HN83 hleN83 hD83
          unfold DecVR at hD83
          rw [dec_int ha] at hD83
          obtain ⟨_, ⟨aN83, cN83, rfl, hN83⟩, rfl⟩ := hD83
          replace hN78 := hN78.mono hleN83
          refine XO.move rfl rfl ?_
          refine XO.extract rfl rfl rfl ?_
          refine XO.extract rfl rfl rfl ?_
          refine XO.alloc ze_24 rfl (fun b11 => ?_)
          refine XO.storeO 0 rfl rfl rfl rfl ty_24 rfl rfl rfl rfl rfl ?_
          refine XO.assign rfl rfl ?_
          refine XO.nil ?_
          refine XC.seq2 ?_
          refine XC.seq ?_
          refine XC.region ?_
          refine XO.move rfl rfl ?_
          refine XO.eql rfl rfl rfl ?_
          refine XO.move rfl rfl ?_
          refine XO.guardT rfl rfl (decide_eq_true (chk_int _)) rfl ?_
          refine XO.move rfl rfl ?_
          refine XO.guardT rfl rfl (decide_eq_true (chk_int _)) rfl ?_
          refine XO.eql rfl rfl rfl ?_
          refine XO.pickT rfl (decide_eq_true (chk_int _)) rfl rfl ?_
          refine XO.move rfl rfl ?_
          refine XO.guardT rfl rfl (decide_eq_true rfl) rfl ?_
          refine XO.fieldAddr rfl fa_24_0 rfl ?_
          refine XO.guardT rfl rfl (decide_eq_true rfl) rfl ?_
          refine XO.loadO 0 rfl rfl ty_3 rfl rfl rfl ?_
          refine XO.guardT rfl rfl (decide_eq_true rfl) rfl ?_
          refine XO.eql rfl rfl rfl ?_
          refine XO.pickT rfl (decide_eq_true rfl) rfl rfl ?_
          refine XO.move rfl rfl ?_
          refine XO.guardT rfl rfl (decide_eq_true rfl) rfl ?_
          refine XO.fieldAddr rfl fa_24_1 rfl ?_
          refine XO.guardT rfl rfl (decide_eq_true rfl) rfl ?_
          refine XO.loadO 0 rfl rfl ty_3 rfl rfl rfl ?_
          refine XO.guardT rfl rfl (decide_eq_true rfl) rfl ?_
          refine XO.move rfl rfl ?_
          refine XO.guardT rfl rfl (decide_eq_true rfl) rfl ?_
          refine XO.eql rfl rfl rfl ?_
          refine XO.pickT rfl (decide_eq_true rfl) rfl rfl ?_
          refine XO.move rfl rfl ?_
          refine XO.guardT rfl rfl (decide_eq_true rfl) rfl ?_
          refine XO.fieldAddr rfl fa_24_3 rfl ?_
          refine XO.guardT rfl rfl (decide_eq_true rfl) rfl ?_
          refine XO.loadO 0 rfl rfl ty_22 rfl rfl rfl ?_
          refine XO.guardT rfl rfl (decide_eq_true rfl) rfl ?_
          refine XO.lenS (ts := #[]) rfl Try.underlying22 rfl ?_
          refine XO.guardT rfl rfl (decide_eq_true rfl) rfl ?_
          refine XO.eql rfl rfl rfl ?_
          refine XO.pickT rfl (decide_eq_true rfl) rfl rfl ?_
          refine XO.move rfl rfl ?_
          refine XO.guardT rfl rfl (decide_eq_true rfl) rfl ?_
          refine XO.fieldAddr rfl fa_24_2 rfl ?_
          refine XO.guardT rfl rfl (decide_eq_true rfl) rfl ?_
          refine XO.loadO 0 rfl rfl ty_9 rfl rfl rfl ?_
          refine XO.guardT rfl rfl (decide_eq_true rfl) rfl ?_
          refine XO.eqlS rfl rfl rfl ?_
          refine XO.pickT rfl (decide_eq_true rfl) rfl rfl ?_
          refine XO.assign rfl rfl ?_
          refine XO.nil ?_
          refine XC.seq2 ?_
          refine XC.ret ?_
          refine ⟨rfl, _, [], rfl, (by repeat (first | exact List.Sublist.refl _ | apply List.Sublist.cons)), RetR.mk ?_⟩
          first | rfl | exact congrArg Value.bool (decide_eq_true rfl)
      · have g8p := of_decide_eq_false g8
        refine XO.guardF rfl rfl (g8) rfl rfl ?_
        refine XO.guardF rfl rfl (g8) rfl rfl ?_
        refine XO.guardT rfl rfl (decide_eq_false (by have h1 := siz_mono (b := b) ha (by omega); unfold sizN at h1; omega)) rfl ?_
        refine XO.pickF rfl (g8) rfl rfl ?_
        refine XO.guardT rfl rfl (decide_eq_false (by have h1 := siz_mono (b := b) ha (by omega); unfold sizN at h1; omega)) rfl ?_
        refine XO.move rfl rfl ?_
        refine XO.guardF rfl rfl (rfl) rfl rfl ?_
        refine XO.guardF rfl rfl (rfl) rfl rfl ?_
        refine XO.guardF rfl rfl (rfl) rfl rfl ?_
        refine XO.guardT rfl rfl (decide_eq_false (by have h1 := siz_mono (b := b) ha (by omega); unfold sizN at h1; omega)) rfl ?_
        refine XO.pickF rfl (rfl) rfl rfl ?_
        refine XO.pickF rfl (decide_eq_false (by have h1 := siz_mono (b := b) ha (by omega); unfold sizN at h1; omega)) rfl rfl ?_
        refine XO.nil ?_
        refine XC.seq2 ?_
        refine XC.condF rfl (rfl) ?_
        refine XC.skip ?_
        refine XC.seq2 ?_
        refine XC.seq ?_
        refine XC.region ?_
        refine XO.move rfl rfl ?_
        refine XO.callV rfl (int_fn _ _) rfl ?_
        refine XO.callH rfl (enc_fn 1 a [] [] none 0 _ (w_int _) (fit1 _ ha) (SlR.nil0 _ _)) rfl ?_
        rintro _ HN78 hleN78 ⟨aN78, cN78, hN78, rfl⟩
        refine XO.move rfl rfl ?_
        refine XO.extract rfl rfl rfl ?_
        refine XO.extract rfl rfl rfl ?_
        refine XO.assign rfl rfl ?_
        refine XO.assign rfl rfl ?_
        refine XO.nil ?_
        refine XC.seq2 ?_
        refine XC.seq ?_
        refine XC.region ?_
        refine XO.move rfl rfl ?_
        have hcall83 := decode_u _ _ _ _ hN78 (eB_len (fit1 _ ha) (w_int _))
        refine XO.callH rfl hcall83 rfl ?_
        rintro _ HN83 hleN83 hD83
        unfold DecVR at hD83
        rw [dec_int ha] at hD83
        obtain ⟨_, ⟨aN83, cN83, rfl, hN83⟩, rfl⟩ := hD83
        replace hN78 := hN78.mono hleN83
        refine XO.move rfl rfl ?_
        refine XO.extract rfl rfl rfl ?_
        refine XO.extract rfl rfl rfl ?_
        refine XO.alloc ze_24 rfl (fun b11 => ?_)
        refine XO.storeO 0 rfl rfl rfl rfl ty_24 rfl rfl rfl rfl rfl ?_
        refine XO.assign rfl rfl ?_
        refine XO.nil ?_
        refine XC.seq2 ?_
        refine XC.seq ?_
        refine XC.region ?_
        refine XO.move rfl rfl ?_
        refine XO.eql rfl rfl rfl ?_
        refine XO.move rfl rfl ?_
        refine XO.guardT rfl rfl (decide_eq_true (chk_int _)) rfl ?_
        refine XO.move rfl rfl ?_
        refine XO.guardT rfl rfl (decide_eq_true (chk_int _)) rfl ?_
        refine XO.eql rfl rfl rfl ?_
        refine XO.pickT rfl (decide_eq_true (chk_int _)) rfl rfl ?_
        refine XO.move rfl rfl ?_
        refine XO.guardT rfl rfl (decide_eq_true rfl) rfl ?_
        refine XO.fieldAddr rfl fa_24_0 rfl ?_
        refine XO.guardT rfl rfl (decide_eq_true rfl) rfl ?_
        refine XO.loadO 0 rfl rfl ty_3 rfl rfl rfl ?_
        refine XO.guardT rfl rfl (decide_eq_true rfl) rfl ?_
        refine XO.eql rfl rfl rfl ?_
        refine XO.pickT rfl (decide_eq_true rfl) rfl rfl ?_
        refine XO.move rfl rfl ?_
        refine XO.guardT rfl rfl (decide_eq_true rfl) rfl ?_
        refine XO.fieldAddr rfl fa_24_1 rfl ?_
        refine XO.guardT rfl rfl (decide_eq_true rfl) rfl ?_
        refine XO.loadO 0 rfl rfl ty_3 rfl rfl rfl ?_
        refine XO.guardT rfl rfl (decide_eq_true rfl) rfl ?_
        refine XO.move rfl rfl ?_
        refine XO.guardT rfl rfl (decide_eq_true rfl) rfl ?_
        refine XO.eql rfl rfl rfl ?_
        refine XO.pickT rfl (decide_eq_true rfl) rfl rfl ?_
        refine XO.move rfl rfl ?_
        refine XO.guardT rfl rfl (decide_eq_true rfl) rfl ?_
        refine XO.fieldAddr rfl fa_24_3 rfl ?_
        refine XO.guardT rfl rfl (decide_eq_true rfl) rfl ?_
        refine XO.loadO 0 rfl rfl ty_22 rfl rfl rfl ?_
        refine XO.guardT rfl rfl (decide_eq_true rfl) rfl ?_
        refine XO.lenS (ts := #[]) rfl Try.underlying22 rfl ?_
        refine XO.guardT rfl rfl (decide_eq_true rfl) rfl ?_
        refine XO.eql rfl rfl rfl ?_
        refine XO.pickT rfl (decide_eq_true rfl) rfl rfl ?_
        refine XO.move rfl rfl ?_
        refine XO.guardT rfl rfl (decide_eq_true rfl) rfl ?_
        refine XO.fieldAddr rfl fa_24_2 rfl ?_
        refine XO.guardT rfl rfl (decide_eq_true rfl) rfl ?_
        refine XO.loadO 0 rfl rfl ty_9 rfl rfl rfl ?_
        refine XO.guardT rfl rfl (decide_eq_true rfl) rfl ?_
        refine XO.eqlS rfl rfl rfl ?_
        refine XO.pickT rfl (decide_eq_true rfl) rfl rfl ?_
        refine XO.assign rfl rfl ?_
        refine XO.nil ?_
        refine XC.seq2 ?_
        refine XC.ret ?_
        refine ⟨rfl, _, [], rfl, (by repeat (first | exact List.Sublist.refl _ | apply List.Sublist.cons)), RetR.mk ?_⟩
        first | rfl | exact congrArg Value.bool (decide_eq_true rfl)
    · have g7p := of_decide_eq_false g7
      refine XO.guardF rfl rfl (g7) rfl rfl ?_
      refine XO.guardF rfl rfl (g7) rfl rfl ?_
      refine XO.pickF rfl (g7) rfl rfl ?_
      refine XO.move rfl rfl ?_
      refine XO.guardT rfl rfl (rfl) rfl ?_
      refine XO.move rfl rfl ?_
      refine XO.guardT rfl rfl (rfl) rfl ?_
      refine XO.lss rfl rfl rfl ?_
      refine XO.guardT rfl rfl (rfl) rfl ?_
      refine XO.move rfl rfl ?_
      refine XO.guardC rfl rfl rfl rfl (fun g19 => ?_) (fun g19 => ?_)
      · have g19p := of_decide_eq_true g19
        refine XO.move rfl rfl ?_
        refine XO.guardT rfl rfl (g19) rfl ?_
        refine XO.move rfl rfl ?_
        refine XO.guardT rfl rfl (g19) rfl ?_
        refine XO.leq rfl rfl rfl ?_
        refine XO.guardT rfl rfl (rfl) rfl ?_
        refine XO.pickT rfl (g19) rfl rfl ?_
        refine XO.guardT rfl rfl (rfl) rfl ?_
        refine XO.move rfl rfl ?_
        refine XO.guardC rfl rfl rfl rfl (fun g20 => ?_) (fun g20 => ?_)
        · have g20p := of_decide_eq_true g20
          refine XO.move rfl rfl ?_
          refine XO.guardT rfl rfl (g20) rfl ?_
          refine XO.move rfl rfl ?_
          refine XO.guardT rfl rfl (g20) rfl ?_
          refine XO.lss rfl rfl rfl ?_
          refine XO.guardT rfl rfl (rfl) rfl ?_
          refine XO.pickT rfl (g20) rfl rfl ?_
          refine XO.pickF rfl (rfl) rfl rfl ?_
          refine XO.nil ?_
          refine XC.seq2 ?_
          refine XC.condF rfl (decide_eq_false (by have h1 := siz_mono (b := b) ha (by omega); unfold sizN at h1; omega)) ?_
          refine XC.skip ?_
          refine XC.seq2 ?_
          refine XC.seq ?_
          refine XC.region ?_
          refine XO.move rfl rfl ?_
          refine XO.callV rfl (int_fn _ _) rfl ?_
          refine XO.callH rfl (enc_fn 1 a [] [] none 0 _ (w_int _) (fit1 _ ha) (SlR.nil0 _ _)) rfl ?_
          rintro _ HN78 hleN78 ⟨aN78, cN78, hN78, rfl⟩
          refine XO.move rfl rfl ?_
          refine XO.extract rfl rfl rfl ?_
          refine XO.extract rfl rfl rfl ?_
          refine XO.assign rfl rfl ?_
          refine XO.assign rfl rfl ?_
          refine XO.nil ?_
          refine XC.seq2 ?_
          refine XC.seq ?_
          refine XC.region ?_
          refine XO.move rfl rfl ?_
          have hcall83 := decode_u _ _ _ _ hN78 (eB_len (fit1 _ ha) (w_int _))
          refine XO.callH rfl hcall83 rfl ?_
          rintro _ HN83 hleN83 hD83
          unfold DecVR at hD83
          rw [dec_int ha] at hD83
          obtain ⟨_, ⟨aN83, cN83, rfl, hN83⟩, rfl⟩ := hD83
          replace hN78 := hN78.mono hleN83
          refine XO.move rfl rfl ?_
          refine XO.extract rfl rfl rfl ?_
          refine XO.extract rfl rfl rfl ?_
          refine XO.alloc ze_24 rfl (fun b11 => ?_)
          refine XO.storeO 0 rfl rfl rfl rfl ty_24 rfl rfl rfl rfl rfl ?_
          refine XO.assign rfl rfl ?_
          refine XO.nil ?_
          refine XC.seq2 ?_
          refine XC.seq ?_
          refine XC.region ?_
          refine XO.move rfl rfl ?_
          refine XO.eql rfl rfl rfl ?_
          refine XO.move rfl rfl ?_
          refine XO.guardT rfl rfl (decide_eq_true (chk_int _)) rfl ?_
          refine XO.move rfl rfl ?_
          refine XO.guardT rfl rfl (decide_eq_true (chk_int _)) rfl ?_
          refine XO.eql rfl rfl rfl ?_
          refine XO.pickT rfl (decide_eq_true (chk_int _)) rfl rfl ?_
          refine XO.move rfl rfl ?_
          refine XO.guardT rfl rfl (decide_eq_true rfl) rfl ?_
          refine XO.fieldAddr rfl fa_24_0 rfl ?_
          refine XO.guardT rfl rfl (decide_eq_true rfl) rfl ?_
          refine XO.loadO 0 rfl rfl ty_3 rfl rfl rfl ?_
          refine XO.guardT rfl rfl (decide_eq_true rfl) rfl ?_
          refine XO.eql rfl rfl rfl ?_
          refine XO.pickT rfl (decide_eq_true rfl) rfl rfl ?_
          refine XO.move rfl rfl ?_
          refine XO.guardT rfl rfl (decide_eq_true rfl) rfl ?_
          refine XO.fieldAddr rfl fa_24_1 rfl ?_
          refine XO.guardT rfl rfl (decide_eq_true rfl) rfl ?_
          refine XO.loadO 0 rfl rfl ty_3 rfl rfl rfl ?_
          refine XO.guardT rfl rfl (decide_eq_true rfl) rfl ?_
          refine XO.move rfl rfl ?_
          refine XO.guardT rfl rfl (decide_eq_true rfl) rfl ?_
          refine XO.eql rfl rfl rfl ?_
          refine XO.pickT rfl (decide_eq_true rfl) rfl rfl ?_
          refine XO.move rfl rfl ?_
          refine XO.guardT rfl rfl (decide_eq_true rfl) rfl ?_
          refine XO.fieldAddr rfl fa_24_3 rfl ?_
          refine XO.guardT rfl rfl (decide_eq_true rfl) rfl ?_
          refine XO.loadO 0 rfl rfl ty_22 rfl rfl rfl ?_
          refine XO.guardT rfl rfl (decide_eq_true rfl) rfl ?_
          refine XO.lenS (ts := #[]) rfl Try.underlying22 rfl ?_
          refine XO.guardT rfl rfl (decide_eq_true rfl) rfl ?_
          refine XO.eql rfl rfl rfl ?_
          refine XO.pickT rfl (decide_eq_true rfl) rfl rfl ?_
          refine XO.move rfl rfl ?_
          refine XO.guardT rfl rfl (decide_eq_true rfl) rfl ?_
          refine XO.fieldAddr rfl fa_24_2 rfl ?_
          refine XO.guardT rfl rfl (decide_eq_true rfl) rfl ?_
          refine XO.loadO 0 rfl rfl ty_9 rfl rfl rfl ?_
          refine XO.guardT rfl rfl (decide_eq_true rfl) rfl ?_
          refine XO.eqlS rfl rfl rfl ?_
          refine XO.pickT rfl (decide_eq_true rfl) rfl rfl ?_
          refine XO.assign rfl rfl ?_
          refine XO.nil ?_
          refine XC.seq2 ?_
          refine XC.ret ?_
          refine ⟨rfl, _, [], rfl, (by repeat (first | exact List.Sublist.refl _ | apply List.Sublist.cons)), RetR.mk ?_⟩
          first | rfl | exact congrArg Value.bool (decide_eq_true rfl)
        · have g20p := of_decide_eq_false g20
          refine XO.guardF rfl rfl (g20) rfl rfl ?_
          refine XO.guardF rfl rfl (g20) rfl rfl ?_
          refine XO.guardT rfl rfl (rfl) rfl ?_
          refine XO.pickF rfl (g20) rfl rfl ?_
          refine XO.pickF rfl (rfl) rfl rfl ?_
          refine XO.nil ?_
          refine XC.seq2 ?_
          refine XC.condF rfl (rfl) ?_
          refine XC.skip ?_
          refine XC.seq2 ?_
          refine XC.seq ?_
          refine XC.region ?_
          refine XO.move rfl rfl ?_
          refine XO.callV rfl (int_fn _ _) rfl ?_
          refine XO.callH rfl (enc_fn 1 a [] [] none 0 _ (w_int _) (fit1 _ ha) (SlR.nil0 _ _)) rfl ?_
          rintro _ HN78 hleN78 ⟨aN78, cN78, hN78, rfl⟩
          refine XO.move rfl rfl ?_
          refine XO.extract rfl rfl rfl ?_
          refine XO.extract rfl rfl rfl ?_
          refine XO.assign rfl rfl ?_
          refine XO.assign rfl rfl ?_
          refine XO.nil ?_
          refine XC.seq2 ?_
          refine XC.seq ?_
          refine XC.region ?_
          refine XO.move rfl rfl ?_
          have hcall83 := decode_u _ _ _ _ hN78 (eB_len (fit1 _ ha) (w_int _))
          refine XO.callH rfl hcall83 rfl ?_
          rintro _ HN83 hleN83 hD83
          unfold DecVR at hD83
          rw [dec_int ha] at hD83
          obtain ⟨_, ⟨aN83, cN83, rfl, hN83⟩, rfl⟩ := hD83
          replace hN78 := hN78.mono hleN83
          refine XO.move rfl rfl ?_
          refine XO.extract rfl rfl rfl ?_
          refine XO.extract rfl rfl rfl ?_
          refine XO.alloc ze_24 rfl (fun b11 => ?_)
          refine XO.storeO 0 rfl rfl rfl rfl ty_24 rfl rfl rfl rfl rfl ?_
          refine XO.assign rfl rfl ?_
          refine XO.nil ?_
          refine XC.seq2 ?_
          refine XC.seq ?_
          refine XC.region ?_
          refine XO.move rfl rfl ?_
          refine XO.eql rfl rfl rfl ?_
          refine XO.move rfl rfl ?_
          refine XO.guardT rfl rfl (decide_eq_true (chk_int _)) rfl ?_
          refine XO.move rfl rfl ?_
          refine XO.guardT rfl rfl (decide_eq_true (chk_int _)) rfl ?_
          refine XO.eql rfl rfl rfl ?_
          refine XO.pickT rfl (decide_eq_true (chk_int _)) rfl rfl ?_
          refine XO.move rfl rfl ?_
          refine XO.guardT rfl rfl (decide_eq_true rfl) rfl ?_
          refine XO.fieldAddr rfl fa_24_0 rfl ?_
          refine XO.guardT rfl rfl (decide_eq_true rfl) rfl ?_
          refine XO.loadO 0 rfl rfl ty_3 rfl rfl rfl ?_
          refine XO.guardT rfl rfl (decide_eq_true rfl) rfl ?_
          refine XO.eql rfl rfl rfl ?_
          refine XO.pickT rfl (decide_eq_true rfl) rfl rfl ?_
          refine XO.move rfl rfl ?_
          refine XO.guardT rfl rfl (decide_eq_true rfl) rfl ?_
          refine XO.fieldAddr rfl fa_24_1 rfl ?_
          refine XO.guardT rfl rfl (decide_eq_true rfl) rfl ?_
          refine XO.loadO 0 rfl rfl ty_3 rfl rfl rfl ?_
          refine XO.guardT rfl rfl (decide_eq_true rfl) rfl ?_
          refine XO.move rfl rfl ?_
          refine XO.guardT rfl rfl (decide_eq_true rfl) rfl ?_
          refine XO.eql rfl rfl rfl ?_
          refine XO.pickT rfl (decide_eq_true rfl) rfl rfl ?_
          refine XO.move rfl rfl ?_
          refine XO.guardT rfl rfl (decide_eq_true rfl) rfl ?_
          refine XO.fieldAddr rfl fa_24_3 rfl ?_
          refine XO.guardT rfl rfl (decide_eq_true rfl) rfl ?_
          refine XO.loadO 0 rfl rfl ty_22 rfl rfl rfl ?_
          refine XO.guardT rfl rfl (decide_eq_true rfl) rfl ?_
          refine XO.lenS (ts := #[]) rfl Try.underlying22 rfl ?_
          refine XO.guardT rfl rfl (decide_eq_true rfl) rfl ?_
          refine XO.eql rfl rfl rfl ?_
          refine XO.pickT rfl (decide_eq_true rfl) rfl rfl ?_
          refine XO.move rfl rfl ?_
          refine XO.guardT rfl rfl (decide_eq_true rfl) rfl ?_
          refine XO.fieldAddr rfl fa_24_2 rfl ?_
          refine XO.guardT rfl rfl (decide_eq_true rfl) rfl ?_
          refine XO.loadO 0 rfl rfl ty_9 rfl rfl rfl ?_
          refine XO.guardT rfl rfl (decide_eq_true rfl) rfl ?_
          refine XO.eqlS rfl rfl rfl ?_
          refine XO.pickT rfl (decide_eq_true rfl) rfl rfl ?_
          refine XO.assign rfl rfl ?_
          refine XO.nil ?_
          refine XC.seq2 ?_
          refine XC.ret ?_
          refine ⟨rfl, _, [], rfl, (by repeat (first | exact List.Sublist.refl _ | apply List.Sublist.cons)), RetR.mk ?_⟩
          first | rfl | exact congrArg Value.bool (decide_eq_true rfl)
      · have g19p := of_decide_eq_false g19
        refine XO.guardF rfl rfl (g19) rfl rfl ?_
        refine XO.guardF rfl rfl (g19) rfl rfl ?_
        refine XO.guardT rfl rfl (rfl) rfl ?_
        refine XO.pickF rfl (g19) rfl rfl ?_
        refine XO.guardT rfl rfl (rfl) rfl ?_
        refine XO.move rfl rfl ?_
        refine XO.guardF rfl rfl (rfl) rfl rfl ?_
        refine XO.guardF rfl rfl (rfl) rfl rfl ?_
        refine XO.guardF rfl rfl (rfl) rfl rfl ?_
        refine XO.guardT rfl rfl (rfl) rfl ?_
        refine XO.pickF rfl (rfl) rfl rfl ?_
        refine XO.pickF rfl (rfl) rfl rfl ?_
        refine XO.nil ?_
        refine XC.seq2 ?_
        refine XC.condF rfl (rfl) ?_
        refine XC.skip ?_
        refine XC.seq2 ?_
        refine XC.seq ?_
        refine XC.region ?_
        refine XO.move rfl rfl ?_
        refine XO.callV rfl (int_fn _ _) rfl ?_
        refine XO.callH rfl (enc_fn 1 a [] [] none 0 _ (w_int _) (fit1 _ ha) (SlR.nil0 _ _)) rfl ?_
        rintro _ HN78 hleN78 ⟨aN78, cN78, hN78, rfl⟩
        refine XO.move rfl rfl ?_
        refine XO.extract rfl rfl rfl ?_
        refine XO.extract rfl rfl rfl ?_
        refine XO.assign rfl rfl ?_
        refine XO.assign rfl rfl ?_
        refine XO.nil ?_
        refine XC.seq2 ?_
        refine XC.seq ?_
        refine XC.region ?_
        refine XO.move rfl rfl ?_
        have hcall83 := decode_u _ _ _ _ hN78 (eB_len (fit1 _ ha) (w_int _))
        refine XO.callH rfl hcall83 rfl ?_
        rintro _ HN83 hleN83 hD83
        unfold DecVR at hD83
        rw [dec_int ha] at hD83
        obtain ⟨_, ⟨aN83, cN83, rfl, hN83⟩, rfl⟩ := hD83
        replace hN78 := hN78.mono hleN83
        refine XO.move rfl rfl ?_
        refine XO.extract rfl rfl rfl ?_
        refine XO.extract rfl rfl rfl ?_
        refine XO.alloc ze_24 rfl (fun b11 => ?_)
        refine XO.storeO 0 rfl rfl rfl rfl ty_24 rfl rfl rfl rfl rfl ?_
        refine XO.assign rfl rfl ?_
        refine XO.nil ?_
        refine XC.seq2 ?_
        refine XC.seq ?_
        refine XC.region ?_
        refine XO.move rfl rfl ?_
        refine XO.eql rfl rfl rfl ?_
        refine XO.move rfl rfl ?_
        refine XO.guardT rfl rfl (decide_eq_true (chk_int _)) rfl ?_
        refine XO.move rfl rfl ?_
        refine XO.guardT rfl rfl (decide_eq_true (chk_int _)) rfl ?_
        refine XO.eql rfl rfl rfl ?_
        refine XO.pickT rfl (decide_eq_true (chk_int _)) rfl rfl ?_
        refine XO.move rfl rfl ?_
        refine XO.guardT rfl rfl (decide_eq_true rfl) rfl ?_
        refine XO.fieldAddr rfl fa_24_0 rfl ?_
        refine XO.guardT rfl rfl (decide_eq_true rfl) rfl ?_
        refine XO.loadO 0 rfl rfl ty_3 rfl rfl rfl ?_
        refine XO.guardT rfl rfl (decide_eq_true rfl) rfl ?_
        refine XO.eql rfl rfl rfl ?_
        refine XO.pickT rfl (decide_eq_true rfl) rfl rfl ?_
        refine XO.move rfl rfl ?_
        refine XO.guardT rfl rfl (decide_eq_true rfl) rfl ?_
        refine XO.fieldAddr rfl fa_24_1 rfl ?_
        refine XO.guardT rfl rfl (decide_eq_true rfl) rfl ?_
        refine XO.loadO 0 rfl rfl ty_3 rfl rfl rfl ?_
        refine XO.guardT rfl rfl (decide_eq_true rfl) rfl ?_
        refine XO.move rfl rfl ?_
        refine XO.guardT rfl rfl (decide_eq_true rfl) rfl ?_
        refine XO.eql rfl rfl rfl ?_
        refine XO.pickT rfl (decide_eq_true rfl) rfl rfl ?_
        refine XO.move rfl rfl ?_
        refine XO.guardT rfl rfl (decide_eq_true rfl) rfl ?_
        refine XO.fieldAddr rfl fa_24_3 rfl ?_
        refine XO.guardT rfl rfl (decide_eq_true rfl) rfl ?_
        refine XO.loadO 0 rfl rfl ty_22 rfl rfl rfl ?_
        refine XO.guardT rfl rfl (decide_eq_true rfl) rfl ?_
        refine XO.lenS (ts := #[]) rfl Try.underlying22 rfl ?_
        refine XO.guardT rfl rfl (decide_eq_true rfl) rfl ?_
        refine XO.eql rfl rfl rfl ?_
        refine XO.pickT rfl (decide_eq_true rfl) rfl rfl ?_
        refine XO.move rfl rfl ?_
        refine XO.guardT rfl rfl (decide_eq_true rfl) rfl ?_
        refine XO.fieldAddr rfl fa_24_2 rfl ?_
        refine XO.guardT rfl rfl (decide_eq_true rfl) rfl ?_
        refine XO.loadO 0 rfl rfl ty_9 rfl rfl rfl ?_
        refine XO.guardT rfl rfl (decide_eq_true rfl) rfl ?_
        refine XO.eqlS rfl rfl rfl ?_
        refine XO.pickT rfl (decide_eq_true rfl) rfl rfl ?_
        refine XO.assign rfl rfl ?_
        refine XO.nil ?_
        refine XC.seq2 ?_
        refine XC.ret ?_
        refine ⟨rfl, _, [], rfl, (by repeat (first | exact List.Sublist.refl _ | apply List.Sublist.cons)), RetR.mk ?_⟩
        first | rfl | exact congrArg Value.bool (decide_eq_true rfl)
  · have g6p := of_decide_eq_false g6
    refine XO.guardF rfl rfl (g6) rfl rfl ?_
    refine XO.guardF rfl rfl (g6) rfl rfl ?_
    refine XO.pickF rfl (g6) rfl rfl ?_
    refine XO.move rfl rfl ?_
    refine XO.guardF rfl rfl (rfl) rfl rfl ?_
    refine XO.guardF rfl rfl (rfl) rfl rfl ?_
    refine XO.guardF rfl rfl (rfl) rfl rfl ?_
    refine XO.pickF rfl (rfl) rfl rfl ?_
    refine XO.move rfl rfl ?_
    refine XO.guardT rfl rfl (rfl) rfl ?_
    refine XO.move rfl rfl ?_
    refine XO.guardT rfl rfl (rfl) rfl ?_
    refine XO.lss rfl rfl rfl ?_
    refine XO.guardT rfl rfl (rfl) rfl ?_
    refine XO.move rfl rfl ?_
    refine XO.guardC rfl rfl rfl rfl (fun g30 => ?_) (fun g30 => ?_)
    · have g30p := of_decide_eq_true g30
      refine XO.move rfl rfl ?_
      refine XO.guardT rfl rfl (g30) rfl ?_
      refine XO.move rfl rfl ?_
      refine XO.guardT rfl rfl (g30) rfl ?_
      refine XO.leq rfl rfl rfl ?_
      refine XO.guardT rfl rfl (rfl) rfl ?_
      refine XO.pickT rfl (g30) rfl rfl ?_
      refine XO.guardT rfl rfl (rfl) rfl ?_
      refine XO.move rfl rfl ?_
      refine XO.guardC rfl rfl rfl rfl (fun g31 => ?_) (fun g31 => ?_)
      · have g31p := of_decide_eq_true g31
        refine XO.move rfl rfl ?_
        refine XO.guardT rfl rfl (g31) rfl ?_
        refine XO.move rfl rfl ?_
        refine XO.guardT rfl rfl (g31) rfl ?_
        refine XO.lss rfl rfl rfl ?_
        refine XO.guardT rfl rfl (rfl) rfl ?_
        refine XO.pickT rfl (g31) rfl rfl ?_
        refine XO.pickF rfl (rfl) rfl rfl ?_
        refine XO.nil ?_
        refine XC.seq2 ?_
        refine XC.condF rfl (decide_eq_false (by have h1 := siz_mono (b := b) ha (by omega); unfold sizN at h1; omega)) ?_
        refine XC.skip ?_
        refine XC.seq2 ?_
        refine XC.seq ?_
        refine XC.region ?_
        refine XO.move rfl rfl ?_
        refine XO.callV rfl (int_fn _ _) rfl ?_
        refine XO.callH rfl (enc_fn 1 a [] [] none 0 _ (w_int _) (fit1 _ ha) (SlR.nil0 _ _)) rfl ?_
        rintro _ HN78 hleN78 ⟨aN78, cN78, hN78, rfl⟩
        refine XO.move rfl rfl ?_
        refine XO.extract rfl rfl rfl ?_
        refine XO.extract rfl rfl rfl ?_
        refine XO.assign rfl rfl ?_
        refine XO.assign rfl rfl ?_
        refine XO.nil ?_
        refine XC.seq2 ?_
        refine XC.seq ?_
        refine XC.region ?_
        refine XO.move rfl rfl ?_
        have hcall83 := decode_u _ _ _ _ hN78 (eB_len (fit1 _ ha) (w_int _))
        refine XO.callH rfl hcall83 rfl ?_
        rintro _ HN83 hleN83 hD83
        unfold DecVR at hD83
        rw [dec_int ha] at hD83
        obtain ⟨_, ⟨aN83, cN83, rfl, hN83⟩, rfl⟩ := hD83
        replace hN78 := hN78.mono hleN83
        refine XO.move rfl rfl ?_
        refine XO.extract rfl rfl rfl ?_
        refine XO.extract rfl rfl rfl ?_
        refine XO.alloc ze_24 rfl (fun b11 => ?_)
        refine XO.storeO 0 rfl rfl rfl rfl ty_24 rfl rfl rfl rfl rfl ?_
        refine XO.assign rfl rfl ?_
        refine XO.nil ?_
        refine XC.seq2 ?_
        refine XC.seq ?_
        refine XC.region ?_
        refine XO.move rfl rfl ?_
        refine XO.eql rfl rfl rfl ?_
        refine XO.move rfl rfl ?_
        refine XO.guardT rfl rfl (decide_eq_true (chk_int _)) rfl ?_
        refine XO.move rfl rfl ?_
        refine XO.guardT rfl rfl (decide_eq_true (chk_int _)) rfl ?_
        refine XO.eql rfl rfl rfl ?_
        refine XO.pickT rfl (decide_eq_true (chk_int _)) rfl rfl ?_
        refine XO.move rfl rfl ?_
        refine XO.guardT rfl rfl (decide_eq_true rfl) rfl ?_
        refine XO.fieldAddr rfl fa_24_0 rfl ?_
        refine XO.guardT rfl rfl (decide_eq_true rfl) rfl ?_
        refine XO.loadO 0 rfl rfl ty_3 rfl rfl rfl ?_
        refine XO.guardT rfl rfl (decide_eq_true rfl) rfl ?_
        refine XO.eql rfl rfl rfl ?_
        refine XO.pickT rfl (decide_eq_true rfl) rfl rfl ?_
        refine XO.move rfl rfl ?_
        refine XO.guardT rfl rfl (decide_eq_true rfl) rfl ?_
        refine XO.fieldAddr rfl fa_24_1 rfl ?_
        refine XO.guardT rfl rfl (decide_eq_true rfl) rfl ?_
        refine XO.loadO 0 rfl rfl ty_3 rfl rfl rfl ?_
        refine XO.guardT rfl rfl (decide_eq_true rfl) rfl ?_
        refine XO.move rfl rfl ?_
        refine XO.guardT rfl rfl (decide_eq_true rfl) rfl ?_
        refine XO.eql rfl rfl rfl ?_
        refine XO.pickT rfl (decide_eq_true rfl) rfl rfl ?_
        refine XO.move rfl rfl ?_
        refine XO.guardT rfl rfl (decide_eq_true rfl) rfl ?_
        refine XO.fieldAddr rfl fa_24_3 rfl ?_
        refine XO.guardT rfl rfl (decide_eq_true rfl) rfl ?_
        refine XO.loadO 0 rfl rfl ty_22 rfl rfl rfl ?_
        refine XO.guardT rfl rfl (decide_eq_true rfl) rfl ?_
        refine XO.lenS (ts := #[]) rfl Try.underlying22 rfl ?_
        refine XO.guardT rfl rfl (decide_eq_true rfl) rfl ?_
        refine XO.eql rfl rfl rfl ?_
        refine XO.pickT rfl (decide_eq_true rfl) rfl rfl ?_
        refine XO.move rfl rfl ?_
        refine XO.guardT rfl rfl (decide_eq_true rfl) rfl ?_
        refine XO.fieldAddr rfl fa_24_2 rfl ?_
        refine XO.guardT rfl rfl (decide_eq_true rfl) rfl ?_
        refine XO.loadO 0 rfl rfl ty_9 rfl rfl rfl ?_
        refine XO.guardT rfl rfl (decide_eq_true rfl) rfl ?_
        refine XO.eqlS rfl rfl rfl ?_
        refine XO.pickT rfl (decide_eq_true rfl) rfl rfl ?_
        refine XO.assign rfl rfl ?_
        refine XO.nil ?_
        refine XC.seq2 ?_
        refine XC.ret ?_
        refine ⟨rfl, _, [], rfl, (by repeat (first | exact List.Sublist.refl _ | apply List.Sublist.cons)), RetR.mk ?_⟩
        first | rfl | exact congrArg Value.bool (decide_eq_true rfl)
      · have g31p := of_decide_eq_false g31
        refine XO.guardF rfl rfl (g31) rfl rfl ?_
        refine XO.guardF rfl rfl (g31) rfl rfl ?_
        refine XO.guardT rfl rfl (rfl) rfl ?_
        refine XO.pickF rfl (g31) rfl rfl ?_
        refine XO.pickF rfl (rfl) rfl rfl ?_
        refine XO.nil ?_
        refine XC.seq2 ?_
        refine XC.condF rfl (rfl) ?_
        refine XC.skip ?_
        refine XC.seq2 ?_
        refine XC.seq ?_
        refine XC.region ?_
        refine XO.move rfl rfl ?_
        refine XO.callV rfl (int_fn _ _) rfl ?_
        refine XO.callH rfl (enc_fn 1 a [] [] none 0 _ (w_int _) (fit1 _ ha) (SlR.nil0 _ _)) rfl ?_
        rintro _ HN78 hleN78 ⟨aN78, cN78, hN78, rfl⟩
        refine XO.move rfl rfl ?_
        refine XO.extract rfl rfl rfl ?_
        refine XO.extract rfl rfl rfl ?_
        refine XO.assign rfl rfl ?_
        refine XO.assign rfl rfl ?_
        refine XO.nil ?_
        refine XC.seq2 ?_
        refine XC.seq ?_
        refine XC.region ?_
        refine XO.move rfl rfl ?_
        have hcall83 := decode_u _ _ _ _ hN78 (eB_len (fit1 _ ha) (w_int _))
        refine XO.callH rfl hcall83 rfl ?_
        rintro _ HN83 hleN83 hD83
        unfold DecVR at hD83
        rw [dec_int ha] at hD83
        obtain ⟨_, ⟨aN83, cN83, rfl, hN83⟩, rfl⟩ := hD83
        replace hN78 := hN78.mono hleN83
        refine XO.move rfl rfl ?_
        refine XO.extract rfl rfl rfl ?_
        refine XO.extract rfl rfl rfl ?_
        refine XO.alloc ze_24 rfl (fun b11 => ?_)
        refine XO.storeO 0 rfl rfl rfl rfl ty_24 rfl rfl rfl rfl rfl ?_
        refine XO.assign rfl rfl ?_
        refine XO.nil ?_
        refine XC.seq2 ?_
        refine XC.seq ?_
        refine XC.region ?_
        refine XO.move rfl rfl ?_
        refine XO.eql rfl rfl rfl ?_
        refine XO.move rfl rfl ?_
        refine XO.guardT rfl rfl (decide_eq_true (chk_int _)) rfl ?_
        refine XO.move rfl rfl ?_
        refine XO.guardT rfl rfl (decide_eq_true (chk_int _)) rfl ?_
        refine XO.eql rfl rfl rfl ?_
        refine XO.pickT rfl (decide_eq_true (chk_int _)) rfl rfl ?_
        refine XO.move rfl rfl ?_
        refine XO.guardT rfl rfl (decide_eq_true rfl) rfl ?_
        refine XO.fieldAddr rfl fa_24_0 rfl ?_
        refine XO.guardT rfl rfl (decide_eq_true rfl) rfl ?_
        refine XO.loadO 0 rfl rfl ty_3 rfl rfl rfl ?_
        refine XO.guardT rfl rfl (decide_eq_true rfl) rfl ?_
        refine XO.eql rfl rfl rfl ?_
        refine XO.pickT rfl (decide_eq_true rfl) rfl rfl ?_
        refine XO.move rfl rfl ?_
        refine XO.guardT rfl rfl (decide_eq_true rfl) rfl ?_
        refine XO.fieldAddr rfl fa_24_1 rfl ?_
        refine XO.guardT rfl rfl (decide_eq_true rfl) rfl ?_
        refine XO.loadO 0 rfl rfl ty_3 rfl rfl rfl ?_
        refine XO.guardT rfl rfl (decide_eq_true rfl) rfl ?_
        refine XO.move rfl rfl ?_
        refine XO.guardT rfl rfl (decide_eq_true rfl) rfl ?_
        refine XO.eql rfl rfl rfl ?_
        refine XO.pickT rfl (decide_eq_true rfl) rfl rfl ?_
        refine XO.move rfl rfl ?_
        refine XO.guardT rfl rfl (decide_eq_true rfl) rfl ?_
        refine XO.fieldAddr rfl fa_24_3 rfl ?_
        refine XO.guardT rfl rfl (decide_eq_true rfl) rfl ?_
        refine XO.loadO 0 rfl rfl ty_22 rfl rfl rfl ?_
        refine XO.guardT rfl rfl (decide_eq_true rfl) rfl ?_
        refine XO.lenS (ts := #[]) rfl Try.underlying22 rfl ?_
        refine XO.guardT rfl rfl (decide_eq_true rfl) rfl ?_
        refine XO.eql rfl rfl rfl ?_
        refine XO.pickT rfl (decide_eq_true rfl) rfl rfl ?_
        refine XO.move rfl rfl ?_
        refine XO.guardT rfl rfl (decide_eq_true rfl) rfl ?_
        refine XO.fieldAddr rfl fa_24_2 rfl ?_
        refine XO.guardT rfl rfl (decide_eq_true rfl) rfl ?_
        refine XO.loadO 0 rfl rfl ty_9 rfl rfl rfl ?_
        refine XO.guardT rfl rfl (decide_eq_true rfl) rfl ?_
        refine XO.eqlS rfl rfl rfl ?_
        refine XO.pickT rfl (decide_eq_true rfl) rfl rfl ?_
        refine XO.assign rfl rfl ?_
        refine XO.nil ?_
        refine XC.seq2 ?_
        refine XC.ret ?_
        refine ⟨rfl, _, [], rfl, (by repeat (first | exact List.Sublist.refl _ | apply List.Sublist.cons)), RetR.mk ?_⟩
        first | rfl | exact congrArg Value.bool (decide_eq_true rfl)
    · have g30p := of_decide_eq_false g30
      refine XO.guardF rfl rfl (g30) rfl rfl ?_
      refine XO.guardF rfl rfl (g30) rfl rfl ?_
      refine XO.guardT rfl rfl (rfl) rfl ?_
      refine XO.pickF rfl (g30) rfl rfl ?_
      refine XO.guardT rfl rfl (rfl) rfl ?_
      refine XO.move rfl rfl ?_
      refine XO.guardF rfl rfl (rfl) rfl rfl ?_
      refine XO.guardF rfl rfl (rfl) rfl rfl ?_
      refine XO.guardF rfl rfl (rfl) rfl rfl ?_
      refine XO.guardT rfl rfl (rfl) rfl ?_
      refine XO.pickF rfl (rfl) rfl rfl ?_
      refine XO.pickF rfl (rfl) rfl rfl ?_
      refine XO.nil ?_
      refine XC.seq2 ?_
      refine XC.condF rfl (rfl) ?_
      refine XC.skip ?_
      refine XC.seq2 ?_
      refine XC.seq ?_
      refine XC.region ?_
      refine XO.move rfl rfl ?_
      refine XO.callV rfl (int_fn _ _) rfl ?_
      refine XO.callH rfl (enc_fn 1 a [] [] none 0 _ (w_int _) (fit1 _ ha) (SlR.nil0 _ _)) rfl ?_
      rintro _ HN78 hleN78 ⟨aN78, cN78, hN78, rfl⟩
      refine XO.move rfl rfl ?_
      refine XO.extract rfl rfl rfl ?_
      refine XO.extract rfl rfl rfl ?_
      refine XO.assign rfl rfl ?_
      refine XO.assign rfl rfl ?_
      refine XO.nil ?_
      refine XC.seq2 ?_
      refine XC.seq ?_
      refine XC.region ?_
      refine XO.move rfl rfl ?_
      have hcall83 := decode_u _ _ _ _ hN78 (eB_len (fit1 _ ha) (w_int _))
      refine XO.callH rfl hcall83 rfl ?_
      rintro _ HN83 hleN83 hD83
      unfold DecVR at hD83
      rw [dec_int ha] at hD83
      obtain ⟨_, ⟨aN83, cN83, rfl, hN83⟩, rfl⟩ := hD83
      replace hN78 := hN78.mono hleN83
      refine XO.move rfl rfl ?_
      refine XO.extract rfl rfl rfl ?_
      refine XO.extract rfl rfl rfl ?_
      refine XO.alloc ze_24 rfl (fun b11 => ?_)
      refine XO.storeO 0 rfl rfl rfl rfl ty_24 rfl rfl rfl rfl rfl ?_
      refine XO.assign rfl rfl ?_
      refine XO.nil ?_
      refine XC.seq2 ?_
      refine XC.seq ?_
      refine XC.region ?_
      refine XO.move rfl rfl ?_
      refine XO.eql rfl rfl rfl ?_
      refine XO.move rfl rfl ?_
      refine XO.guardT rfl rfl (decide_eq_true (chk_int _)) rfl ?_
      refine XO.move rfl rfl ?_
      refine XO.guardT rfl rfl (decide_eq_true (chk_int _)) rfl ?_
      refine XO.eql rfl rfl rfl ?_
      refine XO.pickT rfl (decide_eq_true (chk_int _)) rfl rfl ?_
      refine XO.move rfl rfl ?_
      refine XO.guardT rfl rfl (decide_eq_true rfl) rfl ?_
      refine XO.fieldAddr rfl fa_24_0 rfl ?_
      refine XO.guardT rfl rfl (decide_eq_true rfl) rfl ?_
      refine XO.loadO 0 rfl rfl ty_3 rfl rfl rfl ?_
      refine XO.guardT rfl rfl (decide_eq_true rfl) rfl ?_
      refine XO.eql rfl rfl rfl ?_
      refine XO.pickT rfl (decide_eq_true rfl) rfl rfl ?_
      refine XO.move rfl rfl ?_
      refine XO.guardT rfl rfl (decide_eq_true rfl) rfl ?_
      refine XO.fieldAddr rfl fa_24_1 rfl ?_
      refine XO.guardT rfl rfl (decide_eq_true rfl) rfl ?_
      refine XO.loadO 0 rfl rfl ty_3 rfl rfl rfl ?_
      refine XO.guardT rfl rfl (decide_eq_true rfl) rfl ?_
      refine XO.move rfl rfl ?_
      refine XO.guardT rfl rfl (decide_eq_true rfl) rfl ?_
      refine XO.eql rfl rfl rfl ?_
      refine XO.pickT rfl (decide_eq_true rfl) rfl rfl ?_
      refine XO.move rfl rfl ?_
      refine XO.guardT rfl rfl (decide_eq_true rfl) rfl ?_
      refine XO.fieldAddr rfl fa_24_3 rfl ?_
      refine XO.guardT rfl rfl (decide_eq_true rfl) rfl ?_
      refine XO.loadO 0 rfl rfl ty_22 rfl rfl rfl ?_
      refine XO.guardT rfl rfl (decide_eq_true rfl) rfl ?_
      refine XO.lenS (ts := #[]) rfl Try.underlying22 rfl ?_
      refine XO.guardT rfl rfl (decide_eq_true rfl) rfl ?_
      refine XO.eql rfl rfl rfl ?_
      refine XO.pickT rfl (decide_eq_true rfl) rfl rfl ?_
      refine XO.move rfl rfl ?_
      refine XO.guardT rfl rfl (decide_eq_true rfl) rfl ?_
      refine XO.fieldAddr rfl fa_24_2 rfl ?_
      refine XO.guardT rfl rfl (decide_eq_true rfl) rfl ?_
      refine XO.loadO 0 rfl rfl ty_9 rfl rfl rfl ?_
      refine XO.guardT rfl rfl (decide_eq_true rfl) rfl ?_
      refine XO.eqlS rfl rfl rfl ?_
      refine XO.pickT rfl (decide_eq_true rfl) rfl rfl ?_
      refine XO.assign rfl rfl ?_
      refine XO.nil ?_
      refine XC.seq2 ?_
      refine XC.ret ?_
      refine ⟨rfl, _, [], rfl, (by repeat (first | exact List.Sublist.refl _ | apply List.Sublist.cons)), RetR.mk ?_⟩
      first | rfl | exact congrArg Value.bool (decide_eq_true rfl)

namespace codecNumbers
open Go.ChangeShapes Go.WideShapes Go.ChangeAt Go.RowKit
open Go.ChangeMaps (open_string shut_string)
theorem own : ownKnob Try.prog.godebug = none := by kernel_rfl
theorem laidOut : laidOutB Try.prog = true := by kernel_rfl
set_option maxRecDepth 100000 in
theorem lifted (os : Os) (started : os.Started) (H : Type) (enc : TypeId × Value → H) :
    ReturnsInHanded {} Try.checked os 9 .any (Rows.codecNumbersSpec.pre6 enc Try.prog Try.f9 Rows.codecNumbersRow.domain false) (Rows.codecNumbersSpec.post enc Try.prog Try.f9 false true false false) := by
  refine returnsInHanded_of_change (C := Try.checked) own started (by kernel_rfl) Try.func9
    (ChangeSpec.witness6 (enc := enc) (C := Try.checked) false ⟨#[], #[.int .i64 0, .int .i64 0], []⟩ 8 (by kernel_rfl) (by kernel_rfl) (by kernel_rfl) (by kernel_rfl)) ?_
  intro W base args ds gs before hval0 hW hcnd _
  have hval : ∀ (j : Nat) t v, Try.f9.params[j]? = some t → args[j]? = some v → Value.okWide Try.prog W .any base t v := hval0
  have hW' := hW
  obtain ⟨p, q, hA0, hV, rfl, hfz, hnd⟩ := hW
  have hA : DataW.TrodAll enc Try.prog W 0 (fun _ => true) true Try.f9.params.toList args.toList ds p := hA0
  rw [Try.params9] at hA hval
  obtain ⟨v0, vs0, d0, ds0, p0, q0, hargs, rfl, rfl, h0, r0⟩ := trodAll_cons hA
  obtain ⟨v1, vs1, d1, ds1, p1, q1, rfl, rfl, rfl, h1, r1⟩ := trodAll_cons r0
  obtain ⟨rfl, rfl, rfl⟩ := trodAll_nil r1
  obtain rfl : args = #[v0, v1] := by cases args; simp_all
  obtain ⟨rfl, rfl⟩ := trodVars_none hV
  obtain ⟨a0, rfl, rfl, rfl, w0⟩ := open_int Try.underlying3 (hval 0 3 v0 rfl rfl) h0
  obtain ⟨a1, rfl, rfl, rfl, w1⟩ := open_int Try.underlying3 (hval 1 3 v1 rfl rfl) h1
  clear hA0 hval0
  refine (codecNumbers_fn a0 a1 (hpOf W) (wf_i64 w0) (wf_i64 w1)).below.mono fun e W' ⟨he, bel⟩ => ?_
  subst he
  exact ⟨_, rfl, _, _, _, [], _, [], hW', trodAll_mk1 (shut_bool Try.underlying4 _), (trodAll_cons_mk (shut_int Try.underlying3 w0) (trodAll_cons_mk (shut_int Try.underlying3 w1) trodAll_mk0)), rfl, bel.frame _, fun h => by cases h⟩
theorem over : Rows.codecNumbersRow.holds Try.pinned (OpenSpec.ofChange Rows.codecNumbersSpec) :=
  OpenClaim.holds_of_wide 9 Try.f9 rfl rfl rfl rfl rfl rfl rfl ⟨rfl, rfl, rfl, rfl, rfl⟩ rfl rfl rfl rfl rfl (by kernel_rfl) Try.func9 (by kernel_rfl)
    (of_decide_eq_true (by kernel_rfl)) (by unfold Func.isWrapper; first | (rw [if_pos (by decide +kernel)]; kernel_rfl) | (rw [if_neg (by decide +kernel)]; exact ⟨rfl, rfl⟩))
    (fun os started H enc _ => lifted os started H enc)
/-- The given statement. -/
theorem proved : Rows.CodecNumbersSaid := over
#print axioms proved
end codecNumbers
end Go.Proofs.Ytngedgknbebgpaa
