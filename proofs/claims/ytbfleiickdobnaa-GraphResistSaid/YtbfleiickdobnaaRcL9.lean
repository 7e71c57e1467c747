/- The law GraphResist: it returns true, whatever the input, and what it was handed reads as before. No condition. -/
import Derived.Test.YtbfleiickdobnaaRcE2
import Derived.Test.YtbfleiickdobnaaXLn
import Derived.Test.YtbfleiickdobnaaRcE
import Derived.Test.YtbfleiickdobnaaRows
import Derived.WalkKit
import Derived.ProofKit
import Derived.OpenShut
import Derived.ShutString
import Derived.ChangeOld
import Derived.Below
set_option autoImplicit false
set_option linter.unusedVariables false
set_option linter.unusedSimpArgs false
namespace Go.Proofs.Ytbfleiickdobnaa
open Go.XL



set_option maxRecDepth 100000 in
set_option maxHeartbeats 1600000 in
theorem graphResist_fn (a : Option Addr) (c : Nat) (m : Tb) (H : Hp) (hs : SlR tbR H a c m) (hl : m.length < 9223372036854775808) (t bits : Int) (ht : -9223372036854775808 ≤ t ∧ t ≤ 9223372036854775807) : FnC Try.prog 9 #[.slice a m.length c, .int .i64 t, .int .u16 bits] H [] (RetR (fun v _ _ => v = .bool true)) := by
  refine FnC.intro (args := [.slice a m.length c, .int .i64 t, .int .u16 bits]) Try.func9 rfl rfl Try.ntmps9 rfl rfl rfl fun G rest => ?_
  refine XC.seq ?_
  refine XC.region ?_
  refine XO.assign rfl rfl ?_
  refine XO.nil ?_
  refine XC.seq2 ?_
  refine XC.seq ?_
  refine XC.seq ?_
  refine XC.region ?_
  refine XO.callV rfl (sane37 _) rfl ?_
  refine XO.notB rfl rfl ?_
  refine XO.nil ?_
  refine XC.seq2 ?_
  refine XC.condF rfl (rfl) ?_
  refine XC.skip ?_
  refine XC.seq2 ?_
  refine XC.seq ?_
  refine XC.seq ?_
  refine XC.region ?_
  refine XO.move rfl rfl ?_
  refine XO.callV rfl (small_fn _ _ m _ hs hl) rfl ?_
  refine XO.not rfl rfl ?_
  refine XO.nil ?_
  refine XC.seq2 ?_
  refine XC.cond rfl (fun c1_3 => ?_) (fun c1_3 => ?_)
  · refine XC.seq ?_
    refine XC.region ?_
    refine XO.assign rfl rfl ?_
    refine XO.nil ?_
    refine XC.seq2 ?_
    refine XC.ret ?_
    refine seqX_ret ?_
    refine ⟨rfl, _, [], rfl, (by repeat (first | exact List.Sublist.refl _ | apply List.Sublist.cons)), RetR.mk ?_⟩
    first | rfl | exact congrArg Value.bool (decide_eq_true hnP) | exact congrArg Value.bool (decide_eq_true (by have := re_more (T := T) hck (by omega) (by assumption) (Decidable.not_not.1 (by assumption)); omega))
  · have hsm : smallG m := Decidable.not_not.1 (by assumption)
    have hck := hsm.2.2.1
    have hok := chk_eq0.1 hck
    have hlm := hsm.1
    have hwm := hsm.2.2.2
    have hwm16 := okG_wide hok
    refine XC.skip ?_
    refine XC.seq2 ?_
    refine XC.seq ?_
    refine XC.region ?_
    refine XO.move rfl rfl ?_
    refine XO.move rfl rfl ?_
    have hcall31 := resist_u _ _ m _ hs (by omega) t ht
    refine XO.callH rfl hcall31 rfl ?_
    rintro _ HT31 hleT31 ⟨a31, c31, h31, rfl⟩
    replace hs := hs.mono hleT31
    refine XO.move rfl rfl ?_
    refine XO.extract rfl rfl rfl ?_
    refine XO.extract rfl rfl rfl ?_
    refine XO.extract rfl rfl rfl ?_
    refine XO.assign rfl rfl ?_
    refine XO.assign rfl rfl ?_
    refine XO.assign rfl rfl ?_
    refine XO.nil ?_
    refine XC.seq2 ?_
    refine XC.seq ?_
    refine XC.seq ?_
    refine XC.region ?_
    refine XO.move rfl rfl ?_
    refine XO.neq rfl rfl rfl ?_
    refine XO.nil ?_
    refine XC.seq2 ?_
    refine XC.cond rfl (fun c2_5 => ?_) (fun c2_5 => ?_)
    · have hfar : t < 0 ∨ 3 < t := Decidable.byContradiction fun hn => absurd (show reE m t = 0 by rw [reE, if_neg (by omega), if_neg hn]) (by assumption)
      have hE1 : reE m t = 1 := by rw [reE, if_neg (by omega), if_pos hfar]
      have hnP : ¬ reP m t := by rw [reP, reF_far hfar]; simp
      have hLn := congrArg List.length (reL_none hnP)
      simp only [List.length_nil] at hLn
      refine XC.seq ?_
      refine XC.region ?_
      refine XO.move rfl rfl ?_
      refine XO.eql rfl rfl rfl ?_
      refine XO.move rfl rfl ?_
      refine XO.guardT rfl rfl (decide_eq_true hE1) rfl ?_
      refine XO.move rfl rfl ?_
      refine XO.guardT rfl rfl (decide_eq_true hE1) rfl ?_
      refine XO.lss rfl rfl rfl ?_
      refine XO.guardT rfl rfl (decide_eq_true hE1) rfl ?_
      refine XO.move rfl rfl ?_
      refine XO.guardC rfl rfl rfl rfl (fun g6 => ?_) (fun g6 => ?_)
      · have g6p := of_decide_eq_false g6
        refine XO.move rfl rfl ?_
        refine XO.guardT rfl rfl (g6) rfl ?_
        refine XO.gtr rfl rfl rfl ?_
        refine XO.guardT rfl rfl (decide_eq_true hE1) rfl ?_
        refine XO.pickF rfl (g6) rfl rfl ?_
        refine XO.pickT rfl (decide_eq_true hE1) rfl rfl ?_
        refine XO.move rfl rfl ?_
        refine XO.guardT rfl rfl (decide_eq_true (by omega)) rfl ?_
        refine XO.move rfl rfl ?_
        refine XO.guardT rfl rfl (decide_eq_true (by omega)) rfl ?_
        refine XO.lenS (ts := #[]) rfl Try.underlying29 rfl ?_
        refine XO.guardT rfl rfl (decide_eq_true (by omega)) rfl ?_
        refine XO.eql rfl rfl rfl ?_
        refine XO.pickT rfl (decide_eq_true (by omega)) rfl rfl ?_
        refine XO.move rfl rfl ?_
        refine XO.guardT rfl rfl (decide_eq_true (by omega)) rfl ?_
        refine XO.move rfl rfl ?_
        refine XO.guardT rfl rfl (decide_eq_true (by omega)) rfl ?_
        refine XO.not rfl rfl ?_
        refine XO.pickT rfl (decide_eq_true (by omega)) rfl rfl ?_
        refine XO.assign rfl rfl ?_
        refine XO.nil ?_
        refine XC.seq2 ?_
        refine XC.ret ?_
        refine seqX_ret ?_
        refine ⟨rfl, _, [], rfl, (by repeat (first | exact List.Sublist.refl _ | apply List.Sublist.cons)), RetR.mk ?_⟩
        first | rfl | exact congrArg Value.bool (decide_eq_true hnP) | exact congrArg Value.bool (decide_eq_true (by have := re_more (T := T) hck (by omega) (by assumption) (Decidable.not_not.1 (by assumption)); omega))
      · have g6p := of_decide_eq_true g6
        refine XO.guardF rfl rfl (g6) rfl rfl ?_
        refine XO.guardT rfl rfl (decide_eq_true hE1) rfl ?_
        refine XO.pickT rfl (g6) rfl rfl ?_
        refine XO.pickT rfl (decide_eq_true hE1) rfl rfl ?_
        refine XO.move rfl rfl ?_
        refine XO.guardT rfl rfl (rfl) rfl ?_
        refine XO.move rfl rfl ?_
        refine XO.guardT rfl rfl (rfl) rfl ?_
        refine XO.lenS (ts := #[]) rfl Try.underlying29 rfl ?_
        refine XO.guardT rfl rfl (rfl) rfl ?_
        refine XO.eql rfl rfl rfl ?_
        refine XO.pickT rfl (rfl) rfl rfl ?_
        refine XO.move rfl rfl ?_
        refine XO.guardT rfl rfl (decide_eq_true (by omega)) rfl ?_
        refine XO.move rfl rfl ?_
        refine XO.guardT rfl rfl (decide_eq_true (by omega)) rfl ?_
        refine XO.not rfl rfl ?_
        refine XO.pickT rfl (decide_eq_true (by omega)) rfl rfl ?_
        refine XO.assign rfl rfl ?_
        refine XO.nil ?_
        refine XC.seq2 ?_
        refine XC.ret ?_
        refine seqX_ret ?_
        refine ⟨rfl, _, [], rfl, (by repeat (first | exact List.Sublist.refl _ | apply List.Sublist.cons)), RetR.mk ?_⟩
        first | rfl | exact congrArg Value.bool (decide_eq_true hnP) | exact congrArg Value.bool (decide_eq_true (by have := re_more (T := T) hck (by omega) (by assumption) (Decidable.not_not.1 (by assumption)); omega))
    · have ht0 : 0 ≤ t ∧ t ≤ 3 := Decidable.byContradiction fun hn => absurd (show reE m t = 1 by rw [reE, if_neg (by omega), if_pos (by omega)]) (by omega)
      obtain ⟨T, rfl⟩ : ∃ T : Nat, t = T := ⟨t.toNat, by omega⟩
      obtain ⟨hRl, hRr⟩ := reL_rise hck (show T ≤ 3 by omega)
      have hw1 := WoM_len m (reL m (T : Nat))
      have hk1 := chk_eq0.2 (WoM_ok (out := reL m (T : Nat)) hok)
      refine XC.skip ?_
      refine XC.seq2 ?_
      refine XC.seq ?_
      refine XC.seq ?_
      refine XC.region ?_
      refine XO.move rfl rfl ?_
      refine XO.lss rfl rfl rfl ?_
      refine XO.move rfl rfl ?_
      refine XO.guardT rfl rfl (decide_eq_false (by omega)) rfl ?_
      refine XO.move rfl rfl ?_
      refine XO.guardT rfl rfl (decide_eq_false (by omega)) rfl ?_
      refine XO.gtr rfl rfl rfl ?_
      refine XO.pickF rfl (decide_eq_false (by omega)) rfl rfl ?_
      refine XO.move rfl rfl ?_
      refine XO.guardT rfl rfl (decide_eq_false (by omega)) rfl ?_
      refine XO.move rfl rfl ?_
      refine XO.guardT rfl rfl (decide_eq_false (by omega)) rfl ?_
      refine XO.lenS (ts := #[]) rfl Try.underlying29 rfl ?_
      refine XO.guardT rfl rfl (decide_eq_false (by omega)) rfl ?_
      refine XO.move rfl rfl ?_
      refine XO.guardT rfl rfl (decide_eq_false (by omega)) rfl ?_
      refine XO.gtr rfl rfl rfl ?_
      refine XO.pickF rfl (decide_eq_false (by omega)) rfl rfl ?_
      refine XO.move rfl rfl ?_
      refine XO.guardT rfl rfl (decide_eq_false (by omega)) rfl ?_
      refine XO.move rfl rfl ?_
      refine XO.guardT rfl rfl (decide_eq_false (by omega)) rfl ?_
      refine XO.move rfl rfl ?_
      refine XO.guardT rfl rfl (decide_eq_false (by omega)) rfl ?_
      refine XO.callV rfl (judges_fn _ _ m _ hs hl) rfl ?_
      refine XO.guardT rfl rfl (decide_eq_false (by omega)) rfl ?_
      refine XO.callV rfl (rising_fn _ _ (reL m (T : Nat)) (wideM m) _ h31 (by omega) hRr.chkR) rfl ?_
      refine XO.guardT rfl rfl (decide_eq_false (by omega)) rfl ?_
      refine XO.notB rfl rfl ?_
      refine XO.pickF rfl (decide_eq_false (by omega)) rfl rfl ?_
      refine XO.nil ?_
      refine XC.seq2 ?_
      refine XC.condF rfl (rfl) ?_
      refine XC.skip ?_
      refine XC.seq2 ?_
      refine XC.seq ?_
      refine XC.region ?_
      refine XO.move rfl rfl ?_
      refine XO.move rfl rfl ?_
      have hcall78 := without_fn _ _ _ _ m (reL m (T : Nat)) _ hs h31 (by omega) (fun r hr => (hok.2 r hr).2) (by omega)
      refine XO.callH rfl hcall78 rfl ?_
      rintro _ HW78 hleW78 ⟨aW78, cW78, rfl, hW78⟩
      replace hs := hs.mono hleW78
      replace h31 := h31.mono hleW78
      have hcall79 := tree_u _ _ (WoM m (reL m (T : Nat))) _ hW78 (by omega)
      refine XO.callH rfl hcall79 rfl ?_
      rintro _ HT79 hleT79 ⟨a79, c79, h79, rfl⟩
      replace hs := hs.mono hleT79
      replace h31 := h31.mono hleT79
      replace hW78 := hW78.mono hleT79
      refine XO.move rfl rfl ?_
      refine XO.extract rfl rfl rfl ?_
      refine XO.extract rfl rfl rfl ?_
      refine XO.extract rfl rfl rfl ?_
      refine XO.assign rfl rfl ?_
      refine XO.assign rfl rfl ?_
      refine XO.assign rfl rfl ?_
      refine XO.nil ?_
      refine XC.seq2 ?_
      refine XC.join (base := [(0, _), (1, _), (2, _), (7, _), (8, _)]) (fun ζ : Unit => []) (fun ζ Hl own => rest = own) (prov_cons (rfl) (prov_cons (rfl) (prov_cons (rfl) (prov_cons (rfl) (prov_cons (rfl) prov_nil))))) (fun hleJ11 => ?_) ?_
      · skip
        refine XC.seq ?_
        refine XC.region ?_
        refine XO.move rfl rfl ?_
        refine XO.neq rfl rfl rfl ?_
        refine XO.move rfl rfl ?_
        refine XO.guardT rfl rfl (decide_eq_false (by omega)) rfl ?_
        refine XO.move rfl rfl ?_
        refine XO.guardT rfl rfl (decide_eq_false (by omega)) rfl ?_
        refine XO.move rfl rfl ?_
        refine XO.guardT rfl rfl (decide_eq_false (by omega)) rfl ?_
        refine XO.eqlB rfl rfl Try.underlying4 rfl ?_
        refine XO.guardT rfl rfl (decide_eq_false (by omega)) rfl ?_
        refine XO.move rfl rfl ?_
        refine XO.guardC rfl rfl rfl rfl (fun g12 => ?_) (fun g12 => ?_)
        · have g12p := g12
          refine XO.move rfl rfl ?_
          refine XO.guardT rfl rfl (decide_eq_false (by omega)) rfl ?_
          refine XO.pickT rfl (g12) rfl rfl ?_
          refine XO.pickF rfl (decide_eq_false (by omega)) rfl rfl ?_
          refine XO.nil ?_
          refine XC.seq2 ?_
          refine XC.condF rfl (decide_eq_false (fun h => by have h2 := re_bad hck (by omega) h; have h3 : (decide (reP m (T : Nat)) == decide (trP (WoM m (reL m (T : Nat))))) = true := (by assumption); simp [h, h2] at h3)) ?_
          refine XC.skip ?_
          refine join_next () (prov_cons (rfl) (prov_cons (rfl) (prov_cons (rfl) (prov_cons (rfl) (prov_cons (rfl) prov_nil))))) (rfl) (by repeat (first | exact List.Sublist.refl _ | apply List.Sublist.cons_cons | apply List.Sublist.cons)) hleJ11
        · have g12p := g12
          refine XO.guardT rfl rfl (decide_eq_false (by omega)) rfl ?_
          refine XO.pickF rfl (g12) rfl rfl ?_
          refine XO.pickF rfl (decide_eq_false (by omega)) rfl rfl ?_
          refine XO.nil ?_
          refine XC.seq2 ?_
          refine XC.condF rfl (rfl) ?_
          refine XC.skip ?_
          refine join_next () (prov_cons (rfl) (prov_cons (rfl) (prov_cons (rfl) (prov_cons (rfl) (prov_cons (rfl) prov_nil))))) (rfl) (by repeat (first | exact List.Sublist.refl _ | apply List.Sublist.cons_cons | apply List.Sublist.cons)) hleJ11
      · rintro _ Hl _ hleK11 ⟨rfl⟩
        replace hs := hs.mono hleK11
        replace h31 := h31.mono hleK11
        replace hW78 := hW78.mono hleK11
        replace h79 := h79.mono hleK11
        refine XC.seq ?_
        refine XC.region ?_
        refine XO.assign rfl rfl ?_
        refine XO.nil ?_
        refine XC.seq2 ?_
        refine XC.seq ?_
        refine XC.seq ?_
        refine XC.region ?_
        refine XO.move rfl rfl ?_
        refine XO.callV rfl (judges_fn _ _ m _ hs hl) rfl ?_
        refine XO.move rfl rfl ?_
        refine XO.nil ?_
        refine XC.seq2 ?_
        refine XC.block ?_
        refine XC.keep [13, 95, 0, 1, 2, 7, 8, 94] rfl ?_
        refine XC.open0 0 ?_
        refine XC.loop (base := [(0, _), (1, _), (2, _), (7, _), (8, _), (94, _)]) (fun ζ : Nat × (List Int) × ((Nat × SObj) × Option Addr × Nat) => [(13, .slice ζ.2.2.2.1 (ζ.2.1).length ζ.2.2.2.2), (95, .int .i64 (ζ.1 : Nat))]) (fun ζ Hl own => ζ.1 ≤ wideM m ∧ ζ.2.2.1 :: rest = own ∧ Acc (intR .i64) 3 Hl ζ.2.2.1 ζ.2.2.2.1 ζ.2.2.2.2 (ζ.2.1) ∧ (Rise ζ.1 0 ζ.2.1) ∧ (ζ.2.1.length ≤ T)) (fun ζ => wideM m - ζ.1) (0, [], ((0, .nothing), none, 0)) (prov_cons (rfl) (prov_cons (rfl) (prov_cons (rfl) (prov_cons (rfl) (prov_cons (rfl) (prov_cons (rfl) (prov_cons (rfl) (prov_cons (rfl) prov_nil)))))))) (by repeat (first | exact List.Sublist.refl _ | apply List.Sublist.cons_cons | apply List.Sublist.cons)) ⟨Nat.zero_le _, rfl, Acc.nil _ _ _ _, trivial, by simp⟩ ?_
        rintro ⟨k, o, ⟨po, ao, co⟩⟩ Hl0 _ hle0 ⟨hkk, rfl, hacco, hro, hlo⟩
        replace hs := hs.mono hle0
        replace h31 := h31.mono hle0
        replace hW78 := hW78.mono hle0
        replace h79 := h79.mono hle0
        try dsimp only at hkk hacco hro hlo ⊢
        refine XC.seq ?_
        refine XC.region ?_
        refine XO.lss rfl rfl rfl ?_
        refine XO.nil ?_
        refine XC.seq2 ?_
        refine XC.seq ?_
        refine XC.cond rfl (fun c5_14 => ?_) (fun c5_14 => ?_)
        · refine XC.skip ?_
          refine XC.seq2 ?_
          refine XC.seq ?_
          refine XC.block ?_
          refine XC.seq ?_
          refine XC.region ?_
          refine XO.move rfl rfl ?_
          refine XO.assign rfl rfl ?_
          refine XO.nil ?_
          refine XC.seq2 ?_
          refine XC.seq ?_
          refine XC.region ?_
          refine XO.move rfl rfl ?_
          refine XO.move rfl rfl ?_
          refine XO.shr rfl rfl (by omega) rfl ?_
          refine XO.band rfl rfl rfl ?_
          refine XO.eql rfl rfl rfl ?_
          refine XO.move rfl rfl ?_
          refine XO.guardC rfl rfl rfl rfl (fun g15 => ?_) (fun g15 => ?_)
          · have g15p := of_decide_eq_true g15
            refine XO.move rfl rfl ?_
            refine XO.guardT rfl rfl (g15) rfl ?_
            refine XO.lenS (ts := #[]) rfl Try.underlying29 rfl ?_
            refine XO.guardT rfl rfl (g15) rfl ?_
            refine XO.move rfl rfl ?_
            refine XO.guardT rfl rfl (g15) rfl ?_
            refine XO.lss rfl rfl rfl ?_
            refine XO.pickT rfl (g15) rfl rfl ?_
            refine XO.nil ?_
            refine XC.seq2 ?_
            refine XC.cond rfl (fun c6_16 => ?_) (fun c6_16 => ?_)
            · refine XC.region ?_
              refine XO.move rfl rfl ?_
              refine XO.move rfl rfl ?_
              refine XO.buildSlice rfl Try.underlying29 ty_3 ze_3 rfl rfl rfl (fun b111 => ?_)
              refine XO.publish 0 rfl rfl rfl (fun HP111 oP111 hleP111 hbP111 hoP111 => ?_)
              have hsl111 := SlR.lit (ρ := (intR .i64)) (l := [((k : Nat) : Int)]) hbP111 hoP111 (RowsR.one1 rfl)
              replace hs := hs.mono hleP111
              replace h31 := h31.mono hleP111
              replace hW78 := hW78.mono hleP111
              replace h79 := h79.mono hleP111
              replace hacco := hacco.mono hleP111
              replace hle0 := hle0.trans hleP111
              refine XO.appendA 0 rfl rfl hacco rfl rfl hsl111 rfl Try.underlying29 ty_3 ze_3 rfl by_3 (by simp; omega) rfl (fun p112 a112 c112 hacc112 => ?_)
              refine XO.assign rfl rfl ?_
              refine XO.nil ?_
              refine blockN ?_
              refine XC.seq2 ?_
              refine XC.region ?_
              refine XO.add rfl rfl (wrap_i64 (by omega) (by omega)) rfl ?_
              refine XO.move rfl rfl ?_
              refine XO.nil ?_
              refine loop_next ((k + 1, o ++ [((k : Nat) : Int)], (p112, a112, c112))) (by show wideM m - (k + 1) < wideM m - k; omega) (prov_cons (by first | rfl) (prov_cons (rfl) (prov_cons (rfl) (prov_cons (rfl) (prov_cons (rfl) (prov_cons (rfl) (prov_cons (rfl) (prov_cons (rfl) prov_nil)))))))) (⟨by show k + 1 ≤ wideM m; omega, rfl, by first | (exact hacc112), by first | exact hro.snoc (by omega) | exact hro.up (by omega), by first | (rw [List.length_append]; simp only [List.length_cons, List.length_nil]; omega) | exact hlo⟩) (by repeat (first | exact List.Sublist.refl _ | apply List.Sublist.cons_cons | apply List.Sublist.cons)) (hle0)
            · refine XC.skip ?_
              refine blockN ?_
              refine XC.seq2 ?_
              refine XC.region ?_
              refine XO.add rfl rfl (wrap_i64 (by omega) (by omega)) rfl ?_
              refine XO.move rfl rfl ?_
              refine XO.nil ?_
              refine loop_next ((k + 1, o, (po, ao, co))) (by show wideM m - (k + 1) < wideM m - k; omega) (prov_cons (by first | rfl) (prov_cons (rfl) (prov_cons (rfl) (prov_cons (rfl) (prov_cons (rfl) (prov_cons (rfl) (prov_cons (rfl) (prov_cons (rfl) prov_nil)))))))) (⟨by show k + 1 ≤ wideM m; omega, rfl, by first | (exact hacco), by first | exact hro.snoc (by omega) | exact hro.up (by omega), by first | (rw [List.length_append]; simp only [List.length_cons, List.length_nil]; omega) | exact hlo⟩) (by repeat (first | exact List.Sublist.refl _ | apply List.Sublist.cons_cons | apply List.Sublist.cons)) (hle0)
          · have g15p := of_decide_eq_false g15
            refine XO.guardF rfl rfl (g15) rfl rfl ?_
            refine XO.guardF rfl rfl (g15) rfl rfl ?_
            refine XO.guardF rfl rfl (g15) rfl rfl ?_
            refine XO.pickF rfl (g15) rfl rfl ?_
            refine XO.nil ?_
            refine XC.seq2 ?_
            refine XC.condF rfl (rfl) ?_
            refine XC.skip ?_
            refine blockN ?_
            refine XC.seq2 ?_
            refine XC.region ?_
            refine XO.add rfl rfl (wrap_i64 (by omega) (by omega)) rfl ?_
            refine XO.move rfl rfl ?_
            refine XO.nil ?_
            refine loop_next ((k + 1, o, (po, ao, co))) (by show wideM m - (k + 1) < wideM m - k; omega) (prov_cons (by first | rfl) (prov_cons (rfl) (prov_cons (rfl) (prov_cons (rfl) (prov_cons (rfl) (prov_cons (rfl) (prov_cons (rfl) (prov_cons (rfl) prov_nil)))))))) (⟨by show k + 1 ≤ wideM m; omega, rfl, by first | (exact hacco), by first | exact hro.snoc (by omega) | exact hro.up (by omega), by first | (rw [List.length_append]; simp only [List.length_cons, List.length_nil]; omega) | exact hlo⟩) (by repeat (first | exact List.Sublist.refl _ | apply List.Sublist.cons_cons | apply List.Sublist.cons)) (hle0)
        · obtain rfl : k = wideM m := by omega
          have hw2 := WoM_len m o
          have hk2 := chk_eq0.2 (WoM_ok (out := o) hok)
          refine XC.exit ?_
          refine seqX_exit ?_
          refine loopX_exit ?_
          refine blockHit rfl ?_
          refine XC.seq2 ?_
          refine XC.seq ?_
          refine XC.region ?_
          refine XO.move rfl rfl ?_
          refine XO.move rfl rfl ?_
          refine XO.publishA 0 rfl hacco rfl (fun HQ19 hleQ19 hsQ19 => ?_)
          replace hs := hs.mono hleQ19
          replace h31 := h31.mono hleQ19
          replace hW78 := hW78.mono hleQ19
          replace h79 := h79.mono hleQ19
          replace hle0 := hle0.trans hleQ19
          have hcall117 := without_fn _ _ _ _ m o _ hs hsQ19 (by omega) (fun r hr => (hok.2 r hr).2) (by omega)
          refine XO.callH rfl hcall117 rfl ?_
          rintro _ HW117 hleW117 ⟨aW117, cW117, rfl, hW117⟩
          replace hs := hs.mono hleW117
          replace h31 := h31.mono hleW117
          replace hW78 := hW78.mono hleW117
          replace h79 := h79.mono hleW117
          replace hsQ19 := hsQ19.mono hleW117
          replace hle0 := hle0.trans hleW117
          have hcall118 := tree_u _ _ (WoM m o) _ hW117 (by omega)
          refine XO.callH rfl hcall118 rfl ?_
          rintro _ HT118 hleT118 ⟨a118, c118, h118, rfl⟩
          replace hs := hs.mono hleT118
          replace h31 := h31.mono hleT118
          replace hW78 := hW78.mono hleT118
          replace h79 := h79.mono hleT118
          replace hsQ19 := hsQ19.mono hleT118
          replace hW117 := hW117.mono hleT118
          replace hle0 := hle0.trans hleT118
          refine XO.move rfl rfl ?_
          refine XO.extract rfl rfl rfl ?_
          refine XO.extract rfl rfl rfl ?_
          refine XO.extract rfl rfl rfl ?_
          refine XO.assign rfl rfl ?_
          refine XO.assign rfl rfl ?_
          refine XO.assign rfl rfl ?_
          refine XO.nil ?_
          refine XC.seq2 ?_
          refine XC.join (base := [(0, _), (1, _), (7, _), (8, _), (13, _), (16, _), (17, _)]) (fun ζ : Unit => [(18, .bool (decide (¬ reP m (T : Nat) ∨ o.length < (reL m (T : Nat)).length)))]) (fun ζ Hl own => rest = own) (prov_cons (rfl) (prov_cons (rfl) (prov_cons (rfl) (prov_cons (rfl) (prov_cons (rfl) (prov_cons (rfl) (prov_cons (rfl) prov_nil))))))) (fun hleJ21 => ?_) ?_
          · skip
            refine XC.region ?_
            refine XO.move rfl rfl ?_
            refine XO.not rfl rfl ?_
            refine XO.move rfl rfl ?_
            refine XO.guardC rfl rfl rfl rfl (fun g22 => ?_) (fun g22 => ?_)
            · have g22p := of_decide_eq_false g22
              refine XO.move rfl rfl ?_
              refine XO.guardT rfl rfl (g22) rfl ?_
              refine XO.lenS (ts := #[]) rfl Try.underlying29 rfl ?_
              refine XO.guardT rfl rfl (g22) rfl ?_
              refine XO.move rfl rfl ?_
              refine XO.guardT rfl rfl (g22) rfl ?_
              refine XO.lenS (ts := #[]) rfl Try.underlying29 rfl ?_
              refine XO.guardT rfl rfl (g22) rfl ?_
              refine XO.lss rfl rfl rfl ?_
              refine XO.pickF rfl (g22) rfl rfl ?_
              refine XO.assign rfl rfl ?_
              refine XO.nil ?_
              refine join_next () (prov_cons (by first | rfl | exact congrArg (fun b => some (Value.bool b)) (decide_eq_true (Or.inl (by assumption))).symm | exact congrArg (fun b => some (Value.bool b)) (decide_eq_decide.2 ⟨fun h => Or.inr (by omega), fun h => by have := h.resolve_left (by assumption); omega⟩)) (prov_cons (rfl) (prov_cons (rfl) (prov_cons (rfl) (prov_cons (rfl) (prov_cons (rfl) (prov_cons (rfl) (prov_cons (rfl) prov_nil)))))))) (rfl) (by repeat (first | exact List.Sublist.refl _ | apply List.Sublist.cons_cons | apply List.Sublist.cons)) hleJ21
            · have g22p := of_decide_eq_true g22
              refine XO.guardF rfl rfl (g22) rfl rfl ?_
              refine XO.guardF rfl rfl (g22) rfl rfl ?_
              refine XO.guardF rfl rfl (g22) rfl rfl ?_
              refine XO.guardF rfl rfl (g22) rfl rfl ?_
              refine XO.pickT rfl (g22) rfl rfl ?_
              refine XO.assign rfl rfl ?_
              refine XO.nil ?_
              refine join_next () (prov_cons (by first | rfl | exact congrArg (fun b => some (Value.bool b)) (decide_eq_true (Or.inl (by assumption))).symm | exact congrArg (fun b => some (Value.bool b)) (decide_eq_decide.2 ⟨fun h => Or.inr (by omega), fun h => by have := h.resolve_left (by assumption); omega⟩)) (prov_cons (rfl) (prov_cons (rfl) (prov_cons (rfl) (prov_cons (rfl) (prov_cons (rfl) (prov_cons (rfl) (prov_cons (rfl) prov_nil)))))))) (rfl) (by repeat (first | exact List.Sublist.refl _ | apply List.Sublist.cons_cons | apply List.Sublist.cons)) hleJ21
          · rintro _ Hl _ hleK21 ⟨rfl⟩
            replace hs := hs.mono hleK21
            replace h31 := h31.mono hleK21
            replace hW78 := hW78.mono hleK21
            replace h79 := h79.mono hleK21
            replace hsQ19 := hsQ19.mono hleK21
            replace hW117 := hW117.mono hleK21
            replace h118 := h118.mono hleK21
            replace hle0 := hle0.trans hleK21
            refine XC.join (base := [(0, _), (1, _), (7, _), (8, _), (16, _), (17, _)]) (fun ζ : Unit => [(18, .bool (decide (befP m (T : Nat) o)))]) (fun ζ Hl own => rest = own) (prov_cons (rfl) (prov_cons (rfl) (prov_cons (rfl) (prov_cons (rfl) (prov_cons (rfl) (prov_cons (rfl) prov_nil)))))) (fun hleJ23 => ?_) ?_
            · skip
              refine XC.seq ?_
              refine XC.region ?_
              refine XO.move rfl rfl ?_
              refine XO.lenS (ts := #[]) rfl Try.underlying29 rfl ?_
              refine XO.move rfl rfl ?_
              refine XO.lenS (ts := #[]) rfl Try.underlying29 rfl ?_
              refine XO.eql rfl rfl rfl ?_
              refine XO.move rfl rfl ?_
              refine XO.guardC rfl rfl rfl rfl (fun g24 => ?_) (fun g24 => ?_)
              · have g24p := of_decide_eq_true g24
                refine XO.move rfl rfl ?_
                refine XO.pickT rfl (g24) rfl rfl ?_
                refine XO.nil ?_
                refine XC.seq2 ?_
                refine XC.cond rfl (fun c7_25 => ?_) (fun c7_25 => ?_)
                · obtain hrt : reP m (T : Nat) := by assumption
                  have hlen : o.length = (reL m (T : Nat)).length := by omega
                  refine XC.seq ?_
                  refine XC.region ?_
                  refine XO.move rfl rfl ?_
                  refine XO.lenS (ts := #[]) rfl Try.underlying29 rfl ?_
                  refine XO.move rfl rfl ?_
                  refine XO.nil ?_
                  refine XC.seq2 ?_
                  refine XC.block ?_
                  refine XC.keep [18, 141, 0, 1, 7, 8, 13, 16, 17, 140] rfl ?_
                  refine XC.loop (base := [(0, _), (1, _), (7, _), (8, _), (13, _), (16, _), (17, _), (140, _)]) (fun ζ : Nat => [(18, .bool (decide (¬ reP m (T : Nat) ∨ o.length < (reL m (T : Nat)).length))), (141, .int .i64 (ζ : Nat))]) (fun ζ Hl own => ζ ≤ (reL m (T : Nat)).length ∧ rest = own ∧ (o.take ζ = (reL m (T : Nat)).take ζ)) (fun ζ => (reL m (T : Nat)).length - ζ) 0 (prov_cons (rfl) (prov_cons (rfl) (prov_cons (rfl) (prov_cons (rfl) (prov_cons (rfl) (prov_cons (rfl) (prov_cons (rfl) (prov_cons (rfl) (prov_cons (rfl) (prov_cons (rfl) prov_nil)))))))))) (by repeat (first | exact List.Sublist.refl _ | apply List.Sublist.cons_cons | apply List.Sublist.cons)) ⟨Nat.zero_le _, rfl, by simp⟩ ?_
                  rintro i Hl1 _ hle1 ⟨hki, rfl, heq⟩
                  replace hs := hs.mono hle1
                  replace h31 := h31.mono hle1
                  replace hW78 := hW78.mono hle1
                  replace h79 := h79.mono hle1
                  replace hsQ19 := hsQ19.mono hle1
                  replace hW117 := hW117.mono hle1
                  replace h118 := h118.mono hle1
                  replace hle0 := hle0.trans hle1
                  replace hleJ23 := hleJ23.trans hle1
                  try dsimp only at ⊢
                  refine XC.seq ?_
                  refine XC.region ?_
                  refine XO.lss rfl rfl rfl ?_
                  refine XO.nil ?_
                  refine XC.seq2 ?_
                  refine XC.seq ?_
                  refine XC.cond rfl (fun c8_26 => ?_) (fun c8_26 => ?_)
                  · refine XC.skip ?_
                    refine XC.seq2 ?_
                    refine XC.seq ?_
                    refine XC.block ?_
                    refine XC.seq ?_
                    refine XC.region ?_
                    refine XO.move rfl rfl ?_
                    refine XO.assign rfl rfl ?_
                    refine XO.nil ?_
                    refine XC.seq2 ?_
                    refine XC.seq ?_
                    refine XC.keep [0, 1, 7, 8, 13, 16, 17, 18, 19, 140, 141] rfl ?_
                    obtain ⟨bEX, oEX, rfl⟩ := hsQ19.addr (by omega)
                    obtain ⟨_, xX, hxX, rfl, hpX⟩ := hsQ19.elem (i) (by omega)
                    obtain ⟨bEY, oEY, rfl⟩ := h31.addr (by omega)
                    obtain ⟨_, xY, hxY, rfl, hpY⟩ := h31.elem (i) (by omega)
                    apply XC.draw 8 [eqF _, eqF _, eqF _, eqF _, eqF _, eqF _, eqF _, eqF _] follows (by kernel_rfl) (by kernel_rfl) ⟨eqF_mono _, eqF_mono _, eqF_mono _, eqF_mono _, eqF_mono _, eqF_mono _, eqF_mono _, eqF_mono _, trivial⟩ ?steps27 ?tail27
                    case steps27 =>
                      refine stepsK_cons rfl ?_ ?_
                      · intro X
                        refine withPreds_nil rfl ?_
                        refine XO.move rfl rfl ?_
                        refine XO.nil ?_
                        exact stepQ_ok rfl (rfl)
                      refine stepsK_cons rfl ?_ ?_
                      · intro X
                        refine withPreds_nil rfl ?_
                        refine XO.move rfl rfl ?_
                        refine XO.nil ?_
                        exact stepQ_ok rfl (rfl)
                      refine stepsK_cons rfl ?_ ?_
                      · intro X
                        refine withPreds_cons rfl rfl ?_
                        rintro _ rfl
                        refine withPreds_cons rfl rfl ?_
                        rintro _ rfl
                        refine withPreds_nil rfl ?_
                        refine XO.indexE rfl rfl Try.underlying29 ty_3 (by omega) (by omega) rfl ?_
                        refine XO.nil ?_
                        exact stepQ_ok rfl (rfl)
                      refine stepsK_cons rfl ?_ ?_
                      · intro X
                        refine withPreds_cons rfl rfl ?_
                        rintro _ rfl
                        refine withPreds_nil rfl ?_
                        refine XO.loadH rfl (by assumption) ty_3 rfl rfl rfl ?_
                        refine XO.nil ?_
                        exact stepQ_ok rfl (rfl)
                      refine stepsK_cons rfl ?_ ?_
                      · intro X
                        refine withPreds_nil rfl ?_
                        refine XO.move rfl rfl ?_
                        refine XO.nil ?_
                        exact stepQ_ok rfl (rfl)
                      refine stepsK_cons rfl ?_ ?_
                      · intro X
                        refine withPreds_nil rfl ?_
                        refine XO.move rfl rfl ?_
                        refine XO.nil ?_
                        exact stepQ_ok rfl (rfl)
                      refine stepsK_cons rfl ?_ ?_
                      · intro X
                        refine withPreds_cons rfl rfl ?_
                        rintro _ rfl
                        refine withPreds_cons rfl rfl ?_
                        rintro _ rfl
                        refine withPreds_nil rfl ?_
                        refine XO.indexE rfl rfl Try.underlying29 ty_3 (by omega) (by omega) rfl ?_
                        refine XO.nil ?_
                        exact stepQ_ok rfl (rfl)
                      refine stepsK_cons rfl ?_ ?_
                      · intro X
                        refine withPreds_cons rfl rfl ?_
                        rintro _ rfl
                        refine withPreds_nil rfl ?_
                        refine XO.loadH rfl (by assumption) ty_3 rfl rfl rfl ?_
                        refine XO.nil ?_
                        exact stepQ_ok rfl (rfl)
                      exact stepsD_end rfl
                    case tail27 =>
                      refine withPreds_cons rfl rfl ?_
                      rintro _ rfl
                      refine withPreds_cons rfl rfl ?_
                      rintro _ rfl
                      refine withPreds_cons rfl rfl ?_
                      rintro _ rfl
                      refine withPreds_cons rfl rfl ?_
                      rintro _ rfl
                      refine withPreds_cons rfl rfl ?_
                      rintro _ rfl
                      refine withPreds_cons rfl rfl ?_
                      rintro _ rfl
                      refine withPreds_cons rfl rfl ?_
                      rintro _ rfl
                      refine withPreds_cons rfl rfl ?_
                      rintro _ rfl
                      refine withPreds_nil rfl ?_
                      refine XO.neq rfl rfl rfl ?_
                      refine XO.nil ?_
                      refine XC.seq2 ?_
                      refine XC.cond rfl (fun c9_30 => ?_) (fun c9_30 => ?_)
                      · refine XC.seq ?_
                        refine XC.keep [0, 1, 7, 8, 13, 16, 17, 19] rfl ?_
                        obtain ⟨_, xX2, hxX2, rfl, hpX2⟩ := hsQ19.elem (i) (by omega)
                        obtain ⟨_, xY2, hxY2, rfl, hpY2⟩ := h31.elem (i) (by omega)
                        obtain rfl := Option.some.inj (hxX.symm.trans hxX2)
                        obtain rfl := Option.some.inj (hxY.symm.trans hxY2)
                        apply XC.draw 8 [eqF _, eqF _, eqF _, eqF _, eqF _, eqF _, eqF _, eqF _] follows (by kernel_rfl) (by kernel_rfl) ⟨eqF_mono _, eqF_mono _, eqF_mono _, eqF_mono _, eqF_mono _, eqF_mono _, eqF_mono _, eqF_mono _, trivial⟩ ?steps31 ?tail31
                        case steps31 =>
                          refine stepsK_cons rfl ?_ ?_
                          · intro X
                            refine withPreds_nil rfl ?_
                            refine XO.move rfl rfl ?_
                            refine XO.nil ?_
                            exact stepQ_ok rfl (rfl)
                          refine stepsK_cons rfl ?_ ?_
                          · intro X
                            refine withPreds_nil rfl ?_
                            refine XO.move rfl rfl ?_
                            refine XO.nil ?_
                            exact stepQ_ok rfl (rfl)
                          refine stepsK_cons rfl ?_ ?_
                          · intro X
                            refine withPreds_cons rfl rfl ?_
                            rintro _ rfl
                            refine withPreds_cons rfl rfl ?_
                            rintro _ rfl
                            refine withPreds_nil rfl ?_
                            refine XO.indexE rfl rfl Try.underlying29 ty_3 (by omega) (by omega) rfl ?_
                            refine XO.nil ?_
                            exact stepQ_ok rfl (rfl)
                          refine stepsK_cons rfl ?_ ?_
                          · intro X
                            refine withPreds_cons rfl rfl ?_
                            rintro _ rfl
                            refine withPreds_nil rfl ?_
                            refine XO.loadH rfl (by assumption) ty_3 rfl rfl rfl ?_
                            refine XO.nil ?_
                            exact stepQ_ok rfl (rfl)
                          refine stepsK_cons rfl ?_ ?_
                          · intro X
                            refine withPreds_nil rfl ?_
                            refine XO.move rfl rfl ?_
                            refine XO.nil ?_
                            exact stepQ_ok rfl (rfl)
                          refine stepsK_cons rfl ?_ ?_
                          · intro X
                            refine withPreds_nil rfl ?_
                            refine XO.move rfl rfl ?_
                            refine XO.nil ?_
                            exact stepQ_ok rfl (rfl)
                          refine stepsK_cons rfl ?_ ?_
                          · intro X
                            refine withPreds_cons rfl rfl ?_
                            rintro _ rfl
                            refine withPreds_cons rfl rfl ?_
                            rintro _ rfl
                            refine withPreds_nil rfl ?_
                            refine XO.indexE rfl rfl Try.underlying29 ty_3 (by omega) (by omega) rfl ?_
                            refine XO.nil ?_
                            exact stepQ_ok rfl (rfl)
                          refine stepsK_cons rfl ?_ ?_
                          · intro X
                            refine withPreds_cons rfl rfl ?_
                            rintro _ rfl
                            refine withPreds_nil rfl ?_
                            refine XO.loadH rfl (by assumption) ty_3 rfl rfl rfl ?_
                            refine XO.nil ?_
                            exact stepQ_ok rfl (rfl)
                          exact stepsD_end rfl
                        case tail31 =>
                          refine withPreds_cons rfl rfl ?_
                          rintro _ rfl
                          refine withPreds_cons rfl rfl ?_
                          rintro _ rfl
                          refine withPreds_cons rfl rfl ?_
                          rintro _ rfl
                          refine withPreds_cons rfl rfl ?_
                          rintro _ rfl
                          refine withPreds_cons rfl rfl ?_
                          rintro _ rfl
                          refine withPreds_cons rfl rfl ?_
                          rintro _ rfl
                          refine withPreds_cons rfl rfl ?_
                          rintro _ rfl
                          refine withPreds_cons rfl rfl ?_
                          rintro _ rfl
                          refine withPreds_nil rfl ?_
                          refine XO.lss rfl rfl rfl ?_
                          refine XO.assign rfl rfl ?_
                          refine XO.nil ?_
                          refine XC.seq2 ?_
                          refine XC.exit ?_
                          refine blockMiss rfl ?_
                          refine seqX_exit ?_
                          refine loopX_exit ?_
                          refine blockHit rfl ?_
                          refine join_next () (prov_cons (by first | exact congrArg (fun b => some (Value.bool b)) (decide_eq_decide.2 (bef_at hrt hlen heq hxX hxY (by assumption))) | exact congrArg (fun b => some (Value.bool b)) (decide_eq_decide.2 (bef_all hrt hlen heq)) | exact congrArg (fun b => some (Value.bool b)) (decide_eq_decide.2 (bef_len (by omega))) | exact congrArg (fun b => some (Value.bool b)) (decide_eq_decide.2 (bef_not (by assumption)))) (prov_cons (rfl) (prov_cons (rfl) (prov_cons (rfl) (prov_cons (rfl) (prov_cons (rfl) (prov_cons (rfl) prov_nil))))))) (rfl) (by repeat (first | exact List.Sublist.refl _ | apply List.Sublist.cons_cons | apply List.Sublist.cons)) hleJ23
                      · refine XC.skip ?_
                        refine blockN ?_
                        refine XC.seq2 ?_
                        refine XC.region ?_
                        refine XO.add rfl rfl (wrap_i64 (by omega) (by omega)) rfl ?_
                        refine XO.move rfl rfl ?_
                        refine XO.nil ?_
                        refine loop_next (i + 1) (by show (reL m (T : Nat)).length - (i + 1) < (reL m (T : Nat)).length - i; omega) (prov_cons (rfl) (prov_cons (rfl) (prov_cons (rfl) (prov_cons (rfl) (prov_cons (rfl) (prov_cons (rfl) (prov_cons (rfl) (prov_cons (rfl) (prov_cons (rfl) (prov_cons (rfl) prov_nil)))))))))) (⟨by show i + 1 ≤ (reL m (T : Nat)).length; omega, rfl, by rw [take_snoc hxX, take_snoc hxY, heq, show xX = xY from Decidable.not_not.1 (by assumption)]⟩) (by repeat (first | exact List.Sublist.refl _ | apply List.Sublist.cons_cons | apply List.Sublist.cons)) (hle1)
                  · obtain rfl : i = (reL m (T : Nat)).length := by omega
                    refine XC.exit ?_
                    refine seqX_exit ?_
                    refine loopX_exit ?_
                    refine blockHit rfl ?_
                    refine join_next () (prov_cons (by first | exact congrArg (fun b => some (Value.bool b)) (decide_eq_decide.2 (bef_at hrt hlen heq hxX hxY (by assumption))) | exact congrArg (fun b => some (Value.bool b)) (decide_eq_decide.2 (bef_all hrt hlen heq)) | exact congrArg (fun b => some (Value.bool b)) (decide_eq_decide.2 (bef_len (by omega))) | exact congrArg (fun b => some (Value.bool b)) (decide_eq_decide.2 (bef_not (by assumption)))) (prov_cons (rfl) (prov_cons (rfl) (prov_cons (rfl) (prov_cons (rfl) (prov_cons (rfl) (prov_cons (rfl) prov_nil))))))) (rfl) (by repeat (first | exact List.Sublist.refl _ | apply List.Sublist.cons_cons | apply List.Sublist.cons)) hleJ23
                · refine XC.skip ?_
                  refine join_next () (prov_cons (by first | exact congrArg (fun b => some (Value.bool b)) (decide_eq_decide.2 (bef_at hrt hlen heq hxX hxY (by assumption))) | exact congrArg (fun b => some (Value.bool b)) (decide_eq_decide.2 (bef_all hrt hlen heq)) | exact congrArg (fun b => some (Value.bool b)) (decide_eq_decide.2 (bef_len (by omega))) | exact congrArg (fun b => some (Value.bool b)) (decide_eq_decide.2 (bef_not (by assumption)))) (prov_cons (rfl) (prov_cons (rfl) (prov_cons (rfl) (prov_cons (rfl) (prov_cons (rfl) (prov_cons (rfl) prov_nil))))))) (rfl) (by repeat (first | exact List.Sublist.refl _ | apply List.Sublist.cons_cons | apply List.Sublist.cons)) hleJ23
              · have g24p := of_decide_eq_false g24
                refine XO.pickF rfl (g24) rfl rfl ?_
                refine XO.nil ?_
                refine XC.seq2 ?_
                refine XC.condF rfl (rfl) ?_
                refine XC.skip ?_
                refine join_next () (prov_cons (by first | exact congrArg (fun b => some (Value.bool b)) (decide_eq_decide.2 (bef_at hrt hlen heq hxX hxY (by assumption))) | exact congrArg (fun b => some (Value.bool b)) (decide_eq_decide.2 (bef_all hrt hlen heq)) | exact congrArg (fun b => some (Value.bool b)) (decide_eq_decide.2 (bef_len (by omega))) | exact congrArg (fun b => some (Value.bool b)) (decide_eq_decide.2 (bef_not (by assumption)))) (prov_cons (rfl) (prov_cons (rfl) (prov_cons (rfl) (prov_cons (rfl) (prov_cons (rfl) (prov_cons (rfl) prov_nil))))))) (rfl) (by repeat (first | exact List.Sublist.refl _ | apply List.Sublist.cons_cons | apply List.Sublist.cons)) hleJ23
            · rintro _ Hl _ hleK23 ⟨rfl⟩
              replace hs := hs.mono hleK23
              replace h31 := h31.mono hleK23
              replace hW78 := hW78.mono hleK23
              replace h79 := h79.mono hleK23
              replace hsQ19 := hsQ19.mono hleK23
              replace hW117 := hW117.mono hleK23
              replace h118 := h118.mono hleK23
              replace hle0 := hle0.trans hleK23
              refine XC.join (base := [(0, _), (1, _), (7, _), (8, _)]) (fun ζ : Unit => []) (fun ζ Hl own => rest = own) (prov_cons (rfl) (prov_cons (rfl) (prov_cons (rfl) (prov_cons (rfl) prov_nil)))) (fun hleJ34 => ?_) ?_
              · skip
                refine XC.seq ?_
                refine XC.region ?_
                refine XO.move rfl rfl ?_
                refine XO.neq rfl rfl rfl ?_
                refine XO.move rfl rfl ?_
                refine XO.guardT rfl rfl (decide_eq_false (by omega)) rfl ?_
                refine XO.move rfl rfl ?_
                refine XO.guardT rfl rfl (decide_eq_false (by omega)) rfl ?_
                refine XO.move rfl rfl ?_
                refine XO.guardC rfl rfl rfl rfl (fun g35 => ?_) (fun g35 => ?_)
                · have g35p := of_decide_eq_true g35
                  refine XO.move rfl rfl ?_
                  refine XO.guardT rfl rfl (g35) rfl ?_
                  refine XO.not rfl rfl ?_
                  refine XO.guardT rfl rfl (decide_eq_false (by omega)) rfl ?_
                  refine XO.pickT rfl (g35) rfl rfl ?_
                  refine XO.pickF rfl (decide_eq_false (by omega)) rfl rfl ?_
                  refine XO.nil ?_
                  refine XC.seq2 ?_
                  refine XC.condF rfl (decide_eq_false (fun h => h (re_before hck (by omega) hro hlo (by assumption)))) ?_
                  refine XC.skip ?_
                  refine join_next () (prov_cons (rfl) (prov_cons (rfl) (prov_cons (rfl) (prov_cons (rfl) prov_nil)))) (rfl) (by repeat (first | exact List.Sublist.refl _ | apply List.Sublist.cons_cons | apply List.Sublist.cons)) hleJ34
                · have g35p := of_decide_eq_false g35
                  refine XO.guardF rfl rfl (g35) rfl rfl ?_
                  refine XO.guardT rfl rfl (decide_eq_false (by omega)) rfl ?_
                  refine XO.pickF rfl (g35) rfl rfl ?_
                  refine XO.pickF rfl (decide_eq_false (by omega)) rfl rfl ?_
                  refine XO.nil ?_
                  refine XC.seq2 ?_
                  refine XC.condF rfl (rfl) ?_
                  refine XC.skip ?_
                  refine join_next () (prov_cons (rfl) (prov_cons (rfl) (prov_cons (rfl) (prov_cons (rfl) prov_nil)))) (rfl) (by repeat (first | exact List.Sublist.refl _ | apply List.Sublist.cons_cons | apply List.Sublist.cons)) hleJ34
              · rintro _ Hl _ hleK34 ⟨rfl⟩
                replace hs := hs.mono hleK34
                replace h31 := h31.mono hleK34
                replace hW78 := hW78.mono hleK34
                replace h79 := h79.mono hleK34
                replace hsQ19 := hsQ19.mono hleK34
                replace hW117 := hW117.mono hleK34
                replace h118 := h118.mono hleK34
                replace hle0 := hle0.trans hleK34
                refine XC.seq ?_
                refine XC.region ?_
                refine XO.move rfl rfl ?_
                refine XO.move rfl rfl ?_
                refine XO.sub rfl rfl (wrap_i64 (by omega) (by omega)) rfl ?_
                refine XO.maxI (c := ((T - 1 : Nat) : Int)) rfl rfl (by split <;> omega) rfl ?_
                have hcall177 := resist_u _ _ m _ hs (by omega) ((T - 1 : Nat) : Int) (by omega)
                refine XO.callH rfl hcall177 rfl ?_
                rintro _ HT177 hleT177 ⟨a177, c177, h177, rfl⟩
                replace hs := hs.mono hleT177
                replace h31 := h31.mono hleT177
                replace hW78 := hW78.mono hleT177
                replace h79 := h79.mono hleT177
                replace hsQ19 := hsQ19.mono hleT177
                replace hW117 := hW117.mono hleT177
                replace h118 := h118.mono hleT177
                replace hle0 := hle0.trans hleT177
                refine XO.move rfl rfl ?_
                refine XO.extract rfl rfl rfl ?_
                refine XO.extract rfl rfl rfl ?_
                refine XO.extract rfl rfl rfl ?_
                refine XO.assign rfl rfl ?_
                refine XO.assign rfl rfl ?_
                refine XO.assign rfl rfl ?_
                refine XO.nil ?_
                refine XC.seq2 ?_
                refine XC.seq ?_
                refine XC.region ?_
                have q5 := reL_len (m := m) (t := ((T - 1 : Nat) : Int))
                refine XO.move rfl rfl ?_
                refine XO.eql rfl rfl rfl ?_
                refine XO.move rfl rfl ?_
                refine XO.guardT rfl rfl (decide_eq_true (reE_ok hck (by omega))) rfl ?_
                refine XO.move rfl rfl ?_
                refine XO.guardT rfl rfl (decide_eq_true (reE_ok hck (by omega))) rfl ?_
                refine XO.not rfl rfl ?_
                refine XO.guardT rfl rfl (decide_eq_true (reE_ok hck (by omega))) rfl ?_
                refine XO.move rfl rfl ?_
                refine XO.guardC rfl rfl rfl rfl (fun g38 => ?_) (fun g38 => ?_)
                · have g38p := of_decide_eq_false g38
                  refine XO.move rfl rfl ?_
                  refine XO.guardT rfl rfl (g38) rfl ?_
                  refine XO.move rfl rfl ?_
                  refine XO.guardT rfl rfl (decide_eq_true (re_less hck (by omega) (Decidable.not_not.1 (by assumption))).1) rfl ?_
                  refine XO.move rfl rfl ?_
                  refine XO.guardT rfl rfl (decide_eq_true (re_less hck (by omega) (Decidable.not_not.1 (by assumption))).1) rfl ?_
                  refine XO.move rfl rfl ?_
                  refine XO.guardT rfl rfl (decide_eq_true (re_less hck (by omega) (Decidable.not_not.1 (by assumption))).1) rfl ?_
                  refine XO.callV rfl (sameInts_fn _ _ _ _ (reL m ((T - 1 : Nat) : Int)) (reL m (T : Nat)) _ h177 h31 (by omega)) rfl ?_
                  refine XO.guardT rfl rfl (g38) rfl ?_
                  refine XO.pickT rfl (decide_eq_true (re_less hck (by omega) (Decidable.not_not.1 (by assumption))).1) rfl rfl ?_
                  refine XO.guardT rfl rfl (decide_eq_true (reE_ok hck (by omega))) rfl ?_
                  refine XO.pickF rfl (g38) rfl rfl ?_
                  refine XO.pickT rfl (decide_eq_true (reE_ok hck (by omega))) rfl rfl ?_
                  refine XO.move rfl rfl ?_
                  refine XO.guardT rfl rfl (decide_eq_true (re_less hck (by omega) (Decidable.not_not.1 (by assumption))).2) rfl ?_
                  refine XO.move rfl rfl ?_
                  refine XO.guardT rfl rfl (decide_eq_true (re_less hck (by omega) (Decidable.not_not.1 (by assumption))).2) rfl ?_
                  refine XO.move rfl rfl ?_
                  refine XO.guardC rfl rfl rfl rfl (fun g40 => ?_) (fun g40 => ?_)
                  · have g40p := of_decide_eq_false g40
                    refine XO.move rfl rfl ?_
                    refine XO.guardT rfl rfl (g40) rfl ?_
                    refine XO.not rfl rfl ?_
                    refine XO.guardT rfl rfl (decide_eq_true (re_less hck (by omega) (Decidable.not_not.1 (by assumption))).2) rfl ?_
                    refine XO.pickF rfl (g40) rfl rfl ?_
                    refine XO.guardT rfl rfl (decide_eq_true (re_less hck (by omega) (Decidable.not_not.1 (by assumption))).2) rfl ?_
                    refine XO.move rfl rfl ?_
                    refine XO.guardC rfl rfl rfl rfl (fun g41 => ?_) (fun g41 => ?_)
                    · have g41p := of_decide_eq_false g41
                      refine XO.move rfl rfl ?_
                      refine XO.guardT rfl rfl (g41) rfl ?_
                      refine XO.lenS (ts := #[]) rfl Try.underlying29 rfl ?_
                      refine XO.guardT rfl rfl (g41) rfl ?_
                      refine XO.move rfl rfl ?_
                      refine XO.guardT rfl rfl (g41) rfl ?_
                      refine XO.sub rfl rfl (wrap_i64 (by omega) (by omega)) rfl ?_
                      refine XO.guardT rfl rfl (g41) rfl ?_
                      refine XO.maxI (c := ((T - 1 : Nat) : Int)) rfl rfl (by split <;> omega) rfl ?_
                      refine XO.guardT rfl rfl (g41) rfl ?_
                      refine XO.gtr rfl rfl rfl ?_
                      refine XO.guardT rfl rfl (decide_eq_true (re_less hck (by omega) (Decidable.not_not.1 (by assumption))).2) rfl ?_
                      refine XO.pickF rfl (g41) rfl rfl ?_
                      refine XO.pickT rfl (decide_eq_true (re_less hck (by omega) (Decidable.not_not.1 (by assumption))).2) rfl rfl ?_
                      refine XO.assign rfl rfl ?_
                      refine XO.nil ?_
                      refine XC.seq2 ?_
                      refine XC.ret ?_
                      refine ⟨rfl, _, [], rfl, (by repeat (first | exact List.Sublist.refl _ | apply List.Sublist.cons)), RetR.mk ?_⟩
                      first | rfl | exact congrArg Value.bool (decide_eq_true hnP) | exact congrArg Value.bool (decide_eq_true (by have := re_more (T := T) hck (by omega) (by assumption) (Decidable.not_not.1 (by assumption)); omega))
                    · have g41p := of_decide_eq_true g41
                      refine XO.guardF rfl rfl (g41) rfl rfl ?_
                      refine XO.guardF rfl rfl (g41) rfl rfl ?_
                      refine XO.guardF rfl rfl (g41) rfl rfl ?_
                      refine XO.guardF rfl rfl (g41) rfl rfl ?_
                      refine XO.guardF rfl rfl (g41) rfl rfl ?_
                      refine XO.guardT rfl rfl (decide_eq_true (re_less hck (by omega) (Decidable.not_not.1 (by assumption))).2) rfl ?_
                      refine XO.pickT rfl (g41) rfl rfl ?_
                      refine XO.pickT rfl (decide_eq_true (re_less hck (by omega) (Decidable.not_not.1 (by assumption))).2) rfl rfl ?_
                      refine XO.assign rfl rfl ?_
                      refine XO.nil ?_
                      refine XC.seq2 ?_
                      refine XC.ret ?_
                      refine ⟨rfl, _, [], rfl, (by repeat (first | exact List.Sublist.refl _ | apply List.Sublist.cons)), RetR.mk ?_⟩
                      first | rfl | exact congrArg Value.bool (decide_eq_true hnP) | exact congrArg Value.bool (decide_eq_true (by have := re_more (T := T) hck (by omega) (by assumption) (Decidable.not_not.1 (by assumption)); omega))
                  · have g40p := of_decide_eq_true g40
                    refine XO.guardF rfl rfl (g40) rfl rfl ?_
                    refine XO.guardT rfl rfl (decide_eq_true (re_less hck (by omega) (Decidable.not_not.1 (by assumption))).2) rfl ?_
                    refine XO.pickT rfl (g40) rfl rfl ?_
                    refine XO.guardT rfl rfl (decide_eq_true (re_less hck (by omega) (Decidable.not_not.1 (by assumption))).2) rfl ?_
                    refine XO.move rfl rfl ?_
                    refine XO.guardF rfl rfl (rfl) rfl rfl ?_
                    refine XO.guardF rfl rfl (rfl) rfl rfl ?_
                    refine XO.guardF rfl rfl (rfl) rfl rfl ?_
                    refine XO.guardF rfl rfl (rfl) rfl rfl ?_
                    refine XO.guardF rfl rfl (rfl) rfl rfl ?_
                    refine XO.guardF rfl rfl (rfl) rfl rfl ?_
                    refine XO.guardT rfl rfl (decide_eq_true (re_less hck (by omega) (Decidable.not_not.1 (by assumption))).2) rfl ?_
                    refine XO.pickT rfl (rfl) rfl rfl ?_
                    refine XO.pickT rfl (decide_eq_true (re_less hck (by omega) (Decidable.not_not.1 (by assumption))).2) rfl rfl ?_
                    refine XO.assign rfl rfl ?_
                    refine XO.nil ?_
                    refine XC.seq2 ?_
                    refine XC.ret ?_
                    refine ⟨rfl, _, [], rfl, (by repeat (first | exact List.Sublist.refl _ | apply List.Sublist.cons)), RetR.mk ?_⟩
                    first | rfl | exact congrArg Value.bool (decide_eq_true hnP) | exact congrArg Value.bool (decide_eq_true (by have := re_more (T := T) hck (by omega) (by assumption) (Decidable.not_not.1 (by assumption)); omega))
                · have g38p := of_decide_eq_true g38
                  refine XO.guardF rfl rfl (g38) rfl rfl ?_
                  refine XO.guardU rfl rfl rfl rfl ?_
                  refine XO.guardU rfl rfl rfl rfl ?_
                  refine XO.guardU rfl rfl rfl rfl ?_
                  refine XO.guardF rfl rfl (g38) rfl rfl ?_
                  refine XO.guardT rfl rfl (decide_eq_true (reE_ok hck (by omega))) rfl ?_
                  refine XO.pickT rfl (g38) rfl rfl ?_
                  refine XO.pickT rfl (decide_eq_true (reE_ok hck (by omega))) rfl rfl ?_
                  refine XO.move rfl rfl ?_
                  refine XO.guardT rfl rfl (rfl) rfl ?_
                  refine XO.move rfl rfl ?_
                  refine XO.guardT rfl rfl (rfl) rfl ?_
                  refine XO.move rfl rfl ?_
                  refine XO.guardC rfl rfl rfl rfl (fun g43 => ?_) (fun g43 => ?_)
                  · have g43p := of_decide_eq_false g43
                    refine XO.move rfl rfl ?_
                    refine XO.guardT rfl rfl (g43) rfl ?_
                    refine XO.not rfl rfl ?_
                    refine XO.guardT rfl rfl (rfl) rfl ?_
                    refine XO.pickF rfl (g43) rfl rfl ?_
                    refine XO.guardT rfl rfl (rfl) rfl ?_
                    refine XO.move rfl rfl ?_
                    refine XO.guardC rfl rfl rfl rfl (fun g44 => ?_) (fun g44 => ?_)
                    · have g44p := of_decide_eq_false g44
                      refine XO.move rfl rfl ?_
                      refine XO.guardT rfl rfl (g44) rfl ?_
                      refine XO.lenS (ts := #[]) rfl Try.underlying29 rfl ?_
                      refine XO.guardT rfl rfl (g44) rfl ?_
                      refine XO.move rfl rfl ?_
                      refine XO.guardT rfl rfl (g44) rfl ?_
                      refine XO.sub rfl rfl (wrap_i64 (by omega) (by omega)) rfl ?_
                      refine XO.guardT rfl rfl (g44) rfl ?_
                      refine XO.maxI (c := ((T - 1 : Nat) : Int)) rfl rfl (by split <;> omega) rfl ?_
                      refine XO.guardT rfl rfl (g44) rfl ?_
                      refine XO.gtr rfl rfl rfl ?_
                      refine XO.guardT rfl rfl (rfl) rfl ?_
                      refine XO.pickF rfl (g44) rfl rfl ?_
                      refine XO.pickT rfl (rfl) rfl rfl ?_
                      refine XO.assign rfl rfl ?_
                      refine XO.nil ?_
                      refine XC.seq2 ?_
                      refine XC.ret ?_
                      refine ⟨rfl, _, [], rfl, (by repeat (first | exact List.Sublist.refl _ | apply List.Sublist.cons)), RetR.mk ?_⟩
                      first | rfl | exact congrArg Value.bool (decide_eq_true hnP) | exact congrArg Value.bool (decide_eq_true (by have := re_more (T := T) hck (by omega) (by assumption) (Decidable.not_not.1 (by assumption)); omega))
                    · have g44p := of_decide_eq_true g44
                      refine XO.guardF rfl rfl (g44) rfl rfl ?_
                      refine XO.guardF rfl rfl (g44) rfl rfl ?_
                      refine XO.guardF rfl rfl (g44) rfl rfl ?_
                      refine XO.guardF rfl rfl (g44) rfl rfl ?_
                      refine XO.guardF rfl rfl (g44) rfl rfl ?_
                      refine XO.guardT rfl rfl (rfl) rfl ?_
                      refine XO.pickT rfl (g44) rfl rfl ?_
                      refine XO.pickT rfl (rfl) rfl rfl ?_
                      refine XO.assign rfl rfl ?_
                      refine XO.nil ?_
                      refine XC.seq2 ?_
                      refine XC.ret ?_
                      refine ⟨rfl, _, [], rfl, (by repeat (first | exact List.Sublist.refl _ | apply List.Sublist.cons)), RetR.mk ?_⟩
                      first | rfl | exact congrArg Value.bool (decide_eq_true hnP) | exact congrArg Value.bool (decide_eq_true (by have := re_more (T := T) hck (by omega) (by assumption) (Decidable.not_not.1 (by assumption)); omega))
                  · have g43p := of_decide_eq_true g43
                    refine XO.guardF rfl rfl (g43) rfl rfl ?_
                    refine XO.guardT rfl rfl (rfl) rfl ?_
                    refine XO.pickT rfl (g43) rfl rfl ?_
                    refine XO.guardT rfl rfl (rfl) rfl ?_
                    refine XO.move rfl rfl ?_
                    refine XO.guardF rfl rfl (rfl) rfl rfl ?_
                    refine XO.guardF rfl rfl (rfl) rfl rfl ?_
                    refine XO.guardF rfl rfl (rfl) rfl rfl ?_
                    refine XO.guardF rfl rfl (rfl) rfl rfl ?_
                    refine XO.guardF rfl rfl (rfl) rfl rfl ?_
                    refine XO.guardF rfl rfl (rfl) rfl rfl ?_
                    refine XO.guardT rfl rfl (rfl) rfl ?_
                    refine XO.pickT rfl (rfl) rfl rfl ?_
                    refine XO.pickT rfl (rfl) rfl rfl ?_
                    refine XO.assign rfl rfl ?_
                    refine XO.nil ?_
                    refine XC.seq2 ?_
                    refine XC.ret ?_
                    refine ⟨rfl, _, [], rfl, (by repeat (first | exact List.Sublist.refl _ | apply List.Sublist.cons)), RetR.mk ?_⟩
                    first | rfl | exact congrArg Value.bool (decide_eq_true hnP) | exact congrArg Value.bool (decide_eq_true (by have := re_more (T := T) hck (by omega) (by assumption) (Decidable.not_not.1 (by assumption)); omega))

namespace graphResist
open Go.ChangeShapes Go.WideShapes Go.ChangeAt Go.RowKit
open Go.ChangeMaps (open_string shut_string)
theorem own : ownKnob Try.prog.godebug = none := by kernel_rfl
theorem laidOut : laidOutB Try.prog = true := by kernel_rfl
set_option maxRecDepth 100000 in
theorem lifted (os : Os) (started : os.Started) (H : Type) (enc : TypeId × Value → H) :
    ReturnsInHanded {} Try.checked os 9 .any (Rows.graphResistSpec.pre6 enc Try.prog Try.f9 Rows.graphResistRow.domain false) (Rows.graphResistSpec.post enc Try.prog Try.f9 false true false false) := by
  refine returnsInHanded_of_change (C := Try.checked) own started (by kernel_rfl) Try.func9
    (ChangeSpec.witness6 (enc := enc) (C := Try.checked) false ⟨#[], #[.slice none 0 0, .int .i64 0, .int .u16 0], []⟩ 8 (by kernel_rfl) (by kernel_rfl) (by kernel_rfl) (by kernel_rfl)) ?_
  intro W base args ds gs before hval0 hW hcnd _
  have hval : ∀ (j : Nat) t v, Try.f9.params[j]? = some t → args[j]? = some v → Value.okWide Try.prog W .any base t v := hval0
  have hW' := hW
  obtain ⟨p, q, hA0, hV, rfl, hfz, hnd⟩ := hW
  have hA : DataW.TrodAll enc Try.prog W 0 (fun _ => true) true Try.f9.params.toList args.toList ds p := hA0
  rw [Try.params9] at hA hval
  obtain ⟨v0, vs0, d0, ds0, p0, q0, hargs, rfl, rfl, h0, r0⟩ := trodAll_cons hA
  obtain ⟨v1, vs1, d1, ds1, p1, q1, rfl, rfl, rfl, h1, r1⟩ := trodAll_cons r0
  obtain ⟨v2, vs2, d2, ds2, p2, q2, rfl, rfl, rfl, h2, r2⟩ := trodAll_cons r1
  obtain ⟨rfl, rfl, rfl⟩ := trodAll_nil r2
  obtain rfl : args = #[v0, v1, v2] := by cases args; simp_all
  obtain ⟨rfl, rfl⟩ := trodVars_none hV
  obtain ⟨a0, len0, cap0, rfl⟩ := okWide_slice Try.underlying22 (hval 0 22 v0 rfl rfl)
  have k0 := h0
  have lt0 : ∀ x ∈ p0, x.block < W.heap.size := by obtain ⟨m, hm⟩ := k0; exact DataW.trod_lt m _ _ _ hm
  obtain ⟨fuel0, hf0⟩ := h0
  obtain ⟨l0, ⟨aa0, cc0, hcs0, hs0⟩, hw0⟩ := opens_tb enc W 0 _ _ fuel0 _ _ hf0
  simp [Value.cells] at hcs0
  obtain ⟨rfl, rfl, rfl⟩ := hcs0
  obtain ⟨a1, rfl, rfl, rfl, w1⟩ := open_int Try.underlying3 (hval 1 3 v1 rfl rfl) h1
  obtain ⟨a2, rfl, rfl, rfl, w2⟩ := open_int Try.underlying46 (hval 2 46 v2 rfl rfl) h2
  clear hA0 hval0
  refine (graphResist_fn _ _ l0 (hpOf W) hs0 (by have := hw0.1; unfold maxLen at this; omega) a1 a2 (wf_i64 w1)).below.mono fun e W' ⟨he, bel⟩ => ?_
  subst he
  exact ⟨_, rfl, _, _, _, [], _, [], hW', trodAll_mk1 (shut_bool Try.underlying4 _), (trodAll_cons_mk (Below.trod laidOut (by kernel_rfl) (of_decide_eq_true (by kernel_rfl)) k0 bel lt0) (trodAll_cons_mk (shut_int Try.underlying3 w1) (trodAll_cons_mk (shut_int Try.underlying46 w2) trodAll_mk0))), rfl, bel.frame _, fun h => by cases h⟩
theorem over : Rows.graphResistRow.holds Try.pinned (OpenSpec.ofChange Rows.graphResistSpec) :=
  OpenClaim.holds_of_wide 9 Try.f9 rfl rfl rfl rfl rfl rfl rfl ⟨rfl, rfl, rfl, rfl, rfl⟩ rfl rfl rfl rfl rfl (by kernel_rfl) Try.func9 (by kernel_rfl)
    (of_decide_eq_true (by kernel_rfl)) (by unfold Func.isWrapper; first | (rw [if_pos (by decide +kernel)]; kernel_rfl) | (rw [if_neg (by decide +kernel)]; exact ⟨rfl, rfl⟩))
    (fun os started H enc _ => lifted os started H enc)
/-- The given statement. -/
theorem proved : Rows.GraphResistSaid := over
#print axioms proved
end graphResist
end Go.Proofs.Ytbfleiickdobnaa
