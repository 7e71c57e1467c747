/- The walks of the functions of repairs: what each of them computes, at any input. -/
import Derived.Test.YtnckfcgnmhplnaaB8
set_option autoImplicit false
set_option linter.unusedVariables false
set_option linter.unusedSimpArgs false
namespace Go.Proofs
open Go.XL

theorem bf_70 : structF Try.prog 70 = some [(0, 4), (4, 1), (5, 1), (6, 1)] := by kernel_rfl
theorem bk_70 : structK Try.prog 70 = true := by kernel_rfl
theorem ze_70 : zeroC Try.prog 70 = some [.int .i64 0, .int .i64 0, .int .i64 0, .slice none 0 0, .slice none 0 0, .slice none 0 0, .slice none 0 0] := by kernel_rfl

set_option maxRecDepth 100000 in
set_option maxHeartbeats 1600000 in
theorem open_fn (w : Wi) (old : Ls) (ab : List Int) (aB a aA : Option Addr) (cB c cA : Nat) (H : Hp) (hB : SlR tbR H aB cB w.B) (hO : SlR ilR H a c old) (hA : SlR (intR .i64) H aA cA ab) (hBl : w.B.length < 9223372036854775808) (hl : old.length < 9223372036854775808) (hw : ∀ x ∈ old, x.length < 9223372036854775808) (hal : ab.length < 9223372036854775808) : FnC Try.prog 27 #[.agg ⟨[.int .i64 w.J, .int .i64 w.S, .int .i64 w.N, .slice aB w.B.length cB]⟩, .slice a old.length c, .slice aA ab.length cA] H [] (RetR (fun v H2 _ => OpenU w old ab H2 v)) := by
 refine FnC.intro (args := [.agg ⟨[.int .i64 w.J, .int .i64 w.S, .int .i64 w.N, .slice aB w.B.length cB]⟩, .slice a old.length c, .slice aA ab.length cA]) Try.func27 rfl rfl Try.ntmps27 rfl rfl rfl fun G rest => ?_
 refine XC.seq ?_; refine XC.region ?_; refine XO.box rfl rfl rfl (fun b3 => ?_); refine XO.assign rfl rfl ?_; refine XO.assign rfl rfl ?_; refine XO.nil ?_; refine XC.seq2 ?_; refine XC.seq ?_; refine XC.seq ?_; refine XC.region ?_; refine XO.loadO 0 rfl rfl ty_24 rfl rfl rfl ?_; refine XO.move rfl rfl ?_; refine XO.callV rfl (check_fn w _ _ _ _ old _ hO hl hw hB hBl) rfl ?_; refine XO.assign rfl rfl ?_; refine XO.nil ?_; refine XC.seq2 ?_; refine XC.seq ?_; refine XC.region ?_; refine XO.move rfl rfl ?_; refine XO.neq rfl rfl rfl ?_; refine XO.nil ?_; refine XC.seq2 ?_; refine XC.cond rfl (fun c0_2 => ?_) (fun c0_2 => ?_)
 ·refine XC.seq ?_; refine XC.region ?_; refine XO.move rfl rfl ?_; refine XO.assign rfl rfl ?_; refine XO.assign rfl rfl ?_; refine XO.nil ?_; refine XC.seq2 ?_; refine XC.ret ?_; refine seqX_ret ?_; refine ⟨rfl, _, [], rfl, (by repeat (first | exact List.Sublist.refl _ | apply List.Sublist.cons)), RetR.mk ?_⟩
  exact OpenU.no (err_chk (by assumption)) (by assumption)
 ·have hck : chkD w old = 0 := by omega
  obtain ⟨hrw, hlo, hfa⟩ := chkD_eq0 hck
  have hrw1 := hrw.1
  refine XC.skip ?_; refine XC.seq2 ?_; refine XC.seq ?_; refine XC.region ?_; refine XO.assign rfl rfl ?_; refine XO.nil ?_; refine XC.seq2 ?_; refine XC.seq ?_; refine XC.seq ?_; refine XC.region ?_; refine XO.move rfl rfl ?_; refine XO.lenS (ts := #[]) rfl Try.underlying26 rfl ?_; refine XO.move rfl rfl ?_; refine XO.nil ?_; refine XC.seq2 ?_; refine XC.block ?_; refine XC.keep [9, 21, 1, 2, 3, 19, 20] rfl ?_; refine XC.loop (base := [(1, _), (2, _), (3, _), (19, _), (20, _)]) (fun ζ : Nat × (Int) => [(9, .int .i64 ζ.2), (21, .int .i64 (ζ.1 : Nat))]) (fun ζ Hl own => ζ.1 ≤ ab.length ∧ (b3, .cells 24 [.int .i64 w.J, .int .i64 w.S, .int .i64 w.N, .slice aB w.B.length cB]) :: rest = own ∧ (fitB w.J [] (-1) ab = fitB w.J [] ζ.2 (ab.drop (ζ.1)))) (fun ζ => ab.length - ζ.1) (0, -1) (prov_cons (rfl) (prov_cons (rfl) (prov_cons (rfl) (prov_cons (rfl) (prov_cons (rfl) (prov_cons (rfl) (prov_cons (rfl) prov_nil))))))) (by repeat (first | exact List.Sublist.refl _ | apply List.Sublist.cons_cons | apply List.Sublist.cons)) ⟨Nat.zero_le _, rfl, rfl⟩ ?_; rintro ⟨i, last⟩ Hl0 _ hle0 ⟨hki, rfl, hF⟩; replace hB := hB.mono hle0; replace hO := hO.mono hle0; replace hA := hA.mono hle0
  try dsimp only at hki hF ⊢
  refine XC.seq ?_; refine XC.region ?_; refine XO.lss rfl rfl rfl ?_; refine XO.nil ?_; refine XC.seq2 ?_; refine XC.seq ?_; refine XC.cond rfl (fun c1_3 => ?_) (fun c1_3 => ?_)
  ·refine XC.skip ?_; refine XC.seq2 ?_; refine XC.seq ?_; refine XC.block ?_; refine XC.seq ?_; refine XC.region ?_; refine XO.indexN rfl hA rfl Try.underlying26 ty_3 (by omega) rfl ?_; rintro eb23 eo23 _ x23 hx23 rfl hp23; refine XO.loadH rfl (by assumption) ty_3 rfl rfl rfl ?_; refine XO.assign rfl rfl ?_; refine XO.nil ?_; refine XC.seq2 ?_; refine XC.seq ?_; refine XC.seq ?_; refine XC.region ?_; refine XO.move rfl rfl ?_; refine XO.move rfl rfl ?_; refine XO.leq rfl rfl rfl ?_; refine XO.move rfl rfl ?_; refine XO.guardC rfl rfl rfl rfl (fun g5 => ?_) (fun g5 => ?_)
   ·have g5p := of_decide_eq_false g5
    refine XO.move rfl rfl ?_; refine XO.guardT rfl rfl (g5) rfl ?_; refine XO.fieldAddr rfl fa_24_0 rfl ?_; refine XO.guardT rfl rfl (g5) rfl ?_; refine XO.loadO 0 rfl rfl ty_3 rfl rfl rfl ?_; refine XO.guardT rfl rfl (g5) rfl ?_; refine XO.geq rfl rfl rfl ?_; refine XO.pickF rfl (g5) rfl rfl ?_; refine XO.nil ?_; refine XC.seq2 ?_; refine XC.cond rfl (fun c2_6 => ?_) (fun c2_6 => ?_)
    ·refine XC.seq ?_; refine XC.region ?_; refine XO.assign rfl rfl ?_; refine XO.assign rfl rfl ?_; refine XO.nil ?_; refine XC.seq2 ?_; refine XC.ret ?_; refine seqX_ret ?_; refine blockR ?_; refine seqX_ret ?_; refine loopX_ret ?_; refine blockR ?_; refine seqX_ret ?_; refine ⟨rfl, _, [], rfl, (by repeat (first | exact List.Sublist.refl _ | apply List.Sublist.cons)), RetR.mk ?_⟩
     first | exact OpenU.no (err_300 hck (ris_n hF hx23 (by omega))) (by decide) | exact OpenU.no (err_2 hck hF (by omega)) (by decide) | exact ⟨_, by rw [err_0 hck hF (by omega)]; rfl, fun _ => ⟨b49, rfl, _, _, _, _, _, _, _, _, _, hpK49, hB, hO, hsQ⟩⟩
    ·refine XC.skip ?_; refine XC.seq2 ?_; refine XC.region ?_; refine XO.move rfl rfl ?_; refine XO.assign rfl rfl ?_; refine XO.nil ?_; refine blockN ?_; refine XC.seq2 ?_; refine XC.region ?_; refine XO.add rfl rfl (wrap_i64 (by omega) (by omega)) rfl ?_; refine XO.move rfl rfl ?_; refine XO.nil ?_; refine loop_next ((i + 1, x23)) (by show ab.length - (i + 1) < ab.length - i; omega) (prov_cons (rfl) (prov_cons (rfl) (prov_cons (rfl) (prov_cons (rfl) (prov_cons (rfl) (prov_cons (rfl) (prov_cons (rfl) prov_nil))))))) (⟨by show i + 1 ≤ ab.length; omega, rfl, ris_y hF hx23 (by omega) (by omega)⟩) (by repeat (first | exact List.Sublist.refl _ | apply List.Sublist.cons_cons | apply List.Sublist.cons)) (hle0)
   ·have g5p := of_decide_eq_true g5
    refine XO.guardF rfl rfl (g5) rfl rfl ?_; refine XO.guardF rfl rfl (g5) rfl rfl ?_; refine XO.guardF rfl rfl (g5) rfl rfl ?_; refine XO.pickT rfl (g5) rfl rfl ?_; refine XO.nil ?_; refine XC.seq2 ?_; refine XC.condT rfl (rfl) ?_; refine XC.seq ?_; refine XC.region ?_; refine XO.assign rfl rfl ?_; refine XO.assign rfl rfl ?_; refine XO.nil ?_; refine XC.seq2 ?_; refine XC.ret ?_; refine seqX_ret ?_; refine blockR ?_; refine seqX_ret ?_; refine loopX_ret ?_; refine blockR ?_; refine seqX_ret ?_; refine ⟨rfl, _, [], rfl, (by repeat (first | exact List.Sublist.refl _ | apply List.Sublist.cons)), RetR.mk ?_⟩
    first | exact OpenU.no (err_300 hck (ris_n hF hx23 (by omega))) (by decide) | exact OpenU.no (err_2 hck hF (by omega)) (by decide) | exact ⟨_, by rw [err_0 hck hF (by omega)]; rfl, fun _ => ⟨b49, rfl, _, _, _, _, _, _, _, _, _, hpK49, hB, hO, hsQ⟩⟩
  ·obtain rfl : i = ab.length := by omega
   rw [List.drop_length, fitB] at hF
   refine XC.exit ?_; refine seqX_exit ?_; refine loopX_exit ?_; refine blockHit rfl ?_; refine XC.seq2 ?_; refine XC.seq ?_; refine XC.seq ?_; refine XC.region ?_; refine XO.fieldAddr rfl fa_24_3 rfl ?_; refine XO.loadO 0 rfl rfl ty_22 rfl rfl rfl ?_; refine XO.lenS (ts := #[]) rfl Try.underlying22 rfl ?_; refine XO.gtr rfl rfl rfl ?_; refine XO.move rfl rfl ?_; refine XO.guardC rfl rfl rfl rfl (fun g7 => ?_) (fun g7 => ?_)
   ·have g7p := of_decide_eq_false g7
    refine XO.fieldAddr rfl fa_24_0 rfl ?_; refine XO.guardT rfl rfl (g7) rfl ?_; refine XO.loadO 0 rfl rfl ty_3 rfl rfl rfl ?_; refine XO.guardT rfl rfl (g7) rfl ?_; refine XO.gtr rfl rfl rfl ?_; refine XO.pickF rfl (g7) rfl rfl ?_; refine XO.nil ?_; refine XC.seq2 ?_; refine XC.cond rfl (fun c3_8 => ?_) (fun c3_8 => ?_)
    ·refine XC.seq ?_; refine XC.region ?_; refine XO.assign rfl rfl ?_; refine XO.assign rfl rfl ?_; refine XO.nil ?_; refine XC.seq2 ?_; refine XC.ret ?_; refine seqX_ret ?_; refine ⟨rfl, _, [], rfl, (by repeat (first | exact List.Sublist.refl _ | apply List.Sublist.cons)), RetR.mk ?_⟩
     first | exact OpenU.no (err_300 hck (ris_n hF hx23 (by omega))) (by decide) | exact OpenU.no (err_2 hck hF (by omega)) (by decide) | exact ⟨_, by rw [err_0 hck hF (by omega)]; rfl, fun _ => ⟨b49, rfl, _, _, _, _, _, _, _, _, _, hpK49, hB, hO, hsQ⟩⟩
    ·refine XC.skip ?_; refine XC.seq2 ?_; refine XC.seq ?_; refine XC.region ?_; refine XO.loadO 0 rfl rfl ty_24 rfl rfl rfl ?_; refine XO.move rfl rfl ?_; refine XO.move rfl rfl ?_; refine XO.build bk_70 bf_70 ze_70 rfl rfl rfl ?_; refine XO.box rfl rfl rfl (fun b49 => ?_); refine XO.open0 (σ := []) (fun b0 => ?_); refine XO.assign rfl rfl ?_; refine XO.nil ?_; refine XC.seq2 ?_; refine XC.seq ?_; refine XC.seq ?_; refine XC.region ?_; refine XO.fieldAddr rfl fa_24_0 rfl ?_; refine XO.loadO 2 rfl rfl ty_3 rfl rfl rfl ?_; refine XO.move rfl rfl ?_; refine XO.nil ?_; refine XC.seq2 ?_; refine XC.block ?_; refine XC.keep [52, 2, 6, 51] rfl ?_; refine XC.loop (base := [(2, _), (6, _), (51, _)]) (fun ζ : Nat × (Nat × SObj) × (Option Addr) × (Nat) × (Nat) => [(52, .int .i64 (ζ.1 : Nat))]) (fun ζ Hl own => ζ.1 ≤ w.J.toNat ∧ ζ.2.1 :: (b49, .cells 70 [.int .i64 w.J, .int .i64 w.S, .int .i64 w.N, .slice aB w.B.length cB, .slice a old.length c, .slice ζ.2.2.1 ζ.2.2.2.2 ζ.2.2.2.1, .slice aA ab.length cA]) :: rest = own ∧ (XL.Acc (intR .i64) 3 Hl ζ.2.1 ζ.2.2.1 ζ.2.2.2.1 (FL ab (ζ.1))) ∧ (ζ.2.2.2.2 = (FL ab (ζ.1)).length)) (fun ζ => w.J.toNat - ζ.1) (0, (b0, .nothing), none, 0, 0) (prov_cons (rfl) (prov_cons (rfl) (prov_cons (rfl) (prov_cons (rfl) prov_nil)))) (by repeat (first | exact List.Sublist.refl _ | apply List.Sublist.cons_cons | apply List.Sublist.cons)) ⟨Nat.zero_le _, rfl, Acc.nil _ _ _ _, rfl⟩ ?_; rintro ⟨k, pk, ap, cp, nl⟩ Hl1 _ hle1 ⟨hkk, rfl, hacck, hnl⟩; replace hB := hB.mono hle1; replace hO := hO.mono hle1; replace hA := hA.mono hle1; replace hle0 := hle0.trans hle1
     try dsimp only at hkk hacck hnl ⊢
     subst hnl
     refine XC.seq ?_; refine XC.region ?_; refine XO.lss rfl rfl rfl ?_; refine XO.nil ?_; refine XC.seq2 ?_; refine XC.seq ?_; refine XC.cond rfl (fun c4_9 => ?_) (fun c4_9 => ?_)
     ·refine XC.skip ?_; refine XC.seq2 ?_; refine XC.seq ?_; refine XC.block ?_; refine XC.seq ?_; refine XC.region ?_; refine XO.move rfl rfl ?_; refine XO.assign rfl rfl ?_; refine XO.nil ?_; refine XC.seq2 ?_; refine XC.seq ?_; refine XC.region ?_; refine XO.move rfl rfl ?_; refine XO.move rfl rfl ?_; refine XO.callV rfl (contains_fn _ _ ab _ hA hal (k : Nat)) rfl ?_; refine XO.not rfl rfl ?_; refine XO.nil ?_; refine XC.seq2 ?_; refine XC.cond rfl (fun c5_11 => ?_) (fun c5_11 => ?_)
      ·refine XC.region ?_; refine XO.move rfl rfl ?_; refine XO.move rfl rfl ?_; refine XO.nilCheckP rfl rfl ?_; refine XO.fieldAddr rfl fa_70_2 rfl ?_; refine XO.loadO 1 rfl rfl ty_26 rfl rfl rfl ?_; refine XO.move rfl rfl ?_; refine XO.buildSlice rfl Try.underlying26 ty_3 ze_3 rfl rfl rfl (fun b65 => ?_); refine XO.publish 0 rfl rfl rfl (fun HP65 oP65 hleP65 hbP65 hoP65 => ?_)
       have hsl65 := SlR.lit (ρ := (intR .i64)) (l := [((k : Nat) : Int)]) hbP65 hoP65 (RowsR.one1 rfl)
       replace hB := hB.mono hleP65; replace hO := hO.mono hleP65; replace hA := hA.mono hleP65; replace hacck := hacck.mono hleP65; replace hle0 := hle0.trans hleP65; replace hle1 := hle1.trans hleP65; refine XO.appendA 0 rfl rfl hacck rfl rfl hsl65 rfl Try.underlying26 ty_3 ze_3 rfl by_3 (by have := FL_len ab k; simp; omega) rfl (fun p66 a66 c66 hacc66 => ?_); refine XO.nilCheckP rfl rfl ?_; refine XO.fieldAddr rfl fa_70_2 rfl ?_; refine XO.storeO 1 rfl rfl rfl rfl ty_26 rfl rfl rfl rfl rfl ?_; refine XO.nil ?_; refine blockN ?_; refine XC.seq2 ?_; refine XC.region ?_; refine XO.add rfl rfl (wrap_i64 (by omega) (by omega)) rfl ?_; refine XO.move rfl rfl ?_; refine XO.nil ?_; refine loop_next ((k + 1, p66, a66, c66, (FL ab k ++ [((k : Nat) : Int)]).length)) (by show w.J.toNat - (k + 1) < w.J.toNat - k; omega) (prov_cons (rfl) (prov_cons (rfl) (prov_cons (rfl) (prov_cons (rfl) prov_nil)))) (⟨by show k + 1 ≤ w.J.toNat; omega, rfl, by first | (rw [FL_y (by assumption)]; exact hacc66) | (rw [FL_n (Decidable.not_not.1 (by assumption))]; exact hacck), by first | (rw [FL_y (by assumption)]; done) | (rw [FL_n (Decidable.not_not.1 (by assumption))]; done)⟩) (by repeat (first | exact List.Sublist.refl _ | apply List.Sublist.cons_cons | apply List.Sublist.cons)) (hle1)
      ·refine XC.skip ?_; refine blockN ?_; refine XC.seq2 ?_; refine XC.region ?_; refine XO.add rfl rfl (wrap_i64 (by omega) (by omega)) rfl ?_; refine XO.move rfl rfl ?_; refine XO.nil ?_; refine loop_next ((k + 1, pk, ap, cp, (FL ab k).length)) (by show w.J.toNat - (k + 1) < w.J.toNat - k; omega) (prov_cons (rfl) (prov_cons (rfl) (prov_cons (rfl) (prov_cons (rfl) prov_nil)))) (⟨by show k + 1 ≤ w.J.toNat; omega, rfl, by first | (rw [FL_y (by assumption)]; exact hacc66) | (rw [FL_n (Decidable.not_not.1 (by assumption))]; exact hacck), by first | (rw [FL_y (by assumption)]; done) | (rw [FL_n (Decidable.not_not.1 (by assumption))]; done)⟩) (by repeat (first | exact List.Sublist.refl _ | apply List.Sublist.cons_cons | apply List.Sublist.cons)) (hle1)
     ·obtain rfl : k = w.J.toNat := by omega
      refine XC.exit ?_; refine seqX_exit ?_; refine loopX_exit ?_; refine blockHit rfl ?_; refine XC.seq2 ?_; refine XC.seq ?_; refine XC.region ?_; refine XO.publishA 0 rfl hacck rfl (fun HQ hleQ hsQ => ?_); replace hB := hB.mono hleQ; replace hO := hO.mono hleQ; replace hA := hA.mono hleQ; replace hle0 := hle0.trans hleQ; replace hle1 := hle1.trans hleQ; refine XO.publish 0 rfl rfl rfl (fun HK49 oK49 hleK49 hbK49 hoK49 => ?_)
      have hpK49 := PtH.of_is hbK49 hoK49
      replace hB := hB.mono hleK49; replace hO := hO.mono hleK49; replace hA := hA.mono hleK49; replace hsQ := hsQ.mono hleK49; replace hle0 := hle0.trans hleK49; replace hle1 := hle1.trans hleK49; refine XO.move rfl rfl ?_; refine XO.assign rfl rfl ?_; refine XO.assign rfl rfl ?_; refine XO.nil ?_; refine XC.seq2 ?_; refine XC.ret ?_; refine ⟨rfl, _, [], rfl, (by repeat (first | exact List.Sublist.refl _ | apply List.Sublist.cons)), RetR.mk ?_⟩
      first | exact OpenU.no (err_300 hck (ris_n hF hx23 (by omega))) (by decide) | exact OpenU.no (err_2 hck hF (by omega)) (by decide) | exact ⟨_, by rw [err_0 hck hF (by omega)]; rfl, fun _ => ⟨b49, rfl, _, _, _, _, _, _, _, _, _, hpK49, hB, hO, hsQ⟩⟩
   ·have g7p := of_decide_eq_true g7
    refine XO.guardF rfl rfl (g7) rfl rfl ?_; refine XO.guardF rfl rfl (g7) rfl rfl ?_; refine XO.pickT rfl (g7) rfl rfl ?_; refine XO.nil ?_; refine XC.seq2 ?_; refine XC.condT rfl (rfl) ?_; refine XC.seq ?_; refine XC.region ?_; refine XO.assign rfl rfl ?_; refine XO.assign rfl rfl ?_; refine XO.nil ?_; refine XC.seq2 ?_; refine XC.ret ?_; refine seqX_ret ?_; refine ⟨rfl, _, [], rfl, (by repeat (first | exact List.Sublist.refl _ | apply List.Sublist.cons)), RetR.mk ?_⟩
    first | exact OpenU.no (err_300 hck (ris_n hF hx23 (by omega))) (by decide) | exact OpenU.no (err_2 hck hF (by omega)) (by decide) | exact ⟨_, by rw [err_0 hck hF (by omega)]; rfl, fun _ => ⟨b49, rfl, _, _, _, _, _, _, _, _, _, hpK49, hB, hO, hsQ⟩⟩

theorem rerror_fn (w : Wi) (old : Ls) (ab : List Int) (aB a aA : Option Addr) (cB c cA : Nat) (H : Hp) (hB : SlR tbR H aB cB w.B) (hO : SlR ilR H a c old) (hA : SlR (intR .i64) H aA cA ab) (hBl : w.B.length < 9223372036854775808) (hl : old.length < 9223372036854775808) (hw : ∀ x ∈ old, x.length < 9223372036854775808) (hal : ab.length < 9223372036854775808) : FnC Try.prog 29 #[.agg ⟨[.int .i64 w.J, .int .i64 w.S, .int .i64 w.N, .slice aB w.B.length cB]⟩, .slice a old.length c, .slice aA ab.length cA] H [] (RetR (fun v _ _ => v = .int .i64 (errE w old ab))) := by
 refine FnC.intro (args := [.agg ⟨[.int .i64 w.J, .int .i64 w.S, .int .i64 w.N, .slice aB w.B.length cB]⟩, .slice a old.length c, .slice aA ab.length cA]) Try.func29 rfl rfl Try.ntmps29 rfl rfl rfl fun G rest => ?_
 refine XC.seq ?_; refine XC.region ?_; refine XO.box rfl rfl rfl (fun b3 => ?_); refine XO.assign rfl rfl ?_; refine XO.nil ?_; refine XC.seq2 ?_; refine XC.seq ?_; refine XC.region ?_; refine XO.loadO 0 rfl rfl ty_24 rfl rfl rfl ?_; refine XO.move rfl rfl ?_; refine XO.callV rfl (rcheck_fn w _ _ _ _ old _ hO hl hw hB hBl) rfl ?_; refine XO.assign rfl rfl ?_; refine XO.nil ?_; refine XC.seq2 ?_; refine XC.seq ?_; refine XC.seq ?_; refine XC.region ?_; refine XO.move rfl rfl ?_; refine XO.neq rfl rfl rfl ?_; refine XO.nil ?_; refine XC.seq2 ?_; refine XC.cond rfl (fun c0_2 => ?_) (fun c0_2 => ?_)
 ·refine XC.seq ?_; refine XC.region ?_; refine XO.move rfl rfl ?_; refine XO.assign rfl rfl ?_; refine XO.nil ?_; refine XC.seq2 ?_; refine XC.ret ?_; refine seqX_ret ?_; refine ⟨rfl, _, [], rfl, (by repeat (first | exact List.Sublist.refl _ | apply List.Sublist.cons)), RetR.mk ?_⟩
  exact congrArg (Value.int .i64) (err_chk (by assumption)).symm
 ·have hck : chkD w old = 0 := by omega
  refine XC.skip ?_; refine XC.seq2 ?_; refine XC.seq ?_; refine XC.seq ?_; refine XC.region ?_; refine XO.assign rfl rfl ?_; refine XO.nil ?_; refine XC.seq2 ?_; refine XC.block ?_; refine XC.keep [8, 2, 3] rfl ?_; refine XC.loop (base := [(2, _), (3, _)]) (fun ζ : Nat × (Int) => [(8, .int .i64 (ζ.1 : Nat))]) (fun ζ Hl own => ζ.1 ≤ ab.length ∧ (b3, .cells 24 [.int .i64 w.J, .int .i64 w.S, .int .i64 w.N, .slice aB w.B.length cB]) :: rest = own ∧ (fitB w.J [] (-1) ab = fitB w.J [] ζ.2 (ab.drop (ζ.1))) ∧ (-1 ≤ ζ.2) ∧ (ζ.2 = if ζ.1 = 0 then -1 else ab.getD (ζ.1 - 1) 0)) (fun ζ => ab.length - ζ.1) (0, -1) (prov_cons (rfl) (prov_cons (rfl) (prov_cons (rfl) prov_nil))) (by repeat (first | exact List.Sublist.refl _ | apply List.Sublist.cons_cons | apply List.Sublist.cons)) ⟨Nat.zero_le _, rfl, rfl, by decide, rfl⟩ ?_; rintro ⟨k, last⟩ Hl0 _ hle0 ⟨hkk, rfl, hF, hla, hL⟩; replace hB := hB.mono hle0; replace hO := hO.mono hle0; replace hA := hA.mono hle0
  try dsimp only at hkk hF hla hL ⊢
  refine XC.seq ?_; refine XC.seq ?_; refine XC.region ?_; refine XO.move rfl rfl ?_; refine XO.move rfl rfl ?_; refine XO.lenS (ts := #[]) rfl Try.underlying26 rfl ?_; refine XO.lss rfl rfl rfl ?_; refine XO.nil ?_; refine XC.seq2 ?_; refine XC.cond rfl (fun c1_3 => ?_) (fun c1_3 => ?_)
  ·obtain ⟨xX, hxX⟩ : ∃ x, ab[k]? = some x := ⟨_, List.getElem?_eq_getElem (by omega)⟩
   obtain ⟨xP, hxP⟩ : ∃ x, ab[k - 1]? = some x := ⟨_, List.getElem?_eq_getElem (by omega)⟩
   refine XC.skip ?_; refine XC.seq2 ?_; refine XC.seq ?_; refine XC.block ?_; refine XC.seq ?_
   by_cases h5 : xX < 0
   ·skip
    refine XC.keep [2, 3, 8] rfl ?_
    skip
    obtain ⟨bEY, oEY, rfl⟩ := hA.addr (by omega); obtain ⟨_, xY, hxY, rfl, hpY⟩ := hA.elem (k) (by omega); obtain rfl := Option.some.inj (hxX.symm.trans hxY)
    apply XC.drawH (fun _ => True) trivial [] (by decide) (fun _ _ _ _ => True) (fun _ _ _ _ _ _ h => h) 27 [eqF _, eqF _, eqF _, eqF _, eqF _, eqF _, eqF _, eqF _, eqF _, eqF _, eqF _, eqF _, eqF _, eqF _, eqF _, eqF _, eqF _, eqF _, eqF _, eqF _, eqF _, eqF _, eqF _, eqF _, eqF _, eqF _, eqF _] follows (by kernel_rfl) ⟨eqF_mono _, eqF_mono _, eqF_mono _, eqF_mono _, eqF_mono _, eqF_mono _, eqF_mono _, eqF_mono _, eqF_mono _, eqF_mono _, eqF_mono _, eqF_mono _, eqF_mono _, eqF_mono _, eqF_mono _, eqF_mono _, eqF_mono _, eqF_mono _, eqF_mono _, eqF_mono _, eqF_mono _, eqF_mono _, eqF_mono _, eqF_mono _, eqF_mono _, eqF_mono _, eqF_mono _, trivial⟩ (by decide) ?steps4 ?tail4
    case steps4 =>
     refine stepsH_cons rfl ?_ ?_
     ·intro X ext HD hleD _
      replace hB := hB.mono hleD; replace hO := hO.mono hleD; replace hA := hA.mono hleD; replace hpY := hpY.mono hleD; replace hle0 := hle0.trans hleD; refine withP_nil rfl ?_; refine XO.move rfl rfl ?_; refine XO.nil ?_; exact stepQN_ok rfl trivial (rfl)
     refine stepsH_cons rfl ?_ ?_
     ·intro X ext HD hleD _
      replace hB := hB.mono hleD; replace hO := hO.mono hleD; replace hA := hA.mono hleD; replace hpY := hpY.mono hleD; replace hle0 := hle0.trans hleD; refine withP_nil rfl ?_; refine XO.move rfl rfl ?_; refine XO.nil ?_; exact stepQN_ok rfl trivial (rfl)
     refine stepsH_cons rfl ?_ ?_
     ·intro X ext HD hleD _
      replace hB := hB.mono hleD; replace hO := hO.mono hleD; replace hA := hA.mono hleD; replace hpY := hpY.mono hleD; replace hle0 := hle0.trans hleD; refine withP_cons rfl rfl ?_; rintro _ rfl; refine withP_cons rfl rfl ?_; rintro _ rfl; refine withP_nil rfl ?_; refine XO.indexE rfl rfl Try.underlying26 ty_3 (by omega) (by omega) rfl ?_; refine XO.nil ?_; exact stepQN_ok rfl trivial (rfl)
     refine stepsH_cons rfl ?_ ?_
     ·intro X ext HD hleD _
      replace hB := hB.mono hleD; replace hO := hO.mono hleD; replace hA := hA.mono hleD; replace hpY := hpY.mono hleD; replace hle0 := hle0.trans hleD; refine withP_cons rfl rfl ?_; rintro _ rfl; refine withP_nil rfl ?_; refine XO.loadH rfl (by assumption) ty_3 rfl rfl rfl ?_; refine XO.nil ?_; exact stepQN_ok rfl trivial (rfl)
     refine stepsH_cons rfl ?_ ?_
     ·intro X ext HD hleD _
      replace hB := hB.mono hleD; replace hO := hO.mono hleD; replace hA := hA.mono hleD; replace hpY := hpY.mono hleD; replace hle0 := hle0.trans hleD; refine withP_cons rfl rfl ?_; rintro _ rfl; refine withP_nil rfl ?_; refine XO.lss rfl rfl rfl ?_; refine XO.nil ?_; exact stepQN_ok rfl trivial (rfl)
     refine stepsH_cons rfl ?_ ?_
     ·intro X ext HD hleD _
      replace hB := hB.mono hleD; replace hO := hO.mono hleD; replace hA := hA.mono hleD; replace hpY := hpY.mono hleD; replace hle0 := hle0.trans hleD; refine withP_cons rfl rfl ?_; rintro _ rfl; refine withP_nil rfl ?_; refine XO.move rfl rfl ?_; refine XO.nil ?_; exact stepQN_ok rfl trivial (rfl)
     refine stepsH_cons rfl ?_ ?_
     ·intro X ext HD hleD _
      replace hB := hB.mono hleD; replace hO := hO.mono hleD; replace hA := hA.mono hleD; replace hpY := hpY.mono hleD; replace hle0 := hle0.trans hleD; refine withP_cons rfl rfl ?_; rintro _ rfl; refine withP_nil rfl ?_; refine XO.guardF rfl rfl (decide_eq_true h5) rfl rfl ?_; refine XO.nil ?_; exact stepQN_ok rfl trivial (rfl)
     refine stepsH_cons rfl ?_ ?_
     ·intro X ext HD hleD _
      replace hB := hB.mono hleD; replace hO := hO.mono hleD; replace hA := hA.mono hleD; replace hpY := hpY.mono hleD; replace hle0 := hle0.trans hleD; refine withP_cons rfl rfl ?_; rintro _ rfl; refine withP_nil rfl ?_; refine XO.guardF rfl rfl (decide_eq_true h5) rfl rfl ?_; refine XO.nil ?_; exact stepQN_ok rfl trivial (rfl)
     refine stepsH_cons rfl ?_ ?_
     ·intro X ext HD hleD _
      replace hB := hB.mono hleD; replace hO := hO.mono hleD; replace hA := hA.mono hleD; replace hpY := hpY.mono hleD; replace hle0 := hle0.trans hleD; refine withP_cons rfl rfl ?_; rintro _ rfl; refine withP_cons rfl rfl ?_; rintro _ rfl; refine withP_cons rfl rfl ?_; rintro _ rfl; refine withP_nil rfl ?_; refine XO.guardF rfl rfl (decide_eq_true h5) rfl rfl ?_; refine XO.nil ?_; exact stepQN_ok rfl trivial (rfl)
     refine stepsH_cons rfl ?_ ?_
     ·intro X ext HD hleD _
      replace hB := hB.mono hleD; replace hO := hO.mono hleD; replace hA := hA.mono hleD; replace hpY := hpY.mono hleD; replace hle0 := hle0.trans hleD; refine withP_cons rfl rfl ?_; rintro _ rfl; refine withP_cons rfl rfl ?_; rintro _ rfl; refine withP_nil rfl ?_; refine XO.guardF rfl rfl (decide_eq_true h5) rfl rfl ?_; refine XO.nil ?_; exact stepQN_ok rfl trivial (rfl)
     refine stepsH_cons rfl ?_ ?_
     ·intro X ext HD hleD _
      replace hB := hB.mono hleD; replace hO := hO.mono hleD; replace hA := hA.mono hleD; replace hpY := hpY.mono hleD; replace hle0 := hle0.trans hleD; refine withP_cons rfl rfl ?_; rintro _ rfl; refine withP_nil rfl ?_; refine XO.guardF rfl rfl (decide_eq_true h5) rfl rfl ?_; refine XO.nil ?_; exact stepQN_ok rfl trivial (rfl)
     refine stepsH_cons rfl ?_ ?_
     ·intro X ext HD hleD _
      replace hB := hB.mono hleD; replace hO := hO.mono hleD; replace hA := hA.mono hleD; replace hpY := hpY.mono hleD; replace hle0 := hle0.trans hleD; refine withP_cons rfl rfl ?_; rintro _ rfl; refine withP_cons rfl rfl ?_; rintro _ rfl; refine withP_nil rfl ?_; refine XO.guardF rfl rfl (decide_eq_true h5) rfl rfl ?_; refine XO.nil ?_; exact stepQN_ok rfl trivial (rfl)
     refine stepsH_cons rfl ?_ ?_
     ·intro X ext HD hleD _
      replace hB := hB.mono hleD; replace hO := hO.mono hleD; replace hA := hA.mono hleD; replace hpY := hpY.mono hleD; replace hle0 := hle0.trans hleD; refine withP_cons rfl rfl ?_; rintro _ rfl; refine withP_cons rfl rfl ?_; rintro _ rfl; refine withP_cons rfl rfl ?_; rintro _ rfl; refine withP_nil rfl ?_; refine XO.guardF rfl rfl (decide_eq_true h5) rfl rfl ?_; refine XO.nil ?_; exact stepQN_ok rfl trivial (rfl)
     refine stepsH_cons rfl ?_ ?_
     ·intro X ext HD hleD _
      replace hB := hB.mono hleD; replace hO := hO.mono hleD; replace hA := hA.mono hleD; replace hpY := hpY.mono hleD; replace hle0 := hle0.trans hleD; refine withP_cons rfl rfl ?_; rintro _ rfl; refine withP_cons rfl rfl ?_; rintro _ rfl; refine withP_nil rfl ?_; refine XO.pickT rfl (decide_eq_true h5) rfl rfl ?_; refine XO.nil ?_; exact stepQN_ok rfl trivial (rfl)
     refine stepsH_cons rfl ?_ ?_
     ·intro X ext HD hleD _
      replace hB := hB.mono hleD; replace hO := hO.mono hleD; replace hA := hA.mono hleD; replace hpY := hpY.mono hleD; replace hle0 := hle0.trans hleD; refine withP_cons rfl rfl ?_; rintro _ rfl; refine withP_nil rfl ?_; refine XO.move rfl rfl ?_; refine XO.nil ?_; exact stepQN_ok rfl trivial (rfl)
     refine stepsH_cons rfl ?_ ?_
     ·intro X ext HD hleD _
      replace hB := hB.mono hleD; replace hO := hO.mono hleD; replace hA := hA.mono hleD; replace hpY := hpY.mono hleD; replace hle0 := hle0.trans hleD; refine withP_cons rfl rfl ?_; rintro _ rfl; refine withP_nil rfl ?_; refine XO.guardF rfl rfl (rfl) rfl rfl ?_; refine XO.nil ?_; exact stepQN_ok rfl trivial (rfl)
     refine stepsH_cons rfl ?_ ?_
     ·intro X ext HD hleD _
      replace hB := hB.mono hleD; replace hO := hO.mono hleD; replace hA := hA.mono hleD; replace hpY := hpY.mono hleD; replace hle0 := hle0.trans hleD; refine withP_cons rfl rfl ?_; rintro _ rfl; refine withP_cons rfl rfl ?_; rintro _ rfl; refine withP_nil rfl ?_; refine XO.guardF rfl rfl (rfl) rfl rfl ?_; refine XO.nil ?_; exact stepQN_ok rfl trivial (rfl)
     refine stepsH_cons rfl ?_ ?_
     ·intro X ext HD hleD _
      replace hB := hB.mono hleD; replace hO := hO.mono hleD; replace hA := hA.mono hleD; replace hpY := hpY.mono hleD; replace hle0 := hle0.trans hleD; refine withP_cons rfl rfl ?_; rintro _ rfl; refine withP_cons rfl rfl ?_; rintro _ rfl; refine withP_nil rfl ?_; refine XO.guardF rfl rfl (rfl) rfl rfl ?_; refine XO.nil ?_; exact stepQN_ok rfl trivial (rfl)
     refine stepsH_cons rfl ?_ ?_
     ·intro X ext HD hleD _
      replace hB := hB.mono hleD; replace hO := hO.mono hleD; replace hA := hA.mono hleD; replace hpY := hpY.mono hleD; replace hle0 := hle0.trans hleD; refine withP_cons rfl rfl ?_; rintro _ rfl; refine withP_nil rfl ?_; refine XO.guardU rfl rfl rfl rfl ?_; refine XO.nil ?_; exact stepQN_ok rfl trivial (rfl)
     refine stepsH_cons rfl ?_ ?_
     ·intro X ext HD hleD _
      replace hB := hB.mono hleD; replace hO := hO.mono hleD; replace hA := hA.mono hleD; replace hpY := hpY.mono hleD; replace hle0 := hle0.trans hleD; refine withP_cons rfl rfl ?_; rintro _ rfl; refine withP_nil rfl ?_; refine XO.guardU rfl rfl rfl rfl ?_; refine XO.nil ?_; exact stepQN_ok rfl trivial (rfl)
     refine stepsH_cons rfl ?_ ?_
     ·intro X ext HD hleD _
      replace hB := hB.mono hleD; replace hO := hO.mono hleD; replace hA := hA.mono hleD; replace hpY := hpY.mono hleD; replace hle0 := hle0.trans hleD; refine withP_cons rfl rfl ?_; rintro _ rfl; refine withP_cons rfl rfl ?_; rintro _ rfl; refine withP_nil rfl ?_; refine XO.guardU rfl rfl rfl rfl ?_; refine XO.nil ?_; exact stepQN_ok rfl trivial (rfl)
     refine stepsH_cons rfl ?_ ?_
     ·intro X ext HD hleD _
      replace hB := hB.mono hleD; replace hO := hO.mono hleD; replace hA := hA.mono hleD; replace hpY := hpY.mono hleD; replace hle0 := hle0.trans hleD; refine withP_cons rfl rfl ?_; rintro _ rfl; refine withP_cons rfl rfl ?_; rintro _ rfl; refine withP_cons rfl rfl ?_; rintro _ rfl; refine withP_nil rfl ?_; refine XO.guardU rfl rfl rfl rfl ?_; refine XO.nil ?_; exact stepQN_ok rfl trivial (rfl)
     refine stepsH_cons rfl ?_ ?_
     ·intro X ext HD hleD _
      replace hB := hB.mono hleD; replace hO := hO.mono hleD; replace hA := hA.mono hleD; replace hpY := hpY.mono hleD; replace hle0 := hle0.trans hleD; refine withP_cons rfl rfl ?_; rintro _ rfl; refine withP_cons rfl rfl ?_; rintro _ rfl; refine withP_nil rfl ?_; refine XO.guardU rfl rfl rfl rfl ?_; refine XO.nil ?_; exact stepQN_ok rfl trivial (rfl)
     refine stepsH_cons rfl ?_ ?_
     ·intro X ext HD hleD _
      replace hB := hB.mono hleD; replace hO := hO.mono hleD; replace hA := hA.mono hleD; replace hpY := hpY.mono hleD; replace hle0 := hle0.trans hleD; refine withP_cons rfl rfl ?_; rintro _ rfl; refine withP_nil rfl ?_; refine XO.guardU rfl rfl rfl rfl ?_; refine XO.nil ?_; exact stepQN_ok rfl trivial (rfl)
     refine stepsH_cons rfl ?_ ?_
     ·intro X ext HD hleD _
      replace hB := hB.mono hleD; replace hO := hO.mono hleD; replace hA := hA.mono hleD; replace hpY := hpY.mono hleD; replace hle0 := hle0.trans hleD; refine withP_cons rfl rfl ?_; rintro _ rfl; refine withP_nil rfl ?_; refine XO.guardU rfl rfl rfl rfl ?_; refine XO.nil ?_; exact stepQN_ok rfl trivial (rfl)
     refine stepsH_cons rfl ?_ ?_
     ·intro X ext HD hleD _
      replace hB := hB.mono hleD; replace hO := hO.mono hleD; replace hA := hA.mono hleD; replace hpY := hpY.mono hleD; replace hle0 := hle0.trans hleD; refine withP_cons rfl rfl ?_; rintro _ rfl; refine withP_cons rfl rfl ?_; rintro _ rfl; refine withP_cons rfl rfl ?_; rintro _ rfl; refine withP_nil rfl ?_; refine XO.guardU rfl rfl rfl rfl ?_; refine XO.nil ?_; exact stepQN_ok rfl trivial (rfl)
     refine stepsH_cons rfl ?_ ?_
     ·intro X ext HD hleD _
      replace hB := hB.mono hleD; replace hO := hO.mono hleD; replace hA := hA.mono hleD; replace hpY := hpY.mono hleD; replace hle0 := hle0.trans hleD; refine withP_cons rfl rfl ?_; rintro _ rfl; refine withP_cons rfl rfl ?_; rintro _ rfl; refine withP_nil rfl ?_; refine XO.guardU rfl rfl rfl rfl ?_; refine XO.nil ?_; exact stepQN_ok rfl trivial (rfl)
     exact stepsH_end rfl
    case tail4 =>
     intro HD hleD _
     replace hB := hB.mono hleD; replace hO := hO.mono hleD; replace hA := hA.mono hleD; replace hpY := hpY.mono hleD; replace hle0 := hle0.trans hleD; refine withP_cons rfl rfl ?_; rintro _ rfl; refine withP_cons rfl rfl ?_; rintro _ rfl; refine withP_cons rfl rfl ?_; rintro _ rfl; refine withP_cons rfl rfl ?_; rintro _ rfl; refine withP_cons rfl rfl ?_; rintro _ rfl; refine withP_cons rfl rfl ?_; rintro _ rfl; refine withP_cons rfl rfl ?_; rintro _ rfl; refine withP_cons rfl rfl ?_; rintro _ rfl; refine withP_cons rfl rfl ?_; rintro _ rfl; refine withP_cons rfl rfl ?_; rintro _ rfl; refine withP_cons rfl rfl ?_; rintro _ rfl; refine withP_cons rfl rfl ?_; rintro _ rfl; refine withP_cons rfl rfl ?_; rintro _ rfl; refine withP_cons rfl rfl ?_; rintro _ rfl; refine withP_cons rfl rfl ?_; rintro _ rfl; refine withP_cons rfl rfl ?_; rintro _ rfl; refine withP_cons rfl rfl ?_; rintro _ rfl; refine withP_cons rfl rfl ?_; rintro _ rfl; refine withP_cons rfl rfl ?_; rintro _ rfl; refine withP_cons rfl rfl ?_; rintro _ rfl; refine withP_cons rfl rfl ?_; rintro _ rfl; refine withP_cons rfl rfl ?_; rintro _ rfl; refine withP_cons rfl rfl ?_; rintro _ rfl; refine withP_cons rfl rfl ?_; rintro _ rfl; refine withP_cons rfl rfl ?_; rintro _ rfl; refine withP_cons rfl rfl ?_; rintro _ rfl; refine withP_cons rfl rfl ?_; rintro _ rfl; refine withP_nil rfl ?_; refine withEnts_nil ?_; refine XO.guardU rfl rfl rfl rfl ?_; refine XO.guardF rfl rfl (rfl) rfl rfl ?_; refine XO.pickT rfl (rfl) rfl rfl ?_; refine XO.nil ?_; refine XC.seq2 ?_; refine XC.condT rfl (rfl) ?_; refine XC.seq ?_; refine XC.region ?_; refine XO.assign rfl rfl ?_; refine XO.nil ?_; refine XC.seq2 ?_; refine XC.ret ?_; refine blockR ?_; refine seqX_ret ?_; refine loopX_ret ?_; refine blockR ?_; refine seqX_ret ?_; refine ⟨rfl, _, [], rfl, (by repeat (first | exact List.Sublist.refl _ | apply List.Sublist.cons)), RetR.mk ?_⟩
     first | exact congrArg (Value.int .i64) (err_300 hck (ris_n hF hxX (fun h3 => by first | omega | (have h4 := gt_last hL hxP h3.1; omega)))).symm | exact congrArg (Value.int .i64) (err_2 hck hF (by omega)).symm | exact congrArg (Value.int .i64) (err_0 hck hF (by omega)).symm
   ·skip
    by_cases h14 : xX ≥ w.J
    ·skip
     refine XC.keep [2, 3, 8] rfl ?_
     skip
     obtain ⟨bEY, oEY, rfl⟩ := hA.addr (by omega); obtain ⟨_, xY, hxY, rfl, hpY⟩ := hA.elem (k) (by omega); obtain rfl := Option.some.inj (hxX.symm.trans hxY)
     apply XC.drawH (fun _ => True) trivial [] (by decide) (fun _ _ _ _ => True) (fun _ _ _ _ _ _ h => h) 27 [eqF _, eqF _, eqF _, eqF _, eqF _, eqF _, eqF _, eqF _, eqF _, eqF _, eqF _, eqF _, eqF _, eqF _, eqF _, eqF _, eqF _, eqF _, eqF _, eqF _, eqF _, eqF _, eqF _, eqF _, eqF _, eqF _, eqF _] follows (by kernel_rfl) ⟨eqF_mono _, eqF_mono _, eqF_mono _, eqF_mono _, eqF_mono _, eqF_mono _, eqF_mono _, eqF_mono _, eqF_mono _, eqF_mono _, eqF_mono _, eqF_mono _, eqF_mono _, eqF_mono _, eqF_mono _, eqF_mono _, eqF_mono _, eqF_mono _, eqF_mono _, eqF_mono _, eqF_mono _, eqF_mono _, eqF_mono _, eqF_mono _, eqF_mono _, eqF_mono _, eqF_mono _, trivial⟩ (by decide) ?steps6 ?tail6
     case steps6 =>
      refine stepsH_cons rfl ?_ ?_
      ·intro X ext HD hleD _
       replace hB := hB.mono hleD; replace hO := hO.mono hleD; replace hA := hA.mono hleD; replace hpY := hpY.mono hleD; replace hle0 := hle0.trans hleD; refine withP_nil rfl ?_; refine XO.move rfl rfl ?_; refine XO.nil ?_; exact stepQN_ok rfl trivial (rfl)
      refine stepsH_cons rfl ?_ ?_
      ·intro X ext HD hleD _
       replace hB := hB.mono hleD; replace hO := hO.mono hleD; replace hA := hA.mono hleD; replace hpY := hpY.mono hleD; replace hle0 := hle0.trans hleD; refine withP_nil rfl ?_; refine XO.move rfl rfl ?_; refine XO.nil ?_; exact stepQN_ok rfl trivial (rfl)
      refine stepsH_cons rfl ?_ ?_
      ·intro X ext HD hleD _
       replace hB := hB.mono hleD; replace hO := hO.mono hleD; replace hA := hA.mono hleD; replace hpY := hpY.mono hleD; replace hle0 := hle0.trans hleD; refine withP_cons rfl rfl ?_; rintro _ rfl; refine withP_cons rfl rfl ?_; rintro _ rfl; refine withP_nil rfl ?_; refine XO.indexE rfl rfl Try.underlying26 ty_3 (by omega) (by omega) rfl ?_; refine XO.nil ?_; exact stepQN_ok rfl trivial (rfl)
      refine stepsH_cons rfl ?_ ?_
      ·intro X ext HD hleD _
       replace hB := hB.mono hleD; replace hO := hO.mono hleD; replace hA := hA.mono hleD; replace hpY := hpY.mono hleD; replace hle0 := hle0.trans hleD; refine withP_cons rfl rfl ?_; rintro _ rfl; refine withP_nil rfl ?_; refine XO.loadH rfl (by assumption) ty_3 rfl rfl rfl ?_; refine XO.nil ?_; exact stepQN_ok rfl trivial (rfl)
      refine stepsH_cons rfl ?_ ?_
      ·intro X ext HD hleD _
       replace hB := hB.mono hleD; replace hO := hO.mono hleD; replace hA := hA.mono hleD; replace hpY := hpY.mono hleD; replace hle0 := hle0.trans hleD; refine withP_cons rfl rfl ?_; rintro _ rfl; refine withP_nil rfl ?_; refine XO.lss rfl rfl rfl ?_; refine XO.nil ?_; exact stepQN_ok rfl trivial (rfl)
      refine stepsH_cons rfl ?_ ?_
      ·intro X ext HD hleD _
       replace hB := hB.mono hleD; replace hO := hO.mono hleD; replace hA := hA.mono hleD; replace hpY := hpY.mono hleD; replace hle0 := hle0.trans hleD; refine withP_cons rfl rfl ?_; rintro _ rfl; refine withP_nil rfl ?_; refine XO.move rfl rfl ?_; refine XO.nil ?_; exact stepQN_ok rfl trivial (rfl)
      refine stepsH_cons rfl ?_ ?_
      ·intro X ext HD hleD _
       replace hB := hB.mono hleD; replace hO := hO.mono hleD; replace hA := hA.mono hleD; replace hpY := hpY.mono hleD; replace hle0 := hle0.trans hleD; refine withP_cons rfl rfl ?_; rintro _ rfl; refine withP_nil rfl ?_; refine XO.guardT rfl rfl (decide_eq_false h5) rfl ?_; refine XO.move rfl rfl ?_; refine XO.nil ?_; exact stepQN_ok rfl trivial (rfl)
      refine stepsH_cons rfl ?_ ?_
      ·intro X ext HD hleD _
       replace hB := hB.mono hleD; replace hO := hO.mono hleD; replace hA := hA.mono hleD; replace hpY := hpY.mono hleD; replace hle0 := hle0.trans hleD; refine withP_cons rfl rfl ?_; rintro _ rfl; refine withP_nil rfl ?_; refine XO.guardT rfl rfl (decide_eq_false h5) rfl ?_; refine XO.move rfl rfl ?_; refine XO.nil ?_; exact stepQN_ok rfl trivial (rfl)
      refine stepsH_cons rfl ?_ ?_
      ·intro X ext HD hleD _
       replace hB := hB.mono hleD; replace hO := hO.mono hleD; replace hA := hA.mono hleD; replace hpY := hpY.mono hleD; replace hle0 := hle0.trans hleD; refine withP_cons rfl rfl ?_; rintro _ rfl; refine withP_cons rfl rfl ?_; rintro _ rfl; refine withP_cons rfl rfl ?_; rintro _ rfl; refine withP_nil rfl ?_; refine XO.guardT rfl rfl (decide_eq_false h5) rfl ?_; refine XO.indexE rfl rfl Try.underlying26 ty_3 (by omega) (by omega) rfl ?_; refine XO.nil ?_; exact stepQN_ok rfl trivial (rfl)
      refine stepsH_cons rfl ?_ ?_
      ·intro X ext HD hleD _
       replace hB := hB.mono hleD; replace hO := hO.mono hleD; replace hA := hA.mono hleD; replace hpY := hpY.mono hleD; replace hle0 := hle0.trans hleD; refine withP_cons rfl rfl ?_; rintro _ rfl; refine withP_cons rfl rfl ?_; rintro _ rfl; refine withP_nil rfl ?_; refine XO.guardT rfl rfl (decide_eq_false h5) rfl ?_; refine XO.loadH rfl (by assumption) ty_3 rfl rfl rfl ?_; refine XO.nil ?_; exact stepQN_ok rfl trivial (rfl)
      refine stepsH_cons rfl ?_ ?_
      ·intro X ext HD hleD _
       replace hB := hB.mono hleD; replace hO := hO.mono hleD; replace hA := hA.mono hleD; replace hpY := hpY.mono hleD; replace hle0 := hle0.trans hleD; refine withP_cons rfl rfl ?_; rintro _ rfl; refine withP_nil rfl ?_; refine XO.guardT rfl rfl (decide_eq_false h5) rfl ?_; refine XO.fieldAddr rfl fa_24_0 rfl ?_; refine XO.nil ?_; exact stepQN_ok rfl trivial (rfl)
      refine stepsH_cons rfl ?_ ?_
      ·intro X ext HD hleD _
       replace hB := hB.mono hleD; replace hO := hO.mono hleD; replace hA := hA.mono hleD; replace hpY := hpY.mono hleD; replace hle0 := hle0.trans hleD; refine withP_cons rfl rfl ?_; rintro _ rfl; refine withP_cons rfl rfl ?_; rintro _ rfl; refine withP_nil rfl ?_; refine XO.guardT rfl rfl (decide_eq_false h5) rfl ?_; refine XO.loadO 0 rfl rfl ty_3 rfl rfl rfl ?_; refine XO.nil ?_; exact stepQN_ok rfl trivial (rfl)
      refine stepsH_cons rfl ?_ ?_
      ·intro X ext HD hleD _
       replace hB := hB.mono hleD; replace hO := hO.mono hleD; replace hA := hA.mono hleD; replace hpY := hpY.mono hleD; replace hle0 := hle0.trans hleD; refine withP_cons rfl rfl ?_; rintro _ rfl; refine withP_cons rfl rfl ?_; rintro _ rfl; refine withP_cons rfl rfl ?_; rintro _ rfl; refine withP_nil rfl ?_; refine XO.guardT rfl rfl (decide_eq_false h5) rfl ?_; refine XO.geq rfl rfl rfl ?_; refine XO.nil ?_; exact stepQN_ok rfl trivial (rfl)
      refine stepsH_cons rfl ?_ ?_
      ·intro X ext HD hleD _
       replace hB := hB.mono hleD; replace hO := hO.mono hleD; replace hA := hA.mono hleD; replace hpY := hpY.mono hleD; replace hle0 := hle0.trans hleD; refine withP_cons rfl rfl ?_; rintro _ rfl; refine withP_cons rfl rfl ?_; rintro _ rfl; refine withP_nil rfl ?_; refine XO.pickF rfl (decide_eq_false h5) rfl rfl ?_; refine XO.nil ?_; exact stepQN_ok rfl trivial (rfl)
      refine stepsH_cons rfl ?_ ?_
      ·intro X ext HD hleD _
       replace hB := hB.mono hleD; replace hO := hO.mono hleD; replace hA := hA.mono hleD; replace hpY := hpY.mono hleD; replace hle0 := hle0.trans hleD; refine withP_cons rfl rfl ?_; rintro _ rfl; refine withP_nil rfl ?_; refine XO.move rfl rfl ?_; refine XO.nil ?_; exact stepQN_ok rfl trivial (rfl)
      refine stepsH_cons rfl ?_ ?_
      ·intro X ext HD hleD _
       replace hB := hB.mono hleD; replace hO := hO.mono hleD; replace hA := hA.mono hleD; replace hpY := hpY.mono hleD; replace hle0 := hle0.trans hleD; refine withP_cons rfl rfl ?_; rintro _ rfl; refine withP_nil rfl ?_; refine XO.guardF rfl rfl (decide_eq_true h14) rfl rfl ?_; refine XO.nil ?_; exact stepQN_ok rfl trivial (rfl)
      refine stepsH_cons rfl ?_ ?_
      ·intro X ext HD hleD _
       replace hB := hB.mono hleD; replace hO := hO.mono hleD; replace hA := hA.mono hleD; replace hpY := hpY.mono hleD; replace hle0 := hle0.trans hleD; refine withP_cons rfl rfl ?_; rintro _ rfl; refine withP_cons rfl rfl ?_; rintro _ rfl; refine withP_nil rfl ?_; refine XO.guardF rfl rfl (decide_eq_true h14) rfl rfl ?_; refine XO.nil ?_; exact stepQN_ok rfl trivial (rfl)
      refine stepsH_cons rfl ?_ ?_
      ·intro X ext HD hleD _
       replace hB := hB.mono hleD; replace hO := hO.mono hleD; replace hA := hA.mono hleD; replace hpY := hpY.mono hleD; replace hle0 := hle0.trans hleD; refine withP_cons rfl rfl ?_; rintro _ rfl; refine withP_cons rfl rfl ?_; rintro _ rfl; refine withP_nil rfl ?_; refine XO.guardF rfl rfl (decide_eq_true h14) rfl rfl ?_; refine XO.nil ?_; exact stepQN_ok rfl trivial (rfl)
      refine stepsH_cons rfl ?_ ?_
      ·intro X ext HD hleD _
       replace hB := hB.mono hleD; replace hO := hO.mono hleD; replace hA := hA.mono hleD; replace hpY := hpY.mono hleD; replace hle0 := hle0.trans hleD; refine withP_cons rfl rfl ?_; rintro _ rfl; refine withP_nil rfl ?_; refine XO.guardU rfl rfl rfl rfl ?_; refine XO.nil ?_; exact stepQN_ok rfl trivial (rfl)
      refine stepsH_cons rfl ?_ ?_
      ·intro X ext HD hleD _
       replace hB := hB.mono hleD; replace hO := hO.mono hleD; replace hA := hA.mono hleD; replace hpY := hpY.mono hleD; replace hle0 := hle0.trans hleD; refine withP_cons rfl rfl ?_; rintro _ rfl; refine withP_nil rfl ?_; refine XO.guardU rfl rfl rfl rfl ?_; refine XO.nil ?_; exact stepQN_ok rfl trivial (rfl)
      refine stepsH_cons rfl ?_ ?_
      ·intro X ext HD hleD _
       replace hB := hB.mono hleD; replace hO := hO.mono hleD; replace hA := hA.mono hleD; replace hpY := hpY.mono hleD; replace hle0 := hle0.trans hleD; refine withP_cons rfl rfl ?_; rintro _ rfl; refine withP_cons rfl rfl ?_; rintro _ rfl; refine withP_nil rfl ?_; refine XO.guardU rfl rfl rfl rfl ?_; refine XO.nil ?_; exact stepQN_ok rfl trivial (rfl)
      refine stepsH_cons rfl ?_ ?_
      ·intro X ext HD hleD _
       replace hB := hB.mono hleD; replace hO := hO.mono hleD; replace hA := hA.mono hleD; replace hpY := hpY.mono hleD; replace hle0 := hle0.trans hleD; refine withP_cons rfl rfl ?_; rintro _ rfl; refine withP_cons rfl rfl ?_; rintro _ rfl; refine withP_cons rfl rfl ?_; rintro _ rfl; refine withP_nil rfl ?_; refine XO.guardU rfl rfl rfl rfl ?_; refine XO.nil ?_; exact stepQN_ok rfl trivial (rfl)
      refine stepsH_cons rfl ?_ ?_
      ·intro X ext HD hleD _
       replace hB := hB.mono hleD; replace hO := hO.mono hleD; replace hA := hA.mono hleD; replace hpY := hpY.mono hleD; replace hle0 := hle0.trans hleD; refine withP_cons rfl rfl ?_; rintro _ rfl; refine withP_cons rfl rfl ?_; rintro _ rfl; refine withP_nil rfl ?_; refine XO.guardU rfl rfl rfl rfl ?_; refine XO.nil ?_; exact stepQN_ok rfl trivial (rfl)
      refine stepsH_cons rfl ?_ ?_
      ·intro X ext HD hleD _
       replace hB := hB.mono hleD; replace hO := hO.mono hleD; replace hA := hA.mono hleD; replace hpY := hpY.mono hleD; replace hle0 := hle0.trans hleD; refine withP_cons rfl rfl ?_; rintro _ rfl; refine withP_nil rfl ?_; refine XO.guardU rfl rfl rfl rfl ?_; refine XO.nil ?_; exact stepQN_ok rfl trivial (rfl)
      refine stepsH_cons rfl ?_ ?_
      ·intro X ext HD hleD _
       replace hB := hB.mono hleD; replace hO := hO.mono hleD; replace hA := hA.mono hleD; replace hpY := hpY.mono hleD; replace hle0 := hle0.trans hleD; refine withP_cons rfl rfl ?_; rintro _ rfl; refine withP_nil rfl ?_; refine XO.guardU rfl rfl rfl rfl ?_; refine XO.nil ?_; exact stepQN_ok rfl trivial (rfl)
      refine stepsH_cons rfl ?_ ?_
      ·intro X ext HD hleD _
       replace hB := hB.mono hleD; replace hO := hO.mono hleD; replace hA := hA.mono hleD; replace hpY := hpY.mono hleD; replace hle0 := hle0.trans hleD; refine withP_cons rfl rfl ?_; rintro _ rfl; refine withP_cons rfl rfl ?_; rintro _ rfl; refine withP_cons rfl rfl ?_; rintro _ rfl; refine withP_nil rfl ?_; refine XO.guardU rfl rfl rfl rfl ?_; refine XO.nil ?_; exact stepQN_ok rfl trivial (rfl)
      refine stepsH_cons rfl ?_ ?_
      ·intro X ext HD hleD _
       replace hB := hB.mono hleD; replace hO := hO.mono hleD; replace hA := hA.mono hleD; replace hpY := hpY.mono hleD; replace hle0 := hle0.trans hleD; refine withP_cons rfl rfl ?_; rintro _ rfl; refine withP_cons rfl rfl ?_; rintro _ rfl; refine withP_nil rfl ?_; refine XO.guardU rfl rfl rfl rfl ?_; refine XO.nil ?_; exact stepQN_ok rfl trivial (rfl)
      exact stepsH_end rfl
     case tail6 =>
      intro HD hleD _
      replace hB := hB.mono hleD; replace hO := hO.mono hleD; replace hA := hA.mono hleD; replace hpY := hpY.mono hleD; replace hle0 := hle0.trans hleD; refine withP_cons rfl rfl ?_; rintro _ rfl; refine withP_cons rfl rfl ?_; rintro _ rfl; refine withP_cons rfl rfl ?_; rintro _ rfl; refine withP_cons rfl rfl ?_; rintro _ rfl; refine withP_cons rfl rfl ?_; rintro _ rfl; refine withP_cons rfl rfl ?_; rintro _ rfl; refine withP_cons rfl rfl ?_; rintro _ rfl; refine withP_cons rfl rfl ?_; rintro _ rfl; refine withP_cons rfl rfl ?_; rintro _ rfl; refine withP_cons rfl rfl ?_; rintro _ rfl; refine withP_cons rfl rfl ?_; rintro _ rfl; refine withP_cons rfl rfl ?_; rintro _ rfl; refine withP_cons rfl rfl ?_; rintro _ rfl; refine withP_cons rfl rfl ?_; rintro _ rfl; refine withP_cons rfl rfl ?_; rintro _ rfl; refine withP_cons rfl rfl ?_; rintro _ rfl; refine withP_cons rfl rfl ?_; rintro _ rfl; refine withP_cons rfl rfl ?_; rintro _ rfl; refine withP_cons rfl rfl ?_; rintro _ rfl; refine withP_cons rfl rfl ?_; rintro _ rfl; refine withP_cons rfl rfl ?_; rintro _ rfl; refine withP_cons rfl rfl ?_; rintro _ rfl; refine withP_cons rfl rfl ?_; rintro _ rfl; refine withP_cons rfl rfl ?_; rintro _ rfl; refine withP_cons rfl rfl ?_; rintro _ rfl; refine withP_cons rfl rfl ?_; rintro _ rfl; refine withP_cons rfl rfl ?_; rintro _ rfl; refine withP_nil rfl ?_; refine withEnts_nil ?_; refine XO.guardU rfl rfl rfl rfl ?_; refine XO.guardF rfl rfl (decide_eq_true h14) rfl rfl ?_; refine XO.pickT rfl (decide_eq_true h14) rfl rfl ?_; refine XO.nil ?_; refine XC.seq2 ?_; refine XC.condT rfl (rfl) ?_; refine XC.seq ?_; refine XC.region ?_; refine XO.assign rfl rfl ?_; refine XO.nil ?_; refine XC.seq2 ?_; refine XC.ret ?_; refine blockR ?_; refine seqX_ret ?_; refine loopX_ret ?_; refine blockR ?_; refine seqX_ret ?_; refine ⟨rfl, _, [], rfl, (by repeat (first | exact List.Sublist.refl _ | apply List.Sublist.cons)), RetR.mk ?_⟩
      first | exact congrArg (Value.int .i64) (err_300 hck (ris_n hF hxX (fun h3 => by first | omega | (have h4 := gt_last hL hxP h3.1; omega)))).symm | exact congrArg (Value.int .i64) (err_2 hck hF (by omega)).symm | exact congrArg (Value.int .i64) (err_0 hck hF (by omega)).symm
    ·skip
     by_cases h17 : ((k : Nat) : Int) > 0
     ·skip
      refine XC.keep [2, 3, 8] rfl ?_
      skip
      obtain ⟨bEY, oEY, rfl⟩ := hA.addr (by omega); obtain ⟨_, xY, hxY, rfl, hpY⟩ := hA.elem (k) (by omega); obtain ⟨_, xQ, hxQ, rfl, hpQ⟩ := hA.elem (k - 1) (by omega); obtain rfl := Option.some.inj (hxX.symm.trans hxY); obtain rfl := Option.some.inj (hxP.symm.trans hxQ)
      apply XC.drawH (fun _ => True) trivial [] (by decide) (fun _ _ _ _ => True) (fun _ _ _ _ _ _ h => h) 27 [eqF _, eqF _, eqF _, eqF _, eqF _, eqF _, eqF _, eqF _, eqF _, eqF _, eqF _, eqF _, eqF _, eqF _, eqF _, eqF _, eqF _, eqF _, eqF _, eqF _, eqF _, eqF _, eqF _, eqF _, eqF _, eqF _, eqF _] follows (by kernel_rfl) ⟨eqF_mono _, eqF_mono _, eqF_mono _, eqF_mono _, eqF_mono _, eqF_mono _, eqF_mono _, eqF_mono _, eqF_mono _, eqF_mono _, eqF_mono _, eqF_mono _, eqF_mono _, eqF_mono _, eqF_mono _, eqF_mono _, eqF_mono _, eqF_mono _, eqF_mono _, eqF_mono _, eqF_mono _, eqF_mono _, eqF_mono _, eqF_mono _, eqF_mono _, eqF_mono _, eqF_mono _, trivial⟩ (by decide) ?steps9 ?tail9
      case steps9 =>
       refine stepsH_cons rfl ?_ ?_
       ·intro X ext HD hleD _
        replace hB := hB.mono hleD; replace hO := hO.mono hleD; replace hA := hA.mono hleD; replace hpY := hpY.mono hleD; replace hpQ := hpQ.mono hleD; replace hle0 := hle0.trans hleD; refine withP_nil rfl ?_; refine XO.move rfl rfl ?_; refine XO.nil ?_; exact stepQN_ok rfl trivial (rfl)
       refine stepsH_cons rfl ?_ ?_
       ·intro X ext HD hleD _
        replace hB := hB.mono hleD; replace hO := hO.mono hleD; replace hA := hA.mono hleD; replace hpY := hpY.mono hleD; replace hpQ := hpQ.mono hleD; replace hle0 := hle0.trans hleD; refine withP_nil rfl ?_; refine XO.move rfl rfl ?_; refine XO.nil ?_; exact stepQN_ok rfl trivial (rfl)
       refine stepsH_cons rfl ?_ ?_
       ·intro X ext HD hleD _
        replace hB := hB.mono hleD; replace hO := hO.mono hleD; replace hA := hA.mono hleD; replace hpY := hpY.mono hleD; replace hpQ := hpQ.mono hleD; replace hle0 := hle0.trans hleD; refine withP_cons rfl rfl ?_; rintro _ rfl; refine withP_cons rfl rfl ?_; rintro _ rfl; refine withP_nil rfl ?_; refine XO.indexE rfl rfl Try.underlying26 ty_3 (by omega) (by omega) rfl ?_; refine XO.nil ?_; exact stepQN_ok rfl trivial (rfl)
       refine stepsH_cons rfl ?_ ?_
       ·intro X ext HD hleD _
        replace hB := hB.mono hleD; replace hO := hO.mono hleD; replace hA := hA.mono hleD; replace hpY := hpY.mono hleD; replace hpQ := hpQ.mono hleD; replace hle0 := hle0.trans hleD; refine withP_cons rfl rfl ?_; rintro _ rfl; refine withP_nil rfl ?_; refine XO.loadH rfl (by assumption) ty_3 rfl rfl rfl ?_; refine XO.nil ?_; exact stepQN_ok rfl trivial (rfl)
       refine stepsH_cons rfl ?_ ?_
       ·intro X ext HD hleD _
        replace hB := hB.mono hleD; replace hO := hO.mono hleD; replace hA := hA.mono hleD; replace hpY := hpY.mono hleD; replace hpQ := hpQ.mono hleD; replace hle0 := hle0.trans hleD; refine withP_cons rfl rfl ?_; rintro _ rfl; refine withP_nil rfl ?_; refine XO.lss rfl rfl rfl ?_; refine XO.nil ?_; exact stepQN_ok rfl trivial (rfl)
       refine stepsH_cons rfl ?_ ?_
       ·intro X ext HD hleD _
        replace hB := hB.mono hleD; replace hO := hO.mono hleD; replace hA := hA.mono hleD; replace hpY := hpY.mono hleD; replace hpQ := hpQ.mono hleD; replace hle0 := hle0.trans hleD; refine withP_cons rfl rfl ?_; rintro _ rfl; refine withP_nil rfl ?_; refine XO.move rfl rfl ?_; refine XO.nil ?_; exact stepQN_ok rfl trivial (rfl)
       refine stepsH_cons rfl ?_ ?_
       ·intro X ext HD hleD _
        replace hB := hB.mono hleD; replace hO := hO.mono hleD; replace hA := hA.mono hleD; replace hpY := hpY.mono hleD; replace hpQ := hpQ.mono hleD; replace hle0 := hle0.trans hleD; refine withP_cons rfl rfl ?_; rintro _ rfl; refine withP_nil rfl ?_; refine XO.guardT rfl rfl (decide_eq_false h5) rfl ?_; refine XO.move rfl rfl ?_; refine XO.nil ?_; exact stepQN_ok rfl trivial (rfl)
       refine stepsH_cons rfl ?_ ?_
       ·intro X ext HD hleD _
        replace hB := hB.mono hleD; replace hO := hO.mono hleD; replace hA := hA.mono hleD; replace hpY := hpY.mono hleD; replace hpQ := hpQ.mono hleD; replace hle0 := hle0.trans hleD; refine withP_cons rfl rfl ?_; rintro _ rfl; refine withP_nil rfl ?_; refine XO.guardT rfl rfl (decide_eq_false h5) rfl ?_; refine XO.move rfl rfl ?_; refine XO.nil ?_; exact stepQN_ok rfl trivial (rfl)
       refine stepsH_cons rfl ?_ ?_
       ·intro X ext HD hleD _
        replace hB := hB.mono hleD; replace hO := hO.mono hleD; replace hA := hA.mono hleD; replace hpY := hpY.mono hleD; replace hpQ := hpQ.mono hleD; replace hle0 := hle0.trans hleD; refine withP_cons rfl rfl ?_; rintro _ rfl; refine withP_cons rfl rfl ?_; rintro _ rfl; refine withP_cons rfl rfl ?_; rintro _ rfl; refine withP_nil rfl ?_; refine XO.guardT rfl rfl (decide_eq_false h5) rfl ?_; refine XO.indexE rfl rfl Try.underlying26 ty_3 (by omega) (by omega) rfl ?_; refine XO.nil ?_; exact stepQN_ok rfl trivial (rfl)
       refine stepsH_cons rfl ?_ ?_
       ·intro X ext HD hleD _
        replace hB := hB.mono hleD; replace hO := hO.mono hleD; replace hA := hA.mono hleD; replace hpY := hpY.mono hleD; replace hpQ := hpQ.mono hleD; replace hle0 := hle0.trans hleD; refine withP_cons rfl rfl ?_; rintro _ rfl; refine withP_cons rfl rfl ?_; rintro _ rfl; refine withP_nil rfl ?_; refine XO.guardT rfl rfl (decide_eq_false h5) rfl ?_; refine XO.loadH rfl (by assumption) ty_3 rfl rfl rfl ?_; refine XO.nil ?_; exact stepQN_ok rfl trivial (rfl)
       refine stepsH_cons rfl ?_ ?_
       ·intro X ext HD hleD _
        replace hB := hB.mono hleD; replace hO := hO.mono hleD; replace hA := hA.mono hleD; replace hpY := hpY.mono hleD; replace hpQ := hpQ.mono hleD; replace hle0 := hle0.trans hleD; refine withP_cons rfl rfl ?_; rintro _ rfl; refine withP_nil rfl ?_; refine XO.guardT rfl rfl (decide_eq_false h5) rfl ?_; refine XO.fieldAddr rfl fa_24_0 rfl ?_; refine XO.nil ?_; exact stepQN_ok rfl trivial (rfl)
       refine stepsH_cons rfl ?_ ?_
       ·intro X ext HD hleD _
        replace hB := hB.mono hleD; replace hO := hO.mono hleD; replace hA := hA.mono hleD; replace hpY := hpY.mono hleD; replace hpQ := hpQ.mono hleD; replace hle0 := hle0.trans hleD; refine withP_cons rfl rfl ?_; rintro _ rfl; refine withP_cons rfl rfl ?_; rintro _ rfl; refine withP_nil rfl ?_; refine XO.guardT rfl rfl (decide_eq_false h5) rfl ?_; refine XO.loadO 0 rfl rfl ty_3 rfl rfl rfl ?_; refine XO.nil ?_; exact stepQN_ok rfl trivial (rfl)
       refine stepsH_cons rfl ?_ ?_
       ·intro X ext HD hleD _
        replace hB := hB.mono hleD; replace hO := hO.mono hleD; replace hA := hA.mono hleD; replace hpY := hpY.mono hleD; replace hpQ := hpQ.mono hleD; replace hle0 := hle0.trans hleD; refine withP_cons rfl rfl ?_; rintro _ rfl; refine withP_cons rfl rfl ?_; rintro _ rfl; refine withP_cons rfl rfl ?_; rintro _ rfl; refine withP_nil rfl ?_; refine XO.guardT rfl rfl (decide_eq_false h5) rfl ?_; refine XO.geq rfl rfl rfl ?_; refine XO.nil ?_; exact stepQN_ok rfl trivial (rfl)
       refine stepsH_cons rfl ?_ ?_
       ·intro X ext HD hleD _
        replace hB := hB.mono hleD; replace hO := hO.mono hleD; replace hA := hA.mono hleD; replace hpY := hpY.mono hleD; replace hpQ := hpQ.mono hleD; replace hle0 := hle0.trans hleD; refine withP_cons rfl rfl ?_; rintro _ rfl; refine withP_cons rfl rfl ?_; rintro _ rfl; refine withP_nil rfl ?_; refine XO.pickF rfl (decide_eq_false h5) rfl rfl ?_; refine XO.nil ?_; exact stepQN_ok rfl trivial (rfl)
       refine stepsH_cons rfl ?_ ?_
       ·intro X ext HD hleD _
        replace hB := hB.mono hleD; replace hO := hO.mono hleD; replace hA := hA.mono hleD; replace hpY := hpY.mono hleD; replace hpQ := hpQ.mono hleD; replace hle0 := hle0.trans hleD; refine withP_cons rfl rfl ?_; rintro _ rfl; refine withP_nil rfl ?_; refine XO.move rfl rfl ?_; refine XO.nil ?_; exact stepQN_ok rfl trivial (rfl)
       refine stepsH_cons rfl ?_ ?_
       ·intro X ext HD hleD _
        replace hB := hB.mono hleD; replace hO := hO.mono hleD; replace hA := hA.mono hleD; replace hpY := hpY.mono hleD; replace hpQ := hpQ.mono hleD; replace hle0 := hle0.trans hleD; refine withP_cons rfl rfl ?_; rintro _ rfl; refine withP_nil rfl ?_; refine XO.guardT rfl rfl (decide_eq_false h14) rfl ?_; refine XO.move rfl rfl ?_; refine XO.nil ?_; exact stepQN_ok rfl trivial (rfl)
       refine stepsH_cons rfl ?_ ?_
       ·intro X ext HD hleD _
        replace hB := hB.mono hleD; replace hO := hO.mono hleD; replace hA := hA.mono hleD; replace hpY := hpY.mono hleD; replace hpQ := hpQ.mono hleD; replace hle0 := hle0.trans hleD; refine withP_cons rfl rfl ?_; rintro _ rfl; refine withP_cons rfl rfl ?_; rintro _ rfl; refine withP_nil rfl ?_; refine XO.guardT rfl rfl (decide_eq_false h14) rfl ?_; refine XO.gtr rfl rfl rfl ?_; refine XO.nil ?_; exact stepQN_ok rfl trivial (rfl)
       refine stepsH_cons rfl ?_ ?_
       ·intro X ext HD hleD _
        replace hB := hB.mono hleD; replace hO := hO.mono hleD; replace hA := hA.mono hleD; replace hpY := hpY.mono hleD; replace hpQ := hpQ.mono hleD; replace hle0 := hle0.trans hleD; refine withP_cons rfl rfl ?_; rintro _ rfl; refine withP_cons rfl rfl ?_; rintro _ rfl; refine withP_nil rfl ?_; refine XO.guardT rfl rfl (decide_eq_false h14) rfl ?_; refine XO.move rfl rfl ?_; refine XO.nil ?_; exact stepQN_ok rfl trivial (rfl)
       refine stepsH_cons rfl ?_ ?_
       ·intro X ext HD hleD _
        replace hB := hB.mono hleD; replace hO := hO.mono hleD; replace hA := hA.mono hleD; replace hpY := hpY.mono hleD; replace hpQ := hpQ.mono hleD; replace hle0 := hle0.trans hleD; refine withP_cons rfl rfl ?_; rintro _ rfl; refine withP_nil rfl ?_; refine XO.guardT rfl rfl (decide_eq_true h17) rfl ?_; refine XO.move rfl rfl ?_; refine XO.nil ?_; exact stepQN_ok rfl trivial (rfl)
       refine stepsH_cons rfl ?_ ?_
       ·intro X ext HD hleD _
        replace hB := hB.mono hleD; replace hO := hO.mono hleD; replace hA := hA.mono hleD; replace hpY := hpY.mono hleD; replace hpQ := hpQ.mono hleD; replace hle0 := hle0.trans hleD; refine withP_cons rfl rfl ?_; rintro _ rfl; refine withP_nil rfl ?_; refine XO.guardT rfl rfl (decide_eq_true h17) rfl ?_; refine XO.move rfl rfl ?_; refine XO.nil ?_; exact stepQN_ok rfl trivial (rfl)
       refine stepsH_cons rfl ?_ ?_
       ·intro X ext HD hleD _
        replace hB := hB.mono hleD; replace hO := hO.mono hleD; replace hA := hA.mono hleD; replace hpY := hpY.mono hleD; replace hpQ := hpQ.mono hleD; replace hle0 := hle0.trans hleD; refine withP_cons rfl rfl ?_; rintro _ rfl; refine withP_cons rfl rfl ?_; rintro _ rfl; refine withP_nil rfl ?_; refine XO.guardT rfl rfl (decide_eq_true h17) rfl ?_; refine XO.sub (c := ((k - 1 : Nat) : Int)) rfl rfl ((wrap_i64 (by omega) (by omega)).trans (by omega)) rfl ?_; refine XO.nil ?_; exact stepQN_ok rfl trivial (rfl)
       refine stepsH_cons rfl ?_ ?_
       ·intro X ext HD hleD _
        replace hB := hB.mono hleD; replace hO := hO.mono hleD; replace hA := hA.mono hleD; replace hpY := hpY.mono hleD; replace hpQ := hpQ.mono hleD; replace hle0 := hle0.trans hleD; refine withP_cons rfl rfl ?_; rintro _ rfl; refine withP_cons rfl rfl ?_; rintro _ rfl; refine withP_cons rfl rfl ?_; rintro _ rfl; refine withP_nil rfl ?_; refine XO.guardT rfl rfl (decide_eq_true h17) rfl ?_; refine XO.indexE rfl rfl Try.underlying26 ty_3 (by omega) (by omega) rfl ?_; refine XO.nil ?_; exact stepQN_ok rfl trivial (rfl)
       refine stepsH_cons rfl ?_ ?_
       ·intro X ext HD hleD _
        replace hB := hB.mono hleD; replace hO := hO.mono hleD; replace hA := hA.mono hleD; replace hpY := hpY.mono hleD; replace hpQ := hpQ.mono hleD; replace hle0 := hle0.trans hleD; refine withP_cons rfl rfl ?_; rintro _ rfl; refine withP_cons rfl rfl ?_; rintro _ rfl; refine withP_nil rfl ?_; refine XO.guardT rfl rfl (decide_eq_true h17) rfl ?_; refine XO.loadH rfl (by assumption) ty_3 rfl rfl rfl ?_; refine XO.nil ?_; exact stepQN_ok rfl trivial (rfl)
       refine stepsH_cons rfl ?_ ?_
       ·intro X ext HD hleD _
        replace hB := hB.mono hleD; replace hO := hO.mono hleD; replace hA := hA.mono hleD; replace hpY := hpY.mono hleD; replace hpQ := hpQ.mono hleD; replace hle0 := hle0.trans hleD; refine withP_cons rfl rfl ?_; rintro _ rfl; refine withP_nil rfl ?_; refine XO.guardT rfl rfl (decide_eq_true h17) rfl ?_; refine XO.move rfl rfl ?_; refine XO.nil ?_; exact stepQN_ok rfl trivial (rfl)
       refine stepsH_cons rfl ?_ ?_
       ·intro X ext HD hleD _
        replace hB := hB.mono hleD; replace hO := hO.mono hleD; replace hA := hA.mono hleD; replace hpY := hpY.mono hleD; replace hpQ := hpQ.mono hleD; replace hle0 := hle0.trans hleD; refine withP_cons rfl rfl ?_; rintro _ rfl; refine withP_nil rfl ?_; refine XO.guardT rfl rfl (decide_eq_true h17) rfl ?_; refine XO.move rfl rfl ?_; refine XO.nil ?_; exact stepQN_ok rfl trivial (rfl)
       refine stepsH_cons rfl ?_ ?_
       ·intro X ext HD hleD _
        replace hB := hB.mono hleD; replace hO := hO.mono hleD; replace hA := hA.mono hleD; replace hpY := hpY.mono hleD; replace hpQ := hpQ.mono hleD; replace hle0 := hle0.trans hleD; refine withP_cons rfl rfl ?_; rintro _ rfl; refine withP_cons rfl rfl ?_; rintro _ rfl; refine withP_cons rfl rfl ?_; rintro _ rfl; refine withP_nil rfl ?_; refine XO.guardT rfl rfl (decide_eq_true h17) rfl ?_; refine XO.indexE rfl rfl Try.underlying26 ty_3 (by omega) (by omega) rfl ?_; refine XO.nil ?_; exact stepQN_ok rfl trivial (rfl)
       refine stepsH_cons rfl ?_ ?_
       ·intro X ext HD hleD _
        replace hB := hB.mono hleD; replace hO := hO.mono hleD; replace hA := hA.mono hleD; replace hpY := hpY.mono hleD; replace hpQ := hpQ.mono hleD; replace hle0 := hle0.trans hleD; refine withP_cons rfl rfl ?_; rintro _ rfl; refine withP_cons rfl rfl ?_; rintro _ rfl; refine withP_nil rfl ?_; refine XO.guardT rfl rfl (decide_eq_true h17) rfl ?_; refine XO.loadH rfl (by assumption) ty_3 rfl rfl rfl ?_; refine XO.nil ?_; exact stepQN_ok rfl trivial (rfl)
       exact stepsH_end rfl
      case tail9 =>
       intro HD hleD _
       replace hB := hB.mono hleD; replace hO := hO.mono hleD; replace hA := hA.mono hleD; replace hpY := hpY.mono hleD; replace hpQ := hpQ.mono hleD; replace hle0 := hle0.trans hleD; refine withP_cons rfl rfl ?_; rintro _ rfl; refine withP_cons rfl rfl ?_; rintro _ rfl; refine withP_cons rfl rfl ?_; rintro _ rfl; refine withP_cons rfl rfl ?_; rintro _ rfl; refine withP_cons rfl rfl ?_; rintro _ rfl; refine withP_cons rfl rfl ?_; rintro _ rfl; refine withP_cons rfl rfl ?_; rintro _ rfl; refine withP_cons rfl rfl ?_; rintro _ rfl; refine withP_cons rfl rfl ?_; rintro _ rfl; refine withP_cons rfl rfl ?_; rintro _ rfl; refine withP_cons rfl rfl ?_; rintro _ rfl; refine withP_cons rfl rfl ?_; rintro _ rfl; refine withP_cons rfl rfl ?_; rintro _ rfl; refine withP_cons rfl rfl ?_; rintro _ rfl; refine withP_cons rfl rfl ?_; rintro _ rfl; refine withP_cons rfl rfl ?_; rintro _ rfl; refine withP_cons rfl rfl ?_; rintro _ rfl; refine withP_cons rfl rfl ?_; rintro _ rfl; refine withP_cons rfl rfl ?_; rintro _ rfl; refine withP_cons rfl rfl ?_; rintro _ rfl; refine withP_cons rfl rfl ?_; rintro _ rfl; refine withP_cons rfl rfl ?_; rintro _ rfl; refine withP_cons rfl rfl ?_; rintro _ rfl; refine withP_cons rfl rfl ?_; rintro _ rfl; refine withP_cons rfl rfl ?_; rintro _ rfl; refine withP_cons rfl rfl ?_; rintro _ rfl; refine withP_cons rfl rfl ?_; rintro _ rfl; refine withP_nil rfl ?_; refine withEnts_nil ?_; refine XO.guardT rfl rfl (decide_eq_true h17) rfl ?_; refine XO.geq rfl rfl rfl ?_; refine XO.guardT rfl rfl (decide_eq_false h14) rfl ?_; refine XO.pickT rfl (decide_eq_true h17) rfl rfl ?_; refine XO.pickF rfl (decide_eq_false h14) rfl rfl ?_; refine XO.nil ?_; refine XC.seq2 ?_; refine XC.cond rfl (fun c2_15 => ?_) (fun c2_15 => ?_)
       ·refine XC.seq ?_; refine XC.region ?_; refine XO.assign rfl rfl ?_; refine XO.nil ?_; refine XC.seq2 ?_; refine XC.ret ?_; refine blockR ?_; refine seqX_ret ?_; refine loopX_ret ?_; refine blockR ?_; refine seqX_ret ?_; refine ⟨rfl, _, [], rfl, (by repeat (first | exact List.Sublist.refl _ | apply List.Sublist.cons)), RetR.mk ?_⟩
        first | exact congrArg (Value.int .i64) (err_300 hck (ris_n hF hxX (fun h3 => by first | omega | (have h4 := gt_last hL hxP h3.1; omega)))).symm | exact congrArg (Value.int .i64) (err_2 hck hF (by omega)).symm | exact congrArg (Value.int .i64) (err_0 hck hF (by omega)).symm
       ·refine XC.skip ?_; refine blockN ?_; refine XC.seq2 ?_; refine XC.region ?_; refine XO.move rfl rfl ?_; refine XO.add rfl rfl (wrap_i64 (by omega) (by omega)) rfl ?_; refine XO.assign rfl rfl ?_; refine XO.nil ?_; refine loop_next ((k + 1, xX)) (by show ab.length - (k + 1) < ab.length - k; omega) (prov_cons (rfl) (prov_cons (rfl) (prov_cons (rfl) prov_nil))) (⟨by show k + 1 ≤ ab.length; omega, rfl, ris_y hF hxX (lt_last hL hxP (fun h => by omega) (by omega)) (by omega), by omega, last_next hxX⟩) (by repeat (first | exact List.Sublist.refl _ | apply List.Sublist.cons_cons | apply List.Sublist.cons)) (hle0)
     ·skip
      refine XC.keep [2, 3, 8] rfl ?_
      skip
      obtain ⟨bEY, oEY, rfl⟩ := hA.addr (by omega); obtain ⟨_, xY, hxY, rfl, hpY⟩ := hA.elem (k) (by omega); obtain rfl := Option.some.inj (hxX.symm.trans hxY)
      apply XC.drawH (fun _ => True) trivial [] (by decide) (fun _ _ _ _ => True) (fun _ _ _ _ _ _ h => h) 27 [eqF _, eqF _, eqF _, eqF _, eqF _, eqF _, eqF _, eqF _, eqF _, eqF _, eqF _, eqF _, eqF _, eqF _, eqF _, eqF _, eqF _, eqF _, eqF _, eqF _, eqF _, eqF _, eqF _, eqF _, eqF _, eqF _, eqF _] follows (by kernel_rfl) ⟨eqF_mono _, eqF_mono _, eqF_mono _, eqF_mono _, eqF_mono _, eqF_mono _, eqF_mono _, eqF_mono _, eqF_mono _, eqF_mono _, eqF_mono _, eqF_mono _, eqF_mono _, eqF_mono _, eqF_mono _, eqF_mono _, eqF_mono _, eqF_mono _, eqF_mono _, eqF_mono _, eqF_mono _, eqF_mono _, eqF_mono _, eqF_mono _, eqF_mono _, eqF_mono _, eqF_mono _, trivial⟩ (by decide) ?steps16 ?tail16
      case steps16 =>
       refine stepsH_cons rfl ?_ ?_
       ·intro X ext HD hleD _
        replace hB := hB.mono hleD; replace hO := hO.mono hleD; replace hA := hA.mono hleD; replace hpY := hpY.mono hleD; replace hle0 := hle0.trans hleD; refine withP_nil rfl ?_; refine XO.move rfl rfl ?_; refine XO.nil ?_; exact stepQN_ok rfl trivial (rfl)
       refine stepsH_cons rfl ?_ ?_
       ·intro X ext HD hleD _
        replace hB := hB.mono hleD; replace hO := hO.mono hleD; replace hA := hA.mono hleD; replace hpY := hpY.mono hleD; replace hle0 := hle0.trans hleD; refine withP_nil rfl ?_; refine XO.move rfl rfl ?_; refine XO.nil ?_; exact stepQN_ok rfl trivial (rfl)
       refine stepsH_cons rfl ?_ ?_
       ·intro X ext HD hleD _
        replace hB := hB.mono hleD; replace hO := hO.mono hleD; replace hA := hA.mono hleD; replace hpY := hpY.mono hleD; replace hle0 := hle0.trans hleD; refine withP_cons rfl rfl ?_; rintro _ rfl; refine withP_cons rfl rfl ?_; rintro _ rfl; refine withP_nil rfl ?_; refine XO.indexE rfl rfl Try.underlying26 ty_3 (by omega) (by omega) rfl ?_; refine XO.nil ?_; exact stepQN_ok rfl trivial (rfl)
       refine stepsH_cons rfl ?_ ?_
       ·intro X ext HD hleD _
        replace hB := hB.mono hleD; replace hO := hO.mono hleD; replace hA := hA.mono hleD; replace hpY := hpY.mono hleD; replace hle0 := hle0.trans hleD; refine withP_cons rfl rfl ?_; rintro _ rfl; refine withP_nil rfl ?_; refine XO.loadH rfl (by assumption) ty_3 rfl rfl rfl ?_; refine XO.nil ?_; exact stepQN_ok rfl trivial (rfl)
       refine stepsH_cons rfl ?_ ?_
       ·intro X ext HD hleD _
        replace hB := hB.mono hleD; replace hO := hO.mono hleD; replace hA := hA.mono hleD; replace hpY := hpY.mono hleD; replace hle0 := hle0.trans hleD; refine withP_cons rfl rfl ?_; rintro _ rfl; refine withP_nil rfl ?_; refine XO.lss rfl rfl rfl ?_; refine XO.nil ?_; exact stepQN_ok rfl trivial (rfl)
       refine stepsH_cons rfl ?_ ?_
       ·intro X ext HD hleD _
        replace hB := hB.mono hleD; replace hO := hO.mono hleD; replace hA := hA.mono hleD; replace hpY := hpY.mono hleD; replace hle0 := hle0.trans hleD; refine withP_cons rfl rfl ?_; rintro _ rfl; refine withP_nil rfl ?_; refine XO.move rfl rfl ?_; refine XO.nil ?_; exact stepQN_ok rfl trivial (rfl)
       refine stepsH_cons rfl ?_ ?_
       ·intro X ext HD hleD _
        replace hB := hB.mono hleD; replace hO := hO.mono hleD; replace hA := hA.mono hleD; replace hpY := hpY.mono hleD; replace hle0 := hle0.trans hleD; refine withP_cons rfl rfl ?_; rintro _ rfl; refine withP_nil rfl ?_; refine XO.guardT rfl rfl (decide_eq_false h5) rfl ?_; refine XO.move rfl rfl ?_; refine XO.nil ?_; exact stepQN_ok rfl trivial (rfl)
       refine stepsH_cons rfl ?_ ?_
       ·intro X ext HD hleD _
        replace hB := hB.mono hleD; replace hO := hO.mono hleD; replace hA := hA.mono hleD; replace hpY := hpY.mono hleD; replace hle0 := hle0.trans hleD; refine withP_cons rfl rfl ?_; rintro _ rfl; refine withP_nil rfl ?_; refine XO.guardT rfl rfl (decide_eq_false h5) rfl ?_; refine XO.move rfl rfl ?_; refine XO.nil ?_; exact stepQN_ok rfl trivial (rfl)
       refine stepsH_cons rfl ?_ ?_
       ·intro X ext HD hleD _
        replace hB := hB.mono hleD; replace hO := hO.mono hleD; replace hA := hA.mono hleD; replace hpY := hpY.mono hleD; replace hle0 := hle0.trans hleD; refine withP_cons rfl rfl ?_; rintro _ rfl; refine withP_cons rfl rfl ?_; rintro _ rfl; refine withP_cons rfl rfl ?_; rintro _ rfl; refine withP_nil rfl ?_; refine XO.guardT rfl rfl (decide_eq_false h5) rfl ?_; refine XO.indexE rfl rfl Try.underlying26 ty_3 (by omega) (by omega) rfl ?_; refine XO.nil ?_; exact stepQN_ok rfl trivial (rfl)
       refine stepsH_cons rfl ?_ ?_
       ·intro X ext HD hleD _
        replace hB := hB.mono hleD; replace hO := hO.mono hleD; replace hA := hA.mono hleD; replace hpY := hpY.mono hleD; replace hle0 := hle0.trans hleD; refine withP_cons rfl rfl ?_; rintro _ rfl; refine withP_cons rfl rfl ?_; rintro _ rfl; refine withP_nil rfl ?_; refine XO.guardT rfl rfl (decide_eq_false h5) rfl ?_; refine XO.loadH rfl (by assumption) ty_3 rfl rfl rfl ?_; refine XO.nil ?_; exact stepQN_ok rfl trivial (rfl)
       refine stepsH_cons rfl ?_ ?_
       ·intro X ext HD hleD _
        replace hB := hB.mono hleD; replace hO := hO.mono hleD; replace hA := hA.mono hleD; replace hpY := hpY.mono hleD; replace hle0 := hle0.trans hleD; refine withP_cons rfl rfl ?_; rintro _ rfl; refine withP_nil rfl ?_; refine XO.guardT rfl rfl (decide_eq_false h5) rfl ?_; refine XO.fieldAddr rfl fa_24_0 rfl ?_; refine XO.nil ?_; exact stepQN_ok rfl trivial (rfl)
       refine stepsH_cons rfl ?_ ?_
       ·intro X ext HD hleD _
        replace hB := hB.mono hleD; replace hO := hO.mono hleD; replace hA := hA.mono hleD; replace hpY := hpY.mono hleD; replace hle0 := hle0.trans hleD; refine withP_cons rfl rfl ?_; rintro _ rfl; refine withP_cons rfl rfl ?_; rintro _ rfl; refine withP_nil rfl ?_; refine XO.guardT rfl rfl (decide_eq_false h5) rfl ?_; refine XO.loadO 0 rfl rfl ty_3 rfl rfl rfl ?_; refine XO.nil ?_; exact stepQN_ok rfl trivial (rfl)
       refine stepsH_cons rfl ?_ ?_
       ·intro X ext HD hleD _
        replace hB := hB.mono hleD; replace hO := hO.mono hleD; replace hA := hA.mono hleD; replace hpY := hpY.mono hleD; replace hle0 := hle0.trans hleD; refine withP_cons rfl rfl ?_; rintro _ rfl; refine withP_cons rfl rfl ?_; rintro _ rfl; refine withP_cons rfl rfl ?_; rintro _ rfl; refine withP_nil rfl ?_; refine XO.guardT rfl rfl (decide_eq_false h5) rfl ?_; refine XO.geq rfl rfl rfl ?_; refine XO.nil ?_; exact stepQN_ok rfl trivial (rfl)
       refine stepsH_cons rfl ?_ ?_
       ·intro X ext HD hleD _
        replace hB := hB.mono hleD; replace hO := hO.mono hleD; replace hA := hA.mono hleD; replace hpY := hpY.mono hleD; replace hle0 := hle0.trans hleD; refine withP_cons rfl rfl ?_; rintro _ rfl; refine withP_cons rfl rfl ?_; rintro _ rfl; refine withP_nil rfl ?_; refine XO.pickF rfl (decide_eq_false h5) rfl rfl ?_; refine XO.nil ?_; exact stepQN_ok rfl trivial (rfl)
       refine stepsH_cons rfl ?_ ?_
       ·intro X ext HD hleD _
        replace hB := hB.mono hleD; replace hO := hO.mono hleD; replace hA := hA.mono hleD; replace hpY := hpY.mono hleD; replace hle0 := hle0.trans hleD; refine withP_cons rfl rfl ?_; rintro _ rfl; refine withP_nil rfl ?_; refine XO.move rfl rfl ?_; refine XO.nil ?_; exact stepQN_ok rfl trivial (rfl)
       refine stepsH_cons rfl ?_ ?_
       ·intro X ext HD hleD _
        replace hB := hB.mono hleD; replace hO := hO.mono hleD; replace hA := hA.mono hleD; replace hpY := hpY.mono hleD; replace hle0 := hle0.trans hleD; refine withP_cons rfl rfl ?_; rintro _ rfl; refine withP_nil rfl ?_; refine XO.guardT rfl rfl (decide_eq_false h14) rfl ?_; refine XO.move rfl rfl ?_; refine XO.nil ?_; exact stepQN_ok rfl trivial (rfl)
       refine stepsH_cons rfl ?_ ?_
       ·intro X ext HD hleD _
        replace hB := hB.mono hleD; replace hO := hO.mono hleD; replace hA := hA.mono hleD; replace hpY := hpY.mono hleD; replace hle0 := hle0.trans hleD; refine withP_cons rfl rfl ?_; rintro _ rfl; refine withP_cons rfl rfl ?_; rintro _ rfl; refine withP_nil rfl ?_; refine XO.guardT rfl rfl (decide_eq_false h14) rfl ?_; refine XO.gtr rfl rfl rfl ?_; refine XO.nil ?_; exact stepQN_ok rfl trivial (rfl)
       refine stepsH_cons rfl ?_ ?_
       ·intro X ext HD hleD _
        replace hB := hB.mono hleD; replace hO := hO.mono hleD; replace hA := hA.mono hleD; replace hpY := hpY.mono hleD; replace hle0 := hle0.trans hleD; refine withP_cons rfl rfl ?_; rintro _ rfl; refine withP_cons rfl rfl ?_; rintro _ rfl; refine withP_nil rfl ?_; refine XO.guardT rfl rfl (decide_eq_false h14) rfl ?_; refine XO.move rfl rfl ?_; refine XO.nil ?_; exact stepQN_ok rfl trivial (rfl)
       refine stepsH_cons rfl ?_ ?_
       ·intro X ext HD hleD _
        replace hB := hB.mono hleD; replace hO := hO.mono hleD; replace hA := hA.mono hleD; replace hpY := hpY.mono hleD; replace hle0 := hle0.trans hleD; refine withP_cons rfl rfl ?_; rintro _ rfl; refine withP_nil rfl ?_; refine XO.guardF rfl rfl (decide_eq_false h17) rfl rfl ?_; refine XO.nil ?_; exact stepQN_ok rfl trivial (rfl)
       refine stepsH_cons rfl ?_ ?_
       ·intro X ext HD hleD _
        replace hB := hB.mono hleD; replace hO := hO.mono hleD; replace hA := hA.mono hleD; replace hpY := hpY.mono hleD; replace hle0 := hle0.trans hleD; refine withP_cons rfl rfl ?_; rintro _ rfl; refine withP_nil rfl ?_; refine XO.guardF rfl rfl (decide_eq_false h17) rfl rfl ?_; refine XO.nil ?_; exact stepQN_ok rfl trivial (rfl)
       refine stepsH_cons rfl ?_ ?_
       ·intro X ext HD hleD _
        replace hB := hB.mono hleD; replace hO := hO.mono hleD; replace hA := hA.mono hleD; replace hpY := hpY.mono hleD; replace hle0 := hle0.trans hleD; refine withP_cons rfl rfl ?_; rintro _ rfl; refine withP_cons rfl rfl ?_; rintro _ rfl; refine withP_nil rfl ?_; refine XO.guardF rfl rfl (decide_eq_false h17) rfl rfl ?_; refine XO.nil ?_; exact stepQN_ok rfl trivial (rfl)
       refine stepsH_cons rfl ?_ ?_
       ·intro X ext HD hleD _
        replace hB := hB.mono hleD; replace hO := hO.mono hleD; replace hA := hA.mono hleD; replace hpY := hpY.mono hleD; replace hle0 := hle0.trans hleD; refine withP_cons rfl rfl ?_; rintro _ rfl; refine withP_cons rfl rfl ?_; rintro _ rfl; refine withP_cons rfl rfl ?_; rintro _ rfl; refine withP_nil rfl ?_; refine XO.guardF rfl rfl (decide_eq_false h17) rfl rfl ?_; refine XO.nil ?_; exact stepQN_ok rfl trivial (rfl)
       refine stepsH_cons rfl ?_ ?_
       ·intro X ext HD hleD _
        replace hB := hB.mono hleD; replace hO := hO.mono hleD; replace hA := hA.mono hleD; replace hpY := hpY.mono hleD; replace hle0 := hle0.trans hleD; refine withP_cons rfl rfl ?_; rintro _ rfl; refine withP_cons rfl rfl ?_; rintro _ rfl; refine withP_nil rfl ?_; refine XO.guardF rfl rfl (decide_eq_false h17) rfl rfl ?_; refine XO.nil ?_; exact stepQN_ok rfl trivial (rfl)
       refine stepsH_cons rfl ?_ ?_
       ·intro X ext HD hleD _
        replace hB := hB.mono hleD; replace hO := hO.mono hleD; replace hA := hA.mono hleD; replace hpY := hpY.mono hleD; replace hle0 := hle0.trans hleD; refine withP_cons rfl rfl ?_; rintro _ rfl; refine withP_nil rfl ?_; refine XO.guardF rfl rfl (decide_eq_false h17) rfl rfl ?_; refine XO.nil ?_; exact stepQN_ok rfl trivial (rfl)
       refine stepsH_cons rfl ?_ ?_
       ·intro X ext HD hleD _
        replace hB := hB.mono hleD; replace hO := hO.mono hleD; replace hA := hA.mono hleD; replace hpY := hpY.mono hleD; replace hle0 := hle0.trans hleD; refine withP_cons rfl rfl ?_; rintro _ rfl; refine withP_nil rfl ?_; refine XO.guardF rfl rfl (decide_eq_false h17) rfl rfl ?_; refine XO.nil ?_; exact stepQN_ok rfl trivial (rfl)
       refine stepsH_cons rfl ?_ ?_
       ·intro X ext HD hleD _
        replace hB := hB.mono hleD; replace hO := hO.mono hleD; replace hA := hA.mono hleD; replace hpY := hpY.mono hleD; replace hle0 := hle0.trans hleD; refine withP_cons rfl rfl ?_; rintro _ rfl; refine withP_cons rfl rfl ?_; rintro _ rfl; refine withP_cons rfl rfl ?_; rintro _ rfl; refine withP_nil rfl ?_; refine XO.guardF rfl rfl (decide_eq_false h17) rfl rfl ?_; refine XO.nil ?_; exact stepQN_ok rfl trivial (rfl)
       refine stepsH_cons rfl ?_ ?_
       ·intro X ext HD hleD _
        replace hB := hB.mono hleD; replace hO := hO.mono hleD; replace hA := hA.mono hleD; replace hpY := hpY.mono hleD; replace hle0 := hle0.trans hleD; refine withP_cons rfl rfl ?_; rintro _ rfl; refine withP_cons rfl rfl ?_; rintro _ rfl; refine withP_nil rfl ?_; refine XO.guardF rfl rfl (decide_eq_false h17) rfl rfl ?_; refine XO.nil ?_; exact stepQN_ok rfl trivial (rfl)
       exact stepsH_end rfl
      case tail16 =>
       intro HD hleD _
       replace hB := hB.mono hleD; replace hO := hO.mono hleD; replace hA := hA.mono hleD; replace hpY := hpY.mono hleD; replace hle0 := hle0.trans hleD; refine withP_cons rfl rfl ?_; rintro _ rfl; refine withP_cons rfl rfl ?_; rintro _ rfl; refine withP_cons rfl rfl ?_; rintro _ rfl; refine withP_cons rfl rfl ?_; rintro _ rfl; refine withP_cons rfl rfl ?_; rintro _ rfl; refine withP_cons rfl rfl ?_; rintro _ rfl; refine withP_cons rfl rfl ?_; rintro _ rfl; refine withP_cons rfl rfl ?_; rintro _ rfl; refine withP_cons rfl rfl ?_; rintro _ rfl; refine withP_cons rfl rfl ?_; rintro _ rfl; refine withP_cons rfl rfl ?_; rintro _ rfl; refine withP_cons rfl rfl ?_; rintro _ rfl; refine withP_cons rfl rfl ?_; rintro _ rfl; refine withP_cons rfl rfl ?_; rintro _ rfl; refine withP_cons rfl rfl ?_; rintro _ rfl; refine withP_cons rfl rfl ?_; rintro _ rfl; refine withP_cons rfl rfl ?_; rintro _ rfl; refine withP_cons rfl rfl ?_; rintro _ rfl; refine withP_cons rfl rfl ?_; rintro _ rfl; refine withP_cons rfl rfl ?_; rintro _ rfl; refine withP_cons rfl rfl ?_; rintro _ rfl; refine withP_cons rfl rfl ?_; rintro _ rfl; refine withP_cons rfl rfl ?_; rintro _ rfl; refine withP_cons rfl rfl ?_; rintro _ rfl; refine withP_cons rfl rfl ?_; rintro _ rfl; refine withP_cons rfl rfl ?_; rintro _ rfl; refine withP_cons rfl rfl ?_; rintro _ rfl; refine withP_nil rfl ?_; refine withEnts_nil ?_; refine XO.guardF rfl rfl (decide_eq_false h17) rfl rfl ?_; refine XO.guardT rfl rfl (decide_eq_false h14) rfl ?_; refine XO.pickF rfl (decide_eq_false h17) rfl rfl ?_; refine XO.pickF rfl (decide_eq_false h14) rfl rfl ?_; refine XO.nil ?_; refine XC.seq2 ?_; refine XC.condF rfl (rfl) ?_; refine XC.skip ?_; refine blockN ?_; refine XC.seq2 ?_; refine XC.region ?_; refine XO.move rfl rfl ?_; refine XO.add rfl rfl (wrap_i64 (by omega) (by omega)) rfl ?_; refine XO.assign rfl rfl ?_; refine XO.nil ?_; refine loop_next ((k + 1, xX)) (by show ab.length - (k + 1) < ab.length - k; omega) (prov_cons (rfl) (prov_cons (rfl) (prov_cons (rfl) prov_nil))) (⟨by show k + 1 ≤ ab.length; omega, rfl, ris_y hF hxX (lt_last hL hxP (fun h => by omega) (by omega)) (by omega), by omega, last_next hxX⟩) (by repeat (first | exact List.Sublist.refl _ | apply List.Sublist.cons_cons | apply List.Sublist.cons)) (hle0)
  ·obtain rfl : k = ab.length := by omega
   rw [List.drop_length, fitB] at hF
   refine XC.exit ?_; refine seqX_exit ?_; refine loopX_exit ?_; refine blockHit rfl ?_; refine XC.seq2 ?_; refine XC.seq ?_; refine XC.seq ?_; refine XC.region ?_; refine XO.fieldAddr rfl fa_24_3 rfl ?_; refine XO.loadO 0 rfl rfl ty_22 rfl rfl rfl ?_; refine XO.lenS (ts := #[]) rfl Try.underlying22 rfl ?_; refine XO.gtr rfl rfl rfl ?_; refine XO.move rfl rfl ?_; refine XO.guardC rfl rfl rfl rfl (fun g19 => ?_) (fun g19 => ?_)
   ·have g19p := of_decide_eq_false g19
    refine XO.fieldAddr rfl fa_24_0 rfl ?_; refine XO.guardT rfl rfl (g19) rfl ?_; refine XO.loadO 0 rfl rfl ty_3 rfl rfl rfl ?_; refine XO.guardT rfl rfl (g19) rfl ?_; refine XO.gtr rfl rfl rfl ?_; refine XO.pickF rfl (g19) rfl rfl ?_; refine XO.nil ?_; refine XC.seq2 ?_; refine XC.cond rfl (fun c3_20 => ?_) (fun c3_20 => ?_)
    ·refine XC.seq ?_; refine XC.region ?_; refine XO.assign rfl rfl ?_; refine XO.nil ?_; refine XC.seq2 ?_; refine XC.ret ?_; refine seqX_ret ?_; refine ⟨rfl, _, [], rfl, (by repeat (first | exact List.Sublist.refl _ | apply List.Sublist.cons)), RetR.mk ?_⟩
     first | exact congrArg (Value.int .i64) (err_300 hck (ris_n hF hxX (fun h3 => by first | omega | (have h4 := gt_last hL hxP h3.1; omega)))).symm | exact congrArg (Value.int .i64) (err_2 hck hF (by omega)).symm | exact congrArg (Value.int .i64) (err_0 hck hF (by omega)).symm
    ·refine XC.skip ?_; refine XC.seq2 ?_; refine XC.seq ?_; refine XC.region ?_; refine XO.assign rfl rfl ?_; refine XO.nil ?_; refine XC.seq2 ?_; refine XC.ret ?_; refine ⟨rfl, _, [], rfl, (by repeat (first | exact List.Sublist.refl _ | apply List.Sublist.cons)), RetR.mk ?_⟩
     first | exact congrArg (Value.int .i64) (err_300 hck (ris_n hF hxX (fun h3 => by first | omega | (have h4 := gt_last hL hxP h3.1; omega)))).symm | exact congrArg (Value.int .i64) (err_2 hck hF (by omega)).symm | exact congrArg (Value.int .i64) (err_0 hck hF (by omega)).symm
   ·have g19p := of_decide_eq_true g19
    refine XO.guardF rfl rfl (g19) rfl rfl ?_; refine XO.guardF rfl rfl (g19) rfl rfl ?_; refine XO.pickT rfl (g19) rfl rfl ?_; refine XO.nil ?_; refine XC.seq2 ?_; refine XC.condT rfl (rfl) ?_; refine XC.seq ?_; refine XC.region ?_; refine XO.assign rfl rfl ?_; refine XO.nil ?_; refine XC.seq2 ?_; refine XC.ret ?_; refine seqX_ret ?_; refine ⟨rfl, _, [], rfl, (by repeat (first | exact List.Sublist.refl _ | apply List.Sublist.cons)), RetR.mk ?_⟩
    first | exact congrArg (Value.int .i64) (err_300 hck (ris_n hF hxX (fun h3 => by first | omega | (have h4 := gt_last hL hxP h3.1; omega)))).symm | exact congrArg (Value.int .i64) (err_2 hck hF (by omega)).symm | exact congrArg (Value.int .i64) (err_0 hck hF (by omega)).symm

theorem rightq_fn (w : Wi) (old : Ls) (ab : List Int) (aB a aA : Option Addr) (cB c cA : Nat) (H : Hp) (hB : SlR tbR H aB cB w.B) (hO : SlR ilR H a c old) (hA : SlR (intR .i64) H aA cA ab) (hBl : w.B.length < 9223372036854775808) (hl : old.length < 9223372036854775808) (hw : ∀ x ∈ old, x.length < 9223372036854775808) (hal : ab.length < 9223372036854775808) : FnC Try.prog 20 #[.agg ⟨[.int .i64 w.J, .int .i64 w.S, .int .i64 w.N, .slice aB w.B.length cB]⟩, .slice a old.length c, .slice aA ab.length cA] H [] (RetR (fun v _ _ => ∃ b : Bool, v = .bool b ∧ (b = true → errE w old ab = 0))) := by
 refine FnC.intro (args := [.agg ⟨[.int .i64 w.J, .int .i64 w.S, .int .i64 w.N, .slice aB w.B.length cB]⟩, .slice a old.length c, .slice aA ab.length cA]) Try.func20 rfl rfl Try.ntmps20 rfl rfl rfl fun G rest => ?_
 refine XC.seq ?_; refine XC.region ?_; refine XO.box rfl rfl rfl (fun b3 => ?_); refine XO.assign rfl rfl ?_; refine XO.nil ?_; refine XC.seq2 ?_; refine XC.seq ?_; refine XC.region ?_; refine XO.loadO 0 rfl rfl ty_24 rfl rfl rfl ?_; refine XO.move rfl rfl ?_; refine XO.move rfl rfl ?_; refine XO.callK rfl (few_fn w _ _ _ _ old _ _ ab _ hO hl hB hBl hA hal) rfl ?_; rintro _ ⟨bf, rfl, hfew⟩; refine XO.move rfl rfl ?_; refine XO.guardC rfl rfl rfl rfl (fun g2 => ?_) (fun g2 => ?_)
 ·have g2p := g2
  refine XO.loadO 0 rfl rfl ty_24 rfl rfl rfl ?_; refine XO.guardT rfl rfl (g2) rfl ?_; refine XO.move rfl rfl ?_; refine XO.guardT rfl rfl (g2) rfl ?_; refine XO.move rfl rfl ?_; refine XO.guardT rfl rfl (g2) rfl ?_; refine XO.callV rfl (rerror_fn w old ab _ _ _ _ _ _ _ hB hO hA hBl hl hw hal) rfl ?_; refine XO.guardT rfl rfl (g2) rfl ?_; refine XO.eql rfl rfl rfl ?_; refine XO.pickT rfl (g2) rfl rfl ?_; refine XO.assign rfl rfl ?_; refine XO.nil ?_; refine XC.seq2 ?_; refine XC.ret ?_; refine ⟨rfl, _, [], rfl, (by repeat (first | exact List.Sublist.refl _ | apply List.Sublist.cons)), RetR.mk ?_⟩
  first | exact ⟨_, rfl, fun h => of_decide_eq_true h⟩ | exact ⟨false, rfl, fun h => by cases h⟩
 ·have g2p := g2
  refine XO.guardF rfl rfl (g2) rfl rfl ?_; refine XO.guardF rfl rfl (g2) rfl rfl ?_; refine XO.guardF rfl rfl (g2) rfl rfl ?_; refine XO.guardF rfl rfl (g2) rfl rfl ?_; refine XO.pickF rfl (g2) rfl rfl ?_; refine XO.assign rfl rfl ?_; refine XO.nil ?_; refine XC.seq2 ?_; refine XC.ret ?_; refine ⟨rfl, _, [], rfl, (by repeat (first | exact List.Sublist.refl _ | apply List.Sublist.cons)), RetR.mk ?_⟩
  first | exact ⟨_, rfl, fun h => of_decide_eq_true h⟩ | exact ⟨false, rfl, fun h => by cases h⟩

set_option maxRecDepth 100000 in
set_option maxHeartbeats 1600000 in
theorem is_fn (w : Wi) (ab : List Int) (l : Ls) (aB aA a : Option Addr) (cB cA c : Nat) (H : Hp) (hB : SlR tbR H aB cB w.B) (hA : SlR (intR .i64) H aA cA ab) (hs : SlR ilR H a c l) (hBl : w.B.length < 9223372036854775808) (hl : l.length < 9223372036854775808) (hw : ∀ x ∈ l, x.length < 9223372036854775808) (hal : ab.length < 9223372036854775808) : FnC Try.prog 21 #[.agg ⟨[.int .i64 w.J, .int .i64 w.S, .int .i64 w.N, .slice aB w.B.length cB]⟩, .slice aA ab.length cA, .slice a l.length c] H [] (RetR (fun v _ _ => ∃ b : Bool, v = .bool b ∧ (b = true ↔ isP w ab l))) := by
 refine FnC.intro (args := [.agg ⟨[.int .i64 w.J, .int .i64 w.S, .int .i64 w.N, .slice aB w.B.length cB]⟩, .slice aA ab.length cA, .slice a l.length c]) Try.func21 rfl rfl Try.ntmps21 rfl rfl rfl fun G rest => ?_
 refine XC.seq ?_; refine XC.region ?_; refine XO.box rfl rfl rfl (fun b3 => ?_); refine XO.assign rfl rfl ?_; refine XO.nil ?_; refine XC.seq2 ?_; refine XC.seq ?_; refine XC.seq ?_; refine XC.region ?_; refine XO.loadO 0 rfl rfl ty_24 rfl rfl rfl ?_; refine XO.move rfl rfl ?_; refine XO.callV rfl (check_fn w _ _ _ _ l _ hs hl hw hB hBl) rfl ?_; refine XO.neq rfl rfl rfl ?_; refine XO.nil ?_; refine XC.seq2 ?_; refine XC.cond rfl (fun c0_2 => ?_) (fun c0_2 => ?_)
 ·refine XC.seq ?_; refine XC.region ?_; refine XO.assign rfl rfl ?_; refine XO.nil ?_; refine XC.seq2 ?_; refine XC.ret ?_; refine seqX_ret ?_; refine ⟨rfl, _, [], rfl, (by repeat (first | exact List.Sublist.refl _ | apply List.Sublist.cons)), RetR.mk ?_⟩
  first | exact ⟨false, rfl, ⟨fun h => (by cases h), fun h => absurd h.1 (by assumption)⟩⟩ | exact ⟨false, rfl, ⟨fun h => (by cases h), fun h => by have := h.2.1 (k : Nat) (by omega) (by omega) (by assumption); omega⟩⟩ | exact ⟨false, rfl, ⟨fun h => (by cases h), fun h => absurd (by assumption) (h.2.2.1 t x66 (by omega) hx66 x74 (List.mem_of_getElem? hx74))⟩⟩ | exact ⟨_, rfl, by rw [decide_eq_true_iff]; exact ⟨fun h => ⟨hck, fun j h0 h1 => hab j h0 (by omega), hpr, h⟩, fun h => h.2.2.2⟩⟩
 ·have hck : chkD w l = 0 := by omega
  obtain ⟨hrw, hlo, hfa⟩ := chkD_eq0 hck
  have hrw1 := hrw.1
  have hl4 : l.length ≤ 4096 := by have := hrw.2.1; omega
  have hw2 : ∀ x ∈ l, x.length ≤ 256 := fun x hx => by
   obtain ⟨q, hq, hqx⟩ := List.getElem_of_mem hx
   have h1 := fitAll_at hfa (List.getElem?_eq_getElem (i := q) (by omega)) ((List.getElem?_eq_getElem hq).trans (by rw [hqx]))
   have := h1.1; omega
  have hcb : ∀ (q : Nat) (j : Int), q ≤ l.length → cntL (l.take q) j ≤ 1048576 := fun q j hq => by have := cnt_le (j := j) hw2 q; omega
  have hcf : ∀ j, cntL l j ≤ 1048576 := fun j => by have := hcb l.length j (Nat.le_refl _); rwa [List.take_length] at this
  refine XC.skip ?_; refine XC.seq2 ?_; refine XC.seq ?_; refine XC.region ?_; refine XO.move rfl rfl ?_; refine XO.lenS (ts := #[]) rfl Try.underlying25 rfl ?_; refine XO.assign rfl rfl ?_; refine XO.assign rfl rfl ?_; refine XO.nil ?_; refine XC.seq2 ?_; refine XC.seq ?_; refine XC.seq ?_; refine XC.region ?_; refine XO.fieldAddr rfl fa_24_0 rfl ?_; refine XO.loadO 0 rfl rfl ty_3 rfl rfl rfl ?_; refine XO.move rfl rfl ?_; refine XO.nil ?_; refine XC.seq2 ?_; refine XC.block ?_; refine XC.keep [7, 8, 27, 1, 2, 3, 26] rfl ?_; refine XC.loop (base := [(1, _), (2, _), (3, _), (26, _)]) (fun ζ : Nat => [(7, .int .i64 (mnK ab l ζ)), (8, .int .i64 (mxK ab l ζ)), (27, .int .i64 (ζ : Nat))]) (fun ζ Hl own => ζ ≤ w.J.toNat ∧ (b3, .cells 24 [.int .i64 w.J, .int .i64 w.S, .int .i64 w.N, .slice aB w.B.length cB]) :: rest = own ∧ (∀ j : Int, 0 ≤ j → j < (ζ : Nat) → j ∈ ab → cntL l j = 0)) (fun ζ => w.J.toNat - ζ) 0 (prov_cons (rfl) (prov_cons (rfl) (prov_cons (rfl) (prov_cons (rfl) (prov_cons (rfl) (prov_cons (rfl) (prov_cons (rfl) prov_nil))))))) (by repeat (first | exact List.Sublist.refl _ | apply List.Sublist.cons_cons | apply List.Sublist.cons)) ⟨Nat.zero_le _, rfl, fun j h0 h1 => absurd h1 (by omega)⟩ ?_; rintro k Hl0 _ hle0 ⟨hkk, rfl, hab⟩; replace hB := hB.mono hle0; replace hA := hA.mono hle0; replace hs := hs.mono hle0
  try dsimp only at ⊢
  refine XC.seq ?_; refine XC.region ?_; refine XO.lss rfl rfl rfl ?_; refine XO.nil ?_; refine XC.seq2 ?_; refine XC.seq ?_; refine XC.cond rfl (fun c1_3 => ?_) (fun c1_3 => ?_)
  ·refine XC.skip ?_; refine XC.seq2 ?_; refine XC.seq ?_; refine XC.block ?_; refine XC.seq ?_; refine XC.region ?_; refine XO.move rfl rfl ?_; refine XO.assign rfl rfl ?_; refine XO.nil ?_; refine XC.seq2 ?_; refine XC.seq ?_; refine XC.region ?_; refine XO.assign rfl rfl ?_; refine XO.nil ?_; refine XC.seq2 ?_; refine XC.seq ?_; refine XC.seq ?_; refine XC.region ?_; refine XO.move rfl rfl ?_; refine XO.lenS (ts := #[]) rfl Try.underlying25 rfl ?_; refine XO.move rfl rfl ?_; refine XO.nil ?_; refine XC.seq2 ?_; refine XC.block ?_; refine XC.keep [10, 32, 1, 2, 3, 7, 8, 9, 26, 27, 30, 31] rfl ?_; refine XC.loop (base := [(1, _), (2, _), (3, _), (7, _), (8, _), (9, _), (26, _), (27, _), (30, _), (31, _)]) (fun ζ : Nat => [(10, .int .i64 (cntL (l.take ζ) (k : Nat) : Nat)), (32, .int .i64 (ζ : Nat))]) (fun ζ Hl own => ζ ≤ l.length ∧ (b3, .cells 24 [.int .i64 w.J, .int .i64 w.S, .int .i64 w.N, .slice aB w.B.length cB]) :: rest = own) (fun ζ => l.length - ζ) 0 (prov_cons (rfl) (prov_cons (rfl) (prov_cons (rfl) (prov_cons (rfl) (prov_cons (rfl) (prov_cons (rfl) (prov_cons (rfl) (prov_cons (rfl) (prov_cons (rfl) (prov_cons (rfl) (prov_cons (rfl) (prov_cons (rfl) prov_nil)))))))))))) (by repeat (first | exact List.Sublist.refl _ | apply List.Sublist.cons_cons | apply List.Sublist.cons)) ⟨Nat.zero_le _, rfl⟩ ?_; rintro i Hl1 _ hle1 ⟨hki, rfl⟩; replace hB := hB.mono hle1; replace hA := hA.mono hle1; replace hs := hs.mono hle1; replace hle0 := hle0.trans hle1
   try dsimp only at ⊢
   refine XC.seq ?_; refine XC.region ?_; refine XO.lss rfl rfl rfl ?_; refine XO.nil ?_; refine XC.seq2 ?_; refine XC.seq ?_; refine XC.cond rfl (fun c2_4 => ?_) (fun c2_4 => ?_)
   ·refine XC.skip ?_; refine XC.seq2 ?_; refine XC.seq ?_; refine XC.block ?_; refine XC.seq ?_; refine XC.region ?_; refine XO.indexN rfl hs rfl Try.underlying25 ty_26 (by omega) rfl ?_; rintro eb34 eo34 _ x34 hx34 ⟨ax34, cx34, rfl, hd34⟩ hp34; refine XO.loadH rfl (by assumption) ty_26 rfl rfl rfl ?_; refine XO.assign rfl rfl ?_; refine XO.nil ?_; refine XC.seq2 ?_; refine XC.seq ?_; refine XC.region ?_; refine XO.move rfl rfl ?_; refine XO.lenS (ts := #[]) rfl Try.underlying26 rfl ?_; refine XO.move rfl rfl ?_; refine XO.nil ?_; refine XC.seq2 ?_; refine XC.block ?_; refine XC.keep [10, 38, 1, 2, 3, 7, 8, 9, 26, 27, 30, 31, 32, 36, 37] rfl ?_
    have hxl := hw2 _ (List.mem_of_getElem? hx34)
    refine XC.loop (base := [(1, _), (2, _), (3, _), (7, _), (8, _), (9, _), (26, _), (27, _), (30, _), (31, _), (32, _), (36, _), (37, _)]) (fun ζ : Nat => [(10, .int .i64 (cntL (l.take i) (k : Nat) + (x34.take ζ).count ((k : Nat) : Int) : Nat)), (38, .int .i64 (ζ : Nat))]) (fun ζ Hl own => ζ ≤ x34.length ∧ (b3, .cells 24 [.int .i64 w.J, .int .i64 w.S, .int .i64 w.N, .slice aB w.B.length cB]) :: rest = own) (fun ζ => x34.length - ζ) 0 (prov_cons (provI rfl (by simp)) (prov_cons (rfl) (prov_cons (rfl) (prov_cons (rfl) (prov_cons (rfl) (prov_cons (rfl) (prov_cons (rfl) (prov_cons (rfl) (prov_cons (rfl) (prov_cons (rfl) (prov_cons (rfl) (prov_cons (rfl) (prov_cons (rfl) (prov_cons (rfl) (prov_cons (rfl) prov_nil))))))))))))))) (by repeat (first | exact List.Sublist.refl _ | apply List.Sublist.cons_cons | apply List.Sublist.cons)) ⟨Nat.zero_le _, rfl⟩ ?_; rintro q Hl2 _ hle2 ⟨hkq, rfl⟩; replace hB := hB.mono hle2; replace hA := hA.mono hle2; replace hs := hs.mono hle2; replace hp34 := hp34.mono hle2; replace hd34 := hd34.mono hle2; replace hle0 := hle0.trans hle2; replace hle1 := hle1.trans hle2
    try dsimp only at ⊢
    refine XC.seq ?_; refine XC.region ?_; refine XO.lss rfl rfl rfl ?_; refine XO.nil ?_; refine XC.seq2 ?_; refine XC.seq ?_; refine XC.cond rfl (fun c3_6 => ?_) (fun c3_6 => ?_)
    ·refine XC.skip ?_; refine XC.seq2 ?_; refine XC.seq ?_; refine XC.block ?_; refine XC.seq ?_; refine XC.region ?_; refine XO.indexN rfl (by assumption) rfl Try.underlying26 ty_3 (by omega) rfl ?_; rintro eb40 eo40 _ x40 hx40 rfl hp40; refine XO.loadH rfl (by assumption) ty_3 rfl rfl rfl ?_; refine XO.assign rfl rfl ?_; refine XO.nil ?_; refine XC.seq2 ?_; refine XC.seq ?_; refine XC.region ?_; refine XO.move rfl rfl ?_; refine XO.move rfl rfl ?_; refine XO.eql rfl rfl rfl ?_; refine XO.nil ?_; refine XC.seq2 ?_; refine XC.cond rfl (fun c4_8 => ?_) (fun c4_8 => ?_)
     ·refine XC.region ?_
      have hct := hcb i (k : Nat) (by omega)
      have hcc := List.count_le_length (a := ((k : Nat) : Int)) (l := x34.take q)
      have hxl := hw2 _ (List.mem_of_getElem? hx34)
      rw [List.length_take] at hcc
      refine XO.move rfl rfl ?_; refine XO.add rfl rfl (wrap_i64 (by omega) (by omega)) rfl ?_; refine XO.assign rfl rfl ?_; refine XO.nil ?_; refine blockN ?_; refine XC.seq2 ?_; refine XC.region ?_; refine XO.add rfl rfl (wrap_i64 (by omega) (by omega)) rfl ?_; refine XO.move rfl rfl ?_; refine XO.nil ?_; refine loop_next (q + 1) (by show x34.length - (q + 1) < x34.length - q; omega) (prov_cons (by first | exact provI rfl (by rw [count_y hx40 (by assumption)]; omega) | exact provI rfl (by rw [count_n hx40 (by assumption)])) (prov_cons (rfl) (prov_cons (rfl) (prov_cons (rfl) (prov_cons (rfl) (prov_cons (rfl) (prov_cons (rfl) (prov_cons (rfl) (prov_cons (rfl) (prov_cons (rfl) (prov_cons (rfl) (prov_cons (rfl) (prov_cons (rfl) (prov_cons (rfl) (prov_cons (rfl) prov_nil))))))))))))))) (⟨by show q + 1 ≤ x34.length; omega, rfl⟩) (by repeat (first | exact List.Sublist.refl _ | apply List.Sublist.cons_cons | apply List.Sublist.cons)) (hle2)
     ·refine XC.skip ?_; refine blockN ?_; refine XC.seq2 ?_; refine XC.region ?_; refine XO.add rfl rfl (wrap_i64 (by omega) (by omega)) rfl ?_; refine XO.move rfl rfl ?_; refine XO.nil ?_; refine loop_next (q + 1) (by show x34.length - (q + 1) < x34.length - q; omega) (prov_cons (by first | exact provI rfl (by rw [count_y hx40 (by assumption)]; omega) | exact provI rfl (by rw [count_n hx40 (by assumption)])) (prov_cons (rfl) (prov_cons (rfl) (prov_cons (rfl) (prov_cons (rfl) (prov_cons (rfl) (prov_cons (rfl) (prov_cons (rfl) (prov_cons (rfl) (prov_cons (rfl) (prov_cons (rfl) (prov_cons (rfl) (prov_cons (rfl) (prov_cons (rfl) (prov_cons (rfl) prov_nil))))))))))))))) (⟨by show q + 1 ≤ x34.length; omega, rfl⟩) (by repeat (first | exact List.Sublist.refl _ | apply List.Sublist.cons_cons | apply List.Sublist.cons)) (hle2)
    ·obtain rfl : q = x34.length := by omega
     rw [List.take_length]
     refine XC.exit ?_; refine seqX_exit ?_; refine loopX_exit ?_; refine blockHit rfl ?_; refine blockN ?_; refine XC.seq2 ?_; refine XC.region ?_; refine XO.add rfl rfl (wrap_i64 (by omega) (by omega)) rfl ?_; refine XO.move rfl rfl ?_; refine XO.nil ?_; refine loop_next (i + 1) (by show l.length - (i + 1) < l.length - i; omega) (prov_cons (provI rfl (by rw [cnt_snoc hx34])) (prov_cons (rfl) (prov_cons (rfl) (prov_cons (rfl) (prov_cons (rfl) (prov_cons (rfl) (prov_cons (rfl) (prov_cons (rfl) (prov_cons (rfl) (prov_cons (rfl) (prov_cons (rfl) (prov_cons (rfl) prov_nil)))))))))))) (⟨by show i + 1 ≤ l.length; omega, rfl⟩) (by repeat (first | exact List.Sublist.refl _ | apply List.Sublist.cons_cons | apply List.Sublist.cons)) (hle1)
   ·obtain rfl : i = l.length := by omega
    rw [List.take_length]
    refine XC.exit ?_; refine seqX_exit ?_; refine loopX_exit ?_; refine blockHit rfl ?_; refine XC.seq2 ?_; refine XC.seq ?_; refine XC.seq ?_; refine XC.region ?_; refine XO.move rfl rfl ?_; refine XO.move rfl rfl ?_; refine XO.callV rfl (has_fn _ _ ab _ hA hal (k : Nat)) rfl ?_; refine XO.nil ?_; refine XC.seq2 ?_; refine XC.cond rfl (fun c5_10 => ?_) (fun c5_10 => ?_)
    ·refine XC.seq ?_; refine XC.seq ?_; refine XC.region ?_; refine XO.move rfl rfl ?_; refine XO.gtr rfl rfl rfl ?_; refine XO.nil ?_; refine XC.seq2 ?_; refine XC.cond rfl (fun c6_11 => ?_) (fun c6_11 => ?_)
     ·refine XC.seq ?_; refine XC.region ?_; refine XO.assign rfl rfl ?_; refine XO.nil ?_; refine XC.seq2 ?_; refine XC.ret ?_; refine seqX_ret ?_; refine seqX_ret ?_; refine blockR ?_; refine seqX_ret ?_; refine loopX_ret ?_; refine blockR ?_; refine seqX_ret ?_; refine ⟨rfl, _, [], rfl, (by repeat (first | exact List.Sublist.refl _ | apply List.Sublist.cons)), RetR.mk ?_⟩
      first | exact ⟨false, rfl, ⟨fun h => (by cases h), fun h => absurd h.1 (by assumption)⟩⟩ | exact ⟨false, rfl, ⟨fun h => (by cases h), fun h => by have := h.2.1 (k : Nat) (by omega) (by omega) (by assumption); omega⟩⟩ | exact ⟨false, rfl, ⟨fun h => (by cases h), fun h => absurd (by assumption) (h.2.2.1 t x66 (by omega) hx66 x74 (List.mem_of_getElem? hx74))⟩⟩ | exact ⟨_, rfl, by rw [decide_eq_true_iff]; exact ⟨fun h => ⟨hck, fun j h0 h1 => hab j h0 (by omega), hpr, h⟩, fun h => h.2.2.2⟩⟩
     ·refine XC.skip ?_; refine XC.seq2 ?_; refine XC.exit ?_; refine seqX_exit ?_; refine blockHit rfl ?_; refine XC.seq2 ?_; refine XC.region ?_; refine XO.add rfl rfl (wrap_i64 (by omega) (by omega)) rfl ?_; refine XO.move rfl rfl ?_; refine XO.nil ?_; refine loop_next (k + 1) (by show w.J.toNat - (k + 1) < w.J.toNat - k; omega) (prov_cons (by first | exact provI rfl (mn_y (by assumption)) | exact provI rfl (mn_n (by assumption))) (prov_cons (by first | exact provI rfl (mx_y (by assumption)) | exact provI rfl (mx_n (by assumption))) (prov_cons (rfl) (prov_cons (rfl) (prov_cons (rfl) (prov_cons (rfl) (prov_cons (rfl) prov_nil))))))) (⟨by show k + 1 ≤ w.J.toNat; omega, rfl, fun j h0 h1 h2 => by by_cases he : j = ((k : Nat) : Int) <;> first | (subst he; first | contradiction | omega) | exact hab j h0 (by omega) h2⟩) (by repeat (first | exact List.Sublist.refl _ | apply List.Sublist.cons_cons | apply List.Sublist.cons)) (hle0)
    ·refine XC.skip ?_; refine XC.seq2 ?_; refine XC.region ?_; refine XO.move rfl rfl ?_; refine XO.move rfl rfl ?_; refine XO.minI2 rfl rfl rfl ?_; refine XO.move rfl rfl ?_; refine XO.move rfl rfl ?_; refine XO.maxI2 rfl rfl rfl ?_; refine XO.assign rfl rfl ?_; refine XO.assign rfl rfl ?_; refine XO.nil ?_; refine blockN ?_; refine XC.seq2 ?_; refine XC.region ?_; refine XO.add rfl rfl (wrap_i64 (by omega) (by omega)) rfl ?_; refine XO.move rfl rfl ?_; refine XO.nil ?_; refine loop_next (k + 1) (by show w.J.toNat - (k + 1) < w.J.toNat - k; omega) (prov_cons (by first | exact provI rfl (mn_y (by assumption)) | exact provI rfl (mn_n (by assumption))) (prov_cons (by first | exact provI rfl (mx_y (by assumption)) | exact provI rfl (mx_n (by assumption))) (prov_cons (rfl) (prov_cons (rfl) (prov_cons (rfl) (prov_cons (rfl) (prov_cons (rfl) prov_nil))))))) (⟨by show k + 1 ≤ w.J.toNat; omega, rfl, fun j h0 h1 h2 => by by_cases he : j = ((k : Nat) : Int) <;> first | (subst he; first | contradiction | omega) | exact hab j h0 (by omega) h2⟩) (by repeat (first | exact List.Sublist.refl _ | apply List.Sublist.cons_cons | apply List.Sublist.cons)) (hle0)
  ·obtain rfl : k = w.J.toNat := by omega
   refine XC.exit ?_; refine seqX_exit ?_; refine loopX_exit ?_; refine blockHit rfl ?_; refine XC.seq2 ?_; refine XC.seq ?_; refine XC.seq ?_; refine XC.region ?_; refine XO.move rfl rfl ?_; refine XO.lenS (ts := #[]) rfl Try.underlying25 rfl ?_; refine XO.move rfl rfl ?_; refine XO.nil ?_; refine XC.seq2 ?_; refine XC.block ?_; refine XC.keep [63, 2, 3, 7, 8, 61, 62] rfl ?_; refine XC.loop (base := [(2, _), (3, _), (7, _), (8, _), (61, _), (62, _)]) (fun ζ : Nat => [(63, .int .i64 (ζ : Nat))]) (fun ζ Hl own => ζ ≤ l.length ∧ (b3, .cells 24 [.int .i64 w.J, .int .i64 w.S, .int .i64 w.N, .slice aB w.B.length cB]) :: rest = own ∧ (pairP w l (ζ))) (fun ζ => l.length - ζ) 0 (prov_cons (rfl) (prov_cons (rfl) (prov_cons (rfl) (prov_cons (rfl) (prov_cons (rfl) (prov_cons (rfl) (prov_cons (rfl) prov_nil))))))) (by repeat (first | exact List.Sublist.refl _ | apply List.Sublist.cons_cons | apply List.Sublist.cons)) ⟨Nat.zero_le _, rfl, fun i x hi => absurd hi (by omega)⟩ ?_; rintro t Hl3 _ hle3 ⟨hkt, rfl, hpr⟩; replace hB := hB.mono hle3; replace hA := hA.mono hle3; replace hs := hs.mono hle3; replace hle0 := hle0.trans hle3
   try dsimp only at ⊢
   refine XC.seq ?_; refine XC.region ?_; refine XO.lss rfl rfl rfl ?_; refine XO.nil ?_; refine XC.seq2 ?_; refine XC.seq ?_; refine XC.cond rfl (fun c7_12 => ?_) (fun c7_12 => ?_)
   ·refine XC.skip ?_; refine XC.seq2 ?_; refine XC.seq ?_; refine XC.block ?_; refine XC.seq ?_; refine XC.region ?_; refine XO.move rfl rfl ?_; refine XO.indexN rfl hs rfl Try.underlying25 ty_26 (by omega) rfl ?_; rintro eb66 eo66 _ x66 hx66 ⟨ax66, cx66, rfl, hd66⟩ hp66; refine XO.loadH rfl (by assumption) ty_26 rfl rfl rfl ?_; refine XO.assign rfl rfl ?_; refine XO.assign rfl rfl ?_; refine XO.nil ?_; refine XC.seq2 ?_; refine XC.seq ?_; refine XC.region ?_
    have hcap := hs.le
    refine XO.move rfl rfl ?_; refine XO.move rfl rfl ?_; refine XO.slice (lo' := 0) (hi' := ((t : Nat) : Int)) (m' := (c : Int)) rfl hs ev?_none (ev?_some rfl) ev?_none (by simp) (by omega) (by omega) (by omega) (by omega) (by omega) Try.underlying25 ty_26 rfl (fun as70 ls70 hls70 hss70 => ?_)
    obtain rfl : ls70 = l.take t := by first | (rw [hls70]; simp only [Int.toNat_natCast, Nat.add_sub_cancel_left]; done) | (rw [hls70]; simp; done) | (rw [hls70]; simp; rw [List.take_of_length_le (by simp)]; done) | (rw [hls70]; simp only [Int.toNat_natCast]; exact List.take_of_length_le (by rw [List.length_drop]; omega))
    refine XO.lenS (ts := #[]) rfl Try.underlying25 rfl ?_; refine XO.move rfl rfl ?_; refine XO.nil ?_; refine XC.seq2 ?_; refine XC.block ?_; refine XC.keep [72, 2, 3, 7, 8, 16, 61, 62, 63, 70, 71] rfl ?_
    have htl : (l.take t).length ≤ l.length := by rw [List.length_take]; omega
    refine XC.loop (base := [(2, _), (3, _), (7, _), (8, _), (16, _), (61, _), (62, _), (63, _), (70, _), (71, _)]) (fun ζ : Nat => [(72, .int .i64 (ζ : Nat))]) (fun ζ Hl own => ζ ≤ (l.take t).length ∧ (b3, .cells 24 [.int .i64 w.J, .int .i64 w.S, .int .i64 w.N, .slice aB w.B.length cB]) :: rest = own ∧ (∀ y ∈ (l.take t).take (ζ), ¬ ((cmn x66 y : Nat) : Int) < w.N)) (fun ζ => (l.take t).length - ζ) 0 (prov_cons (rfl) (prov_cons (rfl) (prov_cons (rfl) (prov_cons (rfl) (prov_cons (rfl) (prov_cons (rfl) (prov_cons (rfl) (prov_cons (rfl) (prov_cons (rfl) (prov_cons (rfl) (prov_cons (rfl) prov_nil))))))))))) (by repeat (first | exact List.Sublist.refl _ | apply List.Sublist.cons_cons | apply List.Sublist.cons)) ⟨Nat.zero_le _, rfl, by simp⟩ ?_; rintro u Hl4 _ hle4 ⟨hku, rfl, hpy⟩; replace hB := hB.mono hle4; replace hA := hA.mono hle4; replace hs := hs.mono hle4; replace hp66 := hp66.mono hle4; replace hd66 := hd66.mono hle4; replace hss70 := hss70.mono hle4; replace hle0 := hle0.trans hle4; replace hle3 := hle3.trans hle4
    try dsimp only at ⊢
    refine XC.seq ?_; refine XC.region ?_; refine XO.lss rfl rfl rfl ?_; refine XO.nil ?_; refine XC.seq2 ?_; refine XC.seq ?_; refine XC.cond rfl (fun c8_14 => ?_) (fun c8_14 => ?_)
    ·refine XC.skip ?_; refine XC.seq2 ?_; refine XC.seq ?_; refine XC.block ?_; refine XC.seq ?_; refine XC.region ?_; refine XO.indexN rfl hss70 rfl Try.underlying25 ty_26 (by omega) rfl ?_; rintro eb74 eo74 _ x74 hx74 ⟨ax74, cx74, rfl, hd74⟩ hp74; refine XO.loadH rfl (by assumption) ty_26 rfl rfl rfl ?_; refine XO.assign rfl rfl ?_; refine XO.nil ?_; refine XC.seq2 ?_; refine XC.seq ?_; refine XC.keep [2, 3, 7, 8, 16, 18, 61, 62, 63, 70, 71, 72] rfl ?_
     apply XC.draw 5 [eqF _, eqF _, eqF _, eqF _, eqF _] follows (by kernel_rfl) (by kernel_rfl) ⟨eqF_mono _, eqF_mono _, eqF_mono _, eqF_mono _, eqF_mono _, trivial⟩ ?steps16 ?tail16
     case steps16 =>
      refine stepsK_cons rfl ?_ ?_
      ·intro X
       refine withPreds_nil rfl ?_; refine XO.move rfl rfl ?_; refine XO.nil ?_
       exact stepQ_ok rfl (rfl)
      refine stepsK_cons rfl ?_ ?_
      ·intro X
       refine withPreds_nil rfl ?_; refine XO.move rfl rfl ?_; refine XO.nil ?_
       exact stepQ_ok rfl (rfl)
      refine stepsK_cons rfl ?_ ?_
      ·intro X
       refine withPreds_cons rfl rfl ?_; rintro _ rfl; refine withPreds_cons rfl rfl ?_; rintro _ rfl; refine withPreds_nil rfl ?_; refine XO.callV rfl (rcommon_fn _ _ _ _ x66 x74 _ hd66 hd74 (hw _ (List.mem_of_getElem? hx66)) (hw _ (List.mem_of_mem_take (List.mem_of_getElem? hx74)))) rfl ?_; refine XO.nil ?_
       exact stepQ_ok rfl (rfl)
      refine stepsK_cons rfl ?_ ?_
      ·intro X
       refine withPreds_nil rfl ?_; refine XO.fieldAddr rfl fa_24_2 rfl ?_; refine XO.nil ?_
       exact stepQ_ok rfl (rfl)
      refine stepsK_cons rfl ?_ ?_
      ·intro X
       refine withPreds_cons rfl rfl ?_; rintro _ rfl; refine withPreds_nil rfl ?_; refine XO.loadO 0 rfl rfl ty_3 rfl rfl rfl ?_; refine XO.nil ?_
       exact stepQ_ok rfl (rfl)
      exact stepsD_end rfl
     case tail16 =>
      refine withPreds_cons rfl rfl ?_; rintro _ rfl; refine withPreds_cons rfl rfl ?_; rintro _ rfl; refine withPreds_cons rfl rfl ?_; rintro _ rfl; refine withPreds_cons rfl rfl ?_; rintro _ rfl; refine withPreds_cons rfl rfl ?_; rintro _ rfl; refine withPreds_nil rfl ?_; refine XO.lss rfl rfl rfl ?_; refine XO.nil ?_; refine XC.seq2 ?_; refine XC.cond rfl (fun c9_18 => ?_) (fun c9_18 => ?_)
      ·refine XC.seq ?_; refine XC.region ?_; refine XO.assign rfl rfl ?_; refine XO.nil ?_; refine XC.seq2 ?_; refine XC.ret ?_; refine blockR ?_; refine seqX_ret ?_; refine loopX_ret ?_; refine blockR ?_; refine blockR ?_; refine seqX_ret ?_; refine loopX_ret ?_; refine blockR ?_; refine seqX_ret ?_; refine ⟨rfl, _, [], rfl, (by repeat (first | exact List.Sublist.refl _ | apply List.Sublist.cons)), RetR.mk ?_⟩
       first | exact ⟨false, rfl, ⟨fun h => (by cases h), fun h => absurd h.1 (by assumption)⟩⟩ | exact ⟨false, rfl, ⟨fun h => (by cases h), fun h => by have := h.2.1 (k : Nat) (by omega) (by omega) (by assumption); omega⟩⟩ | exact ⟨false, rfl, ⟨fun h => (by cases h), fun h => absurd (by assumption) (h.2.2.1 t x66 (by omega) hx66 x74 (List.mem_of_getElem? hx74))⟩⟩ | exact ⟨_, rfl, by rw [decide_eq_true_iff]; exact ⟨fun h => ⟨hck, fun j h0 h1 => hab j h0 (by omega), hpr, h⟩, fun h => h.2.2.2⟩⟩
      ·refine XC.skip ?_; refine blockN ?_; refine XC.seq2 ?_; refine XC.region ?_; refine XO.add rfl rfl (wrap_i64 (by omega) (by omega)) rfl ?_; refine XO.move rfl rfl ?_; refine XO.nil ?_; refine loop_next (u + 1) (by show (l.take t).length - (u + 1) < (l.take t).length - u; omega) (prov_cons (rfl) (prov_cons (rfl) (prov_cons (rfl) (prov_cons (rfl) (prov_cons (rfl) (prov_cons (rfl) (prov_cons (rfl) (prov_cons (rfl) (prov_cons (rfl) (prov_cons (rfl) (prov_cons (rfl) prov_nil))))))))))) (⟨by show u + 1 ≤ (l.take t).length; omega, rfl, all_snoc hpy hx74 (by assumption)⟩) (by repeat (first | exact List.Sublist.refl _ | apply List.Sublist.cons_cons | apply List.Sublist.cons)) (hle4)
    ·obtain rfl : u = (l.take t).length := by omega
     rw [List.take_length] at hpy
     refine XC.exit ?_; refine seqX_exit ?_; refine loopX_exit ?_; refine blockHit rfl ?_; refine blockN ?_; refine XC.seq2 ?_; refine XC.region ?_; refine XO.add rfl rfl (wrap_i64 (by omega) (by omega)) rfl ?_; refine XO.move rfl rfl ?_; refine XO.nil ?_; refine loop_next (t + 1) (by show l.length - (t + 1) < l.length - t; omega) (prov_cons (rfl) (prov_cons (rfl) (prov_cons (rfl) (prov_cons (rfl) (prov_cons (rfl) (prov_cons (rfl) (prov_cons (rfl) prov_nil))))))) (⟨by show t + 1 ≤ l.length; omega, rfl, fun i x hi hx => by by_cases he : i = t <;> first | (subst he; rw [show x = x66 from Option.some.inj (hx.symm.trans hx66)]; exact hpy) | exact hpr i x (by omega) hx⟩) (by repeat (first | exact List.Sublist.refl _ | apply List.Sublist.cons_cons | apply List.Sublist.cons)) (hle3)
   ·obtain rfl : t = l.length := by omega
    refine XC.exit ?_; refine seqX_exit ?_; refine loopX_exit ?_; refine blockHit rfl ?_; refine XC.seq2 ?_; refine XC.seq ?_; refine XC.region ?_
    have hm1 := mn_b ab l w.J.toNat
    have hm2 := mx_b (ab := ab) hcf w.J.toNat
    refine XO.move rfl rfl ?_; refine XO.move rfl rfl ?_; refine XO.sub rfl rfl (wrap_i64 (by omega) (by omega)) rfl ?_; refine XO.leq rfl rfl rfl ?_; refine XO.assign rfl rfl ?_; refine XO.nil ?_; refine XC.seq2 ?_; refine XC.ret ?_; refine ⟨rfl, _, [], rfl, (by repeat (first | exact List.Sublist.refl _ | apply List.Sublist.cons)), RetR.mk ?_⟩
    first | exact ⟨false, rfl, ⟨fun h => (by cases h), fun h => absurd h.1 (by assumption)⟩⟩ | exact ⟨false, rfl, ⟨fun h => (by cases h), fun h => by have := h.2.1 (k : Nat) (by omega) (by omega) (by assumption); omega⟩⟩ | exact ⟨false, rfl, ⟨fun h => (by cases h), fun h => absurd (by assumption) (h.2.2.1 t x66 (by omega) hx66 x74 (List.mem_of_getElem? hx74))⟩⟩ | exact ⟨_, rfl, by rw [decide_eq_true_iff]; exact ⟨fun h => ⟨hck, fun j h0 h1 => hab j h0 (by omega), hpr, h⟩, fun h => h.2.2.2⟩⟩

theorem lchanges_fn (a b : Option Addr) (c d : Nat) (old l : Ls) (H : Hp) (hs : SlR ilR H a c old) (ht : SlR ilR H b d l) (hlen : l.length ≤ old.length) (hwo : ∀ x ∈ old, x.length < 9223372036854775808) (hw : ∀ x ∈ l, x.length ≤ 1000) (hl : l.length ≤ 1000) : FnC Try.prog 22 #[.slice a old.length c, .slice b l.length d] H [] (RetR (fun v _ _ => v = .int .i64 (chg old l : Nat))) := by
 refine FnC.intro (args := [.slice a old.length c, .slice b l.length d]) Try.func22 rfl rfl Try.ntmps22 rfl rfl rfl fun G rest => ?_
 refine XC.seq ?_; refine XC.region ?_; refine XO.assign rfl rfl ?_; refine XO.nil ?_; refine XC.seq2 ?_; refine XC.seq ?_; refine XC.seq ?_; refine XC.region ?_; refine XO.move rfl rfl ?_; refine XO.lenS (ts := #[]) rfl Try.underlying25 rfl ?_; refine XO.move rfl rfl ?_; refine XO.nil ?_; refine XC.seq2 ?_; refine XC.block ?_; refine XC.keep [4, 11, 0, 9, 10] rfl ?_; refine XC.loop (base := [(0, _), (9, _), (10, _)]) (fun ζ : Nat => [(4, .int .i64 (chg old (l.take ζ) : Nat)), (11, .int .i64 (ζ : Nat))]) (fun ζ Hl own => ζ ≤ l.length ∧ rest = own) (fun ζ => l.length - ζ) 0 (prov_cons (provI rfl (by rw [List.take_zero, chg_nil]; rfl)) (prov_cons (rfl) (prov_cons (rfl) (prov_cons (rfl) (prov_cons (rfl) prov_nil))))) (by repeat (first | exact List.Sublist.refl _ | apply List.Sublist.cons_cons | apply List.Sublist.cons)) ⟨Nat.zero_le _, rfl⟩ ?_; rintro i Hl0 _ hle0 ⟨hki, rfl⟩; replace hs := hs.mono hle0; replace ht := ht.mono hle0
 try dsimp only at ⊢
 refine XC.seq ?_; refine XC.region ?_; refine XO.lss rfl rfl rfl ?_; refine XO.nil ?_; refine XC.seq2 ?_; refine XC.seq ?_; refine XC.cond rfl (fun c0_1 => ?_) (fun c0_1 => ?_)
 ·refine XC.skip ?_; refine XC.seq2 ?_; refine XC.seq ?_; refine XC.block ?_; refine XC.seq ?_; refine XC.region ?_; refine XO.move rfl rfl ?_; refine XO.indexN rfl ht rfl Try.underlying25 ty_26 (by omega) rfl ?_; rintro eb14 eo14 _ x14 hx14 ⟨ax14, cx14, rfl, hd14⟩ hp14; refine XO.loadH rfl (by assumption) ty_26 rfl rfl rfl ?_; refine XO.assign rfl rfl ?_; refine XO.assign rfl rfl ?_; refine XO.nil ?_; refine XC.seq2 ?_; refine XC.seq ?_; refine XC.region ?_; refine XO.move rfl rfl ?_; refine XO.lenS (ts := #[]) rfl Try.underlying26 rfl ?_; refine XO.move rfl rfl ?_; refine XO.nil ?_; refine XC.seq2 ?_; refine XC.block ?_; refine XC.keep [4, 18, 0, 5, 9, 10, 11, 16, 17] rfl ?_
  obtain ⟨xO, hxO⟩ : ∃ x, old[i]? = some x := ⟨_, List.getElem?_eq_getElem (by omega)⟩
  have hcb := chg_le (old := old) (l := l) (k := i) hw
  have hxl := hw _ (List.mem_of_getElem? hx14)
  refine XC.loop (base := [(0, _), (5, _), (9, _), (10, _), (11, _), (16, _), (17, _)]) (fun ζ : Nat => [(4, .int .i64 (chg old (l.take i) + (ζ - cmn (x14.take ζ) xO) : Nat)), (18, .int .i64 (ζ : Nat))]) (fun ζ Hl own => ζ ≤ x14.length ∧ rest = own) (fun ζ => x14.length - ζ) 0 (prov_cons (provI rfl (by simp)) (prov_cons (rfl) (prov_cons (rfl) (prov_cons (rfl) (prov_cons (rfl) (prov_cons (rfl) (prov_cons (rfl) (prov_cons (rfl) (prov_cons (rfl) prov_nil))))))))) (by repeat (first | exact List.Sublist.refl _ | apply List.Sublist.cons_cons | apply List.Sublist.cons)) ⟨Nat.zero_le _, rfl⟩ ?_; rintro k Hl1 _ hle1 ⟨hkk, rfl⟩; replace hs := hs.mono hle1; replace ht := ht.mono hle1; replace hp14 := hp14.mono hle1; replace hd14 := hd14.mono hle1; replace hle0 := hle0.trans hle1
  try dsimp only at ⊢
  refine XC.seq ?_; refine XC.region ?_; refine XO.lss rfl rfl rfl ?_; refine XO.nil ?_; refine XC.seq2 ?_; refine XC.seq ?_; refine XC.cond rfl (fun c1_3 => ?_) (fun c1_3 => ?_)
  ·refine XC.skip ?_; refine XC.seq2 ?_; refine XC.seq ?_; refine XC.block ?_; refine XC.seq ?_; refine XC.region ?_; refine XO.indexN rfl (by assumption) rfl Try.underlying26 ty_3 (by omega) rfl ?_; rintro eb20 eo20 _ x20 hx20 rfl hp20; refine XO.loadH rfl (by assumption) ty_3 rfl rfl rfl ?_; refine XO.assign rfl rfl ?_; refine XO.nil ?_; refine XC.seq2 ?_; refine XC.seq ?_; refine XC.region ?_; refine XO.move rfl rfl ?_; refine XO.move rfl rfl ?_; refine XO.indexN rfl hs rfl Try.underlying25 ty_26 (by omega) rfl ?_; rintro eb24 eo24 _ x24 hx24 ⟨ax24, cx24, rfl, hd24⟩ hp24; obtain rfl := Option.some.inj (hxO.symm.trans hx24); refine XO.loadH rfl (by assumption) ty_26 rfl rfl rfl ?_; refine XO.move rfl rfl ?_; refine XO.callV rfl (has_fn _ _ xO _ hd24 (hwo _ (List.mem_of_getElem? hxO)) x20) rfl ?_; refine XO.not rfl rfl ?_; refine XO.nil ?_; refine XC.seq2 ?_; refine XC.cond rfl (fun c2_7 => ?_) (fun c2_7 => ?_)
   ·refine XC.region ?_; refine XO.move rfl rfl ?_; refine XO.add rfl rfl (wrap_i64 (by omega) (by omega)) rfl ?_; refine XO.assign rfl rfl ?_; refine XO.nil ?_; refine blockN ?_; refine XC.seq2 ?_; refine XC.region ?_; refine XO.add rfl rfl (wrap_i64 (by omega) (by omega)) rfl ?_; refine XO.move rfl rfl ?_; refine XO.nil ?_; refine loop_next (k + 1) (by show x14.length - (k + 1) < x14.length - k; omega) (prov_cons (by first | exact provI rfl (by have h1 := cmn_n hx20 (by assumption); have h2 := cmn_k (a := x14) (b := xO) (k := k); omega) | exact provI rfl (by have h1 := cmn_y hx20 (Decidable.not_not.1 (by assumption)); have h2 := cmn_k (a := x14) (b := xO) (k := k); omega)) (prov_cons (rfl) (prov_cons (rfl) (prov_cons (rfl) (prov_cons (rfl) (prov_cons (rfl) (prov_cons (rfl) (prov_cons (rfl) (prov_cons (rfl) prov_nil))))))))) (⟨by show k + 1 ≤ x14.length; omega, rfl⟩) (by repeat (first | exact List.Sublist.refl _ | apply List.Sublist.cons_cons | apply List.Sublist.cons)) (hle1)
   ·refine XC.skip ?_; refine blockN ?_; refine XC.seq2 ?_; refine XC.region ?_; refine XO.add rfl rfl (wrap_i64 (by omega) (by omega)) rfl ?_; refine XO.move rfl rfl ?_; refine XO.nil ?_; refine loop_next (k + 1) (by show x14.length - (k + 1) < x14.length - k; omega) (prov_cons (by first | exact provI rfl (by have h1 := cmn_n hx20 (by assumption); have h2 := cmn_k (a := x14) (b := xO) (k := k); omega) | exact provI rfl (by have h1 := cmn_y hx20 (Decidable.not_not.1 (by assumption)); have h2 := cmn_k (a := x14) (b := xO) (k := k); omega)) (prov_cons (rfl) (prov_cons (rfl) (prov_cons (rfl) (prov_cons (rfl) (prov_cons (rfl) (prov_cons (rfl) (prov_cons (rfl) (prov_cons (rfl) prov_nil))))))))) (⟨by show k + 1 ≤ x14.length; omega, rfl⟩) (by repeat (first | exact List.Sublist.refl _ | apply List.Sublist.cons_cons | apply List.Sublist.cons)) (hle1)
  ·obtain rfl : k = x14.length := by omega
   rw [List.take_length]
   refine XC.exit ?_; refine seqX_exit ?_; refine loopX_exit ?_; refine blockHit rfl ?_; refine blockN ?_; refine XC.seq2 ?_; refine XC.region ?_; refine XO.add rfl rfl (wrap_i64 (by omega) (by omega)) rfl ?_; refine XO.move rfl rfl ?_; refine XO.nil ?_; refine loop_next (i + 1) (by show l.length - (i + 1) < l.length - i; omega) (prov_cons (provI rfl (by rw [chg_snoc hx14 hxO])) (prov_cons (rfl) (prov_cons (rfl) (prov_cons (rfl) (prov_cons (rfl) prov_nil))))) (⟨by show i + 1 ≤ l.length; omega, rfl⟩) (by repeat (first | exact List.Sublist.refl _ | apply List.Sublist.cons_cons | apply List.Sublist.cons)) (hle0)
 ·obtain rfl : i = l.length := by omega
  refine XC.exit ?_; refine seqX_exit ?_; refine loopX_exit ?_; refine blockHit rfl ?_; refine XC.seq2 ?_; refine XC.seq ?_; refine XC.region ?_; refine XO.move rfl rfl ?_; refine XO.assign rfl rfl ?_; refine XO.nil ?_; refine XC.seq2 ?_; refine XC.ret ?_; refine ⟨rfl, _, [], rfl, (by repeat (first | exact List.Sublist.refl _ | apply List.Sublist.cons)), RetR.mk ?_⟩
  exact congrArg (Value.int .i64) (by rw [List.take_length])

theorem less_fn (a b : Option Addr) (c d : Nat) (l m : Ls) (H : Hp) (hs : SlR ilR H a c l) (ht : SlR ilR H b d m) (hl : l.length < 9223372036854775808) (hlen : l.length ≤ m.length) (hw : ∀ (i : Nat) (x y : List Int), l[i]? = some x → m[i]? = some y → x.length = y.length ∧ x.length ≤ 1000) : FnC Try.prog 23 #[.slice a l.length c, .slice b m.length d] H [] (RetR (fun v _ _ => v = .bool (lessB l m))) := by
 refine FnC.intro (args := [.slice a l.length c, .slice b m.length d]) Try.func23 rfl rfl Try.ntmps23 rfl rfl rfl fun G rest => ?_
 refine XC.seq ?_; refine XC.region ?_; refine XO.assign rfl rfl ?_; refine XO.nil ?_; refine XC.seq2 ?_; refine XC.seq ?_; refine XC.seq ?_; refine XC.region ?_; refine XO.assign rfl rfl ?_; refine XO.nil ?_; refine XC.seq2 ?_; refine XC.block ?_; refine XC.keep [5, 0, 1] rfl ?_; refine XC.loop (base := [(0, _), (1, _)]) (fun ζ : Nat => [(5, .int .i64 (ζ : Nat))]) (fun ζ Hl own => ζ ≤ l.length ∧ rest = own ∧ (lessB l m = lessB (l.drop (ζ)) (m.drop (ζ)))) (fun ζ => l.length - ζ) 0 (prov_cons (rfl) (prov_cons (rfl) (prov_cons (rfl) prov_nil))) (by repeat (first | exact List.Sublist.refl _ | apply List.Sublist.cons_cons | apply List.Sublist.cons)) ⟨Nat.zero_le _, rfl, rfl⟩ ?_; rintro i Hl0 _ hle0 ⟨hki, rfl, hL⟩; replace hs := hs.mono hle0; replace ht := ht.mono hle0
 try dsimp only at ⊢
 refine XC.seq ?_; refine XC.seq ?_; refine XC.region ?_; refine XO.move rfl rfl ?_; refine XO.move rfl rfl ?_; refine XO.lenS (ts := #[]) rfl Try.underlying25 rfl ?_; refine XO.lss rfl rfl rfl ?_; refine XO.nil ?_; refine XC.seq2 ?_; refine XC.cond rfl (fun c0_1 => ?_) (fun c0_1 => ?_)
 ·refine XC.skip ?_; refine XC.seq2 ?_; refine XC.seq ?_; refine XC.block ?_; refine XC.seq ?_; refine XC.region ?_; refine XO.assign rfl rfl ?_; refine XO.nil ?_; refine XC.seq2 ?_; refine XC.block ?_; refine XC.keep [6, 0, 1, 5] rfl ?_
  obtain ⟨xA, hxA⟩ : ∃ x, l[i]? = some x := ⟨_, List.getElem?_eq_getElem (by omega)⟩
  obtain ⟨xB, hxB⟩ : ∃ x, m[i]? = some x := ⟨_, List.getElem?_eq_getElem (by omega)⟩
  obtain ⟨hAB, hA1⟩ := hw i xA xB hxA hxB
  rw [lessB_at hxA hxB] at hL
  refine XC.loop (base := [(0, _), (1, _), (5, _)]) (fun ζ : Nat => [(6, .int .i64 (ζ : Nat))]) (fun ζ Hl own => ζ ≤ xA.length ∧ rest = own ∧ (lessB l m = lessC (lessR (xA.drop (ζ)) (xB.drop (ζ))) (lessB (l.drop (i + 1)) (m.drop (i + 1))))) (fun ζ => xA.length - ζ) 0 (prov_cons (rfl) (prov_cons (rfl) (prov_cons (rfl) (prov_cons (rfl) prov_nil)))) (by repeat (first | exact List.Sublist.refl _ | apply List.Sublist.cons_cons | apply List.Sublist.cons)) ⟨Nat.zero_le _, rfl, hL⟩ ?_; rintro k Hl1 _ hle1 ⟨hkk, rfl, hL2⟩; replace hs := hs.mono hle1; replace ht := ht.mono hle1; replace hle0 := hle0.trans hle1
  try dsimp only at ⊢
  refine XC.seq ?_; refine XC.seq ?_; refine XC.region ?_; refine XO.move rfl rfl ?_; refine XO.move rfl rfl ?_; refine XO.move rfl rfl ?_; refine XO.indexN rfl hs rfl Try.underlying25 ty_26 (by omega) rfl ?_; rintro eb16 eo16 _ x16 hx16 ⟨ax16, cx16, rfl, hd16⟩ hp16; obtain rfl := Option.some.inj (hxA.symm.trans hx16); refine XO.loadH rfl (by assumption) ty_26 rfl rfl rfl ?_; refine XO.lenS (ts := #[]) rfl Try.underlying26 rfl ?_; refine XO.lss rfl rfl rfl ?_; refine XO.nil ?_; refine XC.seq2 ?_; refine XC.cond rfl (fun c1_3 => ?_) (fun c1_3 => ?_)
  ·refine XC.skip ?_; refine XC.seq2 ?_; refine XC.seq ?_; refine XC.block ?_; refine XC.seq ?_; refine XC.keep [0, 1, 5, 6] rfl ?_; obtain ⟨bER, oER, rfl⟩ := hs.addr (by omega); obtain ⟨_, xR, hxR, ⟨axR, cxR, rfl, hdR⟩, hpR⟩ := hs.elem (i) (by omega); obtain ⟨bET, oET, rfl⟩ := ht.addr (by omega); obtain ⟨_, xT, hxT, ⟨axT, cxT, rfl, hdT⟩, hpT⟩ := ht.elem (i) (by omega); obtain rfl := Option.some.inj (hxA.symm.trans hxR); obtain rfl := Option.some.inj (hxB.symm.trans hxT); obtain ⟨bEU, oEU, rfl⟩ := hdR.addr (by omega); obtain ⟨_, xU, hxU, rfl, hpU⟩ := hdR.elem k (by omega); obtain ⟨bEV, oEV, rfl⟩ := hdT.addr (by omega); obtain ⟨_, xV, hxV, rfl, hpV⟩ := hdT.elem k (by omega)
   apply XC.draw 14 [eqF _, eqF _, eqF _, eqF _, eqF _, eqF _, eqF _, eqF _, eqF _, eqF _, eqF _, eqF _, eqF _, eqF _] follows (by kernel_rfl) (by kernel_rfl) ⟨eqF_mono _, eqF_mono _, eqF_mono _, eqF_mono _, eqF_mono _, eqF_mono _, eqF_mono _, eqF_mono _, eqF_mono _, eqF_mono _, eqF_mono _, eqF_mono _, eqF_mono _, eqF_mono _, trivial⟩ ?steps4 ?tail4
   case steps4 =>
    refine stepsK_cons rfl ?_ ?_
    ·intro X
     refine withPreds_nil rfl ?_; refine XO.move rfl rfl ?_; refine XO.nil ?_
     exact stepQ_ok rfl (rfl)
    refine stepsK_cons rfl ?_ ?_
    ·intro X
     refine withPreds_nil rfl ?_; refine XO.move rfl rfl ?_; refine XO.nil ?_
     exact stepQ_ok rfl (rfl)
    refine stepsK_cons rfl ?_ ?_
    ·intro X
     refine withPreds_cons rfl rfl ?_; rintro _ rfl; refine withPreds_cons rfl rfl ?_; rintro _ rfl; refine withPreds_nil rfl ?_; refine XO.indexE rfl rfl Try.underlying25 ty_26 (by omega) (by omega) rfl ?_; refine XO.nil ?_
     exact stepQ_ok rfl (rfl)
    refine stepsK_cons rfl ?_ ?_
    ·intro X
     refine withPreds_cons rfl rfl ?_; rintro _ rfl; refine withPreds_nil rfl ?_; refine XO.loadH rfl (by assumption) ty_26 rfl rfl rfl ?_; refine XO.nil ?_
     exact stepQ_ok rfl (rfl)
    refine stepsK_cons rfl ?_ ?_
    ·intro X
     refine withPreds_nil rfl ?_; refine XO.move rfl rfl ?_; refine XO.nil ?_
     exact stepQ_ok rfl (rfl)
    refine stepsK_cons rfl ?_ ?_
    ·intro X
     refine withPreds_cons rfl rfl ?_; rintro _ rfl; refine withPreds_cons rfl rfl ?_; rintro _ rfl; refine withPreds_nil rfl ?_; refine XO.indexE rfl rfl Try.underlying26 ty_3 (by omega) (by omega) rfl ?_; refine XO.nil ?_
     exact stepQ_ok rfl (rfl)
    refine stepsK_cons rfl ?_ ?_
    ·intro X
     refine withPreds_cons rfl rfl ?_; rintro _ rfl; refine withPreds_nil rfl ?_; refine XO.loadH rfl (by assumption) ty_3 rfl rfl rfl ?_; refine XO.nil ?_
     exact stepQ_ok rfl (rfl)
    refine stepsK_cons rfl ?_ ?_
    ·intro X
     refine withPreds_nil rfl ?_; refine XO.move rfl rfl ?_; refine XO.nil ?_
     exact stepQ_ok rfl (rfl)
    refine stepsK_cons rfl ?_ ?_
    ·intro X
     refine withPreds_nil rfl ?_; refine XO.move rfl rfl ?_; refine XO.nil ?_
     exact stepQ_ok rfl (rfl)
    refine stepsK_cons rfl ?_ ?_
    ·intro X
     refine withPreds_cons rfl rfl ?_; rintro _ rfl; refine withPreds_cons rfl rfl ?_; rintro _ rfl; refine withPreds_nil rfl ?_; refine XO.indexE rfl rfl Try.underlying25 ty_26 (by omega) (by omega) rfl ?_; refine XO.nil ?_
     exact stepQ_ok rfl (rfl)
    refine stepsK_cons rfl ?_ ?_
    ·intro X
     refine withPreds_cons rfl rfl ?_; rintro _ rfl; refine withPreds_nil rfl ?_; refine XO.loadH rfl (by assumption) ty_26 rfl rfl rfl ?_; refine XO.nil ?_
     exact stepQ_ok rfl (rfl)
    refine stepsK_cons rfl ?_ ?_
    ·intro X
     refine withPreds_nil rfl ?_; refine XO.move rfl rfl ?_; refine XO.nil ?_
     exact stepQ_ok rfl (rfl)
    refine stepsK_cons rfl ?_ ?_
    ·intro X
     refine withPreds_cons rfl rfl ?_; rintro _ rfl; refine withPreds_cons rfl rfl ?_; rintro _ rfl; refine withPreds_nil rfl ?_; refine XO.indexE rfl rfl Try.underlying26 ty_3 (by omega) (by omega) rfl ?_; refine XO.nil ?_
     exact stepQ_ok rfl (rfl)
    refine stepsK_cons rfl ?_ ?_
    ·intro X
     refine withPreds_cons rfl rfl ?_; rintro _ rfl; refine withPreds_nil rfl ?_; refine XO.loadH rfl (by assumption) ty_3 rfl rfl rfl ?_; refine XO.nil ?_
     exact stepQ_ok rfl (rfl)
    exact stepsD_end rfl
   case tail4 =>
    refine withPreds_cons rfl rfl ?_; rintro _ rfl; refine withPreds_cons rfl rfl ?_; rintro _ rfl; refine withPreds_cons rfl rfl ?_; rintro _ rfl; refine withPreds_cons rfl rfl ?_; rintro _ rfl; refine withPreds_cons rfl rfl ?_; rintro _ rfl; refine withPreds_cons rfl rfl ?_; rintro _ rfl; refine withPreds_cons rfl rfl ?_; rintro _ rfl; refine withPreds_cons rfl rfl ?_; rintro _ rfl; refine withPreds_cons rfl rfl ?_; rintro _ rfl; refine withPreds_cons rfl rfl ?_; rintro _ rfl; refine withPreds_cons rfl rfl ?_; rintro _ rfl; refine withPreds_cons rfl rfl ?_; rintro _ rfl; refine withPreds_cons rfl rfl ?_; rintro _ rfl; refine withPreds_cons rfl rfl ?_; rintro _ rfl; refine withPreds_nil rfl ?_; refine XO.neq rfl rfl rfl ?_; refine XO.nil ?_; refine XC.seq2 ?_; refine XC.cond rfl (fun c2_9 => ?_) (fun c2_9 => ?_)
    ·refine XC.seq ?_; refine XC.keep [0, 1, 5, 6] rfl ?_
     apply XC.draw 14 [eqF _, eqF _, eqF _, eqF _, eqF _, eqF _, eqF _, eqF _, eqF _, eqF _, eqF _, eqF _, eqF _, eqF _] follows (by kernel_rfl) (by kernel_rfl) ⟨eqF_mono _, eqF_mono _, eqF_mono _, eqF_mono _, eqF_mono _, eqF_mono _, eqF_mono _, eqF_mono _, eqF_mono _, eqF_mono _, eqF_mono _, eqF_mono _, eqF_mono _, eqF_mono _, trivial⟩ ?steps10 ?tail10
     case steps10 =>
      refine stepsK_cons rfl ?_ ?_
      ·intro X
       refine withPreds_nil rfl ?_; refine XO.move rfl rfl ?_; refine XO.nil ?_
       exact stepQ_ok rfl (rfl)
      refine stepsK_cons rfl ?_ ?_
      ·intro X
       refine withPreds_nil rfl ?_; refine XO.move rfl rfl ?_; refine XO.nil ?_
       exact stepQ_ok rfl (rfl)
      refine stepsK_cons rfl ?_ ?_
      ·intro X
       refine withPreds_cons rfl rfl ?_; rintro _ rfl; refine withPreds_cons rfl rfl ?_; rintro _ rfl; refine withPreds_nil rfl ?_; refine XO.indexE rfl rfl Try.underlying25 ty_26 (by omega) (by omega) rfl ?_; refine XO.nil ?_
       exact stepQ_ok rfl (rfl)
      refine stepsK_cons rfl ?_ ?_
      ·intro X
       refine withPreds_cons rfl rfl ?_; rintro _ rfl; refine withPreds_nil rfl ?_; refine XO.loadH rfl (by assumption) ty_26 rfl rfl rfl ?_; refine XO.nil ?_
       exact stepQ_ok rfl (rfl)
      refine stepsK_cons rfl ?_ ?_
      ·intro X
       refine withPreds_nil rfl ?_; refine XO.move rfl rfl ?_; refine XO.nil ?_
       exact stepQ_ok rfl (rfl)
      refine stepsK_cons rfl ?_ ?_
      ·intro X
       refine withPreds_cons rfl rfl ?_; rintro _ rfl; refine withPreds_cons rfl rfl ?_; rintro _ rfl; refine withPreds_nil rfl ?_; refine XO.indexE rfl rfl Try.underlying26 ty_3 (by omega) (by omega) rfl ?_; refine XO.nil ?_
       exact stepQ_ok rfl (rfl)
      refine stepsK_cons rfl ?_ ?_
      ·intro X
       refine withPreds_cons rfl rfl ?_; rintro _ rfl; refine withPreds_nil rfl ?_; refine XO.loadH rfl (by assumption) ty_3 rfl rfl rfl ?_; refine XO.nil ?_
       exact stepQ_ok rfl (rfl)
      refine stepsK_cons rfl ?_ ?_
      ·intro X
       refine withPreds_nil rfl ?_; refine XO.move rfl rfl ?_; refine XO.nil ?_
       exact stepQ_ok rfl (rfl)
      refine stepsK_cons rfl ?_ ?_
      ·intro X
       refine withPreds_nil rfl ?_; refine XO.move rfl rfl ?_; refine XO.nil ?_
       exact stepQ_ok rfl (rfl)
      refine stepsK_cons rfl ?_ ?_
      ·intro X
       refine withPreds_cons rfl rfl ?_; rintro _ rfl; refine withPreds_cons rfl rfl ?_; rintro _ rfl; refine withPreds_nil rfl ?_; refine XO.indexE rfl rfl Try.underlying25 ty_26 (by omega) (by omega) rfl ?_; refine XO.nil ?_
       exact stepQ_ok rfl (rfl)
      refine stepsK_cons rfl ?_ ?_
      ·intro X
       refine withPreds_cons rfl rfl ?_; rintro _ rfl; refine withPreds_nil rfl ?_; refine XO.loadH rfl (by assumption) ty_26 rfl rfl rfl ?_; refine XO.nil ?_
       exact stepQ_ok rfl (rfl)
      refine stepsK_cons rfl ?_ ?_
      ·intro X
       refine withPreds_nil rfl ?_; refine XO.move rfl rfl ?_; refine XO.nil ?_
       exact stepQ_ok rfl (rfl)
      refine stepsK_cons rfl ?_ ?_
      ·intro X
       refine withPreds_cons rfl rfl ?_; rintro _ rfl; refine withPreds_cons rfl rfl ?_; rintro _ rfl; refine withPreds_nil rfl ?_; refine XO.indexE rfl rfl Try.underlying26 ty_3 (by omega) (by omega) rfl ?_; refine XO.nil ?_
       exact stepQ_ok rfl (rfl)
      refine stepsK_cons rfl ?_ ?_
      ·intro X
       refine withPreds_cons rfl rfl ?_; rintro _ rfl; refine withPreds_nil rfl ?_; refine XO.loadH rfl (by assumption) ty_3 rfl rfl rfl ?_; refine XO.nil ?_
       exact stepQ_ok rfl (rfl)
      exact stepsD_end rfl
     case tail10 =>
      refine withPreds_cons rfl rfl ?_; rintro _ rfl; refine withPreds_cons rfl rfl ?_; rintro _ rfl; refine withPreds_cons rfl rfl ?_; rintro _ rfl; refine withPreds_cons rfl rfl ?_; rintro _ rfl; refine withPreds_cons rfl rfl ?_; rintro _ rfl; refine withPreds_cons rfl rfl ?_; rintro _ rfl; refine withPreds_cons rfl rfl ?_; rintro _ rfl; refine withPreds_cons rfl rfl ?_; rintro _ rfl; refine withPreds_cons rfl rfl ?_; rintro _ rfl; refine withPreds_cons rfl rfl ?_; rintro _ rfl; refine withPreds_cons rfl rfl ?_; rintro _ rfl; refine withPreds_cons rfl rfl ?_; rintro _ rfl; refine withPreds_cons rfl rfl ?_; rintro _ rfl; refine withPreds_cons rfl rfl ?_; rintro _ rfl; refine withPreds_nil rfl ?_; refine XO.lss rfl rfl rfl ?_; refine XO.assign rfl rfl ?_; refine XO.nil ?_; refine XC.seq2 ?_; refine XC.ret ?_; refine blockR ?_; refine seqX_ret ?_; refine loopX_ret ?_; refine blockR ?_; refine blockR ?_; refine seqX_ret ?_; refine loopX_ret ?_; refine blockR ?_; refine seqX_ret ?_; refine ⟨rfl, _, [], rfl, (by repeat (first | exact List.Sublist.refl _ | apply List.Sublist.cons)), RetR.mk ?_⟩
      exact congrArg Value.bool (by rw [hL2, lessR_ne hxU hxV (by assumption)]; rfl)
    ·refine XC.skip ?_; refine blockN ?_; refine XC.seq2 ?_; refine XC.region ?_; refine XO.move rfl rfl ?_; refine XO.add rfl rfl (wrap_i64 (by omega) (by omega)) rfl ?_; refine XO.assign rfl rfl ?_; refine XO.nil ?_; refine loop_next (k + 1) (by show xA.length - (k + 1) < xA.length - k; omega) (prov_cons (rfl) (prov_cons (rfl) (prov_cons (rfl) (prov_cons (rfl) prov_nil)))) (⟨by show k + 1 ≤ xA.length; omega, rfl, by rw [hL2, lessR_eq hxU hxV (Decidable.not_not.1 (by assumption))]⟩) (by repeat (first | exact List.Sublist.refl _ | apply List.Sublist.cons_cons | apply List.Sublist.cons)) (hle1)
  ·obtain rfl : k = xA.length := by omega
   refine XC.exit ?_; refine seqX_exit ?_; refine loopX_exit ?_; refine blockHit rfl ?_; refine blockN ?_; refine XC.seq2 ?_; refine XC.region ?_; refine XO.move rfl rfl ?_; refine XO.add rfl rfl (wrap_i64 (by omega) (by omega)) rfl ?_; refine XO.assign rfl rfl ?_; refine XO.nil ?_; refine loop_next (i + 1) (by show l.length - (i + 1) < l.length - i; omega) (prov_cons (rfl) (prov_cons (rfl) (prov_cons (rfl) prov_nil))) (⟨by show i + 1 ≤ l.length; omega, rfl, by rw [hL2, List.drop_length, List.drop_of_length_le (by omega), lessR_nil]; rfl⟩) (by repeat (first | exact List.Sublist.refl _ | apply List.Sublist.cons_cons | apply List.Sublist.cons)) (hle0)
 ·obtain rfl : i = l.length := by omega
  rw [List.drop_length] at hL
  refine XC.exit ?_; refine seqX_exit ?_; refine loopX_exit ?_; refine blockHit rfl ?_; refine XC.seq2 ?_; refine XC.seq ?_; refine XC.region ?_; refine XO.assign rfl rfl ?_; refine XO.nil ?_; refine XC.seq2 ?_; refine XC.ret ?_; refine ⟨rfl, _, [], rfl, (by repeat (first | exact List.Sublist.refl _ | apply List.Sublist.cons)), RetR.mk ?_⟩
  exact congrArg Value.bool (hL.trans lessB_nil).symm

end Go.Proofs

/- Repairs: what the top functions answer, in plain Lean. -/
set_option autoImplicit false
set_option linter.unusedVariables false
set_option linter.unusedSimpArgs false
namespace Go.Proofs
open Go.XL
theorem fit_at {w : Wi} {l : Ls} (hl : l.length = w.B.length) (h : fitAll w w.B l = true) {x : List Int} (hx : x ∈ l) : (x.length : Int) = w.S := by
 obtain ⟨i, hi, rfl⟩ := List.getElem_of_mem hx
 exact (fitAll_at h (List.getElem?_eq_getElem (i := i) (by omega)) (List.getElem?_eq_getElem hi)).1
theorem q_ok {w : Wi} {old : Ls} {ab : List Int} (h : errE w old ab = 0) : ∃ n, JobOk w old (prs w.J ab) n ∧ RefOk w old ab n := by
 obtain ⟨h1, h2, h3, h4⟩ := err_eq0 h; obtain ⟨g1, g2, g3⟩ := chkD_eq0 h1
 have g4 := g1.1
 have g5 := g1.2.2
 have hp := prs_count (J := w.J) (ab := ab) (by omega) h2
 have hwo : ∀ x ∈ old, x.length ≤ 1000 := fun x hx => by have := fit_at g2 g3 hx; omega
 have hpl := prs_len w.J ab
 refine ⟨w.S.toNat, ⟨by omega, by omega, h3, g2, hwo, fun r hr x hx => ?_, by omega⟩, ⟨by omega, by omega, h3, g2, hwo, by omega, g5, hp, by omega⟩⟩
 have a1 := (mem_prs.1 hx).1
 have a2 := g5 r hr
 omega
def limN (w : Wi) : Nat := w.B.length * w.S.toNat + 1
theorem limN_eq {w : Wi} {n : Nat} (h : w.S = (n : Nat)) : (w.B.length : Int) * w.S + 1 = (limN w : Nat) := by
 unfold limN; rw [h]; simp
theorem limN_b {w : Wi} {n : Nat} (h : w.S = (n : Nat)) (h1 : n ≤ 256) (h2 : w.B.length ≤ 12) : limN w ≤ 3073 ∧ w.B.length * n ≤ 3072 := by
 unfold limN; rw [h]
 have := Nat.mul_le_mul h2 h1
 simp; omega
def makO (w : Wi) (old : Ls) (pr : List Int) : Option (Ls × Nat) := (List.range (limN w)).findSome? fun i => (findF w old pr ((i + 1 : Nat) : Int) w.B.length []).map (·, i)
def makQ (w : Wi) (old : Ls) (ab : List Int) : Option (Ls × Nat) := if errE w old ab = 0 then makO w old (prs w.J ab) else none
def bestQ (w : Wi) (old : Ls) (ab : List Int) : Option (Ls × Nat) := if errE w old ab = 0 then (bestF w old (prs w.J ab) w.B.length [] (limN w : Nat)).map fun p => (p, chg old p) else none
def denQ (w : Wi) (old : Ls) (ab : List Int) (lim : Int) : Option Den := if errE w old ab = 0 then denF w old (prs w.J ab) lim w.B.length [] else none
def refQ (w : Wi) (old : Ls) (ab : List Int) (lim : Int) (D : Den) : Bool := if errE w old ab = 0 then refF w old (prs w.J ab) lim w.B.length [] D else false
def oL (o : Option (Ls × Nat)) : Ls := match o with | some p => p.1 | none => []
def oN (o : Option (Ls × Nat)) : Nat := match o with | some p => p.2 | none => 0
def MakU (o : Option (Ls × Nat)) (e : Int) (H : Hp) (v : Value) : Prop := ∃ a c, v = .tuple #[.slice a (oL o).length c, .int .i64 (oN o : Nat), .bool o.isSome, .int .i64 e] ∧ SlR ilR H a c (oL o)
def DenE (o : Option Den) (e : Int) (H : Hp) (v : Value) : Prop := ∃ a c, v = .tuple #[.agg ⟨[.int .i64 (o.getD d0).E, .int .i64 (o.getD d0).Y, .slice a (o.getD d0).K.length c]⟩, .bool o.isSome, .int .i64 e] ∧ SlR denR H a c (o.getD d0).K
theorem MakU.no {o : Option (Ls × Nat)} {e e2 : Int} {H : Hp} (h : o = none) (he : e2 = e) : MakU o e H (.tuple #[.slice none 0 0, .int .i64 0, .bool false, .int .i64 e2]) := by subst h; subst he; exact ⟨none, 0, rfl, SlR.nil0 _ _⟩
theorem MakU.yes {o : Option (Ls × Nat)} {p : Ls} {i : Nat} {e : Int} {H : Hp} {a : Option Addr} {c : Nat} (h : o = some (p, i)) (he : e = 0) (hs : SlR ilR H a c p) : MakU o e H (.tuple #[.slice a p.length c, .int .i64 (i : Nat), .bool true, .int .i64 0]) := by subst h; subst he; exact ⟨a, c, rfl, hs⟩
theorem range_find {α : Type} {f : Nat → Option α} {M k : Nat} {y : α} (hk : k < M) (h : ∀ i, i < k → f i = none) (hf : f k = some y) : (List.range M).findSome? f = some y := by
 obtain ⟨d, rfl⟩ : ∃ d, M = k + (d + 1) := ⟨M - k - 1, by omega⟩
 rw [List.range_add, List.findSome?_append, List.findSome?_eq_none_iff.2 (fun x hx => h x (List.mem_range.1 hx)), Option.none_or, List.range_succ_eq_map]
 simp [hf]
theorem mak_y {w : Wi} {old : Ls} {ab : List Int} {k : Nat} {p : Ls} (he : errE w old ab = 0) (hk : k < limN w) (h : ∀ i, i < k → findF w old (prs w.J ab) ((i + 1 : Nat) : Int) w.B.length [] = none) (hf : findF w old (prs w.J ab) ((k + 1 : Nat) : Int) w.B.length [] = some p) : makQ w old ab = some (p, k) := by
 rw [makQ, if_pos he]
 exact range_find hk (fun i hi => by rw [h i hi]; rfl) (by rw [hf]; rfl)
theorem mak_n {w : Wi} {old : Ls} {ab : List Int} (he : errE w old ab = 0) (h : ∀ i, i < limN w → findF w old (prs w.J ab) ((i + 1 : Nat) : Int) w.B.length [] = none) : makQ w old ab = none := by
 rw [makQ, if_pos he]
 exact List.findSome?_eq_none_iff.2 fun i hi => by rw [h i (List.mem_range.1 hi)]; rfl
theorem mak_e {w : Wi} {old : Ls} {ab : List Int} (he : errE w old ab ≠ 0) : makQ w old ab = none := if_neg he
theorem bq_e {w : Wi} {old : Ls} {ab : List Int} (he : errE w old ab ≠ 0) : bestQ w old ab = none := if_neg he
theorem bq_n {w : Wi} {old : Ls} {ab : List Int} (he : errE w old ab = 0) (h : bestF w old (prs w.J ab) w.B.length [] (limN w : Nat) = none) : bestQ w old ab = none := by rw [bestQ, if_pos he, h]; rfl
theorem bq_y {w : Wi} {old : Ls} {ab : List Int} {p : Ls} (he : errE w old ab = 0) (h : bestF w old (prs w.J ab) w.B.length [] (limN w : Nat) = some p) : bestQ w old ab = some (p, chg old p) := by rw [bestQ, if_pos he, h]; rfl
theorem DenE.no {o : Option Den} {e e2 : Int} {H : Hp} (h : o = none) (he : e2 = e) : DenE o e H (.tuple #[.agg ⟨[.int .i64 0, .int .i64 0, .slice none 0 0]⟩, .bool false, .int .i64 e2]) := by subst h; subst he; exact ⟨none, 0, rfl, SlR.nil0 _ _⟩
theorem dq_e {w : Wi} {old : Ls} {ab : List Int} {lim : Int} (he : errE w old ab ≠ 0) : denQ w old ab lim = none := if_neg he
theorem dq_0 {w : Wi} {old : Ls} {ab : List Int} {lim : Int} (he : errE w old ab = 0) : denQ w old ab lim = denF w old (prs w.J ab) lim w.B.length [] := if_pos he
theorem rq_e {w : Wi} {old : Ls} {ab : List Int} {lim : Int} {D : Den} (he : errE w old ab ≠ 0) : refQ w old ab lim D = false := if_neg he
theorem rq_0 {w : Wi} {old : Ls} {ab : List Int} {lim : Int} {D : Den} (he : errE w old ab = 0) : refQ w old ab lim D = refF w old (prs w.J ab) lim w.B.length [] D := if_pos he
end Go.Proofs

/- The walks of the functions of repairs: what each of them computes, at any input. -/
set_option autoImplicit false
set_option linter.unusedVariables false
set_option linter.unusedSimpArgs false
namespace Go.Proofs
open Go.XL



theorem make_fn (w : Wi) (old : Ls) (ab : List Int) (aB a aA : Option Addr) (cB c cA : Nat) (H : Hp) (hB : SlR tbR H aB cB w.B) (hO : SlR ilR H a c old) (hA : SlR (intR .i64) H aA cA ab) (hBl : w.B.length < 9223372036854775808) (hl : old.length < 9223372036854775808) (hw : ∀ x ∈ old, x.length < 9223372036854775808) (hal : ab.length < 9223372036854775808) : FnC Try.prog 11 #[.agg ⟨[.int .i64 w.J, .int .i64 w.S, .int .i64 w.N, .slice aB w.B.length cB]⟩, .slice a old.length c, .slice aA ab.length cA] H [] (RetR (fun v H2 _ => MakU (makQ w old ab) (errE w old ab) H2 v)) := by
 refine FnC.intro (args := [.agg ⟨[.int .i64 w.J, .int .i64 w.S, .int .i64 w.N, .slice aB w.B.length cB]⟩, .slice a old.length c, .slice aA ab.length cA]) Try.func11 rfl rfl Try.ntmps11 rfl rfl rfl fun G rest => ?_
 refine XC.seq ?_; refine XC.region ?_; refine XO.box rfl rfl rfl (fun b3 => ?_); refine XO.assign rfl rfl ?_; refine XO.assign rfl rfl ?_; refine XO.assign rfl rfl ?_; refine XO.assign rfl rfl ?_; refine XO.nil ?_; refine XC.seq2 ?_; refine XC.seq ?_; refine XC.region ?_; refine XO.loadO 0 rfl rfl ty_24 rfl rfl rfl ?_; refine XO.move rfl rfl ?_; refine XO.move rfl rfl ?_; refine XO.callH rfl (open_fn w old ab _ _ _ _ _ _ _ hB hO hA hBl hl hw hal) rfl ?_; rintro _ HO hleO ⟨pO, rfl, hOp⟩; replace hB := hB.mono hleO; replace hO := hO.mono hleO; replace hA := hA.mono hleO; refine XO.move rfl rfl ?_; refine XO.extract rfl rfl rfl ?_; refine XO.extract rfl rfl rfl ?_; refine XO.assign rfl rfl ?_; refine XO.assign rfl rfl ?_; refine XO.nil ?_; refine XC.seq2 ?_; refine XC.seq ?_; refine XC.seq ?_; refine XC.region ?_; refine XO.move rfl rfl ?_; refine XO.neq rfl rfl rfl ?_; refine XO.nil ?_; refine XC.seq2 ?_; refine XC.cond rfl (fun c0_2 => ?_) (fun c0_2 => ?_)
 ·refine XC.seq ?_; refine XC.region ?_; refine XO.move rfl rfl ?_; refine XO.assign rfl rfl ?_; refine XO.assign rfl rfl ?_; refine XO.assign rfl rfl ?_; refine XO.assign rfl rfl ?_; refine XO.nil ?_; refine XC.seq2 ?_; refine XC.ret ?_; refine seqX_ret ?_; refine ⟨rfl, _, [], rfl, (by repeat (first | exact List.Sublist.refl _ | apply List.Sublist.cons)), RetR.mk ?_⟩
  exact MakU.no (mak_e (by assumption)) rfl
 ·have hE : errE w old ab = 0 := by omega
  obtain ⟨bj, rfl, hJ⟩ := hOp hE; obtain ⟨n, hok, hrf⟩ := q_ok hE
  have hSn := hok.S
  have hLn := limN_eq hok.S
  have hLb := limN_b hok.S hok.n1 hok.B
  refine XC.skip ?_; refine XC.seq2 ?_; refine XC.seq ?_; refine XC.seq ?_; refine XC.region ?_; refine XO.fieldAddr rfl fa_24_3 rfl ?_; refine XO.loadO 0 rfl rfl ty_22 rfl rfl rfl ?_; refine XO.lenS (ts := #[]) rfl Try.underlying22 rfl ?_; refine XO.fieldAddr rfl fa_24_1 rfl ?_; refine XO.loadO 0 rfl rfl ty_3 rfl rfl rfl ?_; refine XO.mul rfl rfl (wrap_i64 (by omega) (by omega)) rfl ?_; refine XO.add rfl rfl (wrap_i64 (by omega) (by omega)) rfl ?_; refine XO.move rfl rfl ?_; refine XO.nil ?_; refine XC.seq2 ?_; refine XC.block ?_; refine XC.keep [31, 10, 30] rfl ?_; refine XC.loop (base := [(10, _), (30, _)]) (fun ζ : Nat => [(31, .int .i64 (ζ : Nat))]) (fun ζ Hl own => ζ ≤ (limN w) ∧ rest = own ∧ (∀ i, i < ζ → findF w old (prs w.J ab) ((i + 1 : Nat) : Int) w.B.length [] = none)) (fun ζ => (limN w) - ζ) 0 (prov_cons (rfl) (prov_cons (rfl) (prov_cons (rfl) prov_nil))) (by repeat (first | exact List.Sublist.refl _ | apply List.Sublist.cons_cons | apply List.Sublist.cons)) ⟨Nat.zero_le _, rfl, fun i hi => absurd hi (by omega)⟩ ?_; rintro k Hl0 _ hle0 ⟨hkk, rfl, hno⟩; replace hB := hB.mono hle0; replace hO := hO.mono hle0; replace hA := hA.mono hle0; replace hJ := hJ.mono hle0
  try dsimp only at ⊢
  refine XC.seq ?_; refine XC.region ?_; refine XO.lss rfl rfl rfl ?_; refine XO.nil ?_; refine XC.seq2 ?_; refine XC.seq ?_; refine XC.cond rfl (fun c1_3 => ?_) (fun c1_3 => ?_)
  ·refine XC.skip ?_; refine XC.seq2 ?_; refine XC.seq ?_; refine XC.block ?_; refine XC.seq ?_; refine XC.region ?_; refine XO.move rfl rfl ?_; refine XO.assign rfl rfl ?_; refine XO.nil ?_; refine XC.seq2 ?_; refine XC.seq ?_; refine XC.region ?_; refine XO.move rfl rfl ?_; refine XO.move rfl rfl ?_; refine XO.add rfl rfl (wrap_i64 (by omega) (by omega)) rfl ?_; refine XO.callH rfl (find_all bj w old _ n hok ((k + 1 : Nat) : Int) w.B.length [] none 0 _ (by simp) (fun x hx => by cases hx) hJ (SlR.nil0 _ _)) rfl ?_; rintro _ HF hleF ⟨aF, cF, rfl, hF⟩; replace hB := hB.mono hleF; replace hO := hO.mono hleF; replace hA := hA.mono hleF; replace hJ := hJ.mono hleF; replace hle0 := hle0.trans hleF; refine XO.move rfl rfl ?_; refine XO.extract rfl rfl rfl ?_; refine XO.extract rfl rfl rfl ?_; refine XO.assign rfl rfl ?_; refine XO.assign rfl rfl ?_; refine XO.nil ?_; refine XC.seq2 ?_; refine XC.seq ?_; refine XC.region ?_; refine XO.move rfl rfl ?_; refine XO.nil ?_; refine XC.seq2 ?_; refine XC.condB rfl (fun c2_5 => ?_) (fun c2_5 => ?_)
   ·refine XC.seq ?_; refine XC.region ?_; refine XO.move rfl rfl ?_; refine XO.move rfl rfl ?_; refine XO.assign rfl rfl ?_; refine XO.assign rfl rfl ?_; refine XO.assign rfl rfl ?_; refine XO.assign rfl rfl ?_; refine XO.nil ?_; refine XC.seq2 ?_; refine XC.ret ?_; refine blockR ?_; refine seqX_ret ?_; refine loopX_ret ?_; refine blockR ?_; refine seqX_ret ?_; refine ⟨rfl, _, [], rfl, (by repeat (first | exact List.Sublist.refl _ | apply List.Sublist.cons)), RetR.mk ?_⟩
    exact MakU.yes (mak_y hE (by omega) hno (getD_some (by assumption))) hE hF
   ·refine XC.skip ?_; refine blockN ?_; refine XC.seq2 ?_; refine XC.region ?_; refine XO.add rfl rfl (wrap_i64 (by omega) (by omega)) rfl ?_; refine XO.move rfl rfl ?_; refine XO.nil ?_; refine loop_next (k + 1) (by show (limN w) - (k + 1) < (limN w) - k; omega) (prov_cons (rfl) (prov_cons (rfl) (prov_cons (rfl) prov_nil))) (⟨by show k + 1 ≤ (limN w); omega, rfl, fun i hi => by by_cases he : i = k <;> first | (subst he; exact isSome_no (by assumption)) | exact hno i (by omega)⟩) (by repeat (first | exact List.Sublist.refl _ | apply List.Sublist.cons_cons | apply List.Sublist.cons)) (hle0)
  ·obtain rfl : k = limN w := by omega
   refine XC.exit ?_; refine seqX_exit ?_; refine loopX_exit ?_; refine blockHit rfl ?_; refine XC.seq2 ?_; refine XC.seq ?_; refine XC.region ?_; refine XO.assign rfl rfl ?_; refine XO.assign rfl rfl ?_; refine XO.assign rfl rfl ?_; refine XO.assign rfl rfl ?_; refine XO.nil ?_; refine XC.seq2 ?_; refine XC.ret ?_; refine ⟨rfl, _, [], rfl, (by repeat (first | exact List.Sublist.refl _ | apply List.Sublist.cons)), RetR.mk ?_⟩
   exact MakU.no (mak_n hE hno) hE.symm

theorem rmake_fn (w : Wi) (old : Ls) (ab : List Int) (aB a aA : Option Addr) (cB c cA : Nat) (H : Hp) (hB : SlR tbR H aB cB w.B) (hO : SlR ilR H a c old) (hA : SlR (intR .i64) H aA cA ab) (hBl : w.B.length < 9223372036854775808) (hl : old.length < 9223372036854775808) (hw : ∀ x ∈ old, x.length < 9223372036854775808) (hal : ab.length < 9223372036854775808) : FnC Try.prog 12 #[.agg ⟨[.int .i64 w.J, .int .i64 w.S, .int .i64 w.N, .slice aB w.B.length cB]⟩, .slice a old.length c, .slice aA ab.length cA] H [] (RetR (fun v H2 _ => MakU (bestQ w old ab) (errE w old ab) H2 v)) := by
 refine FnC.intro (args := [.agg ⟨[.int .i64 w.J, .int .i64 w.S, .int .i64 w.N, .slice aB w.B.length cB]⟩, .slice a old.length c, .slice aA ab.length cA]) Try.func12 rfl rfl Try.ntmps12 rfl rfl rfl fun G rest => ?_
 refine XC.seq ?_; refine XC.region ?_; refine XO.box rfl rfl rfl (fun b3 => ?_); refine XO.assign rfl rfl ?_; refine XO.assign rfl rfl ?_; refine XO.assign rfl rfl ?_; refine XO.assign rfl rfl ?_; refine XO.nil ?_; refine XC.seq2 ?_; refine XC.seq ?_; refine XC.region ?_; refine XO.loadO 0 rfl rfl ty_24 rfl rfl rfl ?_; refine XO.move rfl rfl ?_; refine XO.move rfl rfl ?_; refine XO.callV rfl (rerror_fn w old ab _ _ _ _ _ _ _ hB hO hA hBl hl hw hal) rfl ?_; refine XO.assign rfl rfl ?_; refine XO.nil ?_; refine XC.seq2 ?_; refine XC.seq ?_; refine XC.seq ?_; refine XC.region ?_; refine XO.move rfl rfl ?_; refine XO.neq rfl rfl rfl ?_; refine XO.nil ?_; refine XC.seq2 ?_; refine XC.cond rfl (fun c0_2 => ?_) (fun c0_2 => ?_)
 ·refine XC.seq ?_; refine XC.region ?_; refine XO.move rfl rfl ?_; refine XO.assign rfl rfl ?_; refine XO.assign rfl rfl ?_; refine XO.assign rfl rfl ?_; refine XO.assign rfl rfl ?_; refine XO.nil ?_; refine XC.seq2 ?_; refine XC.ret ?_; refine seqX_ret ?_; refine ⟨rfl, _, [], rfl, (by repeat (first | exact List.Sublist.refl _ | apply List.Sublist.cons)), RetR.mk ?_⟩
  exact MakU.no (bq_e (by assumption)) rfl
 ·have hE : errE w old ab = 0 := by omega
  obtain ⟨n, hok, hrf⟩ := q_ok hE
  have hSn := hok.S
  have hLn := limN_eq hok.S
  have hLb := limN_b hok.S hok.n1 hok.B
  refine XC.skip ?_; refine XC.seq2 ?_; refine XC.seq ?_; refine XC.region ?_; refine XO.loadO 0 rfl rfl ty_24 rfl rfl rfl ?_; refine XO.move rfl rfl ?_; refine XO.move rfl rfl ?_; refine XO.fieldAddr rfl fa_24_3 rfl ?_; refine XO.loadO 0 rfl rfl ty_22 rfl rfl rfl ?_; refine XO.lenS (ts := #[]) rfl Try.underlying22 rfl ?_; refine XO.fieldAddr rfl fa_24_1 rfl ?_; refine XO.loadO 0 rfl rfl ty_3 rfl rfl rfl ?_; refine XO.mul rfl rfl (wrap_i64 (by omega) (by omega)) rfl ?_; refine XO.add rfl rfl (wrap_i64 (by omega) (by omega)) rfl ?_
  rw [hLn]
  refine XO.callH rfl (best_all w old ab n hrf w.B.length [] (limN w : Nat) _ _ _ none _ _ _ 0 _ (by simp) (fun x hx => by cases hx) hB hO hA (SlR.nil0 _ _)) rfl ?_; rintro _ HF hleF ⟨aF, cF, rfl, hF⟩; replace hB := hB.mono hleF; replace hO := hO.mono hleF; replace hA := hA.mono hleF; refine XO.move rfl rfl ?_; refine XO.extract rfl rfl rfl ?_; refine XO.extract rfl rfl rfl ?_; refine XO.assign rfl rfl ?_; refine XO.assign rfl rfl ?_; refine XO.nil ?_; refine XC.seq2 ?_; refine XC.seq ?_; refine XC.seq ?_; refine XC.region ?_; refine XO.move rfl rfl ?_; refine XO.notB rfl rfl ?_; refine XO.nil ?_; refine XC.seq2 ?_; refine XC.condB rfl (fun c1_4 => ?_) (fun c1_4 => ?_)
  ·have hbn := isSome_no (o := bestF w old (prs w.J ab) w.B.length [] (limN w : Nat)) (by simpa using c1_4)
   refine XC.seq ?_; refine XC.region ?_; refine XO.assign rfl rfl ?_; refine XO.assign rfl rfl ?_; refine XO.assign rfl rfl ?_; refine XO.assign rfl rfl ?_; refine XO.nil ?_; refine XC.seq2 ?_; refine XC.ret ?_; refine seqX_ret ?_; refine ⟨rfl, _, [], rfl, (by repeat (first | exact List.Sublist.refl _ | apply List.Sublist.cons)), RetR.mk ?_⟩
   exact MakU.no (bq_n hE hbn) hE.symm
  ·have hbs := getD_some (d := []) (o := bestF w old (prs w.J ab) w.B.length [] (limN w : Nat)) (by simpa using c1_4)
   obtain ⟨hpl, hpx⟩ := best_len hok.S _ _ _ _ hbs
   have hO0 := hok.O
   have hB0 := hok.B
   have hn1 := hok.n1
   have hpw : ∀ x ∈ (bestF w old (prs w.J ab) w.B.length [] (limN w : Nat)).getD [], x.length ≤ 1000 := fun x hx => by rcases hpx x hx with h | h; exact absurd h (by simp); omega
   simp only [List.length_nil, Nat.zero_add] at hpl
   refine XC.skip ?_; refine XC.seq2 ?_; refine XC.seq ?_; refine XC.region ?_; refine XO.move rfl rfl ?_; refine XO.move rfl rfl ?_; refine XO.move rfl rfl ?_; refine XO.callV rfl (rchanges_fn _ _ _ _ old ((bestF w old (prs w.J ab) w.B.length [] (limN w : Nat)).getD []) _ hO hF (by omega) hw hpw (by omega)) rfl ?_; refine XO.assign rfl rfl ?_; refine XO.assign rfl rfl ?_; refine XO.assign rfl rfl ?_; refine XO.assign rfl rfl ?_; refine XO.nil ?_; refine XC.seq2 ?_; refine XC.ret ?_; refine ⟨rfl, _, [], rfl, (by repeat (first | exact List.Sublist.refl _ | apply List.Sublist.cons)), RetR.mk ?_⟩
   exact MakU.yes (bq_y hE hbs) hE hF

theorem deny_fn (w : Wi) (old : Ls) (ab : List Int) (aB a aA : Option Addr) (cB c cA : Nat) (H : Hp) (hB : SlR tbR H aB cB w.B) (hO : SlR ilR H a c old) (hA : SlR (intR .i64) H aA cA ab) (hBl : w.B.length < 9223372036854775808) (hl : old.length < 9223372036854775808) (hw : ∀ x ∈ old, x.length < 9223372036854775808) (hal : ab.length < 9223372036854775808) (lim : Int) : FnC Try.prog 13 #[.agg ⟨[.int .i64 w.J, .int .i64 w.S, .int .i64 w.N, .slice aB w.B.length cB]⟩, .slice a old.length c, .slice aA ab.length cA, .int .i64 lim] H [] (RetR (fun v H2 _ => DenE (denQ w old ab lim) (errE w old ab) H2 v)) := by
 refine FnC.introC (args := [.agg ⟨[.int .i64 w.J, .int .i64 w.S, .int .i64 w.N, .slice aB w.B.length cB]⟩, .slice a old.length c, .slice aA ab.length cA, .int .i64 lim]) Try.func13 rfl rfl Try.ntmps13 rfl rfl rfl fun G rest => ?_
 refine XC.seq ?_; refine XC.region ?_; refine XO.box rfl rfl rfl (fun b4 => ?_); refine XO.alloc ze_34 rfl (fun b8 => ?_); refine XO.assign rfl rfl ?_; refine XO.assign rfl rfl ?_; refine XO.nil ?_; refine XC.seq2 ?_; refine XC.seq ?_; refine XC.region ?_; refine XO.loadO 1 rfl rfl ty_24 rfl rfl rfl ?_; refine XO.move rfl rfl ?_; refine XO.move rfl rfl ?_; refine XO.callH rfl (open_fn w old ab _ _ _ _ _ _ _ hB hO hA hBl hl hw hal) rfl ?_; rintro _ HO hleO ⟨pO, rfl, hOp⟩; replace hB := hB.mono hleO; replace hO := hO.mono hleO; replace hA := hA.mono hleO; refine XO.move rfl rfl ?_; refine XO.extract rfl rfl rfl ?_; refine XO.extract rfl rfl rfl ?_; refine XO.assign rfl rfl ?_; refine XO.assign rfl rfl ?_; refine XO.nil ?_; refine XC.seq2 ?_; refine XC.seq ?_; refine XC.seq ?_; refine XC.region ?_; refine XO.move rfl rfl ?_; refine XO.neq rfl rfl rfl ?_; refine XO.nil ?_; refine XC.seq2 ?_; refine XC.cond rfl (fun c0_2 => ?_) (fun c0_2 => ?_)
 ·refine XC.seq ?_; refine XC.region ?_; refine XO.loadO 0 rfl rfl ty_34 rfl rfl rfl ?_; refine XO.move rfl rfl ?_; refine XO.storeO 0 rfl rfl rfl rfl ty_34 rfl rfl rfl rfl rfl ?_; refine XO.assign rfl rfl ?_; refine XO.assign rfl rfl ?_; refine XO.nil ?_; refine XC.seq2 ?_; refine XC.ret ?_; refine seqX_ret ?_; refine ⟨rfl, _, [], (resC_cell 0 rfl rfl ty_34 rfl rfl (resC_tmp rfl (resC_tmp rfl resC_nil))), (by repeat (first | exact List.Sublist.refl _ | apply List.Sublist.cons)), RetR.mk ?_⟩
  exact DenE.no (dq_e (by assumption)) rfl
 ·have hE : errE w old ab = 0 := by omega
  obtain ⟨bj, rfl, hJ⟩ := hOp hE; obtain ⟨n, hok, hrf⟩ := q_ok hE
  have hSn := hok.S
  have hLn := limN_eq hok.S
  have hLb := limN_b hok.S hok.n1 hok.B
  refine XC.skip ?_; refine XC.seq2 ?_; refine XC.seq ?_; refine XC.region ?_; refine XO.move rfl rfl ?_; refine XO.move rfl rfl ?_; refine XO.callH rfl (deny_all bj w old _ n hok lim w.B.length [] none 0 _ (by simp) (fun x hx => by cases hx) hJ (SlR.nil0 _ _)) rfl ?_; rintro _ HF hleF ⟨aF, cF, rfl, hF⟩; replace hB := hB.mono hleF; replace hO := hO.mono hleF; replace hA := hA.mono hleF; replace hJ := hJ.mono hleF; refine XO.move rfl rfl ?_; refine XO.extract rfl rfl rfl ?_; refine XO.extract rfl rfl rfl ?_; refine XO.storeO 0 rfl rfl rfl rfl ty_34 rfl rfl rfl rfl rfl ?_; refine XO.assign rfl rfl ?_; refine XO.nil ?_; refine XC.seq2 ?_; refine XC.seq ?_; refine XC.region ?_; refine XO.loadO 0 rfl rfl ty_34 rfl rfl rfl ?_; refine XO.move rfl rfl ?_; refine XO.storeO 0 rfl rfl rfl rfl ty_34 rfl rfl rfl rfl rfl ?_; refine XO.assign rfl rfl ?_; refine XO.assign rfl rfl ?_; refine XO.nil ?_; refine XC.seq2 ?_; refine XC.ret ?_; refine ⟨rfl, _, [], (resC_cell 0 rfl rfl ty_34 rfl rfl (resC_tmp rfl (resC_tmp rfl resC_nil))), (by repeat (first | exact List.Sublist.refl _ | apply List.Sublist.cons)), RetR.mk ?_⟩
  rw [hE, dq_0 hE]
  exact ⟨_, _, rfl, hF⟩

theorem rdenyq_fn (w : Wi) (old : Ls) (ab : List Int) (aB a aA : Option Addr) (cB c cA : Nat) (H : Hp) (hB : SlR tbR H aB cB w.B) (hO : SlR ilR H a c old) (hA : SlR (intR .i64) H aA cA ab) (hBl : w.B.length < 9223372036854775808) (hl : old.length < 9223372036854775808) (hw : ∀ x ∈ old, x.length < 9223372036854775808) (hal : ab.length < 9223372036854775808) (lim : Int) : FnC Try.prog 14 #[.agg ⟨[.int .i64 w.J, .int .i64 w.S, .int .i64 w.N, .slice aB w.B.length cB]⟩, .slice a old.length c, .slice aA ab.length cA, .int .i64 lim] H [] (RetR (fun v H2 _ => DenE (denQ w old ab lim) (errE w old ab) H2 v)) := by
 refine FnC.introC (args := [.agg ⟨[.int .i64 w.J, .int .i64 w.S, .int .i64 w.N, .slice aB w.B.length cB]⟩, .slice a old.length c, .slice aA ab.length cA, .int .i64 lim]) Try.func14 rfl rfl Try.ntmps14 rfl rfl rfl fun G rest => ?_
 refine XC.seq ?_; refine XC.region ?_; refine XO.box rfl rfl rfl (fun b4 => ?_); refine XO.alloc ze_34 rfl (fun b8 => ?_); refine XO.assign rfl rfl ?_; refine XO.assign rfl rfl ?_; refine XO.nil ?_; refine XC.seq2 ?_; refine XC.seq ?_; refine XC.region ?_; refine XO.loadO 1 rfl rfl ty_24 rfl rfl rfl ?_; refine XO.move rfl rfl ?_; refine XO.move rfl rfl ?_; refine XO.callV rfl (rerror_fn w old ab _ _ _ _ _ _ _ hB hO hA hBl hl hw hal) rfl ?_; refine XO.assign rfl rfl ?_; refine XO.nil ?_; refine XC.seq2 ?_; refine XC.seq ?_; refine XC.seq ?_; refine XC.region ?_; refine XO.move rfl rfl ?_; refine XO.neq rfl rfl rfl ?_; refine XO.nil ?_; refine XC.seq2 ?_; refine XC.cond rfl (fun c0_2 => ?_) (fun c0_2 => ?_)
 ·refine XC.seq ?_; refine XC.region ?_; refine XO.build bk_34 bf_34 ze_34 rfl rfl rfl ?_; refine XO.move rfl rfl ?_; refine XO.storeO 0 rfl rfl rfl rfl ty_34 rfl rfl rfl rfl rfl ?_; refine XO.assign rfl rfl ?_; refine XO.assign rfl rfl ?_; refine XO.nil ?_; refine XC.seq2 ?_; refine XC.ret ?_; refine seqX_ret ?_; refine ⟨rfl, _, [], (resC_cell 0 rfl rfl ty_34 rfl rfl (resC_tmp rfl (resC_tmp rfl resC_nil))), (by repeat (first | exact List.Sublist.refl _ | apply List.Sublist.cons)), RetR.mk ?_⟩
  exact DenE.no (dq_e (by assumption)) rfl
 ·have hE : errE w old ab = 0 := by omega
  obtain ⟨n, hok, hrf⟩ := q_ok hE
  have hSn := hok.S
  have hLn := limN_eq hok.S
  have hLb := limN_b hok.S hok.n1 hok.B
  refine XC.skip ?_; refine XC.seq2 ?_; refine XC.seq ?_; refine XC.region ?_; refine XO.loadO 1 rfl rfl ty_24 rfl rfl rfl ?_; refine XO.move rfl rfl ?_; refine XO.move rfl rfl ?_; refine XO.move rfl rfl ?_; refine XO.callH rfl (rdeny_all lim w old ab n hrf w.B.length [] _ _ _ none _ _ _ 0 _ (by simp) (fun x hx => by cases hx) hB hO hA (SlR.nil0 _ _)) rfl ?_; rintro _ HF hleF ⟨aF, cF, rfl, hF⟩; replace hB := hB.mono hleF; replace hO := hO.mono hleF; replace hA := hA.mono hleF; refine XO.move rfl rfl ?_; refine XO.extract rfl rfl rfl ?_; refine XO.extract rfl rfl rfl ?_; refine XO.alloc ze_34 rfl (fun b12 => ?_); refine XO.storeO 0 rfl rfl rfl rfl ty_34 rfl rfl rfl rfl rfl ?_; refine XO.assign rfl rfl ?_; refine XO.nil ?_; refine XC.seq2 ?_; refine XC.seq ?_; refine XC.region ?_; refine XO.loadO 0 rfl rfl ty_34 rfl rfl rfl ?_; refine XO.move rfl rfl ?_; refine XO.storeO 1 rfl rfl rfl rfl ty_34 rfl rfl rfl rfl rfl ?_; refine XO.assign rfl rfl ?_; refine XO.assign rfl rfl ?_; refine XO.nil ?_; refine XC.seq2 ?_; refine XC.ret ?_; refine ⟨rfl, _, [], (resC_cell 1 rfl rfl ty_34 rfl rfl (resC_tmp rfl (resC_tmp rfl resC_nil))), (by repeat (first | exact List.Sublist.refl _ | apply List.Sublist.cons)), RetR.mk ?_⟩
  rw [hE, dq_0 hE]
  exact ⟨_, _, rfl, hF⟩

theorem refutes_fn (w : Wi) (old : Ls) (ab : List Int) (aB a aA : Option Addr) (cB c cA : Nat) (H : Hp) (hB : SlR tbR H aB cB w.B) (hO : SlR ilR H a c old) (hA : SlR (intR .i64) H aA cA ab) (hBl : w.B.length < 9223372036854775808) (hl : old.length < 9223372036854775808) (hw : ∀ x ∈ old, x.length < 9223372036854775808) (hal : ab.length < 9223372036854775808) (lim : Int) (e y : Int) (ks : List Den) (ad : Option Addr) (cd : Nat) (hks : SlR denR H ad cd ks) : FnC Try.prog 18 #[.agg ⟨[.int .i64 w.J, .int .i64 w.S, .int .i64 w.N, .slice aB w.B.length cB]⟩, .slice a old.length c, .slice aA ab.length cA, .int .i64 lim, .agg ⟨[.int .i64 e, .int .i64 y, .slice ad ks.length cd]⟩] H [] (RetR (fun v _ _ => v = .tuple #[.bool (refQ w old ab lim (.mk e y ks)), .int .i64 (errE w old ab)])) := by
 refine FnC.intro (args := [.agg ⟨[.int .i64 w.J, .int .i64 w.S, .int .i64 w.N, .slice aB w.B.length cB]⟩, .slice a old.length c, .slice aA ab.length cA, .int .i64 lim, .agg ⟨[.int .i64 e, .int .i64 y, .slice ad ks.length cd]⟩]) Try.func18 rfl rfl Try.ntmps18 rfl rfl rfl fun G rest => ?_
 refine XC.seq ?_; refine XC.region ?_; refine XO.box rfl rfl rfl (fun b5 => ?_); refine XO.box rfl rfl rfl (fun b9 => ?_); refine XO.assign rfl rfl ?_; refine XO.assign rfl rfl ?_; refine XO.nil ?_; refine XC.seq2 ?_; refine XC.seq ?_; refine XC.region ?_; refine XO.loadO 1 rfl rfl ty_24 rfl rfl rfl ?_; refine XO.move rfl rfl ?_; refine XO.move rfl rfl ?_; refine XO.callH rfl (open_fn w old ab _ _ _ _ _ _ _ hB hO hA hBl hl hw hal) rfl ?_; rintro _ HO hleO ⟨pO, rfl, hOp⟩; replace hB := hB.mono hleO; replace hO := hO.mono hleO; replace hA := hA.mono hleO; replace hks := hks.mono hleO; refine XO.move rfl rfl ?_; refine XO.extract rfl rfl rfl ?_; refine XO.extract rfl rfl rfl ?_; refine XO.assign rfl rfl ?_; refine XO.assign rfl rfl ?_; refine XO.nil ?_; refine XC.seq2 ?_; refine XC.seq ?_; refine XC.seq ?_; refine XC.region ?_; refine XO.move rfl rfl ?_; refine XO.neq rfl rfl rfl ?_; refine XO.nil ?_; refine XC.seq2 ?_; refine XC.cond rfl (fun c0_2 => ?_) (fun c0_2 => ?_)
 ·refine XC.seq ?_; refine XC.region ?_; refine XO.move rfl rfl ?_; refine XO.assign rfl rfl ?_; refine XO.assign rfl rfl ?_; refine XO.nil ?_; refine XC.seq2 ?_; refine XC.ret ?_; refine seqX_ret ?_; refine ⟨rfl, _, [], rfl, (by repeat (first | exact List.Sublist.refl _ | apply List.Sublist.cons)), RetR.mk ?_⟩
  rw [rq_e (by assumption)]; rfl
 ·have hE : errE w old ab = 0 := by omega
  obtain ⟨bj, rfl, hJ⟩ := hOp hE; obtain ⟨n, hok, hrf⟩ := q_ok hE
  have hSn := hok.S
  have hLn := limN_eq hok.S
  have hLb := limN_b hok.S hok.n1 hok.B
  refine XC.skip ?_; refine XC.seq2 ?_; refine XC.seq ?_; refine XC.region ?_; refine XO.move rfl rfl ?_; refine XO.move rfl rfl ?_; refine XO.loadO 0 rfl rfl ty_34 rfl rfl rfl ?_; refine XO.callV rfl (refutes_all bj w old _ n hok lim w.B.length [] none 0 e y ks _ _ _ (by simp) (fun x hx => by cases hx) hJ (SlR.nil0 _ _) hks) rfl ?_; refine XO.assign rfl rfl ?_; refine XO.assign rfl rfl ?_; refine XO.nil ?_; refine XC.seq2 ?_; refine XC.ret ?_; refine ⟨rfl, _, [], rfl, (by repeat (first | exact List.Sublist.refl _ | apply List.Sublist.cons)), RetR.mk ?_⟩
  rw [rq_0 hE, hE]; rfl

theorem rrefutes_fn (w : Wi) (old : Ls) (ab : List Int) (aB a aA : Option Addr) (cB c cA : Nat) (H : Hp) (hB : SlR tbR H aB cB w.B) (hO : SlR ilR H a c old) (hA : SlR (intR .i64) H aA cA ab) (hBl : w.B.length < 9223372036854775808) (hl : old.length < 9223372036854775808) (hw : ∀ x ∈ old, x.length < 9223372036854775808) (hal : ab.length < 9223372036854775808) (lim : Int) (e y : Int) (ks : List Den) (ad : Option Addr) (cd : Nat) (hks : SlR denR H ad cd ks) : FnC Try.prog 19 #[.agg ⟨[.int .i64 w.J, .int .i64 w.S, .int .i64 w.N, .slice aB w.B.length cB]⟩, .slice a old.length c, .slice aA ab.length cA, .int .i64 lim, .agg ⟨[.int .i64 e, .int .i64 y, .slice ad ks.length cd]⟩] H [] (RetR (fun v _ _ => v = .tuple #[.bool (refQ w old ab lim (.mk e y ks)), .int .i64 (errE w old ab)])) := by
 refine FnC.intro (args := [.agg ⟨[.int .i64 w.J, .int .i64 w.S, .int .i64 w.N, .slice aB w.B.length cB]⟩, .slice a old.length c, .slice aA ab.length cA, .int .i64 lim, .agg ⟨[.int .i64 e, .int .i64 y, .slice ad ks.length cd]⟩]) Try.func19 rfl rfl Try.ntmps19 rfl rfl rfl fun G rest => ?_
 refine XC.seq ?_; refine XC.region ?_; refine XO.box rfl rfl rfl (fun b5 => ?_); refine XO.box rfl rfl rfl (fun b9 => ?_); refine XO.assign rfl rfl ?_; refine XO.assign rfl rfl ?_; refine XO.nil ?_; refine XC.seq2 ?_; refine XC.seq ?_; refine XC.region ?_; refine XO.loadO 1 rfl rfl ty_24 rfl rfl rfl ?_; refine XO.move rfl rfl ?_; refine XO.move rfl rfl ?_; refine XO.callV rfl (rerror_fn w old ab _ _ _ _ _ _ _ hB hO hA hBl hl hw hal) rfl ?_; refine XO.assign rfl rfl ?_; refine XO.nil ?_; refine XC.seq2 ?_; refine XC.seq ?_; refine XC.seq ?_; refine XC.region ?_; refine XO.move rfl rfl ?_; refine XO.neq rfl rfl rfl ?_; refine XO.nil ?_; refine XC.seq2 ?_; refine XC.cond rfl (fun c0_2 => ?_) (fun c0_2 => ?_)
 ·refine XC.seq ?_; refine XC.region ?_; refine XO.move rfl rfl ?_; refine XO.assign rfl rfl ?_; refine XO.assign rfl rfl ?_; refine XO.nil ?_; refine XC.seq2 ?_; refine XC.ret ?_; refine seqX_ret ?_; refine ⟨rfl, _, [], rfl, (by repeat (first | exact List.Sublist.refl _ | apply List.Sublist.cons)), RetR.mk ?_⟩
  rw [rq_e (by assumption)]; rfl
 ·have hE : errE w old ab = 0 := by omega
  obtain ⟨n, hok, hrf⟩ := q_ok hE
  have hSn := hok.S
  have hLn := limN_eq hok.S
  have hLb := limN_b hok.S hok.n1 hok.B
  refine XC.skip ?_; refine XC.seq2 ?_; refine XC.seq ?_; refine XC.region ?_; refine XO.loadO 1 rfl rfl ty_24 rfl rfl rfl ?_; refine XO.move rfl rfl ?_; refine XO.move rfl rfl ?_; refine XO.move rfl rfl ?_; refine XO.loadO 0 rfl rfl ty_34 rfl rfl rfl ?_; refine XO.callV rfl (rright_all lim w old ab n hrf w.B.length [] e y ks _ _ _ _ _ none _ _ _ 0 _ (by simp) (fun x hx => by cases hx) hB hO hA (SlR.nil0 _ _) hks) rfl ?_; refine XO.assign rfl rfl ?_; refine XO.assign rfl rfl ?_; refine XO.nil ?_; refine XC.seq2 ?_; refine XC.ret ?_; refine ⟨rfl, _, [], rfl, (by repeat (first | exact List.Sublist.refl _ | apply List.Sublist.cons)), RetR.mk ?_⟩
  rw [rq_0 hE, hE]; rfl

end Go.Proofs

/- Repairs: what the known inputs give. -/
set_option autoImplicit false
set_option linter.unusedVariables false
set_option linter.unusedSimpArgs false
namespace Go.Proofs
open Go.XL
abbrev tb3 : Tb := List.replicate 3 (List.replicate 3 false)
abbrev tb1 : Tb := List.replicate 1 (List.replicate 1 false)
abbrev lA : Ls := [[0], [1], [2]]
theorem sA : makQ ⟨3, 1, 0, tb3⟩ lA [1] = some ([[0], [0], [2]], 1) ∧ errE ⟨3, 1, 0, tb3⟩ lA [1] = 0 := by decide +kernel
theorem sB : makQ ⟨3, 1, 0, tb3⟩ lA [] = some (lA, 0) ∧ errE ⟨3, 1, 0, tb3⟩ lA [] = 0 := by decide +kernel
theorem sC : makQ ⟨1, 1, 0, []⟩ [] [] = some ([], 0) ∧ errE ⟨1, 1, 0, []⟩ [] [] = 0 := by decide +kernel
theorem sD : makQ ⟨1, 1, 0, tb1⟩ [[0]] [0] = none ∧ errE ⟨1, 1, 0, tb1⟩ [[0]] [0] = 0 := by decide +kernel
theorem sE : makQ ⟨3, 1, 0, tb3⟩ lA [1, 0] = none ∧ errE ⟨3, 1, 0, tb3⟩ lA [1, 0] = 300 := by decide +kernel
theorem sF : makQ ⟨3, 1, 0, tb3⟩ [] [] = none ∧ errE ⟨3, 1, 0, tb3⟩ [] [] = 280 := by decide +kernel
theorem sG : denQ ⟨1, 1, 0, []⟩ [] [] 1 = none ∧ errE ⟨1, 1, 0, []⟩ [] [] = 0 := ⟨rfl, by decide +kernel⟩
theorem sH : denQ ⟨1, 1, 0, []⟩ [] [] 0 = some (.mk (-1) 3 []) ∧ errE ⟨1, 1, 0, []⟩ [] [] = 0 := ⟨rfl, by decide +kernel⟩
theorem sI : refQ ⟨3, 1, 0, tb3⟩ lA [1] 1 (.mk (-1) 3 []) = false := by decide +kernel
theorem sK : refQ ⟨3, 1, 0, tb3⟩ lA [1] 0 (.mk (-1) 3 []) = true := by decide +kernel
end Go.Proofs
