/- The walks of the functions of repairs: what each of them computes, at any input. -/
import Derived.Test.YtnckfcgnmhplnaaB3
set_option autoImplicit false
set_option linter.unusedVariables false
set_option linter.unusedSimpArgs false
namespace Go.Proofs
open Go.XL

theorem by_4 : Nat.ble (Try.prog.bytesOf 4) 4096 = true := by kernel_rfl
theorem by_68 : Nat.ble (Try.prog.bytesOf 68) 4096 = true := by kernel_rfl
theorem ty_24 : tyF Try.prog 24 4 true = true := by kernel_rfl
theorem ze_4 : zeroC Try.prog 4 = some [.bool false] := by kernel_rfl
theorem ze_68 : zeroC Try.prog 68 = some [.slice none 0 0] := by kernel_rfl

theorem check_fn (w : Wi) (aB : Option Addr) (cB : Nat) (a : Option Addr) (c : Nat) (l : Ls) (H : Hp) (hs : SlR ilR H a c l) (hl : l.length < 9223372036854775808) (hw : ∀ x ∈ l, x.length < 9223372036854775808) (hB : SlR tbR H aB cB w.B) (hBl : w.B.length < 9223372036854775808) : FnC Try.prog 37 #[.agg ⟨[.int .i64 w.J, .int .i64 w.S, .int .i64 w.N, .slice aB w.B.length cB]⟩, .slice a l.length c] H [] (RetR (fun v _ _ => v = .int .i64 (chkD w l))) := by
 refine FnC.intro (args := [.agg ⟨[.int .i64 w.J, .int .i64 w.S, .int .i64 w.N, .slice aB w.B.length cB]⟩, .slice a l.length c]) Try.func37 rfl rfl Try.ntmps37 rfl rfl rfl fun G rest => ?_
 refine XC.seq ?_; refine XC.region ?_; refine XO.box rfl rfl rfl (fun b2 => ?_); refine XO.assign rfl rfl ?_; refine XO.nil ?_; refine XC.seq2 ?_; refine XC.seq ?_; refine XC.seq ?_; refine XC.region ?_; refine XO.loadO 0 rfl rfl ty_24 rfl rfl rfl ?_; refine XO.callV rfl (right_fn w _ _ _ hB hBl) rfl ?_; refine XO.not rfl rfl ?_; refine XO.nil ?_; refine XC.seq2 ?_; refine XC.cond rfl (fun c0_2 => ?_) (fun c0_2 => ?_)
 ·refine XC.seq ?_; refine XC.region ?_; refine XO.assign rfl rfl ?_; refine XO.nil ?_; refine XC.seq2 ?_; refine XC.ret ?_; refine seqX_ret ?_; refine ⟨rfl, _, [], rfl, (by repeat (first | exact List.Sublist.refl _ | apply List.Sublist.cons)), RetR.mk ?_⟩
  first | exact congrArg (Value.int .i64) (chkD_290 (by assumption)).symm | exact congrArg (Value.int .i64) (chkD_len hrt (by omega)).symm | exact congrArg (Value.int .i64) (chkD_no hrt hlen (fitAll_n hF hxR hx21 (by assumption))).symm | exact congrArg (Value.int .i64) (chkD_0 hrt hlen hF).symm
 ·have hrt : rightW w := Decidable.not_not.1 c0_2
  refine XC.skip ?_; refine XC.seq2 ?_; refine XC.seq ?_; refine XC.seq ?_; refine XC.region ?_; refine XO.move rfl rfl ?_; refine XO.lenS (ts := #[]) rfl Try.underlying25 rfl ?_; refine XO.fieldAddr rfl fa_24_3 rfl ?_; refine XO.loadO 0 rfl rfl ty_22 rfl rfl rfl ?_; refine XO.lenS (ts := #[]) rfl Try.underlying22 rfl ?_; refine XO.neq rfl rfl rfl ?_; refine XO.nil ?_; refine XC.seq2 ?_; refine XC.cond rfl (fun c1_3 => ?_) (fun c1_3 => ?_)
  ·refine XC.seq ?_; refine XC.region ?_; refine XO.assign rfl rfl ?_; refine XO.nil ?_; refine XC.seq2 ?_; refine XC.ret ?_; refine seqX_ret ?_; refine ⟨rfl, _, [], rfl, (by repeat (first | exact List.Sublist.refl _ | apply List.Sublist.cons)), RetR.mk ?_⟩
   first | exact congrArg (Value.int .i64) (chkD_290 (by assumption)).symm | exact congrArg (Value.int .i64) (chkD_len hrt (by omega)).symm | exact congrArg (Value.int .i64) (chkD_no hrt hlen (fitAll_n hF hxR hx21 (by assumption))).symm | exact congrArg (Value.int .i64) (chkD_0 hrt hlen hF).symm
  ·have hlen : l.length = w.B.length := by omega
   refine XC.skip ?_; refine XC.seq2 ?_; refine XC.seq ?_; refine XC.seq ?_; refine XC.region ?_; refine XO.move rfl rfl ?_; refine XO.lenS (ts := #[]) rfl Try.underlying25 rfl ?_; refine XO.move rfl rfl ?_; refine XO.nil ?_; refine XC.seq2 ?_; refine XC.block ?_; refine XC.keep [18, 2, 16, 17] rfl ?_; refine XC.loop (base := [(2, _), (16, _), (17, _)]) (fun ζ : Nat => [(18, .int .i64 (ζ : Nat))]) (fun ζ Hl own => ζ ≤ l.length ∧ (b2, .cells 24 [.int .i64 w.J, .int .i64 w.S, .int .i64 w.N, .slice aB w.B.length cB]) :: rest = own ∧ (fitAll w w.B l = fitAll w (w.B.drop (ζ)) (l.drop (ζ)))) (fun ζ => l.length - ζ) 0 (prov_cons (rfl) (prov_cons (rfl) (prov_cons (rfl) (prov_cons (rfl) prov_nil)))) (by repeat (first | exact List.Sublist.refl _ | apply List.Sublist.cons_cons | apply List.Sublist.cons)) ⟨Nat.zero_le _, rfl, rfl⟩ ?_; rintro k Hl0 _ hle0 ⟨hkk, rfl, hF⟩; replace hB := hB.mono hle0; replace hs := hs.mono hle0
   try dsimp only at ⊢
   refine XC.seq ?_; refine XC.region ?_; refine XO.lss rfl rfl rfl ?_; refine XO.nil ?_; refine XC.seq2 ?_; refine XC.seq ?_; refine XC.cond rfl (fun c2_4 => ?_) (fun c2_4 => ?_)
   ·refine XC.skip ?_; refine XC.seq2 ?_; refine XC.seq ?_; refine XC.block ?_; refine XC.seq ?_; refine XC.region ?_; refine XO.move rfl rfl ?_; refine XO.indexN rfl hs rfl Try.underlying25 ty_26 (by omega) rfl ?_; rintro eb21 eo21 _ x21 hx21 ⟨ax21, cx21, rfl, hd21⟩ hp21; refine XO.loadH rfl (by assumption) ty_26 rfl rfl rfl ?_; refine XO.assign rfl rfl ?_; refine XO.assign rfl rfl ?_; refine XO.nil ?_; refine XC.seq2 ?_; refine XC.seq ?_; refine XC.keep [2, 5, 6, 16, 17, 18] rfl ?_; obtain ⟨bER, oER, rfl⟩ := hB.addr (by omega); obtain ⟨_, xR, hxR, ⟨axR, cxR, rfl, hdR⟩, hpR⟩ := hB.elem (k) (by omega)
    apply XC.draw 7 [eqF _, eqF _, eqF _, eqF _, eqF _, eqF _, eqF _] follows (by kernel_rfl) (by kernel_rfl) ⟨eqF_mono _, eqF_mono _, eqF_mono _, eqF_mono _, eqF_mono _, eqF_mono _, eqF_mono _, trivial⟩ ?steps6 ?tail6
    case steps6 =>
     refine stepsK_cons rfl ?_ ?_
     ·intro X
      refine withPreds_nil rfl ?_; refine XO.loadO 0 rfl rfl ty_24 rfl rfl rfl ?_; refine XO.nil ?_
      exact stepQ_ok rfl (rfl)
     refine stepsK_cons rfl ?_ ?_
     ·intro X
      refine withPreds_nil rfl ?_; refine XO.fieldAddr rfl fa_24_3 rfl ?_; refine XO.nil ?_
      exact stepQ_ok rfl (rfl)
     refine stepsK_cons rfl ?_ ?_
     ·intro X
      refine withPreds_cons rfl rfl ?_; rintro _ rfl; refine withPreds_nil rfl ?_; refine XO.loadO 0 rfl rfl ty_22 rfl rfl rfl ?_; refine XO.nil ?_
      exact stepQ_ok rfl (rfl)
     refine stepsK_cons rfl ?_ ?_
     ·intro X
      refine withPreds_nil rfl ?_; refine XO.move rfl rfl ?_; refine XO.nil ?_
      exact stepQ_ok rfl (rfl)
     refine stepsK_cons rfl ?_ ?_
     ·intro X
      refine withPreds_cons rfl rfl ?_; rintro _ rfl; refine withPreds_cons rfl rfl ?_; rintro _ rfl; refine withPreds_nil rfl ?_; refine XO.indexE rfl rfl Try.underlying22 ty_68 (by omega) (by omega) rfl ?_; refine XO.nil ?_
      exact stepQ_ok rfl (rfl)
     refine stepsK_cons rfl ?_ ?_
     ·intro X
      refine withPreds_cons rfl rfl ?_; rintro _ rfl; refine withPreds_nil rfl ?_; refine XO.loadH rfl (by assumption) ty_68 rfl rfl rfl ?_; refine XO.nil ?_
      exact stepQ_ok rfl (rfl)
     refine stepsK_cons rfl ?_ ?_
     ·intro X
      refine withPreds_nil rfl ?_; refine XO.move rfl rfl ?_; refine XO.nil ?_
      exact stepQ_ok rfl (rfl)
     exact stepsD_end rfl
    case tail6 =>
     refine withPreds_cons rfl rfl ?_; rintro _ rfl; refine withPreds_cons rfl rfl ?_; rintro _ rfl; refine withPreds_cons rfl rfl ?_; rintro _ rfl; refine withPreds_cons rfl rfl ?_; rintro _ rfl; refine withPreds_cons rfl rfl ?_; rintro _ rfl; refine withPreds_cons rfl rfl ?_; rintro _ rfl; refine withPreds_cons rfl rfl ?_; rintro _ rfl; refine withPreds_nil rfl ?_; refine XO.callV rfl (fits_fn w _ _ xR axR cxR ax21 cx21 x21 _ hd21 (hw _ (List.mem_of_getElem? hx21)) hdR (hrt.2.2 _ (List.mem_of_getElem? hxR))) rfl ?_; refine XO.not rfl rfl ?_; refine XO.nil ?_; refine XC.seq2 ?_; refine XC.cond rfl (fun c3_9 => ?_) (fun c3_9 => ?_)
     ·refine XC.seq ?_; refine XC.region ?_; refine XO.assign rfl rfl ?_; refine XO.nil ?_; refine XC.seq2 ?_; refine XC.ret ?_; refine blockR ?_; refine seqX_ret ?_; refine loopX_ret ?_; refine blockR ?_; refine seqX_ret ?_; refine ⟨rfl, _, [], rfl, (by repeat (first | exact List.Sublist.refl _ | apply List.Sublist.cons)), RetR.mk ?_⟩
      first | exact congrArg (Value.int .i64) (chkD_290 (by assumption)).symm | exact congrArg (Value.int .i64) (chkD_len hrt (by omega)).symm | exact congrArg (Value.int .i64) (chkD_no hrt hlen (fitAll_n hF hxR hx21 (by assumption))).symm | exact congrArg (Value.int .i64) (chkD_0 hrt hlen hF).symm
     ·refine XC.skip ?_; refine blockN ?_; refine XC.seq2 ?_; refine XC.region ?_; refine XO.add rfl rfl (wrap_i64 (by omega) (by omega)) rfl ?_; refine XO.move rfl rfl ?_; refine XO.nil ?_; refine loop_next (k + 1) (by show l.length - (k + 1) < l.length - k; omega) (prov_cons (rfl) (prov_cons (rfl) (prov_cons (rfl) (prov_cons (rfl) prov_nil)))) (⟨by show k + 1 ≤ l.length; omega, rfl, fitAll_y hF hxR hx21 (Decidable.not_not.1 (by assumption))⟩) (by repeat (first | exact List.Sublist.refl _ | apply List.Sublist.cons_cons | apply List.Sublist.cons)) (hle0)
   ·obtain rfl : k = l.length := by omega
    rw [List.drop_length, fitAll_e] at hF
    refine XC.exit ?_; refine seqX_exit ?_; refine loopX_exit ?_; refine blockHit rfl ?_; refine XC.seq2 ?_; refine XC.seq ?_; refine XC.region ?_; refine XO.assign rfl rfl ?_; refine XO.nil ?_; refine XC.seq2 ?_; refine XC.ret ?_; refine ⟨rfl, _, [], rfl, (by repeat (first | exact List.Sublist.refl _ | apply List.Sublist.cons)), RetR.mk ?_⟩
    first | exact congrArg (Value.int .i64) (chkD_290 (by assumption)).symm | exact congrArg (Value.int .i64) (chkD_len hrt (by omega)).symm | exact congrArg (Value.int .i64) (chkD_no hrt hlen (fitAll_n hF hxR hx21 (by assumption))).symm | exact congrArg (Value.int .i64) (chkD_0 hrt hlen hF).symm

set_option maxRecDepth 100000 in
set_option maxHeartbeats 1600000 in
theorem rlist_fn (w : Wi) (aB : Option Addr) (cB : Nat) (e : Nat) (r : List Bool) (hr : w.B[e]? = some r) (a : Option Addr) (c : Nat) (l : List Int) (H : Hp) (hs : SlR (intR .i64) H a c l) (hl : l.length < 9223372036854775808) (hB : SlR tbR H aB cB w.B) (hBl : w.B.length < 9223372036854775808) (hrl : (r.length : Int) = w.J) : FnC Try.prog 58 #[.agg ⟨[.int .i64 w.J, .int .i64 w.S, .int .i64 w.N, .slice aB w.B.length cB]⟩, .int .i64 (e : Nat), .slice a l.length c] H [] (RetR (fun v _ _ => v = .bool (decide (fitW w r l)))) := by
 have he : e < w.B.length := (List.getElem?_eq_some_iff.1 hr).1
 refine FnC.intro (args := [.agg ⟨[.int .i64 w.J, .int .i64 w.S, .int .i64 w.N, .slice aB w.B.length cB]⟩, .int .i64 (e : Nat), .slice a l.length c]) Try.func58 rfl rfl Try.ntmps58 rfl rfl rfl fun G rest => ?_
 refine XC.seq ?_; refine XC.region ?_; refine XO.box rfl rfl rfl (fun b3 => ?_); refine XO.assign rfl rfl ?_; refine XO.nil ?_; refine XC.seq2 ?_; refine XC.seq ?_; refine XC.seq ?_; refine XC.region ?_; refine XO.move rfl rfl ?_; refine XO.lenS (ts := #[]) rfl Try.underlying26 rfl ?_; refine XO.fieldAddr rfl fa_24_1 rfl ?_; refine XO.loadO 0 rfl rfl ty_3 rfl rfl rfl ?_; refine XO.neq rfl rfl rfl ?_; refine XO.nil ?_; refine XC.seq2 ?_; refine XC.cond rfl (fun c0_1 => ?_) (fun c0_1 => ?_)
 ·refine XC.seq ?_; refine XC.region ?_; refine XO.assign rfl rfl ?_; refine XO.nil ?_; refine XC.seq2 ?_; refine XC.ret ?_; refine seqX_ret ?_; refine ⟨rfl, _, [], rfl, (by repeat (first | exact List.Sublist.refl _ | apply List.Sublist.cons)), RetR.mk ?_⟩
  first | exact congrArg Value.bool (decide_eq_false (fun h => by have h2 := h.1; omega)).symm | exact congrArg Value.bool (decide_eq_false (fun h => by have h2 := fitB_n hF hxX (fun h3 => by first | omega | (have h4 := gt_last hL hxP h3.1; omega) | simp_all); rw [h.2] at h2; cases h2)).symm | exact congrArg Value.bool (decide_eq_true ⟨by omega, hF⟩).symm
 ·refine XC.skip ?_; refine XC.seq2 ?_; refine XC.seq ?_; refine XC.seq ?_; refine XC.region ?_; refine XO.assign rfl rfl ?_; refine XO.nil ?_; refine XC.seq2 ?_; refine XC.block ?_; refine XC.keep [7, 1, 2, 3] rfl ?_; refine XC.loop (base := [(1, _), (2, _), (3, _)]) (fun ζ : Nat × (Int) => [(7, .int .i64 (ζ.1 : Nat))]) (fun ζ Hl own => ζ.1 ≤ l.length ∧ (b3, .cells 24 [.int .i64 w.J, .int .i64 w.S, .int .i64 w.N, .slice aB w.B.length cB]) :: rest = own ∧ (fitB w.J r (-1) l = fitB w.J r ζ.2 (l.drop (ζ.1))) ∧ (-1 ≤ ζ.2) ∧ (ζ.2 = if ζ.1 = 0 then -1 else l.getD (ζ.1 - 1) 0)) (fun ζ => l.length - ζ.1) (0, -1) (prov_cons (rfl) (prov_cons (rfl) (prov_cons (rfl) (prov_cons (rfl) prov_nil)))) (by repeat (first | exact List.Sublist.refl _ | apply List.Sublist.cons_cons | apply List.Sublist.cons)) ⟨Nat.zero_le _, rfl, rfl, by decide, rfl⟩ ?_; rintro ⟨k, last⟩ Hl0 _ hle0 ⟨hkk, rfl, hF, hla, hL⟩; replace hs := hs.mono hle0; replace hB := hB.mono hle0
  try dsimp only at hkk hF hla hL ⊢
  refine XC.seq ?_; refine XC.seq ?_; refine XC.region ?_; refine XO.move rfl rfl ?_; refine XO.move rfl rfl ?_; refine XO.lenS (ts := #[]) rfl Try.underlying26 rfl ?_; refine XO.lss rfl rfl rfl ?_; refine XO.nil ?_; refine XC.seq2 ?_; refine XC.cond rfl (fun c1_2 => ?_) (fun c1_2 => ?_)
  ·obtain ⟨xX, hxX⟩ : ∃ x, l[k]? = some x := ⟨_, List.getElem?_eq_getElem (by omega)⟩
   obtain ⟨xP, hxP⟩ : ∃ x, l[k - 1]? = some x := ⟨_, List.getElem?_eq_getElem (by omega)⟩
   refine XC.skip ?_; refine XC.seq2 ?_; refine XC.seq ?_; refine XC.block ?_; refine XC.seq ?_
   by_cases h5 : xX < 0
   ·skip
    refine XC.keep [1, 2, 3, 7] rfl ?_
    skip
    obtain ⟨bEY, oEY, rfl⟩ := hs.addr (by omega); obtain ⟨_, xY, hxY, rfl, hpY⟩ := hs.elem (k) (by omega); obtain rfl := Option.some.inj (hxX.symm.trans hxY)
    apply XC.drawH (fun _ => True) trivial [] (by decide) (fun _ _ _ _ => True) (fun _ _ _ _ _ _ h => h) 40 [eqF _, eqF _, eqF _, eqF _, eqF _, eqF _, eqF _, eqF _, eqF _, eqF _, eqF _, eqF _, eqF _, eqF _, eqF _, eqF _, eqF _, eqF _, eqF _, eqF _, eqF _, eqF _, eqF _, eqF _, eqF _, eqF _, eqF _, eqF _, eqF _, eqF _, eqF _, eqF _, eqF _, eqF _, eqF _, eqF _, eqF _, eqF _, eqF _, eqF _] follows (by kernel_rfl) ⟨eqF_mono _, eqF_mono _, eqF_mono _, eqF_mono _, eqF_mono _, eqF_mono _, eqF_mono _, eqF_mono _, eqF_mono _, eqF_mono _, eqF_mono _, eqF_mono _, eqF_mono _, eqF_mono _, eqF_mono _, eqF_mono _, eqF_mono _, eqF_mono _, eqF_mono _, eqF_mono _, eqF_mono _, eqF_mono _, eqF_mono _, eqF_mono _, eqF_mono _, eqF_mono _, eqF_mono _, eqF_mono _, eqF_mono _, eqF_mono _, eqF_mono _, eqF_mono _, eqF_mono _, eqF_mono _, eqF_mono _, eqF_mono _, eqF_mono _, eqF_mono _, eqF_mono _, eqF_mono _, trivial⟩ (by decide) ?steps3 ?tail3
    case steps3 =>
     refine stepsH_cons rfl ?_ ?_
     ·intro X ext HD hleD _
      replace hs := hs.mono hleD; replace hB := hB.mono hleD; replace hpY := hpY.mono hleD; replace hle0 := hle0.trans hleD; refine withP_nil rfl ?_; refine XO.move rfl rfl ?_; refine XO.nil ?_; exact stepQN_ok rfl trivial (rfl)
     refine stepsH_cons rfl ?_ ?_
     ·intro X ext HD hleD _
      replace hs := hs.mono hleD; replace hB := hB.mono hleD; replace hpY := hpY.mono hleD; replace hle0 := hle0.trans hleD; refine withP_nil rfl ?_; refine XO.move rfl rfl ?_; refine XO.nil ?_; exact stepQN_ok rfl trivial (rfl)
     refine stepsH_cons rfl ?_ ?_
     ·intro X ext HD hleD _
      replace hs := hs.mono hleD; replace hB := hB.mono hleD; replace hpY := hpY.mono hleD; replace hle0 := hle0.trans hleD; refine withP_cons rfl rfl ?_; rintro _ rfl; refine withP_cons rfl rfl ?_; rintro _ rfl; refine withP_nil rfl ?_; refine XO.indexE rfl rfl Try.underlying26 ty_3 (by omega) (by omega) rfl ?_; refine XO.nil ?_; exact stepQN_ok rfl trivial (rfl)
     refine stepsH_cons rfl ?_ ?_
     ·intro X ext HD hleD _
      replace hs := hs.mono hleD; replace hB := hB.mono hleD; replace hpY := hpY.mono hleD; replace hle0 := hle0.trans hleD; refine withP_cons rfl rfl ?_; rintro _ rfl; refine withP_nil rfl ?_; refine XO.loadH rfl (by assumption) ty_3 rfl rfl rfl ?_; refine XO.nil ?_; exact stepQN_ok rfl trivial (rfl)
     refine stepsH_cons rfl ?_ ?_
     ·intro X ext HD hleD _
      replace hs := hs.mono hleD; replace hB := hB.mono hleD; replace hpY := hpY.mono hleD; replace hle0 := hle0.trans hleD; refine withP_cons rfl rfl ?_; rintro _ rfl; refine withP_nil rfl ?_; refine XO.lss rfl rfl rfl ?_; refine XO.nil ?_; exact stepQN_ok rfl trivial (rfl)
     refine stepsH_cons rfl ?_ ?_
     ·intro X ext HD hleD _
      replace hs := hs.mono hleD; replace hB := hB.mono hleD; replace hpY := hpY.mono hleD; replace hle0 := hle0.trans hleD; refine withP_cons rfl rfl ?_; rintro _ rfl; refine withP_nil rfl ?_; refine XO.move rfl rfl ?_; refine XO.nil ?_; exact stepQN_ok rfl trivial (rfl)
     refine stepsH_cons rfl ?_ ?_
     ·intro X ext HD hleD _
      replace hs := hs.mono hleD; replace hB := hB.mono hleD; replace hpY := hpY.mono hleD; replace hle0 := hle0.trans hleD; refine withP_cons rfl rfl ?_; rintro _ rfl; refine withP_nil rfl ?_; refine XO.guardF rfl rfl (decide_eq_true h5) rfl rfl ?_; refine XO.nil ?_; exact stepQN_ok rfl trivial (rfl)
     refine stepsH_cons rfl ?_ ?_
     ·intro X ext HD hleD _
      replace hs := hs.mono hleD; replace hB := hB.mono hleD; replace hpY := hpY.mono hleD; replace hle0 := hle0.trans hleD; refine withP_cons rfl rfl ?_; rintro _ rfl; refine withP_nil rfl ?_; refine XO.guardF rfl rfl (decide_eq_true h5) rfl rfl ?_; refine XO.nil ?_; exact stepQN_ok rfl trivial (rfl)
     refine stepsH_cons rfl ?_ ?_
     ·intro X ext HD hleD _
      replace hs := hs.mono hleD; replace hB := hB.mono hleD; replace hpY := hpY.mono hleD; replace hle0 := hle0.trans hleD; refine withP_cons rfl rfl ?_; rintro _ rfl; refine withP_cons rfl rfl ?_; rintro _ rfl; refine withP_cons rfl rfl ?_; rintro _ rfl; refine withP_nil rfl ?_; refine XO.guardF rfl rfl (decide_eq_true h5) rfl rfl ?_; refine XO.nil ?_; exact stepQN_ok rfl trivial (rfl)
     refine stepsH_cons rfl ?_ ?_
     ·intro X ext HD hleD _
      replace hs := hs.mono hleD; replace hB := hB.mono hleD; replace hpY := hpY.mono hleD; replace hle0 := hle0.trans hleD; refine withP_cons rfl rfl ?_; rintro _ rfl; refine withP_cons rfl rfl ?_; rintro _ rfl; refine withP_nil rfl ?_; refine XO.guardF rfl rfl (decide_eq_true h5) rfl rfl ?_; refine XO.nil ?_; exact stepQN_ok rfl trivial (rfl)
     refine stepsH_cons rfl ?_ ?_
     ·intro X ext HD hleD _
      replace hs := hs.mono hleD; replace hB := hB.mono hleD; replace hpY := hpY.mono hleD; replace hle0 := hle0.trans hleD; refine withP_cons rfl rfl ?_; rintro _ rfl; refine withP_nil rfl ?_; refine XO.guardF rfl rfl (decide_eq_true h5) rfl rfl ?_; refine XO.nil ?_; exact stepQN_ok rfl trivial (rfl)
     refine stepsH_cons rfl ?_ ?_
     ·intro X ext HD hleD _
      replace hs := hs.mono hleD; replace hB := hB.mono hleD; replace hpY := hpY.mono hleD; replace hle0 := hle0.trans hleD; refine withP_cons rfl rfl ?_; rintro _ rfl; refine withP_cons rfl rfl ?_; rintro _ rfl; refine withP_nil rfl ?_; refine XO.guardF rfl rfl (decide_eq_true h5) rfl rfl ?_; refine XO.nil ?_; exact stepQN_ok rfl trivial (rfl)
     refine stepsH_cons rfl ?_ ?_
     ·intro X ext HD hleD _
      replace hs := hs.mono hleD; replace hB := hB.mono hleD; replace hpY := hpY.mono hleD; replace hle0 := hle0.trans hleD; refine withP_cons rfl rfl ?_; rintro _ rfl; refine withP_cons rfl rfl ?_; rintro _ rfl; refine withP_cons rfl rfl ?_; rintro _ rfl; refine withP_nil rfl ?_; refine XO.guardF rfl rfl (decide_eq_true h5) rfl rfl ?_; refine XO.nil ?_; exact stepQN_ok rfl trivial (rfl)
     refine stepsH_cons rfl ?_ ?_
     ·intro X ext HD hleD _
      replace hs := hs.mono hleD; replace hB := hB.mono hleD; replace hpY := hpY.mono hleD; replace hle0 := hle0.trans hleD; refine withP_cons rfl rfl ?_; rintro _ rfl; refine withP_cons rfl rfl ?_; rintro _ rfl; refine withP_nil rfl ?_; refine XO.pickT rfl (decide_eq_true h5) rfl rfl ?_; refine XO.nil ?_; exact stepQN_ok rfl trivial (rfl)
     refine stepsH_cons rfl ?_ ?_
     ·intro X ext HD hleD _
      replace hs := hs.mono hleD; replace hB := hB.mono hleD; replace hpY := hpY.mono hleD; replace hle0 := hle0.trans hleD; refine withP_cons rfl rfl ?_; rintro _ rfl; refine withP_nil rfl ?_; refine XO.move rfl rfl ?_; refine XO.nil ?_; exact stepQN_ok rfl trivial (rfl)
     refine stepsH_cons rfl ?_ ?_
     ·intro X ext HD hleD _
      replace hs := hs.mono hleD; replace hB := hB.mono hleD; replace hpY := hpY.mono hleD; replace hle0 := hle0.trans hleD; refine withP_cons rfl rfl ?_; rintro _ rfl; refine withP_nil rfl ?_; refine XO.guardF rfl rfl (rfl) rfl rfl ?_; refine XO.nil ?_; exact stepQN_ok rfl trivial (rfl)
     refine stepsH_cons rfl ?_ ?_
     ·intro X ext HD hleD _
      replace hs := hs.mono hleD; replace hB := hB.mono hleD; replace hpY := hpY.mono hleD; replace hle0 := hle0.trans hleD; refine withP_cons rfl rfl ?_; rintro _ rfl; refine withP_cons rfl rfl ?_; rintro _ rfl; refine withP_nil rfl ?_; refine XO.guardF rfl rfl (rfl) rfl rfl ?_; refine XO.nil ?_; exact stepQN_ok rfl trivial (rfl)
     refine stepsH_cons rfl ?_ ?_
     ·intro X ext HD hleD _
      replace hs := hs.mono hleD; replace hB := hB.mono hleD; replace hpY := hpY.mono hleD; replace hle0 := hle0.trans hleD; refine withP_cons rfl rfl ?_; rintro _ rfl; refine withP_cons rfl rfl ?_; rintro _ rfl; refine withP_nil rfl ?_; refine XO.guardF rfl rfl (rfl) rfl rfl ?_; refine XO.nil ?_; exact stepQN_ok rfl trivial (rfl)
     refine stepsH_cons rfl ?_ ?_
     ·intro X ext HD hleD _
      replace hs := hs.mono hleD; replace hB := hB.mono hleD; replace hpY := hpY.mono hleD; replace hle0 := hle0.trans hleD; refine withP_cons rfl rfl ?_; rintro _ rfl; refine withP_nil rfl ?_; refine XO.guardU rfl rfl rfl rfl ?_; refine XO.nil ?_; exact stepQN_ok rfl trivial (rfl)
     refine stepsH_cons rfl ?_ ?_
     ·intro X ext HD hleD _
      replace hs := hs.mono hleD; replace hB := hB.mono hleD; replace hpY := hpY.mono hleD; replace hle0 := hle0.trans hleD; refine withP_cons rfl rfl ?_; rintro _ rfl; refine withP_nil rfl ?_; refine XO.guardU rfl rfl rfl rfl ?_; refine XO.nil ?_; exact stepQN_ok rfl trivial (rfl)
     refine stepsH_cons rfl ?_ ?_
     ·intro X ext HD hleD _
      replace hs := hs.mono hleD; replace hB := hB.mono hleD; replace hpY := hpY.mono hleD; replace hle0 := hle0.trans hleD; refine withP_cons rfl rfl ?_; rintro _ rfl; refine withP_cons rfl rfl ?_; rintro _ rfl; refine withP_nil rfl ?_; refine XO.guardU rfl rfl rfl rfl ?_; refine XO.nil ?_; exact stepQN_ok rfl trivial (rfl)
     refine stepsH_cons rfl ?_ ?_
     ·intro X ext HD hleD _
      replace hs := hs.mono hleD; replace hB := hB.mono hleD; replace hpY := hpY.mono hleD; replace hle0 := hle0.trans hleD; refine withP_cons rfl rfl ?_; rintro _ rfl; refine withP_cons rfl rfl ?_; rintro _ rfl; refine withP_cons rfl rfl ?_; rintro _ rfl; refine withP_nil rfl ?_; refine XO.guardU rfl rfl rfl rfl ?_; refine XO.nil ?_; exact stepQN_ok rfl trivial (rfl)
     refine stepsH_cons rfl ?_ ?_
     ·intro X ext HD hleD _
      replace hs := hs.mono hleD; replace hB := hB.mono hleD; replace hpY := hpY.mono hleD; replace hle0 := hle0.trans hleD; refine withP_cons rfl rfl ?_; rintro _ rfl; refine withP_cons rfl rfl ?_; rintro _ rfl; refine withP_nil rfl ?_; refine XO.guardU rfl rfl rfl rfl ?_; refine XO.nil ?_; exact stepQN_ok rfl trivial (rfl)
     refine stepsH_cons rfl ?_ ?_
     ·intro X ext HD hleD _
      replace hs := hs.mono hleD; replace hB := hB.mono hleD; replace hpY := hpY.mono hleD; replace hle0 := hle0.trans hleD; refine withP_cons rfl rfl ?_; rintro _ rfl; refine withP_nil rfl ?_; refine XO.guardU rfl rfl rfl rfl ?_; refine XO.nil ?_; exact stepQN_ok rfl trivial (rfl)
     refine stepsH_cons rfl ?_ ?_
     ·intro X ext HD hleD _
      replace hs := hs.mono hleD; replace hB := hB.mono hleD; replace hpY := hpY.mono hleD; replace hle0 := hle0.trans hleD; refine withP_cons rfl rfl ?_; rintro _ rfl; refine withP_nil rfl ?_; refine XO.guardU rfl rfl rfl rfl ?_; refine XO.nil ?_; exact stepQN_ok rfl trivial (rfl)
     refine stepsH_cons rfl ?_ ?_
     ·intro X ext HD hleD _
      replace hs := hs.mono hleD; replace hB := hB.mono hleD; replace hpY := hpY.mono hleD; replace hle0 := hle0.trans hleD; refine withP_cons rfl rfl ?_; rintro _ rfl; refine withP_cons rfl rfl ?_; rintro _ rfl; refine withP_cons rfl rfl ?_; rintro _ rfl; refine withP_nil rfl ?_; refine XO.guardU rfl rfl rfl rfl ?_; refine XO.nil ?_; exact stepQN_ok rfl trivial (rfl)
     refine stepsH_cons rfl ?_ ?_
     ·intro X ext HD hleD _
      replace hs := hs.mono hleD; replace hB := hB.mono hleD; replace hpY := hpY.mono hleD; replace hle0 := hle0.trans hleD; refine withP_cons rfl rfl ?_; rintro _ rfl; refine withP_cons rfl rfl ?_; rintro _ rfl; refine withP_nil rfl ?_; refine XO.guardU rfl rfl rfl rfl ?_; refine XO.nil ?_; exact stepQN_ok rfl trivial (rfl)
     refine stepsH_cons rfl ?_ ?_
     ·intro X ext HD hleD _
      replace hs := hs.mono hleD; replace hB := hB.mono hleD; replace hpY := hpY.mono hleD; replace hle0 := hle0.trans hleD; refine withP_cons rfl rfl ?_; rintro _ rfl; refine withP_cons rfl rfl ?_; rintro _ rfl; refine withP_cons rfl rfl ?_; rintro _ rfl; refine withP_nil rfl ?_; refine XO.guardU rfl rfl rfl rfl ?_; refine XO.nil ?_; exact stepQN_ok rfl trivial (rfl)
     refine stepsH_cons rfl ?_ ?_
     ·intro X ext HD hleD _
      replace hs := hs.mono hleD; replace hB := hB.mono hleD; replace hpY := hpY.mono hleD; replace hle0 := hle0.trans hleD; refine withP_cons rfl rfl ?_; rintro _ rfl; refine withP_cons rfl rfl ?_; rintro _ rfl; refine withP_cons rfl rfl ?_; rintro _ rfl; refine withP_nil rfl ?_; refine XO.guardF rfl rfl (rfl) rfl rfl ?_; refine XO.nil ?_; exact stepQN_ok rfl trivial (rfl)
     refine stepsH_cons rfl ?_ ?_
     ·intro X ext HD hleD _
      replace hs := hs.mono hleD; replace hB := hB.mono hleD; replace hpY := hpY.mono hleD; replace hle0 := hle0.trans hleD; refine withP_cons rfl rfl ?_; rintro _ rfl; refine withP_cons rfl rfl ?_; rintro _ rfl; refine withP_nil rfl ?_; refine XO.pickT rfl (rfl) rfl rfl ?_; refine XO.nil ?_; exact stepQN_ok rfl trivial (rfl)
     refine stepsH_cons rfl ?_ ?_
     ·intro X ext HD hleD _
      replace hs := hs.mono hleD; replace hB := hB.mono hleD; replace hpY := hpY.mono hleD; replace hle0 := hle0.trans hleD; refine withP_cons rfl rfl ?_; rintro _ rfl; refine withP_nil rfl ?_; refine XO.move rfl rfl ?_; refine XO.nil ?_; exact stepQN_ok rfl trivial (rfl)
     refine stepsH_cons rfl ?_ ?_
     ·intro X ext HD hleD _
      replace hs := hs.mono hleD; replace hB := hB.mono hleD; replace hpY := hpY.mono hleD; replace hle0 := hle0.trans hleD; refine withP_cons rfl rfl ?_; rintro _ rfl; refine withP_nil rfl ?_; refine XO.guardF rfl rfl (rfl) rfl rfl ?_; refine XO.nil ?_; exact stepQN_ok rfl trivial (rfl)
     refine stepsH_cons rfl ?_ ?_
     ·intro X ext HD hleD _
      replace hs := hs.mono hleD; replace hB := hB.mono hleD; replace hpY := hpY.mono hleD; replace hle0 := hle0.trans hleD; refine withP_cons rfl rfl ?_; rintro _ rfl; refine withP_cons rfl rfl ?_; rintro _ rfl; refine withP_nil rfl ?_; refine XO.guardF rfl rfl (rfl) rfl rfl ?_; refine XO.nil ?_; exact stepQN_ok rfl trivial (rfl)
     refine stepsH_cons rfl ?_ ?_
     ·intro X ext HD hleD _
      replace hs := hs.mono hleD; replace hB := hB.mono hleD; replace hpY := hpY.mono hleD; replace hle0 := hle0.trans hleD; refine withP_cons rfl rfl ?_; rintro _ rfl; refine withP_nil rfl ?_; refine XO.guardF rfl rfl (rfl) rfl rfl ?_; refine XO.nil ?_; exact stepQN_ok rfl trivial (rfl)
     refine stepsH_cons rfl ?_ ?_
     ·intro X ext HD hleD _
      replace hs := hs.mono hleD; replace hB := hB.mono hleD; replace hpY := hpY.mono hleD; replace hle0 := hle0.trans hleD; refine withP_cons rfl rfl ?_; rintro _ rfl; refine withP_cons rfl rfl ?_; rintro _ rfl; refine withP_cons rfl rfl ?_; rintro _ rfl; refine withP_nil rfl ?_; refine XO.guardF rfl rfl (rfl) rfl rfl ?_; refine XO.nil ?_; exact stepQN_ok rfl trivial (rfl)
     refine stepsH_cons rfl ?_ ?_
     ·intro X ext HD hleD _
      replace hs := hs.mono hleD; replace hB := hB.mono hleD; replace hpY := hpY.mono hleD; replace hle0 := hle0.trans hleD; refine withP_cons rfl rfl ?_; rintro _ rfl; refine withP_cons rfl rfl ?_; rintro _ rfl; refine withP_nil rfl ?_; refine XO.guardF rfl rfl (rfl) rfl rfl ?_; refine XO.nil ?_; exact stepQN_ok rfl trivial (rfl)
     refine stepsH_cons rfl ?_ ?_
     ·intro X ext HD hleD _
      replace hs := hs.mono hleD; replace hB := hB.mono hleD; replace hpY := hpY.mono hleD; replace hle0 := hle0.trans hleD; refine withP_cons rfl rfl ?_; rintro _ rfl; refine withP_nil rfl ?_; refine XO.guardF rfl rfl (rfl) rfl rfl ?_; refine XO.nil ?_; exact stepQN_ok rfl trivial (rfl)
     refine stepsH_cons rfl ?_ ?_
     ·intro X ext HD hleD _
      replace hs := hs.mono hleD; replace hB := hB.mono hleD; replace hpY := hpY.mono hleD; replace hle0 := hle0.trans hleD; refine withP_cons rfl rfl ?_; rintro _ rfl; refine withP_nil rfl ?_; refine XO.guardF rfl rfl (rfl) rfl rfl ?_; refine XO.nil ?_; exact stepQN_ok rfl trivial (rfl)
     refine stepsH_cons rfl ?_ ?_
     ·intro X ext HD hleD _
      replace hs := hs.mono hleD; replace hB := hB.mono hleD; replace hpY := hpY.mono hleD; replace hle0 := hle0.trans hleD; refine withP_cons rfl rfl ?_; rintro _ rfl; refine withP_cons rfl rfl ?_; rintro _ rfl; refine withP_cons rfl rfl ?_; rintro _ rfl; refine withP_nil rfl ?_; refine XO.guardF rfl rfl (rfl) rfl rfl ?_; refine XO.nil ?_; exact stepQN_ok rfl trivial (rfl)
     refine stepsH_cons rfl ?_ ?_
     ·intro X ext HD hleD _
      replace hs := hs.mono hleD; replace hB := hB.mono hleD; replace hpY := hpY.mono hleD; replace hle0 := hle0.trans hleD; refine withP_cons rfl rfl ?_; rintro _ rfl; refine withP_cons rfl rfl ?_; rintro _ rfl; refine withP_nil rfl ?_; refine XO.guardF rfl rfl (rfl) rfl rfl ?_; refine XO.nil ?_; exact stepQN_ok rfl trivial (rfl)
     exact stepsH_end rfl
    case tail3 =>
     intro HD hleD _
     replace hs := hs.mono hleD; replace hB := hB.mono hleD; replace hpY := hpY.mono hleD; replace hle0 := hle0.trans hleD; refine withP_cons rfl rfl ?_; rintro _ rfl; refine withP_cons rfl rfl ?_; rintro _ rfl; refine withP_cons rfl rfl ?_; rintro _ rfl; refine withP_cons rfl rfl ?_; rintro _ rfl; refine withP_cons rfl rfl ?_; rintro _ rfl; refine withP_cons rfl rfl ?_; rintro _ rfl; refine withP_cons rfl rfl ?_; rintro _ rfl; refine withP_cons rfl rfl ?_; rintro _ rfl; refine withP_cons rfl rfl ?_; rintro _ rfl; refine withP_cons rfl rfl ?_; rintro _ rfl; refine withP_cons rfl rfl ?_; rintro _ rfl; refine withP_cons rfl rfl ?_; rintro _ rfl; refine withP_cons rfl rfl ?_; rintro _ rfl; refine withP_cons rfl rfl ?_; rintro _ rfl; refine withP_cons rfl rfl ?_; rintro _ rfl; refine withP_cons rfl rfl ?_; rintro _ rfl; refine withP_cons rfl rfl ?_; rintro _ rfl; refine withP_cons rfl rfl ?_; rintro _ rfl; refine withP_cons rfl rfl ?_; rintro _ rfl; refine withP_cons rfl rfl ?_; rintro _ rfl; refine withP_cons rfl rfl ?_; rintro _ rfl; refine withP_cons rfl rfl ?_; rintro _ rfl; refine withP_cons rfl rfl ?_; rintro _ rfl; refine withP_cons rfl rfl ?_; rintro _ rfl; refine withP_cons rfl rfl ?_; rintro _ rfl; refine withP_cons rfl rfl ?_; rintro _ rfl; refine withP_cons rfl rfl ?_; rintro _ rfl; refine withP_cons rfl rfl ?_; rintro _ rfl; refine withP_cons rfl rfl ?_; rintro _ rfl; refine withP_cons rfl rfl ?_; rintro _ rfl; refine withP_cons rfl rfl ?_; rintro _ rfl; refine withP_cons rfl rfl ?_; rintro _ rfl; refine withP_cons rfl rfl ?_; rintro _ rfl; refine withP_cons rfl rfl ?_; rintro _ rfl; refine withP_cons rfl rfl ?_; rintro _ rfl; refine withP_cons rfl rfl ?_; rintro _ rfl; refine withP_cons rfl rfl ?_; rintro _ rfl; refine withP_cons rfl rfl ?_; rintro _ rfl; refine withP_cons rfl rfl ?_; rintro _ rfl; refine withP_cons rfl rfl ?_; rintro _ rfl; refine withP_nil rfl ?_; refine withEnts_nil ?_; refine XO.guardF rfl rfl (rfl) rfl rfl ?_; refine XO.guardF rfl rfl (rfl) rfl rfl ?_; refine XO.pickT rfl (rfl) rfl rfl ?_; refine XO.nil ?_; refine XC.seq2 ?_; refine XC.condT rfl (rfl) ?_; refine XC.seq ?_; refine XC.region ?_; refine XO.assign rfl rfl ?_; refine XO.nil ?_; refine XC.seq2 ?_; refine XC.ret ?_; refine blockR ?_; refine seqX_ret ?_; refine loopX_ret ?_; refine blockR ?_; refine seqX_ret ?_; refine ⟨rfl, _, [], rfl, (by repeat (first | exact List.Sublist.refl _ | apply List.Sublist.cons)), RetR.mk ?_⟩
     first | exact congrArg Value.bool (decide_eq_false (fun h => by have h2 := h.1; omega)).symm | exact congrArg Value.bool (decide_eq_false (fun h => by have h2 := fitB_n hF hxX (fun h3 => by first | omega | (have h4 := gt_last hL hxP h3.1; omega) | simp_all); rw [h.2] at h2; cases h2)).symm | exact congrArg Value.bool (decide_eq_true ⟨by omega, hF⟩).symm
   ·skip
    by_cases h14 : xX ≥ w.J
    ·skip
     refine XC.keep [1, 2, 3, 7] rfl ?_
     skip
     obtain ⟨bEY, oEY, rfl⟩ := hs.addr (by omega); obtain ⟨_, xY, hxY, rfl, hpY⟩ := hs.elem (k) (by omega); obtain rfl := Option.some.inj (hxX.symm.trans hxY)
     apply XC.drawH (fun _ => True) trivial [] (by decide) (fun _ _ _ _ => True) (fun _ _ _ _ _ _ h => h) 40 [eqF _, eqF _, eqF _, eqF _, eqF _, eqF _, eqF _, eqF _, eqF _, eqF _, eqF _, eqF _, eqF _, eqF _, eqF _, eqF _, eqF _, eqF _, eqF _, eqF _, eqF _, eqF _, eqF _, eqF _, eqF _, eqF _, eqF _, eqF _, eqF _, eqF _, eqF _, eqF _, eqF _, eqF _, eqF _, eqF _, eqF _, eqF _, eqF _, eqF _] follows (by kernel_rfl) ⟨eqF_mono _, eqF_mono _, eqF_mono _, eqF_mono _, eqF_mono _, eqF_mono _, eqF_mono _, eqF_mono _, eqF_mono _, eqF_mono _, eqF_mono _, eqF_mono _, eqF_mono _, eqF_mono _, eqF_mono _, eqF_mono _, eqF_mono _, eqF_mono _, eqF_mono _, eqF_mono _, eqF_mono _, eqF_mono _, eqF_mono _, eqF_mono _, eqF_mono _, eqF_mono _, eqF_mono _, eqF_mono _, eqF_mono _, eqF_mono _, eqF_mono _, eqF_mono _, eqF_mono _, eqF_mono _, eqF_mono _, eqF_mono _, eqF_mono _, eqF_mono _, eqF_mono _, eqF_mono _, trivial⟩ (by decide) ?steps5 ?tail5
     case steps5 =>
      refine stepsH_cons rfl ?_ ?_
      ·intro X ext HD hleD _
       replace hs := hs.mono hleD; replace hB := hB.mono hleD; replace hpY := hpY.mono hleD; replace hle0 := hle0.trans hleD; refine withP_nil rfl ?_; refine XO.move rfl rfl ?_; refine XO.nil ?_; exact stepQN_ok rfl trivial (rfl)
      refine stepsH_cons rfl ?_ ?_
      ·intro X ext HD hleD _
       replace hs := hs.mono hleD; replace hB := hB.mono hleD; replace hpY := hpY.mono hleD; replace hle0 := hle0.trans hleD; refine withP_nil rfl ?_; refine XO.move rfl rfl ?_; refine XO.nil ?_; exact stepQN_ok rfl trivial (rfl)
      refine stepsH_cons rfl ?_ ?_
      ·intro X ext HD hleD _
       replace hs := hs.mono hleD; replace hB := hB.mono hleD; replace hpY := hpY.mono hleD; replace hle0 := hle0.trans hleD; refine withP_cons rfl rfl ?_; rintro _ rfl; refine withP_cons rfl rfl ?_; rintro _ rfl; refine withP_nil rfl ?_; refine XO.indexE rfl rfl Try.underlying26 ty_3 (by omega) (by omega) rfl ?_; refine XO.nil ?_; exact stepQN_ok rfl trivial (rfl)
      refine stepsH_cons rfl ?_ ?_
      ·intro X ext HD hleD _
       replace hs := hs.mono hleD; replace hB := hB.mono hleD; replace hpY := hpY.mono hleD; replace hle0 := hle0.trans hleD; refine withP_cons rfl rfl ?_; rintro _ rfl; refine withP_nil rfl ?_; refine XO.loadH rfl (by assumption) ty_3 rfl rfl rfl ?_; refine XO.nil ?_; exact stepQN_ok rfl trivial (rfl)
      refine stepsH_cons rfl ?_ ?_
      ·intro X ext HD hleD _
       replace hs := hs.mono hleD; replace hB := hB.mono hleD; replace hpY := hpY.mono hleD; replace hle0 := hle0.trans hleD; refine withP_cons rfl rfl ?_; rintro _ rfl; refine withP_nil rfl ?_; refine XO.lss rfl rfl rfl ?_; refine XO.nil ?_; exact stepQN_ok rfl trivial (rfl)
      refine stepsH_cons rfl ?_ ?_
      ·intro X ext HD hleD _
       replace hs := hs.mono hleD; replace hB := hB.mono hleD; replace hpY := hpY.mono hleD; replace hle0 := hle0.trans hleD; refine withP_cons rfl rfl ?_; rintro _ rfl; refine withP_nil rfl ?_; refine XO.move rfl rfl ?_; refine XO.nil ?_; exact stepQN_ok rfl trivial (rfl)
      refine stepsH_cons rfl ?_ ?_
      ·intro X ext HD hleD _
       replace hs := hs.mono hleD; replace hB := hB.mono hleD; replace hpY := hpY.mono hleD; replace hle0 := hle0.trans hleD; refine withP_cons rfl rfl ?_; rintro _ rfl; refine withP_nil rfl ?_; refine XO.guardT rfl rfl (decide_eq_false h5) rfl ?_; refine XO.move rfl rfl ?_; refine XO.nil ?_; exact stepQN_ok rfl trivial (rfl)
      refine stepsH_cons rfl ?_ ?_
      ·intro X ext HD hleD _
       replace hs := hs.mono hleD; replace hB := hB.mono hleD; replace hpY := hpY.mono hleD; replace hle0 := hle0.trans hleD; refine withP_cons rfl rfl ?_; rintro _ rfl; refine withP_nil rfl ?_; refine XO.guardT rfl rfl (decide_eq_false h5) rfl ?_; refine XO.move rfl rfl ?_; refine XO.nil ?_; exact stepQN_ok rfl trivial (rfl)
      refine stepsH_cons rfl ?_ ?_
      ·intro X ext HD hleD _
       replace hs := hs.mono hleD; replace hB := hB.mono hleD; replace hpY := hpY.mono hleD; replace hle0 := hle0.trans hleD; refine withP_cons rfl rfl ?_; rintro _ rfl; refine withP_cons rfl rfl ?_; rintro _ rfl; refine withP_cons rfl rfl ?_; rintro _ rfl; refine withP_nil rfl ?_; refine XO.guardT rfl rfl (decide_eq_false h5) rfl ?_; refine XO.indexE rfl rfl Try.underlying26 ty_3 (by omega) (by omega) rfl ?_; refine XO.nil ?_; exact stepQN_ok rfl trivial (rfl)
      refine stepsH_cons rfl ?_ ?_
      ·intro X ext HD hleD _
       replace hs := hs.mono hleD; replace hB := hB.mono hleD; replace hpY := hpY.mono hleD; replace hle0 := hle0.trans hleD; refine withP_cons rfl rfl ?_; rintro _ rfl; refine withP_cons rfl rfl ?_; rintro _ rfl; refine withP_nil rfl ?_; refine XO.guardT rfl rfl (decide_eq_false h5) rfl ?_; refine XO.loadH rfl (by assumption) ty_3 rfl rfl rfl ?_; refine XO.nil ?_; exact stepQN_ok rfl trivial (rfl)
      refine stepsH_cons rfl ?_ ?_
      ·intro X ext HD hleD _
       replace hs := hs.mono hleD; replace hB := hB.mono hleD; replace hpY := hpY.mono hleD; replace hle0 := hle0.trans hleD; refine withP_cons rfl rfl ?_; rintro _ rfl; refine withP_nil rfl ?_; refine XO.guardT rfl rfl (decide_eq_false h5) rfl ?_; refine XO.fieldAddr rfl fa_24_0 rfl ?_; refine XO.nil ?_; exact stepQN_ok rfl trivial (rfl)
      refine stepsH_cons rfl ?_ ?_
      ·intro X ext HD hleD _
       replace hs := hs.mono hleD; replace hB := hB.mono hleD; replace hpY := hpY.mono hleD; replace hle0 := hle0.trans hleD; refine withP_cons rfl rfl ?_; rintro _ rfl; refine withP_cons rfl rfl ?_; rintro _ rfl; refine withP_nil rfl ?_; refine XO.guardT rfl rfl (decide_eq_false h5) rfl ?_; refine XO.loadO 0 rfl rfl ty_3 rfl rfl rfl ?_; refine XO.nil ?_; exact stepQN_ok rfl trivial (rfl)
      refine stepsH_cons rfl ?_ ?_
      ·intro X ext HD hleD _
       replace hs := hs.mono hleD; replace hB := hB.mono hleD; replace hpY := hpY.mono hleD; replace hle0 := hle0.trans hleD; refine withP_cons rfl rfl ?_; rintro _ rfl; refine withP_cons rfl rfl ?_; rintro _ rfl; refine withP_cons rfl rfl ?_; rintro _ rfl; refine withP_nil rfl ?_; refine XO.guardT rfl rfl (decide_eq_false h5) rfl ?_; refine XO.geq rfl rfl rfl ?_; refine XO.nil ?_; exact stepQN_ok rfl trivial (rfl)
      refine stepsH_cons rfl ?_ ?_
      ·intro X ext HD hleD _
       replace hs := hs.mono hleD; replace hB := hB.mono hleD; replace hpY := hpY.mono hleD; replace hle0 := hle0.trans hleD; refine withP_cons rfl rfl ?_; rintro _ rfl; refine withP_cons rfl rfl ?_; rintro _ rfl; refine withP_nil rfl ?_; refine XO.pickF rfl (decide_eq_false h5) rfl rfl ?_; refine XO.nil ?_; exact stepQN_ok rfl trivial (rfl)
      refine stepsH_cons rfl ?_ ?_
      ·intro X ext HD hleD _
       replace hs := hs.mono hleD; replace hB := hB.mono hleD; replace hpY := hpY.mono hleD; replace hle0 := hle0.trans hleD; refine withP_cons rfl rfl ?_; rintro _ rfl; refine withP_nil rfl ?_; refine XO.move rfl rfl ?_; refine XO.nil ?_; exact stepQN_ok rfl trivial (rfl)
      refine stepsH_cons rfl ?_ ?_
      ·intro X ext HD hleD _
       replace hs := hs.mono hleD; replace hB := hB.mono hleD; replace hpY := hpY.mono hleD; replace hle0 := hle0.trans hleD; refine withP_cons rfl rfl ?_; rintro _ rfl; refine withP_nil rfl ?_; refine XO.guardF rfl rfl (decide_eq_true h14) rfl rfl ?_; refine XO.nil ?_; exact stepQN_ok rfl trivial (rfl)
      refine stepsH_cons rfl ?_ ?_
      ·intro X ext HD hleD _
       replace hs := hs.mono hleD; replace hB := hB.mono hleD; replace hpY := hpY.mono hleD; replace hle0 := hle0.trans hleD; refine withP_cons rfl rfl ?_; rintro _ rfl; refine withP_cons rfl rfl ?_; rintro _ rfl; refine withP_nil rfl ?_; refine XO.guardF rfl rfl (decide_eq_true h14) rfl rfl ?_; refine XO.nil ?_; exact stepQN_ok rfl trivial (rfl)
      refine stepsH_cons rfl ?_ ?_
      ·intro X ext HD hleD _
       replace hs := hs.mono hleD; replace hB := hB.mono hleD; replace hpY := hpY.mono hleD; replace hle0 := hle0.trans hleD; refine withP_cons rfl rfl ?_; rintro _ rfl; refine withP_cons rfl rfl ?_; rintro _ rfl; refine withP_nil rfl ?_; refine XO.guardF rfl rfl (decide_eq_true h14) rfl rfl ?_; refine XO.nil ?_; exact stepQN_ok rfl trivial (rfl)
      refine stepsH_cons rfl ?_ ?_
      ·intro X ext HD hleD _
       replace hs := hs.mono hleD; replace hB := hB.mono hleD; replace hpY := hpY.mono hleD; replace hle0 := hle0.trans hleD; refine withP_cons rfl rfl ?_; rintro _ rfl; refine withP_nil rfl ?_; refine XO.guardU rfl rfl rfl rfl ?_; refine XO.nil ?_; exact stepQN_ok rfl trivial (rfl)
      refine stepsH_cons rfl ?_ ?_
      ·intro X ext HD hleD _
       replace hs := hs.mono hleD; replace hB := hB.mono hleD; replace hpY := hpY.mono hleD; replace hle0 := hle0.trans hleD; refine withP_cons rfl rfl ?_; rintro _ rfl; refine withP_nil rfl ?_; refine XO.guardU rfl rfl rfl rfl ?_; refine XO.nil ?_; exact stepQN_ok rfl trivial (rfl)
      refine stepsH_cons rfl ?_ ?_
      ·intro X ext HD hleD _
       replace hs := hs.mono hleD; replace hB := hB.mono hleD; replace hpY := hpY.mono hleD; replace hle0 := hle0.trans hleD; refine withP_cons rfl rfl ?_; rintro _ rfl; refine withP_cons rfl rfl ?_; rintro _ rfl; refine withP_nil rfl ?_; refine XO.guardU rfl rfl rfl rfl ?_; refine XO.nil ?_; exact stepQN_ok rfl trivial (rfl)
      refine stepsH_cons rfl ?_ ?_
      ·intro X ext HD hleD _
       replace hs := hs.mono hleD; replace hB := hB.mono hleD; replace hpY := hpY.mono hleD; replace hle0 := hle0.trans hleD; refine withP_cons rfl rfl ?_; rintro _ rfl; refine withP_cons rfl rfl ?_; rintro _ rfl; refine withP_cons rfl rfl ?_; rintro _ rfl; refine withP_nil rfl ?_; refine XO.guardU rfl rfl rfl rfl ?_; refine XO.nil ?_; exact stepQN_ok rfl trivial (rfl)
      refine stepsH_cons rfl ?_ ?_
      ·intro X ext HD hleD _
       replace hs := hs.mono hleD; replace hB := hB.mono hleD; replace hpY := hpY.mono hleD; replace hle0 := hle0.trans hleD; refine withP_cons rfl rfl ?_; rintro _ rfl; refine withP_cons rfl rfl ?_; rintro _ rfl; refine withP_nil rfl ?_; refine XO.guardU rfl rfl rfl rfl ?_; refine XO.nil ?_; exact stepQN_ok rfl trivial (rfl)
      refine stepsH_cons rfl ?_ ?_
      ·intro X ext HD hleD _
       replace hs := hs.mono hleD; replace hB := hB.mono hleD; replace hpY := hpY.mono hleD; replace hle0 := hle0.trans hleD; refine withP_cons rfl rfl ?_; rintro _ rfl; refine withP_nil rfl ?_; refine XO.guardU rfl rfl rfl rfl ?_; refine XO.nil ?_; exact stepQN_ok rfl trivial (rfl)
      refine stepsH_cons rfl ?_ ?_
      ·intro X ext HD hleD _
       replace hs := hs.mono hleD; replace hB := hB.mono hleD; replace hpY := hpY.mono hleD; replace hle0 := hle0.trans hleD; refine withP_cons rfl rfl ?_; rintro _ rfl; refine withP_nil rfl ?_; refine XO.guardU rfl rfl rfl rfl ?_; refine XO.nil ?_; exact stepQN_ok rfl trivial (rfl)
      refine stepsH_cons rfl ?_ ?_
      ·intro X ext HD hleD _
       replace hs := hs.mono hleD; replace hB := hB.mono hleD; replace hpY := hpY.mono hleD; replace hle0 := hle0.trans hleD; refine withP_cons rfl rfl ?_; rintro _ rfl; refine withP_cons rfl rfl ?_; rintro _ rfl; refine withP_cons rfl rfl ?_; rintro _ rfl; refine withP_nil rfl ?_; refine XO.guardU rfl rfl rfl rfl ?_; refine XO.nil ?_; exact stepQN_ok rfl trivial (rfl)
      refine stepsH_cons rfl ?_ ?_
      ·intro X ext HD hleD _
       replace hs := hs.mono hleD; replace hB := hB.mono hleD; replace hpY := hpY.mono hleD; replace hle0 := hle0.trans hleD; refine withP_cons rfl rfl ?_; rintro _ rfl; refine withP_cons rfl rfl ?_; rintro _ rfl; refine withP_nil rfl ?_; refine XO.guardU rfl rfl rfl rfl ?_; refine XO.nil ?_; exact stepQN_ok rfl trivial (rfl)
      refine stepsH_cons rfl ?_ ?_
      ·intro X ext HD hleD _
       replace hs := hs.mono hleD; replace hB := hB.mono hleD; replace hpY := hpY.mono hleD; replace hle0 := hle0.trans hleD; refine withP_cons rfl rfl ?_; rintro _ rfl; refine withP_cons rfl rfl ?_; rintro _ rfl; refine withP_cons rfl rfl ?_; rintro _ rfl; refine withP_nil rfl ?_; refine XO.guardU rfl rfl rfl rfl ?_; refine XO.nil ?_; exact stepQN_ok rfl trivial (rfl)
      refine stepsH_cons rfl ?_ ?_
      ·intro X ext HD hleD _
       replace hs := hs.mono hleD; replace hB := hB.mono hleD; replace hpY := hpY.mono hleD; replace hle0 := hle0.trans hleD; refine withP_cons rfl rfl ?_; rintro _ rfl; refine withP_cons rfl rfl ?_; rintro _ rfl; refine withP_cons rfl rfl ?_; rintro _ rfl; refine withP_nil rfl ?_; refine XO.guardF rfl rfl (decide_eq_true h14) rfl rfl ?_; refine XO.nil ?_; exact stepQN_ok rfl trivial (rfl)
      refine stepsH_cons rfl ?_ ?_
      ·intro X ext HD hleD _
       replace hs := hs.mono hleD; replace hB := hB.mono hleD; replace hpY := hpY.mono hleD; replace hle0 := hle0.trans hleD; refine withP_cons rfl rfl ?_; rintro _ rfl; refine withP_cons rfl rfl ?_; rintro _ rfl; refine withP_nil rfl ?_; refine XO.pickT rfl (decide_eq_true h14) rfl rfl ?_; refine XO.nil ?_; exact stepQN_ok rfl trivial (rfl)
      refine stepsH_cons rfl ?_ ?_
      ·intro X ext HD hleD _
       replace hs := hs.mono hleD; replace hB := hB.mono hleD; replace hpY := hpY.mono hleD; replace hle0 := hle0.trans hleD; refine withP_cons rfl rfl ?_; rintro _ rfl; refine withP_nil rfl ?_; refine XO.move rfl rfl ?_; refine XO.nil ?_; exact stepQN_ok rfl trivial (rfl)
      refine stepsH_cons rfl ?_ ?_
      ·intro X ext HD hleD _
       replace hs := hs.mono hleD; replace hB := hB.mono hleD; replace hpY := hpY.mono hleD; replace hle0 := hle0.trans hleD; refine withP_cons rfl rfl ?_; rintro _ rfl; refine withP_nil rfl ?_; refine XO.guardF rfl rfl (rfl) rfl rfl ?_; refine XO.nil ?_; exact stepQN_ok rfl trivial (rfl)
      refine stepsH_cons rfl ?_ ?_
      ·intro X ext HD hleD _
       replace hs := hs.mono hleD; replace hB := hB.mono hleD; replace hpY := hpY.mono hleD; replace hle0 := hle0.trans hleD; refine withP_cons rfl rfl ?_; rintro _ rfl; refine withP_cons rfl rfl ?_; rintro _ rfl; refine withP_nil rfl ?_; refine XO.guardF rfl rfl (rfl) rfl rfl ?_; refine XO.nil ?_; exact stepQN_ok rfl trivial (rfl)
      refine stepsH_cons rfl ?_ ?_
      ·intro X ext HD hleD _
       replace hs := hs.mono hleD; replace hB := hB.mono hleD; replace hpY := hpY.mono hleD; replace hle0 := hle0.trans hleD; refine withP_cons rfl rfl ?_; rintro _ rfl; refine withP_nil rfl ?_; refine XO.guardF rfl rfl (rfl) rfl rfl ?_; refine XO.nil ?_; exact stepQN_ok rfl trivial (rfl)
      refine stepsH_cons rfl ?_ ?_
      ·intro X ext HD hleD _
       replace hs := hs.mono hleD; replace hB := hB.mono hleD; replace hpY := hpY.mono hleD; replace hle0 := hle0.trans hleD; refine withP_cons rfl rfl ?_; rintro _ rfl; refine withP_cons rfl rfl ?_; rintro _ rfl; refine withP_cons rfl rfl ?_; rintro _ rfl; refine withP_nil rfl ?_; refine XO.guardF rfl rfl (rfl) rfl rfl ?_; refine XO.nil ?_; exact stepQN_ok rfl trivial (rfl)
      refine stepsH_cons rfl ?_ ?_
      ·intro X ext HD hleD _
       replace hs := hs.mono hleD; replace hB := hB.mono hleD; replace hpY := hpY.mono hleD; replace hle0 := hle0.trans hleD; refine withP_cons rfl rfl ?_; rintro _ rfl; refine withP_cons rfl rfl ?_; rintro _ rfl; refine withP_nil rfl ?_; refine XO.guardF rfl rfl (rfl) rfl rfl ?_; refine XO.nil ?_; exact stepQN_ok rfl trivial (rfl)
      refine stepsH_cons rfl ?_ ?_
      ·intro X ext HD hleD _
       replace hs := hs.mono hleD; replace hB := hB.mono hleD; replace hpY := hpY.mono hleD; replace hle0 := hle0.trans hleD; refine withP_cons rfl rfl ?_; rintro _ rfl; refine withP_nil rfl ?_; refine XO.guardF rfl rfl (rfl) rfl rfl ?_; refine XO.nil ?_; exact stepQN_ok rfl trivial (rfl)
      refine stepsH_cons rfl ?_ ?_
      ·intro X ext HD hleD _
       replace hs := hs.mono hleD; replace hB := hB.mono hleD; replace hpY := hpY.mono hleD; replace hle0 := hle0.trans hleD; refine withP_cons rfl rfl ?_; rintro _ rfl; refine withP_nil rfl ?_; refine XO.guardF rfl rfl (rfl) rfl rfl ?_; refine XO.nil ?_; exact stepQN_ok rfl trivial (rfl)
      refine stepsH_cons rfl ?_ ?_
      ·intro X ext HD hleD _
       replace hs := hs.mono hleD; replace hB := hB.mono hleD; replace hpY := hpY.mono hleD; replace hle0 := hle0.trans hleD; refine withP_cons rfl rfl ?_; rintro _ rfl; refine withP_cons rfl rfl ?_; rintro _ rfl; refine withP_cons rfl rfl ?_; rintro _ rfl; refine withP_nil rfl ?_; refine XO.guardF rfl rfl (rfl) rfl rfl ?_; refine XO.nil ?_; exact stepQN_ok rfl trivial (rfl)
      refine stepsH_cons rfl ?_ ?_
      ·intro X ext HD hleD _
       replace hs := hs.mono hleD; replace hB := hB.mono hleD; replace hpY := hpY.mono hleD; replace hle0 := hle0.trans hleD; refine withP_cons rfl rfl ?_; rintro _ rfl; refine withP_cons rfl rfl ?_; rintro _ rfl; refine withP_nil rfl ?_; refine XO.guardF rfl rfl (rfl) rfl rfl ?_; refine XO.nil ?_; exact stepQN_ok rfl trivial (rfl)
      exact stepsH_end rfl
     case tail5 =>
      intro HD hleD _
      replace hs := hs.mono hleD; replace hB := hB.mono hleD; replace hpY := hpY.mono hleD; replace hle0 := hle0.trans hleD; refine withP_cons rfl rfl ?_; rintro _ rfl; refine withP_cons rfl rfl ?_; rintro _ rfl; refine withP_cons rfl rfl ?_; rintro _ rfl; refine withP_cons rfl rfl ?_; rintro _ rfl; refine withP_cons rfl rfl ?_; rintro _ rfl; refine withP_cons rfl rfl ?_; rintro _ rfl; refine withP_cons rfl rfl ?_; rintro _ rfl; refine withP_cons rfl rfl ?_; rintro _ rfl; refine withP_cons rfl rfl ?_; rintro _ rfl; refine withP_cons rfl rfl ?_; rintro _ rfl; refine withP_cons rfl rfl ?_; rintro _ rfl; refine withP_cons rfl rfl ?_; rintro _ rfl; refine withP_cons rfl rfl ?_; rintro _ rfl; refine withP_cons rfl rfl ?_; rintro _ rfl; refine withP_cons rfl rfl ?_; rintro _ rfl; refine withP_cons rfl rfl ?_; rintro _ rfl; refine withP_cons rfl rfl ?_; rintro _ rfl; refine withP_cons rfl rfl ?_; rintro _ rfl; refine withP_cons rfl rfl ?_; rintro _ rfl; refine withP_cons rfl rfl ?_; rintro _ rfl; refine withP_cons rfl rfl ?_; rintro _ rfl; refine withP_cons rfl rfl ?_; rintro _ rfl; refine withP_cons rfl rfl ?_; rintro _ rfl; refine withP_cons rfl rfl ?_; rintro _ rfl; refine withP_cons rfl rfl ?_; rintro _ rfl; refine withP_cons rfl rfl ?_; rintro _ rfl; refine withP_cons rfl rfl ?_; rintro _ rfl; refine withP_cons rfl rfl ?_; rintro _ rfl; refine withP_cons rfl rfl ?_; rintro _ rfl; refine withP_cons rfl rfl ?_; rintro _ rfl; refine withP_cons rfl rfl ?_; rintro _ rfl; refine withP_cons rfl rfl ?_; rintro _ rfl; refine withP_cons rfl rfl ?_; rintro _ rfl; refine withP_cons rfl rfl ?_; rintro _ rfl; refine withP_cons rfl rfl ?_; rintro _ rfl; refine withP_cons rfl rfl ?_; rintro _ rfl; refine withP_cons rfl rfl ?_; rintro _ rfl; refine withP_cons rfl rfl ?_; rintro _ rfl; refine withP_cons rfl rfl ?_; rintro _ rfl; refine withP_cons rfl rfl ?_; rintro _ rfl; refine withP_nil rfl ?_; refine withEnts_nil ?_; refine XO.guardF rfl rfl (rfl) rfl rfl ?_; refine XO.guardF rfl rfl (rfl) rfl rfl ?_; refine XO.pickT rfl (rfl) rfl rfl ?_; refine XO.nil ?_; refine XC.seq2 ?_; refine XC.condT rfl (rfl) ?_; refine XC.seq ?_; refine XC.region ?_; refine XO.assign rfl rfl ?_; refine XO.nil ?_; refine XC.seq2 ?_; refine XC.ret ?_; refine blockR ?_; refine seqX_ret ?_; refine loopX_ret ?_; refine blockR ?_; refine seqX_ret ?_; refine ⟨rfl, _, [], rfl, (by repeat (first | exact List.Sublist.refl _ | apply List.Sublist.cons)), RetR.mk ?_⟩
      first | exact congrArg Value.bool (decide_eq_false (fun h => by have h2 := h.1; omega)).symm | exact congrArg Value.bool (decide_eq_false (fun h => by have h2 := fitB_n hF hxX (fun h3 => by first | omega | (have h4 := gt_last hL hxP h3.1; omega) | simp_all); rw [h.2] at h2; cases h2)).symm | exact congrArg Value.bool (decide_eq_true ⟨by omega, hF⟩).symm
    ·skip
     by_cases h17 : ((k : Nat) : Int) > 0
     ·skip
      by_cases h27 : xP ≥ xX
      ·skip
       refine XC.keep [1, 2, 3, 7] rfl ?_
       skip
       obtain ⟨bEY, oEY, rfl⟩ := hs.addr (by omega); obtain ⟨_, xY, hxY, rfl, hpY⟩ := hs.elem (k) (by omega); obtain ⟨_, xQ, hxQ, rfl, hpQ⟩ := hs.elem (k - 1) (by omega); obtain rfl := Option.some.inj (hxX.symm.trans hxY); obtain rfl := Option.some.inj (hxP.symm.trans hxQ)
       apply XC.drawH (fun _ => True) trivial [] (by decide) (fun _ _ _ _ => True) (fun _ _ _ _ _ _ h => h) 40 [eqF _, eqF _, eqF _, eqF _, eqF _, eqF _, eqF _, eqF _, eqF _, eqF _, eqF _, eqF _, eqF _, eqF _, eqF _, eqF _, eqF _, eqF _, eqF _, eqF _, eqF _, eqF _, eqF _, eqF _, eqF _, eqF _, eqF _, eqF _, eqF _, eqF _, eqF _, eqF _, eqF _, eqF _, eqF _, eqF _, eqF _, eqF _, eqF _, eqF _] follows (by kernel_rfl) ⟨eqF_mono _, eqF_mono _, eqF_mono _, eqF_mono _, eqF_mono _, eqF_mono _, eqF_mono _, eqF_mono _, eqF_mono _, eqF_mono _, eqF_mono _, eqF_mono _, eqF_mono _, eqF_mono _, eqF_mono _, eqF_mono _, eqF_mono _, eqF_mono _, eqF_mono _, eqF_mono _, eqF_mono _, eqF_mono _, eqF_mono _, eqF_mono _, eqF_mono _, eqF_mono _, eqF_mono _, eqF_mono _, eqF_mono _, eqF_mono _, eqF_mono _, eqF_mono _, eqF_mono _, eqF_mono _, eqF_mono _, eqF_mono _, eqF_mono _, eqF_mono _, eqF_mono _, eqF_mono _, trivial⟩ (by decide) ?steps8 ?tail8
       case steps8 =>
        refine stepsH_cons rfl ?_ ?_
        ·intro X ext HD hleD _
         replace hs := hs.mono hleD; replace hB := hB.mono hleD; replace hpY := hpY.mono hleD; replace hpQ := hpQ.mono hleD; replace hle0 := hle0.trans hleD; refine withP_nil rfl ?_; refine XO.move rfl rfl ?_; refine XO.nil ?_; exact stepQN_ok rfl trivial (rfl)
        refine stepsH_cons rfl ?_ ?_
        ·intro X ext HD hleD _
         replace hs := hs.mono hleD; replace hB := hB.mono hleD; replace hpY := hpY.mono hleD; replace hpQ := hpQ.mono hleD; replace hle0 := hle0.trans hleD; refine withP_nil rfl ?_; refine XO.move rfl rfl ?_; refine XO.nil ?_; exact stepQN_ok rfl trivial (rfl)
        refine stepsH_cons rfl ?_ ?_
        ·intro X ext HD hleD _
         replace hs := hs.mono hleD; replace hB := hB.mono hleD; replace hpY := hpY.mono hleD; replace hpQ := hpQ.mono hleD; replace hle0 := hle0.trans hleD; refine withP_cons rfl rfl ?_; rintro _ rfl; refine withP_cons rfl rfl ?_; rintro _ rfl; refine withP_nil rfl ?_; refine XO.indexE rfl rfl Try.underlying26 ty_3 (by omega) (by omega) rfl ?_; refine XO.nil ?_; exact stepQN_ok rfl trivial (rfl)
        refine stepsH_cons rfl ?_ ?_
        ·intro X ext HD hleD _
         replace hs := hs.mono hleD; replace hB := hB.mono hleD; replace hpY := hpY.mono hleD; replace hpQ := hpQ.mono hleD; replace hle0 := hle0.trans hleD; refine withP_cons rfl rfl ?_; rintro _ rfl; refine withP_nil rfl ?_; refine XO.loadH rfl (by assumption) ty_3 rfl rfl rfl ?_; refine XO.nil ?_; exact stepQN_ok rfl trivial (rfl)
        refine stepsH_cons rfl ?_ ?_
        ·intro X ext HD hleD _
         replace hs := hs.mono hleD; replace hB := hB.mono hleD; replace hpY := hpY.mono hleD; replace hpQ := hpQ.mono hleD; replace hle0 := hle0.trans hleD; refine withP_cons rfl rfl ?_; rintro _ rfl; refine withP_nil rfl ?_; refine XO.lss rfl rfl rfl ?_; refine XO.nil ?_; exact stepQN_ok rfl trivial (rfl)
        refine stepsH_cons rfl ?_ ?_
        ·intro X ext HD hleD _
         replace hs := hs.mono hleD; replace hB := hB.mono hleD; replace hpY := hpY.mono hleD; replace hpQ := hpQ.mono hleD; replace hle0 := hle0.trans hleD; refine withP_cons rfl rfl ?_; rintro _ rfl; refine withP_nil rfl ?_; refine XO.move rfl rfl ?_; refine XO.nil ?_; exact stepQN_ok rfl trivial (rfl)
        refine stepsH_cons rfl ?_ ?_
        ·intro X ext HD hleD _
         replace hs := hs.mono hleD; replace hB := hB.mono hleD; replace hpY := hpY.mono hleD; replace hpQ := hpQ.mono hleD; replace hle0 := hle0.trans hleD; refine withP_cons rfl rfl ?_; rintro _ rfl; refine withP_nil rfl ?_; refine XO.guardT rfl rfl (decide_eq_false h5) rfl ?_; refine XO.move rfl rfl ?_; refine XO.nil ?_; exact stepQN_ok rfl trivial (rfl)
        refine stepsH_cons rfl ?_ ?_
        ·intro X ext HD hleD _
         replace hs := hs.mono hleD; replace hB := hB.mono hleD; replace hpY := hpY.mono hleD; replace hpQ := hpQ.mono hleD; replace hle0 := hle0.trans hleD; refine withP_cons rfl rfl ?_; rintro _ rfl; refine withP_nil rfl ?_; refine XO.guardT rfl rfl (decide_eq_false h5) rfl ?_; refine XO.move rfl rfl ?_; refine XO.nil ?_; exact stepQN_ok rfl trivial (rfl)
        refine stepsH_cons rfl ?_ ?_
        ·intro X ext HD hleD _
         replace hs := hs.mono hleD; replace hB := hB.mono hleD; replace hpY := hpY.mono hleD; replace hpQ := hpQ.mono hleD; replace hle0 := hle0.trans hleD; refine withP_cons rfl rfl ?_; rintro _ rfl; refine withP_cons rfl rfl ?_; rintro _ rfl; refine withP_cons rfl rfl ?_; rintro _ rfl; refine withP_nil rfl ?_; refine XO.guardT rfl rfl (decide_eq_false h5) rfl ?_; refine XO.indexE rfl rfl Try.underlying26 ty_3 (by omega) (by omega) rfl ?_; refine XO.nil ?_; exact stepQN_ok rfl trivial (rfl)
        refine stepsH_cons rfl ?_ ?_
        ·intro X ext HD hleD _
         replace hs := hs.mono hleD; replace hB := hB.mono hleD; replace hpY := hpY.mono hleD; replace hpQ := hpQ.mono hleD; replace hle0 := hle0.trans hleD; refine withP_cons rfl rfl ?_; rintro _ rfl; refine withP_cons rfl rfl ?_; rintro _ rfl; refine withP_nil rfl ?_; refine XO.guardT rfl rfl (decide_eq_false h5) rfl ?_; refine XO.loadH rfl (by assumption) ty_3 rfl rfl rfl ?_; refine XO.nil ?_; exact stepQN_ok rfl trivial (rfl)
        refine stepsH_cons rfl ?_ ?_
        ·intro X ext HD hleD _
         replace hs := hs.mono hleD; replace hB := hB.mono hleD; replace hpY := hpY.mono hleD; replace hpQ := hpQ.mono hleD; replace hle0 := hle0.trans hleD; refine withP_cons rfl rfl ?_; rintro _ rfl; refine withP_nil rfl ?_; refine XO.guardT rfl rfl (decide_eq_false h5) rfl ?_; refine XO.fieldAddr rfl fa_24_0 rfl ?_; refine XO.nil ?_; exact stepQN_ok rfl trivial (rfl)
        refine stepsH_cons rfl ?_ ?_
        ·intro X ext HD hleD _
         replace hs := hs.mono hleD; replace hB := hB.mono hleD; replace hpY := hpY.mono hleD; replace hpQ := hpQ.mono hleD; replace hle0 := hle0.trans hleD; refine withP_cons rfl rfl ?_; rintro _ rfl; refine withP_cons rfl rfl ?_; rintro _ rfl; refine withP_nil rfl ?_; refine XO.guardT rfl rfl (decide_eq_false h5) rfl ?_; refine XO.loadO 0 rfl rfl ty_3 rfl rfl rfl ?_; refine XO.nil ?_; exact stepQN_ok rfl trivial (rfl)
        refine stepsH_cons rfl ?_ ?_
        ·intro X ext HD hleD _
         replace hs := hs.mono hleD; replace hB := hB.mono hleD; replace hpY := hpY.mono hleD; replace hpQ := hpQ.mono hleD; replace hle0 := hle0.trans hleD; refine withP_cons rfl rfl ?_; rintro _ rfl; refine withP_cons rfl rfl ?_; rintro _ rfl; refine withP_cons rfl rfl ?_; rintro _ rfl; refine withP_nil rfl ?_; refine XO.guardT rfl rfl (decide_eq_false h5) rfl ?_; refine XO.geq rfl rfl rfl ?_; refine XO.nil ?_; exact stepQN_ok rfl trivial (rfl)
        refine stepsH_cons rfl ?_ ?_
        ·intro X ext HD hleD _
         replace hs := hs.mono hleD; replace hB := hB.mono hleD; replace hpY := hpY.mono hleD; replace hpQ := hpQ.mono hleD; replace hle0 := hle0.trans hleD; refine withP_cons rfl rfl ?_; rintro _ rfl; refine withP_cons rfl rfl ?_; rintro _ rfl; refine withP_nil rfl ?_; refine XO.pickF rfl (decide_eq_false h5) rfl rfl ?_; refine XO.nil ?_; exact stepQN_ok rfl trivial (rfl)
        refine stepsH_cons rfl ?_ ?_
        ·intro X ext HD hleD _
         replace hs := hs.mono hleD; replace hB := hB.mono hleD; replace hpY := hpY.mono hleD; replace hpQ := hpQ.mono hleD; replace hle0 := hle0.trans hleD; refine withP_cons rfl rfl ?_; rintro _ rfl; refine withP_nil rfl ?_; refine XO.move rfl rfl ?_; refine XO.nil ?_; exact stepQN_ok rfl trivial (rfl)
        refine stepsH_cons rfl ?_ ?_
        ·intro X ext HD hleD _
         replace hs := hs.mono hleD; replace hB := hB.mono hleD; replace hpY := hpY.mono hleD; replace hpQ := hpQ.mono hleD; replace hle0 := hle0.trans hleD; refine withP_cons rfl rfl ?_; rintro _ rfl; refine withP_nil rfl ?_; refine XO.guardT rfl rfl (decide_eq_false h14) rfl ?_; refine XO.move rfl rfl ?_; refine XO.nil ?_; exact stepQN_ok rfl trivial (rfl)
        refine stepsH_cons rfl ?_ ?_
        ·intro X ext HD hleD _
         replace hs := hs.mono hleD; replace hB := hB.mono hleD; replace hpY := hpY.mono hleD; replace hpQ := hpQ.mono hleD; replace hle0 := hle0.trans hleD; refine withP_cons rfl rfl ?_; rintro _ rfl; refine withP_cons rfl rfl ?_; rintro _ rfl; refine withP_nil rfl ?_; refine XO.guardT rfl rfl (decide_eq_false h14) rfl ?_; refine XO.gtr rfl rfl rfl ?_; refine XO.nil ?_; exact stepQN_ok rfl trivial (rfl)
        refine stepsH_cons rfl ?_ ?_
        ·intro X ext HD hleD _
         replace hs := hs.mono hleD; replace hB := hB.mono hleD; replace hpY := hpY.mono hleD; replace hpQ := hpQ.mono hleD; replace hle0 := hle0.trans hleD; refine withP_cons rfl rfl ?_; rintro _ rfl; refine withP_cons rfl rfl ?_; rintro _ rfl; refine withP_nil rfl ?_; refine XO.guardT rfl rfl (decide_eq_false h14) rfl ?_; refine XO.move rfl rfl ?_; refine XO.nil ?_; exact stepQN_ok rfl trivial (rfl)
        refine stepsH_cons rfl ?_ ?_
        ·intro X ext HD hleD _
         replace hs := hs.mono hleD; replace hB := hB.mono hleD; replace hpY := hpY.mono hleD; replace hpQ := hpQ.mono hleD; replace hle0 := hle0.trans hleD; refine withP_cons rfl rfl ?_; rintro _ rfl; refine withP_nil rfl ?_; refine XO.guardT rfl rfl (decide_eq_true h17) rfl ?_; refine XO.move rfl rfl ?_; refine XO.nil ?_; exact stepQN_ok rfl trivial (rfl)
        refine stepsH_cons rfl ?_ ?_
        ·intro X ext HD hleD _
         replace hs := hs.mono hleD; replace hB := hB.mono hleD; replace hpY := hpY.mono hleD; replace hpQ := hpQ.mono hleD; replace hle0 := hle0.trans hleD; refine withP_cons rfl rfl ?_; rintro _ rfl; refine withP_nil rfl ?_; refine XO.guardT rfl rfl (decide_eq_true h17) rfl ?_; refine XO.move rfl rfl ?_; refine XO.nil ?_; exact stepQN_ok rfl trivial (rfl)
        refine stepsH_cons rfl ?_ ?_
        ·intro X ext HD hleD _
         replace hs := hs.mono hleD; replace hB := hB.mono hleD; replace hpY := hpY.mono hleD; replace hpQ := hpQ.mono hleD; replace hle0 := hle0.trans hleD; refine withP_cons rfl rfl ?_; rintro _ rfl; refine withP_cons rfl rfl ?_; rintro _ rfl; refine withP_nil rfl ?_; refine XO.guardT rfl rfl (decide_eq_true h17) rfl ?_; refine XO.sub (c := ((k - 1 : Nat) : Int)) rfl rfl ((wrap_i64 (by omega) (by omega)).trans (by omega)) rfl ?_; refine XO.nil ?_; exact stepQN_ok rfl trivial (rfl)
        refine stepsH_cons rfl ?_ ?_
        ·intro X ext HD hleD _
         replace hs := hs.mono hleD; replace hB := hB.mono hleD; replace hpY := hpY.mono hleD; replace hpQ := hpQ.mono hleD; replace hle0 := hle0.trans hleD; refine withP_cons rfl rfl ?_; rintro _ rfl; refine withP_cons rfl rfl ?_; rintro _ rfl; refine withP_cons rfl rfl ?_; rintro _ rfl; refine withP_nil rfl ?_; refine XO.guardT rfl rfl (decide_eq_true h17) rfl ?_; refine XO.indexE rfl rfl Try.underlying26 ty_3 (by omega) (by omega) rfl ?_; refine XO.nil ?_; exact stepQN_ok rfl trivial (rfl)
        refine stepsH_cons rfl ?_ ?_
        ·intro X ext HD hleD _
         replace hs := hs.mono hleD; replace hB := hB.mono hleD; replace hpY := hpY.mono hleD; replace hpQ := hpQ.mono hleD; replace hle0 := hle0.trans hleD; refine withP_cons rfl rfl ?_; rintro _ rfl; refine withP_cons rfl rfl ?_; rintro _ rfl; refine withP_nil rfl ?_; refine XO.guardT rfl rfl (decide_eq_true h17) rfl ?_; refine XO.loadH rfl (by assumption) ty_3 rfl rfl rfl ?_; refine XO.nil ?_; exact stepQN_ok rfl trivial (rfl)
        refine stepsH_cons rfl ?_ ?_
        ·intro X ext HD hleD _
         replace hs := hs.mono hleD; replace hB := hB.mono hleD; replace hpY := hpY.mono hleD; replace hpQ := hpQ.mono hleD; replace hle0 := hle0.trans hleD; refine withP_cons rfl rfl ?_; rintro _ rfl; refine withP_nil rfl ?_; refine XO.guardT rfl rfl (decide_eq_true h17) rfl ?_; refine XO.move rfl rfl ?_; refine XO.nil ?_; exact stepQN_ok rfl trivial (rfl)
        refine stepsH_cons rfl ?_ ?_
        ·intro X ext HD hleD _
         replace hs := hs.mono hleD; replace hB := hB.mono hleD; replace hpY := hpY.mono hleD; replace hpQ := hpQ.mono hleD; replace hle0 := hle0.trans hleD; refine withP_cons rfl rfl ?_; rintro _ rfl; refine withP_nil rfl ?_; refine XO.guardT rfl rfl (decide_eq_true h17) rfl ?_; refine XO.move rfl rfl ?_; refine XO.nil ?_; exact stepQN_ok rfl trivial (rfl)
        refine stepsH_cons rfl ?_ ?_
        ·intro X ext HD hleD _
         replace hs := hs.mono hleD; replace hB := hB.mono hleD; replace hpY := hpY.mono hleD; replace hpQ := hpQ.mono hleD; replace hle0 := hle0.trans hleD; refine withP_cons rfl rfl ?_; rintro _ rfl; refine withP_cons rfl rfl ?_; rintro _ rfl; refine withP_cons rfl rfl ?_; rintro _ rfl; refine withP_nil rfl ?_; refine XO.guardT rfl rfl (decide_eq_true h17) rfl ?_; refine XO.indexE rfl rfl Try.underlying26 ty_3 (by omega) (by omega) rfl ?_; refine XO.nil ?_; exact stepQN_ok rfl trivial (rfl)
        refine stepsH_cons rfl ?_ ?_
        ·intro X ext HD hleD _
         replace hs := hs.mono hleD; replace hB := hB.mono hleD; replace hpY := hpY.mono hleD; replace hpQ := hpQ.mono hleD; replace hle0 := hle0.trans hleD; refine withP_cons rfl rfl ?_; rintro _ rfl; refine withP_cons rfl rfl ?_; rintro _ rfl; refine withP_nil rfl ?_; refine XO.guardT rfl rfl (decide_eq_true h17) rfl ?_; refine XO.loadH rfl (by assumption) ty_3 rfl rfl rfl ?_; refine XO.nil ?_; exact stepQN_ok rfl trivial (rfl)
        refine stepsH_cons rfl ?_ ?_
        ·intro X ext HD hleD _
         replace hs := hs.mono hleD; replace hB := hB.mono hleD; replace hpY := hpY.mono hleD; replace hpQ := hpQ.mono hleD; replace hle0 := hle0.trans hleD; refine withP_cons rfl rfl ?_; rintro _ rfl; refine withP_cons rfl rfl ?_; rintro _ rfl; refine withP_cons rfl rfl ?_; rintro _ rfl; refine withP_nil rfl ?_; refine XO.guardT rfl rfl (decide_eq_true h17) rfl ?_; refine XO.geq rfl rfl rfl ?_; refine XO.nil ?_; exact stepQN_ok rfl trivial (rfl)
        refine stepsH_cons rfl ?_ ?_
        ·intro X ext HD hleD _
         replace hs := hs.mono hleD; replace hB := hB.mono hleD; replace hpY := hpY.mono hleD; replace hpQ := hpQ.mono hleD; replace hle0 := hle0.trans hleD; refine withP_cons rfl rfl ?_; rintro _ rfl; refine withP_cons rfl rfl ?_; rintro _ rfl; refine withP_cons rfl rfl ?_; rintro _ rfl; refine withP_nil rfl ?_; refine XO.guardT rfl rfl (decide_eq_false h14) rfl ?_; refine XO.pickT rfl (decide_eq_true h17) rfl rfl ?_; refine XO.nil ?_; exact stepQN_ok rfl trivial (rfl)
        refine stepsH_cons rfl ?_ ?_
        ·intro X ext HD hleD _
         replace hs := hs.mono hleD; replace hB := hB.mono hleD; replace hpY := hpY.mono hleD; replace hpQ := hpQ.mono hleD; replace hle0 := hle0.trans hleD; refine withP_cons rfl rfl ?_; rintro _ rfl; refine withP_cons rfl rfl ?_; rintro _ rfl; refine withP_nil rfl ?_; refine XO.pickF rfl (decide_eq_false h14) rfl rfl ?_; refine XO.nil ?_; exact stepQN_ok rfl trivial (rfl)
        refine stepsH_cons rfl ?_ ?_
        ·intro X ext HD hleD _
         replace hs := hs.mono hleD; replace hB := hB.mono hleD; replace hpY := hpY.mono hleD; replace hpQ := hpQ.mono hleD; replace hle0 := hle0.trans hleD; refine withP_cons rfl rfl ?_; rintro _ rfl; refine withP_nil rfl ?_; refine XO.move rfl rfl ?_; refine XO.nil ?_; exact stepQN_ok rfl trivial (rfl)
        refine stepsH_cons rfl ?_ ?_
        ·intro X ext HD hleD _
         replace hs := hs.mono hleD; replace hB := hB.mono hleD; replace hpY := hpY.mono hleD; replace hpQ := hpQ.mono hleD; replace hle0 := hle0.trans hleD; refine withP_cons rfl rfl ?_; rintro _ rfl; refine withP_nil rfl ?_; refine XO.guardF rfl rfl (decide_eq_true h27) rfl rfl ?_; refine XO.nil ?_; exact stepQN_ok rfl trivial (rfl)
        refine stepsH_cons rfl ?_ ?_
        ·intro X ext HD hleD _
         replace hs := hs.mono hleD; replace hB := hB.mono hleD; replace hpY := hpY.mono hleD; replace hpQ := hpQ.mono hleD; replace hle0 := hle0.trans hleD; refine withP_cons rfl rfl ?_; rintro _ rfl; refine withP_cons rfl rfl ?_; rintro _ rfl; refine withP_nil rfl ?_; refine XO.guardF rfl rfl (decide_eq_true h27) rfl rfl ?_; refine XO.nil ?_; exact stepQN_ok rfl trivial (rfl)
        refine stepsH_cons rfl ?_ ?_
        ·intro X ext HD hleD _
         replace hs := hs.mono hleD; replace hB := hB.mono hleD; replace hpY := hpY.mono hleD; replace hpQ := hpQ.mono hleD; replace hle0 := hle0.trans hleD; refine withP_cons rfl rfl ?_; rintro _ rfl; refine withP_nil rfl ?_; refine XO.guardF rfl rfl (decide_eq_true h27) rfl rfl ?_; refine XO.nil ?_; exact stepQN_ok rfl trivial (rfl)
        refine stepsH_cons rfl ?_ ?_
        ·intro X ext HD hleD _
         replace hs := hs.mono hleD; replace hB := hB.mono hleD; replace hpY := hpY.mono hleD; replace hpQ := hpQ.mono hleD; replace hle0 := hle0.trans hleD; refine withP_cons rfl rfl ?_; rintro _ rfl; refine withP_cons rfl rfl ?_; rintro _ rfl; refine withP_cons rfl rfl ?_; rintro _ rfl; refine withP_nil rfl ?_; refine XO.guardF rfl rfl (decide_eq_true h27) rfl rfl ?_; refine XO.nil ?_; exact stepQN_ok rfl trivial (rfl)
        refine stepsH_cons rfl ?_ ?_
        ·intro X ext HD hleD _
         replace hs := hs.mono hleD; replace hB := hB.mono hleD; replace hpY := hpY.mono hleD; replace hpQ := hpQ.mono hleD; replace hle0 := hle0.trans hleD; refine withP_cons rfl rfl ?_; rintro _ rfl; refine withP_cons rfl rfl ?_; rintro _ rfl; refine withP_nil rfl ?_; refine XO.guardF rfl rfl (decide_eq_true h27) rfl rfl ?_; refine XO.nil ?_; exact stepQN_ok rfl trivial (rfl)
        refine stepsH_cons rfl ?_ ?_
        ·intro X ext HD hleD _
         replace hs := hs.mono hleD; replace hB := hB.mono hleD; replace hpY := hpY.mono hleD; replace hpQ := hpQ.mono hleD; replace hle0 := hle0.trans hleD; refine withP_cons rfl rfl ?_; rintro _ rfl; refine withP_nil rfl ?_; refine XO.guardF rfl rfl (decide_eq_true h27) rfl rfl ?_; refine XO.nil ?_; exact stepQN_ok rfl trivial (rfl)
        refine stepsH_cons rfl ?_ ?_
        ·intro X ext HD hleD _
         replace hs := hs.mono hleD; replace hB := hB.mono hleD; replace hpY := hpY.mono hleD; replace hpQ := hpQ.mono hleD; replace hle0 := hle0.trans hleD; refine withP_cons rfl rfl ?_; rintro _ rfl; refine withP_nil rfl ?_; refine XO.guardF rfl rfl (decide_eq_true h27) rfl rfl ?_; refine XO.nil ?_; exact stepQN_ok rfl trivial (rfl)
        refine stepsH_cons rfl ?_ ?_
        ·intro X ext HD hleD _
         replace hs := hs.mono hleD; replace hB := hB.mono hleD; replace hpY := hpY.mono hleD; replace hpQ := hpQ.mono hleD; replace hle0 := hle0.trans hleD; refine withP_cons rfl rfl ?_; rintro _ rfl; refine withP_cons rfl rfl ?_; rintro _ rfl; refine withP_cons rfl rfl ?_; rintro _ rfl; refine withP_nil rfl ?_; refine XO.guardF rfl rfl (decide_eq_true h27) rfl rfl ?_; refine XO.nil ?_; exact stepQN_ok rfl trivial (rfl)
        refine stepsH_cons rfl ?_ ?_
        ·intro X ext HD hleD _
         replace hs := hs.mono hleD; replace hB := hB.mono hleD; replace hpY := hpY.mono hleD; replace hpQ := hpQ.mono hleD; replace hle0 := hle0.trans hleD; refine withP_cons rfl rfl ?_; rintro _ rfl; refine withP_cons rfl rfl ?_; rintro _ rfl; refine withP_nil rfl ?_; refine XO.guardF rfl rfl (decide_eq_true h27) rfl rfl ?_; refine XO.nil ?_; exact stepQN_ok rfl trivial (rfl)
        exact stepsH_end rfl
       case tail8 =>
        intro HD hleD _
        replace hs := hs.mono hleD; replace hB := hB.mono hleD; replace hpY := hpY.mono hleD; replace hpQ := hpQ.mono hleD; replace hle0 := hle0.trans hleD; refine withP_cons rfl rfl ?_; rintro _ rfl; refine withP_cons rfl rfl ?_; rintro _ rfl; refine withP_cons rfl rfl ?_; rintro _ rfl; refine withP_cons rfl rfl ?_; rintro _ rfl; refine withP_cons rfl rfl ?_; rintro _ rfl; refine withP_cons rfl rfl ?_; rintro _ rfl; refine withP_cons rfl rfl ?_; rintro _ rfl; refine withP_cons rfl rfl ?_; rintro _ rfl; refine withP_cons rfl rfl ?_; rintro _ rfl; refine withP_cons rfl rfl ?_; rintro _ rfl; refine withP_cons rfl rfl ?_; rintro _ rfl; refine withP_cons rfl rfl ?_; rintro _ rfl; refine withP_cons rfl rfl ?_; rintro _ rfl; refine withP_cons rfl rfl ?_; rintro _ rfl; refine withP_cons rfl rfl ?_; rintro _ rfl; refine withP_cons rfl rfl ?_; rintro _ rfl; refine withP_cons rfl rfl ?_; rintro _ rfl; refine withP_cons rfl rfl ?_; rintro _ rfl; refine withP_cons rfl rfl ?_; rintro _ rfl; refine withP_cons rfl rfl ?_; rintro _ rfl; refine withP_cons rfl rfl ?_; rintro _ rfl; refine withP_cons rfl rfl ?_; rintro _ rfl; refine withP_cons rfl rfl ?_; rintro _ rfl; refine withP_cons rfl rfl ?_; rintro _ rfl; refine withP_cons rfl rfl ?_; rintro _ rfl; refine withP_cons rfl rfl ?_; rintro _ rfl; refine withP_cons rfl rfl ?_; rintro _ rfl; refine withP_cons rfl rfl ?_; rintro _ rfl; refine withP_cons rfl rfl ?_; rintro _ rfl; refine withP_cons rfl rfl ?_; rintro _ rfl; refine withP_cons rfl rfl ?_; rintro _ rfl; refine withP_cons rfl rfl ?_; rintro _ rfl; refine withP_cons rfl rfl ?_; rintro _ rfl; refine withP_cons rfl rfl ?_; rintro _ rfl; refine withP_cons rfl rfl ?_; rintro _ rfl; refine withP_cons rfl rfl ?_; rintro _ rfl; refine withP_cons rfl rfl ?_; rintro _ rfl; refine withP_cons rfl rfl ?_; rintro _ rfl; refine withP_cons rfl rfl ?_; rintro _ rfl; refine withP_cons rfl rfl ?_; rintro _ rfl; refine withP_nil rfl ?_; refine withEnts_nil ?_; refine XO.guardF rfl rfl (decide_eq_true h27) rfl rfl ?_; refine XO.guardF rfl rfl (decide_eq_true h27) rfl rfl ?_; refine XO.pickT rfl (decide_eq_true h27) rfl rfl ?_; refine XO.nil ?_; refine XC.seq2 ?_; refine XC.condT rfl (rfl) ?_; refine XC.seq ?_; refine XC.region ?_; refine XO.assign rfl rfl ?_; refine XO.nil ?_; refine XC.seq2 ?_; refine XC.ret ?_; refine blockR ?_; refine seqX_ret ?_; refine loopX_ret ?_; refine blockR ?_; refine seqX_ret ?_; refine ⟨rfl, _, [], rfl, (by repeat (first | exact List.Sublist.refl _ | apply List.Sublist.cons)), RetR.mk ?_⟩
        first | exact congrArg Value.bool (decide_eq_false (fun h => by have h2 := h.1; omega)).symm | exact congrArg Value.bool (decide_eq_false (fun h => by have h2 := fitB_n hF hxX (fun h3 => by first | omega | (have h4 := gt_last hL hxP h3.1; omega) | simp_all); rw [h.2] at h2; cases h2)).symm | exact congrArg Value.bool (decide_eq_true ⟨by omega, hF⟩).symm
      ·skip
       refine XC.keep [1, 2, 3, 7] rfl ?_
       obtain ⟨y, rfl⟩ : ∃ y : Nat, xX = y := ⟨xX.toNat, by omega⟩
       obtain ⟨bEhB, oEhB, rfl⟩ := hB.addr (by omega); obtain ⟨_, xR, hxR, ⟨axR, cxR, rfl, hdR⟩, hpR⟩ := hB.elem e (by omega); obtain rfl := Option.some.inj (hr.symm.trans hxR); obtain ⟨bEY, oEY, rfl⟩ := hs.addr (by omega); obtain ⟨_, xY, hxY, rfl, hpY⟩ := hs.elem (k) (by omega); obtain ⟨_, xQ, hxQ, rfl, hpQ⟩ := hs.elem (k - 1) (by omega); obtain ⟨bEV, oEV, rfl⟩ := hdR.addr (by omega); obtain ⟨_, xV, hxV, rfl, hpV⟩ := hdR.elem (y) (by omega); obtain rfl := Option.some.inj (hxX.symm.trans hxY); obtain rfl := Option.some.inj (hxP.symm.trans hxQ)
       apply XC.drawH (fun _ => True) trivial [] (by decide) (fun _ _ _ _ => True) (fun _ _ _ _ _ _ h => h) 40 [eqF _, eqF _, eqF _, eqF _, eqF _, eqF _, eqF _, eqF _, eqF _, eqF _, eqF _, eqF _, eqF _, eqF _, eqF _, eqF _, eqF _, eqF _, eqF _, eqF _, eqF _, eqF _, eqF _, eqF _, eqF _, eqF _, eqF _, eqF _, eqF _, eqF _, eqF _, eqF _, eqF _, eqF _, eqF _, eqF _, eqF _, eqF _, eqF _, eqF _] follows (by kernel_rfl) ⟨eqF_mono _, eqF_mono _, eqF_mono _, eqF_mono _, eqF_mono _, eqF_mono _, eqF_mono _, eqF_mono _, eqF_mono _, eqF_mono _, eqF_mono _, eqF_mono _, eqF_mono _, eqF_mono _, eqF_mono _, eqF_mono _, eqF_mono _, eqF_mono _, eqF_mono _, eqF_mono _, eqF_mono _, eqF_mono _, eqF_mono _, eqF_mono _, eqF_mono _, eqF_mono _, eqF_mono _, eqF_mono _, eqF_mono _, eqF_mono _, eqF_mono _, eqF_mono _, eqF_mono _, eqF_mono _, eqF_mono _, eqF_mono _, eqF_mono _, eqF_mono _, eqF_mono _, eqF_mono _, trivial⟩ (by decide) ?steps14 ?tail14
       case steps14 =>
        refine stepsH_cons rfl ?_ ?_
        ·intro X ext HD hleD _
         replace hs := hs.mono hleD; replace hB := hB.mono hleD; replace hpR := hpR.mono hleD; replace hdR := hdR.mono hleD; replace hpY := hpY.mono hleD; replace hpQ := hpQ.mono hleD; replace hpV := hpV.mono hleD; replace hle0 := hle0.trans hleD; refine withP_nil rfl ?_; refine XO.move rfl rfl ?_; refine XO.nil ?_; exact stepQN_ok rfl trivial (rfl)
        refine stepsH_cons rfl ?_ ?_
        ·intro X ext HD hleD _
         replace hs := hs.mono hleD; replace hB := hB.mono hleD; replace hpR := hpR.mono hleD; replace hdR := hdR.mono hleD; replace hpY := hpY.mono hleD; replace hpQ := hpQ.mono hleD; replace hpV := hpV.mono hleD; replace hle0 := hle0.trans hleD; refine withP_nil rfl ?_; refine XO.move rfl rfl ?_; refine XO.nil ?_; exact stepQN_ok rfl trivial (rfl)
        refine stepsH_cons rfl ?_ ?_
        ·intro X ext HD hleD _
         replace hs := hs.mono hleD; replace hB := hB.mono hleD; replace hpR := hpR.mono hleD; replace hdR := hdR.mono hleD; replace hpY := hpY.mono hleD; replace hpQ := hpQ.mono hleD; replace hpV := hpV.mono hleD; replace hle0 := hle0.trans hleD; refine withP_cons rfl rfl ?_; rintro _ rfl; refine withP_cons rfl rfl ?_; rintro _ rfl; refine withP_nil rfl ?_; refine XO.indexE rfl rfl Try.underlying26 ty_3 (by omega) (by omega) rfl ?_; refine XO.nil ?_; exact stepQN_ok rfl trivial (rfl)
        refine stepsH_cons rfl ?_ ?_
        ·intro X ext HD hleD _
         replace hs := hs.mono hleD; replace hB := hB.mono hleD; replace hpR := hpR.mono hleD; replace hdR := hdR.mono hleD; replace hpY := hpY.mono hleD; replace hpQ := hpQ.mono hleD; replace hpV := hpV.mono hleD; replace hle0 := hle0.trans hleD; refine withP_cons rfl rfl ?_; rintro _ rfl; refine withP_nil rfl ?_; refine XO.loadH rfl (by assumption) ty_3 rfl rfl rfl ?_; refine XO.nil ?_; exact stepQN_ok rfl trivial (rfl)
        refine stepsH_cons rfl ?_ ?_
        ·intro X ext HD hleD _
         replace hs := hs.mono hleD; replace hB := hB.mono hleD; replace hpR := hpR.mono hleD; replace hdR := hdR.mono hleD; replace hpY := hpY.mono hleD; replace hpQ := hpQ.mono hleD; replace hpV := hpV.mono hleD; replace hle0 := hle0.trans hleD; refine withP_cons rfl rfl ?_; rintro _ rfl; refine withP_nil rfl ?_; refine XO.lss rfl rfl rfl ?_; refine XO.nil ?_; exact stepQN_ok rfl trivial (rfl)
        refine stepsH_cons rfl ?_ ?_
        ·intro X ext HD hleD _
         replace hs := hs.mono hleD; replace hB := hB.mono hleD; replace hpR := hpR.mono hleD; replace hdR := hdR.mono hleD; replace hpY := hpY.mono hleD; replace hpQ := hpQ.mono hleD; replace hpV := hpV.mono hleD; replace hle0 := hle0.trans hleD; refine withP_cons rfl rfl ?_; rintro _ rfl; refine withP_nil rfl ?_; refine XO.move rfl rfl ?_; refine XO.nil ?_; exact stepQN_ok rfl trivial (rfl)
        refine stepsH_cons rfl ?_ ?_
        ·intro X ext HD hleD _
         replace hs := hs.mono hleD; replace hB := hB.mono hleD; replace hpR := hpR.mono hleD; replace hdR := hdR.mono hleD; replace hpY := hpY.mono hleD; replace hpQ := hpQ.mono hleD; replace hpV := hpV.mono hleD; replace hle0 := hle0.trans hleD; refine withP_cons rfl rfl ?_; rintro _ rfl; refine withP_nil rfl ?_; refine XO.guardT rfl rfl (decide_eq_false h5) rfl ?_; refine XO.move rfl rfl ?_; refine XO.nil ?_; exact stepQN_ok rfl trivial (rfl)
        refine stepsH_cons rfl ?_ ?_
        ·intro X ext HD hleD _
         replace hs := hs.mono hleD; replace hB := hB.mono hleD; replace hpR := hpR.mono hleD; replace hdR := hdR.mono hleD; replace hpY := hpY.mono hleD; replace hpQ := hpQ.mono hleD; replace hpV := hpV.mono hleD; replace hle0 := hle0.trans hleD; refine withP_cons rfl rfl ?_; rintro _ rfl; refine withP_nil rfl ?_; refine XO.guardT rfl rfl (decide_eq_false h5) rfl ?_; refine XO.move rfl rfl ?_; refine XO.nil ?_; exact stepQN_ok rfl trivial (rfl)
        refine stepsH_cons rfl ?_ ?_
        ·intro X ext HD hleD _
         replace hs := hs.mono hleD; replace hB := hB.mono hleD; replace hpR := hpR.mono hleD; replace hdR := hdR.mono hleD; replace hpY := hpY.mono hleD; replace hpQ := hpQ.mono hleD; replace hpV := hpV.mono hleD; replace hle0 := hle0.trans hleD; refine withP_cons rfl rfl ?_; rintro _ rfl; refine withP_cons rfl rfl ?_; rintro _ rfl; refine withP_cons rfl rfl ?_; rintro _ rfl; refine withP_nil rfl ?_; refine XO.guardT rfl rfl (decide_eq_false h5) rfl ?_; refine XO.indexE rfl rfl Try.underlying26 ty_3 (by omega) (by omega) rfl ?_; refine XO.nil ?_; exact stepQN_ok rfl trivial (rfl)
        refine stepsH_cons rfl ?_ ?_
        ·intro X ext HD hleD _
         replace hs := hs.mono hleD; replace hB := hB.mono hleD; replace hpR := hpR.mono hleD; replace hdR := hdR.mono hleD; replace hpY := hpY.mono hleD; replace hpQ := hpQ.mono hleD; replace hpV := hpV.mono hleD; replace hle0 := hle0.trans hleD; refine withP_cons rfl rfl ?_; rintro _ rfl; refine withP_cons rfl rfl ?_; rintro _ rfl; refine withP_nil rfl ?_; refine XO.guardT rfl rfl (decide_eq_false h5) rfl ?_; refine XO.loadH rfl (by assumption) ty_3 rfl rfl rfl ?_; refine XO.nil ?_; exact stepQN_ok rfl trivial (rfl)
        refine stepsH_cons rfl ?_ ?_
        ·intro X ext HD hleD _
         replace hs := hs.mono hleD; replace hB := hB.mono hleD; replace hpR := hpR.mono hleD; replace hdR := hdR.mono hleD; replace hpY := hpY.mono hleD; replace hpQ := hpQ.mono hleD; replace hpV := hpV.mono hleD; replace hle0 := hle0.trans hleD; refine withP_cons rfl rfl ?_; rintro _ rfl; refine withP_nil rfl ?_; refine XO.guardT rfl rfl (decide_eq_false h5) rfl ?_; refine XO.fieldAddr rfl fa_24_0 rfl ?_; refine XO.nil ?_; exact stepQN_ok rfl trivial (rfl)
        refine stepsH_cons rfl ?_ ?_
        ·intro X ext HD hleD _
         replace hs := hs.mono hleD; replace hB := hB.mono hleD; replace hpR := hpR.mono hleD; replace hdR := hdR.mono hleD; replace hpY := hpY.mono hleD; replace hpQ := hpQ.mono hleD; replace hpV := hpV.mono hleD; replace hle0 := hle0.trans hleD; refine withP_cons rfl rfl ?_; rintro _ rfl; refine withP_cons rfl rfl ?_; rintro _ rfl; refine withP_nil rfl ?_; refine XO.guardT rfl rfl (decide_eq_false h5) rfl ?_; refine XO.loadO 0 rfl rfl ty_3 rfl rfl rfl ?_; refine XO.nil ?_; exact stepQN_ok rfl trivial (rfl)
        refine stepsH_cons rfl ?_ ?_
        ·intro X ext HD hleD _
         replace hs := hs.mono hleD; replace hB := hB.mono hleD; replace hpR := hpR.mono hleD; replace hdR := hdR.mono hleD; replace hpY := hpY.mono hleD; replace hpQ := hpQ.mono hleD; replace hpV := hpV.mono hleD; replace hle0 := hle0.trans hleD; refine withP_cons rfl rfl ?_; rintro _ rfl; refine withP_cons rfl rfl ?_; rintro _ rfl; refine withP_cons rfl rfl ?_; rintro _ rfl; refine withP_nil rfl ?_; refine XO.guardT rfl rfl (decide_eq_false h5) rfl ?_; refine XO.geq rfl rfl rfl ?_; refine XO.nil ?_; exact stepQN_ok rfl trivial (rfl)
        refine stepsH_cons rfl ?_ ?_
        ·intro X ext HD hleD _
         replace hs := hs.mono hleD; replace hB := hB.mono hleD; replace hpR := hpR.mono hleD; replace hdR := hdR.mono hleD; replace hpY := hpY.mono hleD; replace hpQ := hpQ.mono hleD; replace hpV := hpV.mono hleD; replace hle0 := hle0.trans hleD; refine withP_cons rfl rfl ?_; rintro _ rfl; refine withP_cons rfl rfl ?_; rintro _ rfl; refine withP_nil rfl ?_; refine XO.pickF rfl (decide_eq_false h5) rfl rfl ?_; refine XO.nil ?_; exact stepQN_ok rfl trivial (rfl)
        refine stepsH_cons rfl ?_ ?_
        ·intro X ext HD hleD _
         replace hs := hs.mono hleD; replace hB := hB.mono hleD; replace hpR := hpR.mono hleD; replace hdR := hdR.mono hleD; replace hpY := hpY.mono hleD; replace hpQ := hpQ.mono hleD; replace hpV := hpV.mono hleD; replace hle0 := hle0.trans hleD; refine withP_cons rfl rfl ?_; rintro _ rfl; refine withP_nil rfl ?_; refine XO.move rfl rfl ?_; refine XO.nil ?_; exact stepQN_ok rfl trivial (rfl)
        refine stepsH_cons rfl ?_ ?_
        ·intro X ext HD hleD _
         replace hs := hs.mono hleD; replace hB := hB.mono hleD; replace hpR := hpR.mono hleD; replace hdR := hdR.mono hleD; replace hpY := hpY.mono hleD; replace hpQ := hpQ.mono hleD; replace hpV := hpV.mono hleD; replace hle0 := hle0.trans hleD; refine withP_cons rfl rfl ?_; rintro _ rfl; refine withP_nil rfl ?_; refine XO.guardT rfl rfl (decide_eq_false h14) rfl ?_; refine XO.move rfl rfl ?_; refine XO.nil ?_; exact stepQN_ok rfl trivial (rfl)
        refine stepsH_cons rfl ?_ ?_
        ·intro X ext HD hleD _
         replace hs := hs.mono hleD; replace hB := hB.mono hleD; replace hpR := hpR.mono hleD; replace hdR := hdR.mono hleD; replace hpY := hpY.mono hleD; replace hpQ := hpQ.mono hleD; replace hpV := hpV.mono hleD; replace hle0 := hle0.trans hleD; refine withP_cons rfl rfl ?_; rintro _ rfl; refine withP_cons rfl rfl ?_; rintro _ rfl; refine withP_nil rfl ?_; refine XO.guardT rfl rfl (decide_eq_false h14) rfl ?_; refine XO.gtr rfl rfl rfl ?_; refine XO.nil ?_; exact stepQN_ok rfl trivial (rfl)
        refine stepsH_cons rfl ?_ ?_
        ·intro X ext HD hleD _
         replace hs := hs.mono hleD; replace hB := hB.mono hleD; replace hpR := hpR.mono hleD; replace hdR := hdR.mono hleD; replace hpY := hpY.mono hleD; replace hpQ := hpQ.mono hleD; replace hpV := hpV.mono hleD; replace hle0 := hle0.trans hleD; refine withP_cons rfl rfl ?_; rintro _ rfl; refine withP_cons rfl rfl ?_; rintro _ rfl; refine withP_nil rfl ?_; refine XO.guardT rfl rfl (decide_eq_false h14) rfl ?_; refine XO.move rfl rfl ?_; refine XO.nil ?_; exact stepQN_ok rfl trivial (rfl)
        refine stepsH_cons rfl ?_ ?_
        ·intro X ext HD hleD _
         replace hs := hs.mono hleD; replace hB := hB.mono hleD; replace hpR := hpR.mono hleD; replace hdR := hdR.mono hleD; replace hpY := hpY.mono hleD; replace hpQ := hpQ.mono hleD; replace hpV := hpV.mono hleD; replace hle0 := hle0.trans hleD; refine withP_cons rfl rfl ?_; rintro _ rfl; refine withP_nil rfl ?_; refine XO.guardT rfl rfl (decide_eq_true h17) rfl ?_; refine XO.move rfl rfl ?_; refine XO.nil ?_; exact stepQN_ok rfl trivial (rfl)
        refine stepsH_cons rfl ?_ ?_
        ·intro X ext HD hleD _
         replace hs := hs.mono hleD; replace hB := hB.mono hleD; replace hpR := hpR.mono hleD; replace hdR := hdR.mono hleD; replace hpY := hpY.mono hleD; replace hpQ := hpQ.mono hleD; replace hpV := hpV.mono hleD; replace hle0 := hle0.trans hleD; refine withP_cons rfl rfl ?_; rintro _ rfl; refine withP_nil rfl ?_; refine XO.guardT rfl rfl (decide_eq_true h17) rfl ?_; refine XO.move rfl rfl ?_; refine XO.nil ?_; exact stepQN_ok rfl trivial (rfl)
        refine stepsH_cons rfl ?_ ?_
        ·intro X ext HD hleD _
         replace hs := hs.mono hleD; replace hB := hB.mono hleD; replace hpR := hpR.mono hleD; replace hdR := hdR.mono hleD; replace hpY := hpY.mono hleD; replace hpQ := hpQ.mono hleD; replace hpV := hpV.mono hleD; replace hle0 := hle0.trans hleD; refine withP_cons rfl rfl ?_; rintro _ rfl; refine withP_cons rfl rfl ?_; rintro _ rfl; refine withP_nil rfl ?_; refine XO.guardT rfl rfl (decide_eq_true h17) rfl ?_; refine XO.sub (c := ((k - 1 : Nat) : Int)) rfl rfl ((wrap_i64 (by omega) (by omega)).trans (by omega)) rfl ?_; refine XO.nil ?_; exact stepQN_ok rfl trivial (rfl)
        refine stepsH_cons rfl ?_ ?_
        ·intro X ext HD hleD _
         replace hs := hs.mono hleD; replace hB := hB.mono hleD; replace hpR := hpR.mono hleD; replace hdR := hdR.mono hleD; replace hpY := hpY.mono hleD; replace hpQ := hpQ.mono hleD; replace hpV := hpV.mono hleD; replace hle0 := hle0.trans hleD; refine withP_cons rfl rfl ?_; rintro _ rfl; refine withP_cons rfl rfl ?_; rintro _ rfl; refine withP_cons rfl rfl ?_; rintro _ rfl; refine withP_nil rfl ?_; refine XO.guardT rfl rfl (decide_eq_true h17) rfl ?_; refine XO.indexE rfl rfl Try.underlying26 ty_3 (by omega) (by omega) rfl ?_; refine XO.nil ?_; exact stepQN_ok rfl trivial (rfl)
        refine stepsH_cons rfl ?_ ?_
        ·intro X ext HD hleD _
         replace hs := hs.mono hleD; replace hB := hB.mono hleD; replace hpR := hpR.mono hleD; replace hdR := hdR.mono hleD; replace hpY := hpY.mono hleD; replace hpQ := hpQ.mono hleD; replace hpV := hpV.mono hleD; replace hle0 := hle0.trans hleD; refine withP_cons rfl rfl ?_; rintro _ rfl; refine withP_cons rfl rfl ?_; rintro _ rfl; refine withP_nil rfl ?_; refine XO.guardT rfl rfl (decide_eq_true h17) rfl ?_; refine XO.loadH rfl (by assumption) ty_3 rfl rfl rfl ?_; refine XO.nil ?_; exact stepQN_ok rfl trivial (rfl)
        refine stepsH_cons rfl ?_ ?_
        ·intro X ext HD hleD _
         replace hs := hs.mono hleD; replace hB := hB.mono hleD; replace hpR := hpR.mono hleD; replace hdR := hdR.mono hleD; replace hpY := hpY.mono hleD; replace hpQ := hpQ.mono hleD; replace hpV := hpV.mono hleD; replace hle0 := hle0.trans hleD; refine withP_cons rfl rfl ?_; rintro _ rfl; refine withP_nil rfl ?_; refine XO.guardT rfl rfl (decide_eq_true h17) rfl ?_; refine XO.move rfl rfl ?_; refine XO.nil ?_; exact stepQN_ok rfl trivial (rfl)
        refine stepsH_cons rfl ?_ ?_
        ·intro X ext HD hleD _
         replace hs := hs.mono hleD; replace hB := hB.mono hleD; replace hpR := hpR.mono hleD; replace hdR := hdR.mono hleD; replace hpY := hpY.mono hleD; replace hpQ := hpQ.mono hleD; replace hpV := hpV.mono hleD; replace hle0 := hle0.trans hleD; refine withP_cons rfl rfl ?_; rintro _ rfl; refine withP_nil rfl ?_; refine XO.guardT rfl rfl (decide_eq_true h17) rfl ?_; refine XO.move rfl rfl ?_; refine XO.nil ?_; exact stepQN_ok rfl trivial (rfl)
        refine stepsH_cons rfl ?_ ?_
        ·intro X ext HD hleD _
         replace hs := hs.mono hleD; replace hB := hB.mono hleD; replace hpR := hpR.mono hleD; replace hdR := hdR.mono hleD; replace hpY := hpY.mono hleD; replace hpQ := hpQ.mono hleD; replace hpV := hpV.mono hleD; replace hle0 := hle0.trans hleD; refine withP_cons rfl rfl ?_; rintro _ rfl; refine withP_cons rfl rfl ?_; rintro _ rfl; refine withP_cons rfl rfl ?_; rintro _ rfl; refine withP_nil rfl ?_; refine XO.guardT rfl rfl (decide_eq_true h17) rfl ?_; refine XO.indexE rfl rfl Try.underlying26 ty_3 (by omega) (by omega) rfl ?_; refine XO.nil ?_; exact stepQN_ok rfl trivial (rfl)
        refine stepsH_cons rfl ?_ ?_
        ·intro X ext HD hleD _
         replace hs := hs.mono hleD; replace hB := hB.mono hleD; replace hpR := hpR.mono hleD; replace hdR := hdR.mono hleD; replace hpY := hpY.mono hleD; replace hpQ := hpQ.mono hleD; replace hpV := hpV.mono hleD; replace hle0 := hle0.trans hleD; refine withP_cons rfl rfl ?_; rintro _ rfl; refine withP_cons rfl rfl ?_; rintro _ rfl; refine withP_nil rfl ?_; refine XO.guardT rfl rfl (decide_eq_true h17) rfl ?_; refine XO.loadH rfl (by assumption) ty_3 rfl rfl rfl ?_; refine XO.nil ?_; exact stepQN_ok rfl trivial (rfl)
        refine stepsH_cons rfl ?_ ?_
        ·intro X ext HD hleD _
         replace hs := hs.mono hleD; replace hB := hB.mono hleD; replace hpR := hpR.mono hleD; replace hdR := hdR.mono hleD; replace hpY := hpY.mono hleD; replace hpQ := hpQ.mono hleD; replace hpV := hpV.mono hleD; replace hle0 := hle0.trans hleD; refine withP_cons rfl rfl ?_; rintro _ rfl; refine withP_cons rfl rfl ?_; rintro _ rfl; refine withP_cons rfl rfl ?_; rintro _ rfl; refine withP_nil rfl ?_; refine XO.guardT rfl rfl (decide_eq_true h17) rfl ?_; refine XO.geq rfl rfl rfl ?_; refine XO.nil ?_; exact stepQN_ok rfl trivial (rfl)
        refine stepsH_cons rfl ?_ ?_
        ·intro X ext HD hleD _
         replace hs := hs.mono hleD; replace hB := hB.mono hleD; replace hpR := hpR.mono hleD; replace hdR := hdR.mono hleD; replace hpY := hpY.mono hleD; replace hpQ := hpQ.mono hleD; replace hpV := hpV.mono hleD; replace hle0 := hle0.trans hleD; refine withP_cons rfl rfl ?_; rintro _ rfl; refine withP_cons rfl rfl ?_; rintro _ rfl; refine withP_cons rfl rfl ?_; rintro _ rfl; refine withP_nil rfl ?_; refine XO.guardT rfl rfl (decide_eq_false h14) rfl ?_; refine XO.pickT rfl (decide_eq_true h17) rfl rfl ?_; refine XO.nil ?_; exact stepQN_ok rfl trivial (rfl)
        refine stepsH_cons rfl ?_ ?_
        ·intro X ext HD hleD _
         replace hs := hs.mono hleD; replace hB := hB.mono hleD; replace hpR := hpR.mono hleD; replace hdR := hdR.mono hleD; replace hpY := hpY.mono hleD; replace hpQ := hpQ.mono hleD; replace hpV := hpV.mono hleD; replace hle0 := hle0.trans hleD; refine withP_cons rfl rfl ?_; rintro _ rfl; refine withP_cons rfl rfl ?_; rintro _ rfl; refine withP_nil rfl ?_; refine XO.pickF rfl (decide_eq_false h14) rfl rfl ?_; refine XO.nil ?_; exact stepQN_ok rfl trivial (rfl)
        refine stepsH_cons rfl ?_ ?_
        ·intro X ext HD hleD _
         replace hs := hs.mono hleD; replace hB := hB.mono hleD; replace hpR := hpR.mono hleD; replace hdR := hdR.mono hleD; replace hpY := hpY.mono hleD; replace hpQ := hpQ.mono hleD; replace hpV := hpV.mono hleD; replace hle0 := hle0.trans hleD; refine withP_cons rfl rfl ?_; rintro _ rfl; refine withP_nil rfl ?_; refine XO.move rfl rfl ?_; refine XO.nil ?_; exact stepQN_ok rfl trivial (rfl)
        refine stepsH_cons rfl ?_ ?_
        ·intro X ext HD hleD _
         replace hs := hs.mono hleD; replace hB := hB.mono hleD; replace hpR := hpR.mono hleD; replace hdR := hdR.mono hleD; replace hpY := hpY.mono hleD; replace hpQ := hpQ.mono hleD; replace hpV := hpV.mono hleD; replace hle0 := hle0.trans hleD; refine withP_cons rfl rfl ?_; rintro _ rfl; refine withP_nil rfl ?_; refine XO.guardT rfl rfl (decide_eq_false h27) rfl ?_; refine XO.fieldAddr rfl fa_24_3 rfl ?_; refine XO.nil ?_; exact stepQN_ok rfl trivial (rfl)
        refine stepsH_cons rfl ?_ ?_
        ·intro X ext HD hleD _
         replace hs := hs.mono hleD; replace hB := hB.mono hleD; replace hpR := hpR.mono hleD; replace hdR := hdR.mono hleD; replace hpY := hpY.mono hleD; replace hpQ := hpQ.mono hleD; replace hpV := hpV.mono hleD; replace hle0 := hle0.trans hleD; refine withP_cons rfl rfl ?_; rintro _ rfl; refine withP_cons rfl rfl ?_; rintro _ rfl; refine withP_nil rfl ?_; refine XO.guardT rfl rfl (decide_eq_false h27) rfl ?_; refine XO.loadO 0 rfl rfl ty_22 rfl rfl rfl ?_; refine XO.nil ?_; exact stepQN_ok rfl trivial (rfl)
        refine stepsH_cons rfl ?_ ?_
        ·intro X ext HD hleD _
         replace hs := hs.mono hleD; replace hB := hB.mono hleD; replace hpR := hpR.mono hleD; replace hdR := hdR.mono hleD; replace hpY := hpY.mono hleD; replace hpQ := hpQ.mono hleD; replace hpV := hpV.mono hleD; replace hle0 := hle0.trans hleD; refine withP_cons rfl rfl ?_; rintro _ rfl; refine withP_nil rfl ?_; refine XO.guardT rfl rfl (decide_eq_false h27) rfl ?_; refine XO.move rfl rfl ?_; refine XO.nil ?_; exact stepQN_ok rfl trivial (rfl)
        refine stepsH_cons rfl ?_ ?_
        ·intro X ext HD hleD _
         replace hs := hs.mono hleD; replace hB := hB.mono hleD; replace hpR := hpR.mono hleD; replace hdR := hdR.mono hleD; replace hpY := hpY.mono hleD; replace hpQ := hpQ.mono hleD; replace hpV := hpV.mono hleD; replace hle0 := hle0.trans hleD; refine withP_cons rfl rfl ?_; rintro _ rfl; refine withP_cons rfl rfl ?_; rintro _ rfl; refine withP_cons rfl rfl ?_; rintro _ rfl; refine withP_nil rfl ?_; refine XO.guardT rfl rfl (decide_eq_false h27) rfl ?_; refine XO.indexE rfl rfl Try.underlying22 ty_68 (by omega) (by omega) rfl ?_; refine XO.nil ?_; exact stepQN_ok rfl trivial (rfl)
        refine stepsH_cons rfl ?_ ?_
        ·intro X ext HD hleD _
         replace hs := hs.mono hleD; replace hB := hB.mono hleD; replace hpR := hpR.mono hleD; replace hdR := hdR.mono hleD; replace hpY := hpY.mono hleD; replace hpQ := hpQ.mono hleD; replace hpV := hpV.mono hleD; replace hle0 := hle0.trans hleD; refine withP_cons rfl rfl ?_; rintro _ rfl; refine withP_cons rfl rfl ?_; rintro _ rfl; refine withP_nil rfl ?_; refine XO.guardT rfl rfl (decide_eq_false h27) rfl ?_; refine XO.loadH rfl (by assumption) ty_68 rfl rfl rfl ?_; refine XO.nil ?_; exact stepQN_ok rfl trivial (rfl)
        refine stepsH_cons rfl ?_ ?_
        ·intro X ext HD hleD _
         replace hs := hs.mono hleD; replace hB := hB.mono hleD; replace hpR := hpR.mono hleD; replace hdR := hdR.mono hleD; replace hpY := hpY.mono hleD; replace hpQ := hpQ.mono hleD; replace hpV := hpV.mono hleD; replace hle0 := hle0.trans hleD; refine withP_cons rfl rfl ?_; rintro _ rfl; refine withP_nil rfl ?_; refine XO.guardT rfl rfl (decide_eq_false h27) rfl ?_; refine XO.move rfl rfl ?_; refine XO.nil ?_; exact stepQN_ok rfl trivial (rfl)
        refine stepsH_cons rfl ?_ ?_
        ·intro X ext HD hleD _
         replace hs := hs.mono hleD; replace hB := hB.mono hleD; replace hpR := hpR.mono hleD; replace hdR := hdR.mono hleD; replace hpY := hpY.mono hleD; replace hpQ := hpQ.mono hleD; replace hpV := hpV.mono hleD; replace hle0 := hle0.trans hleD; refine withP_cons rfl rfl ?_; rintro _ rfl; refine withP_nil rfl ?_; refine XO.guardT rfl rfl (decide_eq_false h27) rfl ?_; refine XO.move rfl rfl ?_; refine XO.nil ?_; exact stepQN_ok rfl trivial (rfl)
        refine stepsH_cons rfl ?_ ?_
        ·intro X ext HD hleD _
         replace hs := hs.mono hleD; replace hB := hB.mono hleD; replace hpR := hpR.mono hleD; replace hdR := hdR.mono hleD; replace hpY := hpY.mono hleD; replace hpQ := hpQ.mono hleD; replace hpV := hpV.mono hleD; replace hle0 := hle0.trans hleD; refine withP_cons rfl rfl ?_; rintro _ rfl; refine withP_cons rfl rfl ?_; rintro _ rfl; refine withP_cons rfl rfl ?_; rintro _ rfl; refine withP_nil rfl ?_; refine XO.guardT rfl rfl (decide_eq_false h27) rfl ?_; refine XO.indexE rfl rfl Try.underlying26 ty_3 (by omega) (by omega) rfl ?_; refine XO.nil ?_; exact stepQN_ok rfl trivial (rfl)
        refine stepsH_cons rfl ?_ ?_
        ·intro X ext HD hleD _
         replace hs := hs.mono hleD; replace hB := hB.mono hleD; replace hpR := hpR.mono hleD; replace hdR := hdR.mono hleD; replace hpY := hpY.mono hleD; replace hpQ := hpQ.mono hleD; replace hpV := hpV.mono hleD; replace hle0 := hle0.trans hleD; refine withP_cons rfl rfl ?_; rintro _ rfl; refine withP_cons rfl rfl ?_; rintro _ rfl; refine withP_nil rfl ?_; refine XO.guardT rfl rfl (decide_eq_false h27) rfl ?_; refine XO.loadH rfl (by assumption) ty_3 rfl rfl rfl ?_; refine XO.nil ?_; exact stepQN_ok rfl trivial (rfl)
        exact stepsH_end rfl
       case tail14 =>
        intro HD hleD _
        replace hs := hs.mono hleD; replace hB := hB.mono hleD; replace hpR := hpR.mono hleD; replace hdR := hdR.mono hleD; replace hpY := hpY.mono hleD; replace hpQ := hpQ.mono hleD; replace hpV := hpV.mono hleD; replace hle0 := hle0.trans hleD; refine withP_cons rfl rfl ?_; rintro _ rfl; refine withP_cons rfl rfl ?_; rintro _ rfl; refine withP_cons rfl rfl ?_; rintro _ rfl; refine withP_cons rfl rfl ?_; rintro _ rfl; refine withP_cons rfl rfl ?_; rintro _ rfl; refine withP_cons rfl rfl ?_; rintro _ rfl; refine withP_cons rfl rfl ?_; rintro _ rfl; refine withP_cons rfl rfl ?_; rintro _ rfl; refine withP_cons rfl rfl ?_; rintro _ rfl; refine withP_cons rfl rfl ?_; rintro _ rfl; refine withP_cons rfl rfl ?_; rintro _ rfl; refine withP_cons rfl rfl ?_; rintro _ rfl; refine withP_cons rfl rfl ?_; rintro _ rfl; refine withP_cons rfl rfl ?_; rintro _ rfl; refine withP_cons rfl rfl ?_; rintro _ rfl; refine withP_cons rfl rfl ?_; rintro _ rfl; refine withP_cons rfl rfl ?_; rintro _ rfl; refine withP_cons rfl rfl ?_; rintro _ rfl; refine withP_cons rfl rfl ?_; rintro _ rfl; refine withP_cons rfl rfl ?_; rintro _ rfl; refine withP_cons rfl rfl ?_; rintro _ rfl; refine withP_cons rfl rfl ?_; rintro _ rfl; refine withP_cons rfl rfl ?_; rintro _ rfl; refine withP_cons rfl rfl ?_; rintro _ rfl; refine withP_cons rfl rfl ?_; rintro _ rfl; refine withP_cons rfl rfl ?_; rintro _ rfl; refine withP_cons rfl rfl ?_; rintro _ rfl; refine withP_cons rfl rfl ?_; rintro _ rfl; refine withP_cons rfl rfl ?_; rintro _ rfl; refine withP_cons rfl rfl ?_; rintro _ rfl; refine withP_cons rfl rfl ?_; rintro _ rfl; refine withP_cons rfl rfl ?_; rintro _ rfl; refine withP_cons rfl rfl ?_; rintro _ rfl; refine withP_cons rfl rfl ?_; rintro _ rfl; refine withP_cons rfl rfl ?_; rintro _ rfl; refine withP_cons rfl rfl ?_; rintro _ rfl; refine withP_cons rfl rfl ?_; rintro _ rfl; refine withP_cons rfl rfl ?_; rintro _ rfl; refine withP_cons rfl rfl ?_; rintro _ rfl; refine withP_cons rfl rfl ?_; rintro _ rfl; refine withP_nil rfl ?_; refine withEnts_nil ?_; refine XO.guardT rfl rfl (decide_eq_false h27) rfl ?_; refine XO.indexN rfl (by assumption) rfl Try.underlying68 ty_4 (by omega) rfl ?_; rintro eb59 eo59 _ x59 hx59 rfl hp59; refine XO.guardT rfl rfl (decide_eq_false h27) rfl ?_; refine XO.loadH rfl (by assumption) ty_4 rfl rfl rfl ?_; refine XO.pickF rfl (decide_eq_false h27) rfl rfl ?_; refine XO.nil ?_; refine XC.seq2 ?_; refine XC.condB rfl (fun c2_23 => ?_) (fun c2_23 => ?_)
        ·refine XC.seq ?_; refine XC.region ?_; refine XO.assign rfl rfl ?_; refine XO.nil ?_; refine XC.seq2 ?_; refine XC.ret ?_; refine blockR ?_; refine seqX_ret ?_; refine loopX_ret ?_; refine blockR ?_; refine seqX_ret ?_; refine ⟨rfl, _, [], rfl, (by repeat (first | exact List.Sublist.refl _ | apply List.Sublist.cons)), RetR.mk ?_⟩
         first | exact congrArg Value.bool (decide_eq_false (fun h => by have h2 := h.1; omega)).symm | exact congrArg Value.bool (decide_eq_false (fun h => by have h2 := fitB_n hF hxX (fun h3 => by first | omega | (have h4 := gt_last hL hxP h3.1; omega) | simp_all); rw [h.2] at h2; cases h2)).symm | exact congrArg Value.bool (decide_eq_true ⟨by omega, hF⟩).symm
        ·refine XC.skip ?_; refine blockN ?_; refine XC.seq2 ?_; refine XC.region ?_; refine XO.move rfl rfl ?_; refine XO.add rfl rfl (wrap_i64 (by omega) (by omega)) rfl ?_; refine XO.assign rfl rfl ?_; refine XO.nil ?_; refine loop_next ((k + 1, ((y : Nat) : Int))) (by show l.length - (k + 1) < l.length - k; omega) (prov_cons (rfl) (prov_cons (rfl) (prov_cons (rfl) (prov_cons (rfl) prov_nil)))) (⟨by show k + 1 ≤ l.length; omega, rfl, fitB_y hF hxX (lt_last hL hxP (fun h => by omega) (by omega)) (by omega) hx59 (by assumption), by omega, last_next hxX⟩) (by repeat (first | exact List.Sublist.refl _ | apply List.Sublist.cons_cons | apply List.Sublist.cons)) (hle0)
     ·skip
      refine XC.keep [1, 2, 3, 7] rfl ?_
      obtain ⟨y, rfl⟩ : ∃ y : Nat, xX = y := ⟨xX.toNat, by omega⟩
      obtain ⟨bEhB, oEhB, rfl⟩ := hB.addr (by omega); obtain ⟨_, xR, hxR, ⟨axR, cxR, rfl, hdR⟩, hpR⟩ := hB.elem e (by omega); obtain rfl := Option.some.inj (hr.symm.trans hxR); obtain ⟨bEY, oEY, rfl⟩ := hs.addr (by omega); obtain ⟨_, xY, hxY, rfl, hpY⟩ := hs.elem (k) (by omega); obtain ⟨bEV, oEV, rfl⟩ := hdR.addr (by omega); obtain ⟨_, xV, hxV, rfl, hpV⟩ := hdR.elem (y) (by omega); obtain rfl := Option.some.inj (hxX.symm.trans hxY)
      apply XC.drawH (fun _ => True) trivial [] (by decide) (fun _ _ _ _ => True) (fun _ _ _ _ _ _ h => h) 40 [eqF _, eqF _, eqF _, eqF _, eqF _, eqF _, eqF _, eqF _, eqF _, eqF _, eqF _, eqF _, eqF _, eqF _, eqF _, eqF _, eqF _, eqF _, eqF _, eqF _, eqF _, eqF _, eqF _, eqF _, eqF _, eqF _, eqF _, eqF _, eqF _, eqF _, eqF _, eqF _, eqF _, eqF _, eqF _, eqF _, eqF _, eqF _, eqF _, eqF _] follows (by kernel_rfl) ⟨eqF_mono _, eqF_mono _, eqF_mono _, eqF_mono _, eqF_mono _, eqF_mono _, eqF_mono _, eqF_mono _, eqF_mono _, eqF_mono _, eqF_mono _, eqF_mono _, eqF_mono _, eqF_mono _, eqF_mono _, eqF_mono _, eqF_mono _, eqF_mono _, eqF_mono _, eqF_mono _, eqF_mono _, eqF_mono _, eqF_mono _, eqF_mono _, eqF_mono _, eqF_mono _, eqF_mono _, eqF_mono _, eqF_mono _, eqF_mono _, eqF_mono _, eqF_mono _, eqF_mono _, eqF_mono _, eqF_mono _, eqF_mono _, eqF_mono _, eqF_mono _, eqF_mono _, eqF_mono _, trivial⟩ (by decide) ?steps24 ?tail24
      case steps24 =>
       refine stepsH_cons rfl ?_ ?_
       ·intro X ext HD hleD _
        replace hs := hs.mono hleD; replace hB := hB.mono hleD; replace hpR := hpR.mono hleD; replace hdR := hdR.mono hleD; replace hpY := hpY.mono hleD; replace hpV := hpV.mono hleD; replace hle0 := hle0.trans hleD; refine withP_nil rfl ?_; refine XO.move rfl rfl ?_; refine XO.nil ?_; exact stepQN_ok rfl trivial (rfl)
       refine stepsH_cons rfl ?_ ?_
       ·intro X ext HD hleD _
        replace hs := hs.mono hleD; replace hB := hB.mono hleD; replace hpR := hpR.mono hleD; replace hdR := hdR.mono hleD; replace hpY := hpY.mono hleD; replace hpV := hpV.mono hleD; replace hle0 := hle0.trans hleD; refine withP_nil rfl ?_; refine XO.move rfl rfl ?_; refine XO.nil ?_; exact stepQN_ok rfl trivial (rfl)
       refine stepsH_cons rfl ?_ ?_
       ·intro X ext HD hleD _
        replace hs := hs.mono hleD; replace hB := hB.mono hleD; replace hpR := hpR.mono hleD; replace hdR := hdR.mono hleD; replace hpY := hpY.mono hleD; replace hpV := hpV.mono hleD; replace hle0 := hle0.trans hleD; refine withP_cons rfl rfl ?_; rintro _ rfl; refine withP_cons rfl rfl ?_; rintro _ rfl; refine withP_nil rfl ?_; refine XO.indexE rfl rfl Try.underlying26 ty_3 (by omega) (by omega) rfl ?_; refine XO.nil ?_; exact stepQN_ok rfl trivial (rfl)
       refine stepsH_cons rfl ?_ ?_
       ·intro X ext HD hleD _
        replace hs := hs.mono hleD; replace hB := hB.mono hleD; replace hpR := hpR.mono hleD; replace hdR := hdR.mono hleD; replace hpY := hpY.mono hleD; replace hpV := hpV.mono hleD; replace hle0 := hle0.trans hleD; refine withP_cons rfl rfl ?_; rintro _ rfl; refine withP_nil rfl ?_; refine XO.loadH rfl (by assumption) ty_3 rfl rfl rfl ?_; refine XO.nil ?_; exact stepQN_ok rfl trivial (rfl)
       refine stepsH_cons rfl ?_ ?_
       ·intro X ext HD hleD _
        replace hs := hs.mono hleD; replace hB := hB.mono hleD; replace hpR := hpR.mono hleD; replace hdR := hdR.mono hleD; replace hpY := hpY.mono hleD; replace hpV := hpV.mono hleD; replace hle0 := hle0.trans hleD; refine withP_cons rfl rfl ?_; rintro _ rfl; refine withP_nil rfl ?_; refine XO.lss rfl rfl rfl ?_; refine XO.nil ?_; exact stepQN_ok rfl trivial (rfl)
       refine stepsH_cons rfl ?_ ?_
       ·intro X ext HD hleD _
        replace hs := hs.mono hleD; replace hB := hB.mono hleD; replace hpR := hpR.mono hleD; replace hdR := hdR.mono hleD; replace hpY := hpY.mono hleD; replace hpV := hpV.mono hleD; replace hle0 := hle0.trans hleD; refine withP_cons rfl rfl ?_; rintro _ rfl; refine withP_nil rfl ?_; refine XO.move rfl rfl ?_; refine XO.nil ?_; exact stepQN_ok rfl trivial (rfl)
       refine stepsH_cons rfl ?_ ?_
       ·intro X ext HD hleD _
        replace hs := hs.mono hleD; replace hB := hB.mono hleD; replace hpR := hpR.mono hleD; replace hdR := hdR.mono hleD; replace hpY := hpY.mono hleD; replace hpV := hpV.mono hleD; replace hle0 := hle0.trans hleD; refine withP_cons rfl rfl ?_; rintro _ rfl; refine withP_nil rfl ?_; refine XO.guardT rfl rfl (decide_eq_false h5) rfl ?_; refine XO.move rfl rfl ?_; refine XO.nil ?_; exact stepQN_ok rfl trivial (rfl)
       refine stepsH_cons rfl ?_ ?_
       ·intro X ext HD hleD _
        replace hs := hs.mono hleD; replace hB := hB.mono hleD; replace hpR := hpR.mono hleD; replace hdR := hdR.mono hleD; replace hpY := hpY.mono hleD; replace hpV := hpV.mono hleD; replace hle0 := hle0.trans hleD; refine withP_cons rfl rfl ?_; rintro _ rfl; refine withP_nil rfl ?_; refine XO.guardT rfl rfl (decide_eq_false h5) rfl ?_; refine XO.move rfl rfl ?_; refine XO.nil ?_; exact stepQN_ok rfl trivial (rfl)
       refine stepsH_cons rfl ?_ ?_
       ·intro X ext HD hleD _
        replace hs := hs.mono hleD; replace hB := hB.mono hleD; replace hpR := hpR.mono hleD; replace hdR := hdR.mono hleD; replace hpY := hpY.mono hleD; replace hpV := hpV.mono hleD; replace hle0 := hle0.trans hleD; refine withP_cons rfl rfl ?_; rintro _ rfl; refine withP_cons rfl rfl ?_; rintro _ rfl; refine withP_cons rfl rfl ?_; rintro _ rfl; refine withP_nil rfl ?_; refine XO.guardT rfl rfl (decide_eq_false h5) rfl ?_; refine XO.indexE rfl rfl Try.underlying26 ty_3 (by omega) (by omega) rfl ?_; refine XO.nil ?_; exact stepQN_ok rfl trivial (rfl)
       refine stepsH_cons rfl ?_ ?_
       ·intro X ext HD hleD _
        replace hs := hs.mono hleD; replace hB := hB.mono hleD; replace hpR := hpR.mono hleD; replace hdR := hdR.mono hleD; replace hpY := hpY.mono hleD; replace hpV := hpV.mono hleD; replace hle0 := hle0.trans hleD; refine withP_cons rfl rfl ?_; rintro _ rfl; refine withP_cons rfl rfl ?_; rintro _ rfl; refine withP_nil rfl ?_; refine XO.guardT rfl rfl (decide_eq_false h5) rfl ?_; refine XO.loadH rfl (by assumption) ty_3 rfl rfl rfl ?_; refine XO.nil ?_; exact stepQN_ok rfl trivial (rfl)
       refine stepsH_cons rfl ?_ ?_
       ·intro X ext HD hleD _
        replace hs := hs.mono hleD; replace hB := hB.mono hleD; replace hpR := hpR.mono hleD; replace hdR := hdR.mono hleD; replace hpY := hpY.mono hleD; replace hpV := hpV.mono hleD; replace hle0 := hle0.trans hleD; refine withP_cons rfl rfl ?_; rintro _ rfl; refine withP_nil rfl ?_; refine XO.guardT rfl rfl (decide_eq_false h5) rfl ?_; refine XO.fieldAddr rfl fa_24_0 rfl ?_; refine XO.nil ?_; exact stepQN_ok rfl trivial (rfl)
       refine stepsH_cons rfl ?_ ?_
       ·intro X ext HD hleD _
        replace hs := hs.mono hleD; replace hB := hB.mono hleD; replace hpR := hpR.mono hleD; replace hdR := hdR.mono hleD; replace hpY := hpY.mono hleD; replace hpV := hpV.mono hleD; replace hle0 := hle0.trans hleD; refine withP_cons rfl rfl ?_; rintro _ rfl; refine withP_cons rfl rfl ?_; rintro _ rfl; refine withP_nil rfl ?_; refine XO.guardT rfl rfl (decide_eq_false h5) rfl ?_; refine XO.loadO 0 rfl rfl ty_3 rfl rfl rfl ?_; refine XO.nil ?_; exact stepQN_ok rfl trivial (rfl)
       refine stepsH_cons rfl ?_ ?_
       ·intro X ext HD hleD _
        replace hs := hs.mono hleD; replace hB := hB.mono hleD; replace hpR := hpR.mono hleD; replace hdR := hdR.mono hleD; replace hpY := hpY.mono hleD; replace hpV := hpV.mono hleD; replace hle0 := hle0.trans hleD; refine withP_cons rfl rfl ?_; rintro _ rfl; refine withP_cons rfl rfl ?_; rintro _ rfl; refine withP_cons rfl rfl ?_; rintro _ rfl; refine withP_nil rfl ?_; refine XO.guardT rfl rfl (decide_eq_false h5) rfl ?_; refine XO.geq rfl rfl rfl ?_; refine XO.nil ?_; exact stepQN_ok rfl trivial (rfl)
       refine stepsH_cons rfl ?_ ?_
       ·intro X ext HD hleD _
        replace hs := hs.mono hleD; replace hB := hB.mono hleD; replace hpR := hpR.mono hleD; replace hdR := hdR.mono hleD; replace hpY := hpY.mono hleD; replace hpV := hpV.mono hleD; replace hle0 := hle0.trans hleD; refine withP_cons rfl rfl ?_; rintro _ rfl; refine withP_cons rfl rfl ?_; rintro _ rfl; refine withP_nil rfl ?_; refine XO.pickF rfl (decide_eq_false h5) rfl rfl ?_; refine XO.nil ?_; exact stepQN_ok rfl trivial (rfl)
       refine stepsH_cons rfl ?_ ?_
       ·intro X ext HD hleD _
        replace hs := hs.mono hleD; replace hB := hB.mono hleD; replace hpR := hpR.mono hleD; replace hdR := hdR.mono hleD; replace hpY := hpY.mono hleD; replace hpV := hpV.mono hleD; replace hle0 := hle0.trans hleD; refine withP_cons rfl rfl ?_; rintro _ rfl; refine withP_nil rfl ?_; refine XO.move rfl rfl ?_; refine XO.nil ?_; exact stepQN_ok rfl trivial (rfl)
       refine stepsH_cons rfl ?_ ?_
       ·intro X ext HD hleD _
        replace hs := hs.mono hleD; replace hB := hB.mono hleD; replace hpR := hpR.mono hleD; replace hdR := hdR.mono hleD; replace hpY := hpY.mono hleD; replace hpV := hpV.mono hleD; replace hle0 := hle0.trans hleD; refine withP_cons rfl rfl ?_; rintro _ rfl; refine withP_nil rfl ?_; refine XO.guardT rfl rfl (decide_eq_false h14) rfl ?_; refine XO.move rfl rfl ?_; refine XO.nil ?_; exact stepQN_ok rfl trivial (rfl)
       refine stepsH_cons rfl ?_ ?_
       ·intro X ext HD hleD _
        replace hs := hs.mono hleD; replace hB := hB.mono hleD; replace hpR := hpR.mono hleD; replace hdR := hdR.mono hleD; replace hpY := hpY.mono hleD; replace hpV := hpV.mono hleD; replace hle0 := hle0.trans hleD; refine withP_cons rfl rfl ?_; rintro _ rfl; refine withP_cons rfl rfl ?_; rintro _ rfl; refine withP_nil rfl ?_; refine XO.guardT rfl rfl (decide_eq_false h14) rfl ?_; refine XO.gtr rfl rfl rfl ?_; refine XO.nil ?_; exact stepQN_ok rfl trivial (rfl)
       refine stepsH_cons rfl ?_ ?_
       ·intro X ext HD hleD _
        replace hs := hs.mono hleD; replace hB := hB.mono hleD; replace hpR := hpR.mono hleD; replace hdR := hdR.mono hleD; replace hpY := hpY.mono hleD; replace hpV := hpV.mono hleD; replace hle0 := hle0.trans hleD; refine withP_cons rfl rfl ?_; rintro _ rfl; refine withP_cons rfl rfl ?_; rintro _ rfl; refine withP_nil rfl ?_; refine XO.guardT rfl rfl (decide_eq_false h14) rfl ?_; refine XO.move rfl rfl ?_; refine XO.nil ?_; exact stepQN_ok rfl trivial (rfl)
       refine stepsH_cons rfl ?_ ?_
       ·intro X ext HD hleD _
        replace hs := hs.mono hleD; replace hB := hB.mono hleD; replace hpR := hpR.mono hleD; replace hdR := hdR.mono hleD; replace hpY := hpY.mono hleD; replace hpV := hpV.mono hleD; replace hle0 := hle0.trans hleD; refine withP_cons rfl rfl ?_; rintro _ rfl; refine withP_nil rfl ?_; refine XO.guardF rfl rfl (decide_eq_false h17) rfl rfl ?_; refine XO.nil ?_; exact stepQN_ok rfl trivial (rfl)
       refine stepsH_cons rfl ?_ ?_
       ·intro X ext HD hleD _
        replace hs := hs.mono hleD; replace hB := hB.mono hleD; replace hpR := hpR.mono hleD; replace hdR := hdR.mono hleD; replace hpY := hpY.mono hleD; replace hpV := hpV.mono hleD; replace hle0 := hle0.trans hleD; refine withP_cons rfl rfl ?_; rintro _ rfl; refine withP_nil rfl ?_; refine XO.guardF rfl rfl (decide_eq_false h17) rfl rfl ?_; refine XO.nil ?_; exact stepQN_ok rfl trivial (rfl)
       refine stepsH_cons rfl ?_ ?_
       ·intro X ext HD hleD _
        replace hs := hs.mono hleD; replace hB := hB.mono hleD; replace hpR := hpR.mono hleD; replace hdR := hdR.mono hleD; replace hpY := hpY.mono hleD; replace hpV := hpV.mono hleD; replace hle0 := hle0.trans hleD; refine withP_cons rfl rfl ?_; rintro _ rfl; refine withP_cons rfl rfl ?_; rintro _ rfl; refine withP_nil rfl ?_; refine XO.guardF rfl rfl (decide_eq_false h17) rfl rfl ?_; refine XO.nil ?_; exact stepQN_ok rfl trivial (rfl)
       refine stepsH_cons rfl ?_ ?_
       ·intro X ext HD hleD _
        replace hs := hs.mono hleD; replace hB := hB.mono hleD; replace hpR := hpR.mono hleD; replace hdR := hdR.mono hleD; replace hpY := hpY.mono hleD; replace hpV := hpV.mono hleD; replace hle0 := hle0.trans hleD; refine withP_cons rfl rfl ?_; rintro _ rfl; refine withP_cons rfl rfl ?_; rintro _ rfl; refine withP_cons rfl rfl ?_; rintro _ rfl; refine withP_nil rfl ?_; refine XO.guardF rfl rfl (decide_eq_false h17) rfl rfl ?_; refine XO.nil ?_; exact stepQN_ok rfl trivial (rfl)
       refine stepsH_cons rfl ?_ ?_
       ·intro X ext HD hleD _
        replace hs := hs.mono hleD; replace hB := hB.mono hleD; replace hpR := hpR.mono hleD; replace hdR := hdR.mono hleD; replace hpY := hpY.mono hleD; replace hpV := hpV.mono hleD; replace hle0 := hle0.trans hleD; refine withP_cons rfl rfl ?_; rintro _ rfl; refine withP_cons rfl rfl ?_; rintro _ rfl; refine withP_nil rfl ?_; refine XO.guardF rfl rfl (decide_eq_false h17) rfl rfl ?_; refine XO.nil ?_; exact stepQN_ok rfl trivial (rfl)
       refine stepsH_cons rfl ?_ ?_
       ·intro X ext HD hleD _
        replace hs := hs.mono hleD; replace hB := hB.mono hleD; replace hpR := hpR.mono hleD; replace hdR := hdR.mono hleD; replace hpY := hpY.mono hleD; replace hpV := hpV.mono hleD; replace hle0 := hle0.trans hleD; refine withP_cons rfl rfl ?_; rintro _ rfl; refine withP_nil rfl ?_; refine XO.guardF rfl rfl (decide_eq_false h17) rfl rfl ?_; refine XO.nil ?_; exact stepQN_ok rfl trivial (rfl)
       refine stepsH_cons rfl ?_ ?_
       ·intro X ext HD hleD _
        replace hs := hs.mono hleD; replace hB := hB.mono hleD; replace hpR := hpR.mono hleD; replace hdR := hdR.mono hleD; replace hpY := hpY.mono hleD; replace hpV := hpV.mono hleD; replace hle0 := hle0.trans hleD; refine withP_cons rfl rfl ?_; rintro _ rfl; refine withP_nil rfl ?_; refine XO.guardF rfl rfl (decide_eq_false h17) rfl rfl ?_; refine XO.nil ?_; exact stepQN_ok rfl trivial (rfl)
       refine stepsH_cons rfl ?_ ?_
       ·intro X ext HD hleD _
        replace hs := hs.mono hleD; replace hB := hB.mono hleD; replace hpR := hpR.mono hleD; replace hdR := hdR.mono hleD; replace hpY := hpY.mono hleD; replace hpV := hpV.mono hleD; replace hle0 := hle0.trans hleD; refine withP_cons rfl rfl ?_; rintro _ rfl; refine withP_cons rfl rfl ?_; rintro _ rfl; refine withP_cons rfl rfl ?_; rintro _ rfl; refine withP_nil rfl ?_; refine XO.guardF rfl rfl (decide_eq_false h17) rfl rfl ?_; refine XO.nil ?_; exact stepQN_ok rfl trivial (rfl)
       refine stepsH_cons rfl ?_ ?_
       ·intro X ext HD hleD _
        replace hs := hs.mono hleD; replace hB := hB.mono hleD; replace hpR := hpR.mono hleD; replace hdR := hdR.mono hleD; replace hpY := hpY.mono hleD; replace hpV := hpV.mono hleD; replace hle0 := hle0.trans hleD; refine withP_cons rfl rfl ?_; rintro _ rfl; refine withP_cons rfl rfl ?_; rintro _ rfl; refine withP_nil rfl ?_; refine XO.guardF rfl rfl (decide_eq_false h17) rfl rfl ?_; refine XO.nil ?_; exact stepQN_ok rfl trivial (rfl)
       refine stepsH_cons rfl ?_ ?_
       ·intro X ext HD hleD _
        replace hs := hs.mono hleD; replace hB := hB.mono hleD; replace hpR := hpR.mono hleD; replace hdR := hdR.mono hleD; replace hpY := hpY.mono hleD; replace hpV := hpV.mono hleD; replace hle0 := hle0.trans hleD; refine withP_cons rfl rfl ?_; rintro _ rfl; refine withP_cons rfl rfl ?_; rintro _ rfl; refine withP_cons rfl rfl ?_; rintro _ rfl; refine withP_nil rfl ?_; refine XO.guardF rfl rfl (decide_eq_false h17) rfl rfl ?_; refine XO.nil ?_; exact stepQN_ok rfl trivial (rfl)
       refine stepsH_cons rfl ?_ ?_
       ·intro X ext HD hleD _
        replace hs := hs.mono hleD; replace hB := hB.mono hleD; replace hpR := hpR.mono hleD; replace hdR := hdR.mono hleD; replace hpY := hpY.mono hleD; replace hpV := hpV.mono hleD; replace hle0 := hle0.trans hleD; refine withP_cons rfl rfl ?_; rintro _ rfl; refine withP_cons rfl rfl ?_; rintro _ rfl; refine withP_cons rfl rfl ?_; rintro _ rfl; refine withP_nil rfl ?_; refine XO.guardT rfl rfl (decide_eq_false h14) rfl ?_; refine XO.pickF rfl (decide_eq_false h17) rfl rfl ?_; refine XO.nil ?_; exact stepQN_ok rfl trivial (rfl)
       refine stepsH_cons rfl ?_ ?_
       ·intro X ext HD hleD _
        replace hs := hs.mono hleD; replace hB := hB.mono hleD; replace hpR := hpR.mono hleD; replace hdR := hdR.mono hleD; replace hpY := hpY.mono hleD; replace hpV := hpV.mono hleD; replace hle0 := hle0.trans hleD; refine withP_cons rfl rfl ?_; rintro _ rfl; refine withP_cons rfl rfl ?_; rintro _ rfl; refine withP_nil rfl ?_; refine XO.pickF rfl (decide_eq_false h14) rfl rfl ?_; refine XO.nil ?_; exact stepQN_ok rfl trivial (rfl)
       refine stepsH_cons rfl ?_ ?_
       ·intro X ext HD hleD _
        replace hs := hs.mono hleD; replace hB := hB.mono hleD; replace hpR := hpR.mono hleD; replace hdR := hdR.mono hleD; replace hpY := hpY.mono hleD; replace hpV := hpV.mono hleD; replace hle0 := hle0.trans hleD; refine withP_cons rfl rfl ?_; rintro _ rfl; refine withP_nil rfl ?_; refine XO.move rfl rfl ?_; refine XO.nil ?_; exact stepQN_ok rfl trivial (rfl)
       refine stepsH_cons rfl ?_ ?_
       ·intro X ext HD hleD _
        replace hs := hs.mono hleD; replace hB := hB.mono hleD; replace hpR := hpR.mono hleD; replace hdR := hdR.mono hleD; replace hpY := hpY.mono hleD; replace hpV := hpV.mono hleD; replace hle0 := hle0.trans hleD; refine withP_cons rfl rfl ?_; rintro _ rfl; refine withP_nil rfl ?_; refine XO.guardT rfl rfl (rfl) rfl ?_; refine XO.fieldAddr rfl fa_24_3 rfl ?_; refine XO.nil ?_; exact stepQN_ok rfl trivial (rfl)
       refine stepsH_cons rfl ?_ ?_
       ·intro X ext HD hleD _
        replace hs := hs.mono hleD; replace hB := hB.mono hleD; replace hpR := hpR.mono hleD; replace hdR := hdR.mono hleD; replace hpY := hpY.mono hleD; replace hpV := hpV.mono hleD; replace hle0 := hle0.trans hleD; refine withP_cons rfl rfl ?_; rintro _ rfl; refine withP_cons rfl rfl ?_; rintro _ rfl; refine withP_nil rfl ?_; refine XO.guardT rfl rfl (rfl) rfl ?_; refine XO.loadO 0 rfl rfl ty_22 rfl rfl rfl ?_; refine XO.nil ?_; exact stepQN_ok rfl trivial (rfl)
       refine stepsH_cons rfl ?_ ?_
       ·intro X ext HD hleD _
        replace hs := hs.mono hleD; replace hB := hB.mono hleD; replace hpR := hpR.mono hleD; replace hdR := hdR.mono hleD; replace hpY := hpY.mono hleD; replace hpV := hpV.mono hleD; replace hle0 := hle0.trans hleD; refine withP_cons rfl rfl ?_; rintro _ rfl; refine withP_nil rfl ?_; refine XO.guardT rfl rfl (rfl) rfl ?_; refine XO.move rfl rfl ?_; refine XO.nil ?_; exact stepQN_ok rfl trivial (rfl)
       refine stepsH_cons rfl ?_ ?_
       ·intro X ext HD hleD _
        replace hs := hs.mono hleD; replace hB := hB.mono hleD; replace hpR := hpR.mono hleD; replace hdR := hdR.mono hleD; replace hpY := hpY.mono hleD; replace hpV := hpV.mono hleD; replace hle0 := hle0.trans hleD; refine withP_cons rfl rfl ?_; rintro _ rfl; refine withP_cons rfl rfl ?_; rintro _ rfl; refine withP_cons rfl rfl ?_; rintro _ rfl; refine withP_nil rfl ?_; refine XO.guardT rfl rfl (rfl) rfl ?_; refine XO.indexE rfl rfl Try.underlying22 ty_68 (by omega) (by omega) rfl ?_; refine XO.nil ?_; exact stepQN_ok rfl trivial (rfl)
       refine stepsH_cons rfl ?_ ?_
       ·intro X ext HD hleD _
        replace hs := hs.mono hleD; replace hB := hB.mono hleD; replace hpR := hpR.mono hleD; replace hdR := hdR.mono hleD; replace hpY := hpY.mono hleD; replace hpV := hpV.mono hleD; replace hle0 := hle0.trans hleD; refine withP_cons rfl rfl ?_; rintro _ rfl; refine withP_cons rfl rfl ?_; rintro _ rfl; refine withP_nil rfl ?_; refine XO.guardT rfl rfl (rfl) rfl ?_; refine XO.loadH rfl (by assumption) ty_68 rfl rfl rfl ?_; refine XO.nil ?_; exact stepQN_ok rfl trivial (rfl)
       refine stepsH_cons rfl ?_ ?_
       ·intro X ext HD hleD _
        replace hs := hs.mono hleD; replace hB := hB.mono hleD; replace hpR := hpR.mono hleD; replace hdR := hdR.mono hleD; replace hpY := hpY.mono hleD; replace hpV := hpV.mono hleD; replace hle0 := hle0.trans hleD; refine withP_cons rfl rfl ?_; rintro _ rfl; refine withP_nil rfl ?_; refine XO.guardT rfl rfl (rfl) rfl ?_; refine XO.move rfl rfl ?_; refine XO.nil ?_; exact stepQN_ok rfl trivial (rfl)
       refine stepsH_cons rfl ?_ ?_
       ·intro X ext HD hleD _
        replace hs := hs.mono hleD; replace hB := hB.mono hleD; replace hpR := hpR.mono hleD; replace hdR := hdR.mono hleD; replace hpY := hpY.mono hleD; replace hpV := hpV.mono hleD; replace hle0 := hle0.trans hleD; refine withP_cons rfl rfl ?_; rintro _ rfl; refine withP_nil rfl ?_; refine XO.guardT rfl rfl (rfl) rfl ?_; refine XO.move rfl rfl ?_; refine XO.nil ?_; exact stepQN_ok rfl trivial (rfl)
       refine stepsH_cons rfl ?_ ?_
       ·intro X ext HD hleD _
        replace hs := hs.mono hleD; replace hB := hB.mono hleD; replace hpR := hpR.mono hleD; replace hdR := hdR.mono hleD; replace hpY := hpY.mono hleD; replace hpV := hpV.mono hleD; replace hle0 := hle0.trans hleD; refine withP_cons rfl rfl ?_; rintro _ rfl; refine withP_cons rfl rfl ?_; rintro _ rfl; refine withP_cons rfl rfl ?_; rintro _ rfl; refine withP_nil rfl ?_; refine XO.guardT rfl rfl (rfl) rfl ?_; refine XO.indexE rfl rfl Try.underlying26 ty_3 (by omega) (by omega) rfl ?_; refine XO.nil ?_; exact stepQN_ok rfl trivial (rfl)
       refine stepsH_cons rfl ?_ ?_
       ·intro X ext HD hleD _
        replace hs := hs.mono hleD; replace hB := hB.mono hleD; replace hpR := hpR.mono hleD; replace hdR := hdR.mono hleD; replace hpY := hpY.mono hleD; replace hpV := hpV.mono hleD; replace hle0 := hle0.trans hleD; refine withP_cons rfl rfl ?_; rintro _ rfl; refine withP_cons rfl rfl ?_; rintro _ rfl; refine withP_nil rfl ?_; refine XO.guardT rfl rfl (rfl) rfl ?_; refine XO.loadH rfl (by assumption) ty_3 rfl rfl rfl ?_; refine XO.nil ?_; exact stepQN_ok rfl trivial (rfl)
       exact stepsH_end rfl
      case tail24 =>
       intro HD hleD _
       replace hs := hs.mono hleD; replace hB := hB.mono hleD; replace hpR := hpR.mono hleD; replace hdR := hdR.mono hleD; replace hpY := hpY.mono hleD; replace hpV := hpV.mono hleD; replace hle0 := hle0.trans hleD; refine withP_cons rfl rfl ?_; rintro _ rfl; refine withP_cons rfl rfl ?_; rintro _ rfl; refine withP_cons rfl rfl ?_; rintro _ rfl; refine withP_cons rfl rfl ?_; rintro _ rfl; refine withP_cons rfl rfl ?_; rintro _ rfl; refine withP_cons rfl rfl ?_; rintro _ rfl; refine withP_cons rfl rfl ?_; rintro _ rfl; refine withP_cons rfl rfl ?_; rintro _ rfl; refine withP_cons rfl rfl ?_; rintro _ rfl; refine withP_cons rfl rfl ?_; rintro _ rfl; refine withP_cons rfl rfl ?_; rintro _ rfl; refine withP_cons rfl rfl ?_; rintro _ rfl; refine withP_cons rfl rfl ?_; rintro _ rfl; refine withP_cons rfl rfl ?_; rintro _ rfl; refine withP_cons rfl rfl ?_; rintro _ rfl; refine withP_cons rfl rfl ?_; rintro _ rfl; refine withP_cons rfl rfl ?_; rintro _ rfl; refine withP_cons rfl rfl ?_; rintro _ rfl; refine withP_cons rfl rfl ?_; rintro _ rfl; refine withP_cons rfl rfl ?_; rintro _ rfl; refine withP_cons rfl rfl ?_; rintro _ rfl; refine withP_cons rfl rfl ?_; rintro _ rfl; refine withP_cons rfl rfl ?_; rintro _ rfl; refine withP_cons rfl rfl ?_; rintro _ rfl; refine withP_cons rfl rfl ?_; rintro _ rfl; refine withP_cons rfl rfl ?_; rintro _ rfl; refine withP_cons rfl rfl ?_; rintro _ rfl; refine withP_cons rfl rfl ?_; rintro _ rfl; refine withP_cons rfl rfl ?_; rintro _ rfl; refine withP_cons rfl rfl ?_; rintro _ rfl; refine withP_cons rfl rfl ?_; rintro _ rfl; refine withP_cons rfl rfl ?_; rintro _ rfl; refine withP_cons rfl rfl ?_; rintro _ rfl; refine withP_cons rfl rfl ?_; rintro _ rfl; refine withP_cons rfl rfl ?_; rintro _ rfl; refine withP_cons rfl rfl ?_; rintro _ rfl; refine withP_cons rfl rfl ?_; rintro _ rfl; refine withP_cons rfl rfl ?_; rintro _ rfl; refine withP_cons rfl rfl ?_; rintro _ rfl; refine withP_cons rfl rfl ?_; rintro _ rfl; refine withP_nil rfl ?_; refine withEnts_nil ?_; refine XO.guardT rfl rfl (rfl) rfl ?_; refine XO.indexN rfl (by assumption) rfl Try.underlying68 ty_4 (by omega) rfl ?_; rintro eb59 eo59 _ x59 hx59 rfl hp59; refine XO.guardT rfl rfl (rfl) rfl ?_; refine XO.loadH rfl (by assumption) ty_4 rfl rfl rfl ?_; refine XO.pickF rfl (rfl) rfl rfl ?_; refine XO.nil ?_; refine XC.seq2 ?_; refine XC.condB rfl (fun c2_30 => ?_) (fun c2_30 => ?_)
       ·refine XC.seq ?_; refine XC.region ?_; refine XO.assign rfl rfl ?_; refine XO.nil ?_; refine XC.seq2 ?_; refine XC.ret ?_; refine blockR ?_; refine seqX_ret ?_; refine loopX_ret ?_; refine blockR ?_; refine seqX_ret ?_; refine ⟨rfl, _, [], rfl, (by repeat (first | exact List.Sublist.refl _ | apply List.Sublist.cons)), RetR.mk ?_⟩
        first | exact congrArg Value.bool (decide_eq_false (fun h => by have h2 := h.1; omega)).symm | exact congrArg Value.bool (decide_eq_false (fun h => by have h2 := fitB_n hF hxX (fun h3 => by first | omega | (have h4 := gt_last hL hxP h3.1; omega) | simp_all); rw [h.2] at h2; cases h2)).symm | exact congrArg Value.bool (decide_eq_true ⟨by omega, hF⟩).symm
       ·refine XC.skip ?_; refine blockN ?_; refine XC.seq2 ?_; refine XC.region ?_; refine XO.move rfl rfl ?_; refine XO.add rfl rfl (wrap_i64 (by omega) (by omega)) rfl ?_; refine XO.assign rfl rfl ?_; refine XO.nil ?_; refine loop_next ((k + 1, ((y : Nat) : Int))) (by show l.length - (k + 1) < l.length - k; omega) (prov_cons (rfl) (prov_cons (rfl) (prov_cons (rfl) (prov_cons (rfl) prov_nil)))) (⟨by show k + 1 ≤ l.length; omega, rfl, fitB_y hF hxX (lt_last hL hxP (fun h => by omega) (by omega)) (by omega) hx59 (by assumption), by omega, last_next hxX⟩) (by repeat (first | exact List.Sublist.refl _ | apply List.Sublist.cons_cons | apply List.Sublist.cons)) (hle0)
  ·obtain rfl : k = l.length := by omega
   rw [List.drop_length, fitB] at hF
   refine XC.exit ?_; refine seqX_exit ?_; refine loopX_exit ?_; refine blockHit rfl ?_; refine XC.seq2 ?_; refine XC.seq ?_; refine XC.region ?_; refine XO.assign rfl rfl ?_; refine XO.nil ?_; refine XC.seq2 ?_; refine XC.ret ?_; refine ⟨rfl, _, [], rfl, (by repeat (first | exact List.Sublist.refl _ | apply List.Sublist.cons)), RetR.mk ?_⟩
   first | exact congrArg Value.bool (decide_eq_false (fun h => by have h2 := h.1; omega)).symm | exact congrArg Value.bool (decide_eq_false (fun h => by have h2 := fitB_n hF hxX (fun h3 => by first | omega | (have h4 := gt_last hL hxP h3.1; omega) | simp_all); rw [h.2] at h2; cases h2)).symm | exact congrArg Value.bool (decide_eq_true ⟨by omega, hF⟩).symm

theorem rcheck_fn (w : Wi) (aB : Option Addr) (cB : Nat) (a : Option Addr) (c : Nat) (l : Ls) (H : Hp) (hs : SlR ilR H a c l) (hl : l.length < 9223372036854775808) (hw : ∀ x ∈ l, x.length < 9223372036854775808) (hB : SlR tbR H aB cB w.B) (hBl : w.B.length < 9223372036854775808) : FnC Try.prog 44 #[.agg ⟨[.int .i64 w.J, .int .i64 w.S, .int .i64 w.N, .slice aB w.B.length cB]⟩, .slice a l.length c] H [] (RetR (fun v _ _ => v = .int .i64 (chkD w l))) := by
 refine FnC.intro (args := [.agg ⟨[.int .i64 w.J, .int .i64 w.S, .int .i64 w.N, .slice aB w.B.length cB]⟩, .slice a l.length c]) Try.func44 rfl rfl Try.ntmps44 rfl rfl rfl fun G rest => ?_
 refine XC.seq ?_; refine XC.region ?_; refine XO.box rfl rfl rfl (fun b2 => ?_); refine XO.assign rfl rfl ?_; refine XO.nil ?_; refine XC.seq2 ?_; refine XC.seq ?_; refine XC.seq ?_; refine XC.region ?_; refine XO.loadO 0 rfl rfl ty_24 rfl rfl rfl ?_; refine XO.callV rfl (rright_fn w _ _ _ hB hBl) rfl ?_; refine XO.not rfl rfl ?_; refine XO.nil ?_; refine XC.seq2 ?_; refine XC.cond rfl (fun c0_2 => ?_) (fun c0_2 => ?_)
 ·refine XC.seq ?_; refine XC.region ?_; refine XO.assign rfl rfl ?_; refine XO.nil ?_; refine XC.seq2 ?_; refine XC.ret ?_; refine seqX_ret ?_; refine ⟨rfl, _, [], rfl, (by repeat (first | exact List.Sublist.refl _ | apply List.Sublist.cons)), RetR.mk ?_⟩
  first | exact congrArg (Value.int .i64) (chkD_290 (by assumption)).symm | exact congrArg (Value.int .i64) (chkD_len hrt (by omega)).symm | exact congrArg (Value.int .i64) (chkD_no hrt hlen (fitAll_n hF hxR hxX (by assumption))).symm | exact congrArg (Value.int .i64) (chkD_0 hrt hlen hF).symm
 ·have hrt : rightW w := Decidable.not_not.1 c0_2
  refine XC.skip ?_; refine XC.seq2 ?_; refine XC.seq ?_; refine XC.seq ?_; refine XC.region ?_; refine XO.move rfl rfl ?_; refine XO.lenS (ts := #[]) rfl Try.underlying25 rfl ?_; refine XO.fieldAddr rfl fa_24_3 rfl ?_; refine XO.loadO 0 rfl rfl ty_22 rfl rfl rfl ?_; refine XO.lenS (ts := #[]) rfl Try.underlying22 rfl ?_; refine XO.neq rfl rfl rfl ?_; refine XO.nil ?_; refine XC.seq2 ?_; refine XC.cond rfl (fun c1_3 => ?_) (fun c1_3 => ?_)
  ·refine XC.seq ?_; refine XC.region ?_; refine XO.assign rfl rfl ?_; refine XO.nil ?_; refine XC.seq2 ?_; refine XC.ret ?_; refine seqX_ret ?_; refine ⟨rfl, _, [], rfl, (by repeat (first | exact List.Sublist.refl _ | apply List.Sublist.cons)), RetR.mk ?_⟩
   first | exact congrArg (Value.int .i64) (chkD_290 (by assumption)).symm | exact congrArg (Value.int .i64) (chkD_len hrt (by omega)).symm | exact congrArg (Value.int .i64) (chkD_no hrt hlen (fitAll_n hF hxR hxX (by assumption))).symm | exact congrArg (Value.int .i64) (chkD_0 hrt hlen hF).symm
  ·have hlen : l.length = w.B.length := by omega
   refine XC.skip ?_; refine XC.seq2 ?_; refine XC.seq ?_; refine XC.seq ?_; refine XC.region ?_; refine XO.assign rfl rfl ?_; refine XO.nil ?_; refine XC.seq2 ?_; refine XC.block ?_; refine XC.keep [5, 1, 2] rfl ?_; refine XC.loop (base := [(1, _), (2, _)]) (fun ζ : Nat => [(5, .int .i64 (ζ : Nat))]) (fun ζ Hl own => ζ ≤ l.length ∧ (b2, .cells 24 [.int .i64 w.J, .int .i64 w.S, .int .i64 w.N, .slice aB w.B.length cB]) :: rest = own ∧ (fitAll w w.B l = fitAll w (w.B.drop (ζ)) (l.drop (ζ)))) (fun ζ => l.length - ζ) 0 (prov_cons (rfl) (prov_cons (rfl) (prov_cons (rfl) prov_nil))) (by repeat (first | exact List.Sublist.refl _ | apply List.Sublist.cons_cons | apply List.Sublist.cons)) ⟨Nat.zero_le _, rfl, rfl⟩ ?_; rintro k Hl0 _ hle0 ⟨hkk, rfl, hF⟩; replace hB := hB.mono hle0; replace hs := hs.mono hle0
   try dsimp only at ⊢
   refine XC.seq ?_; refine XC.seq ?_; refine XC.region ?_; refine XO.move rfl rfl ?_; refine XO.move rfl rfl ?_; refine XO.lenS (ts := #[]) rfl Try.underlying25 rfl ?_; refine XO.lss rfl rfl rfl ?_; refine XO.nil ?_; refine XC.seq2 ?_; refine XC.cond rfl (fun c2_4 => ?_) (fun c2_4 => ?_)
   ·obtain ⟨xR, hxR⟩ : ∃ r, w.B[k]? = some r := ⟨_, List.getElem?_eq_getElem (by omega)⟩
    refine XC.skip ?_; refine XC.seq2 ?_; refine XC.seq ?_; refine XC.block ?_; refine XC.seq ?_; refine XC.keep [1, 2, 5] rfl ?_; obtain ⟨bEX, oEX, rfl⟩ := hs.addr (by omega); obtain ⟨_, xX, hxX, ⟨axX, cxX, rfl, hdX⟩, hpX⟩ := hs.elem (k) (by omega)
    apply XC.draw 6 [eqF _, eqF _, eqF _, eqF _, eqF _, eqF _] follows (by kernel_rfl) (by kernel_rfl) ⟨eqF_mono _, eqF_mono _, eqF_mono _, eqF_mono _, eqF_mono _, eqF_mono _, trivial⟩ ?steps5 ?tail5
    case steps5 =>
     refine stepsK_cons rfl ?_ ?_
     ·intro X
      refine withPreds_nil rfl ?_; refine XO.loadO 0 rfl rfl ty_24 rfl rfl rfl ?_; refine XO.nil ?_
      exact stepQ_ok rfl (rfl)
     refine stepsK_cons rfl ?_ ?_
     ·intro X
      refine withPreds_nil rfl ?_; refine XO.move rfl rfl ?_; refine XO.nil ?_
      exact stepQ_ok rfl (rfl)
     refine stepsK_cons rfl ?_ ?_
     ·intro X
      refine withPreds_nil rfl ?_; refine XO.move rfl rfl ?_; refine XO.nil ?_
      exact stepQ_ok rfl (rfl)
     refine stepsK_cons rfl ?_ ?_
     ·intro X
      refine withPreds_nil rfl ?_; refine XO.move rfl rfl ?_; refine XO.nil ?_
      exact stepQ_ok rfl (rfl)
     refine stepsK_cons rfl ?_ ?_
     ·intro X
      refine withPreds_cons rfl rfl ?_; rintro _ rfl; refine withPreds_cons rfl rfl ?_; rintro _ rfl; refine withPreds_nil rfl ?_; refine XO.indexE rfl rfl Try.underlying25 ty_26 (by omega) (by omega) rfl ?_; refine XO.nil ?_
      exact stepQ_ok rfl (rfl)
     refine stepsK_cons rfl ?_ ?_
     ·intro X
      refine withPreds_cons rfl rfl ?_; rintro _ rfl; refine withPreds_nil rfl ?_; refine XO.loadH rfl (by assumption) ty_26 rfl rfl rfl ?_; refine XO.nil ?_
      exact stepQ_ok rfl (rfl)
     exact stepsD_end rfl
    case tail5 =>
     refine withPreds_cons rfl rfl ?_; rintro _ rfl; refine withPreds_cons rfl rfl ?_; rintro _ rfl; refine withPreds_cons rfl rfl ?_; rintro _ rfl; refine withPreds_cons rfl rfl ?_; rintro _ rfl; refine withPreds_cons rfl rfl ?_; rintro _ rfl; refine withPreds_cons rfl rfl ?_; rintro _ rfl; refine withPreds_nil rfl ?_; refine XO.callV rfl (rlist_fn w _ _ k xR hxR axX cxX xX _ hdX (hw _ (List.mem_of_getElem? hxX)) hB hBl (hrt.2.2 _ (List.mem_of_getElem? hxR))) rfl ?_; refine XO.not rfl rfl ?_; refine XO.nil ?_; refine XC.seq2 ?_; refine XC.cond rfl (fun c3_8 => ?_) (fun c3_8 => ?_)
     ·refine XC.seq ?_; refine XC.region ?_; refine XO.assign rfl rfl ?_; refine XO.nil ?_; refine XC.seq2 ?_; refine XC.ret ?_; refine blockR ?_; refine seqX_ret ?_; refine loopX_ret ?_; refine blockR ?_; refine seqX_ret ?_; refine ⟨rfl, _, [], rfl, (by repeat (first | exact List.Sublist.refl _ | apply List.Sublist.cons)), RetR.mk ?_⟩
      first | exact congrArg (Value.int .i64) (chkD_290 (by assumption)).symm | exact congrArg (Value.int .i64) (chkD_len hrt (by omega)).symm | exact congrArg (Value.int .i64) (chkD_no hrt hlen (fitAll_n hF hxR hxX (by assumption))).symm | exact congrArg (Value.int .i64) (chkD_0 hrt hlen hF).symm
     ·refine XC.skip ?_; refine blockN ?_; refine XC.seq2 ?_; refine XC.region ?_; refine XO.move rfl rfl ?_; refine XO.add rfl rfl (wrap_i64 (by omega) (by omega)) rfl ?_; refine XO.assign rfl rfl ?_; refine XO.nil ?_; refine loop_next (k + 1) (by show l.length - (k + 1) < l.length - k; omega) (prov_cons (rfl) (prov_cons (rfl) (prov_cons (rfl) prov_nil))) (⟨by show k + 1 ≤ l.length; omega, rfl, fitAll_y hF hxR hxX (Decidable.not_not.1 (by assumption))⟩) (by repeat (first | exact List.Sublist.refl _ | apply List.Sublist.cons_cons | apply List.Sublist.cons)) (hle0)
   ·obtain rfl : k = l.length := by omega
    rw [List.drop_length, fitAll_e] at hF
    refine XC.exit ?_; refine seqX_exit ?_; refine loopX_exit ?_; refine blockHit rfl ?_; refine XC.seq2 ?_; refine XC.seq ?_; refine XC.region ?_; refine XO.assign rfl rfl ?_; refine XO.nil ?_; refine XC.seq2 ?_; refine XC.ret ?_; refine ⟨rfl, _, [], rfl, (by repeat (first | exact List.Sublist.refl _ | apply List.Sublist.cons)), RetR.mk ?_⟩
    first | exact congrArg (Value.int .i64) (chkD_290 (by assumption)).symm | exact congrArg (Value.int .i64) (chkD_len hrt (by omega)).symm | exact congrArg (Value.int .i64) (chkD_no hrt hlen (fitAll_n hF hxR hxX (by assumption))).symm | exact congrArg (Value.int .i64) (chkD_0 hrt hlen hF).symm

theorem few28_fn (w : Wi) (aB : Option Addr) (cB : Nat) (a : Option Addr) (c : Nat) (l : Ls) (H : Hp) (hs : SlR ilR H a c l) (hl : l.length < 9223372036854775808) (hB : SlR tbR H aB cB w.B) (hBl : w.B.length < 9223372036854775808) : FnC Try.prog 25 #[.agg ⟨[.int .i64 w.J, .int .i64 w.S, .int .i64 w.N, .slice aB w.B.length cB]⟩, .slice a l.length c] H [] (RetR (fun v _ _ => ∃ b : Bool, v = .bool b ∧ (b = true → w.B.length ≤ 12 ∧ l.length ≤ 14 ∧ ∀ x ∈ l, x.length ≤ 30))) := by
 refine FnC.intro (args := [.agg ⟨[.int .i64 w.J, .int .i64 w.S, .int .i64 w.N, .slice aB w.B.length cB]⟩, .slice a l.length c]) Try.func25 rfl rfl Try.ntmps25 rfl rfl rfl fun G rest => ?_
 refine XC.seq ?_; refine XC.region ?_; refine XO.box rfl rfl rfl (fun b2 => ?_); refine XO.assign rfl rfl ?_; refine XO.nil ?_; refine XC.seq2 ?_; refine XC.seq ?_; refine XC.seq ?_; refine XC.region ?_; refine XO.fieldAddr rfl fa_24_0 rfl ?_; refine XO.loadO 0 rfl rfl ty_3 rfl rfl rfl ?_; refine XO.gtr rfl rfl rfl ?_; refine XO.move rfl rfl ?_; refine XO.guardC rfl rfl rfl rfl (fun g1 => ?_) (fun g1 => ?_)
 ·have g1p := of_decide_eq_true g1
  refine XO.fieldAddr rfl fa_24_0 rfl ?_; refine XO.guardT rfl rfl (g1) rfl ?_; refine XO.loadO 0 rfl rfl ty_3 rfl rfl rfl ?_; refine XO.guardT rfl rfl (g1) rfl ?_; refine XO.leq rfl rfl rfl ?_; refine XO.pickT rfl (g1) rfl rfl ?_; refine XO.move rfl rfl ?_; refine XO.guardC rfl rfl rfl rfl (fun g2 => ?_) (fun g2 => ?_)
  ·have g2p := of_decide_eq_false g2
   refine XO.fieldAddr rfl fa_24_3 rfl ?_; refine XO.guardT rfl rfl (g2) rfl ?_; refine XO.loadO 0 rfl rfl ty_22 rfl rfl rfl ?_; refine XO.guardT rfl rfl (g2) rfl ?_; refine XO.lenS (ts := #[]) rfl Try.underlying22 rfl ?_; refine XO.guardT rfl rfl (g2) rfl ?_; refine XO.gtr rfl rfl rfl ?_; refine XO.pickF rfl (g2) rfl rfl ?_; refine XO.move rfl rfl ?_; refine XO.guardC rfl rfl rfl rfl (fun g3 => ?_) (fun g3 => ?_)
   ·have g3p := of_decide_eq_false g3
    refine XO.move rfl rfl ?_; refine XO.guardT rfl rfl (g3) rfl ?_; refine XO.lenS (ts := #[]) rfl Try.underlying25 rfl ?_; refine XO.guardT rfl rfl (g3) rfl ?_; refine XO.gtr rfl rfl rfl ?_; refine XO.pickF rfl (g3) rfl rfl ?_; refine XO.nil ?_; refine XC.seq2 ?_; refine XC.cond rfl (fun c0_4 => ?_) (fun c0_4 => ?_)
    ·refine XC.seq ?_; refine XC.region ?_; refine XO.assign rfl rfl ?_; refine XO.nil ?_; refine XC.seq2 ?_; refine XC.ret ?_; refine seqX_ret ?_; refine ⟨rfl, _, [], rfl, (by repeat (first | exact List.Sublist.refl _ | apply List.Sublist.cons)), RetR.mk ?_⟩
     first | exact ⟨false, rfl, fun h => by cases h⟩ | exact ⟨true, rfl, fun _ => ⟨by omega, by omega, fun x hx => by have := hno x hx; omega⟩⟩
    ·refine XC.skip ?_; refine XC.seq2 ?_; refine XC.seq ?_; refine XC.seq ?_; refine XC.region ?_; refine XO.assign rfl rfl ?_; refine XO.nil ?_; refine XC.seq2 ?_; refine XC.block ?_; refine XC.keep [5, 1, 2] rfl ?_; refine XC.loop (base := [(1, _), (2, _)]) (fun ζ : Nat => [(5, .int .i64 (ζ : Nat))]) (fun ζ Hl own => ζ ≤ w.B.length ∧ (b2, .cells 24 [.int .i64 w.J, .int .i64 w.S, .int .i64 w.N, .slice aB w.B.length cB]) :: rest = own) (fun ζ => w.B.length - ζ) 0 (prov_cons (rfl) (prov_cons (rfl) (prov_cons (rfl) prov_nil))) (by repeat (first | exact List.Sublist.refl _ | apply List.Sublist.cons_cons | apply List.Sublist.cons)) ⟨Nat.zero_le _, rfl⟩ ?_; rintro k Hl0 _ hle0 ⟨hkk, rfl⟩; replace hB := hB.mono hle0; replace hs := hs.mono hle0
     try dsimp only at ⊢
     refine XC.seq ?_; refine XC.seq ?_; refine XC.region ?_; refine XO.move rfl rfl ?_; refine XO.fieldAddr rfl fa_24_3 rfl ?_; refine XO.loadO 0 rfl rfl ty_22 rfl rfl rfl ?_; refine XO.lenS (ts := #[]) rfl Try.underlying22 rfl ?_; refine XO.lss rfl rfl rfl ?_; refine XO.nil ?_; refine XC.seq2 ?_; refine XC.cond rfl (fun c1_5 => ?_) (fun c1_5 => ?_)
     ·refine XC.skip ?_; refine XC.seq2 ?_; refine XC.seq ?_; refine XC.block ?_; refine XC.seq ?_; refine XC.region ?_; refine XO.fieldAddr rfl fa_24_3 rfl ?_; refine XO.loadO 0 rfl rfl ty_22 rfl rfl rfl ?_; refine XO.move rfl rfl ?_; refine XO.indexN rfl hB rfl Try.underlying22 ty_68 (by omega) rfl ?_; rintro eb36 eo36 _ x36 hx36 ⟨ax36, cx36, rfl, hd36⟩ hp36; refine XO.loadH rfl (by assumption) ty_68 rfl rfl rfl ?_; refine XO.lenS (ts := #[]) rfl Try.underlying68 rfl ?_; refine XO.gtr rfl rfl rfl ?_; refine XO.nil ?_; refine XC.seq2 ?_; refine XC.cond rfl (fun c2_7 => ?_) (fun c2_7 => ?_)
      ·refine XC.seq ?_; refine XC.region ?_; refine XO.assign rfl rfl ?_; refine XO.nil ?_; refine XC.seq2 ?_; refine XC.ret ?_; refine blockR ?_; refine seqX_ret ?_; refine loopX_ret ?_; refine blockR ?_; refine seqX_ret ?_; refine ⟨rfl, _, [], rfl, (by repeat (first | exact List.Sublist.refl _ | apply List.Sublist.cons)), RetR.mk ?_⟩
       first | exact ⟨false, rfl, fun h => by cases h⟩ | exact ⟨true, rfl, fun _ => ⟨by omega, by omega, fun x hx => by have := hno x hx; omega⟩⟩
      ·refine XC.skip ?_; refine blockN ?_; refine XC.seq2 ?_; refine XC.region ?_; refine XO.move rfl rfl ?_; refine XO.add rfl rfl (wrap_i64 (by omega) (by omega)) rfl ?_; refine XO.assign rfl rfl ?_; refine XO.nil ?_; refine loop_next (k + 1) (by show w.B.length - (k + 1) < w.B.length - k; omega) (prov_cons (rfl) (prov_cons (rfl) (prov_cons (rfl) prov_nil))) (⟨by show k + 1 ≤ w.B.length; omega, rfl⟩) (by repeat (first | exact List.Sublist.refl _ | apply List.Sublist.cons_cons | apply List.Sublist.cons)) (hle0)
     ·refine XC.exit ?_; refine seqX_exit ?_; refine loopX_exit ?_; refine blockHit rfl ?_; refine XC.seq2 ?_; refine XC.seq ?_; refine XC.seq ?_; refine XC.region ?_; refine XO.assign rfl rfl ?_; refine XO.nil ?_; refine XC.seq2 ?_; refine XC.block ?_; refine XC.keep [6, 1] rfl ?_; refine XC.loop (base := [(1, _)]) (fun ζ : Nat => [(6, .int .i64 (ζ : Nat))]) (fun ζ Hl own => ζ ≤ l.length ∧ rest = own ∧ (∀ x ∈ l.take ζ, ¬ ((30 : Int) < x.length))) (fun ζ => l.length - ζ) 0 (prov_cons (rfl) (prov_cons (rfl) prov_nil)) (by repeat (first | exact List.Sublist.refl _ | apply List.Sublist.cons_cons | apply List.Sublist.cons)) ⟨Nat.zero_le _, rfl, by simp⟩ ?_; rintro j Hl1 _ hle1 ⟨hkj, rfl, hno⟩; replace hB := hB.mono hle1; replace hs := hs.mono hle1; replace hle0 := hle0.trans hle1
      try dsimp only at ⊢
      refine XC.seq ?_; refine XC.seq ?_; refine XC.region ?_; refine XO.move rfl rfl ?_; refine XO.move rfl rfl ?_; refine XO.lenS (ts := #[]) rfl Try.underlying25 rfl ?_; refine XO.lss rfl rfl rfl ?_; refine XO.nil ?_; refine XC.seq2 ?_; refine XC.cond rfl (fun c3_8 => ?_) (fun c3_8 => ?_)
      ·refine XC.skip ?_; refine XC.seq2 ?_; refine XC.seq ?_; refine XC.block ?_; refine XC.seq ?_; refine XC.region ?_; refine XO.move rfl rfl ?_; refine XO.move rfl rfl ?_; refine XO.indexN rfl hs rfl Try.underlying25 ty_26 (by omega) rfl ?_; rintro eb48 eo48 _ x48 hx48 ⟨ax48, cx48, rfl, hd48⟩ hp48; refine XO.loadH rfl (by assumption) ty_26 rfl rfl rfl ?_; refine XO.lenS (ts := #[]) rfl Try.underlying26 rfl ?_; refine XO.gtr rfl rfl rfl ?_; refine XO.nil ?_; refine XC.seq2 ?_; refine XC.cond rfl (fun c4_10 => ?_) (fun c4_10 => ?_)
       ·refine XC.seq ?_; refine XC.region ?_; refine XO.assign rfl rfl ?_; refine XO.nil ?_; refine XC.seq2 ?_; refine XC.ret ?_; refine blockR ?_; refine seqX_ret ?_; refine loopX_ret ?_; refine blockR ?_; refine seqX_ret ?_; refine ⟨rfl, _, [], rfl, (by repeat (first | exact List.Sublist.refl _ | apply List.Sublist.cons)), RetR.mk ?_⟩
        first | exact ⟨false, rfl, fun h => by cases h⟩ | exact ⟨true, rfl, fun _ => ⟨by omega, by omega, fun x hx => by have := hno x hx; omega⟩⟩
       ·refine XC.skip ?_; refine blockN ?_; refine XC.seq2 ?_; refine XC.region ?_; refine XO.move rfl rfl ?_; refine XO.add rfl rfl (wrap_i64 (by omega) (by omega)) rfl ?_; refine XO.assign rfl rfl ?_; refine XO.nil ?_; refine loop_next (j + 1) (by show l.length - (j + 1) < l.length - j; omega) (prov_cons (rfl) (prov_cons (rfl) prov_nil)) (⟨by show j + 1 ≤ l.length; omega, rfl, all_snoc hno hx48 (by omega)⟩) (by repeat (first | exact List.Sublist.refl _ | apply List.Sublist.cons_cons | apply List.Sublist.cons)) (hle1)
      ·obtain rfl : j = l.length := by omega
       rw [List.take_length] at hno
       refine XC.exit ?_; refine seqX_exit ?_; refine loopX_exit ?_; refine blockHit rfl ?_; refine XC.seq2 ?_; refine XC.seq ?_; refine XC.region ?_; refine XO.assign rfl rfl ?_; refine XO.nil ?_; refine XC.seq2 ?_; refine XC.ret ?_; refine ⟨rfl, _, [], rfl, (by repeat (first | exact List.Sublist.refl _ | apply List.Sublist.cons)), RetR.mk ?_⟩
       first | exact ⟨false, rfl, fun h => by cases h⟩ | exact ⟨true, rfl, fun _ => ⟨by omega, by omega, fun x hx => by have := hno x hx; omega⟩⟩
   ·have g3p := of_decide_eq_true g3
    refine XO.guardF rfl rfl (g3) rfl rfl ?_; refine XO.guardF rfl rfl (g3) rfl rfl ?_; refine XO.pickT rfl (g3) rfl rfl ?_; refine XO.nil ?_; refine XC.seq2 ?_; refine XC.condT rfl (rfl) ?_; refine XC.seq ?_; refine XC.region ?_; refine XO.assign rfl rfl ?_; refine XO.nil ?_; refine XC.seq2 ?_; refine XC.ret ?_; refine seqX_ret ?_; refine ⟨rfl, _, [], rfl, (by repeat (first | exact List.Sublist.refl _ | apply List.Sublist.cons)), RetR.mk ?_⟩
    first | exact ⟨false, rfl, fun h => by cases h⟩ | exact ⟨true, rfl, fun _ => ⟨by omega, by omega, fun x hx => by have := hno x hx; omega⟩⟩
  ·have g2p := of_decide_eq_true g2
   refine XO.guardF rfl rfl (g2) rfl rfl ?_; refine XO.guardF rfl rfl (g2) rfl rfl ?_; refine XO.guardF rfl rfl (g2) rfl rfl ?_; refine XO.pickT rfl (g2) rfl rfl ?_; refine XO.move rfl rfl ?_; refine XO.guardF rfl rfl (rfl) rfl rfl ?_; refine XO.guardF rfl rfl (rfl) rfl rfl ?_; refine XO.guardF rfl rfl (rfl) rfl rfl ?_; refine XO.pickT rfl (rfl) rfl rfl ?_; refine XO.nil ?_; refine XC.seq2 ?_; refine XC.condT rfl (rfl) ?_; refine XC.seq ?_; refine XC.region ?_; refine XO.assign rfl rfl ?_; refine XO.nil ?_; refine XC.seq2 ?_; refine XC.ret ?_; refine seqX_ret ?_; refine ⟨rfl, _, [], rfl, (by repeat (first | exact List.Sublist.refl _ | apply List.Sublist.cons)), RetR.mk ?_⟩
   first | exact ⟨false, rfl, fun h => by cases h⟩ | exact ⟨true, rfl, fun _ => ⟨by omega, by omega, fun x hx => by have := hno x hx; omega⟩⟩
 ·have g1p := of_decide_eq_false g1
  refine XO.guardF rfl rfl (g1) rfl rfl ?_; refine XO.guardF rfl rfl (g1) rfl rfl ?_; refine XO.pickF rfl (g1) rfl rfl ?_; refine XO.move rfl rfl ?_; refine XO.guardT rfl rfl (rfl) rfl ?_; refine XO.fieldAddr rfl fa_24_3 rfl ?_; refine XO.guardT rfl rfl (rfl) rfl ?_; refine XO.loadO 0 rfl rfl ty_22 rfl rfl rfl ?_; refine XO.guardT rfl rfl (rfl) rfl ?_; refine XO.lenS (ts := #[]) rfl Try.underlying22 rfl ?_; refine XO.guardT rfl rfl (rfl) rfl ?_; refine XO.gtr rfl rfl rfl ?_; refine XO.pickF rfl (rfl) rfl rfl ?_; refine XO.move rfl rfl ?_; refine XO.guardC rfl rfl rfl rfl (fun g11 => ?_) (fun g11 => ?_)
  ·have g11p := of_decide_eq_false g11
   refine XO.move rfl rfl ?_; refine XO.guardT rfl rfl (g11) rfl ?_; refine XO.lenS (ts := #[]) rfl Try.underlying25 rfl ?_; refine XO.guardT rfl rfl (g11) rfl ?_; refine XO.gtr rfl rfl rfl ?_; refine XO.pickF rfl (g11) rfl rfl ?_; refine XO.nil ?_; refine XC.seq2 ?_; refine XC.cond rfl (fun c0_12 => ?_) (fun c0_12 => ?_)
   ·refine XC.seq ?_; refine XC.region ?_; refine XO.assign rfl rfl ?_; refine XO.nil ?_; refine XC.seq2 ?_; refine XC.ret ?_; refine seqX_ret ?_; refine ⟨rfl, _, [], rfl, (by repeat (first | exact List.Sublist.refl _ | apply List.Sublist.cons)), RetR.mk ?_⟩
    first | exact ⟨false, rfl, fun h => by cases h⟩ | exact ⟨true, rfl, fun _ => ⟨by omega, by omega, fun x hx => by have := hno x hx; omega⟩⟩
   ·refine XC.skip ?_; refine XC.seq2 ?_; refine XC.seq ?_; refine XC.seq ?_; refine XC.region ?_; refine XO.assign rfl rfl ?_; refine XO.nil ?_; refine XC.seq2 ?_; refine XC.block ?_; refine XC.keep [5, 1, 2] rfl ?_; refine XC.loop (base := [(1, _), (2, _)]) (fun ζ : Nat => [(5, .int .i64 (ζ : Nat))]) (fun ζ Hl own => ζ ≤ w.B.length ∧ (b2, .cells 24 [.int .i64 w.J, .int .i64 w.S, .int .i64 w.N, .slice aB w.B.length cB]) :: rest = own) (fun ζ => w.B.length - ζ) 0 (prov_cons (rfl) (prov_cons (rfl) (prov_cons (rfl) prov_nil))) (by repeat (first | exact List.Sublist.refl _ | apply List.Sublist.cons_cons | apply List.Sublist.cons)) ⟨Nat.zero_le _, rfl⟩ ?_; rintro k Hl0 _ hle0 ⟨hkk, rfl⟩; replace hB := hB.mono hle0; replace hs := hs.mono hle0
    try dsimp only at ⊢
    refine XC.seq ?_; refine XC.seq ?_; refine XC.region ?_; refine XO.move rfl rfl ?_; refine XO.fieldAddr rfl fa_24_3 rfl ?_; refine XO.loadO 0 rfl rfl ty_22 rfl rfl rfl ?_; refine XO.lenS (ts := #[]) rfl Try.underlying22 rfl ?_; refine XO.lss rfl rfl rfl ?_; refine XO.nil ?_; refine XC.seq2 ?_; refine XC.cond rfl (fun c1_13 => ?_) (fun c1_13 => ?_)
    ·refine XC.skip ?_; refine XC.seq2 ?_; refine XC.seq ?_; refine XC.block ?_; refine XC.seq ?_; refine XC.region ?_; refine XO.fieldAddr rfl fa_24_3 rfl ?_; refine XO.loadO 0 rfl rfl ty_22 rfl rfl rfl ?_; refine XO.move rfl rfl ?_; refine XO.indexN rfl hB rfl Try.underlying22 ty_68 (by omega) rfl ?_; rintro eb36 eo36 _ x36 hx36 ⟨ax36, cx36, rfl, hd36⟩ hp36; refine XO.loadH rfl (by assumption) ty_68 rfl rfl rfl ?_; refine XO.lenS (ts := #[]) rfl Try.underlying68 rfl ?_; refine XO.gtr rfl rfl rfl ?_; refine XO.nil ?_; refine XC.seq2 ?_; refine XC.cond rfl (fun c2_15 => ?_) (fun c2_15 => ?_)
     ·refine XC.seq ?_; refine XC.region ?_; refine XO.assign rfl rfl ?_; refine XO.nil ?_; refine XC.seq2 ?_; refine XC.ret ?_; refine blockR ?_; refine seqX_ret ?_; refine loopX_ret ?_; refine blockR ?_; refine seqX_ret ?_; refine ⟨rfl, _, [], rfl, (by repeat (first | exact List.Sublist.refl _ | apply List.Sublist.cons)), RetR.mk ?_⟩
      first | exact ⟨false, rfl, fun h => by cases h⟩ | exact ⟨true, rfl, fun _ => ⟨by omega, by omega, fun x hx => by have := hno x hx; omega⟩⟩
     ·refine XC.skip ?_; refine blockN ?_; refine XC.seq2 ?_; refine XC.region ?_; refine XO.move rfl rfl ?_; refine XO.add rfl rfl (wrap_i64 (by omega) (by omega)) rfl ?_; refine XO.assign rfl rfl ?_; refine XO.nil ?_; refine loop_next (k + 1) (by show w.B.length - (k + 1) < w.B.length - k; omega) (prov_cons (rfl) (prov_cons (rfl) (prov_cons (rfl) prov_nil))) (⟨by show k + 1 ≤ w.B.length; omega, rfl⟩) (by repeat (first | exact List.Sublist.refl _ | apply List.Sublist.cons_cons | apply List.Sublist.cons)) (hle0)
    ·refine XC.exit ?_; refine seqX_exit ?_; refine loopX_exit ?_; refine blockHit rfl ?_; refine XC.seq2 ?_; refine XC.seq ?_; refine XC.seq ?_; refine XC.region ?_; refine XO.assign rfl rfl ?_; refine XO.nil ?_; refine XC.seq2 ?_; refine XC.block ?_; refine XC.keep [6, 1] rfl ?_; refine XC.loop (base := [(1, _)]) (fun ζ : Nat => [(6, .int .i64 (ζ : Nat))]) (fun ζ Hl own => ζ ≤ l.length ∧ rest = own ∧ (∀ x ∈ l.take ζ, ¬ ((30 : Int) < x.length))) (fun ζ => l.length - ζ) 0 (prov_cons (rfl) (prov_cons (rfl) prov_nil)) (by repeat (first | exact List.Sublist.refl _ | apply List.Sublist.cons_cons | apply List.Sublist.cons)) ⟨Nat.zero_le _, rfl, by simp⟩ ?_; rintro j Hl1 _ hle1 ⟨hkj, rfl, hno⟩; replace hB := hB.mono hle1; replace hs := hs.mono hle1; replace hle0 := hle0.trans hle1
     try dsimp only at ⊢
     refine XC.seq ?_; refine XC.seq ?_; refine XC.region ?_; refine XO.move rfl rfl ?_; refine XO.move rfl rfl ?_; refine XO.lenS (ts := #[]) rfl Try.underlying25 rfl ?_; refine XO.lss rfl rfl rfl ?_; refine XO.nil ?_; refine XC.seq2 ?_; refine XC.cond rfl (fun c3_16 => ?_) (fun c3_16 => ?_)
     ·refine XC.skip ?_; refine XC.seq2 ?_; refine XC.seq ?_; refine XC.block ?_; refine XC.seq ?_; refine XC.region ?_; refine XO.move rfl rfl ?_; refine XO.move rfl rfl ?_; refine XO.indexN rfl hs rfl Try.underlying25 ty_26 (by omega) rfl ?_; rintro eb48 eo48 _ x48 hx48 ⟨ax48, cx48, rfl, hd48⟩ hp48; refine XO.loadH rfl (by assumption) ty_26 rfl rfl rfl ?_; refine XO.lenS (ts := #[]) rfl Try.underlying26 rfl ?_; refine XO.gtr rfl rfl rfl ?_; refine XO.nil ?_; refine XC.seq2 ?_; refine XC.cond rfl (fun c4_18 => ?_) (fun c4_18 => ?_)
      ·refine XC.seq ?_; refine XC.region ?_; refine XO.assign rfl rfl ?_; refine XO.nil ?_; refine XC.seq2 ?_; refine XC.ret ?_; refine blockR ?_; refine seqX_ret ?_; refine loopX_ret ?_; refine blockR ?_; refine seqX_ret ?_; refine ⟨rfl, _, [], rfl, (by repeat (first | exact List.Sublist.refl _ | apply List.Sublist.cons)), RetR.mk ?_⟩
       first | exact ⟨false, rfl, fun h => by cases h⟩ | exact ⟨true, rfl, fun _ => ⟨by omega, by omega, fun x hx => by have := hno x hx; omega⟩⟩
      ·refine XC.skip ?_; refine blockN ?_; refine XC.seq2 ?_; refine XC.region ?_; refine XO.move rfl rfl ?_; refine XO.add rfl rfl (wrap_i64 (by omega) (by omega)) rfl ?_; refine XO.assign rfl rfl ?_; refine XO.nil ?_; refine loop_next (j + 1) (by show l.length - (j + 1) < l.length - j; omega) (prov_cons (rfl) (prov_cons (rfl) prov_nil)) (⟨by show j + 1 ≤ l.length; omega, rfl, all_snoc hno hx48 (by omega)⟩) (by repeat (first | exact List.Sublist.refl _ | apply List.Sublist.cons_cons | apply List.Sublist.cons)) (hle1)
     ·obtain rfl : j = l.length := by omega
      rw [List.take_length] at hno
      refine XC.exit ?_; refine seqX_exit ?_; refine loopX_exit ?_; refine blockHit rfl ?_; refine XC.seq2 ?_; refine XC.seq ?_; refine XC.region ?_; refine XO.assign rfl rfl ?_; refine XO.nil ?_; refine XC.seq2 ?_; refine XC.ret ?_; refine ⟨rfl, _, [], rfl, (by repeat (first | exact List.Sublist.refl _ | apply List.Sublist.cons)), RetR.mk ?_⟩
      first | exact ⟨false, rfl, fun h => by cases h⟩ | exact ⟨true, rfl, fun _ => ⟨by omega, by omega, fun x hx => by have := hno x hx; omega⟩⟩
  ·have g11p := of_decide_eq_true g11
   refine XO.guardF rfl rfl (g11) rfl rfl ?_; refine XO.guardF rfl rfl (g11) rfl rfl ?_; refine XO.pickT rfl (g11) rfl rfl ?_; refine XO.nil ?_; refine XC.seq2 ?_; refine XC.condT rfl (rfl) ?_; refine XC.seq ?_; refine XC.region ?_; refine XO.assign rfl rfl ?_; refine XO.nil ?_; refine XC.seq2 ?_; refine XC.ret ?_; refine seqX_ret ?_; refine ⟨rfl, _, [], rfl, (by repeat (first | exact List.Sublist.refl _ | apply List.Sublist.cons)), RetR.mk ?_⟩
   first | exact ⟨false, rfl, fun h => by cases h⟩ | exact ⟨true, rfl, fun _ => ⟨by omega, by omega, fun x hx => by have := hno x hx; omega⟩⟩

theorem few_fn (w : Wi) (aB : Option Addr) (cB : Nat) (a : Option Addr) (c : Nat) (l : Ls) (aA : Option Addr) (cA : Nat) (ab : List Int) (H : Hp) (hs : SlR ilR H a c l) (hl : l.length < 9223372036854775808) (hB : SlR tbR H aB cB w.B) (hBl : w.B.length < 9223372036854775808) (hA : SlR (intR .i64) H aA cA ab) (hal : ab.length < 9223372036854775808) : FnC Try.prog 10 #[.agg ⟨[.int .i64 w.J, .int .i64 w.S, .int .i64 w.N, .slice aB w.B.length cB]⟩, .slice a l.length c, .slice aA ab.length cA] H [] (RetR (fun v _ _ => ∃ b : Bool, v = .bool b ∧ (b = true → ab.length ≤ 20 ∧ w.B.length ≤ 12 ∧ l.length ≤ 14 ∧ ∀ x ∈ l, x.length ≤ 30))) := by
 refine FnC.intro (args := [.agg ⟨[.int .i64 w.J, .int .i64 w.S, .int .i64 w.N, .slice aB w.B.length cB]⟩, .slice a l.length c, .slice aA ab.length cA]) Try.func10 rfl rfl Try.ntmps10 rfl rfl rfl fun G rest => ?_
 refine XC.seq ?_; refine XC.region ?_; refine XO.box rfl rfl rfl (fun b3 => ?_); refine XO.assign rfl rfl ?_; refine XO.nil ?_; refine XC.seq2 ?_; refine XC.seq ?_; refine XC.seq ?_; refine XC.region ?_; refine XO.move rfl rfl ?_; refine XO.lenS (ts := #[]) rfl Try.underlying26 rfl ?_; refine XO.gtr rfl rfl rfl ?_; refine XO.move rfl rfl ?_; refine XO.guardC rfl rfl rfl rfl (fun g1 => ?_) (fun g1 => ?_)
 ·have g1p := of_decide_eq_false g1
  refine XO.loadO 0 rfl rfl ty_24 rfl rfl rfl ?_; refine XO.guardT rfl rfl (g1) rfl ?_; refine XO.move rfl rfl ?_; refine XO.guardT rfl rfl (g1) rfl ?_; refine XO.callK rfl (few28_fn w aB cB a c l _ hs hl hB hBl) rfl ?_; rintro _ ⟨bf, rfl, hfew⟩; refine XO.guardT rfl rfl (g1) rfl ?_; refine XO.notB rfl rfl ?_; refine XO.pickF rfl (g1) rfl rfl ?_; refine XO.nil ?_; refine XC.seq2 ?_; refine XC.condB rfl (fun c0_3 => ?_) (fun c0_3 => ?_)
  ·refine XC.seq ?_; refine XC.region ?_; refine XO.assign rfl rfl ?_; refine XO.nil ?_; refine XC.seq2 ?_; refine XC.ret ?_; refine seqX_ret ?_; refine ⟨rfl, _, [], rfl, (by repeat (first | exact List.Sublist.refl _ | apply List.Sublist.cons)), RetR.mk ?_⟩
   first | exact ⟨false, rfl, fun h => by cases h⟩ | exact ⟨_, rfl, fun _ => ⟨by omega, hq⟩⟩
  ·obtain rfl : bf = true := by simpa using c0_3
   have hq := hfew rfl
   refine XC.skip ?_; refine XC.seq2 ?_; refine XC.seq ?_; refine XC.seq ?_; refine XC.region ?_; refine XO.loadO 0 rfl rfl ty_24 rfl rfl rfl ?_; refine XO.callV rfl (rright_fn w _ _ _ hB hBl) rfl ?_; refine XO.not rfl rfl ?_; refine XO.nil ?_; refine XC.seq2 ?_; refine XC.cond rfl (fun c1_5 => ?_) (fun c1_5 => ?_)
   ·refine XC.seq ?_; refine XC.region ?_; refine XO.assign rfl rfl ?_; refine XO.nil ?_; refine XC.seq2 ?_; refine XC.ret ?_; refine seqX_ret ?_; refine ⟨rfl, _, [], rfl, (by repeat (first | exact List.Sublist.refl _ | apply List.Sublist.cons)), RetR.mk ?_⟩
    first | exact ⟨false, rfl, fun h => by cases h⟩ | exact ⟨_, rfl, fun _ => ⟨by omega, hq⟩⟩
   ·refine XC.skip ?_; refine XC.seq2 ?_; refine XC.seq ?_; refine XC.region ?_; refine XO.fieldAddr rfl fa_24_0 rfl ?_; refine XO.loadO 0 rfl rfl ty_3 rfl rfl rfl ?_; refine XO.leq rfl rfl rfl ?_; refine XO.move rfl rfl ?_; refine XO.guardC rfl rfl rfl rfl (fun g6 => ?_) (fun g6 => ?_)
    ·have g6p := of_decide_eq_true g6
     refine XO.fieldAddr rfl fa_24_3 rfl ?_; refine XO.guardT rfl rfl (g6) rfl ?_; refine XO.loadO 0 rfl rfl ty_22 rfl rfl rfl ?_; refine XO.guardT rfl rfl (g6) rfl ?_; refine XO.lenS (ts := #[]) rfl Try.underlying22 rfl ?_; refine XO.guardT rfl rfl (g6) rfl ?_; refine XO.leq rfl rfl rfl ?_; refine XO.pickT rfl (g6) rfl rfl ?_; refine XO.move rfl rfl ?_; refine XO.guardC rfl rfl rfl rfl (fun g7 => ?_) (fun g7 => ?_)
     ·have g7p := of_decide_eq_false g7
      refine XO.fieldAddr rfl fa_24_0 rfl ?_; refine XO.guardT rfl rfl (g7) rfl ?_; refine XO.loadO 0 rfl rfl ty_3 rfl rfl rfl ?_; refine XO.guardT rfl rfl (g7) rfl ?_; refine XO.gtr rfl rfl rfl ?_; refine XO.pickF rfl (g7) rfl rfl ?_; refine XO.assign rfl rfl ?_; refine XO.nil ?_; refine XC.seq2 ?_; refine XC.ret ?_; refine ⟨rfl, _, [], rfl, (by repeat (first | exact List.Sublist.refl _ | apply List.Sublist.cons)), RetR.mk ?_⟩
      first | exact ⟨false, rfl, fun h => by cases h⟩ | exact ⟨_, rfl, fun _ => ⟨by omega, hq⟩⟩
     ·have g7p := of_decide_eq_true g7
      refine XO.guardF rfl rfl (g7) rfl rfl ?_; refine XO.guardF rfl rfl (g7) rfl rfl ?_; refine XO.pickT rfl (g7) rfl rfl ?_; refine XO.assign rfl rfl ?_; refine XO.nil ?_; refine XC.seq2 ?_; refine XC.ret ?_; refine ⟨rfl, _, [], rfl, (by repeat (first | exact List.Sublist.refl _ | apply List.Sublist.cons)), RetR.mk ?_⟩
      first | exact ⟨false, rfl, fun h => by cases h⟩ | exact ⟨_, rfl, fun _ => ⟨by omega, hq⟩⟩
    ·have g6p := of_decide_eq_false g6
     refine XO.guardF rfl rfl (g6) rfl rfl ?_; refine XO.guardF rfl rfl (g6) rfl rfl ?_; refine XO.guardF rfl rfl (g6) rfl rfl ?_; refine XO.pickF rfl (g6) rfl rfl ?_; refine XO.move rfl rfl ?_; refine XO.guardT rfl rfl (rfl) rfl ?_; refine XO.fieldAddr rfl fa_24_0 rfl ?_; refine XO.guardT rfl rfl (rfl) rfl ?_; refine XO.loadO 0 rfl rfl ty_3 rfl rfl rfl ?_; refine XO.guardT rfl rfl (rfl) rfl ?_; refine XO.gtr rfl rfl rfl ?_; refine XO.pickF rfl (rfl) rfl rfl ?_; refine XO.assign rfl rfl ?_; refine XO.nil ?_; refine XC.seq2 ?_; refine XC.ret ?_; refine ⟨rfl, _, [], rfl, (by repeat (first | exact List.Sublist.refl _ | apply List.Sublist.cons)), RetR.mk ?_⟩
     first | exact ⟨false, rfl, fun h => by cases h⟩ | exact ⟨_, rfl, fun _ => ⟨by omega, hq⟩⟩
 ·have g1p := of_decide_eq_true g1
  refine XO.guardF rfl rfl (g1) rfl rfl ?_; refine XO.guardF rfl rfl (g1) rfl rfl ?_; refine XO.guardF rfl rfl (g1) rfl rfl ?_; refine XO.pickT rfl (g1) rfl rfl ?_; refine XO.nil ?_; refine XC.seq2 ?_; refine XC.condT rfl (rfl) ?_; refine XC.seq ?_; refine XC.region ?_; refine XO.assign rfl rfl ?_; refine XO.nil ?_; refine XC.seq2 ?_; refine XC.ret ?_; refine seqX_ret ?_; refine ⟨rfl, _, [], rfl, (by repeat (first | exact List.Sublist.refl _ | apply List.Sublist.cons)), RetR.mk ?_⟩
  first | exact ⟨false, rfl, fun h => by cases h⟩ | exact ⟨_, rfl, fun _ => ⟨by omega, hq⟩⟩

theorem free_fn (n m : Nat) (hn : n ≤ 100) (hm : m ≤ 100) (H : Hp) : FnC Try.prog 24 #[.int .i64 (n : Nat), .int .i64 (m : Nat)] H [] (RetR (fun v H2 _ => ∃ a c, v = .slice a (List.replicate n (List.replicate m false)).length c ∧ SlR tbR H2 a c (List.replicate n (List.replicate m false)))) := by
 refine FnC.intro (args := [.int .i64 (n : Nat), .int .i64 (m : Nat)]) Try.func24 rfl rfl Try.ntmps24 rfl rfl rfl fun G rest => ?_
 refine XC.seq ?_; refine XC.region ?_; refine XO.assign rfl rfl ?_; refine XO.nil ?_; refine XC.seq2 ?_; refine XC.seq ?_; refine XC.seq ?_; refine XC.region ?_; refine XO.move rfl rfl ?_; refine XO.move rfl rfl ?_; refine XO.nil ?_; refine XC.seq2 ?_; refine XC.block ?_; refine XC.keep [4, 6, 1, 5] rfl ?_; refine XC.open0 0 ?_; refine XC.loop (base := [(1, _), (5, _)]) (fun ζ : Nat × ((Nat × SObj) × Option Addr × Nat) => [(4, .slice ζ.2.2.1 (List.replicate (ζ.1) (List.replicate m false)).length ζ.2.2.2), (6, .int .i64 (ζ.1 : Nat))]) (fun ζ Hl own => ζ.1 ≤ n ∧ ζ.2.1 :: rest = own ∧ Acc tbR 68 Hl ζ.2.1 ζ.2.2.1 ζ.2.2.2 (List.replicate (ζ.1) (List.replicate m false))) (fun ζ => n - ζ.1) (0, ((0, .nothing), none, 0)) (prov_cons (rfl) (prov_cons (rfl) (prov_cons (rfl) (prov_cons (rfl) prov_nil)))) (by repeat (first | exact List.Sublist.refl _ | apply List.Sublist.cons_cons | apply List.Sublist.cons)) ⟨Nat.zero_le _, rfl, Acc.nil _ _ _ _⟩ ?_; rintro ⟨k, ⟨po, ao, co⟩⟩ Hl0 _ hle0 ⟨hkk, rfl, hacco⟩
 try dsimp only at hkk hacco ⊢
 refine XC.seq ?_; refine XC.region ?_; refine XO.lss rfl rfl rfl ?_; refine XO.nil ?_; refine XC.seq2 ?_; refine XC.seq ?_; refine XC.cond rfl (fun c0_1 => ?_) (fun c0_1 => ?_)
 ·refine XC.skip ?_; refine XC.seq2 ?_; refine XC.seq ?_; refine XC.block ?_; refine XC.region ?_; refine XO.move rfl rfl ?_; refine XO.move rfl rfl ?_; refine XO.makeRow (ρ := boolR) (n := m) false rfl rfl Try.underlying68 ty_4 ze_4 rfl by_4 (by first | decide | omega) rfl rfl (fun p10 c10 hacc10 => ?_); refine XO.publishA 0 rfl hacc10 rfl (fun HQ2 hleQ2 hsQ2 => ?_); replace hacco := hacco.mono hleQ2; replace hle0 := hle0.trans hleQ2; refine XO.buildSlice rfl Try.underlying22 ty_68 ze_68 rfl rfl rfl (fun b11 => ?_); refine XO.publish 0 rfl rfl rfl (fun HP11 oP11 hleP11 hbP11 hoP11 => ?_); replace hacco := hacco.mono hleP11; replace hsQ2 := hsQ2.mono hleP11; replace hle0 := hle0.trans hleP11
  have hsl11 := SlR.lit (ρ := tbR) (l := [List.replicate m false]) hbP11 hoP11 (RowsR.one1 ⟨_, _, congrArg (fun n => [Value.slice _ n _]) (List.length_replicate).symm, by assumption⟩)
  refine XO.appendA 0 rfl rfl hacco rfl rfl hsl11 rfl Try.underlying22 ty_68 ze_68 rfl by_68 (by simp; omega) rfl (fun p12 a12 c12 hacc12 => ?_); refine XO.assign rfl rfl ?_; refine XO.nil ?_; refine blockN ?_; refine XC.seq2 ?_; refine XC.region ?_; refine XO.add rfl rfl (wrap_i64 (by omega) (by omega)) rfl ?_; refine XO.move rfl rfl ?_; refine XO.nil ?_; refine loop_next ((k + 1, (p12, a12, c12))) (by show n - (k + 1) < n - k; omega) (prov_cons (by first | rfl | (rw [List.replicate_succ']; rfl)) (prov_cons (rfl) (prov_cons (rfl) (prov_cons (rfl) prov_nil)))) (⟨by show k + 1 ≤ n; omega, rfl, by first | (exact hacc12) | (rw [List.replicate_succ']; exact hacc12)⟩) (by repeat (first | exact List.Sublist.refl _ | apply List.Sublist.cons_cons | apply List.Sublist.cons)) (hle0)
 ·obtain rfl : k = n := by omega
  refine XC.exit ?_; refine seqX_exit ?_; refine loopX_exit ?_; refine blockHit rfl ?_; refine XC.seq2 ?_; refine XC.seq ?_; refine XC.region ?_; refine XO.move rfl rfl ?_; refine XO.assign rfl rfl ?_; refine XO.nil ?_; refine XC.seq2 ?_; refine XC.publishA 0 rfl hacco rfl (fun HQ4 hleQ4 hsQ4 => ?_); replace hle0 := hle0.trans hleQ4; refine XC.ret ?_; refine ⟨rfl, _, [], rfl, (by repeat (first | exact List.Sublist.refl _ | apply List.Sublist.cons)), RetR.mk ?_⟩
  exact ⟨_, _, rfl, by assumption⟩

end Go.Proofs
