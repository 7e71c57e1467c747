/- The walks of the functions of boxes: what each of them computes, at any input. -/
import Derived.Test.YtamnnngilmgbgaaB5
set_option maxRecDepth 100000
set_option autoImplicit false
set_option linter.unusedVariables false
set_option linter.unusedSimpArgs false
namespace Go.Proofs
open Go.XL

theorem ty_22 : tyF Try.prog 22 1 false = true := by kernel_rfl
theorem ze_31 : zeroC Try.prog 31 = some [.slice none 0 0] := by kernel_rfl

set_option maxRecDepth 100000 in
set_option maxHeartbeats 1600000 in
theorem cards_seq (bk bm : Nat) (a b : Option Addr) (c d : Nat) (l m : Box) (H : Hp) (hs : SlR (slR cardR) H a c l) (ht : SlR (slR cardR) H b d m) (hll : l.length ≤ 100000) (hml : m.length ≤ 100000) (hgl : goodB l) (hgm : goodB m) (hpk : PtH H bk 0 [.slice a l.length c]) (hpm : PtH H bm 0 [.slice b m.length d]) : SeqF Try.prog 54 [.pointer (some ⟨bk, 0, none⟩), .pointer (some ⟨bm, 0, none⟩)] H [] encC lendC (mrg l.flatten m.flatten) := by
 intro g J K oc hy hS
 have hH : LeW H H := Le.refl H
 refine FnC.intro (args := [(.func g #[] #[]), .pointer (some ⟨bk, 0, none⟩), .pointer (some ⟨bm, 0, none⟩)]) Try.func54 rfl rfl Try.ntmps54 rfl rfl rfl fun G rest => ?_
 refine XC.seq ?_; refine XC.region ?_; refine XO.alloc ze_31 rfl (fun b4 => ?_); refine XO.alloc ze_31 rfl (fun b5 => ?_); refine XO.nil ?_; refine XC.seq2 ?_; refine XC.seq ?_; refine XC.seq ?_; refine XC.region ?_; refine XO.loadH rfl (by assumption) ty_22 rfl rfl rfl ?_; refine XO.lenS (ts := #[]) rfl Try.underlying22 rfl ?_; refine XO.open0 (σ := []) (fun b0 => ?_); refine XO.move rfl rfl ?_; refine XO.nil ?_; refine XC.seq2 ?_; refine XC.block ?_; refine XC.keep [13, 0, 2, 4, 5, 11, 12] rfl ?_; refine XC.loop (base := [(0, _), (2, _), (4, _), (5, _), (11, _), (12, _)]) (fun ζ : Nat × (Nat × SObj) × (Option Addr) × (Nat) × (Nat) => [(13, .int .i64 (ζ.1 : Nat))]) (fun ζ Hl own => ζ.1 ≤ l.length ∧ ζ.2.1 :: (b5, .cells 31 [.slice none 0 0]) :: (b4, .cells 31 [.slice ζ.2.2.1 ζ.2.2.2.2 ζ.2.2.2.1]) :: (oc ++ rest) = own ∧ (XL.Acc cardR 27 Hl ζ.2.1 ζ.2.2.1 ζ.2.2.2.1 ((l.take (ζ.1)).flatten)) ∧ (ζ.2.2.2.2 = ((l.take (ζ.1)).flatten).length)) (fun ζ => l.length - ζ.1) (0, (b0, .nothing), none, 0, 0) (prov_cons (rfl) (prov_cons (rfl) (prov_cons (rfl) (prov_cons (rfl) (prov_cons (rfl) (prov_cons (rfl) (prov_cons (rfl) prov_nil))))))) (by repeat (first | exact List.Sublist.refl _ | apply List.Sublist.cons_cons | apply List.Sublist.cons)) ⟨Nat.zero_le _, rfl, Acc.nil _ _ _ _, rfl⟩ ?_; rintro ⟨k, po, ao, co, nl⟩ Hl0 _ hle0 ⟨hkk, rfl, hacc, hnl⟩; replace hH := hH.mono hle0; replace hs := hs.mono hle0; replace ht := ht.mono hle0; replace hpk := hpk.mono hle0; replace hpm := hpm.mono hle0; replace hS := hS.mono hle0
 try dsimp only at hkk hacc hnl ⊢
 subst hnl
 refine XC.seq ?_; refine XC.region ?_; refine XO.lss rfl rfl rfl ?_; refine XO.nil ?_; refine XC.seq2 ?_; refine XC.seq ?_; refine XC.cond rfl (fun c0_1 => ?_) (fun c0_1 => ?_)
 ·refine XC.skip ?_; refine XC.seq2 ?_; refine XC.seq ?_; refine XC.block ?_; refine XC.seq ?_; refine XC.region ?_; refine XO.indexN rfl hs rfl Try.underlying22 ty_50 (by omega) rfl ?_; rintro eb15 eo15 _ x15 hx15 ⟨ax15, cx15, rfl, hd15⟩ hp15; refine XO.loadH rfl (by assumption) ty_50 rfl rfl rfl ?_; refine XO.alloc ze_50 rfl (fun b7 => ?_); refine XO.storeO 0 rfl rfl rfl rfl ty_50 rfl rfl rfl rfl rfl ?_; refine XO.nil ?_; refine XC.seq2 ?_; refine XC.region ?_; refine XO.loadO 3 rfl rfl ty_31 rfl rfl rfl ?_; refine XO.fieldAddr rfl fa_50_0 rfl ?_; refine XO.loadO 0 rfl rfl ty_31 rfl rfl rfl ?_; refine XO.appendA 1 rfl rfl hacc rfl rfl hd15 rfl Try.underlying31 ty_27 ze_27 rfl by_27 (by have h1 := flat_part_len hgl hx15 x15.length; rw [List.take_length] at h1; first | omega | (simp only [List.length_append] at h1 ⊢; omega)) rfl (fun p20 a20 c20 hacc20 => ?_); refine XO.storeO 3 rfl rfl rfl rfl ty_31 rfl rfl rfl rfl rfl ?_; refine XO.nil ?_; refine blockN ?_; refine XC.seq2 ?_; refine XC.region ?_; refine XO.add rfl rfl (wrap_i64 (by omega) (by omega)) rfl ?_; refine XO.move rfl rfl ?_; refine XO.nil ?_; refine loop_next ((k + 1, p20, a20, c20, (((l.take k).flatten) ++ x15).length)) (by show l.length - (k + 1) < l.length - k; omega) (prov_cons (rfl) (prov_cons (rfl) (prov_cons (rfl) (prov_cons (rfl) (prov_cons (rfl) (prov_cons (rfl) (prov_cons (rfl) prov_nil))))))) (⟨by show k + 1 ≤ l.length; omega, rfl, by rw [flat_take hx15]; exact hacc20, by rw [flat_take hx15]⟩) (by repeat (first | exact List.Sublist.refl _ | apply List.Sublist.cons_cons | apply List.Sublist.cons)) (hle0)
 ·obtain rfl : k = l.length := by omega
  rw [List.take_length] at hacc ⊢
  refine XC.exit ?_; refine seqX_exit ?_; refine loopX_exit ?_; refine blockHit rfl ?_; refine XC.seq2 ?_; refine XC.seq ?_; refine XC.seq ?_; refine XC.region ?_; refine XO.loadH rfl (by assumption) ty_22 rfl rfl rfl ?_; refine XO.lenS (ts := #[]) rfl Try.underlying22 rfl ?_; refine XO.open0 (σ := []) (fun b0 => ?_); refine XO.move rfl rfl ?_; refine XO.nil ?_; refine XC.seq2 ?_; refine XC.block ?_; refine XC.keep [24, 0, 4, 5, 22, 23] rfl ?_; refine XC.publishA 1 rfl hacc rfl (fun HQ hleQ hX => ?_); replace hH := hH.mono hleQ; replace hs := hs.mono hleQ; replace ht := ht.mono hleQ; replace hpk := hpk.mono hleQ; replace hpm := hpm.mono hleQ; replace hS := hS.mono hleQ; replace hle0 := hle0.trans hleQ; refine XC.loop (base := [(0, _), (4, _), (5, _), (22, _), (23, _)]) (fun ζ : Nat × (Nat × SObj) × (Option Addr) × (Nat) × (Nat) => [(24, .int .i64 (ζ.1 : Nat))]) (fun ζ Hl own => ζ.1 ≤ m.length ∧ ζ.2.1 :: (b5, .cells 31 [.slice ζ.2.2.1 ζ.2.2.2.2 ζ.2.2.2.1]) :: (b4, .cells 31 [.slice ao l.flatten.length co]) :: (oc ++ rest) = own ∧ (XL.Acc cardR 27 Hl ζ.2.1 ζ.2.2.1 ζ.2.2.2.1 ((m.take (ζ.1)).flatten)) ∧ (ζ.2.2.2.2 = ((m.take (ζ.1)).flatten).length)) (fun ζ => m.length - ζ.1) (0, (b0, .nothing), none, 0, 0) (prov_cons (rfl) (prov_cons (rfl) (prov_cons (rfl) (prov_cons (rfl) (prov_cons (rfl) (prov_cons (rfl) prov_nil)))))) (by repeat (first | exact List.Sublist.refl _ | apply List.Sublist.cons_cons | apply List.Sublist.cons)) ⟨Nat.zero_le _, rfl, Acc.nil _ _ _ _, rfl⟩ ?_; rintro ⟨k, qo, bo, eo, ml⟩ Hl1 _ hle1 ⟨hkk, rfl, haccq, hml2⟩; replace hH := hH.mono hle1; replace hs := hs.mono hle1; replace ht := ht.mono hle1; replace hpk := hpk.mono hle1; replace hpm := hpm.mono hle1; replace hS := hS.mono hle1; replace hX := hX.mono hle1; replace hle0 := hle0.trans hle1
  try dsimp only at hkk haccq hml2 ⊢
  subst hml2
  refine XC.seq ?_; refine XC.region ?_; refine XO.lss rfl rfl rfl ?_; refine XO.nil ?_; refine XC.seq2 ?_; refine XC.seq ?_; refine XC.cond rfl (fun c1_4 => ?_) (fun c1_4 => ?_)
  ·refine XC.skip ?_; refine XC.seq2 ?_; refine XC.seq ?_; refine XC.block ?_; refine XC.seq ?_; refine XC.region ?_; refine XO.indexN rfl ht rfl Try.underlying22 ty_50 (by omega) rfl ?_; rintro eb26 eo26 _ x26 hx26 ⟨ax26, cx26, rfl, hd26⟩ hp26; refine XO.loadH rfl (by assumption) ty_50 rfl rfl rfl ?_; refine XO.alloc ze_50 rfl (fun b9 => ?_); refine XO.storeO 0 rfl rfl rfl rfl ty_50 rfl rfl rfl rfl rfl ?_; refine XO.nil ?_; refine XC.seq2 ?_; refine XC.region ?_; refine XO.loadO 2 rfl rfl ty_31 rfl rfl rfl ?_; refine XO.fieldAddr rfl fa_50_0 rfl ?_; refine XO.loadO 0 rfl rfl ty_31 rfl rfl rfl ?_; refine XO.appendA 1 rfl rfl haccq rfl rfl hd26 rfl Try.underlying31 ty_27 ze_27 rfl by_27 (by have h1 := flat_part_len hgm hx26 x26.length; rw [List.take_length] at h1; first | omega | (simp only [List.length_append] at h1 ⊢; omega)) rfl (fun p31 a31 c31 hacc31 => ?_); refine XO.storeO 2 rfl rfl rfl rfl ty_31 rfl rfl rfl rfl rfl ?_; refine XO.nil ?_; refine blockN ?_; refine XC.seq2 ?_; refine XC.region ?_; refine XO.add rfl rfl (wrap_i64 (by omega) (by omega)) rfl ?_; refine XO.move rfl rfl ?_; refine XO.nil ?_; refine loop_next ((k + 1, p31, a31, c31, (((m.take k).flatten) ++ x26).length)) (by show m.length - (k + 1) < m.length - k; omega) (prov_cons (rfl) (prov_cons (rfl) (prov_cons (rfl) (prov_cons (rfl) (prov_cons (rfl) (prov_cons (rfl) prov_nil)))))) (⟨by show k + 1 ≤ m.length; omega, rfl, by rw [flat_take hx26]; exact hacc31, by rw [flat_take hx26]⟩) (by repeat (first | exact List.Sublist.refl _ | apply List.Sublist.cons_cons | apply List.Sublist.cons)) (hle1)
  ·obtain rfl : k = m.length := by omega
   rw [List.take_length] at haccq ⊢
   refine XC.exit ?_; refine seqX_exit ?_; refine loopX_exit ?_; refine blockHit rfl ?_; refine XC.seq2 ?_; refine XC.block ?_; refine XC.keep [0, 4, 5] rfl ?_; refine XC.publishA 0 rfl haccq rfl (fun HQ hleQ hY => ?_); replace hH := hH.mono hleQ; replace hs := hs.mono hleQ; replace ht := ht.mono hleQ; replace hpk := hpk.mono hleQ; replace hpm := hpm.mono hleQ; replace hS := hS.mono hleQ; replace hX := hX.mono hleQ; replace hle0 := hle0.trans hleQ; replace hle1 := hle1.trans hleQ; refine XC.loop (base := [(0, _), (4, _), (5, _)]) (fun ζ : Nat × (List Card) × (Option Addr) × (Nat) × (List Card) × (Option Addr) × (Nat) × (List Card) × (XL.Own) => []) (fun ζ Hl own => (b5, .cells 31 [.slice ζ.2.2.2.2.2.1 ζ.2.2.2.2.1.length ζ.2.2.2.2.2.2.1]) :: (b4, .cells 31 [.slice ζ.2.2.1 ζ.2.1.length ζ.2.2.2.1]) :: (ζ.2.2.2.2.2.2.2.2 ++ rest) = own ∧ (SlR cardR Hl ζ.2.2.1 ζ.2.2.2.1 ζ.2.1) ∧ (SlR cardR Hl ζ.2.2.2.2.2.1 ζ.2.2.2.2.2.2.1 ζ.2.2.2.2.1) ∧ (J.Holds ζ.2.2.2.2.2.2.2.1 Hl ζ.2.2.2.2.2.2.2.2) ∧ (ζ.2.2.2.2.2.2.2.1 ++ mrg ζ.2.1 ζ.2.2.2.2.1 = mrg l.flatten m.flatten) ∧ (ζ.2.1.length ≤ 200000 ∧ ζ.2.2.2.2.1.length ≤ 200000) ∧ ((∀ s ∈ ζ.2.1, okC s) ∧ (∀ s ∈ ζ.2.2.2.2.1, okC s))) (fun ζ => ζ.2.1.length + ζ.2.2.2.2.1.length) (0, l.flatten, ao, co, m.flatten, bo, eo, [], oc) (prov_cons (rfl) (prov_cons (rfl) (prov_cons (rfl) prov_nil))) (by repeat (first | exact List.Sublist.refl _ | apply List.Sublist.cons_cons | apply List.Sublist.cons)) ⟨rfl, by assumption, by assumption, hS, rfl, ⟨show l.flatten.length ≤ 200000 by have := flat_len hgl; omega, show m.flatten.length ≤ 200000 by have := flat_len hgm; omega⟩, ⟨fun s hs => good_mem hgl hs, fun s hs => good_mem hgm hs⟩⟩ ?_; rintro ⟨k, X, aX, cX, Y, aY, cY, P, oc⟩ Hl2 _ hle2 ⟨rfl, hX, hY, hS, hmg, hlen, hok⟩; replace hH := hH.mono hle2; replace hs := hs.mono hle2; replace ht := ht.mono hle2; replace hpk := hpk.mono hle2; replace hpm := hpm.mono hle2; replace hle0 := hle0.trans hle2; replace hle1 := hle1.trans hle2
   try dsimp only at hX hY hS hmg hlen hok ⊢
   refine XC.seq ?_; refine XC.seq ?_; refine XC.region ?_; refine XO.loadO 1 rfl rfl ty_31 rfl rfl rfl ?_; refine XO.lenS (ts := #[]) rfl Try.underlying31 rfl ?_; refine XO.loadO 0 rfl rfl ty_31 rfl rfl rfl ?_; refine XO.lenS (ts := #[]) rfl Try.underlying31 rfl ?_; refine XO.add rfl rfl (wrap_i64 (by omega) (by omega)) rfl ?_; refine XO.gtr rfl rfl rfl ?_; refine XO.nil ?_; refine XC.seq2 ?_; refine XC.cond rfl (fun c2_7 => ?_) (fun c2_7 => ?_)
   ·refine XC.skip ?_; refine XC.seq2 ?_; refine XC.block ?_; refine XC.seq ?_; refine XC.region ?_; refine XO.assign rfl rfl ?_; refine XO.nil ?_; refine XC.seq2 ?_; refine XC.seq ?_; refine XC.seq ?_
    by_cases hX0 : X.length = 0
    ·skip
     refine XC.keep [0, 4, 5, 10] rfl ?_
     apply XC.drawH (fun _ => True) trivial [] (by decide) (fun _ _ _ _ => True) (fun _ _ _ _ _ _ h => h) 14 [eqF _, eqF _, eqF _, eqF _, eqF _, eqF _, eqF _, eqF _, eqF _, eqF _, eqF _, eqF _, eqF _, eqF _] follows (by kernel_rfl) ⟨eqF_mono _, eqF_mono _, eqF_mono _, eqF_mono _, eqF_mono _, eqF_mono _, eqF_mono _, eqF_mono _, eqF_mono _, eqF_mono _, eqF_mono _, eqF_mono _, eqF_mono _, eqF_mono _, trivial⟩ (by decide) ?steps8 ?tail8
     case steps8 =>
      refine stepsH_cons rfl ?_ ?_
      ·intro X ext HD hleD _
       replace hH := hH.mono hleD; replace hs := hs.mono hleD; replace ht := ht.mono hleD; replace hpk := hpk.mono hleD; replace hpm := hpm.mono hleD; replace hX := hX.mono hleD; replace hY := hY.mono hleD; replace hS := hS.mono hleD; replace hle0 := hle0.trans hleD; replace hle1 := hle1.trans hleD; replace hle2 := hle2.trans hleD; refine withP_nil rfl ?_; refine XO.loadO 1 rfl rfl ty_31 rfl rfl rfl ?_; refine XO.nil ?_; exact stepQN_ok rfl trivial (rfl)
      refine stepsH_cons rfl ?_ ?_
      ·intro X ext HD hleD _
       replace hH := hH.mono hleD; replace hs := hs.mono hleD; replace ht := ht.mono hleD; replace hpk := hpk.mono hleD; replace hpm := hpm.mono hleD; replace hX := hX.mono hleD; replace hY := hY.mono hleD; replace hS := hS.mono hleD; replace hle0 := hle0.trans hleD; replace hle1 := hle1.trans hleD; replace hle2 := hle2.trans hleD; refine withP_cons rfl rfl ?_; rintro _ rfl; refine withP_nil rfl ?_; refine XO.lenS (ts := #[]) rfl Try.underlying31 rfl ?_; refine XO.nil ?_; exact stepQN_ok rfl trivial (rfl)
      refine stepsH_cons rfl ?_ ?_
      ·intro X ext HD hleD _
       replace hH := hH.mono hleD; replace hs := hs.mono hleD; replace ht := ht.mono hleD; replace hpk := hpk.mono hleD; replace hpm := hpm.mono hleD; replace hX := hX.mono hleD; replace hY := hY.mono hleD; replace hS := hS.mono hleD; replace hle0 := hle0.trans hleD; replace hle1 := hle1.trans hleD; replace hle2 := hle2.trans hleD; refine withP_cons rfl rfl ?_; rintro _ rfl; refine withP_nil rfl ?_; refine XO.eql rfl rfl rfl ?_; refine XO.nil ?_; exact stepQN_ok rfl trivial (rfl)
      refine stepsH_cons rfl ?_ ?_
      ·intro X ext HD hleD _
       replace hH := hH.mono hleD; replace hs := hs.mono hleD; replace ht := ht.mono hleD; replace hpk := hpk.mono hleD; replace hpm := hpm.mono hleD; replace hX := hX.mono hleD; replace hY := hY.mono hleD; replace hS := hS.mono hleD; replace hle0 := hle0.trans hleD; replace hle1 := hle1.trans hleD; replace hle2 := hle2.trans hleD; refine withP_cons rfl rfl ?_; rintro _ rfl; refine withP_nil rfl ?_; refine XO.move rfl rfl ?_; refine XO.nil ?_; exact stepQN_ok rfl trivial (rfl)
      refine stepsH_cons rfl ?_ ?_
      ·intro X ext HD hleD _
       replace hH := hH.mono hleD; replace hs := hs.mono hleD; replace ht := ht.mono hleD; replace hpk := hpk.mono hleD; replace hpm := hpm.mono hleD; replace hX := hX.mono hleD; replace hY := hY.mono hleD; replace hS := hS.mono hleD; replace hle0 := hle0.trans hleD; replace hle1 := hle1.trans hleD; replace hle2 := hle2.trans hleD; refine withP_cons rfl rfl ?_; rintro _ rfl; refine withP_nil rfl ?_; refine XO.guardF rfl rfl (decide_eq_true (by omega)) rfl rfl ?_; refine XO.nil ?_; exact stepQN_ok rfl trivial (rfl)
      refine stepsH_cons rfl ?_ ?_
      ·intro X ext HD hleD _
       replace hH := hH.mono hleD; replace hs := hs.mono hleD; replace ht := ht.mono hleD; replace hpk := hpk.mono hleD; replace hpm := hpm.mono hleD; replace hX := hX.mono hleD; replace hY := hY.mono hleD; replace hS := hS.mono hleD; replace hle0 := hle0.trans hleD; replace hle1 := hle1.trans hleD; replace hle2 := hle2.trans hleD; refine withP_cons rfl rfl ?_; rintro _ rfl; refine withP_cons rfl rfl ?_; rintro _ rfl; refine withP_nil rfl ?_; refine XO.guardF rfl rfl (decide_eq_true (by omega)) rfl rfl ?_; refine XO.nil ?_; exact stepQN_ok rfl trivial (rfl)
      refine stepsH_cons rfl ?_ ?_
      ·intro X ext HD hleD _
       replace hH := hH.mono hleD; replace hs := hs.mono hleD; replace ht := ht.mono hleD; replace hpk := hpk.mono hleD; replace hpm := hpm.mono hleD; replace hX := hX.mono hleD; replace hY := hY.mono hleD; replace hS := hS.mono hleD; replace hle0 := hle0.trans hleD; replace hle1 := hle1.trans hleD; replace hle2 := hle2.trans hleD; refine withP_cons rfl rfl ?_; rintro _ rfl; refine withP_cons rfl rfl ?_; rintro _ rfl; refine withP_nil rfl ?_; refine XO.guardF rfl rfl (decide_eq_true (by omega)) rfl rfl ?_; refine XO.nil ?_; exact stepQN_ok rfl trivial (rfl)
      refine stepsH_cons rfl ?_ ?_
      ·intro X ext HD hleD _
       replace hH := hH.mono hleD; replace hs := hs.mono hleD; replace ht := ht.mono hleD; replace hpk := hpk.mono hleD; replace hpm := hpm.mono hleD; replace hX := hX.mono hleD; replace hY := hY.mono hleD; replace hS := hS.mono hleD; replace hle0 := hle0.trans hleD; replace hle1 := hle1.trans hleD; replace hle2 := hle2.trans hleD; refine withP_cons rfl rfl ?_; rintro _ rfl; refine withP_cons rfl rfl ?_; rintro _ rfl; refine withP_nil rfl ?_; refine XO.guardF rfl rfl (decide_eq_true (by omega)) rfl rfl ?_; refine XO.nil ?_; exact stepQN_ok rfl trivial (rfl)
      refine stepsH_cons rfl ?_ ?_
      ·intro X ext HD hleD _
       replace hH := hH.mono hleD; replace hs := hs.mono hleD; replace ht := ht.mono hleD; replace hpk := hpk.mono hleD; replace hpm := hpm.mono hleD; replace hX := hX.mono hleD; replace hY := hY.mono hleD; replace hS := hS.mono hleD; replace hle0 := hle0.trans hleD; replace hle1 := hle1.trans hleD; replace hle2 := hle2.trans hleD; refine withP_cons rfl rfl ?_; rintro _ rfl; refine withP_nil rfl ?_; refine XO.guardU rfl rfl rfl rfl ?_; refine XO.nil ?_; exact stepQN_ok rfl trivial (rfl)
      refine stepsH_cons rfl ?_ ?_
      ·intro X ext HD hleD _
       replace hH := hH.mono hleD; replace hs := hs.mono hleD; replace ht := ht.mono hleD; replace hpk := hpk.mono hleD; replace hpm := hpm.mono hleD; replace hX := hX.mono hleD; replace hY := hY.mono hleD; replace hS := hS.mono hleD; replace hle0 := hle0.trans hleD; replace hle1 := hle1.trans hleD; replace hle2 := hle2.trans hleD; refine withP_cons rfl rfl ?_; rintro _ rfl; refine withP_cons rfl rfl ?_; rintro _ rfl; refine withP_nil rfl ?_; refine XO.guardU rfl rfl rfl rfl ?_; refine XO.nil ?_; exact stepQN_ok rfl trivial (rfl)
      refine stepsH_cons rfl ?_ ?_
      ·intro X ext HD hleD _
       replace hH := hH.mono hleD; replace hs := hs.mono hleD; replace ht := ht.mono hleD; replace hpk := hpk.mono hleD; replace hpm := hpm.mono hleD; replace hX := hX.mono hleD; replace hY := hY.mono hleD; replace hS := hS.mono hleD; replace hle0 := hle0.trans hleD; replace hle1 := hle1.trans hleD; replace hle2 := hle2.trans hleD; refine withP_cons rfl rfl ?_; rintro _ rfl; refine withP_cons rfl rfl ?_; rintro _ rfl; refine withP_nil rfl ?_; refine XO.guardU rfl rfl rfl rfl ?_; refine XO.nil ?_; exact stepQN_ok rfl trivial (rfl)
      refine stepsH_cons rfl ?_ ?_
      ·intro X ext HD hleD _
       replace hH := hH.mono hleD; replace hs := hs.mono hleD; replace ht := ht.mono hleD; replace hpk := hpk.mono hleD; replace hpm := hpm.mono hleD; replace hX := hX.mono hleD; replace hY := hY.mono hleD; replace hS := hS.mono hleD; replace hle0 := hle0.trans hleD; replace hle1 := hle1.trans hleD; replace hle2 := hle2.trans hleD; refine withP_cons rfl rfl ?_; rintro _ rfl; refine withP_nil rfl ?_; refine XO.guardU rfl rfl rfl rfl ?_; refine XO.nil ?_; exact stepQN_ok rfl trivial (rfl)
      refine stepsH_cons rfl ?_ ?_
      ·intro X ext HD hleD _
       replace hH := hH.mono hleD; replace hs := hs.mono hleD; replace ht := ht.mono hleD; replace hpk := hpk.mono hleD; replace hpm := hpm.mono hleD; replace hX := hX.mono hleD; replace hY := hY.mono hleD; replace hS := hS.mono hleD; replace hle0 := hle0.trans hleD; replace hle1 := hle1.trans hleD; replace hle2 := hle2.trans hleD; refine withP_cons rfl rfl ?_; rintro _ rfl; refine withP_cons rfl rfl ?_; rintro _ rfl; refine withP_nil rfl ?_; refine XO.guardU rfl rfl rfl rfl ?_; refine XO.nil ?_; exact stepQN_ok rfl trivial (rfl)
      refine stepsH_cons rfl ?_ ?_
      ·intro X ext HD hleD _
       replace hH := hH.mono hleD; replace hs := hs.mono hleD; replace ht := ht.mono hleD; replace hpk := hpk.mono hleD; replace hpm := hpm.mono hleD; replace hX := hX.mono hleD; replace hY := hY.mono hleD; replace hS := hS.mono hleD; replace hle0 := hle0.trans hleD; replace hle1 := hle1.trans hleD; replace hle2 := hle2.trans hleD; refine withP_cons rfl rfl ?_; rintro _ rfl; refine withP_cons rfl rfl ?_; rintro _ rfl; refine withP_nil rfl ?_; refine XO.guardU rfl rfl rfl rfl ?_; refine XO.nil ?_; exact stepQN_ok rfl trivial (rfl)
      exact stepsH_end rfl
     case tail8 =>
      intro HD hleD _
      replace hH := hH.mono hleD; replace hs := hs.mono hleD; replace ht := ht.mono hleD; replace hpk := hpk.mono hleD; replace hpm := hpm.mono hleD; replace hX := hX.mono hleD; replace hY := hY.mono hleD; replace hS := hS.mono hleD; replace hle0 := hle0.trans hleD; replace hle1 := hle1.trans hleD; replace hle2 := hle2.trans hleD; refine withP_cons rfl rfl ?_; rintro _ rfl; refine withP_cons rfl rfl ?_; rintro _ rfl; refine withP_cons rfl rfl ?_; rintro _ rfl; refine withP_cons rfl rfl ?_; rintro _ rfl; refine withP_cons rfl rfl ?_; rintro _ rfl; refine withP_cons rfl rfl ?_; rintro _ rfl; refine withP_cons rfl rfl ?_; rintro _ rfl; refine withP_cons rfl rfl ?_; rintro _ rfl; refine withP_cons rfl rfl ?_; rintro _ rfl; refine withP_cons rfl rfl ?_; rintro _ rfl; refine withP_cons rfl rfl ?_; rintro _ rfl; refine withP_cons rfl rfl ?_; rintro _ rfl; refine withP_cons rfl rfl ?_; rintro _ rfl; refine withP_cons rfl rfl ?_; rintro _ rfl; refine withP_nil rfl ?_; refine withEnts_nil ?_; refine XO.guardU rfl rfl rfl rfl ?_; refine XO.guardU rfl rfl rfl rfl ?_; refine XO.guardF rfl rfl (decide_eq_true (by omega)) rfl rfl ?_; refine XO.pickT rfl (decide_eq_true (by omega)) rfl rfl ?_; refine XO.nil ?_; refine XC.seq2 ?_; refine XC.condT rfl (rfl) ?_; refine XC.region ?_; refine XO.assign rfl rfl ?_; refine XO.nil ?_; refine XC.seq2 ?_; refine XC.seq ?_; refine XC.seq ?_; refine XC.region ?_; refine XO.move rfl rfl ?_; refine XO.move rfl rfl ?_; refine XO.nilCheckP rfl rfl ?_; refine XO.loadO 0 rfl rfl ty_31 rfl rfl rfl ?_; refine XO.indexN (i := 0) rfl hY rfl Try.underlying31 ty_27 (by omega) rfl ?_; rintro eb61 eo61 _ x61 hx61 ⟨ax61, cx61, rfl, hd61, hD61⟩ hp61
      first | (obtain rfl := Option.some.inj (hx61.symm.trans hxB)) | (obtain rfl := Option.some.inj (hx61.symm.trans hxA)) | skip
      refine XO.loadH rfl (by assumption) ty_27 rfl rfl rfl ?_
      have hmm := by first | exact mrg_y (X := X) (Y := Y) hx61 (by first | exact .inl (by omega) | exact .inr ⟨_, hxA, by assumption⟩) | exact mrg_x (X := X) (Y := Y) hx61 (by first | exact .inl (by omega) | exact .inr ⟨_, hxB, by assumption⟩)
      have hxs := hmg.symm.trans (congrArg (P ++ ·) hmm)
      refine XO.callVal [_, _] rfl trivial rfl (hy _ _ _ hxs (_, _) _ [] oc hH hS ⟨rfl, hd61, hD61⟩) rfl rfl ?_; rintro _ HC oC hleC (⟨rfl, oc2, rfl, hS2⟩ | ⟨rfl, hK⟩)
      ·skip
       replace hH := hH.mono hleC; replace hs := hs.mono hleC; replace ht := ht.mono hleC; replace hpk := hpk.mono hleC; replace hpm := hpm.mono hleC; replace hX := hX.mono hleC; replace hY := hY.mono hleC; replace hS := hS.mono hleC; replace hp61 := hp61.mono hleC; replace hd61 := hd61.mono hleC; replace hle0 := hle0.trans hleC; replace hle1 := hle1.trans hleC; replace hle2 := hle2.trans hleC; refine XO.notB rfl rfl ?_; refine XO.nil ?_; refine XC.seq2 ?_; refine XC.condF rfl (rfl) ?_; refine XC.skip ?_; refine XC.seq2 ?_; refine XC.region ?_; refine XO.move rfl rfl ?_; refine XO.move rfl rfl ?_; refine XO.nilCheckP rfl rfl ?_; refine XO.loadO 0 rfl rfl ty_31 rfl rfl rfl ?_; refine XO.slice (lo' := 1) (hi' := ((Y.length : Nat) : Int)) (m' := ((cY : Nat) : Int)) rfl hY (ev?_some rfl) ev?_none ev?_none (by simp) (by omega) (by omega) (by omega) (by have := hY.le; omega) (by omega) Try.underlying31 ty_27 rfl (fun as69 ls69 hls69 hss69 => ?_)
       have e69 := drop_one hls69
       refine XO.nilCheckP rfl rfl ?_; refine XO.storeO 0 rfl rfl rfl rfl ty_31 rfl rfl rfl rfl rfl ?_; refine XO.nil ?_; refine blockN ?_; refine loop_next ((k + 1, X, _, cX, ls69, as69, _, P ++ [x61], oC)) (by first | (show X.length + ls69.length < X.length + Y.length; rw [e69, List.length_drop]; omega) | (show ls69.length + Y.length < X.length + Y.length; rw [e69, List.length_drop]; omega)) (prov_cons (rfl) (prov_cons (rfl) (prov_cons (rfl) prov_nil))) (⟨rfl, by assumption, by assumption, hS2, by rw [List.append_assoc, e69]; exact hxs.symm, by first | exact (show X.length ≤ 200000 ∧ ls69.length ≤ 200000 by rw [e69, List.length_drop]; omega) | exact (show ls69.length ≤ 200000 ∧ Y.length ≤ 200000 by rw [e69, List.length_drop]; omega), by rw [e69]; first | exact ⟨hok.1, fun s hs => hok.2 s (List.mem_of_mem_drop hs)⟩ | exact ⟨fun s hs => hok.1 s (List.mem_of_mem_drop hs), hok.2⟩⟩) (by repeat (first | exact List.Sublist.refl _ | apply List.Sublist.cons_cons | apply List.Sublist.cons)) (hle2)
      ·skip
       replace hH := hH.mono hleC; replace hs := hs.mono hleC; replace ht := ht.mono hleC; replace hpk := hpk.mono hleC; replace hpm := hpm.mono hleC; replace hX := hX.mono hleC; replace hY := hY.mono hleC; replace hS := hS.mono hleC; replace hp61 := hp61.mono hleC; replace hd61 := hd61.mono hleC; replace hle0 := hle0.trans hleC; replace hle1 := hle1.trans hleC; replace hle2 := hle2.trans hleC; refine XO.notB rfl rfl ?_; refine XO.nil ?_; refine XC.seq2 ?_; refine XC.condT rfl (rfl) ?_; refine XC.ret ?_; refine seqX_ret ?_; refine blockR ?_; refine loopX_ret ?_; refine blockR ?_; refine ⟨rfl, _, oC, rfl, (by repeat (first | exact List.Sublist.refl _ | apply List.Sublist.cons_cons | apply List.Sublist.cons)), RetR.mk ?_⟩
       exact ⟨rfl, [], oC, rfl, Or.inr hK⟩
    ·skip
     by_cases hY0 : Y.length = 0
     ·skip
      refine XC.keep [0, 4, 5, 10] rfl ?_
      apply XC.drawH (fun _ => True) trivial [] (by decide) (fun _ _ _ _ => True) (fun _ _ _ _ _ _ h => h) 14 [eqF _, eqF _, eqF _, eqF _, eqF _, eqF _, eqF _, eqF _, eqF _, eqF _, eqF _, eqF _, eqF _, eqF _] follows (by kernel_rfl) ⟨eqF_mono _, eqF_mono _, eqF_mono _, eqF_mono _, eqF_mono _, eqF_mono _, eqF_mono _, eqF_mono _, eqF_mono _, eqF_mono _, eqF_mono _, eqF_mono _, eqF_mono _, eqF_mono _, trivial⟩ (by decide) ?steps10 ?tail10
      case steps10 =>
       refine stepsH_cons rfl ?_ ?_
       ·intro X ext HD hleD _
        replace hH := hH.mono hleD; replace hs := hs.mono hleD; replace ht := ht.mono hleD; replace hpk := hpk.mono hleD; replace hpm := hpm.mono hleD; replace hX := hX.mono hleD; replace hY := hY.mono hleD; replace hS := hS.mono hleD; replace hle0 := hle0.trans hleD; replace hle1 := hle1.trans hleD; replace hle2 := hle2.trans hleD; refine withP_nil rfl ?_; refine XO.loadO 1 rfl rfl ty_31 rfl rfl rfl ?_; refine XO.nil ?_; exact stepQN_ok rfl trivial (rfl)
       refine stepsH_cons rfl ?_ ?_
       ·intro X ext HD hleD _
        replace hH := hH.mono hleD; replace hs := hs.mono hleD; replace ht := ht.mono hleD; replace hpk := hpk.mono hleD; replace hpm := hpm.mono hleD; replace hX := hX.mono hleD; replace hY := hY.mono hleD; replace hS := hS.mono hleD; replace hle0 := hle0.trans hleD; replace hle1 := hle1.trans hleD; replace hle2 := hle2.trans hleD; refine withP_cons rfl rfl ?_; rintro _ rfl; refine withP_nil rfl ?_; refine XO.lenS (ts := #[]) rfl Try.underlying31 rfl ?_; refine XO.nil ?_; exact stepQN_ok rfl trivial (rfl)
       refine stepsH_cons rfl ?_ ?_
       ·intro X ext HD hleD _
        replace hH := hH.mono hleD; replace hs := hs.mono hleD; replace ht := ht.mono hleD; replace hpk := hpk.mono hleD; replace hpm := hpm.mono hleD; replace hX := hX.mono hleD; replace hY := hY.mono hleD; replace hS := hS.mono hleD; replace hle0 := hle0.trans hleD; replace hle1 := hle1.trans hleD; replace hle2 := hle2.trans hleD; refine withP_cons rfl rfl ?_; rintro _ rfl; refine withP_nil rfl ?_; refine XO.eql rfl rfl rfl ?_; refine XO.nil ?_; exact stepQN_ok rfl trivial (rfl)
       refine stepsH_cons rfl ?_ ?_
       ·intro X ext HD hleD _
        replace hH := hH.mono hleD; replace hs := hs.mono hleD; replace ht := ht.mono hleD; replace hpk := hpk.mono hleD; replace hpm := hpm.mono hleD; replace hX := hX.mono hleD; replace hY := hY.mono hleD; replace hS := hS.mono hleD; replace hle0 := hle0.trans hleD; replace hle1 := hle1.trans hleD; replace hle2 := hle2.trans hleD; refine withP_cons rfl rfl ?_; rintro _ rfl; refine withP_nil rfl ?_; refine XO.move rfl rfl ?_; refine XO.nil ?_; exact stepQN_ok rfl trivial (rfl)
       refine stepsH_cons rfl ?_ ?_
       ·intro X ext HD hleD _
        replace hH := hH.mono hleD; replace hs := hs.mono hleD; replace ht := ht.mono hleD; replace hpk := hpk.mono hleD; replace hpm := hpm.mono hleD; replace hX := hX.mono hleD; replace hY := hY.mono hleD; replace hS := hS.mono hleD; replace hle0 := hle0.trans hleD; replace hle1 := hle1.trans hleD; replace hle2 := hle2.trans hleD; refine withP_cons rfl rfl ?_; rintro _ rfl; refine withP_nil rfl ?_; refine XO.guardT rfl rfl (decide_eq_false (by omega)) rfl ?_; refine XO.loadO 0 rfl rfl ty_31 rfl rfl rfl ?_; refine XO.nil ?_; exact stepQN_ok rfl trivial (rfl)
       refine stepsH_cons rfl ?_ ?_
       ·intro X ext HD hleD _
        replace hH := hH.mono hleD; replace hs := hs.mono hleD; replace ht := ht.mono hleD; replace hpk := hpk.mono hleD; replace hpm := hpm.mono hleD; replace hX := hX.mono hleD; replace hY := hY.mono hleD; replace hS := hS.mono hleD; replace hle0 := hle0.trans hleD; replace hle1 := hle1.trans hleD; replace hle2 := hle2.trans hleD; refine withP_cons rfl rfl ?_; rintro _ rfl; refine withP_cons rfl rfl ?_; rintro _ rfl; refine withP_nil rfl ?_; refine XO.guardT rfl rfl (decide_eq_false (by omega)) rfl ?_; refine XO.lenS (ts := #[]) rfl Try.underlying31 rfl ?_; refine XO.nil ?_; exact stepQN_ok rfl trivial (rfl)
       refine stepsH_cons rfl ?_ ?_
       ·intro X ext HD hleD _
        replace hH := hH.mono hleD; replace hs := hs.mono hleD; replace ht := ht.mono hleD; replace hpk := hpk.mono hleD; replace hpm := hpm.mono hleD; replace hX := hX.mono hleD; replace hY := hY.mono hleD; replace hS := hS.mono hleD; replace hle0 := hle0.trans hleD; replace hle1 := hle1.trans hleD; replace hle2 := hle2.trans hleD; refine withP_cons rfl rfl ?_; rintro _ rfl; refine withP_cons rfl rfl ?_; rintro _ rfl; refine withP_nil rfl ?_; refine XO.guardT rfl rfl (decide_eq_false (by omega)) rfl ?_; refine XO.gtr rfl rfl rfl ?_; refine XO.nil ?_; exact stepQN_ok rfl trivial (rfl)
       refine stepsH_cons rfl ?_ ?_
       ·intro X ext HD hleD _
        replace hH := hH.mono hleD; replace hs := hs.mono hleD; replace ht := ht.mono hleD; replace hpk := hpk.mono hleD; replace hpm := hpm.mono hleD; replace hX := hX.mono hleD; replace hY := hY.mono hleD; replace hS := hS.mono hleD; replace hle0 := hle0.trans hleD; replace hle1 := hle1.trans hleD; replace hle2 := hle2.trans hleD; refine withP_cons rfl rfl ?_; rintro _ rfl; refine withP_cons rfl rfl ?_; rintro _ rfl; refine withP_nil rfl ?_; refine XO.guardT rfl rfl (decide_eq_false (by omega)) rfl ?_; refine XO.move rfl rfl ?_; refine XO.nil ?_; exact stepQN_ok rfl trivial (rfl)
       refine stepsH_cons rfl ?_ ?_
       ·intro X ext HD hleD _
        replace hH := hH.mono hleD; replace hs := hs.mono hleD; replace ht := ht.mono hleD; replace hpk := hpk.mono hleD; replace hpm := hpm.mono hleD; replace hX := hX.mono hleD; replace hY := hY.mono hleD; replace hS := hS.mono hleD; replace hle0 := hle0.trans hleD; replace hle1 := hle1.trans hleD; replace hle2 := hle2.trans hleD; refine withP_cons rfl rfl ?_; rintro _ rfl; refine withP_nil rfl ?_; refine XO.guardF rfl rfl (decide_eq_false (by omega)) rfl rfl ?_; refine XO.nil ?_; exact stepQN_ok rfl trivial (rfl)
       refine stepsH_cons rfl ?_ ?_
       ·intro X ext HD hleD _
        replace hH := hH.mono hleD; replace hs := hs.mono hleD; replace ht := ht.mono hleD; replace hpk := hpk.mono hleD; replace hpm := hpm.mono hleD; replace hX := hX.mono hleD; replace hY := hY.mono hleD; replace hS := hS.mono hleD; replace hle0 := hle0.trans hleD; replace hle1 := hle1.trans hleD; replace hle2 := hle2.trans hleD; refine withP_cons rfl rfl ?_; rintro _ rfl; refine withP_cons rfl rfl ?_; rintro _ rfl; refine withP_nil rfl ?_; refine XO.guardF rfl rfl (decide_eq_false (by omega)) rfl rfl ?_; refine XO.nil ?_; exact stepQN_ok rfl trivial (rfl)
       refine stepsH_cons rfl ?_ ?_
       ·intro X ext HD hleD _
        replace hH := hH.mono hleD; replace hs := hs.mono hleD; replace ht := ht.mono hleD; replace hpk := hpk.mono hleD; replace hpm := hpm.mono hleD; replace hX := hX.mono hleD; replace hY := hY.mono hleD; replace hS := hS.mono hleD; replace hle0 := hle0.trans hleD; replace hle1 := hle1.trans hleD; replace hle2 := hle2.trans hleD; refine withP_cons rfl rfl ?_; rintro _ rfl; refine withP_cons rfl rfl ?_; rintro _ rfl; refine withP_nil rfl ?_; refine XO.guardF rfl rfl (decide_eq_false (by omega)) rfl rfl ?_; refine XO.nil ?_; exact stepQN_ok rfl trivial (rfl)
       refine stepsH_cons rfl ?_ ?_
       ·intro X ext HD hleD _
        replace hH := hH.mono hleD; replace hs := hs.mono hleD; replace ht := ht.mono hleD; replace hpk := hpk.mono hleD; replace hpm := hpm.mono hleD; replace hX := hX.mono hleD; replace hY := hY.mono hleD; replace hS := hS.mono hleD; replace hle0 := hle0.trans hleD; replace hle1 := hle1.trans hleD; replace hle2 := hle2.trans hleD; refine withP_cons rfl rfl ?_; rintro _ rfl; refine withP_nil rfl ?_; refine XO.guardF rfl rfl (decide_eq_false (by omega)) rfl rfl ?_; refine XO.nil ?_; exact stepQN_ok rfl trivial (rfl)
       refine stepsH_cons rfl ?_ ?_
       ·intro X ext HD hleD _
        replace hH := hH.mono hleD; replace hs := hs.mono hleD; replace ht := ht.mono hleD; replace hpk := hpk.mono hleD; replace hpm := hpm.mono hleD; replace hX := hX.mono hleD; replace hY := hY.mono hleD; replace hS := hS.mono hleD; replace hle0 := hle0.trans hleD; replace hle1 := hle1.trans hleD; replace hle2 := hle2.trans hleD; refine withP_cons rfl rfl ?_; rintro _ rfl; refine withP_cons rfl rfl ?_; rintro _ rfl; refine withP_nil rfl ?_; refine XO.guardF rfl rfl (decide_eq_false (by omega)) rfl rfl ?_; refine XO.nil ?_; exact stepQN_ok rfl trivial (rfl)
       refine stepsH_cons rfl ?_ ?_
       ·intro X ext HD hleD _
        replace hH := hH.mono hleD; replace hs := hs.mono hleD; replace ht := ht.mono hleD; replace hpk := hpk.mono hleD; replace hpm := hpm.mono hleD; replace hX := hX.mono hleD; replace hY := hY.mono hleD; replace hS := hS.mono hleD; replace hle0 := hle0.trans hleD; replace hle1 := hle1.trans hleD; replace hle2 := hle2.trans hleD; refine withP_cons rfl rfl ?_; rintro _ rfl; refine withP_cons rfl rfl ?_; rintro _ rfl; refine withP_nil rfl ?_; refine XO.guardF rfl rfl (decide_eq_false (by omega)) rfl rfl ?_; refine XO.nil ?_; exact stepQN_ok rfl trivial (rfl)
       exact stepsH_end rfl
      case tail10 =>
       intro HD hleD _
       replace hH := hH.mono hleD; replace hs := hs.mono hleD; replace ht := ht.mono hleD; replace hpk := hpk.mono hleD; replace hpm := hpm.mono hleD; replace hX := hX.mono hleD; replace hY := hY.mono hleD; replace hS := hS.mono hleD; replace hle0 := hle0.trans hleD; replace hle1 := hle1.trans hleD; replace hle2 := hle2.trans hleD; refine withP_cons rfl rfl ?_; rintro _ rfl; refine withP_cons rfl rfl ?_; rintro _ rfl; refine withP_cons rfl rfl ?_; rintro _ rfl; refine withP_cons rfl rfl ?_; rintro _ rfl; refine withP_cons rfl rfl ?_; rintro _ rfl; refine withP_cons rfl rfl ?_; rintro _ rfl; refine withP_cons rfl rfl ?_; rintro _ rfl; refine withP_cons rfl rfl ?_; rintro _ rfl; refine withP_cons rfl rfl ?_; rintro _ rfl; refine withP_cons rfl rfl ?_; rintro _ rfl; refine withP_cons rfl rfl ?_; rintro _ rfl; refine withP_cons rfl rfl ?_; rintro _ rfl; refine withP_cons rfl rfl ?_; rintro _ rfl; refine withP_cons rfl rfl ?_; rintro _ rfl; refine withP_nil rfl ?_; refine withEnts_nil ?_; refine XO.guardF rfl rfl (decide_eq_false (by omega)) rfl rfl ?_; refine XO.guardF rfl rfl (decide_eq_false (by omega)) rfl rfl ?_; refine XO.guardT rfl rfl (decide_eq_false (by omega)) rfl ?_; refine XO.pickF rfl (decide_eq_false (by omega)) rfl rfl ?_; refine XO.pickF rfl (decide_eq_false (by omega)) rfl rfl ?_; refine XO.nil ?_; refine XC.seq2 ?_; refine XC.condF rfl (rfl) ?_; refine XC.skip ?_; refine XC.seq2 ?_; refine XC.seq ?_; refine XC.seq ?_; refine XC.region ?_; refine XO.move rfl rfl ?_; refine XO.move rfl rfl ?_; refine XO.nilCheckP rfl rfl ?_; refine XO.loadO 1 rfl rfl ty_31 rfl rfl rfl ?_; refine XO.indexN (i := 0) rfl hX rfl Try.underlying31 ty_27 (by omega) rfl ?_; rintro eb61 eo61 _ x61 hx61 ⟨ax61, cx61, rfl, hd61, hD61⟩ hp61
       first | (obtain rfl := Option.some.inj (hx61.symm.trans hxB)) | (obtain rfl := Option.some.inj (hx61.symm.trans hxA)) | skip
       refine XO.loadH rfl (by assumption) ty_27 rfl rfl rfl ?_
       have hmm := by first | exact mrg_y (X := X) (Y := Y) hx61 (by first | exact .inl (by omega) | exact .inr ⟨_, hxA, by assumption⟩) | exact mrg_x (X := X) (Y := Y) hx61 (by first | exact .inl (by omega) | exact .inr ⟨_, hxB, by assumption⟩)
       have hxs := hmg.symm.trans (congrArg (P ++ ·) hmm)
       refine XO.callVal [_, _] rfl trivial rfl (hy _ _ _ hxs (_, _) _ [] oc hH hS ⟨rfl, hd61, hD61⟩) rfl rfl ?_; rintro _ HC oC hleC (⟨rfl, oc2, rfl, hS2⟩ | ⟨rfl, hK⟩)
       ·skip
        replace hH := hH.mono hleC; replace hs := hs.mono hleC; replace ht := ht.mono hleC; replace hpk := hpk.mono hleC; replace hpm := hpm.mono hleC; replace hX := hX.mono hleC; replace hY := hY.mono hleC; replace hS := hS.mono hleC; replace hp61 := hp61.mono hleC; replace hd61 := hd61.mono hleC; replace hle0 := hle0.trans hleC; replace hle1 := hle1.trans hleC; replace hle2 := hle2.trans hleC; refine XO.notB rfl rfl ?_; refine XO.nil ?_; refine XC.seq2 ?_; refine XC.condF rfl (rfl) ?_; refine XC.skip ?_; refine XC.seq2 ?_; refine XC.region ?_; refine XO.move rfl rfl ?_; refine XO.move rfl rfl ?_; refine XO.nilCheckP rfl rfl ?_; refine XO.loadO 1 rfl rfl ty_31 rfl rfl rfl ?_; refine XO.slice (lo' := 1) (hi' := ((X.length : Nat) : Int)) (m' := ((cX : Nat) : Int)) rfl hX (ev?_some rfl) ev?_none ev?_none (by simp) (by omega) (by omega) (by omega) (by have := hX.le; omega) (by omega) Try.underlying31 ty_27 rfl (fun as69 ls69 hls69 hss69 => ?_)
        have e69 := drop_one hls69
        refine XO.nilCheckP rfl rfl ?_; refine XO.storeO 1 rfl rfl rfl rfl ty_31 rfl rfl rfl rfl rfl ?_; refine XO.nil ?_; refine blockN ?_; refine loop_next ((k + 1, ls69, as69, _, Y, _, cY, P ++ [x61], oC)) (by first | (show X.length + ls69.length < X.length + Y.length; rw [e69, List.length_drop]; omega) | (show ls69.length + Y.length < X.length + Y.length; rw [e69, List.length_drop]; omega)) (prov_cons (rfl) (prov_cons (rfl) (prov_cons (rfl) prov_nil))) (⟨rfl, by assumption, by assumption, hS2, by rw [List.append_assoc, e69]; exact hxs.symm, by first | exact (show X.length ≤ 200000 ∧ ls69.length ≤ 200000 by rw [e69, List.length_drop]; omega) | exact (show ls69.length ≤ 200000 ∧ Y.length ≤ 200000 by rw [e69, List.length_drop]; omega), by rw [e69]; first | exact ⟨hok.1, fun s hs => hok.2 s (List.mem_of_mem_drop hs)⟩ | exact ⟨fun s hs => hok.1 s (List.mem_of_mem_drop hs), hok.2⟩⟩) (by repeat (first | exact List.Sublist.refl _ | apply List.Sublist.cons_cons | apply List.Sublist.cons)) (hle2)
       ·skip
        replace hH := hH.mono hleC; replace hs := hs.mono hleC; replace ht := ht.mono hleC; replace hpk := hpk.mono hleC; replace hpm := hpm.mono hleC; replace hX := hX.mono hleC; replace hY := hY.mono hleC; replace hS := hS.mono hleC; replace hp61 := hp61.mono hleC; replace hd61 := hd61.mono hleC; replace hle0 := hle0.trans hleC; replace hle1 := hle1.trans hleC; replace hle2 := hle2.trans hleC; refine XO.notB rfl rfl ?_; refine XO.nil ?_; refine XC.seq2 ?_; refine XC.condT rfl (rfl) ?_; refine XC.ret ?_; refine seqX_ret ?_; refine blockR ?_; refine loopX_ret ?_; refine blockR ?_; refine ⟨rfl, _, oC, rfl, (by repeat (first | exact List.Sublist.refl _ | apply List.Sublist.cons_cons | apply List.Sublist.cons)), RetR.mk ?_⟩
        exact ⟨rfl, [], oC, rfl, Or.inr hK⟩
     ·skip
      refine XC.keep [0, 4, 5, 10] rfl ?_; obtain ⟨bEA, oEA, rfl⟩ := hX.addr (by omega); obtain ⟨_, xA, hxA, ⟨axA, cxA, rfl, hdA, hDA⟩, hpA⟩ := hX.elem (0) (by omega); obtain ⟨bEB, oEB, rfl⟩ := hY.addr (by omega); obtain ⟨_, xB, hxB, ⟨axB, cxB, rfl, hdB, hDB⟩, hpB⟩ := hY.elem (0) (by omega)
      apply XC.drawH (fun _ => True) trivial [] (by decide) (fun _ _ _ _ => True) (fun _ _ _ _ _ _ h => h) 14 [eqF _, eqF _, eqF _, eqF _, eqF _, eqF _, eqF _, eqF _, eqF _, eqF _, eqF _, eqF _, eqF _, eqF _] follows (by kernel_rfl) ⟨eqF_mono _, eqF_mono _, eqF_mono _, eqF_mono _, eqF_mono _, eqF_mono _, eqF_mono _, eqF_mono _, eqF_mono _, eqF_mono _, eqF_mono _, eqF_mono _, eqF_mono _, eqF_mono _, trivial⟩ (by decide) ?steps12 ?tail12
      case steps12 =>
       refine stepsH_cons rfl ?_ ?_
       ·intro X ext HD hleD _
        replace hH := hH.mono hleD; replace hs := hs.mono hleD; replace ht := ht.mono hleD; replace hpk := hpk.mono hleD; replace hpm := hpm.mono hleD; replace hX := hX.mono hleD; replace hY := hY.mono hleD; replace hS := hS.mono hleD; replace hpA := hpA.mono hleD; replace hdA := hdA.mono hleD; replace hpB := hpB.mono hleD; replace hdB := hdB.mono hleD; replace hle0 := hle0.trans hleD; replace hle1 := hle1.trans hleD; replace hle2 := hle2.trans hleD; refine withP_nil rfl ?_; refine XO.loadO 1 rfl rfl ty_31 rfl rfl rfl ?_; refine XO.nil ?_; exact stepQN_ok rfl trivial (rfl)
       refine stepsH_cons rfl ?_ ?_
       ·intro X ext HD hleD _
        replace hH := hH.mono hleD; replace hs := hs.mono hleD; replace ht := ht.mono hleD; replace hpk := hpk.mono hleD; replace hpm := hpm.mono hleD; replace hX := hX.mono hleD; replace hY := hY.mono hleD; replace hS := hS.mono hleD; replace hpA := hpA.mono hleD; replace hdA := hdA.mono hleD; replace hpB := hpB.mono hleD; replace hdB := hdB.mono hleD; replace hle0 := hle0.trans hleD; replace hle1 := hle1.trans hleD; replace hle2 := hle2.trans hleD; refine withP_cons rfl rfl ?_; rintro _ rfl; refine withP_nil rfl ?_; refine XO.lenS (ts := #[]) rfl Try.underlying31 rfl ?_; refine XO.nil ?_; exact stepQN_ok rfl trivial (rfl)
       refine stepsH_cons rfl ?_ ?_
       ·intro X ext HD hleD _
        replace hH := hH.mono hleD; replace hs := hs.mono hleD; replace ht := ht.mono hleD; replace hpk := hpk.mono hleD; replace hpm := hpm.mono hleD; replace hX := hX.mono hleD; replace hY := hY.mono hleD; replace hS := hS.mono hleD; replace hpA := hpA.mono hleD; replace hdA := hdA.mono hleD; replace hpB := hpB.mono hleD; replace hdB := hdB.mono hleD; replace hle0 := hle0.trans hleD; replace hle1 := hle1.trans hleD; replace hle2 := hle2.trans hleD; refine withP_cons rfl rfl ?_; rintro _ rfl; refine withP_nil rfl ?_; refine XO.eql rfl rfl rfl ?_; refine XO.nil ?_; exact stepQN_ok rfl trivial (rfl)
       refine stepsH_cons rfl ?_ ?_
       ·intro X ext HD hleD _
        replace hH := hH.mono hleD; replace hs := hs.mono hleD; replace ht := ht.mono hleD; replace hpk := hpk.mono hleD; replace hpm := hpm.mono hleD; replace hX := hX.mono hleD; replace hY := hY.mono hleD; replace hS := hS.mono hleD; replace hpA := hpA.mono hleD; replace hdA := hdA.mono hleD; replace hpB := hpB.mono hleD; replace hdB := hdB.mono hleD; replace hle0 := hle0.trans hleD; replace hle1 := hle1.trans hleD; replace hle2 := hle2.trans hleD; refine withP_cons rfl rfl ?_; rintro _ rfl; refine withP_nil rfl ?_; refine XO.move rfl rfl ?_; refine XO.nil ?_; exact stepQN_ok rfl trivial (rfl)
       refine stepsH_cons rfl ?_ ?_
       ·intro X ext HD hleD _
        replace hH := hH.mono hleD; replace hs := hs.mono hleD; replace ht := ht.mono hleD; replace hpk := hpk.mono hleD; replace hpm := hpm.mono hleD; replace hX := hX.mono hleD; replace hY := hY.mono hleD; replace hS := hS.mono hleD; replace hpA := hpA.mono hleD; replace hdA := hdA.mono hleD; replace hpB := hpB.mono hleD; replace hdB := hdB.mono hleD; replace hle0 := hle0.trans hleD; replace hle1 := hle1.trans hleD; replace hle2 := hle2.trans hleD; refine withP_cons rfl rfl ?_; rintro _ rfl; refine withP_nil rfl ?_; refine XO.guardT rfl rfl (decide_eq_false (by omega)) rfl ?_; refine XO.loadO 0 rfl rfl ty_31 rfl rfl rfl ?_; refine XO.nil ?_; exact stepQN_ok rfl trivial (rfl)
       refine stepsH_cons rfl ?_ ?_
       ·intro X ext HD hleD _
        replace hH := hH.mono hleD; replace hs := hs.mono hleD; replace ht := ht.mono hleD; replace hpk := hpk.mono hleD; replace hpm := hpm.mono hleD; replace hX := hX.mono hleD; replace hY := hY.mono hleD; replace hS := hS.mono hleD; replace hpA := hpA.mono hleD; replace hdA := hdA.mono hleD; replace hpB := hpB.mono hleD; replace hdB := hdB.mono hleD; replace hle0 := hle0.trans hleD; replace hle1 := hle1.trans hleD; replace hle2 := hle2.trans hleD; refine withP_cons rfl rfl ?_; rintro _ rfl; refine withP_cons rfl rfl ?_; rintro _ rfl; refine withP_nil rfl ?_; refine XO.guardT rfl rfl (decide_eq_false (by omega)) rfl ?_; refine XO.lenS (ts := #[]) rfl Try.underlying31 rfl ?_; refine XO.nil ?_; exact stepQN_ok rfl trivial (rfl)
       refine stepsH_cons rfl ?_ ?_
       ·intro X ext HD hleD _
        replace hH := hH.mono hleD; replace hs := hs.mono hleD; replace ht := ht.mono hleD; replace hpk := hpk.mono hleD; replace hpm := hpm.mono hleD; replace hX := hX.mono hleD; replace hY := hY.mono hleD; replace hS := hS.mono hleD; replace hpA := hpA.mono hleD; replace hdA := hdA.mono hleD; replace hpB := hpB.mono hleD; replace hdB := hdB.mono hleD; replace hle0 := hle0.trans hleD; replace hle1 := hle1.trans hleD; replace hle2 := hle2.trans hleD; refine withP_cons rfl rfl ?_; rintro _ rfl; refine withP_cons rfl rfl ?_; rintro _ rfl; refine withP_nil rfl ?_; refine XO.guardT rfl rfl (decide_eq_false (by omega)) rfl ?_; refine XO.gtr rfl rfl rfl ?_; refine XO.nil ?_; exact stepQN_ok rfl trivial (rfl)
       refine stepsH_cons rfl ?_ ?_
       ·intro X ext HD hleD _
        replace hH := hH.mono hleD; replace hs := hs.mono hleD; replace ht := ht.mono hleD; replace hpk := hpk.mono hleD; replace hpm := hpm.mono hleD; replace hX := hX.mono hleD; replace hY := hY.mono hleD; replace hS := hS.mono hleD; replace hpA := hpA.mono hleD; replace hdA := hdA.mono hleD; replace hpB := hpB.mono hleD; replace hdB := hdB.mono hleD; replace hle0 := hle0.trans hleD; replace hle1 := hle1.trans hleD; replace hle2 := hle2.trans hleD; refine withP_cons rfl rfl ?_; rintro _ rfl; refine withP_cons rfl rfl ?_; rintro _ rfl; refine withP_nil rfl ?_; refine XO.guardT rfl rfl (decide_eq_false (by omega)) rfl ?_; refine XO.move rfl rfl ?_; refine XO.nil ?_; exact stepQN_ok rfl trivial (rfl)
       refine stepsH_cons rfl ?_ ?_
       ·intro X ext HD hleD _
        replace hH := hH.mono hleD; replace hs := hs.mono hleD; replace ht := ht.mono hleD; replace hpk := hpk.mono hleD; replace hpm := hpm.mono hleD; replace hX := hX.mono hleD; replace hY := hY.mono hleD; replace hS := hS.mono hleD; replace hpA := hpA.mono hleD; replace hdA := hdA.mono hleD; replace hpB := hpB.mono hleD; replace hdB := hdB.mono hleD; replace hle0 := hle0.trans hleD; replace hle1 := hle1.trans hleD; replace hle2 := hle2.trans hleD; refine withP_cons rfl rfl ?_; rintro _ rfl; refine withP_nil rfl ?_; refine XO.guardT rfl rfl (decide_eq_true (by omega)) rfl ?_; refine XO.loadO 0 rfl rfl ty_31 rfl rfl rfl ?_; refine XO.nil ?_; exact stepQN_ok rfl trivial (rfl)
       refine stepsH_cons rfl ?_ ?_
       ·intro X ext HD hleD _
        replace hH := hH.mono hleD; replace hs := hs.mono hleD; replace ht := ht.mono hleD; replace hpk := hpk.mono hleD; replace hpm := hpm.mono hleD; replace hX := hX.mono hleD; replace hY := hY.mono hleD; replace hS := hS.mono hleD; replace hpA := hpA.mono hleD; replace hdA := hdA.mono hleD; replace hpB := hpB.mono hleD; replace hdB := hdB.mono hleD; replace hle0 := hle0.trans hleD; replace hle1 := hle1.trans hleD; replace hle2 := hle2.trans hleD; refine withP_cons rfl rfl ?_; rintro _ rfl; refine withP_cons rfl rfl ?_; rintro _ rfl; refine withP_nil rfl ?_; refine XO.guardT rfl rfl (decide_eq_true (by omega)) rfl ?_; refine XO.indexE rfl rfl Try.underlying31 ty_27 (by omega) (by omega) rfl ?_; refine XO.nil ?_; exact stepQN_ok rfl trivial (rfl)
       refine stepsH_cons rfl ?_ ?_
       ·intro X ext HD hleD _
        replace hH := hH.mono hleD; replace hs := hs.mono hleD; replace ht := ht.mono hleD; replace hpk := hpk.mono hleD; replace hpm := hpm.mono hleD; replace hX := hX.mono hleD; replace hY := hY.mono hleD; replace hS := hS.mono hleD; replace hpA := hpA.mono hleD; replace hdA := hdA.mono hleD; replace hpB := hpB.mono hleD; replace hdB := hdB.mono hleD; replace hle0 := hle0.trans hleD; replace hle1 := hle1.trans hleD; replace hle2 := hle2.trans hleD; refine withP_cons rfl rfl ?_; rintro _ rfl; refine withP_cons rfl rfl ?_; rintro _ rfl; refine withP_nil rfl ?_; refine XO.guardT rfl rfl (decide_eq_true (by omega)) rfl ?_; refine XO.loadH rfl (by assumption) ty_27 rfl rfl rfl ?_; refine XO.nil ?_; exact stepQN_ok rfl trivial (rfl)
       refine stepsH_cons rfl ?_ ?_
       ·intro X ext HD hleD _
        replace hH := hH.mono hleD; replace hs := hs.mono hleD; replace ht := ht.mono hleD; replace hpk := hpk.mono hleD; replace hpm := hpm.mono hleD; replace hX := hX.mono hleD; replace hY := hY.mono hleD; replace hS := hS.mono hleD; replace hpA := hpA.mono hleD; replace hdA := hdA.mono hleD; replace hpB := hpB.mono hleD; replace hdB := hdB.mono hleD; replace hle0 := hle0.trans hleD; replace hle1 := hle1.trans hleD; replace hle2 := hle2.trans hleD; refine withP_cons rfl rfl ?_; rintro _ rfl; refine withP_nil rfl ?_; refine XO.guardT rfl rfl (decide_eq_true (by omega)) rfl ?_; refine XO.loadO 1 rfl rfl ty_31 rfl rfl rfl ?_; refine XO.nil ?_; exact stepQN_ok rfl trivial (rfl)
       refine stepsH_cons rfl ?_ ?_
       ·intro X ext HD hleD _
        replace hH := hH.mono hleD; replace hs := hs.mono hleD; replace ht := ht.mono hleD; replace hpk := hpk.mono hleD; replace hpm := hpm.mono hleD; replace hX := hX.mono hleD; replace hY := hY.mono hleD; replace hS := hS.mono hleD; replace hpA := hpA.mono hleD; replace hdA := hdA.mono hleD; replace hpB := hpB.mono hleD; replace hdB := hdB.mono hleD; replace hle0 := hle0.trans hleD; replace hle1 := hle1.trans hleD; replace hle2 := hle2.trans hleD; refine withP_cons rfl rfl ?_; rintro _ rfl; refine withP_cons rfl rfl ?_; rintro _ rfl; refine withP_nil rfl ?_; refine XO.guardT rfl rfl (decide_eq_true (by omega)) rfl ?_; refine XO.indexE rfl rfl Try.underlying31 ty_27 (by omega) (by omega) rfl ?_; refine XO.nil ?_; exact stepQN_ok rfl trivial (rfl)
       refine stepsH_cons rfl ?_ ?_
       ·intro X ext HD hleD _
        replace hH := hH.mono hleD; replace hs := hs.mono hleD; replace ht := ht.mono hleD; replace hpk := hpk.mono hleD; replace hpm := hpm.mono hleD; replace hX := hX.mono hleD; replace hY := hY.mono hleD; replace hS := hS.mono hleD; replace hpA := hpA.mono hleD; replace hdA := hdA.mono hleD; replace hpB := hpB.mono hleD; replace hdB := hdB.mono hleD; replace hle0 := hle0.trans hleD; replace hle1 := hle1.trans hleD; replace hle2 := hle2.trans hleD; refine withP_cons rfl rfl ?_; rintro _ rfl; refine withP_cons rfl rfl ?_; rintro _ rfl; refine withP_nil rfl ?_; refine XO.guardT rfl rfl (decide_eq_true (by omega)) rfl ?_; refine XO.loadH rfl (by assumption) ty_27 rfl rfl rfl ?_; refine XO.nil ?_; exact stepQN_ok rfl trivial (rfl)
       exact stepsH_end rfl
      case tail12 =>
       intro HD hleD _
       replace hH := hH.mono hleD; replace hs := hs.mono hleD; replace ht := ht.mono hleD; replace hpk := hpk.mono hleD; replace hpm := hpm.mono hleD; replace hX := hX.mono hleD; replace hY := hY.mono hleD; replace hS := hS.mono hleD; replace hpA := hpA.mono hleD; replace hdA := hdA.mono hleD; replace hpB := hpB.mono hleD; replace hdB := hdB.mono hleD; replace hle0 := hle0.trans hleD; replace hle1 := hle1.trans hleD; replace hle2 := hle2.trans hleD; refine withP_cons rfl rfl ?_; rintro _ rfl; refine withP_cons rfl rfl ?_; rintro _ rfl; refine withP_cons rfl rfl ?_; rintro _ rfl; refine withP_cons rfl rfl ?_; rintro _ rfl; refine withP_cons rfl rfl ?_; rintro _ rfl; refine withP_cons rfl rfl ?_; rintro _ rfl; refine withP_cons rfl rfl ?_; rintro _ rfl; refine withP_cons rfl rfl ?_; rintro _ rfl; refine withP_cons rfl rfl ?_; rintro _ rfl; refine withP_cons rfl rfl ?_; rintro _ rfl; refine withP_cons rfl rfl ?_; rintro _ rfl; refine withP_cons rfl rfl ?_; rintro _ rfl; refine withP_cons rfl rfl ?_; rintro _ rfl; refine withP_cons rfl rfl ?_; rintro _ rfl; refine withP_nil rfl ?_; refine withEnts_nil ?_; refine XO.guardT rfl rfl (decide_eq_true (by omega)) rfl ?_; refine XO.callH rfl (order_fn xB xA _ _ _ _ _ hdB hdA hDB hDA (hok.2 _ (List.mem_of_getElem? hxB)) (hok.1 _ (List.mem_of_getElem? hxA))) rfl ?_; rintro _ HN53 hleN53 rfl; replace hH := hH.mono hleN53; replace hs := hs.mono hleN53; replace ht := ht.mono hleN53; replace hpk := hpk.mono hleN53; replace hpm := hpm.mono hleN53; replace hX := hX.mono hleN53; replace hY := hY.mono hleN53; replace hS := hS.mono hleN53; replace hpA := hpA.mono hleN53; replace hdA := hdA.mono hleN53; replace hpB := hpB.mono hleN53; replace hdB := hdB.mono hleN53; replace hle0 := hle0.trans hleN53; replace hle1 := hle1.trans hleN53; replace hle2 := hle2.trans hleN53; refine XO.guardT rfl rfl (decide_eq_true (by omega)) rfl ?_; refine XO.lss rfl rfl rfl ?_; refine XO.guardT rfl rfl (decide_eq_false (by omega)) rfl ?_; refine XO.pickT rfl (decide_eq_true (by omega)) rfl rfl ?_; refine XO.pickF rfl (decide_eq_false (by omega)) rfl rfl ?_; refine XO.nil ?_; refine XC.seq2 ?_; refine XC.cond rfl (fun c3_16 => ?_) (fun c3_16 => ?_)
       ·refine XC.region ?_; refine XO.assign rfl rfl ?_; refine XO.nil ?_; refine XC.seq2 ?_; refine XC.seq ?_; refine XC.seq ?_; refine XC.region ?_; refine XO.move rfl rfl ?_; refine XO.move rfl rfl ?_; refine XO.nilCheckP rfl rfl ?_; refine XO.loadO 0 rfl rfl ty_31 rfl rfl rfl ?_; refine XO.indexN (i := 0) rfl hY rfl Try.underlying31 ty_27 (by omega) rfl ?_; rintro eb61 eo61 _ x61 hx61 ⟨ax61, cx61, rfl, hd61, hD61⟩ hp61
        first | (obtain rfl := Option.some.inj (hx61.symm.trans hxB)) | (obtain rfl := Option.some.inj (hx61.symm.trans hxA)) | skip
        refine XO.loadH rfl (by assumption) ty_27 rfl rfl rfl ?_
        have hmm := by first | exact mrg_y (X := X) (Y := Y) hx61 (by first | exact .inl (by omega) | exact .inr ⟨_, hxA, by assumption⟩) | exact mrg_x (X := X) (Y := Y) hx61 (by first | exact .inl (by omega) | exact .inr ⟨_, hxB, by assumption⟩)
        have hxs := hmg.symm.trans (congrArg (P ++ ·) hmm)
        refine XO.callVal [_, _] rfl trivial rfl (hy _ _ _ hxs (_, _) _ [] oc hH hS ⟨rfl, hd61, hD61⟩) rfl rfl ?_; rintro _ HC oC hleC (⟨rfl, oc2, rfl, hS2⟩ | ⟨rfl, hK⟩)
        ·skip
         replace hH := hH.mono hleC; replace hs := hs.mono hleC; replace ht := ht.mono hleC; replace hpk := hpk.mono hleC; replace hpm := hpm.mono hleC; replace hX := hX.mono hleC; replace hY := hY.mono hleC; replace hS := hS.mono hleC; replace hpA := hpA.mono hleC; replace hdA := hdA.mono hleC; replace hpB := hpB.mono hleC; replace hdB := hdB.mono hleC; replace hp61 := hp61.mono hleC; replace hd61 := hd61.mono hleC; replace hle0 := hle0.trans hleC; replace hle1 := hle1.trans hleC; replace hle2 := hle2.trans hleC; refine XO.notB rfl rfl ?_; refine XO.nil ?_; refine XC.seq2 ?_; refine XC.condF rfl (rfl) ?_; refine XC.skip ?_; refine XC.seq2 ?_; refine XC.region ?_; refine XO.move rfl rfl ?_; refine XO.move rfl rfl ?_; refine XO.nilCheckP rfl rfl ?_; refine XO.loadO 0 rfl rfl ty_31 rfl rfl rfl ?_; refine XO.slice (lo' := 1) (hi' := ((Y.length : Nat) : Int)) (m' := ((cY : Nat) : Int)) rfl hY (ev?_some rfl) ev?_none ev?_none (by simp) (by omega) (by omega) (by omega) (by have := hY.le; omega) (by omega) Try.underlying31 ty_27 rfl (fun as69 ls69 hls69 hss69 => ?_)
         have e69 := drop_one hls69
         refine XO.nilCheckP rfl rfl ?_; refine XO.storeO 0 rfl rfl rfl rfl ty_31 rfl rfl rfl rfl rfl ?_; refine XO.nil ?_; refine blockN ?_; refine loop_next ((k + 1, X, _, cX, ls69, as69, _, P ++ [x61], oC)) (by first | (show X.length + ls69.length < X.length + Y.length; rw [e69, List.length_drop]; omega) | (show ls69.length + Y.length < X.length + Y.length; rw [e69, List.length_drop]; omega)) (prov_cons (rfl) (prov_cons (rfl) (prov_cons (rfl) prov_nil))) (⟨rfl, by assumption, by assumption, hS2, by rw [List.append_assoc, e69]; exact hxs.symm, by first | exact (show X.length ≤ 200000 ∧ ls69.length ≤ 200000 by rw [e69, List.length_drop]; omega) | exact (show ls69.length ≤ 200000 ∧ Y.length ≤ 200000 by rw [e69, List.length_drop]; omega), by rw [e69]; first | exact ⟨hok.1, fun s hs => hok.2 s (List.mem_of_mem_drop hs)⟩ | exact ⟨fun s hs => hok.1 s (List.mem_of_mem_drop hs), hok.2⟩⟩) (by repeat (first | exact List.Sublist.refl _ | apply List.Sublist.cons_cons | apply List.Sublist.cons)) (hle2)
        ·skip
         replace hH := hH.mono hleC; replace hs := hs.mono hleC; replace ht := ht.mono hleC; replace hpk := hpk.mono hleC; replace hpm := hpm.mono hleC; replace hX := hX.mono hleC; replace hY := hY.mono hleC; replace hS := hS.mono hleC; replace hpA := hpA.mono hleC; replace hdA := hdA.mono hleC; replace hpB := hpB.mono hleC; replace hdB := hdB.mono hleC; replace hp61 := hp61.mono hleC; replace hd61 := hd61.mono hleC; replace hle0 := hle0.trans hleC; replace hle1 := hle1.trans hleC; replace hle2 := hle2.trans hleC; refine XO.notB rfl rfl ?_; refine XO.nil ?_; refine XC.seq2 ?_; refine XC.condT rfl (rfl) ?_; refine XC.ret ?_; refine seqX_ret ?_; refine blockR ?_; refine loopX_ret ?_; refine blockR ?_; refine ⟨rfl, _, oC, rfl, (by repeat (first | exact List.Sublist.refl _ | apply List.Sublist.cons_cons | apply List.Sublist.cons)), RetR.mk ?_⟩
         exact ⟨rfl, [], oC, rfl, Or.inr hK⟩
       ·refine XC.skip ?_; refine XC.seq2 ?_; refine XC.seq ?_; refine XC.seq ?_; refine XC.region ?_; refine XO.move rfl rfl ?_; refine XO.move rfl rfl ?_; refine XO.nilCheckP rfl rfl ?_; refine XO.loadO 1 rfl rfl ty_31 rfl rfl rfl ?_; refine XO.indexN (i := 0) rfl hX rfl Try.underlying31 ty_27 (by omega) rfl ?_; rintro eb61 eo61 _ x61 hx61 ⟨ax61, cx61, rfl, hd61, hD61⟩ hp61
        first | (obtain rfl := Option.some.inj (hx61.symm.trans hxB)) | (obtain rfl := Option.some.inj (hx61.symm.trans hxA)) | skip
        refine XO.loadH rfl (by assumption) ty_27 rfl rfl rfl ?_
        have hmm := by first | exact mrg_y (X := X) (Y := Y) hx61 (by first | exact .inl (by omega) | exact .inr ⟨_, hxA, by assumption⟩) | exact mrg_x (X := X) (Y := Y) hx61 (by first | exact .inl (by omega) | exact .inr ⟨_, hxB, by assumption⟩)
        have hxs := hmg.symm.trans (congrArg (P ++ ·) hmm)
        refine XO.callVal [_, _] rfl trivial rfl (hy _ _ _ hxs (_, _) _ [] oc hH hS ⟨rfl, hd61, hD61⟩) rfl rfl ?_; rintro _ HC oC hleC (⟨rfl, oc2, rfl, hS2⟩ | ⟨rfl, hK⟩)
        ·skip
         replace hH := hH.mono hleC; replace hs := hs.mono hleC; replace ht := ht.mono hleC; replace hpk := hpk.mono hleC; replace hpm := hpm.mono hleC; replace hX := hX.mono hleC; replace hY := hY.mono hleC; replace hS := hS.mono hleC; replace hpA := hpA.mono hleC; replace hdA := hdA.mono hleC; replace hpB := hpB.mono hleC; replace hdB := hdB.mono hleC; replace hp61 := hp61.mono hleC; replace hd61 := hd61.mono hleC; replace hle0 := hle0.trans hleC; replace hle1 := hle1.trans hleC; replace hle2 := hle2.trans hleC; refine XO.notB rfl rfl ?_; refine XO.nil ?_; refine XC.seq2 ?_; refine XC.condF rfl (rfl) ?_; refine XC.skip ?_; refine XC.seq2 ?_; refine XC.region ?_; refine XO.move rfl rfl ?_; refine XO.move rfl rfl ?_; refine XO.nilCheckP rfl rfl ?_; refine XO.loadO 1 rfl rfl ty_31 rfl rfl rfl ?_; refine XO.slice (lo' := 1) (hi' := ((X.length : Nat) : Int)) (m' := ((cX : Nat) : Int)) rfl hX (ev?_some rfl) ev?_none ev?_none (by simp) (by omega) (by omega) (by omega) (by have := hX.le; omega) (by omega) Try.underlying31 ty_27 rfl (fun as69 ls69 hls69 hss69 => ?_)
         have e69 := drop_one hls69
         refine XO.nilCheckP rfl rfl ?_; refine XO.storeO 1 rfl rfl rfl rfl ty_31 rfl rfl rfl rfl rfl ?_; refine XO.nil ?_; refine blockN ?_; refine loop_next ((k + 1, ls69, as69, _, Y, _, cY, P ++ [x61], oC)) (by first | (show X.length + ls69.length < X.length + Y.length; rw [e69, List.length_drop]; omega) | (show ls69.length + Y.length < X.length + Y.length; rw [e69, List.length_drop]; omega)) (prov_cons (rfl) (prov_cons (rfl) (prov_cons (rfl) prov_nil))) (⟨rfl, by assumption, by assumption, hS2, by rw [List.append_assoc, e69]; exact hxs.symm, by first | exact (show X.length ≤ 200000 ∧ ls69.length ≤ 200000 by rw [e69, List.length_drop]; omega) | exact (show ls69.length ≤ 200000 ∧ Y.length ≤ 200000 by rw [e69, List.length_drop]; omega), by rw [e69]; first | exact ⟨hok.1, fun s hs => hok.2 s (List.mem_of_mem_drop hs)⟩ | exact ⟨fun s hs => hok.1 s (List.mem_of_mem_drop hs), hok.2⟩⟩) (by repeat (first | exact List.Sublist.refl _ | apply List.Sublist.cons_cons | apply List.Sublist.cons)) (hle2)
        ·skip
         replace hH := hH.mono hleC; replace hs := hs.mono hleC; replace ht := ht.mono hleC; replace hpk := hpk.mono hleC; replace hpm := hpm.mono hleC; replace hX := hX.mono hleC; replace hY := hY.mono hleC; replace hS := hS.mono hleC; replace hpA := hpA.mono hleC; replace hdA := hdA.mono hleC; replace hpB := hpB.mono hleC; replace hdB := hdB.mono hleC; replace hp61 := hp61.mono hleC; replace hd61 := hd61.mono hleC; replace hle0 := hle0.trans hleC; replace hle1 := hle1.trans hleC; replace hle2 := hle2.trans hleC; refine XO.notB rfl rfl ?_; refine XO.nil ?_; refine XC.seq2 ?_; refine XC.condT rfl (rfl) ?_; refine XC.ret ?_; refine seqX_ret ?_; refine blockR ?_; refine loopX_ret ?_; refine blockR ?_; refine ⟨rfl, _, oC, rfl, (by repeat (first | exact List.Sublist.refl _ | apply List.Sublist.cons_cons | apply List.Sublist.cons)), RetR.mk ?_⟩
         exact ⟨rfl, [], oC, rfl, Or.inr hK⟩
   ·refine XC.exit ?_; refine seqX_exit ?_; refine loopX_exit ?_; refine blockHit rfl ?_; obtain rfl : X = [] := List.eq_nil_of_length_eq_zero (by omega); obtain rfl : Y = [] := List.eq_nil_of_length_eq_zero (by omega)
    rw [mrg_nil, List.append_nil] at hmg
    subst hmg
    refine ⟨rfl, _, oc, rfl, (by repeat (first | exact List.Sublist.refl _ | apply List.Sublist.cons_cons | apply List.Sublist.cons)), RetR.mk ?_⟩
    exact ⟨rfl, [], oc, rfl, Or.inl hS⟩

theorem cards_fn (a b : Option Addr) (c d : Nat) (l m : Box) (H : Hp) (hs : SlR (slR cardR) H a c l) (ht : SlR (slR cardR) H b d m) (hll : l.length ≤ 100000) (hml : m.length ≤ 100000) (hgl : goodB l) (hgm : goodB m) : FnC Try.prog 42 #[.slice a l.length c, .slice b m.length d] H [] (RetR (fun v H2 _ => ∃ bk bm, v = .func (.func 54) #[] #[.pointer (some ⟨bk, 0, none⟩), .pointer (some ⟨bm, 0, none⟩)] ∧ SeqF Try.prog 54 [.pointer (some ⟨bk, 0, none⟩), .pointer (some ⟨bm, 0, none⟩)] H2 [] encC lendC (mrg l.flatten m.flatten))) := by
 refine FnC.intro (args := [.slice a l.length c, .slice b m.length d]) Try.func42 rfl rfl Try.ntmps42 rfl rfl rfl fun G rest => ?_
 refine XC.seq ?_; refine XC.region ?_; refine XO.box rfl rfl rfl (fun b2 => ?_); refine XO.box rfl rfl rfl (fun b3 => ?_); refine XO.assign rfl rfl ?_; refine XO.nil ?_; refine XC.seq2 ?_; refine XC.seq ?_; refine XC.region ?_; refine XO.publish 1 rfl rfl rfl (fun HK2 oK2 hleK2 hbK2 hoK2 => ?_)
 have hpK2 := PtH.of_is hbK2 hoK2
 replace hs := hs.mono hleK2; replace ht := ht.mono hleK2; refine XO.publish 0 rfl rfl rfl (fun HK3 oK3 hleK3 hbK3 hoK3 => ?_)
 have hpK3 := PtH.of_is hbK3 hoK3
 replace hs := hs.mono hleK3; replace ht := ht.mono hleK3; replace hpK2 := hpK2.mono hleK3; refine XO.makeFunc rfl rfl ?_; refine XO.assign rfl rfl ?_; refine XO.nil ?_; refine XC.seq2 ?_; refine XC.ret ?_; refine ⟨rfl, _, [], rfl, (by repeat (first | exact List.Sublist.refl _ | apply List.Sublist.cons)), RetR.mk ?_⟩
 exact ⟨b2, b3, rfl, cards_seq b2 b3 a b c d l m _ hs ht hll hml hgl hgm hpK2 hpK3⟩

end Go.Proofs

/- The walks of the functions of boxes: what each of them computes, at any input. -/
set_option maxRecDepth 100000
set_option autoImplicit false
set_option linter.unusedVariables false
set_option linter.unusedSimpArgs false
namespace Go.Proofs
open Go.XL

theorem ze_22 : zeroC Try.prog 22 = some [.slice none 0 0] := by kernel_rfl

set_option maxRecDepth 100000 in
set_option maxHeartbeats 1600000 in
theorem pmrg0_b (a b : Option Addr) (c d : Nat) (l m : Box) (H : Hp) (hs : SlR (slR cardR) H a c l) (ht : SlR (slR cardR) H b d m) (hll : l.length ≤ 100000) (hml : m.length ≤ 100000) (hgl : goodB l) (hgm : goodB m) : FnC Try.prog 26 #[.slice a l.length c, .slice b m.length d] H [] (RetR (fun v H2 _ => BoxU (pX (pmB l m)) (pE (pmB l m)) H2 v)) := by
 refine FnC.introC (args := [.slice a l.length c, .slice b m.length d]) Try.func26 rfl rfl Try.ntmps26 rfl rfl rfl fun G rest => ?_
 refine XC.seq ?_; refine XC.region ?_; refine XO.alloc ze_22 rfl (fun b4 => ?_); refine XO.assign rfl rfl ?_; refine XO.nil ?_; refine XC.seq2 ?_; refine XC.seq ?_; refine XC.seq ?_; refine XC.region ?_; refine XO.move rfl rfl ?_; refine XO.move rfl rfl ?_; refine XO.callH rfl (cards_fn _ _ _ _ l m _ hs ht hll hml hgl hgm) rfl ?_; rintro _ HN hleN ⟨bk, bm, rfl, hseq⟩; replace hs := hs.mono hleN; replace ht := ht.mono hleN; refine XO.nil ?_; refine XC.seq2 ?_; refine XC.block ?_; refine XC.keep [4, 11] rfl ?_; refine XC.open0 0 ?_; refine XC.rangeFuncF (lend := lendC) rfl (hseq) (fun _ _ => rfl) rfl rfl (fun pre Hl own => ∃ (pw : Nat × SObj) (aw : Option Addr) (cw : Nat) (rs : List Raw) (nw : Nat), pw :: (b4, .cells 22 [.slice aw nw cw]) :: rest = own ∧ XL.Acc rawR 50 Hl pw aw cw rs ∧ RawS Hl rs (boxO pre) ∧ nw = rs.length) (fun _ _ _ => False) (fun _ _ _ _ hle ⟨pw, aw, cw, rs, nw, h1, h2, h3, h4⟩ => ⟨pw, aw, cw, rs, nw, h1, h2.mono hle, h3.mono hle, h4⟩) (⟨(0, .nothing), none, 0, [], 0, rfl, Acc.nil _ _ _ _, RawS.nil, rfl⟩) (.inl rfl) ?_ ?_ ?_
 ·rintro G lp hd1 hd2 hrec pre x post hxs ⟨ax, cx⟩ Hl _ ownL hleL ⟨pw, aw, cw, rs, nw, rfl, haccw, hraw, rfl⟩ ⟨rfl, hx, hD⟩
  have hokall : ∀ s ∈ mrg l.flatten m.flatten, okC s := fun s hs => (mem_mrg.1 hs).elim (good_mem hgl) (good_mem hgm)
  have hokx : okC x := hokall x (by rw [hxs]; simp)
  have hg : goodB (boxO pre) := good_boxO fun s hs => hokall s (by rw [hxs]; exact List.mem_append_left _ hs)
  have hbl := len_boxO pre
  have hpl : pre.length ≤ 400000 := by
   have h1 := congrArg List.length hxs
   rw [len_mrg, List.length_append] at h1
   have h2 := flat_len hgl
   have h3 := flat_len hgm
   omega
  have hrl := hraw.1.1
  replace hs := hs.mono hleL; replace ht := ht.mono hleL; refine XC.region ?_; refine XO.alloc ze_27 rfl (fun b6 => ?_); refine XO.storeO 0 rfl rfl rfl rfl ty_27 rfl rfl rfl rfl rfl ?_; refine XO.nil ?_; refine assignN ?_; refine XC.block ?_; refine XC.seq ?_; refine XC.region ?_; refine XO.loadO 2 rfl rfl ty_22 rfl rfl rfl ?_; refine XO.lenS (ts := #[]) rfl Try.underlying22 rfl ?_; refine XO.assign rfl rfl ?_; refine XO.nil ?_; refine XC.seq2 ?_; refine XC.seq ?_; refine XC.seq ?_
  by_cases hn0 : rs.length = 0
  ·skip
   refine XC.keep [4, 6, 7] rfl ?_
   apply XC.drawH (fun _ => True) trivial [] (by decide) (fun _ _ _ _ => True) (fun _ _ _ _ _ _ h => h) 13 [eqF _, eqF _, eqF _, eqF _, eqF _, eqF _, eqF _, eqF _, eqF _, eqF _, eqF _, eqF _, eqF _] follows (by kernel_rfl) ⟨eqF_mono _, eqF_mono _, eqF_mono _, eqF_mono _, eqF_mono _, eqF_mono _, eqF_mono _, eqF_mono _, eqF_mono _, eqF_mono _, eqF_mono _, eqF_mono _, eqF_mono _, trivial⟩ (by decide) ?steps2 ?tail2
   case steps2 =>
    refine stepsH_cons rfl ?_ ?_
    ·intro X ext HD hleD _
     replace hs := hs.mono hleD; replace ht := ht.mono hleD; replace haccw := haccw.mono hleD; replace hraw := hraw.mono hleD; replace hx := hx.mono hleD; refine withP_nil rfl ?_; refine XO.move rfl rfl ?_; refine XO.nil ?_; exact stepQN_ok rfl trivial (rfl)
    refine stepsH_cons rfl ?_ ?_
    ·intro X ext HD hleD _
     replace hs := hs.mono hleD; replace ht := ht.mono hleD; replace haccw := haccw.mono hleD; replace hraw := hraw.mono hleD; replace hx := hx.mono hleD; refine withP_cons rfl rfl ?_; rintro _ rfl; refine withP_nil rfl ?_; refine XO.eql rfl rfl rfl ?_; refine XO.nil ?_; exact stepQN_ok rfl trivial (rfl)
    refine stepsH_cons rfl ?_ ?_
    ·intro X ext HD hleD _
     replace hs := hs.mono hleD; replace ht := ht.mono hleD; replace haccw := haccw.mono hleD; replace hraw := hraw.mono hleD; replace hx := hx.mono hleD; refine withP_cons rfl rfl ?_; rintro _ rfl; refine withP_nil rfl ?_; refine XO.move rfl rfl ?_; refine XO.nil ?_; exact stepQN_ok rfl trivial (rfl)
    refine stepsH_cons rfl ?_ ?_
    ·intro X ext HD hleD _
     replace hs := hs.mono hleD; replace ht := ht.mono hleD; replace haccw := haccw.mono hleD; replace hraw := hraw.mono hleD; replace hx := hx.mono hleD; refine withP_cons rfl rfl ?_; rintro _ rfl; refine withP_nil rfl ?_; refine XO.guardF rfl rfl (decide_eq_true (by omega)) rfl rfl ?_; refine XO.nil ?_; exact stepQN_ok rfl trivial (rfl)
    refine stepsH_cons rfl ?_ ?_
    ·intro X ext HD hleD _
     replace hs := hs.mono hleD; replace ht := ht.mono hleD; replace haccw := haccw.mono hleD; replace hraw := hraw.mono hleD; replace hx := hx.mono hleD; refine withP_cons rfl rfl ?_; rintro _ rfl; refine withP_nil rfl ?_; refine XO.guardF rfl rfl (decide_eq_true (by omega)) rfl rfl ?_; refine XO.nil ?_; exact stepQN_ok rfl trivial (rfl)
    refine stepsH_cons rfl ?_ ?_
    ·intro X ext HD hleD _
     replace hs := hs.mono hleD; replace ht := ht.mono hleD; replace haccw := haccw.mono hleD; replace hraw := hraw.mono hleD; replace hx := hx.mono hleD; refine withP_cons rfl rfl ?_; rintro _ rfl; refine withP_cons rfl rfl ?_; rintro _ rfl; refine withP_nil rfl ?_; refine XO.guardF rfl rfl (decide_eq_true (by omega)) rfl rfl ?_; refine XO.nil ?_; exact stepQN_ok rfl trivial (rfl)
    refine stepsH_cons rfl ?_ ?_
    ·intro X ext HD hleD _
     replace hs := hs.mono hleD; replace ht := ht.mono hleD; replace haccw := haccw.mono hleD; replace hraw := hraw.mono hleD; replace hx := hx.mono hleD; refine withP_cons rfl rfl ?_; rintro _ rfl; refine withP_cons rfl rfl ?_; rintro _ rfl; refine withP_cons rfl rfl ?_; rintro _ rfl; refine withP_nil rfl ?_; refine XO.guardF rfl rfl (decide_eq_true (by omega)) rfl rfl ?_; refine XO.nil ?_; exact stepQN_ok rfl trivial (rfl)
    refine stepsH_cons rfl ?_ ?_
    ·intro X ext HD hleD _
     replace hs := hs.mono hleD; replace ht := ht.mono hleD; replace haccw := haccw.mono hleD; replace hraw := hraw.mono hleD; replace hx := hx.mono hleD; refine withP_cons rfl rfl ?_; rintro _ rfl; refine withP_cons rfl rfl ?_; rintro _ rfl; refine withP_nil rfl ?_; refine XO.guardF rfl rfl (decide_eq_true (by omega)) rfl rfl ?_; refine XO.nil ?_; exact stepQN_ok rfl trivial (rfl)
    refine stepsH_cons rfl ?_ ?_
    ·intro X ext HD hleD _
     replace hs := hs.mono hleD; replace ht := ht.mono hleD; replace haccw := haccw.mono hleD; replace hraw := hraw.mono hleD; replace hx := hx.mono hleD; refine withP_cons rfl rfl ?_; rintro _ rfl; refine withP_cons rfl rfl ?_; rintro _ rfl; refine withP_nil rfl ?_; refine XO.guardF rfl rfl (decide_eq_true (by omega)) rfl rfl ?_; refine XO.nil ?_; exact stepQN_ok rfl trivial (rfl)
    refine stepsH_cons rfl ?_ ?_
    ·intro X ext HD hleD _
     replace hs := hs.mono hleD; replace ht := ht.mono hleD; replace haccw := haccw.mono hleD; replace hraw := hraw.mono hleD; replace hx := hx.mono hleD; refine withP_cons rfl rfl ?_; rintro _ rfl; refine withP_cons rfl rfl ?_; rintro _ rfl; refine withP_nil rfl ?_; refine XO.guardF rfl rfl (decide_eq_true (by omega)) rfl rfl ?_; refine XO.nil ?_; exact stepQN_ok rfl trivial (rfl)
    refine stepsH_cons rfl ?_ ?_
    ·intro X ext HD hleD _
     replace hs := hs.mono hleD; replace ht := ht.mono hleD; replace haccw := haccw.mono hleD; replace hraw := hraw.mono hleD; replace hx := hx.mono hleD; refine withP_cons rfl rfl ?_; rintro _ rfl; refine withP_cons rfl rfl ?_; rintro _ rfl; refine withP_nil rfl ?_; refine XO.guardF rfl rfl (decide_eq_true (by omega)) rfl rfl ?_; refine XO.nil ?_; exact stepQN_ok rfl trivial (rfl)
    refine stepsH_cons rfl ?_ ?_
    ·intro X ext HD hleD _
     replace hs := hs.mono hleD; replace ht := ht.mono hleD; replace haccw := haccw.mono hleD; replace hraw := hraw.mono hleD; replace hx := hx.mono hleD; refine withP_cons rfl rfl ?_; rintro _ rfl; refine withP_cons rfl rfl ?_; rintro _ rfl; refine withP_nil rfl ?_; refine XO.guardF rfl rfl (decide_eq_true (by omega)) rfl rfl ?_; refine XO.nil ?_; exact stepQN_ok rfl trivial (rfl)
    refine stepsH_cons rfl ?_ ?_
    ·intro X ext HD hleD _
     replace hs := hs.mono hleD; replace ht := ht.mono hleD; replace haccw := haccw.mono hleD; replace hraw := hraw.mono hleD; replace hx := hx.mono hleD; refine withP_cons rfl rfl ?_; rintro _ rfl; refine withP_nil rfl ?_; refine XO.guardF rfl rfl (decide_eq_true (by omega)) rfl rfl ?_; refine XO.nil ?_; exact stepQN_ok rfl trivial (rfl)
    exact stepsH_end rfl
   case tail2 =>
    intro HD hleD _
    replace hs := hs.mono hleD; replace ht := ht.mono hleD; replace haccw := haccw.mono hleD; replace hraw := hraw.mono hleD; replace hx := hx.mono hleD; refine withP_cons rfl rfl ?_; rintro _ rfl; refine withP_cons rfl rfl ?_; rintro _ rfl; refine withP_cons rfl rfl ?_; rintro _ rfl; refine withP_cons rfl rfl ?_; rintro _ rfl; refine withP_cons rfl rfl ?_; rintro _ rfl; refine withP_cons rfl rfl ?_; rintro _ rfl; refine withP_cons rfl rfl ?_; rintro _ rfl; refine withP_cons rfl rfl ?_; rintro _ rfl; refine withP_cons rfl rfl ?_; rintro _ rfl; refine withP_cons rfl rfl ?_; rintro _ rfl; refine withP_cons rfl rfl ?_; rintro _ rfl; refine withP_cons rfl rfl ?_; rintro _ rfl; refine withP_cons rfl rfl ?_; rintro _ rfl; refine withP_nil rfl ?_; refine withEnts_nil ?_; refine XO.guardF rfl rfl (decide_eq_true (by omega)) rfl rfl ?_; refine XO.guardF rfl rfl (decide_eq_true (by omega)) rfl rfl ?_; refine XO.pickT rfl (decide_eq_true (by omega)) rfl rfl ?_; refine XO.nil ?_; refine XC.seq2 ?_; refine XC.condT rfl (rfl) ?_; refine XC.seq ?_; refine XC.region ?_; refine XO.loadO 2 rfl rfl ty_22 rfl rfl rfl ?_; refine XO.loadO 0 rfl rfl ty_27 rfl rfl rfl ?_; refine XO.buildSlice rfl Try.underlying31 ty_27 ze_27 rfl rfl rfl (fun b33 => ?_); refine XO.publish 0 rfl rfl rfl (fun HP33 oP33 hleP33 hbP33 hoP33 => ?_); replace hs := hs.mono hleP33; replace ht := ht.mono hleP33; replace haccw := haccw.mono hleP33; replace hraw := hraw.mono hleP33; replace hx := hx.mono hleP33
    have hsl33 := SlR.lit (ρ := cardR) (l := [x]) hbP33 hoP33 (RowsR.one1 ⟨_, _, rfl, hx, hD⟩)
    refine XO.build bk_50 bf_50 ze_50 rfl rfl rfl ?_; refine XO.buildSlice rfl Try.underlying22 ty_50 ze_50 rfl rfl rfl (fun b35 => ?_); refine XO.publish 0 rfl rfl rfl (fun HP35 oP35 hleP35 hbP35 hoP35 => ?_); replace hs := hs.mono hleP35; replace ht := ht.mono hleP35; replace haccw := haccw.mono hleP35; replace hraw := hraw.mono hleP35; replace hx := hx.mono hleP35; replace hsl33 := hsl33.mono hleP35
    have hsl35 := SlR.lit (ρ := rawR) (l := [((some ⟨b33, 0, none⟩ : Option Addr), 1, 1)]) hbP35 hoP35 (RowsR.one1 rfl)
    refine XO.appendA 1 rfl rfl haccw rfl rfl hsl35 rfl Try.underlying22 ty_50 ze_50 rfl by_50 (by simp; omega) rfl (fun p36 a36 c36 hacc36 => ?_); refine XO.storeO 2 rfl rfl rfl rfl ty_22 rfl rfl rfl rfl rfl ?_; refine XO.nil ?_; refine XC.seq2 ?_; refine XC.exit ?_; refine seqX_exit ?_; refine blockHit rfl ?_; refine ⟨rfl, (p36 :: (b4, .cells 22 [.slice a36 (rs ++ [((some ⟨b33, 0, none⟩ : Option Addr), 1, 1)]).length c36]) :: rest), (by repeat (first | exact List.Sublist.refl _ | apply List.Sublist.cons)), ?_⟩
    exact ⟨_, rfl, p36, a36, c36, rs ++ [((some ⟨b33, 0, none⟩ : Option Addr), 1, 1)], _, rfl, hacc36, by first | (rw [boxO_snoc, step_1 (by omega)]; exact hraw.snoc (x := [x]) hsl33 (fun _ => Nat.le_refl _)) | (rw [boxO_snoc, step_2 hxL2 (by assumption)]; exact hraw.snoc (x := [x]) hsl33 (fun _ => Nat.le_refl _)), rfl⟩
  ·skip
   refine XC.keep [4, 6, 7] rfl ?_
   obtain ⟨xL, hxL2⟩ : ∃ x, (boxO pre)[(boxO pre).length - 1]? = some x := ⟨_, List.getElem?_eq_getElem (by omega)⟩
   have hxL : (boxO pre)[rs.length - 1]? = some xL := by rw [hraw.1.1]; exact hxL2
   obtain ⟨aL, cL, hrL, hdL, hcL⟩ := hraw.get hxL
   have hwa := haccw.addr (by omega)
   subst hwa
   have hkQ := (hg _ (List.mem_of_getElem? hxL)).1
   obtain ⟨bQ, oQ, rfl⟩ := hdL.addr (by omega); obtain ⟨_, xQ, hxQ, ⟨axQ, cxQ, rfl, hdQ, hDQ⟩, hpQ⟩ := hdL.elem 0 (by omega); obtain rfl := hd_at hxQ
   have hoQ := (hg _ (List.mem_of_getElem? hxL)).2 _ (List.mem_of_getElem? hxQ)
   apply XC.drawH (fun _ => True) trivial [] (by decide) (fun _ _ _ _ => True) (fun _ _ _ _ _ _ h => h) 13 [eqF _, eqF _, eqF _, eqF _, eqF _, eqF _, eqF _, eqF _, eqF _, eqF _, eqF _, eqF _, eqF _] follows (by kernel_rfl) ⟨eqF_mono _, eqF_mono _, eqF_mono _, eqF_mono _, eqF_mono _, eqF_mono _, eqF_mono _, eqF_mono _, eqF_mono _, eqF_mono _, eqF_mono _, eqF_mono _, eqF_mono _, trivial⟩ (by decide) ?steps4 ?tail4
   case steps4 =>
    refine stepsH_cons rfl ?_ ?_
    ·intro X ext HD hleD _
     replace hs := hs.mono hleD; replace ht := ht.mono hleD; replace haccw := haccw.mono hleD; replace hraw := hraw.mono hleD; replace hx := hx.mono hleD; replace hdL := hdL.mono hleD; replace hpQ := hpQ.mono hleD; replace hdQ := hdQ.mono hleD; refine withP_nil rfl ?_; refine XO.move rfl rfl ?_; refine XO.nil ?_; exact stepQN_ok rfl trivial (rfl)
    refine stepsH_cons rfl ?_ ?_
    ·intro X ext HD hleD _
     replace hs := hs.mono hleD; replace ht := ht.mono hleD; replace haccw := haccw.mono hleD; replace hraw := hraw.mono hleD; replace hx := hx.mono hleD; replace hdL := hdL.mono hleD; replace hpQ := hpQ.mono hleD; replace hdQ := hdQ.mono hleD; refine withP_cons rfl rfl ?_; rintro _ rfl; refine withP_nil rfl ?_; refine XO.eql rfl rfl rfl ?_; refine XO.nil ?_; exact stepQN_ok rfl trivial (rfl)
    refine stepsH_cons rfl ?_ ?_
    ·intro X ext HD hleD _
     replace hs := hs.mono hleD; replace ht := ht.mono hleD; replace haccw := haccw.mono hleD; replace hraw := hraw.mono hleD; replace hx := hx.mono hleD; replace hdL := hdL.mono hleD; replace hpQ := hpQ.mono hleD; replace hdQ := hdQ.mono hleD; refine withP_cons rfl rfl ?_; rintro _ rfl; refine withP_nil rfl ?_; refine XO.move rfl rfl ?_; refine XO.nil ?_; exact stepQN_ok rfl trivial (rfl)
    refine stepsH_cons rfl ?_ ?_
    ·intro X ext HD hleD _
     replace hs := hs.mono hleD; replace ht := ht.mono hleD; replace haccw := haccw.mono hleD; replace hraw := hraw.mono hleD; replace hx := hx.mono hleD; replace hdL := hdL.mono hleD; replace hpQ := hpQ.mono hleD; replace hdQ := hdQ.mono hleD; refine withP_cons rfl rfl ?_; rintro _ rfl; refine withP_nil rfl ?_; refine XO.guardT rfl rfl (decide_eq_false (by omega)) rfl ?_; refine XO.loadO 2 rfl rfl ty_22 rfl rfl rfl ?_; refine XO.nil ?_; exact stepQN_ok rfl trivial (rfl)
    refine stepsH_cons rfl ?_ ?_
    ·intro X ext HD hleD _
     replace hs := hs.mono hleD; replace ht := ht.mono hleD; replace haccw := haccw.mono hleD; replace hraw := hraw.mono hleD; replace hx := hx.mono hleD; replace hdL := hdL.mono hleD; replace hpQ := hpQ.mono hleD; replace hdQ := hdQ.mono hleD; refine withP_cons rfl rfl ?_; rintro _ rfl; refine withP_nil rfl ?_; refine XO.guardT rfl rfl (decide_eq_false (by omega)) rfl ?_; refine XO.move rfl rfl ?_; refine XO.nil ?_; exact stepQN_ok rfl trivial (rfl)
    refine stepsH_cons rfl ?_ ?_
    ·intro X ext HD hleD _
     replace hs := hs.mono hleD; replace ht := ht.mono hleD; replace haccw := haccw.mono hleD; replace hraw := hraw.mono hleD; replace hx := hx.mono hleD; replace hdL := hdL.mono hleD; replace hpQ := hpQ.mono hleD; replace hdQ := hdQ.mono hleD; refine withP_cons rfl rfl ?_; rintro _ rfl; refine withP_cons rfl rfl ?_; rintro _ rfl; refine withP_nil rfl ?_; refine XO.guardT rfl rfl (decide_eq_false (by omega)) rfl ?_; refine XO.sub (c := ((rs.length - 1 : Nat) : Int)) rfl rfl ((wrap_i64 (by omega) (by omega)).trans (by omega)) rfl ?_; refine XO.nil ?_; exact stepQN_ok rfl trivial (rfl)
    refine stepsH_cons rfl ?_ ?_
    ·intro X ext HD hleD _
     replace hs := hs.mono hleD; replace ht := ht.mono hleD; replace haccw := haccw.mono hleD; replace hraw := hraw.mono hleD; replace hx := hx.mono hleD; replace hdL := hdL.mono hleD; replace hpQ := hpQ.mono hleD; replace hdQ := hdQ.mono hleD; refine withP_cons rfl rfl ?_; rintro _ rfl; refine withP_cons rfl rfl ?_; rintro _ rfl; refine withP_cons rfl rfl ?_; rintro _ rfl; refine withP_nil rfl ?_; refine XO.guardT rfl rfl (decide_eq_false (by omega)) rfl ?_; refine XO.indexE rfl rfl Try.underlying22 ty_50 (by omega) (by omega) rfl ?_; refine XO.nil ?_; exact stepQN_ok rfl trivial (rfl)
    refine stepsH_cons rfl ?_ ?_
    ·intro X ext HD hleD _
     replace hs := hs.mono hleD; replace ht := ht.mono hleD; replace haccw := haccw.mono hleD; replace hraw := hraw.mono hleD; replace hx := hx.mono hleD; replace hdL := hdL.mono hleD; replace hpQ := hpQ.mono hleD; replace hdQ := hdQ.mono hleD; refine withP_cons rfl rfl ?_; rintro _ rfl; refine withP_cons rfl rfl ?_; rintro _ rfl; refine withP_nil rfl ?_; refine XO.guardT rfl rfl (decide_eq_false (by omega)) rfl ?_; refine XO.fieldAddr rfl fa_50_0 rfl ?_; refine XO.nil ?_; exact stepQN_ok rfl trivial (rfl)
    refine stepsH_cons rfl ?_ ?_
    ·intro X ext HD hleD _
     replace hs := hs.mono hleD; replace ht := ht.mono hleD; replace haccw := haccw.mono hleD; replace hraw := hraw.mono hleD; replace hx := hx.mono hleD; replace hdL := hdL.mono hleD; replace hpQ := hpQ.mono hleD; replace hdQ := hdQ.mono hleD; refine withP_cons rfl rfl ?_; rintro _ rfl; refine withP_cons rfl rfl ?_; rintro _ rfl; refine withP_nil rfl ?_; refine XO.guardT rfl rfl (decide_eq_false (by omega)) rfl ?_; refine XO.loadA 1 (k := rs.length - 1) (u := (some ⟨bQ, oQ, none⟩, xL.length, cL)) rfl rfl haccw hrL ty_31 rfl (fun csZ vZ hRZ hvZ => ?_) (fun csZ hRZ => ⟨_, by cases hRZ; rfl⟩)
     cases hRZ
     obtain rfl : Value.slice (some ⟨bQ, oQ, none⟩) xL.length cL = vZ := Option.some.inj hvZ; refine XO.nil ?_; exact stepQN_ok rfl trivial (rfl)
    refine stepsH_cons rfl ?_ ?_
    ·intro X ext HD hleD _
     replace hs := hs.mono hleD; replace ht := ht.mono hleD; replace haccw := haccw.mono hleD; replace hraw := hraw.mono hleD; replace hx := hx.mono hleD; replace hdL := hdL.mono hleD; replace hpQ := hpQ.mono hleD; replace hdQ := hdQ.mono hleD; refine withP_cons rfl rfl ?_; rintro _ rfl; refine withP_cons rfl rfl ?_; rintro _ rfl; refine withP_nil rfl ?_; refine XO.guardT rfl rfl (decide_eq_false (by omega)) rfl ?_; refine XO.indexE rfl rfl Try.underlying31 ty_27 (by omega) (by omega) rfl ?_; refine XO.nil ?_; exact stepQN_ok rfl trivial (rfl)
    refine stepsH_cons rfl ?_ ?_
    ·intro X ext HD hleD _
     replace hs := hs.mono hleD; replace ht := ht.mono hleD; replace haccw := haccw.mono hleD; replace hraw := hraw.mono hleD; replace hx := hx.mono hleD; replace hdL := hdL.mono hleD; replace hpQ := hpQ.mono hleD; replace hdQ := hdQ.mono hleD; refine withP_cons rfl rfl ?_; rintro _ rfl; refine withP_cons rfl rfl ?_; rintro _ rfl; refine withP_nil rfl ?_; refine XO.guardT rfl rfl (decide_eq_false (by omega)) rfl ?_; refine XO.loadH rfl (by assumption) ty_27 rfl rfl rfl ?_; refine XO.nil ?_; exact stepQN_ok rfl trivial (rfl)
    refine stepsH_cons rfl ?_ ?_
    ·intro X ext HD hleD _
     replace hs := hs.mono hleD; replace ht := ht.mono hleD; replace haccw := haccw.mono hleD; replace hraw := hraw.mono hleD; replace hx := hx.mono hleD; replace hdL := hdL.mono hleD; replace hpQ := hpQ.mono hleD; replace hdQ := hdQ.mono hleD; refine withP_cons rfl rfl ?_; rintro _ rfl; refine withP_cons rfl rfl ?_; rintro _ rfl; refine withP_nil rfl ?_; refine XO.guardT rfl rfl (decide_eq_false (by omega)) rfl ?_; refine XO.callV rfl (at_fn (hd xL) _ _ _ hdQ hDQ) rfl ?_; refine XO.nil ?_; exact stepQN_ok rfl trivial (rfl)
    refine stepsH_cons rfl ?_ ?_
    ·intro X ext HD hleD _
     replace hs := hs.mono hleD; replace ht := ht.mono hleD; replace haccw := haccw.mono hleD; replace hraw := hraw.mono hleD; replace hx := hx.mono hleD; replace hdL := hdL.mono hleD; replace hpQ := hpQ.mono hleD; replace hdQ := hdQ.mono hleD; refine withP_cons rfl rfl ?_; rintro _ rfl; refine withP_nil rfl ?_; refine XO.guardT rfl rfl (decide_eq_false (by omega)) rfl ?_; refine XO.loadO 0 rfl rfl ty_27 rfl rfl rfl ?_; refine XO.nil ?_; exact stepQN_ok rfl trivial (rfl)
    exact stepsH_end rfl
   case tail4 =>
    intro HD hleD _
    replace hs := hs.mono hleD; replace ht := ht.mono hleD; replace haccw := haccw.mono hleD; replace hraw := hraw.mono hleD; replace hx := hx.mono hleD; replace hdL := hdL.mono hleD; replace hpQ := hpQ.mono hleD; replace hdQ := hdQ.mono hleD; refine withP_cons rfl rfl ?_; rintro _ rfl; refine withP_cons rfl rfl ?_; rintro _ rfl; refine withP_cons rfl rfl ?_; rintro _ rfl; refine withP_cons rfl rfl ?_; rintro _ rfl; refine withP_cons rfl rfl ?_; rintro _ rfl; refine withP_cons rfl rfl ?_; rintro _ rfl; refine withP_cons rfl rfl ?_; rintro _ rfl; refine withP_cons rfl rfl ?_; rintro _ rfl; refine withP_cons rfl rfl ?_; rintro _ rfl; refine withP_cons rfl rfl ?_; rintro _ rfl; refine withP_cons rfl rfl ?_; rintro _ rfl; refine withP_cons rfl rfl ?_; rintro _ rfl; refine withP_cons rfl rfl ?_; rintro _ rfl; refine withP_nil rfl ?_; refine withEnts_nil ?_; refine XO.guardT rfl rfl (decide_eq_false (by omega)) rfl ?_; refine XO.callV rfl (at_fn x _ _ _ hx hD) rfl ?_; refine XO.guardT rfl rfl (decide_eq_false (by omega)) rfl ?_; refine XO.neqAr (l := plcL (hd xL)) (m := plcL x) rfl rfl rfl rfl rfl rfl Try.underlying55 eg_55 Try.underlying3 ty_3 rfl ?_; refine XO.pickF rfl (decide_eq_false (by omega)) rfl rfl ?_; refine XO.nil ?_; refine XC.seq2 ?_; refine XC.cond rfl (fun c0_11 => ?_) (fun c0_11 => ?_)
    ·refine XC.seq ?_; refine XC.region ?_; refine XO.loadO 2 rfl rfl ty_22 rfl rfl rfl ?_; refine XO.loadO 0 rfl rfl ty_27 rfl rfl rfl ?_; refine XO.buildSlice rfl Try.underlying31 ty_27 ze_27 rfl rfl rfl (fun b33 => ?_); refine XO.publish 0 rfl rfl rfl (fun HP33 oP33 hleP33 hbP33 hoP33 => ?_); replace hs := hs.mono hleP33; replace ht := ht.mono hleP33; replace haccw := haccw.mono hleP33; replace hraw := hraw.mono hleP33; replace hx := hx.mono hleP33; replace hdL := hdL.mono hleP33; replace hpQ := hpQ.mono hleP33; replace hdQ := hdQ.mono hleP33
     have hsl33 := SlR.lit (ρ := cardR) (l := [x]) hbP33 hoP33 (RowsR.one1 ⟨_, _, rfl, hx, hD⟩)
     refine XO.build bk_50 bf_50 ze_50 rfl rfl rfl ?_; refine XO.buildSlice rfl Try.underlying22 ty_50 ze_50 rfl rfl rfl (fun b35 => ?_); refine XO.publish 0 rfl rfl rfl (fun HP35 oP35 hleP35 hbP35 hoP35 => ?_); replace hs := hs.mono hleP35; replace ht := ht.mono hleP35; replace haccw := haccw.mono hleP35; replace hraw := hraw.mono hleP35; replace hx := hx.mono hleP35; replace hdL := hdL.mono hleP35; replace hpQ := hpQ.mono hleP35; replace hdQ := hdQ.mono hleP35; replace hsl33 := hsl33.mono hleP35
     have hsl35 := SlR.lit (ρ := rawR) (l := [((some ⟨b33, 0, none⟩ : Option Addr), 1, 1)]) hbP35 hoP35 (RowsR.one1 rfl)
     refine XO.appendA 1 rfl rfl haccw rfl rfl hsl35 rfl Try.underlying22 ty_50 ze_50 rfl by_50 (by simp; omega) rfl (fun p36 a36 c36 hacc36 => ?_); refine XO.storeO 2 rfl rfl rfl rfl ty_22 rfl rfl rfl rfl rfl ?_; refine XO.nil ?_; refine XC.seq2 ?_; refine XC.exit ?_; refine seqX_exit ?_; refine blockHit rfl ?_; refine ⟨rfl, (p36 :: (b4, .cells 22 [.slice a36 (rs ++ [((some ⟨b33, 0, none⟩ : Option Addr), 1, 1)]).length c36]) :: rest), (by repeat (first | exact List.Sublist.refl _ | apply List.Sublist.cons)), ?_⟩
     exact ⟨_, rfl, p36, a36, c36, rs ++ [((some ⟨b33, 0, none⟩ : Option Addr), 1, 1)], _, rfl, hacc36, by first | (rw [boxO_snoc, step_1 (by omega)]; exact hraw.snoc (x := [x]) hsl33 (fun _ => Nat.le_refl _)) | (rw [boxO_snoc, step_2 hxL2 (by assumption)]; exact hraw.snoc (x := [x]) hsl33 (fun _ => Nat.le_refl _)), rfl⟩
    ·refine XC.skip ?_; refine XC.seq2 ?_; refine XC.seq ?_; refine XC.region ?_; refine XO.loadO 2 rfl rfl ty_22 rfl rfl rfl ?_; refine XO.move rfl rfl ?_; refine XO.sub (c := ((rs.length - 1 : Nat) : Int)) rfl rfl ((wrap_i64 (by omega) (by omega)).trans (by omega)) rfl ?_; refine XO.indexE rfl rfl Try.underlying22 ty_50 (by omega) (by omega) rfl ?_; refine XO.fieldAddr rfl fa_50_0 rfl ?_; refine XO.loadA 1 (k := rs.length - 1) (u := (some ⟨bQ, oQ, none⟩, xL.length, cL)) rfl rfl haccw hrL ty_31 rfl (fun csZ vZ hRZ hvZ => ?_) (fun csZ hRZ => ⟨_, by cases hRZ; rfl⟩)
     cases hRZ
     obtain rfl : Value.slice (some ⟨bQ, oQ, none⟩) xL.length cL = vZ := Option.some.inj hvZ; refine XO.assign rfl rfl ?_; refine XO.nil ?_; refine XC.seq2 ?_; refine XC.seq ?_
     by_cases h2 : xL.length < 2
     ·skip
      refine XC.keep [4, 6, 7, 8] rfl ?_
      apply XC.drawH (fun _ => True) trivial [] (by decide) (fun _ _ _ _ => True) (fun _ _ _ _ _ _ h => h) 11 [eqF _, eqF _, eqF _, eqF _, eqF _, eqF _, eqF _, eqF _, eqF _, eqF _, eqF _] follows (by kernel_rfl) ⟨eqF_mono _, eqF_mono _, eqF_mono _, eqF_mono _, eqF_mono _, eqF_mono _, eqF_mono _, eqF_mono _, eqF_mono _, eqF_mono _, eqF_mono _, trivial⟩ (by decide) ?steps15 ?tail15
      case steps15 =>
       refine stepsH_cons rfl ?_ ?_
       ·intro X ext HD hleD _
        replace hs := hs.mono hleD; replace ht := ht.mono hleD; replace haccw := haccw.mono hleD; replace hraw := hraw.mono hleD; replace hx := hx.mono hleD; replace hdL := hdL.mono hleD; replace hpQ := hpQ.mono hleD; replace hdQ := hdQ.mono hleD; refine withP_nil rfl ?_; refine XO.move rfl rfl ?_; refine XO.nil ?_; exact stepQN_ok rfl trivial (rfl)
       refine stepsH_cons rfl ?_ ?_
       ·intro X ext HD hleD _
        replace hs := hs.mono hleD; replace ht := ht.mono hleD; replace haccw := haccw.mono hleD; replace hraw := hraw.mono hleD; replace hx := hx.mono hleD; replace hdL := hdL.mono hleD; replace hpQ := hpQ.mono hleD; replace hdQ := hdQ.mono hleD; refine withP_cons rfl rfl ?_; rintro _ rfl; refine withP_nil rfl ?_; refine XO.lenS (ts := #[]) rfl Try.underlying31 rfl ?_; refine XO.nil ?_; exact stepQN_ok rfl trivial (rfl)
       refine stepsH_cons rfl ?_ ?_
       ·intro X ext HD hleD _
        replace hs := hs.mono hleD; replace ht := ht.mono hleD; replace haccw := haccw.mono hleD; replace hraw := hraw.mono hleD; replace hx := hx.mono hleD; replace hdL := hdL.mono hleD; replace hpQ := hpQ.mono hleD; replace hdQ := hdQ.mono hleD; refine withP_cons rfl rfl ?_; rintro _ rfl; refine withP_nil rfl ?_; refine XO.lss rfl rfl rfl ?_; refine XO.nil ?_; exact stepQN_ok rfl trivial (rfl)
       refine stepsH_cons rfl ?_ ?_
       ·intro X ext HD hleD _
        replace hs := hs.mono hleD; replace ht := ht.mono hleD; replace haccw := haccw.mono hleD; replace hraw := hraw.mono hleD; replace hx := hx.mono hleD; replace hdL := hdL.mono hleD; replace hpQ := hpQ.mono hleD; replace hdQ := hdQ.mono hleD; refine withP_cons rfl rfl ?_; rintro _ rfl; refine withP_nil rfl ?_; refine XO.move rfl rfl ?_; refine XO.nil ?_; exact stepQN_ok rfl trivial (rfl)
       refine stepsH_cons rfl ?_ ?_
       ·intro X ext HD hleD _
        replace hs := hs.mono hleD; replace ht := ht.mono hleD; replace haccw := haccw.mono hleD; replace hraw := hraw.mono hleD; replace hx := hx.mono hleD; replace hdL := hdL.mono hleD; replace hpQ := hpQ.mono hleD; replace hdQ := hdQ.mono hleD; refine withP_cons rfl rfl ?_; rintro _ rfl; refine withP_nil rfl ?_; refine XO.guardT rfl rfl (decide_eq_true (by omega)) rfl ?_; refine XO.move rfl rfl ?_; refine XO.nil ?_; exact stepQN_ok rfl trivial (rfl)
       refine stepsH_cons rfl ?_ ?_
       ·intro X ext HD hleD _
        replace hs := hs.mono hleD; replace ht := ht.mono hleD; replace haccw := haccw.mono hleD; replace hraw := hraw.mono hleD; replace hx := hx.mono hleD; replace hdL := hdL.mono hleD; replace hpQ := hpQ.mono hleD; replace hdQ := hdQ.mono hleD; refine withP_cons rfl rfl ?_; rintro _ rfl; refine withP_nil rfl ?_; refine XO.guardT rfl rfl (decide_eq_true (by omega)) rfl ?_; refine XO.move rfl rfl ?_; refine XO.nil ?_; exact stepQN_ok rfl trivial (rfl)
       refine stepsH_cons rfl ?_ ?_
       ·intro X ext HD hleD _
        replace hs := hs.mono hleD; replace ht := ht.mono hleD; replace haccw := haccw.mono hleD; replace hraw := hraw.mono hleD; replace hx := hx.mono hleD; replace hdL := hdL.mono hleD; replace hpQ := hpQ.mono hleD; replace hdQ := hdQ.mono hleD; refine withP_cons rfl rfl ?_; rintro _ rfl; refine withP_cons rfl rfl ?_; rintro _ rfl; refine withP_nil rfl ?_; refine XO.guardT rfl rfl (decide_eq_true (by omega)) rfl ?_; refine XO.lenS (ts := #[]) rfl Try.underlying31 rfl ?_; refine XO.nil ?_; exact stepQN_ok rfl trivial (rfl)
       refine stepsH_cons rfl ?_ ?_
       ·intro X ext HD hleD _
        replace hs := hs.mono hleD; replace ht := ht.mono hleD; replace haccw := haccw.mono hleD; replace hraw := hraw.mono hleD; replace hx := hx.mono hleD; replace hdL := hdL.mono hleD; replace hpQ := hpQ.mono hleD; replace hdQ := hdQ.mono hleD; refine withP_cons rfl rfl ?_; rintro _ rfl; refine withP_cons rfl rfl ?_; rintro _ rfl; refine withP_nil rfl ?_; refine XO.guardT rfl rfl (decide_eq_true (by omega)) rfl ?_; refine XO.sub (c := 0) rfl rfl ((wrap_i64 (by omega) (by omega)).trans (by omega)) rfl ?_; refine XO.nil ?_; exact stepQN_ok rfl trivial (rfl)
       refine stepsH_cons rfl ?_ ?_
       ·intro X ext HD hleD _
        replace hs := hs.mono hleD; replace ht := ht.mono hleD; replace haccw := haccw.mono hleD; replace hraw := hraw.mono hleD; replace hx := hx.mono hleD; replace hdL := hdL.mono hleD; replace hpQ := hpQ.mono hleD; replace hdQ := hdQ.mono hleD; refine withP_cons rfl rfl ?_; rintro _ rfl; refine withP_cons rfl rfl ?_; rintro _ rfl; refine withP_cons rfl rfl ?_; rintro _ rfl; refine withP_nil rfl ?_; refine XO.guardT rfl rfl (decide_eq_true (by omega)) rfl ?_; refine XO.indexE rfl rfl Try.underlying31 ty_27 (by omega) (by omega) rfl ?_; refine XO.nil ?_; exact stepQN_ok rfl trivial (rfl)
       refine stepsH_cons rfl ?_ ?_
       ·intro X ext HD hleD _
        replace hs := hs.mono hleD; replace ht := ht.mono hleD; replace haccw := haccw.mono hleD; replace hraw := hraw.mono hleD; replace hx := hx.mono hleD; replace hdL := hdL.mono hleD; replace hpQ := hpQ.mono hleD; replace hdQ := hdQ.mono hleD; refine withP_cons rfl rfl ?_; rintro _ rfl; refine withP_cons rfl rfl ?_; rintro _ rfl; refine withP_nil rfl ?_; refine XO.guardT rfl rfl (decide_eq_true (by omega)) rfl ?_; refine XO.loadH rfl (by assumption) ty_27 rfl rfl rfl ?_; refine XO.nil ?_; exact stepQN_ok rfl trivial (rfl)
       refine stepsH_cons rfl ?_ ?_
       ·intro X ext HD hleD _
        replace hs := hs.mono hleD; replace ht := ht.mono hleD; replace haccw := haccw.mono hleD; replace hraw := hraw.mono hleD; replace hx := hx.mono hleD; replace hdL := hdL.mono hleD; replace hpQ := hpQ.mono hleD; replace hdQ := hdQ.mono hleD; refine withP_cons rfl rfl ?_; rintro _ rfl; refine withP_nil rfl ?_; refine XO.guardT rfl rfl (decide_eq_true (by omega)) rfl ?_; refine XO.loadO 0 rfl rfl ty_27 rfl rfl rfl ?_; refine XO.nil ?_; exact stepQN_ok rfl trivial (rfl)
       exact stepsH_end rfl
      case tail15 =>
       intro HD hleD _
       replace hs := hs.mono hleD; replace ht := ht.mono hleD; replace haccw := haccw.mono hleD; replace hraw := hraw.mono hleD; replace hx := hx.mono hleD; replace hdL := hdL.mono hleD; replace hpQ := hpQ.mono hleD; replace hdQ := hdQ.mono hleD; refine withP_cons rfl rfl ?_; rintro _ rfl; refine withP_cons rfl rfl ?_; rintro _ rfl; refine withP_cons rfl rfl ?_; rintro _ rfl; refine withP_cons rfl rfl ?_; rintro _ rfl; refine withP_cons rfl rfl ?_; rintro _ rfl; refine withP_cons rfl rfl ?_; rintro _ rfl; refine withP_cons rfl rfl ?_; rintro _ rfl; refine withP_cons rfl rfl ?_; rintro _ rfl; refine withP_cons rfl rfl ?_; rintro _ rfl; refine withP_cons rfl rfl ?_; rintro _ rfl; refine withP_cons rfl rfl ?_; rintro _ rfl; refine withP_nil rfl ?_; refine withEnts_nil ?_; refine XO.guardT rfl rfl (decide_eq_true (by omega)) rfl ?_; refine XO.callH rfl (order_fn (hd xL) x _ _ _ _ _ hdQ hx hDQ hD hoQ hokx) rfl ?_; rintro _ HN54 hleN54 rfl; replace hs := hs.mono hleN54; replace ht := ht.mono hleN54; replace haccw := haccw.mono hleN54; replace hraw := hraw.mono hleN54; replace hx := hx.mono hleN54; replace hdL := hdL.mono hleN54; replace hpQ := hpQ.mono hleN54; replace hdQ := hdQ.mono hleN54; refine XO.guardT rfl rfl (decide_eq_true (by omega)) rfl ?_; refine XO.lss rfl rfl rfl ?_; refine XO.pickT rfl (decide_eq_true (by omega)) rfl rfl ?_; refine XO.nil ?_; refine XC.seq2 ?_; refine XC.cond rfl (fun c1_19 => ?_) (fun c1_19 => ?_)
       ·refine XC.keep [4, 6, 7, 8] rfl ?_
        apply XC.drawG (fun _ => True) trivial 7 [eqF _, eqF _, eqF _, eqF _, eqF _, slF cardR [x], slG cardR (xL ++ [x])] follows (by kernel_rfl) (by kernel_rfl) ⟨eqF_mono _, eqF_mono _, eqF_mono _, eqF_mono _, eqF_mono _, slF_mono _ _, slG_mono _ _, trivial⟩ ?steps20 ?tail20
        case steps20 =>
         refine stepsD_cons rfl ?_ ?_
         ·intro X HD hleD _
          replace hs := hs.mono hleD; replace ht := ht.mono hleD; replace haccw := haccw.mono hleD; replace hraw := hraw.mono hleD; replace hx := hx.mono hleD; replace hdL := hdL.mono hleD; replace hpQ := hpQ.mono hleD; replace hdQ := hdQ.mono hleD; refine withPreds_nil rfl ?_; refine XO.loadO 2 rfl rfl ty_22 rfl rfl rfl ?_; refine XO.nil ?_
          exact stepQ_ok trivial (rfl)
         refine stepsD_cons rfl ?_ ?_
         ·intro X HD hleD _
          replace hs := hs.mono hleD; replace ht := ht.mono hleD; replace haccw := haccw.mono hleD; replace hraw := hraw.mono hleD; replace hx := hx.mono hleD; replace hdL := hdL.mono hleD; replace hpQ := hpQ.mono hleD; replace hdQ := hdQ.mono hleD; refine withPreds_nil rfl ?_; refine XO.move rfl rfl ?_; refine XO.nil ?_
          exact stepQ_ok trivial (rfl)
         refine stepsD_cons rfl ?_ ?_
         ·intro X HD hleD _
          replace hs := hs.mono hleD; replace ht := ht.mono hleD; replace haccw := haccw.mono hleD; replace hraw := hraw.mono hleD; replace hx := hx.mono hleD; replace hdL := hdL.mono hleD; replace hpQ := hpQ.mono hleD; replace hdQ := hdQ.mono hleD; refine withPreds_cons rfl rfl ?_; rintro _ rfl; refine withPreds_nil rfl ?_; refine XO.sub (c := ((rs.length - 1 : Nat) : Int)) rfl rfl ((wrap_i64 (by omega) (by omega)).trans (by omega)) rfl ?_; refine XO.nil ?_
          exact stepQ_ok trivial (rfl)
         refine stepsD_cons rfl ?_ ?_
         ·intro X HD hleD _
          replace hs := hs.mono hleD; replace ht := ht.mono hleD; replace haccw := haccw.mono hleD; replace hraw := hraw.mono hleD; replace hx := hx.mono hleD; replace hdL := hdL.mono hleD; replace hpQ := hpQ.mono hleD; replace hdQ := hdQ.mono hleD; refine withPreds_nil rfl ?_; refine XO.move rfl rfl ?_; refine XO.nil ?_
          exact stepQ_ok trivial (rfl)
         refine stepsD_cons rfl ?_ ?_
         ·intro X HD hleD _
          replace hs := hs.mono hleD; replace ht := ht.mono hleD; replace haccw := haccw.mono hleD; replace hraw := hraw.mono hleD; replace hx := hx.mono hleD; replace hdL := hdL.mono hleD; replace hpQ := hpQ.mono hleD; replace hdQ := hdQ.mono hleD; refine withPreds_nil rfl ?_; refine XO.loadO 0 rfl rfl ty_27 rfl rfl rfl ?_; refine XO.nil ?_
          exact stepQ_ok trivial (rfl)
         refine stepsD_cons rfl ?_ ?_
         ·intro X HD hleD _
          replace hs := hs.mono hleD; replace ht := ht.mono hleD; replace haccw := haccw.mono hleD; replace hraw := hraw.mono hleD; replace hx := hx.mono hleD; replace hdL := hdL.mono hleD; replace hpQ := hpQ.mono hleD; replace hdQ := hdQ.mono hleD; refine withPreds_cons rfl rfl ?_; rintro _ rfl; refine withPreds_nil rfl ?_; refine XO.buildSlice rfl Try.underlying31 ty_27 ze_27 rfl rfl rfl (fun b62 => ?_); refine XO.publish 0 rfl rfl rfl (fun HP62 oP62 hleP62 hbP62 hoP62 => ?_); replace hs := hs.mono hleP62; replace ht := ht.mono hleP62; replace haccw := haccw.mono hleP62; replace hraw := hraw.mono hleP62; replace hx := hx.mono hleP62; replace hdL := hdL.mono hleP62; replace hpQ := hpQ.mono hleP62; replace hdQ := hdQ.mono hleP62
          have hsl62 := SlR.lit (ρ := cardR) (l := [x]) hbP62 hoP62 (RowsR.one1 ⟨_, _, rfl, hx, hD⟩)
          refine XO.nil ?_
          exact stepQ_ok trivial (⟨_, rfl, hsl62⟩)
         refine stepsD_cons rfl ?_ ?_
         ·intro X HD hleD _
          replace hs := hs.mono hleD; replace ht := ht.mono hleD; replace haccw := haccw.mono hleD; replace hraw := hraw.mono hleD; replace hx := hx.mono hleD; replace hdL := hdL.mono hleD; replace hpQ := hpQ.mono hleD; replace hdQ := hdQ.mono hleD; refine withPreds_cons rfl rfl ?_; rintro _ rfl; refine withPreds_cons rfl rfl ?_; rintro _ ⟨bs62, rfl, hsl62⟩; refine withPreds_nil rfl ?_; refine XO.appendP rfl hdL rfl rfl hsl62 rfl (by exact hcL (by omega)) Try.underlying31 ty_27 ze_27 rfl by_27 (by simp; omega) rfl (fun HA63 aA63 cA63 hleA63 hsA63 => ?_); replace hs := hs.mono hleA63; replace ht := ht.mono hleA63; replace haccw := haccw.mono hleA63; replace hraw := hraw.mono hleA63; replace hx := hx.mono hleA63; replace hdL := hdL.mono hleA63; replace hpQ := hpQ.mono hleA63; replace hdQ := hdQ.mono hleA63; replace hsl62 := hsl62.mono hleA63; refine XO.nil ?_
          exact stepQ_ok trivial (⟨_, _, rfl, hsA63⟩)
         exact stepsD_end rfl
        case tail20 =>
         intro HD hleD _
         replace hs := hs.mono hleD; replace ht := ht.mono hleD; replace haccw := haccw.mono hleD; replace hraw := hraw.mono hleD; replace hx := hx.mono hleD; replace hdL := hdL.mono hleD; replace hpQ := hpQ.mono hleD; replace hdQ := hdQ.mono hleD; refine withPreds_cons rfl rfl ?_; rintro _ rfl; refine withPreds_cons rfl rfl ?_; rintro _ rfl; refine withPreds_cons rfl rfl ?_; rintro _ rfl; refine withPreds_cons rfl rfl ?_; rintro _ rfl; refine withPreds_cons rfl rfl ?_; rintro _ rfl; refine withPreds_cons rfl rfl ?_; rintro _ ⟨bs62, rfl, hsl62⟩; refine withPreds_cons rfl rfl ?_; rintro _ ⟨a63, c63, rfl, hsl63⟩; refine withPreds_nil rfl ?_; refine XO.indexE rfl rfl Try.underlying22 ty_50 (by omega) (by omega) rfl ?_; refine XO.fieldAddr rfl fa_50_0 rfl ?_; refine XO.storeA 1 (k := rs.length - 1) (u := (a63, (xL ++ [x]).length, c63)) rfl rfl rfl haccw (by omega) rfl rfl ty_31 rfl (fun pS haccS => ?_); refine XO.nil ?_; refine blockN ?_; refine ⟨rfl, (pS :: (b4, .cells 22 [.slice (some ⟨pw.1, 0, none⟩) rs.length cw]) :: rest), (by repeat (first | exact List.Sublist.refl _ | apply List.Sublist.cons)), ?_⟩
         exact ⟨_, rfl, pS, _, cw, rs.set (rs.length - 1) (a63, (xL ++ [x]).length, c63), rs.length, rfl, haccS, by rw [boxO_snoc, step_5 hxL2 (Decidable.not_not.1 (by assumption)) ⟨h2, by assumption⟩, ← hraw.1.1]; exact hraw.set (by omega) hsl63 (fun h => by simp only [List.length_append, List.length_singleton] at h; omega), by rw [List.length_set]⟩
       ·refine XC.skip ?_; refine blockN ?_; refine ⟨rfl, (pw :: (b4, .cells 22 [.slice (some ⟨pw.1, 0, none⟩) rs.length cw]) :: rest), (by repeat (first | exact List.Sublist.refl _ | apply List.Sublist.cons)), ?_⟩
        exact ⟨_, rfl, pw, _, cw, rs, _, rfl, haccw, by rw [boxO_snoc, step_3 hxL2 (Decidable.not_not.1 (by assumption)) (fun h => by first | exact absurd h.2 (by assumption) | exact absurd h.1 (by assumption))]; exact hraw, rfl⟩
     ·skip
      refine XC.keep [4, 6, 7, 8] rfl ?_
      apply XC.drawH (fun _ => True) trivial [] (by decide) (fun _ _ _ _ => True) (fun _ _ _ _ _ _ h => h) 11 [eqF _, eqF _, eqF _, eqF _, eqF _, eqF _, eqF _, eqF _, eqF _, eqF _, eqF _] follows (by kernel_rfl) ⟨eqF_mono _, eqF_mono _, eqF_mono _, eqF_mono _, eqF_mono _, eqF_mono _, eqF_mono _, eqF_mono _, eqF_mono _, eqF_mono _, eqF_mono _, trivial⟩ (by decide) ?steps24 ?tail24
      case steps24 =>
       refine stepsH_cons rfl ?_ ?_
       ·intro X ext HD hleD _
        replace hs := hs.mono hleD; replace ht := ht.mono hleD; replace haccw := haccw.mono hleD; replace hraw := hraw.mono hleD; replace hx := hx.mono hleD; replace hdL := hdL.mono hleD; replace hpQ := hpQ.mono hleD; replace hdQ := hdQ.mono hleD; refine withP_nil rfl ?_; refine XO.move rfl rfl ?_; refine XO.nil ?_; exact stepQN_ok rfl trivial (rfl)
       refine stepsH_cons rfl ?_ ?_
       ·intro X ext HD hleD _
        replace hs := hs.mono hleD; replace ht := ht.mono hleD; replace haccw := haccw.mono hleD; replace hraw := hraw.mono hleD; replace hx := hx.mono hleD; replace hdL := hdL.mono hleD; replace hpQ := hpQ.mono hleD; replace hdQ := hdQ.mono hleD; refine withP_cons rfl rfl ?_; rintro _ rfl; refine withP_nil rfl ?_; refine XO.lenS (ts := #[]) rfl Try.underlying31 rfl ?_; refine XO.nil ?_; exact stepQN_ok rfl trivial (rfl)
       refine stepsH_cons rfl ?_ ?_
       ·intro X ext HD hleD _
        replace hs := hs.mono hleD; replace ht := ht.mono hleD; replace haccw := haccw.mono hleD; replace hraw := hraw.mono hleD; replace hx := hx.mono hleD; replace hdL := hdL.mono hleD; replace hpQ := hpQ.mono hleD; replace hdQ := hdQ.mono hleD; refine withP_cons rfl rfl ?_; rintro _ rfl; refine withP_nil rfl ?_; refine XO.lss rfl rfl rfl ?_; refine XO.nil ?_; exact stepQN_ok rfl trivial (rfl)
       refine stepsH_cons rfl ?_ ?_
       ·intro X ext HD hleD _
        replace hs := hs.mono hleD; replace ht := ht.mono hleD; replace haccw := haccw.mono hleD; replace hraw := hraw.mono hleD; replace hx := hx.mono hleD; replace hdL := hdL.mono hleD; replace hpQ := hpQ.mono hleD; replace hdQ := hdQ.mono hleD; refine withP_cons rfl rfl ?_; rintro _ rfl; refine withP_nil rfl ?_; refine XO.move rfl rfl ?_; refine XO.nil ?_; exact stepQN_ok rfl trivial (rfl)
       refine stepsH_cons rfl ?_ ?_
       ·intro X ext HD hleD _
        replace hs := hs.mono hleD; replace ht := ht.mono hleD; replace haccw := haccw.mono hleD; replace hraw := hraw.mono hleD; replace hx := hx.mono hleD; replace hdL := hdL.mono hleD; replace hpQ := hpQ.mono hleD; replace hdQ := hdQ.mono hleD; refine withP_cons rfl rfl ?_; rintro _ rfl; refine withP_nil rfl ?_; refine XO.guardF rfl rfl (decide_eq_false (by omega)) rfl rfl ?_; refine XO.nil ?_; exact stepQN_ok rfl trivial (rfl)
       refine stepsH_cons rfl ?_ ?_
       ·intro X ext HD hleD _
        replace hs := hs.mono hleD; replace ht := ht.mono hleD; replace haccw := haccw.mono hleD; replace hraw := hraw.mono hleD; replace hx := hx.mono hleD; replace hdL := hdL.mono hleD; replace hpQ := hpQ.mono hleD; replace hdQ := hdQ.mono hleD; refine withP_cons rfl rfl ?_; rintro _ rfl; refine withP_nil rfl ?_; refine XO.guardF rfl rfl (decide_eq_false (by omega)) rfl rfl ?_; refine XO.nil ?_; exact stepQN_ok rfl trivial (rfl)
       refine stepsH_cons rfl ?_ ?_
       ·intro X ext HD hleD _
        replace hs := hs.mono hleD; replace ht := ht.mono hleD; replace haccw := haccw.mono hleD; replace hraw := hraw.mono hleD; replace hx := hx.mono hleD; replace hdL := hdL.mono hleD; replace hpQ := hpQ.mono hleD; replace hdQ := hdQ.mono hleD; refine withP_cons rfl rfl ?_; rintro _ rfl; refine withP_cons rfl rfl ?_; rintro _ rfl; refine withP_nil rfl ?_; refine XO.guardF rfl rfl (decide_eq_false (by omega)) rfl rfl ?_; refine XO.nil ?_; exact stepQN_ok rfl trivial (rfl)
       refine stepsH_cons rfl ?_ ?_
       ·intro X ext HD hleD _
        replace hs := hs.mono hleD; replace ht := ht.mono hleD; replace haccw := haccw.mono hleD; replace hraw := hraw.mono hleD; replace hx := hx.mono hleD; replace hdL := hdL.mono hleD; replace hpQ := hpQ.mono hleD; replace hdQ := hdQ.mono hleD; refine withP_cons rfl rfl ?_; rintro _ rfl; refine withP_cons rfl rfl ?_; rintro _ rfl; refine withP_nil rfl ?_; refine XO.guardF rfl rfl (decide_eq_false (by omega)) rfl rfl ?_; refine XO.nil ?_; exact stepQN_ok rfl trivial (rfl)
       refine stepsH_cons rfl ?_ ?_
       ·intro X ext HD hleD _
        replace hs := hs.mono hleD; replace ht := ht.mono hleD; replace haccw := haccw.mono hleD; replace hraw := hraw.mono hleD; replace hx := hx.mono hleD; replace hdL := hdL.mono hleD; replace hpQ := hpQ.mono hleD; replace hdQ := hdQ.mono hleD; refine withP_cons rfl rfl ?_; rintro _ rfl; refine withP_cons rfl rfl ?_; rintro _ rfl; refine withP_cons rfl rfl ?_; rintro _ rfl; refine withP_nil rfl ?_; refine XO.guardF rfl rfl (decide_eq_false (by omega)) rfl rfl ?_; refine XO.nil ?_; exact stepQN_ok rfl trivial (rfl)
       refine stepsH_cons rfl ?_ ?_
       ·intro X ext HD hleD _
        replace hs := hs.mono hleD; replace ht := ht.mono hleD; replace haccw := haccw.mono hleD; replace hraw := hraw.mono hleD; replace hx := hx.mono hleD; replace hdL := hdL.mono hleD; replace hpQ := hpQ.mono hleD; replace hdQ := hdQ.mono hleD; refine withP_cons rfl rfl ?_; rintro _ rfl; refine withP_cons rfl rfl ?_; rintro _ rfl; refine withP_nil rfl ?_; refine XO.guardF rfl rfl (decide_eq_false (by omega)) rfl rfl ?_; refine XO.nil ?_; exact stepQN_ok rfl trivial (rfl)
       refine stepsH_cons rfl ?_ ?_
       ·intro X ext HD hleD _
        replace hs := hs.mono hleD; replace ht := ht.mono hleD; replace haccw := haccw.mono hleD; replace hraw := hraw.mono hleD; replace hx := hx.mono hleD; replace hdL := hdL.mono hleD; replace hpQ := hpQ.mono hleD; replace hdQ := hdQ.mono hleD; refine withP_cons rfl rfl ?_; rintro _ rfl; refine withP_nil rfl ?_; refine XO.guardF rfl rfl (decide_eq_false (by omega)) rfl rfl ?_; refine XO.nil ?_; exact stepQN_ok rfl trivial (rfl)
       exact stepsH_end rfl
      case tail24 =>
       intro HD hleD _
       replace hs := hs.mono hleD; replace ht := ht.mono hleD; replace haccw := haccw.mono hleD; replace hraw := hraw.mono hleD; replace hx := hx.mono hleD; replace hdL := hdL.mono hleD; replace hpQ := hpQ.mono hleD; replace hdQ := hdQ.mono hleD; refine withP_cons rfl rfl ?_; rintro _ rfl; refine withP_cons rfl rfl ?_; rintro _ rfl; refine withP_cons rfl rfl ?_; rintro _ rfl; refine withP_cons rfl rfl ?_; rintro _ rfl; refine withP_cons rfl rfl ?_; rintro _ rfl; refine withP_cons rfl rfl ?_; rintro _ rfl; refine withP_cons rfl rfl ?_; rintro _ rfl; refine withP_cons rfl rfl ?_; rintro _ rfl; refine withP_cons rfl rfl ?_; rintro _ rfl; refine withP_cons rfl rfl ?_; rintro _ rfl; refine withP_cons rfl rfl ?_; rintro _ rfl; refine withP_nil rfl ?_; refine withEnts_nil ?_; refine XO.guardF rfl rfl (decide_eq_false (by omega)) rfl rfl ?_; refine XO.guardF rfl rfl (decide_eq_false (by omega)) rfl rfl ?_; refine XO.pickF rfl (decide_eq_false (by omega)) rfl rfl ?_; refine XO.nil ?_; refine XC.seq2 ?_; refine XC.condF rfl (rfl) ?_; refine XC.skip ?_; refine blockN ?_; refine ⟨rfl, (pw :: (b4, .cells 22 [.slice (some ⟨pw.1, 0, none⟩) rs.length cw]) :: rest), (by repeat (first | exact List.Sublist.refl _ | apply List.Sublist.cons)), ?_⟩
       exact ⟨_, rfl, pw, _, cw, rs, _, rfl, haccw, by rw [boxO_snoc, step_3 hxL2 (Decidable.not_not.1 (by assumption)) (fun h => by first | exact absurd h.2 (by assumption) | exact absurd h.1 (by assumption))]; exact hraw, rfl⟩
 ·rintro Hl ownL hleL ⟨pw, aw, cw, rs, nw, rfl, haccw, hraw, rfl⟩
  have hrl : rs.length = (pmB l m).length := hraw.1.1
  replace hs := hs.mono hleL; replace ht := ht.mono hleL; refine blockN ?_; refine XC.seq2 ?_; refine XC.seq ?_; refine XC.seq ?_; refine XC.region ?_; refine XO.loadO 1 rfl rfl ty_22 rfl rfl rfl ?_; refine XO.lenS (ts := #[]) rfl Try.underlying22 rfl ?_; refine XO.gtr rfl rfl rfl ?_; refine XO.nil ?_; refine XC.seq2 ?_; refine XC.cond rfl (fun c2_25 => ?_) (fun c2_25 => ?_)
  ·refine XC.seq ?_; refine XC.region ?_; refine XO.storeO 1 rfl rfl rfl rfl ty_22 rfl rfl rfl rfl rfl ?_; refine XO.assign rfl rfl ?_; refine XO.nil ?_; refine XC.seq2 ?_; refine XC.ret ?_; refine seqX_ret ?_; refine ⟨rfl, _, [], (resC_cell 1 rfl rfl ty_22 rfl rfl (resC_tmp rfl resC_nil)), (by repeat (first | exact List.Sublist.refl _ | apply List.Sublist.cons)), RetR.mk ?_⟩
   first | exact BoxU.e (p_1 (by omega)) | exact BoxU.n (p_0 (by omega)) hrl hsQ
  ·refine XC.skip ?_; refine XC.seq2 ?_; refine XC.seq ?_; refine XC.region ?_
   have hacc2 := Acc.fromRaw haccw hraw.1
   refine XO.publishA 0 rfl hacc2 rfl (fun HQ hleQ hsQ => ?_); replace hs := hs.mono hleQ; replace ht := ht.mono hleQ; replace hraw := hraw.mono hleQ; refine XO.loadO 0 rfl rfl ty_22 rfl rfl rfl ?_; refine XO.storeO 0 rfl rfl rfl rfl ty_22 rfl rfl rfl rfl rfl ?_; refine XO.assign rfl rfl ?_; refine XO.nil ?_; refine XC.seq2 ?_; refine XC.ret ?_; refine ⟨rfl, _, [], (resC_cell 0 rfl rfl ty_22 rfl rfl (resC_tmp rfl resC_nil)), (by repeat (first | exact List.Sublist.refl _ | apply List.Sublist.cons)), RetR.mk ?_⟩
   first | exact BoxU.e (p_1 (by omega)) | exact BoxU.n (p_0 (by omega)) hrl hsQ
 ·rintro c Hl ownL hleL hK
  exact hK.elim

end Go.Proofs

/- The walks of the functions of boxes: what each of them computes, at any input. -/
set_option maxRecDepth 100000
set_option autoImplicit false
set_option linter.unusedVariables false
set_option linter.unusedSimpArgs false
namespace Go.Proofs
open Go.XL



theorem pput_b (l : Box) (s : Card) (a b : Option Addr) (c d : Nat) (H : Hp) (hs : SlR (slR cardR) H a c l) (ht : SlR (intR .i64) H b d s.C) (hD : s.D.length = 32) (hl : l.length < 9223372036854775808) (hlx : ∀ x ∈ l, x.length < 9223372036854775808) (hlc : ∀ x ∈ l, ∀ s ∈ x, s.C.length < 9223372036854775808) (hc : s.C.length < 9223372036854775808) : FnC Try.prog 11 #[.slice a l.length c, .agg ⟨cardV s.R s.E s.J s.C.length s.D b d⟩] H [] (RetR (fun v H2 _ => BoxU (pputX l s) (pputE l s) H2 v)) := by
 refine FnC.intro (args := [.slice a l.length c, .agg ⟨cardV s.R s.E s.J s.C.length s.D b d⟩]) Try.func11 rfl rfl Try.ntmps11 rfl rfl rfl fun G rest => ?_
 refine XC.seq ?_; refine XC.region ?_; refine XO.box rfl rfl rfl (fun b3 => ?_); refine XO.assign rfl rfl ?_; refine XO.assign rfl rfl ?_; refine XO.nil ?_; refine XC.seq2 ?_; refine XC.seq ?_; refine XC.seq ?_; refine XC.region ?_; refine XO.move rfl rfl ?_; refine XO.callV rfl (check_b _ _ l _ hs hl hlx hlc) rfl ?_; refine XO.assign rfl rfl ?_; refine XO.nil ?_; refine XC.seq2 ?_; refine XC.seq ?_; refine XC.region ?_; refine XO.move rfl rfl ?_; refine XO.neq rfl rfl rfl ?_; refine XO.nil ?_; refine XC.seq2 ?_; refine XC.cond rfl (fun c0_2 => ?_) (fun c0_2 => ?_)
 ·refine XC.seq ?_; refine XC.region ?_; refine XO.move rfl rfl ?_; refine XO.assign rfl rfl ?_; refine XO.assign rfl rfl ?_; refine XO.nil ?_; refine XC.seq2 ?_; refine XC.ret ?_; refine seqX_ret ?_; refine ⟨rfl, _, [], rfl, (by repeat (first | exact List.Sublist.refl _ | apply List.Sublist.cons)), RetR.mk ?_⟩
  first | exact BoxU.e (pput_1 (by omega)) | exact BoxU.e (pput_2 h0 (fun h => absurd (sel_iff.2 h) (by omega))) | exact BoxU.via (pput_3 h0 hok) ⟨rfl, rfl⟩ (by assumption)
 ·have h0 : chkB l = 0 := by omega
  have hg := good_of h0
  refine XC.skip ?_; refine XC.seq2 ?_; refine XC.seq ?_; refine XC.seq ?_; refine XC.region ?_; refine XO.loadO 0 rfl rfl ty_27 rfl rfl rfl ?_; refine XO.callV rfl (selcheck_fn s _ _ _ ht hD hc) rfl ?_; refine XO.neq rfl rfl rfl ?_; refine XO.nil ?_; refine XC.seq2 ?_; refine XC.cond rfl (fun c1_4 => ?_) (fun c1_4 => ?_)
  ·refine XC.seq ?_; refine XC.region ?_; refine XO.assign rfl rfl ?_; refine XO.assign rfl rfl ?_; refine XO.nil ?_; refine XC.seq2 ?_; refine XC.ret ?_; refine seqX_ret ?_; refine ⟨rfl, _, [], rfl, (by repeat (first | exact List.Sublist.refl _ | apply List.Sublist.cons)), RetR.mk ?_⟩
   first | exact BoxU.e (pput_1 (by omega)) | exact BoxU.e (pput_2 h0 (fun h => absurd (sel_iff.2 h) (by omega))) | exact BoxU.via (pput_3 h0 hok) ⟨rfl, rfl⟩ (by assumption)
  ·have hok : okC s := sel_iff.1 (by omega)
   have hgs : goodB [[s]] := good_snoc (b := []) (fun x hx => by cases hx) ⟨Nat.le_refl 1, show 1 ≤ 2 by decide⟩ (fun t ht => by simp only [List.mem_singleton] at ht; subst ht; exact hok)
   refine XC.skip ?_; refine XC.seq2 ?_; refine XC.seq ?_; refine XC.region ?_; refine XO.move rfl rfl ?_; refine XO.loadO 0 rfl rfl ty_27 rfl rfl rfl ?_; refine XO.buildSlice rfl Try.underlying31 ty_27 ze_27 rfl rfl rfl (fun b16 => ?_); refine XO.publish 0 rfl rfl rfl (fun HP16 oP16 hleP16 hbP16 hoP16 => ?_); replace hs := hs.mono hleP16; replace ht := ht.mono hleP16
   have hsl16 := SlR.lit (ρ := cardR) (l := [s]) hbP16 hoP16 (RowsR.one1 ⟨_, _, rfl, ht, hD⟩)
   refine XO.build bk_50 bf_50 ze_50 rfl rfl rfl ?_; refine XO.buildSlice rfl Try.underlying22 ty_50 ze_50 rfl rfl rfl (fun b18 => ?_); refine XO.publish 0 rfl rfl rfl (fun HP18 oP18 hleP18 hbP18 hoP18 => ?_); replace hs := hs.mono hleP18; replace ht := ht.mono hleP18; replace hsl16 := hsl16.mono hleP18
   have hsl18 := SlR.lit (ρ := (slR cardR)) (l := [[s]]) hbP18 hoP18 (RowsR.one1 ⟨_, _, rfl, hsl16⟩)
   refine XO.callH rfl (pmrg0_b _ _ _ _ l [[s]] _ hs hsl18 (by have := (chkB_0 h0).1; omega) (show (1 : Nat) ≤ 100000 by decide) hg hgs) rfl ?_; rintro _ HN19 hleN19 ⟨aN19, cN19, rfl, hN19⟩; replace hs := hs.mono hleN19; replace ht := ht.mono hleN19; replace hsl16 := hsl16.mono hleN19; replace hsl18 := hsl18.mono hleN19; refine XO.extract rfl rfl rfl ?_; refine XO.extract rfl rfl rfl ?_; refine XO.assign rfl rfl ?_; refine XO.assign rfl rfl ?_; refine XO.nil ?_; refine XC.seq2 ?_; refine XC.ret ?_; refine ⟨rfl, _, [], rfl, (by repeat (first | exact List.Sublist.refl _ | apply List.Sublist.cons)), RetR.mk ?_⟩
   first | exact BoxU.e (pput_1 (by omega)) | exact BoxU.e (pput_2 h0 (fun h => absurd (sel_iff.2 h) (by omega))) | exact BoxU.via (pput_3 h0 hok) ⟨rfl, rfl⟩ (by assumption)

theorem pmrg_b (l m : Box) (a b : Option Addr) (c d : Nat) (H : Hp) (hs : SlR (slR cardR) H a c l) (ht : SlR (slR cardR) H b d m) (hl : l.length < 9223372036854775808) (hm : m.length < 9223372036854775808) (hlx : ∀ x ∈ l, x.length < 9223372036854775808) (hlc : ∀ x ∈ l, ∀ s ∈ x, s.C.length < 9223372036854775808) (hmx : ∀ x ∈ m, x.length < 9223372036854775808) (hmc : ∀ x ∈ m, ∀ s ∈ x, s.C.length < 9223372036854775808) : FnC Try.prog 16 #[.slice a l.length c, .slice b m.length d] H [] (RetR (fun v H2 _ => BoxU (pmrgX l m) (pmrgE l m) H2 v)) := by
 refine FnC.intro (args := [.slice a l.length c, .slice b m.length d]) Try.func16 rfl rfl Try.ntmps16 rfl rfl rfl fun G rest => ?_
 refine XC.seq ?_; refine XC.region ?_; refine XO.assign rfl rfl ?_; refine XO.assign rfl rfl ?_; refine XO.nil ?_; refine XC.seq2 ?_; refine XC.seq ?_; refine XC.seq ?_; refine XC.region ?_; refine XO.move rfl rfl ?_; refine XO.callV rfl (check_b _ _ l _ hs hl hlx hlc) rfl ?_; refine XO.assign rfl rfl ?_; refine XO.nil ?_; refine XC.seq2 ?_; refine XC.seq ?_; refine XC.region ?_; refine XO.move rfl rfl ?_; refine XO.neq rfl rfl rfl ?_; refine XO.nil ?_; refine XC.seq2 ?_; refine XC.cond rfl (fun c0_2 => ?_) (fun c0_2 => ?_)
 ·refine XC.seq ?_; refine XC.region ?_; refine XO.move rfl rfl ?_; refine XO.assign rfl rfl ?_; refine XO.assign rfl rfl ?_; refine XO.nil ?_; refine XC.seq2 ?_; refine XC.ret ?_; refine seqX_ret ?_; refine ⟨rfl, _, [], rfl, (by repeat (first | exact List.Sublist.refl _ | apply List.Sublist.cons)), RetR.mk ?_⟩
  first | exact BoxU.e (pmrg_1 (by omega)) | exact BoxU.e (pmrg_2 h0 (by omega)) | exact BoxU.via (pmrg_3 h0 h1) ⟨rfl, rfl⟩ (by assumption)
 ·have h0 : chkB l = 0 := by omega
  refine XC.skip ?_; refine XC.seq2 ?_; refine XC.seq ?_; refine XC.seq ?_; refine XC.region ?_; refine XO.move rfl rfl ?_; refine XO.callV rfl (check_b _ _ m _ ht hm hmx hmc) rfl ?_; refine XO.assign rfl rfl ?_; refine XO.nil ?_; refine XC.seq2 ?_; refine XC.seq ?_; refine XC.region ?_; refine XO.move rfl rfl ?_; refine XO.neq rfl rfl rfl ?_; refine XO.nil ?_; refine XC.seq2 ?_; refine XC.cond rfl (fun c1_4 => ?_) (fun c1_4 => ?_)
  ·refine XC.seq ?_; refine XC.region ?_; refine XO.move rfl rfl ?_; refine XO.assign rfl rfl ?_; refine XO.assign rfl rfl ?_; refine XO.nil ?_; refine XC.seq2 ?_; refine XC.ret ?_; refine seqX_ret ?_; refine ⟨rfl, _, [], rfl, (by repeat (first | exact List.Sublist.refl _ | apply List.Sublist.cons)), RetR.mk ?_⟩
   first | exact BoxU.e (pmrg_1 (by omega)) | exact BoxU.e (pmrg_2 h0 (by omega)) | exact BoxU.via (pmrg_3 h0 h1) ⟨rfl, rfl⟩ (by assumption)
  ·have h1 : chkB m = 0 := by omega
   refine XC.skip ?_; refine XC.seq2 ?_; refine XC.seq ?_; refine XC.region ?_; refine XO.move rfl rfl ?_; refine XO.move rfl rfl ?_; refine XO.callH rfl (pmrg0_b _ _ _ _ l m _ hs ht (by have := (chkB_0 h0).1; omega) (by have := (chkB_0 h1).1; omega) (good_of h0) (good_of h1)) rfl ?_; rintro _ HN18 hleN18 ⟨aN18, cN18, rfl, hN18⟩; replace hs := hs.mono hleN18; replace ht := ht.mono hleN18; refine XO.extract rfl rfl rfl ?_; refine XO.extract rfl rfl rfl ?_; refine XO.assign rfl rfl ?_; refine XO.assign rfl rfl ?_; refine XO.nil ?_; refine XC.seq2 ?_; refine XC.ret ?_; refine ⟨rfl, _, [], rfl, (by repeat (first | exact List.Sublist.refl _ | apply List.Sublist.cons)), RetR.mk ?_⟩
   first | exact BoxU.e (pmrg_1 (by omega)) | exact BoxU.e (pmrg_2 h0 (by omega)) | exact BoxU.via (pmrg_3 h0 h1) ⟨rfl, rfl⟩ (by assumption)

end Go.Proofs

/- Boxes: what a box is the box of, in plain Lean. -/
set_option maxRecDepth 100000
set_option autoImplicit false
set_option linter.unusedVariables false
set_option linter.unusedSimpArgs false
namespace Go.Proofs
open Go.XL
def i8 (x : UInt8) : Int := ((x.toNat : Nat) : Int)
theorem cmpB_L : ∀ l m : List UInt8, cmpB l m = cmpL (l.map i8) (m.map i8)
  | [], [] => rfl
  | [], _ :: _ => rfl
  | _ :: _, [] => rfl
  | a :: x, b :: y => by
    rw [cmpB, List.map_cons, List.map_cons, cmpL, cmpB_L x y]
    have e1 : a < b ↔ i8 a < i8 b := by unfold i8; rw [UInt8.lt_iff_toNat_lt]; omega
    have e2 : b < a ↔ i8 b < i8 a := by unfold i8; rw [UInt8.lt_iff_toNat_lt]; omega
    by_cases h1 : a < b
    · rw [if_pos h1, sgn_lt (e1.1 h1), if_neg (by decide)]
    · rw [if_neg h1]
      by_cases h2 : b < a
      · rw [if_pos h2, sgn_gt (e2.1 h2), if_neg (by decide)]
      · rw [if_neg h2, sgn_eq (fun h => h1 (e1.2 h)) (fun h => h2 (e2.2 h)), if_pos rfl]
theorem cmp_lt1 {a b c : List Int} (h1 : cmpL a b < 0) (h2 : cmpL b c ≤ 0) : cmpL a c < 0 := by
 have h3 := cmp_trans (by omega : cmpL a b ≤ 0) h2
 rcases Int.lt_or_eq_of_le h3 with h | h
 ·exact h
 ·have := cmp_0.1 h; subst this
  have := cmp_anti a b; omega
theorem cmp_app : ∀ (p q a b : List Int), p.length = q.length → cmpL (p ++ a) (q ++ b) = if cmpL p q = 0 then cmpL a b else cmpL p q
  | [], [], a, b, _ => by rw [cmpL, if_pos rfl]; rfl
  | [], _ :: _, a, b, h => by cases h
  | _ :: _, [], a, b, h => by cases h
  | x :: p, y :: q, a, b, h => by
    rw [List.cons_append, List.cons_append, cmpL, cmpL, cmp_app p q a b (by simpa using h)]
    by_cases h0 : sgn x y = 0
    · rw [if_pos h0, if_pos h0]
    · rw [if_neg h0, if_neg h0, if_neg h0]
def tk (s : Card) : List Int := (textC s).map i8
def key (s : Card) : List Int := plcL s ++ tk s
theorem ordC_key (s t : Card) : ordC s t = cmpL (key s) (key t) := by
 unfold ordC key; rw [or_two, cmp_app (plcL s) (plcL t) (tk s) (tk t) rfl, cmpB_L]; rfl
theorem ltT_tk {s t : Card} : ltT s t ↔ cmpL (tk s) (tk t) < 0 := by unfold ltT; rw [cmpB_L]; exact Iff.rfl
theorem ltT_irr {s : Card} : ¬ ltT s s := fun h => by
 have := ltT_tk.1 h
 rw [cmp_0.2 rfl] at this; exact absurd this (by decide)
theorem ltT_trans {s t u : Card} (h1 : ltT s t) (h2 : ltT t u) : ltT s u := ltT_tk.2 (cmp_lt1 (ltT_tk.1 h1) (by have := ltT_tk.1 h2; omega))
theorem i8_inj : ∀ {l m : List UInt8}, l.map i8 = m.map i8 → l = m
  | [], [], _ => rfl
  | [], _ :: _, h => by cases h
  | _ :: _, [], h => by cases h
  | a :: x, b :: y, h => by
    simp only [List.map_cons, List.cons.injEq, i8] at h
    have e : a = b := UInt8.toNat_inj.1 (by have := h.1; omega)
    rw [i8_inj h.2, e]
theorem tk_eq {s t : Card} (h : ¬ ltT s t) (h2 : ¬ ltT t s) : textC s = textC t := by
 rw [ltT_tk] at h h2
 have := cmp_anti (tk s) (tk t)
 exact i8_inj (cmp_0.1 (by omega : cmpL (tk s) (tk t) = 0))
def okP (s : Card) : Prop := okC s ∧ s.D.length = 32
theorem okP_eq {s t : Card} (hs : okP s) (ht : okP t) (h : textC s = textC t) : s = t := text_inj hs.1 ht.1 hs.2 ht.2 h
theorem okP_tri {s t : Card} (hs : okP s) (ht : okP t) : ltT s t ∨ s = t ∨ ltT t s := by
 by_cases h1 : ltT s t
 ·exact .inl h1
 ·by_cases h2 : ltT t s
  ·exact .inr (.inr h2)
  ·exact .inr (.inl (okP_eq hs ht (tk_eq h1 h2)))
abbrev Ris (r : Box) : Prop := r.Pairwise (fun x y => plq x y < 0)
theorem plq_trans {x y z : List Card} (h1 : plq x y < 0) (h2 : plq y z < 0) : plq x z < 0 := cmp_lt1 h1 (by unfold plq at h2; omega)
theorem rise_pw : ∀ {l : Box}, riseG plq l = true → Ris l
  | [], _ => .nil
  | [a], _ => by simp [Ris]
  | a :: b :: r, h => by
    rw [riseG, Bool.and_eq_true, decide_eq_true_iff] at h
    have ih := rise_pw h.2
    refine List.pairwise_cons.2 ⟨fun y hy => ?_, ih⟩
    rcases List.mem_cons.1 hy with rfl | hy
    · exact h.1
    · exact plq_trans h.1 ((List.pairwise_cons.1 ih).1 y hy)
theorem pw_rise : ∀ {l : Box}, Ris l → riseG plq l = true
  | [], _ => rfl
  | [a], _ => rfl
  | a :: b :: r, h => by
    obtain ⟨h1, h2⟩ := List.pairwise_cons.1 h
    rw [riseG, Bool.and_eq_true, decide_eq_true_iff]
    exact ⟨h1 b List.mem_cons_self, pw_rise h2⟩
theorem plq_irr {x y : List Card} (e : plcL (hd x) = plcL (hd y)) : ¬ plq x y < 0 := by unfold plq; rw [e, cmp_0.2 rfl]; decide
theorem pw_uniq : ∀ {r : Box}, Ris r → ∀ {x y : List Card}, x ∈ r → y ∈ r → plcL (hd x) = plcL (hd y) → x = y
  | [], _, x, y, hx, _, _ => by cases hx
  | z :: r, h, x, y, hx, hy, e => by
    obtain ⟨h1, h2⟩ := List.pairwise_cons.1 h
    rcases List.mem_cons.1 hx with ex | hx2
    · rcases List.mem_cons.1 hy with ey | hy2
      · rw [ex, ey]
      · subst ex; exact absurd (h1 y hy2) (plq_irr e)
    · rcases List.mem_cons.1 hy with ey | hy2
      · subst ey; exact absurd (h1 x hx2) (plq_irr e.symm)
      · exact pw_uniq h2 hx2 hy2 e
theorem plq_asym {x y : List Card} (h1 : plq x y < 0) (h2 : plq y x < 0) : False := by
 unfold plq at h1 h2
 have := cmp_anti (plcL (hd x)) (plcL (hd y)); omega
theorem pw_ext : ∀ {r r' : Box}, Ris r → Ris r' → (∀ x, x ∈ r ↔ x ∈ r') → r = r'
  | [], [], _, _, _ => rfl
  | [], y :: r', _, _, h => by have := (h y).2 List.mem_cons_self; cases this
  | x :: r, [], _, _, h => by have := (h x).1 List.mem_cons_self; cases this
  | x :: r, y :: r', h1, h2, h => by
    obtain ⟨g1, g2⟩ := List.pairwise_cons.1 h1
    obtain ⟨k1, k2⟩ := List.pairwise_cons.1 h2
    have e : x = y := by
      rcases List.mem_cons.1 ((h x).1 List.mem_cons_self) with e | hx
      · exact e
      · rcases List.mem_cons.1 ((h y).2 List.mem_cons_self) with e | hy
        · exact e.symm
        · exact (plq_asym (g1 y hy) (k1 x hx)).elim
    subst e
    have : r = r' := pw_ext g2 k2 fun z => ⟨fun hz => by
      rcases List.mem_cons.1 ((h z).1 (List.mem_cons_of_mem _ hz)) with e | hz2
      · subst e; exact absurd (g1 z hz) (plq_irr rfl)
      · exact hz2, fun hz => by
      rcases List.mem_cons.1 ((h z).2 (List.mem_cons_of_mem _ hz)) with e | hz2
      · subst e; exact absurd (k1 z hz) (plq_irr rfl)
      · exact hz2⟩
    rw [this]
/-- the card is kept, or two smaller ones are -/
def Kept (s : Card) (x : List Card) : Prop := s ∈ x ∨ (x.length = 2 ∧ ∀ t ∈ x, ltT t s)
theorem kept1 {s t : Card} : Kept s [t] ↔ s = t := by
 unfold Kept; constructor
 ·rintro (h | h)
  ·simpa using h
  ·exact absurd h.1 (by simp)
 ·intro h; exact .inl (by simp [h])
theorem kept2 {s t u : Card} : Kept s [t, u] ↔ (s = t ∨ s = u) ∨ (ltT t s ∧ ltT u s) := by
 unfold Kept; constructor
 ·rintro (h | h)
  ·exact .inl (by simpa using h)
  ·exact .inr ⟨h.2 t (by simp), h.2 u (by simp)⟩
 ·rintro (h | h)
  ·exact .inl (by simpa using h)
  ·exact .inr ⟨rfl, fun v hv => by
    simp only [List.mem_cons, List.not_mem_nil, or_false] at hv
    rcases hv with rfl | rfl
    ·exact h.1
    ·exact h.2⟩
theorem slot_cases {x : List Card} (h : slotB x = true) : (∃ s, x = [s]) ∨ ∃ s t, x = [s, t] ∧ ltT s t := by
 match x, h with
 | [s], _ => exact .inl ⟨s, rfl⟩
 | [s, t], h => exact .inr ⟨s, t, rfl, (of_decide_eq_true h).2⟩
theorem slot_same {x y : List Card} (hx : slotB x = true) (hy : slotB y = true) (h1 : ∀ s ∈ x, Kept s y) (h2 : ∀ s ∈ y, Kept s x) : x = y := by
 have asym : ∀ {a b : Card}, ltT a b → ltT b a → False := fun h1 h2 => ltT_irr (ltT_trans h1 h2)
 rcases slot_cases hx with ⟨s, rfl⟩ | ⟨s, v, rfl, hsv⟩ <;> rcases slot_cases hy with ⟨t, rfl⟩ | ⟨t, u, rfl, htu⟩
 ·rw [kept1.1 (h1 s (by simp))]
 ·have e1 := kept1.1 (h2 t (by simp)); have e2 := kept1.1 (h2 u (by simp))
  subst e1; subst e2; exact absurd htu ltT_irr
 ·have e1 := kept1.1 (h1 s (by simp)); have e2 := kept1.1 (h1 v (by simp))
  subst e1; subst e2; exact absurd hsv ltT_irr
 ·have a := kept2.1 (h1 s (by simp)); have b := kept2.1 (h1 v (by simp))
  have c := kept2.1 (h2 t (by simp)); have d := kept2.1 (h2 u (by simp))
  have e : s = t := by
   rcases a with (a | a) | ⟨a1, a2⟩
   ·exact a
   ·subst a
    rcases c with (c | c) | ⟨c1, c2⟩
    ·exact c.symm
    ·subst c; exact (asym hsv htu).elim
    ·exact (asym c1 htu).elim
   ·rcases c with (c | c) | ⟨c1, c2⟩
    ·exact c.symm
    ·subst c; exact (asym hsv a1).elim
    ·exact (asym c1 a1).elim
  subst e
  have e2 : v = u := by
   rcases b with (b | b) | ⟨b1, b2⟩
   ·subst b; exact absurd hsv ltT_irr
   ·exact b
   ·rcases d with (d | d) | ⟨d1, d2⟩
    ·subst d; exact absurd htu ltT_irr
    ·exact d.symm
    ·exact (asym b2 d2).elim
  rw [e2]
/-- the box of the cards P -/
structure IsBox (P : Card → Prop) (r : Box) : Prop where
 ok : ∀ x ∈ r, slotB x = true
 pw : Ris r
 wf : ∀ s, P s → okP s
 sub : ∀ x ∈ r, ∀ s ∈ x, P s
 cov : ∀ s, P s → ∃ x ∈ r, plcL (hd x) = plcL s ∧ Kept s x
section
variable {P Q : Card → Prop} {r r' : Box} {s : Card} {x : List Card}
theorem IsBox.chk (h : IsBox P r) (hl : r.length ≤ 4096) : chkB r = 0 := bchk_0 (by omega) (List.all_eq_true.2 h.ok) (pw_rise h.pw)
theorem hd_mem (h : 0 < x.length) : hd x ∈ x := by
 cases x with
 | nil => simp at h
 | cons y r => simp [hd]
theorem IsBox.of (h : chkB r = 0) (hD : ∀ x ∈ r, ∀ s ∈ x, s.D.length = 32) : IsBox (fun s => s ∈ r.flatten) r := by
 obtain ⟨_, h2, h3⟩ := chkB_0 h
 have ok := List.all_eq_true.1 h2
 refine ⟨ok, rise_pw h3, fun s hs => ?_, fun x hx s hs => List.mem_flatten.2 ⟨x, hx, hs⟩, fun s hs => ?_⟩
 ·obtain ⟨x, hx, hs⟩ := List.mem_flatten.1 hs
  exact ⟨slot_ok (ok x hx) s hs, hD x hx s hs⟩
 ·obtain ⟨x, hx, hs⟩ := List.mem_flatten.1 hs
  exact ⟨x, hx, (slot_plc (ok x hx) hs).symm, .inl hs⟩
theorem IsBox.mem1 (h : IsBox P r) (h' : IsBox Q r') (e : ∀ s, P s ↔ Q s) (hx : x ∈ r) : x ∈ r' := by
 have hx0 := pos_of (h.ok x hx)
 obtain ⟨y, hy, e1, -⟩ := h'.cov _ ((e _).1 (h.sub x hx _ (hd_mem hx0)))
 have : x = y := by
  refine slot_same (h.ok x hx) (h'.ok y hy) (fun s hs => ?_) (fun s hs => ?_)
  ·obtain ⟨z, hz, e2, hk⟩ := h'.cov s ((e s).1 (h.sub x hx s hs))
   have e3 := slot_plc (h.ok x hx) hs
   rw [pw_uniq h'.pw hy hz (by rw [e1, e2, e3])]
   exact hk
  ·obtain ⟨z, hz, e2, hk⟩ := h.cov s ((e s).2 (h'.sub y hy s hs))
   have e3 := slot_plc (h'.ok y hy) hs
   rw [pw_uniq h.pw hx hz (by rw [e2, e3, e1])]
   exact hk
 rw [this]; exact hy
theorem IsBox.uniq (h : IsBox P r) (h' : IsBox Q r') (e : ∀ s, P s ↔ Q s) : r = r' := pw_ext h.pw h'.pw fun x => ⟨h.mem1 h' e, h'.mem1 h fun s => (e s).symm⟩
theorem kept_trans {y : List Card} (hx : slotB x = true) (hy : slotB y = true) (hs : Kept s x) (h : ∀ t ∈ x, Kept t y) : Kept s y := by
 rcases hs with hs | ⟨hs, h2⟩
 ·exact h s hs
 ·rcases slot_cases hx with ⟨a, rfl⟩ | ⟨a, b, rfl, hab⟩
  ·simp at hs
  ·have ha := h2 a (by simp); have hb := h2 b (by simp)
   have k1 := h a (by simp); have k2 := h b (by simp)
   rcases slot_cases hy with ⟨t, rfl⟩ | ⟨t, u, rfl, htu⟩
   ·have e1 := kept1.1 k1; have e2 := kept1.1 k2
    subst e1; subst e2; exact absurd hab ltT_irr
   ·refine kept2.2 (.inr ?_)
    rcases kept2.1 k2 with (k | k) | ⟨k3, k4⟩
    ·subst k
     rcases kept2.1 k1 with (k | k) | ⟨k3, k4⟩
     ·subst k; exact absurd hab ltT_irr
     ·subst k; exact absurd (ltT_trans hab htu) ltT_irr
     ·exact absurd (ltT_trans k3 hab) ltT_irr
    ·subst k; exact ⟨ltT_trans htu hb, hb⟩
    ·exact ⟨ltT_trans k3 hb, ltT_trans k4 hb⟩
theorem IsBox.comp {q b : Box} (h : IsBox P r) (h2 : IsBox Q q) (hb : IsBox (fun s => s ∈ r.flatten ∨ s ∈ q.flatten) b) : IsBox (fun s => P s ∨ Q s) b := by
 refine ⟨hb.ok, hb.pw, fun s hs => hs.elim (h.wf s) (h2.wf s), fun x hx s hs => ?_, fun s hs => ?_⟩
 ·rcases hb.sub x hx s hs with hm | hm
  ·obtain ⟨y, hy, hm⟩ := List.mem_flatten.1 hm; exact .inl (h.sub y hy s hm)
  ·obtain ⟨y, hy, hm⟩ := List.mem_flatten.1 hm; exact .inr (h2.sub y hy s hm)
 ·have key : ∀ {r0 : Box} (P0 : Card → Prop), IsBox P0 r0 → (∀ t, t ∈ r0.flatten → t ∈ r.flatten ∨ t ∈ q.flatten) → P0 s → ∃ x ∈ b, plcL (hd x) = plcL s ∧ Kept s x := by
   intro r0 P0 h0 hin hp
   obtain ⟨x, hx, e, hk⟩ := h0.cov s hp
   have hx0 := h0.ok x hx
   have hin2 : ∀ t ∈ x, t ∈ r.flatten ∨ t ∈ q.flatten := fun t ht => hin t (List.mem_flatten.2 ⟨x, hx, ht⟩)
   obtain ⟨y, hy, e2, -⟩ := hb.cov _ (hin2 _ (hd_mem (pos_of hx0))); refine ⟨y, hy, by rw [e2, e], kept_trans hx0 (hb.ok y hy) hk fun t ht => ?_⟩; obtain ⟨z, hz, e3, hk3⟩ := hb.cov t (hin2 t ht)
   rw [pw_uniq hb.pw hy hz (by rw [e2, e3, slot_plc hx0 ht])]
   exact hk3
  rcases hs with hs | hs
  ·exact key P h (fun t ht => .inl ht) hs
  ·exact key Q h2 (fun t ht => .inr ht) hs
theorem IsBox.congr (h : IsBox P r) (e : ∀ s, P s ↔ Q s) : IsBox Q r := ⟨h.ok, h.pw, fun s hs => h.wf s ((e s).2 hs), fun x hx s hs => (e s).1 (h.sub x hx s hs), fun s hs => h.cov s ((e s).2 hs)⟩
theorem IsBox.self (h : IsBox P r) : IsBox (fun s => s ∈ r.flatten) r := ⟨h.ok, h.pw, fun s hs => by
  obtain ⟨x, hx, hs⟩ := List.mem_flatten.1 hs; exact h.wf s (h.sub x hx s hs), fun x hx s hs => List.mem_flatten.2 ⟨x, hx, hs⟩, fun s hs => by
  obtain ⟨x, hx, hs⟩ := List.mem_flatten.1 hs; exact ⟨x, hx, (slot_plc (h.ok x hx) hs).symm, .inl hs⟩⟩
theorem IsBox.empty : IsBox (fun _ => False) [] := ⟨fun x hx => (by cases hx), .nil, fun s hs => hs.elim, fun x hx => (by cases hx), fun s hs => hs.elim⟩
end
end Go.Proofs

/- Boxes: the program's merge and the reference's put are the boxes of their cards, in plain Lean. -/
set_option maxRecDepth 100000
set_option autoImplicit false
set_option linter.unusedVariables false
set_option linter.unusedSimpArgs false
namespace Go.Proofs
open Go.XL
abbrev Srt (l : List Card) : Prop := l.Pairwise (fun s t => ordC s t ≤ 0)
section
variable {s t u : Card}
theorem ord_anti (s t : Card) : ordC t s = - ordC s t := by rw [ordC_key, ordC_key]; exact cmp_anti _ _
theorem ord_trans (h1 : ordC s t ≤ 0) (h2 : ordC t u ≤ 0) : ordC s u ≤ 0 := by rw [ordC_key] at h1 h2 ⊢; exact cmp_trans h1 h2
theorem ord_plc (h : ordC s t ≤ 0) : cmpL (plcL s) (plcL t) ≤ 0 := by
 by_cases e : plcL s = plcL t
 ·rw [cmp_0.2 e]; decide
 ·rw [ordC_diff e] at h; exact h
theorem ord_txt (h : ordC s t ≤ 0) (e : plcL s = plcL t) : ¬ ltT t s := by
 intro h2
 have := ord_anti s t
 rw [ordC_same e.symm] at this
 unfold ltT at h2; omega
theorem ord_lt (e : plcL s = plcL t) : ordC s t < 0 ↔ ltT s t := by rw [ordC_same e]; exact Iff.rfl
end
theorem mrg_srt : ∀ {x y : List Card}, Srt x → Srt y → Srt (mrg x y)
  | [], y, _, h => by rw [mrg]; exact h
  | x :: p, [], h, _ => by rw [mrg]; exact h
  | x :: p, y :: q, h1, h2 => by
    obtain ⟨g1, g2⟩ := List.pairwise_cons.1 h1
    obtain ⟨k1, k2⟩ := List.pairwise_cons.1 h2
    rw [mrg]
    split
    · rename_i hlt
      refine List.pairwise_cons.2 ⟨fun z hz => ?_, mrg_srt h1 k2⟩
      rcases mem_mrg.1 hz with hz | hz
      · rcases List.mem_cons.1 hz with rfl | hz
        · omega
        · exact ord_trans (by omega) (g1 z hz)
      · exact k1 z hz
    · rename_i hlt
      have hxy : ordC x y ≤ 0 := by have := ord_anti x y; omega
      refine List.pairwise_cons.2 ⟨fun z hz => ?_, mrg_srt g2 h2⟩
      rcases mem_mrg.1 hz with hz | hz
      · exact g1 z hz
      · rcases List.mem_cons.1 hz with rfl | hz
        · exact hxy
        · exact ord_trans hxy (k1 z hz)
termination_by x y => x.length + y.length
theorem IsBox.srt {P : Card → Prop} {r : Box} (h : IsBox P r) : Srt r.flatten := by
 refine List.pairwise_flatten.2 ⟨fun x hx => ?_, h.pw.imp_of_mem fun {x y} hx hy hxy s hs t ht => ?_⟩
 ·have h1 := h.ok x hx
  rcases slot_cases h1 with ⟨s, rfl⟩ | ⟨s, t, rfl, hst⟩
  ·simp
  ·have e : plcL t = plcL s := slot_plc h1 (by simp)
   refine List.pairwise_cons.2 ⟨fun z hz => ?_, by simp⟩
   simp only [List.mem_singleton] at hz; subst hz
   have := (ord_lt e.symm).2 hst; omega
 ·have e1 := slot_plc (h.ok x hx) hs
  have e2 := slot_plc (h.ok y hy) ht
  unfold plq at hxy
  rw [← e1, ← e2] at hxy
  rw [ordC_diff (fun e => by rw [cmp_0.2 e] at hxy; exact absurd hxy (by decide))]
  omega
theorem set_snoc {α : Type} (q : List α) (x y : α) : (q ++ [x]).set q.length y = q ++ [y] := by
 induction q with
 | nil => rfl
 | cons a q ih => rw [List.cons_append, List.length_cons, List.set_cons_succ, ih]; rfl
theorem snoc_of {α : Type} {R : List α} {x : α} (h : R[R.length - 1]? = some x) : ∃ q, R = q ++ [x] := by
 have hl : R.length - 1 < R.length := (List.getElem?_eq_some_iff.1 h).1
 refine ⟨R.take (R.length - 1), ?_⟩
 have := take_snoc h
 rw [show R.length - 1 + 1 = R.length by omega, List.take_length] at this
 exact this
section
variable {L : List Card} {R : Box} {s : Card}
theorem box_new {P : Card → Prop} (h : IsBox P R) (hs : okP s) (hlt : ∀ x ∈ R, cmpL (plcL (hd x)) (plcL s) < 0) : IsBox (fun t => P t ∨ t = s) (R ++ [[s]]) := by
 refine ⟨fun x hx => ?_, List.pairwise_append.2 ⟨h.pw, by simp, fun x hx y hy => ?_⟩, fun t ht => ?_, fun x hx t ht => ?_, fun t ht => ?_⟩
 ·rcases List.mem_append.1 hx with hx | hx
  ·exact h.ok x hx
  ·simp only [List.mem_singleton] at hx; subst hx; exact (slot_one hs.1).symm
 ·simp only [List.mem_singleton] at hy; subst hy; exact hlt x hx
 ·rcases ht with ht | rfl
  ·exact h.wf t ht
  ·exact hs
 ·rcases List.mem_append.1 hx with hx | hx
  ·exact .inl (h.sub x hx t ht)
  ·simp only [List.mem_singleton] at hx; subst hx; exact .inr (by simpa using ht)
 ·rcases ht with ht | rfl
  ·obtain ⟨x, hx, h1, h2⟩ := h.cov t ht
   exact ⟨x, List.mem_append_left _ hx, h1, h2⟩
  ·exact ⟨[t], by simp, rfl, .inl (by simp)⟩
theorem box_step {P : Card → Prop} (h : IsBox P R) (hs : okP s) (hle : ∀ t, P t → ordC t s ≤ 0) : IsBox (fun t => P t ∨ t = s) (stepM R s) := by
  cases hx : R[R.length - 1]? with
  | none =>
    have h0 : R.length = 0 := by
      have := List.getElem?_eq_none_iff.1 hx; omega
    have e : R = [] := List.eq_nil_of_length_eq_zero h0
    rw [step_1 h0]
    exact box_new h hs (fun x hx => by rw [e] at hx; cases hx)
  | some x =>
    obtain ⟨q, hq⟩ := snoc_of hx
    have hxm : x ∈ R := List.mem_of_getElem? hx
    have hxo := h.ok x hxm
    have hP := h.sub x hxm
    have hpl : cmpL (plcL (hd x)) (plcL s) ≤ 0 := ord_plc (hle _ (hP _ (hd_mem (pos_of hxo))))
    by_cases e : plcL (hd x) = plcL s
    · by_cases h2 : x.length < 2 ∧ ordC (hd x) s < 0
      · rw [step_5 hx e h2]
        have hx1 := len_one (by have := pos_of hxo; omega : x.length = 1)
        generalize hd x = z at hx1 e h2
        subst hx1
        have hzs : ltT z s := (ord_lt e).1 h2.2
        have hno : slotB [z, s] = true := by rw [← slot_two (slot_ok hxo z (by simp)) hs.1 e]; exact decide_eq_true hzs
        subst hq
        rw [show (q ++ [[z]]).length - 1 = q.length by simp, set_snoc]
        obtain ⟨p1, p2, p3⟩ := List.pairwise_append.1 h.pw
        refine ⟨fun y hy => ?_, List.pairwise_append.2 ⟨p1, by simp, fun y hy w hw => ?_⟩, fun t ht => ?_, fun y hy t ht => ?_, fun t ht => ?_⟩
        · rcases List.mem_append.1 hy with hy | hy
          · exact h.ok y (List.mem_append_left _ hy)
          · simp only [List.mem_singleton] at hy; subst hy; exact hno
        · simp only [List.mem_singleton] at hw; subst hw
          exact p3 y hy [z] (by simp)
        · rcases ht with ht | rfl
          · exact h.wf t ht
          · exact hs
        · rcases List.mem_append.1 hy with hy | hy
          · exact .inl (h.sub y (List.mem_append_left _ hy) t ht)
          · simp only [List.mem_singleton] at hy; subst hy
            rcases List.mem_cons.1 ht with e9 | ht2
            · exact .inl (by rw [e9]; exact hP _ (by simp))
            · exact .inr (List.mem_singleton.1 ht2)
        · rcases ht with ht | rfl
          · obtain ⟨y, hy, h3, h4⟩ := h.cov t ht
            rcases List.mem_append.1 hy with hy | hy
            · exact ⟨y, List.mem_append_left _ hy, h3, h4⟩
            · simp only [List.mem_singleton] at hy; subst hy
              exact ⟨[z, s], by simp, h3, .inl (by have := kept1.1 h4; simp [this])⟩
          · exact ⟨[z, t], by simp, e, .inl (by simp)⟩
      · rw [step_3 hx e h2]
        refine ⟨h.ok, h.pw, fun t ht => ?_, fun y hy t ht => .inl (h.sub y hy t ht), fun t ht => ?_⟩
        · rcases ht with ht | rfl
          · exact h.wf t ht
          · exact hs
        · rcases ht with ht | rfl
          · exact h.cov t ht
          · refine ⟨x, hxm, e, ?_⟩
            have nl : ∀ v ∈ x, ltT v t ∨ v = t := fun v hv => by
              have e2 : plcL v = plcL t := (slot_plc hxo hv).trans e
              rcases okP_tri (h.wf v (hP v hv)) hs with h5 | h5 | h5
              · exact .inl h5
              · exact .inr h5
              · exact absurd h5 (ord_txt (hle v (hP v hv)) e2)
            rcases slot_cases hxo with ⟨z, rfl⟩ | ⟨z, w, rfl, hzw⟩
            · refine kept1.2 ?_
              rcases nl z (by simp) with h5 | h5
              · exact absurd ⟨show [z].length < 2 by simp, (ord_lt e).2 h5⟩ h2
              · exact h5.symm
            · rcases nl w (by simp) with h5 | h5
              · exact kept2.2 (.inr ⟨ltT_trans hzw h5, h5⟩)
              · exact kept2.2 (.inl (.inr h5.symm))
    · rw [step_2 hx e]
      have hlt : cmpL (plcL (hd x)) (plcL s) < 0 := by
        rcases Int.lt_or_eq_of_le hpl with h5 | h5
        · exact h5
        · exact absurd (cmp_0.1 h5) e
      refine box_new h hs fun y hy => ?_
      subst hq
      rcases List.mem_append.1 hy with hy | hy
      · exact cmp_lt1 ((List.pairwise_append.1 h.pw).2.2 y hy x (by simp)) (by omega)
      · simp only [List.mem_singleton] at hy; subst hy; exact hlt
theorem boxO_is (hL : Srt L) (hok : ∀ s ∈ L, okP s) : IsBox (fun s => s ∈ L) (boxO L) := by
  have key : ∀ k, IsBox (fun s => s ∈ L.take k) (boxO (L.take k)) := by
    intro k
    induction k with
    | zero => exact IsBox.empty.congr fun s => by simp
    | succ k ih =>
      cases hs : L[k]? with
      | none =>
        have hk : L.length ≤ k := List.getElem?_eq_none_iff.1 hs
        rw [List.take_of_length_le (by omega)] at ih ⊢; exact ih
      | some s =>
        rw [take_snoc hs, boxO_snoc]
        refine (box_step ih (hok s (List.mem_of_getElem? hs)) fun t ht => ?_).congr fun t => by simp
        have h1 : Srt (L.take (k + 1)) := List.Pairwise.sublist (List.take_sublist _ _) hL
        rw [take_snoc hs] at h1
        exact (List.pairwise_append.1 h1).2.2 t ht s (by simp)
  have := key L.length
  rwa [List.take_length] at this
end
/-- the program's merge is the box of both -/
theorem pm_is {P Q : Card → Prop} {a b : Box} (ha : IsBox P a) (hb : IsBox Q b) : IsBox (fun s => P s ∨ Q s) (pmB a b) := by
 refine ha.comp hb ?_
 have h := boxO_is (mrg_srt ha.srt hb.srt) (fun s hs => (mem_mrg.1 hs).elim (ha.self.wf s) (hb.self.wf s))
 exact h.congr fun s => mem_mrg
def insB (s : Card) : Box → Box
 | [] => [[s]]
 | x :: r => if befP s x then [s] :: x :: r else if plcL s = plcL (hd x) then withC x s :: r else x :: insB s r
section
variable {s : Card}
theorem put_done : ∀ (b acc : Box), (∀ x ∈ b, ¬ plcL s = plcL (hd x)) → b.foldl (putS s) (acc, true) = (acc ++ b, true)
  | [], acc, _ => by simp
  | x :: b, acc, h => by
    rw [List.foldl_cons, show putS s (acc, true) x = (acc ++ [x], true) from by unfold putS; rw [if_neg (fun e => Bool.noConfusion e.1), if_neg (h x List.mem_cons_self)], put_done b _ fun y hy => h y (List.mem_cons_of_mem _ hy)]
    simp
theorem bef_ne {x : List Card} (h : befP s x) : ¬ plcL s = plcL (hd x) := fun e => by unfold befP at h; rw [cmp_0.2 e] at h; exact absurd h (by decide)
theorem put_ins : ∀ (b acc : Box), Ris b → (if (b.foldl (putS s) (acc, false)).2 = true then (b.foldl (putS s) (acc, false)).1 else (b.foldl (putS s) (acc, false)).1 ++ [[s]]) = acc ++ insB s b
  | [], acc, _ => by rw [List.foldl_nil, if_neg (fun e => Bool.noConfusion e)]; rfl
  | x :: b, acc, h => by
    obtain ⟨h1, h2⟩ := List.pairwise_cons.1 h
    rw [List.foldl_cons, insB]
    by_cases hb : befP s x
    · rw [show putS s (acc, false) x = (acc ++ [[s]] ++ [x], true) from by unfold putS; rw [if_pos ⟨rfl, hb⟩, if_neg (bef_ne hb)], put_done b _ (fun y hy => bef_ne (cmp_lt1 hb (by have := h1 y hy; unfold plq at this; omega))), if_pos rfl, if_pos hb]
      simp
    · rw [if_neg hb]
      by_cases he : plcL s = plcL (hd x)
      · rw [show putS s (acc, false) x = (acc ++ [withC x s], true) from by unfold putS; rw [if_neg (fun e => hb e.2), if_pos he], put_done b _ (fun y hy => bef_ne (by unfold befP; rw [he]; exact h1 y hy)), if_pos rfl, if_pos he]
        simp
      · rw [show putS s (acc, false) x = (acc ++ [x], false) from by unfold putS; rw [if_neg (fun e => hb e.2), if_neg he], if_neg he, put_ins b _ h2]
        simp
theorem putB_ins {b : Box} (h : Ris b) : putB b s = insB s b := by
 have := put_ins (s := s) b [] h
 unfold putB putT
 rw [this]; rfl
theorem ins_split : ∀ (b : Box), Ris b → ∃ p q, (∀ x ∈ p, cmpL (plcL (hd x)) (plcL s) < 0) ∧ (∀ x ∈ q, befP s x) ∧ ((b = p ++ q ∧ insB s b = (p ++ [[s]]) ++ q) ∨ ∃ x, b = (p ++ [x]) ++ q ∧ plcL s = plcL (hd x) ∧ insB s b = (p ++ [withC x s]) ++ q)
  | [], _ => ⟨[], [], by simp, by simp, .inl ⟨rfl, rfl⟩⟩
  | x :: b, h => by
    obtain ⟨h1, h2⟩ := List.pairwise_cons.1 h
    by_cases hb : befP s x
    · refine ⟨[], x :: b, by simp, fun y hy => ?_, .inl ⟨rfl, by rw [insB, if_pos hb]; rfl⟩⟩
      rcases List.mem_cons.1 hy with rfl | hy
      · exact hb
      · exact cmp_lt1 hb (by have := h1 y hy; unfold plq at this; omega)
    · by_cases he : plcL s = plcL (hd x)
      · refine ⟨[], b, by simp, fun y hy => ?_, .inr ⟨x, rfl, he, by rw [insB, if_neg hb, if_pos he]; rfl⟩⟩
        unfold befP; rw [he]; exact h1 y hy
      · obtain ⟨p, q, g1, g2, g3⟩ := ins_split b h2
        refine ⟨x :: p, q, fun y hy => ?_, g2, ?_⟩
        · rcases List.mem_cons.1 hy with rfl | hy
          · unfold befP at hb
            have := cmp_anti (plcL s) (plcL (hd y))
            rcases Int.lt_or_eq_of_le (by omega : cmpL (plcL (hd y)) (plcL s) ≤ 0) with h5 | h5
            · exact h5
            · exact absurd (cmp_0.1 h5).symm he
          · exact g1 y hy
        · rcases g3 with ⟨e1, e2⟩ | ⟨z, e1, e2, e3⟩
          · exact .inl ⟨by rw [e1]; rfl, by rw [insB, if_neg hb, if_neg he, e2]; rfl⟩
          · exact .inr ⟨z, by rw [e1]; rfl, e2, by rw [insB, if_neg hb, if_neg he, e3]; rfl⟩
theorem with_cases {x : List Card} (hx : slotB x = true) (hok : ∀ t ∈ x, okP t) (hs : okP s) : (withC x s = x ∧ Kept s x) ∨ (∃ y, x = [y] ∧ ((withC x s = [s, y] ∧ ltT s y) ∨ (withC x s = [y, s] ∧ ltT y s))) ∨ (∃ y z, x = [y, z] ∧ ltT y z ∧ ((withC x s = [s, y] ∧ ltT s y) ∨ (withC x s = [y, s] ∧ ltT y s ∧ ltT s z))) := by
 by_cases he : ∃ y ∈ x, textC y = textC s
 ·obtain ⟨y, hy, e⟩ := he
  have := okP_eq (hok y hy) hs e
  subst this
  exact .inl ⟨with_same hy rfl, .inl hy⟩
 ·have hne : ∀ y ∈ x, ¬ textC y = textC s := fun y hy e => he ⟨y, hy, e⟩
  have tri : ∀ y ∈ x, ¬ ltT s y → ltT y s := fun y hy h => Decidable.byContradiction fun h2 => hne y hy (tk_eq h2 h)
  rw [with_ins hne]
  rcases slot_cases hx with ⟨y, rfl⟩ | ⟨y, z, rfl, hyz⟩
  ·refine .inr (.inl ⟨y, rfl, ?_⟩)
   rw [insF]
   by_cases h : ltT s y
   ·rw [if_pos h]; exact .inl ⟨rfl, h⟩
   ·rw [if_neg h]; exact .inr ⟨rfl, tri y (by simp) h⟩
  ·rw [insF]
   by_cases h : ltT s y
   ·rw [if_pos h]; exact .inr (.inr ⟨y, z, rfl, hyz, .inl ⟨rfl, h⟩⟩)
   ·rw [if_neg h, insF]
    have h1 := tri y (by simp) h
    by_cases h2 : ltT s z
    ·rw [if_pos h2]; exact .inr (.inr ⟨y, z, rfl, hyz, .inr ⟨rfl, h1, h2⟩⟩)
    ·rw [if_neg h2]; exact .inl ⟨rfl, kept2.2 (.inr ⟨h1, tri z (by simp) h2⟩)⟩
theorem with_ok {x : List Card} (hx : slotB x = true) (hok : ∀ t ∈ x, okP t) (hs : okP s) (hp : plcL s = plcL (hd x)) : slotB (withC x s) = true ∧ Kept s (withC x s) ∧ ∀ t, Kept t x → Kept t (withC x s) := by
 have two : ∀ {a b : Card}, okC a → okC b → plcL a = plcL b → ltT a b → slotB [a, b] = true := fun h1 h2 h3 h4 => by rw [← slot_two h1 h2 h3]; exact decide_eq_true h4
 rcases with_cases hx hok hs with ⟨e, h⟩ | ⟨y, rfl, ⟨e, h⟩ | ⟨e, h⟩⟩ | ⟨y, z, rfl, hyz, ⟨e, h⟩ | ⟨e, h, h2⟩⟩
 ·rw [e]; exact ⟨hx, h, fun t ht => ht⟩
 ·rw [e]; exact ⟨two hs.1 (hok y (by simp)).1 hp h, .inl (by simp), fun t ht => by have := kept1.1 ht; subst this; exact .inl (by simp)⟩
 ·rw [e]; exact ⟨two (hok y (by simp)).1 hs.1 hp.symm h, .inl (by simp), fun t ht => by have := kept1.1 ht; subst this; exact .inl (by simp)⟩
 ·rw [e]
  refine ⟨two hs.1 (hok y (by simp)).1 hp h, .inl (by simp), fun t ht => ?_⟩
  rcases kept2.1 ht with (rfl | rfl) | ⟨h3, h4⟩
  ·exact .inl (by simp)
  ·exact kept2.2 (.inr ⟨ltT_trans h hyz, hyz⟩)
  ·exact kept2.2 (.inr ⟨ltT_trans h h3, h3⟩)
 ·rw [e]
  refine ⟨two (hok y (by simp)).1 hs.1 hp.symm h, .inl (by simp), fun t ht => ?_⟩
  rcases kept2.1 ht with (rfl | rfl) | ⟨h3, h4⟩
  ·exact .inl (by simp)
  ·exact kept2.2 (.inr ⟨hyz, h2⟩)
  ·exact kept2.2 (.inr ⟨h3, ltT_trans h2 h4⟩)
theorem put_is {P : Card → Prop} {b : Box} (h : IsBox P b) (hs : okP s) : IsBox (fun t => P t ∨ t = s) (putB b s) := by
 rw [putB_ins h.pw]
 obtain ⟨p, q, h1, h2, ⟨e1, e2⟩ | ⟨x, e1, e2, e3⟩⟩ := ins_split (s := s) b h.pw
 ·rw [e2]
  subst e1
  obtain ⟨p1, p2, p3⟩ := List.pairwise_append.1 h.pw; refine ⟨fun x hx => ?_, List.pairwise_append.2 ⟨List.pairwise_append.2 ⟨p1, by simp, fun x hx y hy => ?_⟩, p2, fun x hx y hy => ?_⟩, fun t ht => ?_, fun x hx t ht => ?_, fun t ht => ?_⟩
  ·rcases List.mem_append.1 hx with hx | hx
   ·rcases List.mem_append.1 hx with hx | hx
    ·exact h.ok x (List.mem_append_left _ hx)
    ·simp only [List.mem_singleton] at hx; subst hx; exact (slot_one hs.1).symm
   ·exact h.ok x (List.mem_append_right _ hx)
  ·simp only [List.mem_singleton] at hy; subst hy; exact h1 x hx
  ·rcases List.mem_append.1 hx with hx | hx
   ·exact p3 x hx y hy
   ·simp only [List.mem_singleton] at hx; subst hx; exact h2 y hy
  ·rcases ht with ht | rfl
   ·exact h.wf t ht
   ·exact hs
  ·rcases List.mem_append.1 hx with hx | hx
   ·rcases List.mem_append.1 hx with hx | hx
    ·exact .inl (h.sub x (List.mem_append_left _ hx) t ht)
    ·simp only [List.mem_singleton] at hx; subst hx; exact .inr (by simpa using ht)
   ·exact .inl (h.sub x (List.mem_append_right _ hx) t ht)
  ·rcases ht with ht | rfl
   ·obtain ⟨x, hx, h3, h4⟩ := h.cov t ht; refine ⟨x, ?_, h3, h4⟩
    rcases List.mem_append.1 hx with hx | hx
    ·exact List.mem_append_left _ (List.mem_append_left _ hx)
    ·exact List.mem_append_right _ hx
   ·exact ⟨[t], List.mem_append_left _ (List.mem_append_right _ (by simp)), rfl, .inl (by simp)⟩
 ·rw [e3]
  subst e1
  have hxm : x ∈ (p ++ [x]) ++ q := List.mem_append_left _ (List.mem_append_right _ (by simp))
  have hxo := h.ok x hxm
  obtain ⟨w1, w2, w3⟩ := with_ok hxo (fun t ht => h.wf t (h.sub x hxm t ht)) hs e2
  have hpl : plcL (hd (withC x s)) = plcL s := by
   rcases mem_with (hd_mem (pos_of w1)) with e | e
   ·rw [e]
   ·rw [slot_plc hxo e, e2]
  obtain ⟨p12, p3, p4⟩ := List.pairwise_append.1 h.pw; obtain ⟨p1, _, p5⟩ := List.pairwise_append.1 p12; refine ⟨fun y hy => ?_, List.pairwise_append.2 ⟨List.pairwise_append.2 ⟨p1, by simp, fun z hz y hy => ?_⟩, p3, fun z hz y hy => ?_⟩, fun t ht => ?_, fun y hy t ht => ?_, fun t ht => ?_⟩
  ·rcases List.mem_append.1 hy with hy | hy
   ·rcases List.mem_append.1 hy with hy | hy
    ·exact h.ok y (List.mem_append_left _ (List.mem_append_left _ hy))
    ·simp only [List.mem_singleton] at hy; subst hy; exact w1
   ·exact h.ok y (List.mem_append_right _ hy)
  ·simp only [List.mem_singleton] at hy; subst hy
   unfold plq; rw [hpl]; exact h1 z hz
  ·rcases List.mem_append.1 hz with hz | hz
   ·exact p4 z (List.mem_append_left _ hz) y hy
   ·simp only [List.mem_singleton] at hz; subst hz
    unfold plq; rw [hpl]; exact h2 y hy
  ·rcases ht with ht | rfl
   ·exact h.wf t ht
   ·exact hs
  ·rcases List.mem_append.1 hy with hy | hy
   ·rcases List.mem_append.1 hy with hy | hy
    ·exact .inl (h.sub y (List.mem_append_left _ (List.mem_append_left _ hy)) t ht)
    ·simp only [List.mem_singleton] at hy; subst hy
     rcases mem_with ht with e | e
     ·exact .inr e
     ·exact .inl (h.sub x hxm t e)
   ·exact .inl (h.sub y (List.mem_append_right _ hy) t ht)
  ·have hin : withC x s ∈ (p ++ [withC x s]) ++ q := List.mem_append_left _ (List.mem_append_right _ (by simp))
   rcases ht with ht | rfl
   ·obtain ⟨y, hy, h3, h4⟩ := h.cov t ht
    rcases List.mem_append.1 hy with hy | hy
    ·rcases List.mem_append.1 hy with hy | hy
     ·exact ⟨y, List.mem_append_left _ (List.mem_append_left _ hy), h3, h4⟩
     ·simp only [List.mem_singleton] at hy; subst hy
      exact ⟨_, hin, by rw [hpl, e2, h3], w3 t h4⟩
    ·exact ⟨y, List.mem_append_right _ hy, h3, h4⟩
   ·exact ⟨_, hin, hpl, w2⟩
theorem puts_is : ∀ (l : List Card) {P : Card → Prop} {b : Box}, IsBox P b → (∀ s ∈ l, okP s) → IsBox (fun t => P t ∨ t ∈ l) (putsB b l)
  | [], P, b, h, _ => h.congr fun t => by simp
  | s :: l, P, b, h, h2 => by
    have := puts_is l (put_is h (h2 s List.mem_cons_self)) fun t ht => h2 t (List.mem_cons_of_mem _ ht)
    exact this.congr fun t => by simp only [List.mem_cons]; exact or_assoc
end
end Go.Proofs

/- Boxes: the program and the reference agree; the examples of the chapter. -/
set_option maxRecDepth 100000
set_option autoImplicit false
set_option linter.unusedVariables false
set_option linter.unusedSimpArgs false
namespace Go.Proofs
open Go.XL
abbrev D32 (b : Box) : Prop := ∀ x ∈ b, ∀ t ∈ x, t.D.length = 32
theorem box_one {s : Card} (hs : okP s) : IsBox (fun t => t = s) [[s]] := (box_new IsBox.empty hs (fun x hx => by cases hx)).congr fun t => by simp
theorem put_eq {b : Box} {s : Card} (h : chkB b = 0) (hD : D32 b) (hs : okP s) : pmB b [[s]] = putB b s := (pm_is (IsBox.of h hD) (box_one hs)).uniq (put_is (IsBox.of h hD) hs) fun t => Iff.rfl
theorem pput_r {b : Box} {s : Card} (hD : D32 b) (hsD : s.D.length = 32) : pputE b s = rputE b s ∧ pputX b s = rputX b s := by
 by_cases h : chkB b = 0
 ·by_cases h2 : okC s
  ·obtain ⟨e1, e2⟩ := pput_3 h h2
   rw [put_eq h hD ⟨h2, hsD⟩] at e1 e2
   by_cases h3 : 4096 < (putB b s).length
   ·rw [e1, e2, (p_1 h3).1, (p_1 h3).2, (rput_3 h h2 h3).1, (rput_3 h h2 h3).2]; exact ⟨rfl, rfl⟩
   ·rw [e1, e2, (p_0 h3).1, (p_0 h3).2, (rput_4 h h2 h3).1, (rput_4 h h2 h3).2]; exact ⟨rfl, rfl⟩
  ·rw [(pput_2 h h2).1, (pput_2 h h2).2, (rput_2 h h2).1, (rput_2 h h2).2]; exact ⟨rfl, rfl⟩
 ·rw [(pput_1 h).1, (pput_1 h).2, (rput_1 h).1, (rput_1 h).2]; exact ⟨rfl, rfl⟩
theorem mrg_eq {a b : Box} (h : chkB a = 0) (h2 : chkB b = 0) (hD : D32 a) (hE : D32 b) : pmB a b = putsB a b.flatten := by
 have hb := IsBox.of h2 hE
 exact (pm_is (IsBox.of h hD) hb).uniq (puts_is b.flatten (IsBox.of h hD) fun s hs => hb.wf s hs) fun t => Iff.rfl
theorem pmrg_r {a b : Box} (hD : D32 a) (hE : D32 b) : pmrgE a b = rmrgE a b ∧ pmrgX a b = rmrgX a b := by
 by_cases h : chkB a = 0
 ·by_cases h2 : chkB b = 0
  ·obtain ⟨e1, e2⟩ := pmrg_3 h h2
   rw [mrg_eq h h2 hD hE] at e1 e2
   by_cases h3 : 4096 < (putsB a b.flatten).length
   ·rw [e1, e2, (p_1 h3).1, (p_1 h3).2, (rmrg_3 h h2 h3).1, (rmrg_3 h h2 h3).2]; exact ⟨rfl, rfl⟩
   ·rw [e1, e2, (p_0 h3).1, (p_0 h3).2, (rmrg_4 h h2 h3).1, (rmrg_4 h h2 h3).2]; exact ⟨rfl, rfl⟩
  ·rw [(pmrg_2 h h2).1, (pmrg_2 h h2).2, (rmrg_2 h h2).1, (rmrg_2 h h2).2]; exact ⟨rfl, rfl⟩
 ·rw [(pmrg_1 h).1, (pmrg_1 h).2, (rmrg_1 h).1, (rmrg_1 h).2]; exact ⟨rfl, rfl⟩
def CrdU (s : Card) (H : Hp) (v : Value) : Prop := ∃ a c, v = .agg ⟨cardV s.R s.E s.J s.C.length s.D a c⟩ ∧ SlR (intR .i64) H a c s.C
theorem CrdU_mono (s : Card) : ∀ v H H', Le H H' → CrdU s H v → CrdU s H' v := fun _ _ _ hle ⟨a, c, h1, h2⟩ => ⟨a, c, h1, h2.mono hle⟩
def kc (j n : Int) : Card := ⟨0, 0, j, [n], List.replicate 32 0⟩
def bA : Box := [[kc 1 5]]
def bB : Box := [[kc 1 4, kc 1 5]]
def bC : Box := [[kc 0 9], [kc 1 4, kc 1 5]]
theorem dA : D32 bA := by decide +kernel
theorem dB : D32 bB := by decide +kernel
theorem dC : D32 bC := by decide +kernel
theorem dN : D32 [] := fun x hx => by cases hx
theorem s1 : pputX [] (kc 1 5) = bA ∧ pputE [] (kc 1 5) = 0 := by rw [(pput_r dN rfl).1, (pput_r dN rfl).2]; exact ⟨by decide +kernel, by decide +kernel⟩
theorem s2 : pputX bA (kc 1 5) = bA ∧ pputE bA (kc 1 5) = 0 := by rw [(pput_r dA rfl).1, (pput_r dA rfl).2]; exact ⟨by decide +kernel, by decide +kernel⟩
theorem s3 : pputX bA (kc 1 4) = bB ∧ pputE bA (kc 1 4) = 0 := by rw [(pput_r dA rfl).1, (pput_r dA rfl).2]; exact ⟨by decide +kernel, by decide +kernel⟩
theorem s4 : pputX bB (kc 0 9) = bC ∧ pputE bB (kc 0 9) = 0 := by rw [(pput_r dB rfl).1, (pput_r dB rfl).2]; exact ⟨by decide +kernel, by decide +kernel⟩
theorem s5 : pmrgX bC bA = bC ∧ pmrgE bC bA = 0 := by rw [(pmrg_r dC dA).1, (pmrg_r dC dA).2]; exact ⟨by decide +kernel, by decide +kernel⟩
theorem s6 : pmrgX [] [] = [] ∧ pmrgE [] [] = 0 := by rw [(pmrg_r dN dN).1, (pmrg_r dN dN).2]; exact ⟨by decide +kernel, by decide +kernel⟩
theorem s7 : pputX [] c0 = [] ∧ pputE [] c0 = 350 := by rw [(pput_r dN rfl).1, (pput_r dN rfl).2]; exact ⟨by decide +kernel, by decide +kernel⟩
theorem s8 : fndR bC [0, 0, 1] = none ∧ chkB bC = 0 := ⟨by decide +kernel, by decide +kernel⟩
theorem s9 : fndR bC [0, 0, 0] = some (kc 0 9) ∧ chkB bC = 0 := ⟨by decide +kernel, by decide +kernel⟩
theorem s10 : fndR [] [0, 0, 0] = none ∧ chkB [] = 0 := ⟨by decide +kernel, by decide +kernel⟩
theorem sK : chkB [[]] = 350 := by decide +kernel
theorem sL : chkB [[kc 1 4, kc 1 5], [kc 0 9]] = 350 := by decide +kernel
/-- short enough for the machine -/
abbrev smallX (b : Box) : Prop := ∀ x ∈ b, x.length < 9223372036854775808
abbrev smallC (b : Box) : Prop := ∀ x ∈ b, ∀ s ∈ x, s.C.length < 9223372036854775808
end Go.Proofs

/- Boxes: what the laws need, in plain Lean. -/
set_option maxRecDepth 100000
set_option autoImplicit false
set_option linter.unusedVariables false
set_option linter.unusedSimpArgs false
namespace Go.Proofs
open Go.XL
theorem good_pm {a b : Box} (ha : goodB a) (hb : goodB b) : goodB (pmB a b) := good_boxO fun s hs => (mem_mrg.1 hs).elim (good_mem ha) (good_mem hb)
theorem good_nil : goodB [] := fun x hx => by cases hx
theorem good_one {s : Card} (hs : okC s) : goodB [[s]] := good_snoc (b := []) good_nil ⟨Nat.le_refl 1, show 1 ≤ 2 by decide⟩ (fun t ht => by simp only [List.mem_singleton] at ht; subst ht; exact hs)
theorem pX_good {X : Box} (h : goodB X) : goodB (pX X) ∧ (pX X).length ≤ 4096 := by
 unfold pX; split
 ·exact ⟨good_nil, Nat.zero_le _⟩
 ·exact ⟨h, by omega⟩
theorem pput_good (b : Box) (s : Card) : goodB (pputX b s) ∧ (pputX b s).length ≤ 4096 := by
 unfold pputX; split
 ·rename_i h; exact pX_good (good_pm (good_of h.1) (good_one h.2))
 ·exact ⟨good_nil, Nat.zero_le _⟩
theorem pmrg_good (a b : Box) : goodB (pmrgX a b) ∧ (pmrgX a b).length ≤ 4096 := by
 unfold pmrgX; split
 ·rename_i h; exact pX_good (good_pm (good_of h.1) (good_of h.2))
 ·exact ⟨good_nil, Nat.zero_le _⟩
theorem small_of {X : Box} (h : goodB X ∧ X.length ≤ 4096) : X.length < 9223372036854775808 ∧ smallX X ∧ smallC X := ⟨by omega, fun x hx => by have := (h.1 x hx).1; omega, fun x hx s hs => by have := (okC_rng ((h.1 x hx).2 s hs)).2.2.2.1; omega⟩
theorem fnd_small {b : Box} {p : List Int} (h : smallC b) : ((fndR b p).getD c0).C.length < 9223372036854775808 := by
  unfold fndR fndC
  split
  · cases hf : b.find? fun x => decide (plcL (hd x) = p ∧ x.length = 1) with
    | none => exact (by decide : (0 : Nat) < 9223372036854775808)
    | some x =>
      have h1 := List.mem_of_find?_eq_some hf
      have h2 := List.find?_some hf
      simp only [decide_eq_true_eq] at h2
      exact h x h1 _ (hd_mem (by omega))
  · exact (by decide : (0 : Nat) < 9223372036854775808)
theorem IsBox.d32 {P : Card → Prop} {r : Box} (h : IsBox P r) : D32 r := fun x hx s hs => (h.wf s (h.sub x hx s hs)).2
theorem pm_len {a b : Box} (ha : chkB a = 0) (hb : chkB b = 0) : (pmB a b).length ≤ 2 * (a.length + b.length) := by
 have h1 := len_boxO (mrg a.flatten b.flatten)
 rw [len_mrg] at h1
 have h2 := flat_len (good_of ha)
 have h3 := flat_len (good_of hb)
 unfold pmB; omega
/-- what a merge of valid boxes of few slots gives -/
structure Mg (a b r : Box) : Prop where
 e : pmrgE a b = 0
 x : pmrgX a b = r
 chk : chkB r = 0
 d : D32 r
 len : r.length ≤ 2 * (a.length + b.length)
 is : IsBox (fun s => s ∈ a.flatten ∨ s ∈ b.flatten) r
theorem mg {a b : Box} (ha : chkB a = 0) (hb : chkB b = 0) (hD : D32 a) (hE : D32 b) (hl : a.length + b.length ≤ 2000) : Mg a b (pmrgX a b) := by
 have hlen := pm_len ha hb
 have hn : ¬ 4096 < (pmB a b).length := by omega
 have e1 := (pmrg_3 ha hb).1.trans (p_0 hn).1
 have e2 := (pmrg_3 ha hb).2.trans (p_0 hn).2
 have is := pm_is (IsBox.of ha hD) (IsBox.of hb hE)
 rw [e2]
 exact ⟨e1, e2, is.chk (by omega), is.d32, hlen, is⟩
/-- merging, whatever the order -/
structure Jn (l m o : Box) : Prop where
 s1 : pmrgX l m = pmrgX m l
 e1 : pmrgE (pmrgX l m) o = 0
 e2 : pmrgE l (pmrgX m o) = 0
 e3 : pmrgE (pmrgX (pmrgX l m) o) l = 0
 e4 : pmrgE l l = 0
 s2 : pmrgX (pmrgX l m) o = pmrgX l (pmrgX m o)
 s3 : pmrgX (pmrgX (pmrgX l m) o) l = pmrgX (pmrgX l m) o
 s4 : pmrgX l l = l
 c : chkB (pmrgX (pmrgX l m) o) = 0
end Go.Proofs

/- The walks of the functions of boxes: what each of them computes, at any input. -/
set_option maxRecDepth 100000
set_option autoImplicit false
set_option linter.unusedVariables false
set_option linter.unusedSimpArgs false
namespace Go.Proofs
open Go.XL



theorem card_fn (j n : Int) (H : Hp) : FnC Try.prog 24 #[.int .i64 j, .int .i64 n] H [] (RetR (fun v H2 _ => CrdU (kc j n) H2 v)) := by
 refine FnC.introC (args := [.int .i64 j, .int .i64 n]) Try.func24 rfl rfl Try.ntmps24 rfl rfl rfl fun G rest => ?_
 refine XC.seq ?_; refine XC.region ?_; refine XO.alloc ze_27 rfl (fun b4 => ?_); refine XO.nil ?_; refine XC.seq2 ?_; refine XC.seq ?_; refine XC.region ?_; refine XO.move rfl rfl ?_; refine XO.move rfl rfl ?_; refine XO.buildSlice rfl Try.underlying23 ty_3 ze_3 rfl rfl rfl (fun b7 => ?_); refine XO.publish 0 rfl rfl rfl (fun HP7 oP7 hleP7 hbP7 hoP7 => ?_)
 have hsl7 := SlR.lit (ρ := (intR .i64)) (l := [n]) hbP7 hoP7 (RowsR.one1 rfl)
 refine XO.build bk_27 bf_27 ze_27 rfl rfl rfl ?_; refine XO.storeO 0 rfl rfl rfl rfl ty_27 rfl rfl rfl rfl rfl ?_; refine XO.nil ?_; refine XC.seq2 ?_; refine XC.ret ?_; refine ⟨rfl, _, [], (resC_cell 0 rfl rfl ty_27 rfl rfl resC_nil), (by repeat (first | exact List.Sublist.refl _ | apply List.Sublist.cons)), RetR.mk ?_⟩
 exact ⟨_, _, rfl, hsl7⟩

theorem slot_fn (x : List Card) (a : Option Addr) (c : Nat) (H : Hp) : FnC Try.prog 25 #[.slice a x.length c] H [] (RetR (fun v _ _ => v = .agg ⟨[.slice a x.length c]⟩)) := by
 refine FnC.introC (args := [.slice a x.length c]) Try.func25 rfl rfl Try.ntmps25 rfl rfl rfl fun G rest => ?_
 refine XC.seq ?_; refine XC.region ?_; refine XO.alloc ze_50 rfl (fun b2 => ?_); refine XO.nil ?_; refine XC.seq2 ?_; refine XC.seq ?_; refine XC.region ?_; refine XO.move rfl rfl ?_; refine XO.build bk_50 bf_50 ze_50 rfl rfl rfl ?_; refine XO.storeO 0 rfl rfl rfl rfl ty_50 rfl rfl rfl rfl rfl ?_; refine XO.nil ?_; refine XC.seq2 ?_; refine XC.ret ?_; refine ⟨rfl, _, [], (resC_cell 0 rfl rfl ty_50 rfl rfl resC_nil), (by repeat (first | exact List.Sublist.refl _ | apply List.Sublist.cons)), RetR.mk ?_⟩
 rfl

end Go.Proofs
