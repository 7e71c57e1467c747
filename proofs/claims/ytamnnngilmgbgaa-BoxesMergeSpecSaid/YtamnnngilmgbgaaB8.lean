/- The walks of the functions of boxes: what each of them computes, at any input. -/
import Derived.Test.YtamnnngilmgbgaaB7
import Derived.Test.YtamnnngilmgbgaaB3
set_option maxRecDepth 100000
set_option autoImplicit false
set_option linter.unusedVariables false
set_option linter.unusedSimpArgs false
namespace Go.Proofs
open Go.XL

theorem bf_50 : structF Try.prog 50 = some [(0, 1)] := by kernel_rfl
theorem bk_50 : structK Try.prog 50 = true := by kernel_rfl
theorem by_27 : Nat.ble (Try.prog.bytesOf 27) 4096 = true := by kernel_rfl
theorem by_50 : Nat.ble (Try.prog.bytesOf 50) 4096 = true := by kernel_rfl

set_option maxRecDepth 100000 in
set_option maxHeartbeats 1600000 in
theorem with_fn (x : List Card) (s : Card) (a b : Option Addr) (c d : Nat) (H : Hp) (hs : SlR cardR H a c x) (ht : SlR (intR .i64) H b d s.C) (hD : s.D.length = 32) (hxk : ∀ y ∈ x, okC y) (hok : okC s) (hl : x.length ≤ 100000) : FnC Try.prog 45 #[.agg ⟨[.slice a x.length c]⟩, .agg ⟨cardV s.R s.E s.J s.C.length s.D b d⟩] H [] (RetR (fun v H2 _ => SltU (withC x s) H2 v)) := by
 refine FnC.introC (args := [.agg ⟨[.slice a x.length c]⟩, .agg ⟨cardV s.R s.E s.J s.C.length s.D b d⟩]) Try.func45 rfl rfl Try.ntmps45 rfl rfl rfl fun G rest => ?_
 refine XC.seq ?_; refine XC.region ?_; refine XO.box rfl rfl rfl (fun b2 => ?_); refine XO.box rfl rfl rfl (fun b3 => ?_); refine XO.alloc ze_50 rfl (fun b4 => ?_); refine XO.nil ?_; refine XC.seq2 ?_; refine XC.seq ?_; refine XC.region ?_; refine XO.assign rfl rfl ?_; refine XO.nil ?_; refine XC.seq2 ?_; refine XC.seq ?_; refine XC.region ?_; refine XO.assign rfl rfl ?_; refine XO.nil ?_; refine XC.seq2 ?_; refine XC.seq ?_; refine XC.seq ?_; refine XC.region ?_; refine XO.assign rfl rfl ?_; refine XO.nil ?_; refine XC.seq2 ?_; refine XC.block ?_; refine XC.keep [5, 6, 7, 2, 3, 4] rfl ?_; refine XC.open0 0 ?_; refine XC.loop (base := [(2, _), (3, _), (4, _)]) (fun ζ : Nat × (Bool) × (List Card) × ((Nat × SObj) × Option Addr × Nat) => [(5, .slice ζ.2.2.2.2.1 (ζ.2.2.1).length ζ.2.2.2.2.2), (6, .bool ζ.2.1), (7, .int .i64 (ζ.1 : Nat))]) (fun ζ Hl own => ζ.1 ≤ x.length ∧ ζ.2.2.2.1 :: (b4, .cells 50 [.slice none 0 0]) :: (b3, .cells 27 (cardV s.R s.E s.J s.C.length s.D b d)) :: (b2, .cells 50 [.slice a x.length c]) :: rest = own ∧ Acc cardR 27 Hl ζ.2.2.2.1 ζ.2.2.2.2.1 ζ.2.2.2.2.2 (ζ.2.2.1) ∧ (WI s x (ζ.1) ζ.2.1 ζ.2.2.1) ∧ (∀ y ∈ x.take (ζ.1), ¬ textC y = textC s)) (fun ζ => x.length - ζ.1) (0, false, [], ((0, .nothing), none, 0)) (prov_cons (rfl) (prov_cons (rfl) (prov_cons (rfl) (prov_cons (rfl) (prov_cons (rfl) (prov_cons (rfl) prov_nil)))))) (by repeat (first | exact List.Sublist.refl _ | apply List.Sublist.cons_cons | apply List.Sublist.cons)) ⟨Nat.zero_le _, rfl, Acc.nil _ _ _ _, WI.start, by simp⟩ ?_; rintro ⟨k, dn, U, ⟨pw, aw, cw⟩⟩ Hl0 _ hle0 ⟨hkk, rfl, haccw, hW, hne⟩; replace hs := hs.mono hle0; replace ht := ht.mono hle0
 try dsimp only at hkk haccw hW hne ⊢
 refine XC.seq ?_; refine XC.seq ?_; refine XC.region ?_; refine XO.move rfl rfl ?_; refine XO.fieldAddr rfl fa_50_0 rfl ?_; refine XO.loadO 3 rfl rfl ty_31 rfl rfl rfl ?_; refine XO.lenS (ts := #[]) rfl Try.underlying31 rfl ?_; refine XO.lss rfl rfl rfl ?_; refine XO.nil ?_; refine XC.seq2 ?_; refine XC.cond rfl (fun c0_1 => ?_) (fun c0_1 => ?_)
 ·refine XC.skip ?_; refine XC.seq2 ?_; refine XC.seq ?_; refine XC.block ?_; refine XC.seq ?_; refine XC.seq ?_; refine XC.keep [2, 3, 4, 5, 6, 7] rfl ?_; obtain ⟨bEY, oEY, rfl⟩ := hs.addr (by omega); obtain ⟨_, xY, hxY, ⟨axY, cxY, rfl, hdY, hDY⟩, hpY⟩ := hs.elem (k) (by omega)
  apply XC.drawG (fun _ => True) trivial 7 [eqF _, eqF _, eqF _, eqF _, eqF _, eqF _, eqF _] follows (by kernel_rfl) (by kernel_rfl) ⟨eqF_mono _, eqF_mono _, eqF_mono _, eqF_mono _, eqF_mono _, eqF_mono _, eqF_mono _, trivial⟩ ?steps2 ?tail2
  case steps2 =>
   refine stepsD_cons rfl ?_ ?_
   ·intro X HD hleD _
    replace hs := hs.mono hleD; replace ht := ht.mono hleD; replace haccw := haccw.mono hleD; replace hpY := hpY.mono hleD; replace hdY := hdY.mono hleD; replace hle0 := hle0.trans hleD; refine withPreds_nil rfl ?_; refine XO.fieldAddr rfl fa_50_0 rfl ?_; refine XO.nil ?_
    exact stepQ_ok trivial (rfl)
   refine stepsD_cons rfl ?_ ?_
   ·intro X HD hleD _
    replace hs := hs.mono hleD; replace ht := ht.mono hleD; replace haccw := haccw.mono hleD; replace hpY := hpY.mono hleD; replace hdY := hdY.mono hleD; replace hle0 := hle0.trans hleD; refine withPreds_cons rfl rfl ?_; rintro _ rfl; refine withPreds_nil rfl ?_; refine XO.loadO 3 rfl rfl ty_31 rfl rfl rfl ?_; refine XO.nil ?_
    exact stepQ_ok trivial (rfl)
   refine stepsD_cons rfl ?_ ?_
   ·intro X HD hleD _
    replace hs := hs.mono hleD; replace ht := ht.mono hleD; replace haccw := haccw.mono hleD; replace hpY := hpY.mono hleD; replace hdY := hdY.mono hleD; replace hle0 := hle0.trans hleD; refine withPreds_nil rfl ?_; refine XO.move rfl rfl ?_; refine XO.nil ?_
    exact stepQ_ok trivial (rfl)
   refine stepsD_cons rfl ?_ ?_
   ·intro X HD hleD _
    replace hs := hs.mono hleD; replace ht := ht.mono hleD; replace haccw := haccw.mono hleD; replace hpY := hpY.mono hleD; replace hdY := hdY.mono hleD; replace hle0 := hle0.trans hleD; refine withPreds_cons rfl rfl ?_; rintro _ rfl; refine withPreds_cons rfl rfl ?_; rintro _ rfl; refine withPreds_nil rfl ?_; refine XO.indexE rfl rfl Try.underlying31 ty_27 (by omega) (by omega) rfl ?_; refine XO.nil ?_
    exact stepQ_ok trivial (rfl)
   refine stepsD_cons rfl ?_ ?_
   ·intro X HD hleD _
    replace hs := hs.mono hleD; replace ht := ht.mono hleD; replace haccw := haccw.mono hleD; replace hpY := hpY.mono hleD; replace hdY := hdY.mono hleD; replace hle0 := hle0.trans hleD; refine withPreds_cons rfl rfl ?_; rintro _ rfl; refine withPreds_nil rfl ?_; refine XO.loadH rfl (by assumption) ty_27 rfl rfl rfl ?_; refine XO.nil ?_
    exact stepQ_ok trivial (rfl)
   refine stepsD_cons rfl ?_ ?_
   ·intro X HD hleD _
    replace hs := hs.mono hleD; replace ht := ht.mono hleD; replace haccw := haccw.mono hleD; replace hpY := hpY.mono hleD; replace hdY := hdY.mono hleD; replace hle0 := hle0.trans hleD; refine withPreds_cons rfl rfl ?_; rintro _ rfl; refine withPreds_nil rfl ?_; refine XO.callH rfl (rtext_fn xY _ _ _ hdY hDY (hxk _ (List.mem_of_getElem? hxY))) rfl ?_; rintro _ HN20 hleN20 rfl; replace hs := hs.mono hleN20; replace ht := ht.mono hleN20; replace haccw := haccw.mono hleN20; replace hpY := hpY.mono hleN20; replace hdY := hdY.mono hleN20; replace hle0 := hle0.trans hleN20; refine XO.nil ?_
    exact stepQ_ok trivial (rfl)
   refine stepsD_cons rfl ?_ ?_
   ·intro X HD hleD _
    replace hs := hs.mono hleD; replace ht := ht.mono hleD; replace haccw := haccw.mono hleD; replace hpY := hpY.mono hleD; replace hdY := hdY.mono hleD; replace hle0 := hle0.trans hleD; refine withPreds_nil rfl ?_; refine XO.loadO 2 rfl rfl ty_27 rfl rfl rfl ?_; refine XO.nil ?_
    exact stepQ_ok trivial (rfl)
   exact stepsD_end rfl
  case tail2 =>
   intro HD hleD _
   replace hs := hs.mono hleD; replace ht := ht.mono hleD; replace haccw := haccw.mono hleD; replace hpY := hpY.mono hleD; replace hdY := hdY.mono hleD; replace hle0 := hle0.trans hleD; refine withPreds_cons rfl rfl ?_; rintro _ rfl; refine withPreds_cons rfl rfl ?_; rintro _ rfl; refine withPreds_cons rfl rfl ?_; rintro _ rfl; refine withPreds_cons rfl rfl ?_; rintro _ rfl; refine withPreds_cons rfl rfl ?_; rintro _ rfl; refine withPreds_cons rfl rfl ?_; rintro _ rfl; refine withPreds_cons rfl rfl ?_; rintro _ rfl; refine withPreds_nil rfl ?_; refine XO.callH rfl (rtext_fn s _ _ _ ht hD hok) rfl ?_; rintro _ HN22 hleN22 rfl; replace hs := hs.mono hleN22; replace ht := ht.mono hleN22; replace haccw := haccw.mono hleN22; replace hpY := hpY.mono hleN22; replace hdY := hdY.mono hleN22; replace hle0 := hle0.trans hleN22; refine XO.eqlS rfl rfl rfl ?_; refine XO.nil ?_; refine XC.seq2 ?_; refine XC.cond rfl (fun c1_6 => ?_) (fun c1_6 => ?_)
   ·refine XC.seq ?_; refine XC.region ?_; refine XO.loadO 3 rfl rfl ty_50 rfl rfl rfl ?_; refine XO.storeO 1 rfl rfl rfl rfl ty_50 rfl rfl rfl rfl rfl ?_; refine XO.nil ?_; refine XC.seq2 ?_; refine XC.ret ?_; refine seqX_ret ?_; refine blockR ?_; refine seqX_ret ?_; refine loopX_ret ?_; refine blockR ?_; refine seqX_ret ?_; refine ⟨rfl, _, [], (resC_cell 1 rfl rfl ty_50 rfl rfl resC_nil), (by repeat (first | exact List.Sublist.refl _ | apply List.Sublist.cons)), RetR.mk ?_⟩
    first | exact SltU.same (List.mem_of_getElem? hxY) (by assumption) hs | exact SltU.cut hne hU hls60 hss60
   ·refine XC.skip ?_; refine XC.seq2 ?_; refine XC.seq ?_; refine XC.seq ?_
    cases dn
    ·skip
     refine XC.keep [2, 3, 4, 5, 6, 7] rfl ?_; obtain ⟨_, xZ, hxZ, ⟨axZ, cxZ, rfl, hdZ, hDZ⟩, hpZ⟩ := hs.elem (k) (by omega); obtain rfl := Option.some.inj (hxY.symm.trans hxZ)
     apply XC.drawH (fun _ => True) trivial [] (by decide) (fun _ _ _ _ => True) (fun _ _ _ _ _ _ h => h) 10 [eqF _, eqF _, eqF _, eqF _, eqF _, eqF _, eqF _, eqF _, eqF _, eqF _] follows (by kernel_rfl) ⟨eqF_mono _, eqF_mono _, eqF_mono _, eqF_mono _, eqF_mono _, eqF_mono _, eqF_mono _, eqF_mono _, eqF_mono _, eqF_mono _, trivial⟩ (by decide) ?steps7 ?tail7
     case steps7 =>
      refine stepsH_cons rfl ?_ ?_
      ·intro X ext HD hleD _
       replace hs := hs.mono hleD; replace ht := ht.mono hleD; replace haccw := haccw.mono hleD; replace hpY := hpY.mono hleD; replace hdY := hdY.mono hleD; replace hpZ := hpZ.mono hleD; replace hdZ := hdZ.mono hleD; replace hle0 := hle0.trans hleD; refine withP_nil rfl ?_; refine XO.move rfl rfl ?_; refine XO.nil ?_; exact stepQN_ok rfl trivial (rfl)
      refine stepsH_cons rfl ?_ ?_
      ·intro X ext HD hleD _
       replace hs := hs.mono hleD; replace ht := ht.mono hleD; replace haccw := haccw.mono hleD; replace hpY := hpY.mono hleD; replace hdY := hdY.mono hleD; replace hpZ := hpZ.mono hleD; replace hdZ := hdZ.mono hleD; replace hle0 := hle0.trans hleD; refine withP_cons rfl rfl ?_; rintro _ rfl; refine withP_nil rfl ?_; refine XO.notB rfl rfl ?_; refine XO.nil ?_; exact stepQN_ok rfl trivial (rfl)
      refine stepsH_cons rfl ?_ ?_
      ·intro X ext HD hleD _
       replace hs := hs.mono hleD; replace ht := ht.mono hleD; replace haccw := haccw.mono hleD; replace hpY := hpY.mono hleD; replace hdY := hdY.mono hleD; replace hpZ := hpZ.mono hleD; replace hdZ := hdZ.mono hleD; replace hle0 := hle0.trans hleD; refine withP_cons rfl rfl ?_; rintro _ rfl; refine withP_nil rfl ?_; refine XO.move rfl rfl ?_; refine XO.nil ?_; exact stepQN_ok rfl trivial (rfl)
      refine stepsH_cons rfl ?_ ?_
      ·intro X ext HD hleD _
       replace hs := hs.mono hleD; replace ht := ht.mono hleD; replace haccw := haccw.mono hleD; replace hpY := hpY.mono hleD; replace hdY := hdY.mono hleD; replace hpZ := hpZ.mono hleD; replace hdZ := hdZ.mono hleD; replace hle0 := hle0.trans hleD; refine withP_cons rfl rfl ?_; rintro _ rfl; refine withP_nil rfl ?_; refine XO.guardT rfl rfl (rfl) rfl ?_; refine XO.loadO 2 rfl rfl ty_27 rfl rfl rfl ?_; refine XO.nil ?_; exact stepQN_ok rfl trivial (rfl)
      refine stepsH_cons rfl ?_ ?_
      ·intro X ext HD hleD _
       replace hs := hs.mono hleD; replace ht := ht.mono hleD; replace haccw := haccw.mono hleD; replace hpY := hpY.mono hleD; replace hdY := hdY.mono hleD; replace hpZ := hpZ.mono hleD; replace hdZ := hdZ.mono hleD; replace hle0 := hle0.trans hleD; refine withP_cons rfl rfl ?_; rintro _ rfl; refine withP_cons rfl rfl ?_; rintro _ rfl; refine withP_nil rfl ?_; refine XO.guardT rfl rfl (rfl) rfl ?_; refine XO.callH rfl (rtext_fn s _ _ _ ht hD hok) rfl ?_; rintro _ HN29 hleN29 rfl; replace hs := hs.mono hleN29; replace ht := ht.mono hleN29; replace haccw := haccw.mono hleN29; replace hpY := hpY.mono hleN29; replace hdY := hdY.mono hleN29; replace hpZ := hpZ.mono hleN29; replace hdZ := hdZ.mono hleN29; replace hle0 := hle0.trans hleN29; refine XO.nil ?_; exact stepQN_ok rfl trivial (rfl)
      refine stepsH_cons rfl ?_ ?_
      ·intro X ext HD hleD _
       replace hs := hs.mono hleD; replace ht := ht.mono hleD; replace haccw := haccw.mono hleD; replace hpY := hpY.mono hleD; replace hdY := hdY.mono hleD; replace hpZ := hpZ.mono hleD; replace hdZ := hdZ.mono hleD; replace hle0 := hle0.trans hleD; refine withP_cons rfl rfl ?_; rintro _ rfl; refine withP_nil rfl ?_; refine XO.guardT rfl rfl (rfl) rfl ?_; refine XO.fieldAddr rfl fa_50_0 rfl ?_; refine XO.nil ?_; exact stepQN_ok rfl trivial (rfl)
      refine stepsH_cons rfl ?_ ?_
      ·intro X ext HD hleD _
       replace hs := hs.mono hleD; replace ht := ht.mono hleD; replace haccw := haccw.mono hleD; replace hpY := hpY.mono hleD; replace hdY := hdY.mono hleD; replace hpZ := hpZ.mono hleD; replace hdZ := hdZ.mono hleD; replace hle0 := hle0.trans hleD; refine withP_cons rfl rfl ?_; rintro _ rfl; refine withP_cons rfl rfl ?_; rintro _ rfl; refine withP_nil rfl ?_; refine XO.guardT rfl rfl (rfl) rfl ?_; refine XO.loadO 3 rfl rfl ty_31 rfl rfl rfl ?_; refine XO.nil ?_; exact stepQN_ok rfl trivial (rfl)
      refine stepsH_cons rfl ?_ ?_
      ·intro X ext HD hleD _
       replace hs := hs.mono hleD; replace ht := ht.mono hleD; replace haccw := haccw.mono hleD; replace hpY := hpY.mono hleD; replace hdY := hdY.mono hleD; replace hpZ := hpZ.mono hleD; replace hdZ := hdZ.mono hleD; replace hle0 := hle0.trans hleD; refine withP_cons rfl rfl ?_; rintro _ rfl; refine withP_nil rfl ?_; refine XO.guardT rfl rfl (rfl) rfl ?_; refine XO.move rfl rfl ?_; refine XO.nil ?_; exact stepQN_ok rfl trivial (rfl)
      refine stepsH_cons rfl ?_ ?_
      ·intro X ext HD hleD _
       replace hs := hs.mono hleD; replace ht := ht.mono hleD; replace haccw := haccw.mono hleD; replace hpY := hpY.mono hleD; replace hdY := hdY.mono hleD; replace hpZ := hpZ.mono hleD; replace hdZ := hdZ.mono hleD; replace hle0 := hle0.trans hleD; refine withP_cons rfl rfl ?_; rintro _ rfl; refine withP_cons rfl rfl ?_; rintro _ rfl; refine withP_cons rfl rfl ?_; rintro _ rfl; refine withP_nil rfl ?_; refine XO.guardT rfl rfl (rfl) rfl ?_; refine XO.indexE rfl rfl Try.underlying31 ty_27 (by omega) (by omega) rfl ?_; refine XO.nil ?_; exact stepQN_ok rfl trivial (rfl)
      refine stepsH_cons rfl ?_ ?_
      ·intro X ext HD hleD _
       replace hs := hs.mono hleD; replace ht := ht.mono hleD; replace haccw := haccw.mono hleD; replace hpY := hpY.mono hleD; replace hdY := hdY.mono hleD; replace hpZ := hpZ.mono hleD; replace hdZ := hdZ.mono hleD; replace hle0 := hle0.trans hleD; refine withP_cons rfl rfl ?_; rintro _ rfl; refine withP_cons rfl rfl ?_; rintro _ rfl; refine withP_nil rfl ?_; refine XO.guardT rfl rfl (rfl) rfl ?_; refine XO.loadH rfl (by assumption) ty_27 rfl rfl rfl ?_; refine XO.nil ?_; exact stepQN_ok rfl trivial (rfl)
      exact stepsH_end rfl
     case tail7 =>
      intro HD hleD _
      replace hs := hs.mono hleD; replace ht := ht.mono hleD; replace haccw := haccw.mono hleD; replace hpY := hpY.mono hleD; replace hdY := hdY.mono hleD; replace hpZ := hpZ.mono hleD; replace hdZ := hdZ.mono hleD; replace hle0 := hle0.trans hleD; refine withP_cons rfl rfl ?_; rintro _ rfl; refine withP_cons rfl rfl ?_; rintro _ rfl; refine withP_cons rfl rfl ?_; rintro _ rfl; refine withP_cons rfl rfl ?_; rintro _ rfl; refine withP_cons rfl rfl ?_; rintro _ rfl; refine withP_cons rfl rfl ?_; rintro _ rfl; refine withP_cons rfl rfl ?_; rintro _ rfl; refine withP_cons rfl rfl ?_; rintro _ rfl; refine withP_cons rfl rfl ?_; rintro _ rfl; refine withP_cons rfl rfl ?_; rintro _ rfl; refine withP_nil rfl ?_; refine withEnts_nil ?_; refine XO.guardT rfl rfl (rfl) rfl ?_; refine XO.callH rfl (rtext_fn xY _ _ _ hdZ hDZ (hxk _ (List.mem_of_getElem? hxY))) rfl ?_; rintro _ HN35 hleN35 rfl; replace hs := hs.mono hleN35; replace ht := ht.mono hleN35; replace haccw := haccw.mono hleN35; replace hpY := hpY.mono hleN35; replace hdY := hdY.mono hleN35; replace hpZ := hpZ.mono hleN35; replace hdZ := hdZ.mono hleN35; replace hle0 := hle0.trans hleN35; refine XO.guardT rfl rfl (rfl) rfl ?_; refine XO.lssS rfl rfl rfl ?_; refine XO.pickT rfl (rfl) rfl rfl ?_; refine XO.nil ?_; refine XC.seq2 ?_; refine XC.cond rfl (fun c2_12 => ?_) (fun c2_12 => ?_)
      ·refine XC.seq ?_; refine XC.region ?_; refine XO.move rfl rfl ?_; refine XO.loadO 2 rfl rfl ty_27 rfl rfl rfl ?_; refine XO.buildSlice rfl Try.underlying31 ty_27 ze_27 rfl rfl rfl (fun b40 => ?_); refine XO.publish 0 rfl rfl rfl (fun HP40 oP40 hleP40 hbP40 hoP40 => ?_); replace hs := hs.mono hleP40; replace ht := ht.mono hleP40; replace haccw := haccw.mono hleP40; replace hpY := hpY.mono hleP40; replace hdY := hdY.mono hleP40; replace hpZ := hpZ.mono hleP40; replace hdZ := hdZ.mono hleP40; replace hle0 := hle0.trans hleP40
       have hsl40 := SlR.lit (ρ := cardR) (l := [s]) hbP40 hoP40 (RowsR.one1 ⟨_, _, rfl, ht, hD⟩)
       refine XO.appendA 0 rfl rfl haccw rfl rfl hsl40 rfl Try.underlying31 ty_27 ze_27 rfl by_27 (by have := hW.len; simp; omega) rfl (fun p41 a41 c41 hacc41 => ?_); refine XO.assign rfl rfl ?_; refine XO.nil ?_; refine XC.seq2 ?_; refine XC.region ?_; refine XO.assign rfl rfl ?_; refine XO.nil ?_; refine XC.seq2 ?_; refine XC.region ?_; refine XO.move rfl rfl ?_; refine XO.fieldAddr rfl fa_50_0 rfl ?_; refine XO.loadO 3 rfl rfl ty_31 rfl rfl rfl ?_; refine XO.move rfl rfl ?_; refine XO.indexN rfl hs rfl Try.underlying31 ty_27 (by omega) rfl ?_; rintro eb46 eo46 _ x46 hx46 ⟨ax46, cx46, rfl, hd46, hD46⟩ hp46; obtain rfl := Option.some.inj (hxY.symm.trans hx46); refine XO.loadH rfl (by assumption) ty_27 rfl rfl rfl ?_; refine XO.buildSlice rfl Try.underlying31 ty_27 ze_27 rfl rfl rfl (fun b48 => ?_); refine XO.publish 0 rfl rfl rfl (fun HP48 oP48 hleP48 hbP48 hoP48 => ?_); replace hs := hs.mono hleP48; replace ht := ht.mono hleP48; replace hpY := hpY.mono hleP48; replace hdY := hdY.mono hleP48; replace hpZ := hpZ.mono hleP48; replace hdZ := hdZ.mono hleP48; replace hsl40 := hsl40.mono hleP48; replace hacc41 := hacc41.mono hleP48; replace hp46 := hp46.mono hleP48; replace hd46 := hd46.mono hleP48; replace hle0 := hle0.trans hleP48
       have hsl48 := SlR.lit (ρ := cardR) (l := [xY]) hbP48 hoP48 (RowsR.one1 ⟨_, _, rfl, hd46, hD46⟩)
       refine XO.appendA 0 rfl rfl hacc41 rfl rfl hsl48 rfl Try.underlying31 ty_27 ze_27 rfl by_27 (by have := hW.len; simp; omega) rfl (fun p49 a49 c49 hacc49 => ?_); refine XO.assign rfl rfl ?_; refine XO.nil ?_; refine blockN ?_; refine XC.seq2 ?_; refine XC.region ?_; refine XO.move rfl rfl ?_; refine XO.add rfl rfl (wrap_i64 (by omega) (by omega)) rfl ?_; refine XO.assign rfl rfl ?_; refine XO.nil ?_; refine loop_next ((k + 1, true, U ++ [s] ++ [xY], (p49, a49, c49))) (by show x.length - (k + 1) < x.length - k; omega) (prov_cons (by first | rfl) (prov_cons (rfl) (prov_cons (rfl) (prov_cons (rfl) (prov_cons (rfl) (prov_cons (rfl) prov_nil)))))) (⟨by show k + 1 ≤ x.length; omega, rfl, by first | (exact hacc49), by first | exact hW.ins hxY rfl (by assumption) | exact hW.no hxY (fun h => by first | exact absurd h.2 (by assumption) | exact Bool.noConfusion h.1), all_snocP (p := fun y => ¬ textC y = textC s) hne hxY (by assumption)⟩) (by repeat (first | exact List.Sublist.refl _ | apply List.Sublist.cons_cons | apply List.Sublist.cons)) (hle0)
      ·refine XC.skip ?_; refine XC.seq2 ?_; refine XC.region ?_; refine XO.move rfl rfl ?_; refine XO.fieldAddr rfl fa_50_0 rfl ?_; refine XO.loadO 3 rfl rfl ty_31 rfl rfl rfl ?_; refine XO.move rfl rfl ?_; refine XO.indexN rfl hs rfl Try.underlying31 ty_27 (by omega) rfl ?_; rintro eb46 eo46 _ x46 hx46 ⟨ax46, cx46, rfl, hd46, hD46⟩ hp46; obtain rfl := Option.some.inj (hxY.symm.trans hx46); refine XO.loadH rfl (by assumption) ty_27 rfl rfl rfl ?_; refine XO.buildSlice rfl Try.underlying31 ty_27 ze_27 rfl rfl rfl (fun b48 => ?_); refine XO.publish 0 rfl rfl rfl (fun HP48 oP48 hleP48 hbP48 hoP48 => ?_); replace hs := hs.mono hleP48; replace ht := ht.mono hleP48; replace haccw := haccw.mono hleP48; replace hpY := hpY.mono hleP48; replace hdY := hdY.mono hleP48; replace hpZ := hpZ.mono hleP48; replace hdZ := hdZ.mono hleP48; replace hp46 := hp46.mono hleP48; replace hd46 := hd46.mono hleP48; replace hle0 := hle0.trans hleP48
       have hsl48 := SlR.lit (ρ := cardR) (l := [xY]) hbP48 hoP48 (RowsR.one1 ⟨_, _, rfl, hd46, hD46⟩)
       refine XO.appendA 0 rfl rfl haccw rfl rfl hsl48 rfl Try.underlying31 ty_27 ze_27 rfl by_27 (by have := hW.len; simp; omega) rfl (fun p49 a49 c49 hacc49 => ?_); refine XO.assign rfl rfl ?_; refine XO.nil ?_; refine blockN ?_; refine XC.seq2 ?_; refine XC.region ?_; refine XO.move rfl rfl ?_; refine XO.add rfl rfl (wrap_i64 (by omega) (by omega)) rfl ?_; refine XO.assign rfl rfl ?_; refine XO.nil ?_; refine loop_next ((k + 1, false, U ++ [xY], (p49, a49, c49))) (by show x.length - (k + 1) < x.length - k; omega) (prov_cons (by first | rfl) (prov_cons (rfl) (prov_cons (rfl) (prov_cons (rfl) (prov_cons (rfl) (prov_cons (rfl) prov_nil)))))) (⟨by show k + 1 ≤ x.length; omega, rfl, by first | (exact hacc49), by first | exact hW.ins hxY rfl (by assumption) | exact hW.no hxY (fun h => by first | exact absurd h.2 (by assumption) | exact Bool.noConfusion h.1), all_snocP (p := fun y => ¬ textC y = textC s) hne hxY (by assumption)⟩) (by repeat (first | exact List.Sublist.refl _ | apply List.Sublist.cons_cons | apply List.Sublist.cons)) (hle0)
    ·skip
     refine XC.keep [2, 3, 4, 5, 6, 7] rfl ?_
     apply XC.drawH (fun _ => True) trivial [] (by decide) (fun _ _ _ _ => True) (fun _ _ _ _ _ _ h => h) 10 [eqF _, eqF _, eqF _, eqF _, eqF _, eqF _, eqF _, eqF _, eqF _, eqF _] follows (by kernel_rfl) ⟨eqF_mono _, eqF_mono _, eqF_mono _, eqF_mono _, eqF_mono _, eqF_mono _, eqF_mono _, eqF_mono _, eqF_mono _, eqF_mono _, trivial⟩ (by decide) ?steps18 ?tail18
     case steps18 =>
      refine stepsH_cons rfl ?_ ?_
      ·intro X ext HD hleD _
       replace hs := hs.mono hleD; replace ht := ht.mono hleD; replace haccw := haccw.mono hleD; replace hpY := hpY.mono hleD; replace hdY := hdY.mono hleD; replace hle0 := hle0.trans hleD; refine withP_nil rfl ?_; refine XO.move rfl rfl ?_; refine XO.nil ?_; exact stepQN_ok rfl trivial (rfl)
      refine stepsH_cons rfl ?_ ?_
      ·intro X ext HD hleD _
       replace hs := hs.mono hleD; replace ht := ht.mono hleD; replace haccw := haccw.mono hleD; replace hpY := hpY.mono hleD; replace hdY := hdY.mono hleD; replace hle0 := hle0.trans hleD; refine withP_cons rfl rfl ?_; rintro _ rfl; refine withP_nil rfl ?_; refine XO.notB rfl rfl ?_; refine XO.nil ?_; exact stepQN_ok rfl trivial (rfl)
      refine stepsH_cons rfl ?_ ?_
      ·intro X ext HD hleD _
       replace hs := hs.mono hleD; replace ht := ht.mono hleD; replace haccw := haccw.mono hleD; replace hpY := hpY.mono hleD; replace hdY := hdY.mono hleD; replace hle0 := hle0.trans hleD; refine withP_cons rfl rfl ?_; rintro _ rfl; refine withP_nil rfl ?_; refine XO.move rfl rfl ?_; refine XO.nil ?_; exact stepQN_ok rfl trivial (rfl)
      refine stepsH_cons rfl ?_ ?_
      ·intro X ext HD hleD _
       replace hs := hs.mono hleD; replace ht := ht.mono hleD; replace haccw := haccw.mono hleD; replace hpY := hpY.mono hleD; replace hdY := hdY.mono hleD; replace hle0 := hle0.trans hleD; refine withP_cons rfl rfl ?_; rintro _ rfl; refine withP_nil rfl ?_; refine XO.guardF rfl rfl (rfl) rfl rfl ?_; refine XO.nil ?_; exact stepQN_ok rfl trivial (rfl)
      refine stepsH_cons rfl ?_ ?_
      ·intro X ext HD hleD _
       replace hs := hs.mono hleD; replace ht := ht.mono hleD; replace haccw := haccw.mono hleD; replace hpY := hpY.mono hleD; replace hdY := hdY.mono hleD; replace hle0 := hle0.trans hleD; refine withP_cons rfl rfl ?_; rintro _ rfl; refine withP_cons rfl rfl ?_; rintro _ rfl; refine withP_nil rfl ?_; refine XO.guardF rfl rfl (rfl) rfl rfl ?_; refine XO.nil ?_; exact stepQN_ok rfl trivial (rfl)
      refine stepsH_cons rfl ?_ ?_
      ·intro X ext HD hleD _
       replace hs := hs.mono hleD; replace ht := ht.mono hleD; replace haccw := haccw.mono hleD; replace hpY := hpY.mono hleD; replace hdY := hdY.mono hleD; replace hle0 := hle0.trans hleD; refine withP_cons rfl rfl ?_; rintro _ rfl; refine withP_nil rfl ?_; refine XO.guardF rfl rfl (rfl) rfl rfl ?_; refine XO.nil ?_; exact stepQN_ok rfl trivial (rfl)
      refine stepsH_cons rfl ?_ ?_
      ·intro X ext HD hleD _
       replace hs := hs.mono hleD; replace ht := ht.mono hleD; replace haccw := haccw.mono hleD; replace hpY := hpY.mono hleD; replace hdY := hdY.mono hleD; replace hle0 := hle0.trans hleD; refine withP_cons rfl rfl ?_; rintro _ rfl; refine withP_cons rfl rfl ?_; rintro _ rfl; refine withP_nil rfl ?_; refine XO.guardF rfl rfl (rfl) rfl rfl ?_; refine XO.nil ?_; exact stepQN_ok rfl trivial (rfl)
      refine stepsH_cons rfl ?_ ?_
      ·intro X ext HD hleD _
       replace hs := hs.mono hleD; replace ht := ht.mono hleD; replace haccw := haccw.mono hleD; replace hpY := hpY.mono hleD; replace hdY := hdY.mono hleD; replace hle0 := hle0.trans hleD; refine withP_cons rfl rfl ?_; rintro _ rfl; refine withP_nil rfl ?_; refine XO.guardF rfl rfl (rfl) rfl rfl ?_; refine XO.nil ?_; exact stepQN_ok rfl trivial (rfl)
      refine stepsH_cons rfl ?_ ?_
      ·intro X ext HD hleD _
       replace hs := hs.mono hleD; replace ht := ht.mono hleD; replace haccw := haccw.mono hleD; replace hpY := hpY.mono hleD; replace hdY := hdY.mono hleD; replace hle0 := hle0.trans hleD; refine withP_cons rfl rfl ?_; rintro _ rfl; refine withP_cons rfl rfl ?_; rintro _ rfl; refine withP_cons rfl rfl ?_; rintro _ rfl; refine withP_nil rfl ?_; refine XO.guardF rfl rfl (rfl) rfl rfl ?_; refine XO.nil ?_; exact stepQN_ok rfl trivial (rfl)
      refine stepsH_cons rfl ?_ ?_
      ·intro X ext HD hleD _
       replace hs := hs.mono hleD; replace ht := ht.mono hleD; replace haccw := haccw.mono hleD; replace hpY := hpY.mono hleD; replace hdY := hdY.mono hleD; replace hle0 := hle0.trans hleD; refine withP_cons rfl rfl ?_; rintro _ rfl; refine withP_cons rfl rfl ?_; rintro _ rfl; refine withP_nil rfl ?_; refine XO.guardF rfl rfl (rfl) rfl rfl ?_; refine XO.nil ?_; exact stepQN_ok rfl trivial (rfl)
      exact stepsH_end rfl
     case tail18 =>
      intro HD hleD _
      replace hs := hs.mono hleD; replace ht := ht.mono hleD; replace haccw := haccw.mono hleD; replace hpY := hpY.mono hleD; replace hdY := hdY.mono hleD; replace hle0 := hle0.trans hleD; refine withP_cons rfl rfl ?_; rintro _ rfl; refine withP_cons rfl rfl ?_; rintro _ rfl; refine withP_cons rfl rfl ?_; rintro _ rfl; refine withP_cons rfl rfl ?_; rintro _ rfl; refine withP_cons rfl rfl ?_; rintro _ rfl; refine withP_cons rfl rfl ?_; rintro _ rfl; refine withP_cons rfl rfl ?_; rintro _ rfl; refine withP_cons rfl rfl ?_; rintro _ rfl; refine withP_cons rfl rfl ?_; rintro _ rfl; refine withP_cons rfl rfl ?_; rintro _ rfl; refine withP_nil rfl ?_; refine withEnts_nil ?_; refine XO.guardF rfl rfl (rfl) rfl rfl ?_; refine XO.guardF rfl rfl (rfl) rfl rfl ?_; refine XO.pickF rfl (rfl) rfl rfl ?_; refine XO.nil ?_; refine XC.seq2 ?_; refine XC.condF rfl (rfl) ?_; refine XC.skip ?_; refine XC.seq2 ?_; refine XC.region ?_; refine XO.move rfl rfl ?_; refine XO.fieldAddr rfl fa_50_0 rfl ?_; refine XO.loadO 3 rfl rfl ty_31 rfl rfl rfl ?_; refine XO.move rfl rfl ?_; refine XO.indexN rfl hs rfl Try.underlying31 ty_27 (by omega) rfl ?_; rintro eb46 eo46 _ x46 hx46 ⟨ax46, cx46, rfl, hd46, hD46⟩ hp46; obtain rfl := Option.some.inj (hxY.symm.trans hx46); refine XO.loadH rfl (by assumption) ty_27 rfl rfl rfl ?_; refine XO.buildSlice rfl Try.underlying31 ty_27 ze_27 rfl rfl rfl (fun b48 => ?_); refine XO.publish 0 rfl rfl rfl (fun HP48 oP48 hleP48 hbP48 hoP48 => ?_); replace hs := hs.mono hleP48; replace ht := ht.mono hleP48; replace haccw := haccw.mono hleP48; replace hpY := hpY.mono hleP48; replace hdY := hdY.mono hleP48; replace hp46 := hp46.mono hleP48; replace hd46 := hd46.mono hleP48; replace hle0 := hle0.trans hleP48
      have hsl48 := SlR.lit (ρ := cardR) (l := [xY]) hbP48 hoP48 (RowsR.one1 ⟨_, _, rfl, hd46, hD46⟩)
      refine XO.appendA 0 rfl rfl haccw rfl rfl hsl48 rfl Try.underlying31 ty_27 ze_27 rfl by_27 (by have := hW.len; simp; omega) rfl (fun p49 a49 c49 hacc49 => ?_); refine XO.assign rfl rfl ?_; refine XO.nil ?_; refine blockN ?_; refine XC.seq2 ?_; refine XC.region ?_; refine XO.move rfl rfl ?_; refine XO.add rfl rfl (wrap_i64 (by omega) (by omega)) rfl ?_; refine XO.assign rfl rfl ?_; refine XO.nil ?_; refine loop_next ((k + 1, true, U ++ [xY], (p49, a49, c49))) (by show x.length - (k + 1) < x.length - k; omega) (prov_cons (by first | rfl) (prov_cons (rfl) (prov_cons (rfl) (prov_cons (rfl) (prov_cons (rfl) (prov_cons (rfl) prov_nil)))))) (⟨by show k + 1 ≤ x.length; omega, rfl, by first | (exact hacc49), by first | exact hW.ins hxY rfl (by assumption) | exact hW.no hxY (fun h => by first | exact absurd h.2 (by assumption) | exact Bool.noConfusion h.1), all_snocP (p := fun y => ¬ textC y = textC s) hne hxY (by assumption)⟩) (by repeat (first | exact List.Sublist.refl _ | apply List.Sublist.cons_cons | apply List.Sublist.cons)) (hle0)
 ·obtain rfl : k = x.length := by omega
  rw [List.take_length] at hne
  refine XC.exit ?_; refine seqX_exit ?_; refine loopX_exit ?_; refine blockHit rfl ?_; refine XC.seq2 ?_; refine XC.seq ?_; refine XC.seq ?_; refine XC.region ?_; refine XO.move rfl rfl ?_; refine XO.notB rfl rfl ?_; refine XO.nil ?_; refine XC.seq2 ?_; refine XC.condB rfl (fun c3_21 => ?_) (fun c3_21 => ?_)
  ·have hU := hW.fin_n (by simpa using c3_21)
   refine XC.region ?_; refine XO.move rfl rfl ?_; refine XO.loadO 2 rfl rfl ty_27 rfl rfl rfl ?_; refine XO.buildSlice rfl Try.underlying31 ty_27 ze_27 rfl rfl rfl (fun b54 => ?_); refine XO.publish 0 rfl rfl rfl (fun HP54 oP54 hleP54 hbP54 hoP54 => ?_); replace hs := hs.mono hleP54; replace ht := ht.mono hleP54; replace haccw := haccw.mono hleP54; replace hle0 := hle0.trans hleP54
   have hsl54 := SlR.lit (ρ := cardR) (l := [s]) hbP54 hoP54 (RowsR.one1 ⟨_, _, rfl, ht, hD⟩)
   refine XO.appendA 0 rfl rfl haccw rfl rfl hsl54 rfl Try.underlying31 ty_27 ze_27 rfl by_27 (by have := hW.len; simp; omega) rfl (fun p55 a55 c55 hacc55 => ?_); refine XO.assign rfl rfl ?_; refine XO.nil ?_; refine XC.seq2 ?_; refine XC.seq ?_; refine XC.region ?_; refine XO.publishA 0 rfl hacc55 rfl (fun HQ23 hleQ23 hsQ23 => ?_); replace hs := hs.mono hleQ23; replace ht := ht.mono hleQ23; replace hsl54 := hsl54.mono hleQ23; replace hle0 := hle0.trans hleQ23; refine XO.move rfl rfl ?_; refine XO.move rfl rfl ?_; refine XO.lenS (ts := #[]) rfl Try.underlying31 rfl ?_; refine XO.minI2 rfl rfl rfl ?_; refine XO.slice (lo' := 0) (hi' := min (((U ++ [s]).length : Nat) : Int) 2) (m' := _) rfl hsQ23 ev?_none (ev?_some rfl) ev?_none (by simp) (by omega) (by omega) (by omega) (by have := hsQ23.le; omega) (by omega) Try.underlying31 ty_27 rfl (fun as60 ls60 hls60 hss60 => ?_); refine XO.build bk_50 bf_50 ze_50 rfl rfl rfl ?_; refine XO.storeO 0 rfl rfl rfl rfl ty_50 rfl rfl rfl rfl rfl ?_; refine XO.nil ?_; refine XC.seq2 ?_; refine XC.ret ?_; refine ⟨rfl, _, [], (resC_cell 0 rfl rfl ty_50 rfl rfl resC_nil), (by repeat (first | exact List.Sublist.refl _ | apply List.Sublist.cons)), RetR.mk ?_⟩
   first | exact SltU.same (List.mem_of_getElem? hxY) (by assumption) hs | exact SltU.cut hne hU hls60 hss60
  ·have hU := hW.fin_y (by simpa using c3_21)
   refine XC.skip ?_; refine XC.seq2 ?_; refine XC.seq ?_; refine XC.region ?_; refine XO.publishA 0 rfl haccw rfl (fun HQ24 hleQ24 hsQ24 => ?_); replace hs := hs.mono hleQ24; replace ht := ht.mono hleQ24; replace hle0 := hle0.trans hleQ24; refine XO.move rfl rfl ?_; refine XO.move rfl rfl ?_; refine XO.lenS (ts := #[]) rfl Try.underlying31 rfl ?_; refine XO.minI2 rfl rfl rfl ?_; refine XO.slice (lo' := 0) (hi' := min ((U.length : Nat) : Int) 2) (m' := _) rfl hsQ24 ev?_none (ev?_some rfl) ev?_none (by simp) (by omega) (by omega) (by omega) (by have := hsQ24.le; omega) (by omega) Try.underlying31 ty_27 rfl (fun as60 ls60 hls60 hss60 => ?_); refine XO.build bk_50 bf_50 ze_50 rfl rfl rfl ?_; refine XO.storeO 0 rfl rfl rfl rfl ty_50 rfl rfl rfl rfl rfl ?_; refine XO.nil ?_; refine XC.seq2 ?_; refine XC.ret ?_; refine ⟨rfl, _, [], (resC_cell 0 rfl rfl ty_50 rfl rfl resC_nil), (by repeat (first | exact List.Sublist.refl _ | apply List.Sublist.cons)), RetR.mk ?_⟩
   first | exact SltU.same (List.mem_of_getElem? hxY) (by assumption) hs | exact SltU.cut hne hU hls60 hss60

set_option maxRecDepth 100000 in
set_option maxHeartbeats 1600000 in
theorem put_fn (l : Box) (s : Card) (a b : Option Addr) (c d : Nat) (H : Hp) (hs : SlR (slR cardR) H a c l) (ht : SlR (intR .i64) H b d s.C) (hD : s.D.length = 32) (hg : goodB l) (hok : okC s) (hl : l.length ≤ 100000) : FnC Try.prog 28 #[.slice a l.length c, .agg ⟨cardV s.R s.E s.J s.C.length s.D b d⟩] H [] (RetR (fun v H2 _ => PutU l s H2 v)) := by
 refine FnC.intro (args := [.slice a l.length c, .agg ⟨cardV s.R s.E s.J s.C.length s.D b d⟩]) Try.func28 rfl rfl Try.ntmps28 rfl rfl rfl fun G rest => ?_
 refine XC.seq ?_; refine XC.region ?_; refine XO.box rfl rfl rfl (fun b3 => ?_); refine XO.assign rfl rfl ?_; refine XO.nil ?_; refine XC.seq2 ?_; refine XC.seq ?_; refine XC.region ?_; refine XO.assign rfl rfl ?_; refine XO.nil ?_; refine XC.seq2 ?_; refine XC.seq ?_; refine XC.region ?_; refine XO.assign rfl rfl ?_; refine XO.nil ?_; refine XC.seq2 ?_; refine XC.seq ?_; refine XC.seq ?_; refine XC.region ?_; refine XO.assign rfl rfl ?_; refine XO.nil ?_; refine XC.seq2 ?_; refine XC.block ?_; refine XC.keep [5, 6, 7, 0, 3] rfl ?_; refine XC.open0 0 ?_; refine XC.loop (base := [(0, _), (3, _)]) (fun ζ : Nat × ((Nat × SObj) × Option Addr × Nat) => [(5, .slice ζ.2.2.1 ((putT s (l.take (ζ.1))).1).length ζ.2.2.2), (6, .bool (putT s (l.take (ζ.1))).2), (7, .int .i64 (ζ.1 : Nat))]) (fun ζ Hl own => ζ.1 ≤ l.length ∧ ζ.2.1 :: (b3, .cells 27 (cardV s.R s.E s.J s.C.length s.D b d)) :: rest = own ∧ Acc (slR cardR) 50 Hl ζ.2.1 ζ.2.2.1 ζ.2.2.2 ((putT s (l.take (ζ.1))).1)) (fun ζ => l.length - ζ.1) (0, ((0, .nothing), none, 0)) (prov_cons (rfl) (prov_cons (rfl) (prov_cons (rfl) (prov_cons (rfl) (prov_cons (rfl) prov_nil))))) (by repeat (first | exact List.Sublist.refl _ | apply List.Sublist.cons_cons | apply List.Sublist.cons)) ⟨Nat.zero_le _, rfl, Acc.nil _ _ _ _⟩ ?_; rintro ⟨k, ⟨pw, aw, cw⟩⟩ Hl0 _ hle0 ⟨hkk, rfl, haccw⟩; replace hs := hs.mono hle0; replace ht := ht.mono hle0
 try dsimp only at hkk haccw ⊢
 refine XC.seq ?_; refine XC.seq ?_; refine XC.region ?_; refine XO.move rfl rfl ?_; refine XO.move rfl rfl ?_; refine XO.lenS (ts := #[]) rfl Try.underlying22 rfl ?_; refine XO.lss rfl rfl rfl ?_; refine XO.nil ?_; refine XC.seq2 ?_; refine XC.cond rfl (fun c0_1 => ?_) (fun c0_1 => ?_)
 ·refine XC.skip ?_; refine XC.seq2 ?_; refine XC.seq ?_; refine XC.block ?_; refine XC.seq ?_; refine XC.seq ?_
  cases hdn : (putT s (l.take k)).2
  ·skip
   refine XC.keep [0, 3, 5, 6, 7] rfl ?_; obtain ⟨bEX, oEX, rfl⟩ := hs.addr (by omega); obtain ⟨_, xX, hxX, ⟨axX, cxX, rfl, hdX⟩, hpX⟩ := hs.elem (k) (by omega)
   have hkZ := (hg _ (List.mem_of_getElem? hxX)).1
   obtain ⟨bZ, oZ, rfl⟩ := hdX.addr (by omega); obtain ⟨_, xZ, hxZ, ⟨axZ, cxZ, rfl, hdZ, hDZ⟩, hpZ⟩ := hdX.elem 0 (by omega); obtain rfl := hd_at hxZ
   apply XC.drawH (fun _ => True) trivial [] (by decide) (fun _ _ _ _ => True) (fun _ _ _ _ _ _ h => h) 11 [eqF _, eqF _, eqF _, eqF _, eqF _, eqF _, eqF _, eqF _, eqF _, eqF _, eqF _] follows (by kernel_rfl) ⟨eqF_mono _, eqF_mono _, eqF_mono _, eqF_mono _, eqF_mono _, eqF_mono _, eqF_mono _, eqF_mono _, eqF_mono _, eqF_mono _, eqF_mono _, trivial⟩ (by decide) ?steps2 ?tail2
   case steps2 =>
    refine stepsH_cons rfl ?_ ?_
    ·intro X ext HD hleD _
     replace hs := hs.mono hleD; replace ht := ht.mono hleD; replace haccw := haccw.mono hleD; replace hpX := hpX.mono hleD; replace hdX := hdX.mono hleD; replace hpZ := hpZ.mono hleD; replace hdZ := hdZ.mono hleD; replace hle0 := hle0.trans hleD; refine withP_nil rfl ?_; refine XO.move rfl rfl ?_; refine XO.nil ?_; exact stepQN_ok rfl trivial (rfl)
    refine stepsH_cons rfl ?_ ?_
    ·intro X ext HD hleD _
     replace hs := hs.mono hleD; replace ht := ht.mono hleD; replace haccw := haccw.mono hleD; replace hpX := hpX.mono hleD; replace hdX := hdX.mono hleD; replace hpZ := hpZ.mono hleD; replace hdZ := hdZ.mono hleD; replace hle0 := hle0.trans hleD; refine withP_cons rfl rfl ?_; rintro _ rfl; refine withP_nil rfl ?_; refine XO.notB rfl rfl ?_; refine XO.nil ?_; exact stepQN_ok rfl trivial (rfl)
    refine stepsH_cons rfl ?_ ?_
    ·intro X ext HD hleD _
     replace hs := hs.mono hleD; replace ht := ht.mono hleD; replace haccw := haccw.mono hleD; replace hpX := hpX.mono hleD; replace hdX := hdX.mono hleD; replace hpZ := hpZ.mono hleD; replace hdZ := hdZ.mono hleD; replace hle0 := hle0.trans hleD; refine withP_cons rfl rfl ?_; rintro _ rfl; refine withP_nil rfl ?_; refine XO.move rfl rfl ?_; refine XO.nil ?_; exact stepQN_ok rfl trivial (rfl)
    refine stepsH_cons rfl ?_ ?_
    ·intro X ext HD hleD _
     replace hs := hs.mono hleD; replace ht := ht.mono hleD; replace haccw := haccw.mono hleD; replace hpX := hpX.mono hleD; replace hdX := hdX.mono hleD; replace hpZ := hpZ.mono hleD; replace hdZ := hdZ.mono hleD; replace hle0 := hle0.trans hleD; refine withP_cons rfl rfl ?_; rintro _ rfl; refine withP_nil rfl ?_; refine XO.guardT rfl rfl (rfl) rfl ?_; refine XO.loadO 1 rfl rfl ty_27 rfl rfl rfl ?_; refine XO.nil ?_; exact stepQN_ok rfl trivial (rfl)
    refine stepsH_cons rfl ?_ ?_
    ·intro X ext HD hleD _
     replace hs := hs.mono hleD; replace ht := ht.mono hleD; replace haccw := haccw.mono hleD; replace hpX := hpX.mono hleD; replace hdX := hdX.mono hleD; replace hpZ := hpZ.mono hleD; replace hdZ := hdZ.mono hleD; replace hle0 := hle0.trans hleD; refine withP_cons rfl rfl ?_; rintro _ rfl; refine withP_nil rfl ?_; refine XO.guardT rfl rfl (rfl) rfl ?_; refine XO.move rfl rfl ?_; refine XO.nil ?_; exact stepQN_ok rfl trivial (rfl)
    refine stepsH_cons rfl ?_ ?_
    ·intro X ext HD hleD _
     replace hs := hs.mono hleD; replace ht := ht.mono hleD; replace haccw := haccw.mono hleD; replace hpX := hpX.mono hleD; replace hdX := hdX.mono hleD; replace hpZ := hpZ.mono hleD; replace hdZ := hdZ.mono hleD; replace hle0 := hle0.trans hleD; refine withP_cons rfl rfl ?_; rintro _ rfl; refine withP_nil rfl ?_; refine XO.guardT rfl rfl (rfl) rfl ?_; refine XO.move rfl rfl ?_; refine XO.nil ?_; exact stepQN_ok rfl trivial (rfl)
    refine stepsH_cons rfl ?_ ?_
    ·intro X ext HD hleD _
     replace hs := hs.mono hleD; replace ht := ht.mono hleD; replace haccw := haccw.mono hleD; replace hpX := hpX.mono hleD; replace hdX := hdX.mono hleD; replace hpZ := hpZ.mono hleD; replace hdZ := hdZ.mono hleD; replace hle0 := hle0.trans hleD; refine withP_cons rfl rfl ?_; rintro _ rfl; refine withP_cons rfl rfl ?_; rintro _ rfl; refine withP_cons rfl rfl ?_; rintro _ rfl; refine withP_nil rfl ?_; refine XO.guardT rfl rfl (rfl) rfl ?_; refine XO.indexE rfl rfl Try.underlying22 ty_50 (by omega) (by omega) rfl ?_; refine XO.nil ?_; exact stepQN_ok rfl trivial (rfl)
    refine stepsH_cons rfl ?_ ?_
    ·intro X ext HD hleD _
     replace hs := hs.mono hleD; replace ht := ht.mono hleD; replace haccw := haccw.mono hleD; replace hpX := hpX.mono hleD; replace hdX := hdX.mono hleD; replace hpZ := hpZ.mono hleD; replace hdZ := hdZ.mono hleD; replace hle0 := hle0.trans hleD; refine withP_cons rfl rfl ?_; rintro _ rfl; refine withP_cons rfl rfl ?_; rintro _ rfl; refine withP_nil rfl ?_; refine XO.guardT rfl rfl (rfl) rfl ?_; refine XO.fieldAddr rfl fa_50_0 rfl ?_; refine XO.nil ?_; exact stepQN_ok rfl trivial (rfl)
    refine stepsH_cons rfl ?_ ?_
    ·intro X ext HD hleD _
     replace hs := hs.mono hleD; replace ht := ht.mono hleD; replace haccw := haccw.mono hleD; replace hpX := hpX.mono hleD; replace hdX := hdX.mono hleD; replace hpZ := hpZ.mono hleD; replace hdZ := hdZ.mono hleD; replace hle0 := hle0.trans hleD; refine withP_cons rfl rfl ?_; rintro _ rfl; refine withP_cons rfl rfl ?_; rintro _ rfl; refine withP_nil rfl ?_; refine XO.guardT rfl rfl (rfl) rfl ?_; refine XO.loadHF rfl (by assumption) ty_31 rfl rfl rfl ?_; refine XO.nil ?_; exact stepQN_ok rfl trivial (rfl)
    refine stepsH_cons rfl ?_ ?_
    ·intro X ext HD hleD _
     replace hs := hs.mono hleD; replace ht := ht.mono hleD; replace haccw := haccw.mono hleD; replace hpX := hpX.mono hleD; replace hdX := hdX.mono hleD; replace hpZ := hpZ.mono hleD; replace hdZ := hdZ.mono hleD; replace hle0 := hle0.trans hleD; refine withP_cons rfl rfl ?_; rintro _ rfl; refine withP_cons rfl rfl ?_; rintro _ rfl; refine withP_nil rfl ?_; refine XO.guardT rfl rfl (rfl) rfl ?_; refine XO.indexE rfl rfl Try.underlying31 ty_27 (by omega) (by omega) rfl ?_; refine XO.nil ?_; exact stepQN_ok rfl trivial (rfl)
    refine stepsH_cons rfl ?_ ?_
    ·intro X ext HD hleD _
     replace hs := hs.mono hleD; replace ht := ht.mono hleD; replace haccw := haccw.mono hleD; replace hpX := hpX.mono hleD; replace hdX := hdX.mono hleD; replace hpZ := hpZ.mono hleD; replace hdZ := hdZ.mono hleD; replace hle0 := hle0.trans hleD; refine withP_cons rfl rfl ?_; rintro _ rfl; refine withP_cons rfl rfl ?_; rintro _ rfl; refine withP_nil rfl ?_; refine XO.guardT rfl rfl (rfl) rfl ?_; refine XO.loadH rfl (by assumption) ty_27 rfl rfl rfl ?_; refine XO.nil ?_; exact stepQN_ok rfl trivial (rfl)
    exact stepsH_end rfl
   case tail2 =>
    intro HD hleD _
    replace hs := hs.mono hleD; replace ht := ht.mono hleD; replace haccw := haccw.mono hleD; replace hpX := hpX.mono hleD; replace hdX := hdX.mono hleD; replace hpZ := hpZ.mono hleD; replace hdZ := hdZ.mono hleD; replace hle0 := hle0.trans hleD; refine withP_cons rfl rfl ?_; rintro _ rfl; refine withP_cons rfl rfl ?_; rintro _ rfl; refine withP_cons rfl rfl ?_; rintro _ rfl; refine withP_cons rfl rfl ?_; rintro _ rfl; refine withP_cons rfl rfl ?_; rintro _ rfl; refine withP_cons rfl rfl ?_; rintro _ rfl; refine withP_cons rfl rfl ?_; rintro _ rfl; refine withP_cons rfl rfl ?_; rintro _ rfl; refine withP_cons rfl rfl ?_; rintro _ rfl; refine withP_cons rfl rfl ?_; rintro _ rfl; refine withP_cons rfl rfl ?_; rintro _ rfl; refine withP_nil rfl ?_; refine withEnts_nil ?_; refine XO.guardT rfl rfl (rfl) rfl ?_; refine XO.callV rfl (before_fn s (hd xX) _ _ _ _ _ ht hdZ hD hDZ) rfl ?_; refine XO.pickT rfl (rfl) rfl rfl ?_; refine XO.nil ?_; refine XC.seq2 ?_; refine XC.cond rfl (fun c1_6 => ?_) (fun c1_6 => ?_)
    ·refine XC.seq ?_; refine XC.region ?_; refine XO.move rfl rfl ?_; refine XO.loadO 1 rfl rfl ty_27 rfl rfl rfl ?_; refine XO.buildSlice rfl Try.underlying31 ty_27 ze_27 rfl rfl rfl (fun b29 => ?_); refine XO.publish 0 rfl rfl rfl (fun HP29 oP29 hleP29 hbP29 hoP29 => ?_); replace hs := hs.mono hleP29; replace ht := ht.mono hleP29; replace haccw := haccw.mono hleP29; replace hpX := hpX.mono hleP29; replace hdX := hdX.mono hleP29; replace hpZ := hpZ.mono hleP29; replace hdZ := hdZ.mono hleP29; replace hle0 := hle0.trans hleP29
     have hsl29 := SlR.lit (ρ := cardR) (l := [s]) hbP29 hoP29 (RowsR.one1 ⟨_, _, rfl, ht, hD⟩)
     refine XO.build bk_50 bf_50 ze_50 rfl rfl rfl ?_; refine XO.buildSlice rfl Try.underlying22 ty_50 ze_50 rfl rfl rfl (fun b31 => ?_); refine XO.publish 0 rfl rfl rfl (fun HP31 oP31 hleP31 hbP31 hoP31 => ?_); replace hs := hs.mono hleP31; replace ht := ht.mono hleP31; replace haccw := haccw.mono hleP31; replace hpX := hpX.mono hleP31; replace hdX := hdX.mono hleP31; replace hpZ := hpZ.mono hleP31; replace hdZ := hdZ.mono hleP31; replace hsl29 := hsl29.mono hleP31; replace hle0 := hle0.trans hleP31
     have hsl31 := SlR.lit (ρ := (slR cardR)) (l := [[s]]) hbP31 hoP31 (RowsR.one1 ⟨_, _, rfl, hsl29⟩)
     refine XO.appendA 0 rfl rfl haccw rfl rfl hsl31 rfl Try.underlying22 ty_50 ze_50 rfl by_50 (by have := putT_len2 (s := s) (b := l) k; simp; omega) rfl (fun p32 a32 c32 hacc32 => ?_); refine XO.assign rfl rfl ?_; refine XO.nil ?_; refine XC.seq2 ?_; refine XC.region ?_; refine XO.assign rfl rfl ?_; refine XO.nil ?_; refine XC.seq2 ?_; refine XC.seq ?_; refine XC.keep [0, 3, 5, 6, 7] rfl ?_; obtain ⟨_, xW, hxW, ⟨axW, cxW, rfl, hdW⟩, hpW⟩ := hs.elem (k) (by omega)
     try (obtain rfl := Option.some.inj (hxW.symm.trans hxX))
     have hkQ := (hg _ (List.mem_of_getElem? hxW)).1
     obtain ⟨bQ, oQ, rfl⟩ := hdW.addr (by omega); obtain ⟨_, xQ, hxQ, ⟨axQ, cxQ, rfl, hdQ, hDQ⟩, hpQ⟩ := hdW.elem 0 (by omega); obtain rfl := hd_at hxQ
     apply XC.draw 8 [eqF _, eqF _, eqF _, eqF _, eqF _, eqF _, eqF _, eqF _] follows (by kernel_rfl) (by kernel_rfl) ⟨eqF_mono _, eqF_mono _, eqF_mono _, eqF_mono _, eqF_mono _, eqF_mono _, eqF_mono _, eqF_mono _, trivial⟩ ?steps8 ?tail8
     case steps8 =>
      refine stepsK_cons rfl ?_ ?_
      ·intro X
       refine withPreds_nil rfl ?_; refine XO.loadO 1 rfl rfl ty_27 rfl rfl rfl ?_; refine XO.nil ?_
       exact stepQ_ok rfl (rfl)
      refine stepsK_cons rfl ?_ ?_
      ·intro X
       refine withPreds_nil rfl ?_; refine XO.move rfl rfl ?_; refine XO.nil ?_
       exact stepQ_ok rfl (rfl)
      refine stepsK_cons rfl ?_ ?_
      ·intro X
       refine withPreds_nil rfl ?_; refine XO.move rfl rfl ?_; refine XO.nil ?_
       exact stepQ_ok rfl (rfl)
      refine stepsK_cons rfl ?_ ?_
      ·intro X
       refine withPreds_cons rfl rfl ?_; rintro _ rfl; refine withPreds_cons rfl rfl ?_; rintro _ rfl; refine withPreds_nil rfl ?_; refine XO.indexE rfl rfl Try.underlying22 ty_50 (by omega) (by omega) rfl ?_; refine XO.nil ?_
       exact stepQ_ok rfl (rfl)
      refine stepsK_cons rfl ?_ ?_
      ·intro X
       refine withPreds_cons rfl rfl ?_; rintro _ rfl; refine withPreds_nil rfl ?_; refine XO.fieldAddr rfl fa_50_0 rfl ?_; refine XO.nil ?_
       exact stepQ_ok rfl (rfl)
      refine stepsK_cons rfl ?_ ?_
      ·intro X
       refine withPreds_cons rfl rfl ?_; rintro _ rfl; refine withPreds_nil rfl ?_; refine XO.loadHF rfl (by assumption) ty_31 rfl rfl rfl ?_; refine XO.nil ?_
       exact stepQ_ok rfl (rfl)
      refine stepsK_cons rfl ?_ ?_
      ·intro X
       refine withPreds_cons rfl rfl ?_; rintro _ rfl; refine withPreds_nil rfl ?_; refine XO.indexE rfl rfl Try.underlying31 ty_27 (by omega) (by omega) rfl ?_; refine XO.nil ?_
       exact stepQ_ok rfl (rfl)
      refine stepsK_cons rfl ?_ ?_
      ·intro X
       refine withPreds_cons rfl rfl ?_; rintro _ rfl; refine withPreds_nil rfl ?_; refine XO.loadH rfl (by assumption) ty_27 rfl rfl rfl ?_; refine XO.nil ?_
       exact stepQ_ok rfl (rfl)
      exact stepsD_end rfl
     case tail8 =>
      refine withPreds_cons rfl rfl ?_; rintro _ rfl; refine withPreds_cons rfl rfl ?_; rintro _ rfl; refine withPreds_cons rfl rfl ?_; rintro _ rfl; refine withPreds_cons rfl rfl ?_; rintro _ rfl; refine withPreds_cons rfl rfl ?_; rintro _ rfl; refine withPreds_cons rfl rfl ?_; rintro _ rfl; refine withPreds_cons rfl rfl ?_; rintro _ rfl; refine withPreds_cons rfl rfl ?_; rintro _ rfl; refine withPreds_nil rfl ?_; refine XO.callV rfl (place_fn s (hd xW) _ _ _ _ _ ht hdQ hD hDQ) rfl ?_; refine XO.nil ?_; refine XC.seq2 ?_; refine XC.cond rfl (fun c2_12 => ?_) (fun c2_12 => ?_)
      ·refine XC.seq ?_; refine XC.keep [0, 3, 5, 7] rfl ?_; obtain ⟨_, xV, hxV, ⟨axV, cxV, rfl, hdV⟩, hpV⟩ := hs.elem (k) (by omega); obtain rfl := Option.some.inj (hxW.symm.trans hxV)
       apply XC.drawV (fun _ => True) trivial 8 (fun p H => XL.Acc (slR cardR) 50 H p a32 c32 ((putT s (l.take k)).1 ++ [[s]])) (fun v p H => ∃ a2 c2, v = .slice a2 ((putT s (l.take k)).1 ++ [[s]] ++ [withC xW s]).length c2 ∧ XL.Acc (slR cardR) 50 H p a2 c2 ((putT s (l.take k)).1 ++ [[s]] ++ [withC xW s])) (fun _ _ _ hle h => h.mono hle) (fun _ _ _ _ hle ⟨a2, c2, h1, h2⟩ => ⟨a2, c2, h1, h2.mono hle⟩) 9 [eqF _, eqF _, eqF _, eqF _, eqF _, eqF _, fun v H => SltU (withC xW s) H v, slF (slR cardR) [withC xW s], anyF] follows (by kernel_rfl) ⟨eqF_mono _, eqF_mono _, eqF_mono _, eqF_mono _, eqF_mono _, eqF_mono _, SltU_mono _, slF_mono _ _, anyF_mono, trivial⟩ rfl rfl (hacc32) ?steps13 ?tail13
       case steps13 =>
        refine stepsV_cons rfl ?_ ?_
        ·intro X e HD hleD _ hfa
         replace hs := hs.mono hleD; replace ht := ht.mono hleD; replace hpX := hpX.mono hleD; replace hdX := hdX.mono hleD; replace hpZ := hpZ.mono hleD; replace hdZ := hdZ.mono hleD; replace hsl29 := hsl29.mono hleD; replace hsl31 := hsl31.mono hleD; replace hacc32 := hacc32.mono hleD; replace hpW := hpW.mono hleD; replace hdW := hdW.mono hleD; replace hpQ := hpQ.mono hleD; replace hdQ := hdQ.mono hleD; replace hpV := hpV.mono hleD; replace hdV := hdV.mono hleD; replace hle0 := hle0.trans hleD; refine withP_nil rfl ?_; refine XO.move rfl rfl ?_; refine XO.nil ?_
         exact stepQV_ok trivial (rfl) (by unfold foV; rw [if_neg (by decide)])
        refine stepsV_cons rfl ?_ ?_
        ·intro X e HD hleD _ hfa
         replace hs := hs.mono hleD; replace ht := ht.mono hleD; replace hpX := hpX.mono hleD; replace hdX := hdX.mono hleD; replace hpZ := hpZ.mono hleD; replace hdZ := hdZ.mono hleD; replace hsl29 := hsl29.mono hleD; replace hsl31 := hsl31.mono hleD; replace hacc32 := hacc32.mono hleD; replace hpW := hpW.mono hleD; replace hdW := hdW.mono hleD; replace hpQ := hpQ.mono hleD; replace hdQ := hdQ.mono hleD; replace hpV := hpV.mono hleD; replace hdV := hdV.mono hleD; replace hle0 := hle0.trans hleD; refine withP_nil rfl ?_; refine XO.move rfl rfl ?_; refine XO.nil ?_
         exact stepQV_ok trivial (rfl) (by unfold foV; rw [if_neg (by decide)])
        refine stepsV_cons rfl ?_ ?_
        ·intro X e HD hleD _ hfa
         replace hs := hs.mono hleD; replace ht := ht.mono hleD; replace hpX := hpX.mono hleD; replace hdX := hdX.mono hleD; replace hpZ := hpZ.mono hleD; replace hdZ := hdZ.mono hleD; replace hsl29 := hsl29.mono hleD; replace hsl31 := hsl31.mono hleD; replace hacc32 := hacc32.mono hleD; replace hpW := hpW.mono hleD; replace hdW := hdW.mono hleD; replace hpQ := hpQ.mono hleD; replace hdQ := hdQ.mono hleD; replace hpV := hpV.mono hleD; replace hdV := hdV.mono hleD; replace hle0 := hle0.trans hleD; refine withP_nil rfl ?_; refine XO.move rfl rfl ?_; refine XO.nil ?_
         exact stepQV_ok trivial (rfl) (by unfold foV; rw [if_neg (by decide)])
        refine stepsV_cons rfl ?_ ?_
        ·intro X e HD hleD _ hfa
         replace hs := hs.mono hleD; replace ht := ht.mono hleD; replace hpX := hpX.mono hleD; replace hdX := hdX.mono hleD; replace hpZ := hpZ.mono hleD; replace hdZ := hdZ.mono hleD; replace hsl29 := hsl29.mono hleD; replace hsl31 := hsl31.mono hleD; replace hacc32 := hacc32.mono hleD; replace hpW := hpW.mono hleD; replace hdW := hdW.mono hleD; replace hpQ := hpQ.mono hleD; replace hdQ := hdQ.mono hleD; replace hpV := hpV.mono hleD; replace hdV := hdV.mono hleD; replace hle0 := hle0.trans hleD; refine withP_cons rfl rfl ?_; rintro _ rfl; refine withP_cons rfl rfl ?_; rintro _ rfl; refine withP_nil rfl ?_; refine XO.indexE rfl rfl Try.underlying22 ty_50 (by omega) (by omega) rfl ?_; refine XO.nil ?_
         exact stepQV_ok trivial (rfl) (by unfold foV; rw [if_neg (by decide)])
        refine stepsV_cons rfl ?_ ?_
        ·intro X e HD hleD _ hfa
         replace hs := hs.mono hleD; replace ht := ht.mono hleD; replace hpX := hpX.mono hleD; replace hdX := hdX.mono hleD; replace hpZ := hpZ.mono hleD; replace hdZ := hdZ.mono hleD; replace hsl29 := hsl29.mono hleD; replace hsl31 := hsl31.mono hleD; replace hacc32 := hacc32.mono hleD; replace hpW := hpW.mono hleD; replace hdW := hdW.mono hleD; replace hpQ := hpQ.mono hleD; replace hdQ := hdQ.mono hleD; replace hpV := hpV.mono hleD; replace hdV := hdV.mono hleD; replace hle0 := hle0.trans hleD; refine withP_cons rfl rfl ?_; rintro _ rfl; refine withP_nil rfl ?_; refine XO.loadH rfl (by assumption) ty_50 rfl rfl rfl ?_; refine XO.nil ?_
         exact stepQV_ok trivial (rfl) (by unfold foV; rw [if_neg (by decide)])
        refine stepsV_cons rfl ?_ ?_
        ·intro X e HD hleD _ hfa
         replace hs := hs.mono hleD; replace ht := ht.mono hleD; replace hpX := hpX.mono hleD; replace hdX := hdX.mono hleD; replace hpZ := hpZ.mono hleD; replace hdZ := hdZ.mono hleD; replace hsl29 := hsl29.mono hleD; replace hsl31 := hsl31.mono hleD; replace hacc32 := hacc32.mono hleD; replace hpW := hpW.mono hleD; replace hdW := hdW.mono hleD; replace hpQ := hpQ.mono hleD; replace hdQ := hdQ.mono hleD; replace hpV := hpV.mono hleD; replace hdV := hdV.mono hleD; replace hle0 := hle0.trans hleD; refine withP_nil rfl ?_; refine XO.loadO 1 rfl rfl ty_27 rfl rfl rfl ?_; refine XO.nil ?_
         exact stepQV_ok trivial (rfl) (by unfold foV; rw [if_neg (by decide)])
        refine stepsV_cons rfl ?_ ?_
        ·intro X e HD hleD _ hfa
         replace hs := hs.mono hleD; replace ht := ht.mono hleD; replace hpX := hpX.mono hleD; replace hdX := hdX.mono hleD; replace hpZ := hpZ.mono hleD; replace hdZ := hdZ.mono hleD; replace hsl29 := hsl29.mono hleD; replace hsl31 := hsl31.mono hleD; replace hacc32 := hacc32.mono hleD; replace hpW := hpW.mono hleD; replace hdW := hdW.mono hleD; replace hpQ := hpQ.mono hleD; replace hdQ := hdQ.mono hleD; replace hpV := hpV.mono hleD; replace hdV := hdV.mono hleD; replace hle0 := hle0.trans hleD; refine withP_cons rfl rfl ?_; rintro _ rfl; refine withP_cons rfl rfl ?_; rintro _ rfl; refine withP_nil rfl ?_; refine XO.callH rfl (with_fn xW s _ _ _ _ _ hdV ht hD (hg _ (List.mem_of_getElem? hxW)).2 hok (by have := (hg _ (List.mem_of_getElem? hxW)).1; omega)) rfl ?_; rintro _ HN48 hleN48 ⟨aN48, cN48, rfl, hN48⟩; replace hs := hs.mono hleN48; replace ht := ht.mono hleN48; replace hpX := hpX.mono hleN48; replace hdX := hdX.mono hleN48; replace hpZ := hpZ.mono hleN48; replace hdZ := hdZ.mono hleN48; replace hsl29 := hsl29.mono hleN48; replace hsl31 := hsl31.mono hleN48; replace hacc32 := hacc32.mono hleN48; replace hpW := hpW.mono hleN48; replace hdW := hdW.mono hleN48; replace hpQ := hpQ.mono hleN48; replace hdQ := hdQ.mono hleN48; replace hpV := hpV.mono hleN48; replace hdV := hdV.mono hleN48; replace hle0 := hle0.trans hleN48; refine XO.nil ?_
         exact stepQV_ok trivial (⟨_, _, rfl, hN48⟩) (by unfold foV; rw [if_neg (by decide)])
        refine stepsV_cons rfl ?_ ?_
        ·intro X e HD hleD _ hfa
         replace hs := hs.mono hleD; replace ht := ht.mono hleD; replace hpX := hpX.mono hleD; replace hdX := hdX.mono hleD; replace hpZ := hpZ.mono hleD; replace hdZ := hdZ.mono hleD; replace hsl29 := hsl29.mono hleD; replace hsl31 := hsl31.mono hleD; replace hacc32 := hacc32.mono hleD; replace hpW := hpW.mono hleD; replace hdW := hdW.mono hleD; replace hpQ := hpQ.mono hleD; replace hdQ := hdQ.mono hleD; replace hpV := hpV.mono hleD; replace hdV := hdV.mono hleD; replace hle0 := hle0.trans hleD; refine withP_cons rfl rfl ?_; rintro _ ⟨a48, c48, rfl, h48⟩; refine withP_nil rfl ?_; refine XO.buildSlice rfl Try.underlying22 ty_50 ze_50 rfl rfl rfl (fun b49 => ?_); refine XO.publish 0 rfl rfl rfl (fun HP49 oP49 hleP49 hbP49 hoP49 => ?_); replace hs := hs.mono hleP49; replace ht := ht.mono hleP49; replace hpX := hpX.mono hleP49; replace hdX := hdX.mono hleP49; replace hpZ := hpZ.mono hleP49; replace hdZ := hdZ.mono hleP49; replace hsl29 := hsl29.mono hleP49; replace hsl31 := hsl31.mono hleP49; replace hacc32 := hacc32.mono hleP49; replace hpW := hpW.mono hleP49; replace hdW := hdW.mono hleP49; replace hpQ := hpQ.mono hleP49; replace hdQ := hdQ.mono hleP49; replace hpV := hpV.mono hleP49; replace hdV := hdV.mono hleP49; replace hle0 := hle0.trans hleP49
         have hsl49 := SlR.lit (ρ := (slR cardR)) (l := [withC xW s]) hbP49 hoP49 (RowsR.one1 ⟨_, _, rfl, h48.mono hleP49⟩)
         refine XO.nil ?_
         exact stepQV_ok trivial (⟨_, rfl, hsl49⟩) (by unfold foV; rw [if_neg (by decide)])
        refine stepsV_cons rfl ?_ ?_
        ·intro X e HD hleD _ hfa
         replace hs := hs.mono hleD; replace ht := ht.mono hleD; replace hpX := hpX.mono hleD; replace hdX := hdX.mono hleD; replace hpZ := hpZ.mono hleD; replace hdZ := hdZ.mono hleD; replace hsl29 := hsl29.mono hleD; replace hsl31 := hsl31.mono hleD; replace hacc32 := hacc32.mono hleD; replace hpW := hpW.mono hleD; replace hdW := hdW.mono hleD; replace hpQ := hpQ.mono hleD; replace hdQ := hdQ.mono hleD; replace hpV := hpV.mono hleD; replace hdV := hdV.mono hleD; replace hle0 := hle0.trans hleD; refine withP_cons rfl rfl ?_; rintro _ rfl; refine withP_cons rfl rfl ?_; rintro _ ⟨bs49, rfl, hsl49⟩; refine withP_nil rfl ?_
         have hfa := hfa rfl
         skip
         refine XO.appendA 0 rfl rfl hfa rfl rfl hsl49 rfl Try.underlying22 ty_50 ze_50 rfl by_50 (by have := putT_len2 (s := s) (b := l) k; simp; omega) rfl (fun p50 a50 c50 hacc50 => ?_); refine XO.nil ?_
         exact stepQV_ok trivial (trivial) (by unfold foV; rw [if_pos rfl]; exact ⟨_, _, rfl, hacc50⟩)
        exact stepsV_end rfl
       case tail13 =>
        intro HD hleD _
        replace hs := hs.mono hleD; replace ht := ht.mono hleD; replace hpX := hpX.mono hleD; replace hdX := hdX.mono hleD; replace hpZ := hpZ.mono hleD; replace hdZ := hdZ.mono hleD; replace hsl29 := hsl29.mono hleD; replace hsl31 := hsl31.mono hleD; replace hacc32 := hacc32.mono hleD; replace hpW := hpW.mono hleD; replace hdW := hdW.mono hleD; replace hpQ := hpQ.mono hleD; replace hdQ := hdQ.mono hleD; replace hpV := hpV.mono hleD; replace hdV := hdV.mono hleD; replace hle0 := hle0.trans hleD; refine withP_cons rfl rfl ?_; rintro _ rfl; refine withP_cons rfl rfl ?_; rintro _ rfl; refine withP_cons rfl rfl ?_; rintro _ rfl; refine withP_cons rfl rfl ?_; rintro _ rfl; refine withP_cons rfl rfl ?_; rintro _ rfl; refine withP_cons rfl rfl ?_; rintro _ rfl; refine withP_cons rfl rfl ?_; rintro _ ⟨a48, c48, rfl, h48⟩; refine withP_cons rfl rfl ?_; rintro _ ⟨bs49, rfl, hsl49⟩; refine withP_cons rfl rfl ?_; rintro _ _; refine withP_nil rfl ?_
        intro e he
        obtain ⟨a2, c2, hv2, hacc2⟩ := he _ rfl
        subst hv2
        rename Nat × SObj => p2
        refine XO.assign rfl rfl ?_; refine XO.nil ?_; refine XC.seq2 ?_; refine XC.region ?_; refine XO.assign rfl rfl ?_; refine XO.nil ?_; refine blockN ?_; refine XC.seq2 ?_; refine XC.region ?_; refine XO.move rfl rfl ?_; refine XO.add rfl rfl (wrap_i64 (by omega) (by omega)) rfl ?_; refine XO.assign rfl rfl ?_; refine XO.nil ?_; refine loop_next ((k + 1, (p2, a2, c2))) (by show l.length - (k + 1) < l.length - k; omega) (prov_cons (by first | rfl | (rw [put_yy hxW hdn (by assumption) (by assumption)]; rfl) | (rw [put_yn hxW hdn (by assumption) (by assumption)]; rfl) | (rw [put_ny hxW (fun h => by first | exact absurd h.2 (by assumption) | (rw [hdn] at h; exact Bool.noConfusion h.1)) (by assumption)]; rfl) | (rw [put_nn hxW (fun h => by first | exact absurd h.2 (by assumption) | (rw [hdn] at h; exact Bool.noConfusion h.1)) (by assumption)]; rfl)) (prov_cons (by first | (rw [put_yy hxW hdn (by assumption) (by assumption)]; rfl) | (rw [put_yn hxW hdn (by assumption) (by assumption)]; rfl) | (rw [put_ny hxW (fun h => by first | exact absurd h.2 (by assumption) | (rw [hdn] at h; exact Bool.noConfusion h.1)) (by assumption)]; rfl) | (rw [put_nn hxW (fun h => by first | exact absurd h.2 (by assumption) | (rw [hdn] at h; exact Bool.noConfusion h.1)) (by assumption)]; rfl) | (rw [put_nn hxW (fun h => by first | exact absurd h.2 (by assumption) | (rw [hdn] at h; exact Bool.noConfusion h.1)) (by assumption), hdn]; rfl)) (prov_cons (rfl) (prov_cons (rfl) (prov_cons (rfl) prov_nil))))) (⟨by show k + 1 ≤ l.length; omega, rfl, by first | (exact hacc2) | (rw [put_yy hxW hdn (by assumption) (by assumption)]; exact hacc2) | (rw [put_yn hxW hdn (by assumption) (by assumption)]; exact hacc2) | (rw [put_ny hxW (fun h => by first | exact absurd h.2 (by assumption) | (rw [hdn] at h; exact Bool.noConfusion h.1)) (by assumption)]; exact hacc2) | (rw [put_nn hxW (fun h => by first | exact absurd h.2 (by assumption) | (rw [hdn] at h; exact Bool.noConfusion h.1)) (by assumption)]; exact hacc2)⟩) (by repeat (first | exact List.Sublist.refl _ | apply List.Sublist.cons_cons | apply List.Sublist.cons)) (hle0)
      ·refine XC.region ?_; refine XO.move rfl rfl ?_; refine XO.move rfl rfl ?_; refine XO.move rfl rfl ?_; refine XO.indexN rfl hs rfl Try.underlying22 ty_50 (by omega) rfl ?_; rintro eb54 eo54 _ x54 hx54 ⟨ax54, cx54, rfl, hd54⟩ hp54; obtain rfl := Option.some.inj (hxW.symm.trans hx54); refine XO.loadH rfl (by assumption) ty_50 rfl rfl rfl ?_; refine XO.buildSlice rfl Try.underlying22 ty_50 ze_50 rfl rfl rfl (fun b56 => ?_); refine XO.publish 0 rfl rfl rfl (fun HP56 oP56 hleP56 hbP56 hoP56 => ?_); replace hs := hs.mono hleP56; replace ht := ht.mono hleP56; replace hpX := hpX.mono hleP56; replace hdX := hdX.mono hleP56; replace hpZ := hpZ.mono hleP56; replace hdZ := hdZ.mono hleP56; replace hsl29 := hsl29.mono hleP56; replace hsl31 := hsl31.mono hleP56; replace hacc32 := hacc32.mono hleP56; replace hpW := hpW.mono hleP56; replace hdW := hdW.mono hleP56; replace hpQ := hpQ.mono hleP56; replace hdQ := hdQ.mono hleP56; replace hp54 := hp54.mono hleP56; replace hd54 := hd54.mono hleP56; replace hle0 := hle0.trans hleP56
       have hsl56 := SlR.lit (ρ := (slR cardR)) (l := [xW]) hbP56 hoP56 (RowsR.one1 ⟨_, _, rfl, hd54⟩)
       refine XO.appendA 0 rfl rfl hacc32 rfl rfl hsl56 rfl Try.underlying22 ty_50 ze_50 rfl by_50 (by have := putT_len2 (s := s) (b := l) k; simp; omega) rfl (fun p57 a57 c57 hacc57 => ?_); refine XO.assign rfl rfl ?_; refine XO.nil ?_; refine blockN ?_; refine XC.seq2 ?_; refine XC.region ?_; refine XO.move rfl rfl ?_; refine XO.add rfl rfl (wrap_i64 (by omega) (by omega)) rfl ?_; refine XO.assign rfl rfl ?_; refine XO.nil ?_; refine loop_next ((k + 1, (p57, a57, c57))) (by show l.length - (k + 1) < l.length - k; omega) (prov_cons (by first | rfl | (rw [put_yy hxW hdn (by assumption) (by assumption)]; rfl) | (rw [put_yn hxW hdn (by assumption) (by assumption)]; rfl) | (rw [put_ny hxW (fun h => by first | exact absurd h.2 (by assumption) | (rw [hdn] at h; exact Bool.noConfusion h.1)) (by assumption)]; rfl) | (rw [put_nn hxW (fun h => by first | exact absurd h.2 (by assumption) | (rw [hdn] at h; exact Bool.noConfusion h.1)) (by assumption)]; rfl)) (prov_cons (by first | (rw [put_yy hxW hdn (by assumption) (by assumption)]; rfl) | (rw [put_yn hxW hdn (by assumption) (by assumption)]; rfl) | (rw [put_ny hxW (fun h => by first | exact absurd h.2 (by assumption) | (rw [hdn] at h; exact Bool.noConfusion h.1)) (by assumption)]; rfl) | (rw [put_nn hxW (fun h => by first | exact absurd h.2 (by assumption) | (rw [hdn] at h; exact Bool.noConfusion h.1)) (by assumption)]; rfl) | (rw [put_nn hxW (fun h => by first | exact absurd h.2 (by assumption) | (rw [hdn] at h; exact Bool.noConfusion h.1)) (by assumption), hdn]; rfl)) (prov_cons (rfl) (prov_cons (rfl) (prov_cons (rfl) prov_nil))))) (⟨by show k + 1 ≤ l.length; omega, rfl, by first | (exact hacc57) | (rw [put_yy hxW hdn (by assumption) (by assumption)]; exact hacc57) | (rw [put_yn hxW hdn (by assumption) (by assumption)]; exact hacc57) | (rw [put_ny hxW (fun h => by first | exact absurd h.2 (by assumption) | (rw [hdn] at h; exact Bool.noConfusion h.1)) (by assumption)]; exact hacc57) | (rw [put_nn hxW (fun h => by first | exact absurd h.2 (by assumption) | (rw [hdn] at h; exact Bool.noConfusion h.1)) (by assumption)]; exact hacc57)⟩) (by repeat (first | exact List.Sublist.refl _ | apply List.Sublist.cons_cons | apply List.Sublist.cons)) (hle0)
    ·refine XC.skip ?_; refine XC.seq2 ?_; refine XC.seq ?_; refine XC.keep [0, 3, 5, 6, 7] rfl ?_; obtain ⟨_, xW, hxW, ⟨axW, cxW, rfl, hdW⟩, hpW⟩ := hs.elem (k) (by omega)
     try (obtain rfl := Option.some.inj (hxW.symm.trans hxX))
     have hkQ := (hg _ (List.mem_of_getElem? hxW)).1
     obtain ⟨bQ, oQ, rfl⟩ := hdW.addr (by omega); obtain ⟨_, xQ, hxQ, ⟨axQ, cxQ, rfl, hdQ, hDQ⟩, hpQ⟩ := hdW.elem 0 (by omega); obtain rfl := hd_at hxQ
     apply XC.draw 8 [eqF _, eqF _, eqF _, eqF _, eqF _, eqF _, eqF _, eqF _] follows (by kernel_rfl) (by kernel_rfl) ⟨eqF_mono _, eqF_mono _, eqF_mono _, eqF_mono _, eqF_mono _, eqF_mono _, eqF_mono _, eqF_mono _, trivial⟩ ?steps19 ?tail19
     case steps19 =>
      refine stepsK_cons rfl ?_ ?_
      ·intro X
       refine withPreds_nil rfl ?_; refine XO.loadO 1 rfl rfl ty_27 rfl rfl rfl ?_; refine XO.nil ?_
       exact stepQ_ok rfl (rfl)
      refine stepsK_cons rfl ?_ ?_
      ·intro X
       refine withPreds_nil rfl ?_; refine XO.move rfl rfl ?_; refine XO.nil ?_
       exact stepQ_ok rfl (rfl)
      refine stepsK_cons rfl ?_ ?_
      ·intro X
       refine withPreds_nil rfl ?_; refine XO.move rfl rfl ?_; refine XO.nil ?_
       exact stepQ_ok rfl (rfl)
      refine stepsK_cons rfl ?_ ?_
      ·intro X
       refine withPreds_cons rfl rfl ?_; rintro _ rfl; refine withPreds_cons rfl rfl ?_; rintro _ rfl; refine withPreds_nil rfl ?_; refine XO.indexE rfl rfl Try.underlying22 ty_50 (by omega) (by omega) rfl ?_; refine XO.nil ?_
       exact stepQ_ok rfl (rfl)
      refine stepsK_cons rfl ?_ ?_
      ·intro X
       refine withPreds_cons rfl rfl ?_; rintro _ rfl; refine withPreds_nil rfl ?_; refine XO.fieldAddr rfl fa_50_0 rfl ?_; refine XO.nil ?_
       exact stepQ_ok rfl (rfl)
      refine stepsK_cons rfl ?_ ?_
      ·intro X
       refine withPreds_cons rfl rfl ?_; rintro _ rfl; refine withPreds_nil rfl ?_; refine XO.loadHF rfl (by assumption) ty_31 rfl rfl rfl ?_; refine XO.nil ?_
       exact stepQ_ok rfl (rfl)
      refine stepsK_cons rfl ?_ ?_
      ·intro X
       refine withPreds_cons rfl rfl ?_; rintro _ rfl; refine withPreds_nil rfl ?_; refine XO.indexE rfl rfl Try.underlying31 ty_27 (by omega) (by omega) rfl ?_; refine XO.nil ?_
       exact stepQ_ok rfl (rfl)
      refine stepsK_cons rfl ?_ ?_
      ·intro X
       refine withPreds_cons rfl rfl ?_; rintro _ rfl; refine withPreds_nil rfl ?_; refine XO.loadH rfl (by assumption) ty_27 rfl rfl rfl ?_; refine XO.nil ?_
       exact stepQ_ok rfl (rfl)
      exact stepsD_end rfl
     case tail19 =>
      refine withPreds_cons rfl rfl ?_; rintro _ rfl; refine withPreds_cons rfl rfl ?_; rintro _ rfl; refine withPreds_cons rfl rfl ?_; rintro _ rfl; refine withPreds_cons rfl rfl ?_; rintro _ rfl; refine withPreds_cons rfl rfl ?_; rintro _ rfl; refine withPreds_cons rfl rfl ?_; rintro _ rfl; refine withPreds_cons rfl rfl ?_; rintro _ rfl; refine withPreds_cons rfl rfl ?_; rintro _ rfl; refine withPreds_nil rfl ?_; refine XO.callV rfl (place_fn s (hd xW) _ _ _ _ _ ht hdQ hD hDQ) rfl ?_; refine XO.nil ?_; refine XC.seq2 ?_; refine XC.cond rfl (fun c2_23 => ?_) (fun c2_23 => ?_)
      ·refine XC.seq ?_; refine XC.keep [0, 3, 5, 7] rfl ?_; obtain ⟨_, xV, hxV, ⟨axV, cxV, rfl, hdV⟩, hpV⟩ := hs.elem (k) (by omega); obtain rfl := Option.some.inj (hxW.symm.trans hxV)
       apply XC.drawV (fun _ => True) trivial 8 (fun p H => XL.Acc (slR cardR) 50 H p aw cw ((putT s (l.take k)).1)) (fun v p H => ∃ a2 c2, v = .slice a2 ((putT s (l.take k)).1 ++ [withC xW s]).length c2 ∧ XL.Acc (slR cardR) 50 H p a2 c2 ((putT s (l.take k)).1 ++ [withC xW s])) (fun _ _ _ hle h => h.mono hle) (fun _ _ _ _ hle ⟨a2, c2, h1, h2⟩ => ⟨a2, c2, h1, h2.mono hle⟩) 9 [eqF _, eqF _, eqF _, eqF _, eqF _, eqF _, fun v H => SltU (withC xW s) H v, slF (slR cardR) [withC xW s], anyF] follows (by kernel_rfl) ⟨eqF_mono _, eqF_mono _, eqF_mono _, eqF_mono _, eqF_mono _, eqF_mono _, SltU_mono _, slF_mono _ _, anyF_mono, trivial⟩ rfl rfl (haccw) ?steps24 ?tail24
       case steps24 =>
        refine stepsV_cons rfl ?_ ?_
        ·intro X e HD hleD _ hfa
         replace hs := hs.mono hleD; replace ht := ht.mono hleD; replace haccw := haccw.mono hleD; replace hpX := hpX.mono hleD; replace hdX := hdX.mono hleD; replace hpZ := hpZ.mono hleD; replace hdZ := hdZ.mono hleD; replace hpW := hpW.mono hleD; replace hdW := hdW.mono hleD; replace hpQ := hpQ.mono hleD; replace hdQ := hdQ.mono hleD; replace hpV := hpV.mono hleD; replace hdV := hdV.mono hleD; replace hle0 := hle0.trans hleD; refine withP_nil rfl ?_; refine XO.move rfl rfl ?_; refine XO.nil ?_
         exact stepQV_ok trivial (rfl) (by unfold foV; rw [if_neg (by decide)])
        refine stepsV_cons rfl ?_ ?_
        ·intro X e HD hleD _ hfa
         replace hs := hs.mono hleD; replace ht := ht.mono hleD; replace haccw := haccw.mono hleD; replace hpX := hpX.mono hleD; replace hdX := hdX.mono hleD; replace hpZ := hpZ.mono hleD; replace hdZ := hdZ.mono hleD; replace hpW := hpW.mono hleD; replace hdW := hdW.mono hleD; replace hpQ := hpQ.mono hleD; replace hdQ := hdQ.mono hleD; replace hpV := hpV.mono hleD; replace hdV := hdV.mono hleD; replace hle0 := hle0.trans hleD; refine withP_nil rfl ?_; refine XO.move rfl rfl ?_; refine XO.nil ?_
         exact stepQV_ok trivial (rfl) (by unfold foV; rw [if_neg (by decide)])
        refine stepsV_cons rfl ?_ ?_
        ·intro X e HD hleD _ hfa
         replace hs := hs.mono hleD; replace ht := ht.mono hleD; replace haccw := haccw.mono hleD; replace hpX := hpX.mono hleD; replace hdX := hdX.mono hleD; replace hpZ := hpZ.mono hleD; replace hdZ := hdZ.mono hleD; replace hpW := hpW.mono hleD; replace hdW := hdW.mono hleD; replace hpQ := hpQ.mono hleD; replace hdQ := hdQ.mono hleD; replace hpV := hpV.mono hleD; replace hdV := hdV.mono hleD; replace hle0 := hle0.trans hleD; refine withP_nil rfl ?_; refine XO.move rfl rfl ?_; refine XO.nil ?_
         exact stepQV_ok trivial (rfl) (by unfold foV; rw [if_neg (by decide)])
        refine stepsV_cons rfl ?_ ?_
        ·intro X e HD hleD _ hfa
         replace hs := hs.mono hleD; replace ht := ht.mono hleD; replace haccw := haccw.mono hleD; replace hpX := hpX.mono hleD; replace hdX := hdX.mono hleD; replace hpZ := hpZ.mono hleD; replace hdZ := hdZ.mono hleD; replace hpW := hpW.mono hleD; replace hdW := hdW.mono hleD; replace hpQ := hpQ.mono hleD; replace hdQ := hdQ.mono hleD; replace hpV := hpV.mono hleD; replace hdV := hdV.mono hleD; replace hle0 := hle0.trans hleD; refine withP_cons rfl rfl ?_; rintro _ rfl; refine withP_cons rfl rfl ?_; rintro _ rfl; refine withP_nil rfl ?_; refine XO.indexE rfl rfl Try.underlying22 ty_50 (by omega) (by omega) rfl ?_; refine XO.nil ?_
         exact stepQV_ok trivial (rfl) (by unfold foV; rw [if_neg (by decide)])
        refine stepsV_cons rfl ?_ ?_
        ·intro X e HD hleD _ hfa
         replace hs := hs.mono hleD; replace ht := ht.mono hleD; replace haccw := haccw.mono hleD; replace hpX := hpX.mono hleD; replace hdX := hdX.mono hleD; replace hpZ := hpZ.mono hleD; replace hdZ := hdZ.mono hleD; replace hpW := hpW.mono hleD; replace hdW := hdW.mono hleD; replace hpQ := hpQ.mono hleD; replace hdQ := hdQ.mono hleD; replace hpV := hpV.mono hleD; replace hdV := hdV.mono hleD; replace hle0 := hle0.trans hleD; refine withP_cons rfl rfl ?_; rintro _ rfl; refine withP_nil rfl ?_; refine XO.loadH rfl (by assumption) ty_50 rfl rfl rfl ?_; refine XO.nil ?_
         exact stepQV_ok trivial (rfl) (by unfold foV; rw [if_neg (by decide)])
        refine stepsV_cons rfl ?_ ?_
        ·intro X e HD hleD _ hfa
         replace hs := hs.mono hleD; replace ht := ht.mono hleD; replace haccw := haccw.mono hleD; replace hpX := hpX.mono hleD; replace hdX := hdX.mono hleD; replace hpZ := hpZ.mono hleD; replace hdZ := hdZ.mono hleD; replace hpW := hpW.mono hleD; replace hdW := hdW.mono hleD; replace hpQ := hpQ.mono hleD; replace hdQ := hdQ.mono hleD; replace hpV := hpV.mono hleD; replace hdV := hdV.mono hleD; replace hle0 := hle0.trans hleD; refine withP_nil rfl ?_; refine XO.loadO 1 rfl rfl ty_27 rfl rfl rfl ?_; refine XO.nil ?_
         exact stepQV_ok trivial (rfl) (by unfold foV; rw [if_neg (by decide)])
        refine stepsV_cons rfl ?_ ?_
        ·intro X e HD hleD _ hfa
         replace hs := hs.mono hleD; replace ht := ht.mono hleD; replace haccw := haccw.mono hleD; replace hpX := hpX.mono hleD; replace hdX := hdX.mono hleD; replace hpZ := hpZ.mono hleD; replace hdZ := hdZ.mono hleD; replace hpW := hpW.mono hleD; replace hdW := hdW.mono hleD; replace hpQ := hpQ.mono hleD; replace hdQ := hdQ.mono hleD; replace hpV := hpV.mono hleD; replace hdV := hdV.mono hleD; replace hle0 := hle0.trans hleD; refine withP_cons rfl rfl ?_; rintro _ rfl; refine withP_cons rfl rfl ?_; rintro _ rfl; refine withP_nil rfl ?_; refine XO.callH rfl (with_fn xW s _ _ _ _ _ hdV ht hD (hg _ (List.mem_of_getElem? hxW)).2 hok (by have := (hg _ (List.mem_of_getElem? hxW)).1; omega)) rfl ?_; rintro _ HN48 hleN48 ⟨aN48, cN48, rfl, hN48⟩; replace hs := hs.mono hleN48; replace ht := ht.mono hleN48; replace haccw := haccw.mono hleN48; replace hpX := hpX.mono hleN48; replace hdX := hdX.mono hleN48; replace hpZ := hpZ.mono hleN48; replace hdZ := hdZ.mono hleN48; replace hpW := hpW.mono hleN48; replace hdW := hdW.mono hleN48; replace hpQ := hpQ.mono hleN48; replace hdQ := hdQ.mono hleN48; replace hpV := hpV.mono hleN48; replace hdV := hdV.mono hleN48; replace hle0 := hle0.trans hleN48; refine XO.nil ?_
         exact stepQV_ok trivial (⟨_, _, rfl, hN48⟩) (by unfold foV; rw [if_neg (by decide)])
        refine stepsV_cons rfl ?_ ?_
        ·intro X e HD hleD _ hfa
         replace hs := hs.mono hleD; replace ht := ht.mono hleD; replace haccw := haccw.mono hleD; replace hpX := hpX.mono hleD; replace hdX := hdX.mono hleD; replace hpZ := hpZ.mono hleD; replace hdZ := hdZ.mono hleD; replace hpW := hpW.mono hleD; replace hdW := hdW.mono hleD; replace hpQ := hpQ.mono hleD; replace hdQ := hdQ.mono hleD; replace hpV := hpV.mono hleD; replace hdV := hdV.mono hleD; replace hle0 := hle0.trans hleD; refine withP_cons rfl rfl ?_; rintro _ ⟨a48, c48, rfl, h48⟩; refine withP_nil rfl ?_; refine XO.buildSlice rfl Try.underlying22 ty_50 ze_50 rfl rfl rfl (fun b49 => ?_); refine XO.publish 0 rfl rfl rfl (fun HP49 oP49 hleP49 hbP49 hoP49 => ?_); replace hs := hs.mono hleP49; replace ht := ht.mono hleP49; replace haccw := haccw.mono hleP49; replace hpX := hpX.mono hleP49; replace hdX := hdX.mono hleP49; replace hpZ := hpZ.mono hleP49; replace hdZ := hdZ.mono hleP49; replace hpW := hpW.mono hleP49; replace hdW := hdW.mono hleP49; replace hpQ := hpQ.mono hleP49; replace hdQ := hdQ.mono hleP49; replace hpV := hpV.mono hleP49; replace hdV := hdV.mono hleP49; replace hle0 := hle0.trans hleP49
         have hsl49 := SlR.lit (ρ := (slR cardR)) (l := [withC xW s]) hbP49 hoP49 (RowsR.one1 ⟨_, _, rfl, h48.mono hleP49⟩)
         refine XO.nil ?_
         exact stepQV_ok trivial (⟨_, rfl, hsl49⟩) (by unfold foV; rw [if_neg (by decide)])
        refine stepsV_cons rfl ?_ ?_
        ·intro X e HD hleD _ hfa
         replace hs := hs.mono hleD; replace ht := ht.mono hleD; replace haccw := haccw.mono hleD; replace hpX := hpX.mono hleD; replace hdX := hdX.mono hleD; replace hpZ := hpZ.mono hleD; replace hdZ := hdZ.mono hleD; replace hpW := hpW.mono hleD; replace hdW := hdW.mono hleD; replace hpQ := hpQ.mono hleD; replace hdQ := hdQ.mono hleD; replace hpV := hpV.mono hleD; replace hdV := hdV.mono hleD; replace hle0 := hle0.trans hleD; refine withP_cons rfl rfl ?_; rintro _ rfl; refine withP_cons rfl rfl ?_; rintro _ ⟨bs49, rfl, hsl49⟩; refine withP_nil rfl ?_
         have hfa := hfa rfl
         skip
         refine XO.appendA 0 rfl rfl hfa rfl rfl hsl49 rfl Try.underlying22 ty_50 ze_50 rfl by_50 (by have := putT_len2 (s := s) (b := l) k; simp; omega) rfl (fun p50 a50 c50 hacc50 => ?_); refine XO.nil ?_
         exact stepQV_ok trivial (trivial) (by unfold foV; rw [if_pos rfl]; exact ⟨_, _, rfl, hacc50⟩)
        exact stepsV_end rfl
       case tail24 =>
        intro HD hleD _
        replace hs := hs.mono hleD; replace ht := ht.mono hleD; replace haccw := haccw.mono hleD; replace hpX := hpX.mono hleD; replace hdX := hdX.mono hleD; replace hpZ := hpZ.mono hleD; replace hdZ := hdZ.mono hleD; replace hpW := hpW.mono hleD; replace hdW := hdW.mono hleD; replace hpQ := hpQ.mono hleD; replace hdQ := hdQ.mono hleD; replace hpV := hpV.mono hleD; replace hdV := hdV.mono hleD; replace hle0 := hle0.trans hleD; refine withP_cons rfl rfl ?_; rintro _ rfl; refine withP_cons rfl rfl ?_; rintro _ rfl; refine withP_cons rfl rfl ?_; rintro _ rfl; refine withP_cons rfl rfl ?_; rintro _ rfl; refine withP_cons rfl rfl ?_; rintro _ rfl; refine withP_cons rfl rfl ?_; rintro _ rfl; refine withP_cons rfl rfl ?_; rintro _ ⟨a48, c48, rfl, h48⟩; refine withP_cons rfl rfl ?_; rintro _ ⟨bs49, rfl, hsl49⟩; refine withP_cons rfl rfl ?_; rintro _ _; refine withP_nil rfl ?_
        intro e he
        obtain ⟨a2, c2, hv2, hacc2⟩ := he _ rfl
        subst hv2
        rename Nat × SObj => p2
        refine XO.assign rfl rfl ?_; refine XO.nil ?_; refine XC.seq2 ?_; refine XC.region ?_; refine XO.assign rfl rfl ?_; refine XO.nil ?_; refine blockN ?_; refine XC.seq2 ?_; refine XC.region ?_; refine XO.move rfl rfl ?_; refine XO.add rfl rfl (wrap_i64 (by omega) (by omega)) rfl ?_; refine XO.assign rfl rfl ?_; refine XO.nil ?_; refine loop_next ((k + 1, (p2, a2, c2))) (by show l.length - (k + 1) < l.length - k; omega) (prov_cons (by first | rfl | (rw [put_yy hxW hdn (by assumption) (by assumption)]; rfl) | (rw [put_yn hxW hdn (by assumption) (by assumption)]; rfl) | (rw [put_ny hxW (fun h => by first | exact absurd h.2 (by assumption) | (rw [hdn] at h; exact Bool.noConfusion h.1)) (by assumption)]; rfl) | (rw [put_nn hxW (fun h => by first | exact absurd h.2 (by assumption) | (rw [hdn] at h; exact Bool.noConfusion h.1)) (by assumption)]; rfl)) (prov_cons (by first | (rw [put_yy hxW hdn (by assumption) (by assumption)]; rfl) | (rw [put_yn hxW hdn (by assumption) (by assumption)]; rfl) | (rw [put_ny hxW (fun h => by first | exact absurd h.2 (by assumption) | (rw [hdn] at h; exact Bool.noConfusion h.1)) (by assumption)]; rfl) | (rw [put_nn hxW (fun h => by first | exact absurd h.2 (by assumption) | (rw [hdn] at h; exact Bool.noConfusion h.1)) (by assumption)]; rfl) | (rw [put_nn hxW (fun h => by first | exact absurd h.2 (by assumption) | (rw [hdn] at h; exact Bool.noConfusion h.1)) (by assumption), hdn]; rfl)) (prov_cons (rfl) (prov_cons (rfl) (prov_cons (rfl) prov_nil))))) (⟨by show k + 1 ≤ l.length; omega, rfl, by first | (exact hacc2) | (rw [put_yy hxW hdn (by assumption) (by assumption)]; exact hacc2) | (rw [put_yn hxW hdn (by assumption) (by assumption)]; exact hacc2) | (rw [put_ny hxW (fun h => by first | exact absurd h.2 (by assumption) | (rw [hdn] at h; exact Bool.noConfusion h.1)) (by assumption)]; exact hacc2) | (rw [put_nn hxW (fun h => by first | exact absurd h.2 (by assumption) | (rw [hdn] at h; exact Bool.noConfusion h.1)) (by assumption)]; exact hacc2)⟩) (by repeat (first | exact List.Sublist.refl _ | apply List.Sublist.cons_cons | apply List.Sublist.cons)) (hle0)
      ·refine XC.region ?_; refine XO.move rfl rfl ?_; refine XO.move rfl rfl ?_; refine XO.move rfl rfl ?_; refine XO.indexN rfl hs rfl Try.underlying22 ty_50 (by omega) rfl ?_; rintro eb54 eo54 _ x54 hx54 ⟨ax54, cx54, rfl, hd54⟩ hp54; obtain rfl := Option.some.inj (hxW.symm.trans hx54); refine XO.loadH rfl (by assumption) ty_50 rfl rfl rfl ?_; refine XO.buildSlice rfl Try.underlying22 ty_50 ze_50 rfl rfl rfl (fun b56 => ?_); refine XO.publish 0 rfl rfl rfl (fun HP56 oP56 hleP56 hbP56 hoP56 => ?_); replace hs := hs.mono hleP56; replace ht := ht.mono hleP56; replace haccw := haccw.mono hleP56; replace hpX := hpX.mono hleP56; replace hdX := hdX.mono hleP56; replace hpZ := hpZ.mono hleP56; replace hdZ := hdZ.mono hleP56; replace hpW := hpW.mono hleP56; replace hdW := hdW.mono hleP56; replace hpQ := hpQ.mono hleP56; replace hdQ := hdQ.mono hleP56; replace hp54 := hp54.mono hleP56; replace hd54 := hd54.mono hleP56; replace hle0 := hle0.trans hleP56
       have hsl56 := SlR.lit (ρ := (slR cardR)) (l := [xW]) hbP56 hoP56 (RowsR.one1 ⟨_, _, rfl, hd54⟩)
       refine XO.appendA 0 rfl rfl haccw rfl rfl hsl56 rfl Try.underlying22 ty_50 ze_50 rfl by_50 (by have := putT_len2 (s := s) (b := l) k; simp; omega) rfl (fun p57 a57 c57 hacc57 => ?_); refine XO.assign rfl rfl ?_; refine XO.nil ?_; refine blockN ?_; refine XC.seq2 ?_; refine XC.region ?_; refine XO.move rfl rfl ?_; refine XO.add rfl rfl (wrap_i64 (by omega) (by omega)) rfl ?_; refine XO.assign rfl rfl ?_; refine XO.nil ?_; refine loop_next ((k + 1, (p57, a57, c57))) (by show l.length - (k + 1) < l.length - k; omega) (prov_cons (by first | rfl | (rw [put_yy hxW hdn (by assumption) (by assumption)]; rfl) | (rw [put_yn hxW hdn (by assumption) (by assumption)]; rfl) | (rw [put_ny hxW (fun h => by first | exact absurd h.2 (by assumption) | (rw [hdn] at h; exact Bool.noConfusion h.1)) (by assumption)]; rfl) | (rw [put_nn hxW (fun h => by first | exact absurd h.2 (by assumption) | (rw [hdn] at h; exact Bool.noConfusion h.1)) (by assumption)]; rfl)) (prov_cons (by first | (rw [put_yy hxW hdn (by assumption) (by assumption)]; rfl) | (rw [put_yn hxW hdn (by assumption) (by assumption)]; rfl) | (rw [put_ny hxW (fun h => by first | exact absurd h.2 (by assumption) | (rw [hdn] at h; exact Bool.noConfusion h.1)) (by assumption)]; rfl) | (rw [put_nn hxW (fun h => by first | exact absurd h.2 (by assumption) | (rw [hdn] at h; exact Bool.noConfusion h.1)) (by assumption)]; rfl) | (rw [put_nn hxW (fun h => by first | exact absurd h.2 (by assumption) | (rw [hdn] at h; exact Bool.noConfusion h.1)) (by assumption), hdn]; rfl)) (prov_cons (rfl) (prov_cons (rfl) (prov_cons (rfl) prov_nil))))) (⟨by show k + 1 ≤ l.length; omega, rfl, by first | (exact hacc57) | (rw [put_yy hxW hdn (by assumption) (by assumption)]; exact hacc57) | (rw [put_yn hxW hdn (by assumption) (by assumption)]; exact hacc57) | (rw [put_ny hxW (fun h => by first | exact absurd h.2 (by assumption) | (rw [hdn] at h; exact Bool.noConfusion h.1)) (by assumption)]; exact hacc57) | (rw [put_nn hxW (fun h => by first | exact absurd h.2 (by assumption) | (rw [hdn] at h; exact Bool.noConfusion h.1)) (by assumption)]; exact hacc57)⟩) (by repeat (first | exact List.Sublist.refl _ | apply List.Sublist.cons_cons | apply List.Sublist.cons)) (hle0)
  ·skip
   refine XC.keep [0, 3, 5, 6, 7] rfl ?_
   apply XC.drawH (fun _ => True) trivial [] (by decide) (fun _ _ _ _ => True) (fun _ _ _ _ _ _ h => h) 11 [eqF _, eqF _, eqF _, eqF _, eqF _, eqF _, eqF _, eqF _, eqF _, eqF _, eqF _] follows (by kernel_rfl) ⟨eqF_mono _, eqF_mono _, eqF_mono _, eqF_mono _, eqF_mono _, eqF_mono _, eqF_mono _, eqF_mono _, eqF_mono _, eqF_mono _, eqF_mono _, trivial⟩ (by decide) ?steps30 ?tail30
   case steps30 =>
    refine stepsH_cons rfl ?_ ?_
    ·intro X ext HD hleD _
     replace hs := hs.mono hleD; replace ht := ht.mono hleD; replace haccw := haccw.mono hleD; replace hle0 := hle0.trans hleD; refine withP_nil rfl ?_; refine XO.move rfl rfl ?_; refine XO.nil ?_; exact stepQN_ok rfl trivial (rfl)
    refine stepsH_cons rfl ?_ ?_
    ·intro X ext HD hleD _
     replace hs := hs.mono hleD; replace ht := ht.mono hleD; replace haccw := haccw.mono hleD; replace hle0 := hle0.trans hleD; refine withP_cons rfl rfl ?_; rintro _ rfl; refine withP_nil rfl ?_; refine XO.notB rfl rfl ?_; refine XO.nil ?_; exact stepQN_ok rfl trivial (rfl)
    refine stepsH_cons rfl ?_ ?_
    ·intro X ext HD hleD _
     replace hs := hs.mono hleD; replace ht := ht.mono hleD; replace haccw := haccw.mono hleD; replace hle0 := hle0.trans hleD; refine withP_cons rfl rfl ?_; rintro _ rfl; refine withP_nil rfl ?_; refine XO.move rfl rfl ?_; refine XO.nil ?_; exact stepQN_ok rfl trivial (rfl)
    refine stepsH_cons rfl ?_ ?_
    ·intro X ext HD hleD _
     replace hs := hs.mono hleD; replace ht := ht.mono hleD; replace haccw := haccw.mono hleD; replace hle0 := hle0.trans hleD; refine withP_cons rfl rfl ?_; rintro _ rfl; refine withP_nil rfl ?_; refine XO.guardF rfl rfl (rfl) rfl rfl ?_; refine XO.nil ?_; exact stepQN_ok rfl trivial (rfl)
    refine stepsH_cons rfl ?_ ?_
    ·intro X ext HD hleD _
     replace hs := hs.mono hleD; replace ht := ht.mono hleD; replace haccw := haccw.mono hleD; replace hle0 := hle0.trans hleD; refine withP_cons rfl rfl ?_; rintro _ rfl; refine withP_nil rfl ?_; refine XO.guardF rfl rfl (rfl) rfl rfl ?_; refine XO.nil ?_; exact stepQN_ok rfl trivial (rfl)
    refine stepsH_cons rfl ?_ ?_
    ·intro X ext HD hleD _
     replace hs := hs.mono hleD; replace ht := ht.mono hleD; replace haccw := haccw.mono hleD; replace hle0 := hle0.trans hleD; refine withP_cons rfl rfl ?_; rintro _ rfl; refine withP_nil rfl ?_; refine XO.guardF rfl rfl (rfl) rfl rfl ?_; refine XO.nil ?_; exact stepQN_ok rfl trivial (rfl)
    refine stepsH_cons rfl ?_ ?_
    ·intro X ext HD hleD _
     replace hs := hs.mono hleD; replace ht := ht.mono hleD; replace haccw := haccw.mono hleD; replace hle0 := hle0.trans hleD; refine withP_cons rfl rfl ?_; rintro _ rfl; refine withP_cons rfl rfl ?_; rintro _ rfl; refine withP_cons rfl rfl ?_; rintro _ rfl; refine withP_nil rfl ?_; refine XO.guardF rfl rfl (rfl) rfl rfl ?_; refine XO.nil ?_; exact stepQN_ok rfl trivial (rfl)
    refine stepsH_cons rfl ?_ ?_
    ·intro X ext HD hleD _
     replace hs := hs.mono hleD; replace ht := ht.mono hleD; replace haccw := haccw.mono hleD; replace hle0 := hle0.trans hleD; refine withP_cons rfl rfl ?_; rintro _ rfl; refine withP_cons rfl rfl ?_; rintro _ rfl; refine withP_nil rfl ?_; refine XO.guardF rfl rfl (rfl) rfl rfl ?_; refine XO.nil ?_; exact stepQN_ok rfl trivial (rfl)
    refine stepsH_cons rfl ?_ ?_
    ·intro X ext HD hleD _
     replace hs := hs.mono hleD; replace ht := ht.mono hleD; replace haccw := haccw.mono hleD; replace hle0 := hle0.trans hleD; refine withP_cons rfl rfl ?_; rintro _ rfl; refine withP_cons rfl rfl ?_; rintro _ rfl; refine withP_nil rfl ?_; refine XO.guardF rfl rfl (rfl) rfl rfl ?_; refine XO.nil ?_; exact stepQN_ok rfl trivial (rfl)
    refine stepsH_cons rfl ?_ ?_
    ·intro X ext HD hleD _
     replace hs := hs.mono hleD; replace ht := ht.mono hleD; replace haccw := haccw.mono hleD; replace hle0 := hle0.trans hleD; refine withP_cons rfl rfl ?_; rintro _ rfl; refine withP_cons rfl rfl ?_; rintro _ rfl; refine withP_nil rfl ?_; refine XO.guardF rfl rfl (rfl) rfl rfl ?_; refine XO.nil ?_; exact stepQN_ok rfl trivial (rfl)
    refine stepsH_cons rfl ?_ ?_
    ·intro X ext HD hleD _
     replace hs := hs.mono hleD; replace ht := ht.mono hleD; replace haccw := haccw.mono hleD; replace hle0 := hle0.trans hleD; refine withP_cons rfl rfl ?_; rintro _ rfl; refine withP_cons rfl rfl ?_; rintro _ rfl; refine withP_nil rfl ?_; refine XO.guardF rfl rfl (rfl) rfl rfl ?_; refine XO.nil ?_; exact stepQN_ok rfl trivial (rfl)
    exact stepsH_end rfl
   case tail30 =>
    intro HD hleD _
    replace hs := hs.mono hleD; replace ht := ht.mono hleD; replace haccw := haccw.mono hleD; replace hle0 := hle0.trans hleD; refine withP_cons rfl rfl ?_; rintro _ rfl; refine withP_cons rfl rfl ?_; rintro _ rfl; refine withP_cons rfl rfl ?_; rintro _ rfl; refine withP_cons rfl rfl ?_; rintro _ rfl; refine withP_cons rfl rfl ?_; rintro _ rfl; refine withP_cons rfl rfl ?_; rintro _ rfl; refine withP_cons rfl rfl ?_; rintro _ rfl; refine withP_cons rfl rfl ?_; rintro _ rfl; refine withP_cons rfl rfl ?_; rintro _ rfl; refine withP_cons rfl rfl ?_; rintro _ rfl; refine withP_cons rfl rfl ?_; rintro _ rfl; refine withP_nil rfl ?_; refine withEnts_nil ?_; refine XO.guardF rfl rfl (rfl) rfl rfl ?_; refine XO.pickF rfl (rfl) rfl rfl ?_; refine XO.nil ?_; refine XC.seq2 ?_; refine XC.condF rfl (rfl) ?_; refine XC.skip ?_; refine XC.seq2 ?_; refine XC.seq ?_; refine XC.keep [0, 3, 5, 6, 7] rfl ?_; obtain ⟨bEW, oEW, rfl⟩ := hs.addr (by omega); obtain ⟨_, xW, hxW, ⟨axW, cxW, rfl, hdW⟩, hpW⟩ := hs.elem (k) (by omega)
    try (obtain rfl := Option.some.inj (hxW.symm.trans hxX))
    have hkQ := (hg _ (List.mem_of_getElem? hxW)).1
    obtain ⟨bQ, oQ, rfl⟩ := hdW.addr (by omega); obtain ⟨_, xQ, hxQ, ⟨axQ, cxQ, rfl, hdQ, hDQ⟩, hpQ⟩ := hdW.elem 0 (by omega); obtain rfl := hd_at hxQ
    apply XC.draw 8 [eqF _, eqF _, eqF _, eqF _, eqF _, eqF _, eqF _, eqF _] follows (by kernel_rfl) (by kernel_rfl) ⟨eqF_mono _, eqF_mono _, eqF_mono _, eqF_mono _, eqF_mono _, eqF_mono _, eqF_mono _, eqF_mono _, trivial⟩ ?steps31 ?tail31
    case steps31 =>
     refine stepsK_cons rfl ?_ ?_
     ·intro X
      refine withPreds_nil rfl ?_; refine XO.loadO 1 rfl rfl ty_27 rfl rfl rfl ?_; refine XO.nil ?_
      exact stepQ_ok rfl (rfl)
     refine stepsK_cons rfl ?_ ?_
     ·intro X
      refine withPreds_nil rfl ?_; refine XO.move rfl rfl ?_; refine XO.nil ?_
      exact stepQ_ok rfl (rfl)
     refine stepsK_cons rfl ?_ ?_
     ·intro X
      refine withPreds_nil rfl ?_; refine XO.move rfl rfl ?_; refine XO.nil ?_
      exact stepQ_ok rfl (rfl)
     refine stepsK_cons rfl ?_ ?_
     ·intro X
      refine withPreds_cons rfl rfl ?_; rintro _ rfl; refine withPreds_cons rfl rfl ?_; rintro _ rfl; refine withPreds_nil rfl ?_; refine XO.indexE rfl rfl Try.underlying22 ty_50 (by omega) (by omega) rfl ?_; refine XO.nil ?_
      exact stepQ_ok rfl (rfl)
     refine stepsK_cons rfl ?_ ?_
     ·intro X
      refine withPreds_cons rfl rfl ?_; rintro _ rfl; refine withPreds_nil rfl ?_; refine XO.fieldAddr rfl fa_50_0 rfl ?_; refine XO.nil ?_
      exact stepQ_ok rfl (rfl)
     refine stepsK_cons rfl ?_ ?_
     ·intro X
      refine withPreds_cons rfl rfl ?_; rintro _ rfl; refine withPreds_nil rfl ?_; refine XO.loadHF rfl (by assumption) ty_31 rfl rfl rfl ?_; refine XO.nil ?_
      exact stepQ_ok rfl (rfl)
     refine stepsK_cons rfl ?_ ?_
     ·intro X
      refine withPreds_cons rfl rfl ?_; rintro _ rfl; refine withPreds_nil rfl ?_; refine XO.indexE rfl rfl Try.underlying31 ty_27 (by omega) (by omega) rfl ?_; refine XO.nil ?_
      exact stepQ_ok rfl (rfl)
     refine stepsK_cons rfl ?_ ?_
     ·intro X
      refine withPreds_cons rfl rfl ?_; rintro _ rfl; refine withPreds_nil rfl ?_; refine XO.loadH rfl (by assumption) ty_27 rfl rfl rfl ?_; refine XO.nil ?_
      exact stepQ_ok rfl (rfl)
     exact stepsD_end rfl
    case tail31 =>
     refine withPreds_cons rfl rfl ?_; rintro _ rfl; refine withPreds_cons rfl rfl ?_; rintro _ rfl; refine withPreds_cons rfl rfl ?_; rintro _ rfl; refine withPreds_cons rfl rfl ?_; rintro _ rfl; refine withPreds_cons rfl rfl ?_; rintro _ rfl; refine withPreds_cons rfl rfl ?_; rintro _ rfl; refine withPreds_cons rfl rfl ?_; rintro _ rfl; refine withPreds_cons rfl rfl ?_; rintro _ rfl; refine withPreds_nil rfl ?_; refine XO.callV rfl (place_fn s (hd xW) _ _ _ _ _ ht hdQ hD hDQ) rfl ?_; refine XO.nil ?_; refine XC.seq2 ?_; refine XC.cond rfl (fun c2_35 => ?_) (fun c2_35 => ?_)
     ·refine XC.seq ?_; refine XC.keep [0, 3, 5, 7] rfl ?_; obtain ⟨_, xV, hxV, ⟨axV, cxV, rfl, hdV⟩, hpV⟩ := hs.elem (k) (by omega); obtain rfl := Option.some.inj (hxW.symm.trans hxV)
      apply XC.drawV (fun _ => True) trivial 8 (fun p H => XL.Acc (slR cardR) 50 H p aw cw ((putT s (l.take k)).1)) (fun v p H => ∃ a2 c2, v = .slice a2 ((putT s (l.take k)).1 ++ [withC xW s]).length c2 ∧ XL.Acc (slR cardR) 50 H p a2 c2 ((putT s (l.take k)).1 ++ [withC xW s])) (fun _ _ _ hle h => h.mono hle) (fun _ _ _ _ hle ⟨a2, c2, h1, h2⟩ => ⟨a2, c2, h1, h2.mono hle⟩) 9 [eqF _, eqF _, eqF _, eqF _, eqF _, eqF _, fun v H => SltU (withC xW s) H v, slF (slR cardR) [withC xW s], anyF] follows (by kernel_rfl) ⟨eqF_mono _, eqF_mono _, eqF_mono _, eqF_mono _, eqF_mono _, eqF_mono _, SltU_mono _, slF_mono _ _, anyF_mono, trivial⟩ rfl rfl (haccw) ?steps36 ?tail36
      case steps36 =>
       refine stepsV_cons rfl ?_ ?_
       ·intro X e HD hleD _ hfa
        replace hs := hs.mono hleD; replace ht := ht.mono hleD; replace haccw := haccw.mono hleD; replace hpW := hpW.mono hleD; replace hdW := hdW.mono hleD; replace hpQ := hpQ.mono hleD; replace hdQ := hdQ.mono hleD; replace hpV := hpV.mono hleD; replace hdV := hdV.mono hleD; replace hle0 := hle0.trans hleD; refine withP_nil rfl ?_; refine XO.move rfl rfl ?_; refine XO.nil ?_
        exact stepQV_ok trivial (rfl) (by unfold foV; rw [if_neg (by decide)])
       refine stepsV_cons rfl ?_ ?_
       ·intro X e HD hleD _ hfa
        replace hs := hs.mono hleD; replace ht := ht.mono hleD; replace haccw := haccw.mono hleD; replace hpW := hpW.mono hleD; replace hdW := hdW.mono hleD; replace hpQ := hpQ.mono hleD; replace hdQ := hdQ.mono hleD; replace hpV := hpV.mono hleD; replace hdV := hdV.mono hleD; replace hle0 := hle0.trans hleD; refine withP_nil rfl ?_; refine XO.move rfl rfl ?_; refine XO.nil ?_
        exact stepQV_ok trivial (rfl) (by unfold foV; rw [if_neg (by decide)])
       refine stepsV_cons rfl ?_ ?_
       ·intro X e HD hleD _ hfa
        replace hs := hs.mono hleD; replace ht := ht.mono hleD; replace haccw := haccw.mono hleD; replace hpW := hpW.mono hleD; replace hdW := hdW.mono hleD; replace hpQ := hpQ.mono hleD; replace hdQ := hdQ.mono hleD; replace hpV := hpV.mono hleD; replace hdV := hdV.mono hleD; replace hle0 := hle0.trans hleD; refine withP_nil rfl ?_; refine XO.move rfl rfl ?_; refine XO.nil ?_
        exact stepQV_ok trivial (rfl) (by unfold foV; rw [if_neg (by decide)])
       refine stepsV_cons rfl ?_ ?_
       ·intro X e HD hleD _ hfa
        replace hs := hs.mono hleD; replace ht := ht.mono hleD; replace haccw := haccw.mono hleD; replace hpW := hpW.mono hleD; replace hdW := hdW.mono hleD; replace hpQ := hpQ.mono hleD; replace hdQ := hdQ.mono hleD; replace hpV := hpV.mono hleD; replace hdV := hdV.mono hleD; replace hle0 := hle0.trans hleD; refine withP_cons rfl rfl ?_; rintro _ rfl; refine withP_cons rfl rfl ?_; rintro _ rfl; refine withP_nil rfl ?_; refine XO.indexE rfl rfl Try.underlying22 ty_50 (by omega) (by omega) rfl ?_; refine XO.nil ?_
        exact stepQV_ok trivial (rfl) (by unfold foV; rw [if_neg (by decide)])
       refine stepsV_cons rfl ?_ ?_
       ·intro X e HD hleD _ hfa
        replace hs := hs.mono hleD; replace ht := ht.mono hleD; replace haccw := haccw.mono hleD; replace hpW := hpW.mono hleD; replace hdW := hdW.mono hleD; replace hpQ := hpQ.mono hleD; replace hdQ := hdQ.mono hleD; replace hpV := hpV.mono hleD; replace hdV := hdV.mono hleD; replace hle0 := hle0.trans hleD; refine withP_cons rfl rfl ?_; rintro _ rfl; refine withP_nil rfl ?_; refine XO.loadH rfl (by assumption) ty_50 rfl rfl rfl ?_; refine XO.nil ?_
        exact stepQV_ok trivial (rfl) (by unfold foV; rw [if_neg (by decide)])
       refine stepsV_cons rfl ?_ ?_
       ·intro X e HD hleD _ hfa
        replace hs := hs.mono hleD; replace ht := ht.mono hleD; replace haccw := haccw.mono hleD; replace hpW := hpW.mono hleD; replace hdW := hdW.mono hleD; replace hpQ := hpQ.mono hleD; replace hdQ := hdQ.mono hleD; replace hpV := hpV.mono hleD; replace hdV := hdV.mono hleD; replace hle0 := hle0.trans hleD; refine withP_nil rfl ?_; refine XO.loadO 1 rfl rfl ty_27 rfl rfl rfl ?_; refine XO.nil ?_
        exact stepQV_ok trivial (rfl) (by unfold foV; rw [if_neg (by decide)])
       refine stepsV_cons rfl ?_ ?_
       ·intro X e HD hleD _ hfa
        replace hs := hs.mono hleD; replace ht := ht.mono hleD; replace haccw := haccw.mono hleD; replace hpW := hpW.mono hleD; replace hdW := hdW.mono hleD; replace hpQ := hpQ.mono hleD; replace hdQ := hdQ.mono hleD; replace hpV := hpV.mono hleD; replace hdV := hdV.mono hleD; replace hle0 := hle0.trans hleD; refine withP_cons rfl rfl ?_; rintro _ rfl; refine withP_cons rfl rfl ?_; rintro _ rfl; refine withP_nil rfl ?_; refine XO.callH rfl (with_fn xW s _ _ _ _ _ hdV ht hD (hg _ (List.mem_of_getElem? hxW)).2 hok (by have := (hg _ (List.mem_of_getElem? hxW)).1; omega)) rfl ?_; rintro _ HN48 hleN48 ⟨aN48, cN48, rfl, hN48⟩; replace hs := hs.mono hleN48; replace ht := ht.mono hleN48; replace haccw := haccw.mono hleN48; replace hpW := hpW.mono hleN48; replace hdW := hdW.mono hleN48; replace hpQ := hpQ.mono hleN48; replace hdQ := hdQ.mono hleN48; replace hpV := hpV.mono hleN48; replace hdV := hdV.mono hleN48; replace hle0 := hle0.trans hleN48; refine XO.nil ?_
        exact stepQV_ok trivial (⟨_, _, rfl, hN48⟩) (by unfold foV; rw [if_neg (by decide)])
       refine stepsV_cons rfl ?_ ?_
       ·intro X e HD hleD _ hfa
        replace hs := hs.mono hleD; replace ht := ht.mono hleD; replace haccw := haccw.mono hleD; replace hpW := hpW.mono hleD; replace hdW := hdW.mono hleD; replace hpQ := hpQ.mono hleD; replace hdQ := hdQ.mono hleD; replace hpV := hpV.mono hleD; replace hdV := hdV.mono hleD; replace hle0 := hle0.trans hleD; refine withP_cons rfl rfl ?_; rintro _ ⟨a48, c48, rfl, h48⟩; refine withP_nil rfl ?_; refine XO.buildSlice rfl Try.underlying22 ty_50 ze_50 rfl rfl rfl (fun b49 => ?_); refine XO.publish 0 rfl rfl rfl (fun HP49 oP49 hleP49 hbP49 hoP49 => ?_); replace hs := hs.mono hleP49; replace ht := ht.mono hleP49; replace haccw := haccw.mono hleP49; replace hpW := hpW.mono hleP49; replace hdW := hdW.mono hleP49; replace hpQ := hpQ.mono hleP49; replace hdQ := hdQ.mono hleP49; replace hpV := hpV.mono hleP49; replace hdV := hdV.mono hleP49; replace hle0 := hle0.trans hleP49
        have hsl49 := SlR.lit (ρ := (slR cardR)) (l := [withC xW s]) hbP49 hoP49 (RowsR.one1 ⟨_, _, rfl, h48.mono hleP49⟩)
        refine XO.nil ?_
        exact stepQV_ok trivial (⟨_, rfl, hsl49⟩) (by unfold foV; rw [if_neg (by decide)])
       refine stepsV_cons rfl ?_ ?_
       ·intro X e HD hleD _ hfa
        replace hs := hs.mono hleD; replace ht := ht.mono hleD; replace haccw := haccw.mono hleD; replace hpW := hpW.mono hleD; replace hdW := hdW.mono hleD; replace hpQ := hpQ.mono hleD; replace hdQ := hdQ.mono hleD; replace hpV := hpV.mono hleD; replace hdV := hdV.mono hleD; replace hle0 := hle0.trans hleD; refine withP_cons rfl rfl ?_; rintro _ rfl; refine withP_cons rfl rfl ?_; rintro _ ⟨bs49, rfl, hsl49⟩; refine withP_nil rfl ?_
        have hfa := hfa rfl
        skip
        refine XO.appendA 0 rfl rfl hfa rfl rfl hsl49 rfl Try.underlying22 ty_50 ze_50 rfl by_50 (by have := putT_len2 (s := s) (b := l) k; simp; omega) rfl (fun p50 a50 c50 hacc50 => ?_); refine XO.nil ?_
        exact stepQV_ok trivial (trivial) (by unfold foV; rw [if_pos rfl]; exact ⟨_, _, rfl, hacc50⟩)
       exact stepsV_end rfl
      case tail36 =>
       intro HD hleD _
       replace hs := hs.mono hleD; replace ht := ht.mono hleD; replace haccw := haccw.mono hleD; replace hpW := hpW.mono hleD; replace hdW := hdW.mono hleD; replace hpQ := hpQ.mono hleD; replace hdQ := hdQ.mono hleD; replace hpV := hpV.mono hleD; replace hdV := hdV.mono hleD; replace hle0 := hle0.trans hleD; refine withP_cons rfl rfl ?_; rintro _ rfl; refine withP_cons rfl rfl ?_; rintro _ rfl; refine withP_cons rfl rfl ?_; rintro _ rfl; refine withP_cons rfl rfl ?_; rintro _ rfl; refine withP_cons rfl rfl ?_; rintro _ rfl; refine withP_cons rfl rfl ?_; rintro _ rfl; refine withP_cons rfl rfl ?_; rintro _ ⟨a48, c48, rfl, h48⟩; refine withP_cons rfl rfl ?_; rintro _ ⟨bs49, rfl, hsl49⟩; refine withP_cons rfl rfl ?_; rintro _ _; refine withP_nil rfl ?_
       intro e he
       obtain ⟨a2, c2, hv2, hacc2⟩ := he _ rfl
       subst hv2
       rename Nat × SObj => p2
       refine XO.assign rfl rfl ?_; refine XO.nil ?_; refine XC.seq2 ?_; refine XC.region ?_; refine XO.assign rfl rfl ?_; refine XO.nil ?_; refine blockN ?_; refine XC.seq2 ?_; refine XC.region ?_; refine XO.move rfl rfl ?_; refine XO.add rfl rfl (wrap_i64 (by omega) (by omega)) rfl ?_; refine XO.assign rfl rfl ?_; refine XO.nil ?_; refine loop_next ((k + 1, (p2, a2, c2))) (by show l.length - (k + 1) < l.length - k; omega) (prov_cons (by first | rfl | (rw [put_yy hxW hdn (by assumption) (by assumption)]; rfl) | (rw [put_yn hxW hdn (by assumption) (by assumption)]; rfl) | (rw [put_ny hxW (fun h => by first | exact absurd h.2 (by assumption) | (rw [hdn] at h; exact Bool.noConfusion h.1)) (by assumption)]; rfl) | (rw [put_nn hxW (fun h => by first | exact absurd h.2 (by assumption) | (rw [hdn] at h; exact Bool.noConfusion h.1)) (by assumption)]; rfl)) (prov_cons (by first | (rw [put_yy hxW hdn (by assumption) (by assumption)]; rfl) | (rw [put_yn hxW hdn (by assumption) (by assumption)]; rfl) | (rw [put_ny hxW (fun h => by first | exact absurd h.2 (by assumption) | (rw [hdn] at h; exact Bool.noConfusion h.1)) (by assumption)]; rfl) | (rw [put_nn hxW (fun h => by first | exact absurd h.2 (by assumption) | (rw [hdn] at h; exact Bool.noConfusion h.1)) (by assumption)]; rfl) | (rw [put_nn hxW (fun h => by first | exact absurd h.2 (by assumption) | (rw [hdn] at h; exact Bool.noConfusion h.1)) (by assumption), hdn]; rfl)) (prov_cons (rfl) (prov_cons (rfl) (prov_cons (rfl) prov_nil))))) (⟨by show k + 1 ≤ l.length; omega, rfl, by first | (exact hacc2) | (rw [put_yy hxW hdn (by assumption) (by assumption)]; exact hacc2) | (rw [put_yn hxW hdn (by assumption) (by assumption)]; exact hacc2) | (rw [put_ny hxW (fun h => by first | exact absurd h.2 (by assumption) | (rw [hdn] at h; exact Bool.noConfusion h.1)) (by assumption)]; exact hacc2) | (rw [put_nn hxW (fun h => by first | exact absurd h.2 (by assumption) | (rw [hdn] at h; exact Bool.noConfusion h.1)) (by assumption)]; exact hacc2)⟩) (by repeat (first | exact List.Sublist.refl _ | apply List.Sublist.cons_cons | apply List.Sublist.cons)) (hle0)
     ·refine XC.region ?_; refine XO.move rfl rfl ?_; refine XO.move rfl rfl ?_; refine XO.move rfl rfl ?_; refine XO.indexN rfl hs rfl Try.underlying22 ty_50 (by omega) rfl ?_; rintro eb54 eo54 _ x54 hx54 ⟨ax54, cx54, rfl, hd54⟩ hp54; obtain rfl := Option.some.inj (hxW.symm.trans hx54); refine XO.loadH rfl (by assumption) ty_50 rfl rfl rfl ?_; refine XO.buildSlice rfl Try.underlying22 ty_50 ze_50 rfl rfl rfl (fun b56 => ?_); refine XO.publish 0 rfl rfl rfl (fun HP56 oP56 hleP56 hbP56 hoP56 => ?_); replace hs := hs.mono hleP56; replace ht := ht.mono hleP56; replace haccw := haccw.mono hleP56; replace hpW := hpW.mono hleP56; replace hdW := hdW.mono hleP56; replace hpQ := hpQ.mono hleP56; replace hdQ := hdQ.mono hleP56; replace hp54 := hp54.mono hleP56; replace hd54 := hd54.mono hleP56; replace hle0 := hle0.trans hleP56
      have hsl56 := SlR.lit (ρ := (slR cardR)) (l := [xW]) hbP56 hoP56 (RowsR.one1 ⟨_, _, rfl, hd54⟩)
      refine XO.appendA 0 rfl rfl haccw rfl rfl hsl56 rfl Try.underlying22 ty_50 ze_50 rfl by_50 (by have := putT_len2 (s := s) (b := l) k; simp; omega) rfl (fun p57 a57 c57 hacc57 => ?_); refine XO.assign rfl rfl ?_; refine XO.nil ?_; refine blockN ?_; refine XC.seq2 ?_; refine XC.region ?_; refine XO.move rfl rfl ?_; refine XO.add rfl rfl (wrap_i64 (by omega) (by omega)) rfl ?_; refine XO.assign rfl rfl ?_; refine XO.nil ?_; refine loop_next ((k + 1, (p57, a57, c57))) (by show l.length - (k + 1) < l.length - k; omega) (prov_cons (by first | rfl | (rw [put_yy hxW hdn (by assumption) (by assumption)]; rfl) | (rw [put_yn hxW hdn (by assumption) (by assumption)]; rfl) | (rw [put_ny hxW (fun h => by first | exact absurd h.2 (by assumption) | (rw [hdn] at h; exact Bool.noConfusion h.1)) (by assumption)]; rfl) | (rw [put_nn hxW (fun h => by first | exact absurd h.2 (by assumption) | (rw [hdn] at h; exact Bool.noConfusion h.1)) (by assumption)]; rfl)) (prov_cons (by first | (rw [put_yy hxW hdn (by assumption) (by assumption)]; rfl) | (rw [put_yn hxW hdn (by assumption) (by assumption)]; rfl) | (rw [put_ny hxW (fun h => by first | exact absurd h.2 (by assumption) | (rw [hdn] at h; exact Bool.noConfusion h.1)) (by assumption)]; rfl) | (rw [put_nn hxW (fun h => by first | exact absurd h.2 (by assumption) | (rw [hdn] at h; exact Bool.noConfusion h.1)) (by assumption)]; rfl) | (rw [put_nn hxW (fun h => by first | exact absurd h.2 (by assumption) | (rw [hdn] at h; exact Bool.noConfusion h.1)) (by assumption), hdn]; rfl)) (prov_cons (rfl) (prov_cons (rfl) (prov_cons (rfl) prov_nil))))) (⟨by show k + 1 ≤ l.length; omega, rfl, by first | (exact hacc57) | (rw [put_yy hxW hdn (by assumption) (by assumption)]; exact hacc57) | (rw [put_yn hxW hdn (by assumption) (by assumption)]; exact hacc57) | (rw [put_ny hxW (fun h => by first | exact absurd h.2 (by assumption) | (rw [hdn] at h; exact Bool.noConfusion h.1)) (by assumption)]; exact hacc57) | (rw [put_nn hxW (fun h => by first | exact absurd h.2 (by assumption) | (rw [hdn] at h; exact Bool.noConfusion h.1)) (by assumption)]; exact hacc57)⟩) (by repeat (first | exact List.Sublist.refl _ | apply List.Sublist.cons_cons | apply List.Sublist.cons)) (hle0)
 ·obtain rfl : k = l.length := by omega
  rw [List.take_length] at haccw ⊢
  have hpl := putT_len2 (s := s) (b := l) l.length
  rw [List.take_length] at hpl
  refine XC.exit ?_; refine seqX_exit ?_; refine loopX_exit ?_; refine blockHit rfl ?_; refine XC.seq2 ?_; refine XC.seq ?_; refine XC.seq ?_; refine XC.region ?_; refine XO.move rfl rfl ?_; refine XO.notB rfl rfl ?_; refine XO.nil ?_; refine XC.seq2 ?_; refine XC.condB rfl (fun c3_42 => ?_) (fun c3_42 => ?_)
  ·refine XC.region ?_; refine XO.move rfl rfl ?_; refine XO.loadO 1 rfl rfl ty_27 rfl rfl rfl ?_; refine XO.buildSlice rfl Try.underlying31 ty_27 ze_27 rfl rfl rfl (fun b62 => ?_); refine XO.publish 0 rfl rfl rfl (fun HP62 oP62 hleP62 hbP62 hoP62 => ?_); replace hs := hs.mono hleP62; replace ht := ht.mono hleP62; replace haccw := haccw.mono hleP62; replace hle0 := hle0.trans hleP62
   have hsl62 := SlR.lit (ρ := cardR) (l := [s]) hbP62 hoP62 (RowsR.one1 ⟨_, _, rfl, ht, hD⟩)
   refine XO.build bk_50 bf_50 ze_50 rfl rfl rfl ?_; refine XO.buildSlice rfl Try.underlying22 ty_50 ze_50 rfl rfl rfl (fun b64 => ?_); refine XO.publish 0 rfl rfl rfl (fun HP64 oP64 hleP64 hbP64 hoP64 => ?_); replace hs := hs.mono hleP64; replace ht := ht.mono hleP64; replace haccw := haccw.mono hleP64; replace hsl62 := hsl62.mono hleP64; replace hle0 := hle0.trans hleP64
   have hsl64 := SlR.lit (ρ := (slR cardR)) (l := [[s]]) hbP64 hoP64 (RowsR.one1 ⟨_, _, rfl, hsl62⟩)
   refine XO.appendA 0 rfl rfl haccw rfl rfl hsl64 rfl Try.underlying22 ty_50 ze_50 rfl by_50 (by simp; omega) rfl (fun p65 a65 c65 hacc65 => ?_); refine XO.assign rfl rfl ?_; refine XO.nil ?_; refine XC.seq2 ?_; refine XC.seq ?_; refine XC.region ?_; refine XO.move rfl rfl ?_; refine XO.publishA 0 rfl hacc65 rfl (fun HQ44 hleQ44 hsQ44 => ?_); replace hs := hs.mono hleQ44; replace ht := ht.mono hleQ44; replace hsl62 := hsl62.mono hleQ44; replace hsl64 := hsl64.mono hleQ44; replace hle0 := hle0.trans hleQ44; refine XO.assign rfl rfl ?_; refine XO.nil ?_; refine XC.seq2 ?_; refine XC.ret ?_; refine ⟨rfl, _, [], rfl, (by repeat (first | exact List.Sublist.refl _ | apply List.Sublist.cons)), RetR.mk ?_⟩
   first | exact PutU.n (by simpa using (show (!(putT s l).2) = true by assumption)) (by assumption) | exact PutU.y (by simpa using (show (!(putT s l).2) = false by assumption)) (by assumption)
  ·refine XC.skip ?_; refine XC.seq2 ?_; refine XC.seq ?_; refine XC.region ?_; refine XO.move rfl rfl ?_; refine XO.publishA 0 rfl haccw rfl (fun HQ45 hleQ45 hsQ45 => ?_); replace hs := hs.mono hleQ45; replace ht := ht.mono hleQ45; replace hle0 := hle0.trans hleQ45; refine XO.assign rfl rfl ?_; refine XO.nil ?_; refine XC.seq2 ?_; refine XC.ret ?_; refine ⟨rfl, _, [], rfl, (by repeat (first | exact List.Sublist.refl _ | apply List.Sublist.cons)), RetR.mk ?_⟩
   first | exact PutU.n (by simpa using (show (!(putT s l).2) = true by assumption)) (by assumption) | exact PutU.y (by simpa using (show (!(putT s l).2) = false by assumption)) (by assumption)

end Go.Proofs

/- The walks of the functions of boxes: what each of them computes, at any input. -/
set_option maxRecDepth 100000
set_option autoImplicit false
set_option linter.unusedVariables false
set_option linter.unusedSimpArgs false
namespace Go.Proofs
open Go.XL

theorem bf_27 : structF Try.prog 27 = some [(0, 1), (1, 1), (2, 1), (3, 1), (4, 32)] := by kernel_rfl
theorem bk_27 : structK Try.prog 27 = true := by kernel_rfl

theorem rput_b (l : Box) (s : Card) (a b : Option Addr) (c d : Nat) (H : Hp) (hs : SlR (slR cardR) H a c l) (ht : SlR (intR .i64) H b d s.C) (hD : s.D.length = 32) (hl : l.length < 9223372036854775808) (hlx : ∀ x ∈ l, x.length < 9223372036854775808) (hlc : ∀ x ∈ l, ∀ s ∈ x, s.C.length < 9223372036854775808) (hc : s.C.length < 9223372036854775808) : FnC Try.prog 12 #[.slice a l.length c, .agg ⟨cardV s.R s.E s.J s.C.length s.D b d⟩] H [] (RetR (fun v H2 _ => BoxU (rputX l s) (rputE l s) H2 v)) := by
 refine FnC.intro (args := [.slice a l.length c, .agg ⟨cardV s.R s.E s.J s.C.length s.D b d⟩]) Try.func12 rfl rfl Try.ntmps12 rfl rfl rfl fun G rest => ?_
 refine XC.seq ?_; refine XC.region ?_; refine XO.box rfl rfl rfl (fun b3 => ?_); refine XO.assign rfl rfl ?_; refine XO.assign rfl rfl ?_; refine XO.nil ?_; refine XC.seq2 ?_; refine XC.seq ?_; refine XC.region ?_; refine XO.move rfl rfl ?_; refine XO.callV rfl (rcheck_b _ _ l _ hs hl hlx hlc) rfl ?_; refine XO.assign rfl rfl ?_; refine XO.nil ?_; refine XC.seq2 ?_; refine XC.seq ?_; refine XC.seq ?_; refine XC.region ?_; refine XO.move rfl rfl ?_; refine XO.neq rfl rfl rfl ?_; refine XO.nil ?_; refine XC.seq2 ?_; refine XC.cond rfl (fun c0_2 => ?_) (fun c0_2 => ?_)
 ·refine XC.seq ?_; refine XC.region ?_; refine XO.move rfl rfl ?_; refine XO.assign rfl rfl ?_; refine XO.assign rfl rfl ?_; refine XO.nil ?_; refine XC.seq2 ?_; refine XC.ret ?_; refine seqX_ret ?_; refine ⟨rfl, _, [], rfl, (by repeat (first | exact List.Sublist.refl _ | apply List.Sublist.cons)), RetR.mk ?_⟩
  first | exact BoxU.e (rput_1 (by omega)) | exact BoxU.e (rput_2 h0 (fun h => absurd (sel_iff.2 h) (by omega))) | exact BoxU.e (rput_3 h0 hok (by omega)) | exact BoxU.k (rput_4 h0 hok (by omega)) (by assumption)
 ·have h0 : chkB l = 0 := by omega
  have hg := good_of h0
  refine XC.skip ?_; refine XC.seq2 ?_; refine XC.seq ?_; refine XC.seq ?_; refine XC.region ?_; refine XO.loadO 0 rfl rfl ty_27 rfl rfl rfl ?_; refine XO.callV rfl (rselcheck_fn s _ _ _ ht hD hc) rfl ?_; refine XO.neq rfl rfl rfl ?_; refine XO.nil ?_; refine XC.seq2 ?_; refine XC.cond rfl (fun c1_4 => ?_) (fun c1_4 => ?_)
  ·refine XC.seq ?_; refine XC.region ?_; refine XO.assign rfl rfl ?_; refine XO.assign rfl rfl ?_; refine XO.nil ?_; refine XC.seq2 ?_; refine XC.ret ?_; refine seqX_ret ?_; refine ⟨rfl, _, [], rfl, (by repeat (first | exact List.Sublist.refl _ | apply List.Sublist.cons)), RetR.mk ?_⟩
   first | exact BoxU.e (rput_1 (by omega)) | exact BoxU.e (rput_2 h0 (fun h => absurd (sel_iff.2 h) (by omega))) | exact BoxU.e (rput_3 h0 hok (by omega)) | exact BoxU.k (rput_4 h0 hok (by omega)) (by assumption)
  ·have hok : okC s := sel_iff.1 (by omega)
   refine XC.skip ?_; refine XC.seq2 ?_; refine XC.seq ?_; refine XC.region ?_; refine XO.move rfl rfl ?_; refine XO.loadO 0 rfl rfl ty_27 rfl rfl rfl ?_; refine XO.callH rfl (put_fn l s _ _ _ _ _ hs ht hD hg hok (by have := (chkB_0 h0).1; omega)) rfl ?_; rintro _ HN18 hleN18 ⟨aN18, cN18, rfl, hN18⟩; replace hs := hs.mono hleN18; replace ht := ht.mono hleN18; refine XO.assign rfl rfl ?_; refine XO.nil ?_; refine XC.seq2 ?_; refine XC.seq ?_; refine XC.seq ?_; refine XC.region ?_; refine XO.move rfl rfl ?_; refine XO.lenS (ts := #[]) rfl Try.underlying22 rfl ?_; refine XO.gtr rfl rfl rfl ?_; refine XO.nil ?_; refine XC.seq2 ?_; refine XC.cond rfl (fun c2_6 => ?_) (fun c2_6 => ?_)
   ·refine XC.seq ?_; refine XC.region ?_; refine XO.assign rfl rfl ?_; refine XO.assign rfl rfl ?_; refine XO.nil ?_; refine XC.seq2 ?_; refine XC.ret ?_; refine seqX_ret ?_; refine ⟨rfl, _, [], rfl, (by repeat (first | exact List.Sublist.refl _ | apply List.Sublist.cons)), RetR.mk ?_⟩
    first | exact BoxU.e (rput_1 (by omega)) | exact BoxU.e (rput_2 h0 (fun h => absurd (sel_iff.2 h) (by omega))) | exact BoxU.e (rput_3 h0 hok (by omega)) | exact BoxU.k (rput_4 h0 hok (by omega)) (by assumption)
   ·refine XC.skip ?_; refine XC.seq2 ?_; refine XC.seq ?_; refine XC.region ?_; refine XO.move rfl rfl ?_; refine XO.assign rfl rfl ?_; refine XO.assign rfl rfl ?_; refine XO.nil ?_; refine XC.seq2 ?_; refine XC.ret ?_; refine ⟨rfl, _, [], rfl, (by repeat (first | exact List.Sublist.refl _ | apply List.Sublist.cons)), RetR.mk ?_⟩
    first | exact BoxU.e (rput_1 (by omega)) | exact BoxU.e (rput_2 h0 (fun h => absurd (sel_iff.2 h) (by omega))) | exact BoxU.e (rput_3 h0 hok (by omega)) | exact BoxU.k (rput_4 h0 hok (by omega)) (by assumption)

theorem rfind_b (a : Option Addr) (c : Nat) (l : Box) (H : Hp) (hs : SlR (slR cardR) H a c l) (hl : l.length < 9223372036854775808) (hlx : ∀ x ∈ l, x.length < 9223372036854775808) (hlc : ∀ x ∈ l, ∀ s ∈ x, s.C.length < 9223372036854775808) (x y z : Int) : FnC Try.prog 19 #[.slice a l.length c, .int .i64 x, .int .i64 y, .int .i64 z] H [] (RetR (fun v H2 _ => FndU (fndR l [x, y, z]) (chkB l) H2 v)) := by
 refine FnC.introC (args := [.slice a l.length c, .int .i64 x, .int .i64 y, .int .i64 z]) Try.func19 rfl rfl Try.ntmps19 rfl rfl rfl fun G rest => ?_
 refine XC.seq ?_; refine XC.region ?_; refine XO.alloc ze_27 rfl (fun b8 => ?_); refine XO.assign rfl rfl ?_; refine XO.assign rfl rfl ?_; refine XO.nil ?_; refine XC.seq2 ?_; refine XC.seq ?_; refine XC.region ?_; refine XO.move rfl rfl ?_; refine XO.callV rfl (rcheck_b _ _ l _ hs hl hlx hlc) rfl ?_; refine XO.assign rfl rfl ?_; refine XO.nil ?_; refine XC.seq2 ?_; refine XC.seq ?_; refine XC.seq ?_; refine XC.region ?_; refine XO.move rfl rfl ?_; refine XO.neq rfl rfl rfl ?_; refine XO.nil ?_; refine XC.seq2 ?_; refine XC.cond rfl (fun c0_2 => ?_) (fun c0_2 => ?_)
 ·refine XC.seq ?_; refine XC.region ?_; refine XO.build bk_27 bf_27 ze_27 rfl rfl rfl ?_; refine XO.move rfl rfl ?_; refine XO.storeO 0 rfl rfl rfl rfl ty_27 rfl rfl rfl rfl rfl ?_; refine XO.assign rfl rfl ?_; refine XO.assign rfl rfl ?_; refine XO.nil ?_; refine XC.seq2 ?_; refine XC.ret ?_; refine seqX_ret ?_; refine ⟨rfl, _, [], (resC_cell 0 rfl rfl ty_27 rfl rfl (resC_tmp rfl (resC_tmp rfl resC_nil))), (by repeat (first | exact List.Sublist.refl _ | apply List.Sublist.cons)), RetR.mk ?_⟩
  first | exact FndU.n (fndR_1 (by omega)) | exact FndU.y (fndR_2 h0 hno hx27 ⟨by assumption, by omega⟩) (by assumption) (by assumption) | exact FndU.n (fndR_3 h0 hno)
 ·have h0 : chkB l = 0 := by omega
  have hg := good_of h0
  refine XC.skip ?_; refine XC.seq2 ?_; refine XC.seq ?_; refine XC.seq ?_; refine XC.region ?_; refine XO.assign rfl rfl ?_; refine XO.nil ?_; refine XC.seq2 ?_; refine XC.block ?_; refine XC.keep [12, 0, 1, 2, 3, 8] rfl ?_; refine XC.loop (base := [(0, _), (1, _), (2, _), (3, _), (8, _)]) (fun ζ : Nat => [(12, .int .i64 (ζ : Nat))]) (fun ζ Hl own => ζ ≤ l.length ∧ (b8, .cells 27 (cardV 0 0 0 0 c0.D none 0)) :: rest = own ∧ (∀ y_ ∈ l.take (ζ), ¬ (plcL (hd y_) = [x, y, z] ∧ y_.length = 1))) (fun ζ => l.length - ζ) 0 (prov_cons (rfl) (prov_cons (rfl) (prov_cons (rfl) (prov_cons (rfl) (prov_cons (rfl) (prov_cons (rfl) prov_nil)))))) (by repeat (first | exact List.Sublist.refl _ | apply List.Sublist.cons_cons | apply List.Sublist.cons)) ⟨Nat.zero_le _, rfl, by simp⟩ ?_; rintro k Hl0 _ hle0 ⟨hkk, rfl, hno⟩; replace hs := hs.mono hle0
  try dsimp only at ⊢
  refine XC.seq ?_; refine XC.seq ?_; refine XC.region ?_; refine XO.move rfl rfl ?_; refine XO.move rfl rfl ?_; refine XO.lenS (ts := #[]) rfl Try.underlying22 rfl ?_; refine XO.lss rfl rfl rfl ?_; refine XO.nil ?_; refine XC.seq2 ?_; refine XC.cond rfl (fun c1_3 => ?_) (fun c1_3 => ?_)
  ·refine XC.skip ?_; refine XC.seq2 ?_; refine XC.seq ?_; refine XC.block ?_; refine XC.seq ?_; refine XC.region ?_; refine XO.move rfl rfl ?_; refine XO.move rfl rfl ?_; refine XO.indexN rfl hs rfl Try.underlying22 ty_50 (by omega) rfl ?_; rintro eb27 eo27 _ x27 hx27 ⟨ax27, cx27, rfl, hd27⟩ hp27; refine XO.fieldAddr rfl fa_50_0 rfl ?_; refine XO.loadHF rfl (by assumption) ty_31 rfl rfl rfl ?_; refine XO.lenS (ts := #[]) rfl Try.underlying31 rfl ?_; refine XO.eql rfl rfl rfl ?_; refine XO.move rfl rfl ?_; refine XO.guardC rfl rfl rfl rfl (fun g5 => ?_) (fun g5 => ?_)
   ·have g5p := of_decide_eq_true g5
    refine XO.move rfl rfl ?_; refine XO.guardT rfl rfl (g5) rfl ?_; refine XO.move rfl rfl ?_; refine XO.guardT rfl rfl (g5) rfl ?_; refine XO.indexN rfl hs rfl Try.underlying22 ty_50 (by omega) rfl ?_; rintro eb35 eo35 _ x35 hx35 ⟨ax35, cx35, rfl, hd35⟩ hp35; obtain rfl := Option.some.inj (hx27.symm.trans hx35)
    have hk35 := (hg _ (List.mem_of_getElem? hx27)).1
    refine XO.guardT rfl rfl (g5) rfl ?_; refine XO.fieldAddr rfl fa_50_0 rfl ?_; refine XO.guardT rfl rfl (g5) rfl ?_; refine XO.loadHF rfl (by assumption) ty_31 rfl rfl rfl ?_; refine XO.guardT rfl rfl (g5) rfl ?_; refine XO.indexN (i := 0) rfl hd35 rfl Try.underlying31 ty_27 (by omega) rfl ?_; rintro eb38 eo38 _ x38 hx38 ⟨ax38, cx38, rfl, hd38, hD38⟩ hp38; obtain rfl := hd_at hx38; refine XO.guardT rfl rfl (g5) rfl ?_; refine XO.loadH rfl (by assumption) ty_27 rfl rfl rfl ?_; refine XO.guardT rfl rfl (g5) rfl ?_; refine XO.move rfl rfl ?_; refine XO.guardT rfl rfl (g5) rfl ?_; refine XO.move rfl rfl ?_; refine XO.guardT rfl rfl (g5) rfl ?_; refine XO.move rfl rfl ?_; refine XO.guardT rfl rfl (g5) rfl ?_; refine XO.build bk_27 bf_27 ze_27 rfl rfl rfl ?_; refine XO.guardT rfl rfl (g5) rfl ?_; refine XO.callV rfl (place_fn (hd x27) ⟨x, y, z, [], c0.D⟩ _ _ _ _ _ hd38 (SlR.nil0 _ _) hD38 rfl) rfl ?_; refine XO.pickT rfl (g5) rfl rfl ?_; refine XO.nil ?_; refine XC.seq2 ?_; refine XC.cond rfl (fun c2_9 => ?_) (fun c2_9 => ?_)
    ·refine XC.seq ?_; refine XC.region ?_; refine XO.move rfl rfl ?_; refine XO.move rfl rfl ?_; refine XO.indexN rfl hs rfl Try.underlying22 ty_50 (by omega) rfl ?_; rintro eb48 eo48 _ x48 hx48 ⟨ax48, cx48, rfl, hd48⟩ hp48; obtain rfl := Option.some.inj (hx27.symm.trans hx48)
     have hk48 := (hg _ (List.mem_of_getElem? hx27)).1
     refine XO.fieldAddr rfl fa_50_0 rfl ?_; refine XO.loadHF rfl (by assumption) ty_31 rfl rfl rfl ?_; refine XO.indexN (i := 0) rfl hd48 rfl Try.underlying31 ty_27 (by omega) rfl ?_; rintro eb51 eo51 _ x51 hx51 ⟨ax51, cx51, rfl, hd51, hD51⟩ hp51; obtain rfl := hd_at hx51; refine XO.loadH rfl (by assumption) ty_27 rfl rfl rfl ?_; refine XO.storeO 0 rfl rfl rfl rfl ty_27 rfl rfl rfl rfl rfl ?_; refine XO.assign rfl rfl ?_; refine XO.assign rfl rfl ?_; refine XO.nil ?_; refine XC.seq2 ?_; refine XC.ret ?_; refine blockR ?_; refine seqX_ret ?_; refine loopX_ret ?_; refine blockR ?_; refine seqX_ret ?_; refine ⟨rfl, _, [], (resC_cell 0 rfl rfl ty_27 rfl rfl (resC_tmp rfl (resC_tmp rfl resC_nil))), (by repeat (first | exact List.Sublist.refl _ | apply List.Sublist.cons)), RetR.mk ?_⟩
     first | exact FndU.n (fndR_1 (by omega)) | exact FndU.y (fndR_2 h0 hno hx27 ⟨by assumption, by omega⟩) (by assumption) (by assumption) | exact FndU.n (fndR_3 h0 hno)
    ·refine XC.skip ?_; refine blockN ?_; refine XC.seq2 ?_; refine XC.region ?_; refine XO.move rfl rfl ?_; refine XO.add rfl rfl (wrap_i64 (by omega) (by omega)) rfl ?_; refine XO.assign rfl rfl ?_; refine XO.nil ?_; refine loop_next (k + 1) (by show l.length - (k + 1) < l.length - k; omega) (prov_cons (rfl) (prov_cons (rfl) (prov_cons (rfl) (prov_cons (rfl) (prov_cons (rfl) (prov_cons (rfl) prov_nil)))))) (⟨by show k + 1 ≤ l.length; omega, rfl, all_snocP (p := fun y_ => ¬ (plcL (hd y_) = [x, y, z] ∧ y_.length = 1)) hno hx27 (fun h => by first | exact absurd h.1 (by assumption) | (have := h.2; omega))⟩) (by repeat (first | exact List.Sublist.refl _ | apply List.Sublist.cons_cons | apply List.Sublist.cons)) (hle0)
   ·have g5p := of_decide_eq_false g5
    refine XO.guardF rfl rfl (g5) rfl rfl ?_; refine XO.guardF rfl rfl (g5) rfl rfl ?_; refine XO.guardF rfl rfl (g5) rfl rfl ?_; refine XO.guardF rfl rfl (g5) rfl rfl ?_; refine XO.guardF rfl rfl (g5) rfl rfl ?_; refine XO.guardF rfl rfl (g5) rfl rfl ?_; refine XO.guardF rfl rfl (g5) rfl rfl ?_; refine XO.guardF rfl rfl (g5) rfl rfl ?_; refine XO.guardF rfl rfl (g5) rfl rfl ?_; refine XO.guardF rfl rfl (g5) rfl rfl ?_; refine XO.guardF rfl rfl (g5) rfl rfl ?_; refine XO.pickF rfl (g5) rfl rfl ?_; refine XO.nil ?_; refine XC.seq2 ?_; refine XC.condF rfl (rfl) ?_; refine XC.skip ?_; refine blockN ?_; refine XC.seq2 ?_; refine XC.region ?_; refine XO.move rfl rfl ?_; refine XO.add rfl rfl (wrap_i64 (by omega) (by omega)) rfl ?_; refine XO.assign rfl rfl ?_; refine XO.nil ?_; refine loop_next (k + 1) (by show l.length - (k + 1) < l.length - k; omega) (prov_cons (rfl) (prov_cons (rfl) (prov_cons (rfl) (prov_cons (rfl) (prov_cons (rfl) (prov_cons (rfl) prov_nil)))))) (⟨by show k + 1 ≤ l.length; omega, rfl, all_snocP (p := fun y_ => ¬ (plcL (hd y_) = [x, y, z] ∧ y_.length = 1)) hno hx27 (fun h => by first | exact absurd h.1 (by assumption) | (have := h.2; omega))⟩) (by repeat (first | exact List.Sublist.refl _ | apply List.Sublist.cons_cons | apply List.Sublist.cons)) (hle0)
  ·obtain rfl : k = l.length := by omega
   rw [List.take_length] at hno
   refine XC.exit ?_; refine seqX_exit ?_; refine loopX_exit ?_; refine blockHit rfl ?_; refine XC.seq2 ?_; refine XC.seq ?_; refine XC.region ?_; refine XO.build bk_27 bf_27 ze_27 rfl rfl rfl ?_; refine XO.storeO 0 rfl rfl rfl rfl ty_27 rfl rfl rfl rfl rfl ?_; refine XO.assign rfl rfl ?_; refine XO.assign rfl rfl ?_; refine XO.nil ?_; refine XC.seq2 ?_; refine XC.ret ?_; refine ⟨rfl, _, [], (resC_cell 0 rfl rfl ty_27 rfl rfl (resC_tmp rfl (resC_tmp rfl resC_nil))), (by repeat (first | exact List.Sublist.refl _ | apply List.Sublist.cons)), RetR.mk ?_⟩
   first | exact FndU.n (fndR_1 (by omega)) | exact FndU.y (fndR_2 h0 hno hx27 ⟨by assumption, by omega⟩) (by assumption) (by assumption) | exact FndU.n (fndR_3 h0 hno)

theorem find_b (a : Option Addr) (c : Nat) (l : Box) (H : Hp) (hs : SlR (slR cardR) H a c l) (hl : l.length < 9223372036854775808) (hlx : ∀ x ∈ l, x.length < 9223372036854775808) (hlc : ∀ x ∈ l, ∀ s ∈ x, s.C.length < 9223372036854775808) (x y z : Int) : FnC Try.prog 18 #[.slice a l.length c, .int .i64 x, .int .i64 y, .int .i64 z] H [] (RetR (fun v H2 _ => FndU (fndR l [x, y, z]) (chkB l) H2 v)) := by
 refine FnC.introC (args := [.slice a l.length c, .int .i64 x, .int .i64 y, .int .i64 z]) Try.func18 rfl rfl Try.ntmps18 rfl rfl rfl fun G rest => ?_
 refine XC.seq ?_; refine XC.region ?_; refine XO.alloc ze_27 rfl (fun b8 => ?_); refine XO.assign rfl rfl ?_; refine XO.assign rfl rfl ?_; refine XO.nil ?_; refine XC.seq2 ?_; refine XC.seq ?_; refine XC.seq ?_; refine XC.region ?_; refine XO.move rfl rfl ?_; refine XO.callV rfl (check_b _ _ l _ hs hl hlx hlc) rfl ?_; refine XO.assign rfl rfl ?_; refine XO.nil ?_; refine XC.seq2 ?_; refine XC.seq ?_; refine XC.region ?_; refine XO.move rfl rfl ?_; refine XO.neq rfl rfl rfl ?_; refine XO.nil ?_; refine XC.seq2 ?_; refine XC.cond rfl (fun c0_2 => ?_) (fun c0_2 => ?_)
 ·refine XC.seq ?_; refine XC.region ?_; refine XO.loadO 0 rfl rfl ty_27 rfl rfl rfl ?_; refine XO.move rfl rfl ?_; refine XO.storeO 0 rfl rfl rfl rfl ty_27 rfl rfl rfl rfl rfl ?_; refine XO.assign rfl rfl ?_; refine XO.assign rfl rfl ?_; refine XO.nil ?_; refine XC.seq2 ?_; refine XC.ret ?_; refine seqX_ret ?_; refine ⟨rfl, _, [], (resC_cell 0 rfl rfl ty_27 rfl rfl (resC_tmp rfl (resC_tmp rfl resC_nil))), (by repeat (first | exact List.Sublist.refl _ | apply List.Sublist.cons)), RetR.mk ?_⟩
  first | exact FndU.n (fndR_1 (by omega)) | exact FndU.y (fndR_2 h0 hno hx28 ⟨by assumption, by omega⟩) (by assumption) (by assumption) | exact FndU.n (fndR_3 h0 hno)
 ·have h0 : chkB l = 0 := by omega
  have hg := good_of h0
  refine XC.skip ?_; refine XC.seq2 ?_; refine XC.seq ?_; refine XC.region ?_; refine XO.move rfl rfl ?_; refine XO.move rfl rfl ?_; refine XO.move rfl rfl ?_; refine XO.buildArr Try.underlying55 ty_3 ze_55 rfl rfl rfl ?_; refine XO.alloc ze_55 rfl (fun b11 => ?_); refine XO.storeO 0 rfl rfl rfl rfl ty_55 rfl rfl rfl rfl rfl ?_; refine XO.nil ?_; refine XC.seq2 ?_; refine XC.seq ?_; refine XC.seq ?_; refine XC.region ?_; refine XO.move rfl rfl ?_; refine XO.lenS (ts := #[]) rfl Try.underlying22 rfl ?_; refine XO.move rfl rfl ?_; refine XO.nil ?_; refine XC.seq2 ?_; refine XC.block ?_; refine XC.keep [26, 8, 11, 24, 25] rfl ?_; refine XC.loop (base := [(8, _), (11, _), (24, _), (25, _)]) (fun ζ : Nat => [(26, .int .i64 (ζ : Nat))]) (fun ζ Hl own => ζ ≤ l.length ∧ (b11, .cells 55 [.int .i64 x, .int .i64 y, .int .i64 z]) :: (b8, .cells 27 (cardV 0 0 0 0 c0.D none 0)) :: rest = own ∧ (∀ y_ ∈ l.take (ζ), ¬ (plcL (hd y_) = [x, y, z] ∧ y_.length = 1))) (fun ζ => l.length - ζ) 0 (prov_cons (rfl) (prov_cons (rfl) (prov_cons (rfl) (prov_cons (rfl) (prov_cons (rfl) prov_nil))))) (by repeat (first | exact List.Sublist.refl _ | apply List.Sublist.cons_cons | apply List.Sublist.cons)) ⟨Nat.zero_le _, rfl, by simp⟩ ?_; rintro k Hl0 _ hle0 ⟨hkk, rfl, hno⟩; replace hs := hs.mono hle0
  try dsimp only at ⊢
  refine XC.seq ?_; refine XC.region ?_; refine XO.lss rfl rfl rfl ?_; refine XO.nil ?_; refine XC.seq2 ?_; refine XC.seq ?_; refine XC.cond rfl (fun c1_3 => ?_) (fun c1_3 => ?_)
  ·skip
   refine XC.skip ?_; refine XC.seq2 ?_; refine XC.seq ?_; refine XC.block ?_; refine XC.seq ?_; refine XC.region ?_; refine XO.indexN rfl hs rfl Try.underlying22 ty_50 (by omega) rfl ?_; rintro eb28 eo28 _ x28 hx28 ⟨ax28, cx28, rfl, hd28⟩ hp28
   have hk28 := (hg _ (List.mem_of_getElem? hx28)).1
   refine XO.loadH rfl (by assumption) ty_50 rfl rfl rfl ?_; refine XO.alloc ze_50 rfl (fun b13 => ?_); refine XO.storeO 0 rfl rfl rfl rfl ty_50 rfl rfl rfl rfl rfl ?_; refine XO.nil ?_; refine XC.seq2 ?_; refine XC.seq ?_
   by_cases hpl : plcL (hd x28) = [x, y, z]
   ·skip
    refine XC.keep [8, 11, 13, 24, 25, 26] rfl ?_; obtain ⟨bEZ, oEZ, rfl⟩ := hd28.addr (by omega); obtain ⟨_, xZ, hxZ, ⟨axZ, cxZ, rfl, hdZ, hDZ⟩, hpZ⟩ := hd28.elem (0) (by omega); obtain rfl := hd_at hxZ
    apply XC.draw 6 [eqF _, eqF _, eqF _, eqF _, eqF _, eqF _] follows (by kernel_rfl) (by kernel_rfl) ⟨eqF_mono _, eqF_mono _, eqF_mono _, eqF_mono _, eqF_mono _, eqF_mono _, trivial⟩ ?steps5 ?tail5
    case steps5 =>
     refine stepsK_cons rfl ?_ ?_
     ·intro X
      refine withPreds_nil rfl ?_; refine XO.fieldAddr rfl fa_50_0 rfl ?_; refine XO.nil ?_
      exact stepQ_ok rfl (rfl)
     refine stepsK_cons rfl ?_ ?_
     ·intro X
      refine withPreds_cons rfl rfl ?_; rintro _ rfl; refine withPreds_nil rfl ?_; refine XO.loadO 0 rfl rfl ty_31 rfl rfl rfl ?_; refine XO.nil ?_
      exact stepQ_ok rfl (rfl)
     refine stepsK_cons rfl ?_ ?_
     ·intro X
      refine withPreds_cons rfl rfl ?_; rintro _ rfl; refine withPreds_nil rfl ?_; refine XO.indexE rfl rfl Try.underlying31 ty_27 (by omega) (by omega) rfl ?_; refine XO.nil ?_
      exact stepQ_ok rfl (rfl)
     refine stepsK_cons rfl ?_ ?_
     ·intro X
      refine withPreds_cons rfl rfl ?_; rintro _ rfl; refine withPreds_nil rfl ?_; refine XO.loadH rfl (by assumption) ty_27 rfl rfl rfl ?_; refine XO.nil ?_
      exact stepQ_ok rfl (rfl)
     refine stepsK_cons rfl ?_ ?_
     ·intro X
      refine withPreds_cons rfl rfl ?_; rintro _ rfl; refine withPreds_nil rfl ?_; refine XO.callV rfl (at_fn (hd x28) _ _ _ hdZ hDZ) rfl ?_; refine XO.nil ?_
      exact stepQ_ok rfl (rfl)
     refine stepsK_cons rfl ?_ ?_
     ·intro X
      refine withPreds_nil rfl ?_; refine XO.loadO 1 rfl rfl ty_55 rfl rfl rfl ?_; refine XO.nil ?_
      exact stepQ_ok rfl (rfl)
     exact stepsD_end rfl
    case tail5 =>
     refine withPreds_cons rfl rfl ?_; rintro _ rfl; refine withPreds_cons rfl rfl ?_; rintro _ rfl; refine withPreds_cons rfl rfl ?_; rintro _ rfl; refine withPreds_cons rfl rfl ?_; rintro _ rfl; refine withPreds_cons rfl rfl ?_; rintro _ rfl; refine withPreds_cons rfl rfl ?_; rintro _ rfl; refine withPreds_nil rfl ?_; refine XO.eqlAr (l := plcL (hd x28)) (m := [x, y, z]) rfl rfl rfl rfl rfl rfl Try.underlying55 eg_55 Try.underlying3 ty_3 rfl ?_; refine XO.move rfl rfl ?_; refine XO.guardT rfl rfl (decide_eq_true hpl) rfl ?_; refine XO.fieldAddr rfl fa_50_0 rfl ?_; refine XO.guardT rfl rfl (decide_eq_true hpl) rfl ?_; refine XO.loadO 0 rfl rfl ty_31 rfl rfl rfl ?_; refine XO.guardT rfl rfl (decide_eq_true hpl) rfl ?_; refine XO.lenS (ts := #[]) rfl Try.underlying31 rfl ?_; refine XO.guardT rfl rfl (decide_eq_true hpl) rfl ?_; refine XO.eql rfl rfl rfl ?_; refine XO.pickT rfl (decide_eq_true hpl) rfl rfl ?_; refine XO.nil ?_; refine XC.seq2 ?_; refine XC.cond rfl (fun c2_9 => ?_) (fun c2_9 => ?_)
     ·refine XC.seq ?_; refine XC.region ?_; refine XO.fieldAddr rfl fa_50_0 rfl ?_; refine XO.loadO 0 rfl rfl ty_31 rfl rfl rfl ?_; refine XO.indexN (i := 0) rfl hd28 rfl Try.underlying31 ty_27 (by omega) rfl ?_; rintro eb45 eo45 _ x45 hx45 ⟨ax45, cx45, rfl, hd45, hD45⟩ hp45; obtain rfl := hd_at hx45; refine XO.loadH rfl (by assumption) ty_27 rfl rfl rfl ?_; refine XO.storeO 2 rfl rfl rfl rfl ty_27 rfl rfl rfl rfl rfl ?_; refine XO.assign rfl rfl ?_; refine XO.assign rfl rfl ?_; refine XO.nil ?_; refine XC.seq2 ?_; refine XC.ret ?_; refine blockR ?_; refine seqX_ret ?_; refine loopX_ret ?_; refine blockR ?_; refine seqX_ret ?_; refine ⟨rfl, _, [], (resC_cell 2 rfl rfl ty_27 rfl rfl (resC_tmp rfl (resC_tmp rfl resC_nil))), (by repeat (first | exact List.Sublist.refl _ | apply List.Sublist.cons)), RetR.mk ?_⟩
      first | exact FndU.n (fndR_1 (by omega)) | exact FndU.y (fndR_2 h0 hno hx28 ⟨by assumption, by omega⟩) (by assumption) (by assumption) | exact FndU.n (fndR_3 h0 hno)
     ·refine XC.skip ?_; refine blockN ?_; refine XC.seq2 ?_; refine XC.region ?_; refine XO.add rfl rfl (wrap_i64 (by omega) (by omega)) rfl ?_; refine XO.move rfl rfl ?_; refine XO.nil ?_; refine loop_next (k + 1) (by show l.length - (k + 1) < l.length - k; omega) (prov_cons (rfl) (prov_cons (rfl) (prov_cons (rfl) (prov_cons (rfl) (prov_cons (rfl) prov_nil))))) (⟨by show k + 1 ≤ l.length; omega, rfl, all_snocP (p := fun y_ => ¬ (plcL (hd y_) = [x, y, z] ∧ y_.length = 1)) hno hx28 (fun h => by first | exact absurd h.1 (by assumption) | (have := h.2; omega))⟩) (by repeat (first | exact List.Sublist.refl _ | apply List.Sublist.cons_cons | apply List.Sublist.cons)) (hle0)
   ·skip
    refine XC.keep [8, 11, 13, 24, 25, 26] rfl ?_; obtain ⟨bEZ, oEZ, rfl⟩ := hd28.addr (by omega); obtain ⟨_, xZ, hxZ, ⟨axZ, cxZ, rfl, hdZ, hDZ⟩, hpZ⟩ := hd28.elem (0) (by omega); obtain rfl := hd_at hxZ
    apply XC.draw 6 [eqF _, eqF _, eqF _, eqF _, eqF _, eqF _] follows (by kernel_rfl) (by kernel_rfl) ⟨eqF_mono _, eqF_mono _, eqF_mono _, eqF_mono _, eqF_mono _, eqF_mono _, trivial⟩ ?steps11 ?tail11
    case steps11 =>
     refine stepsK_cons rfl ?_ ?_
     ·intro X
      refine withPreds_nil rfl ?_; refine XO.fieldAddr rfl fa_50_0 rfl ?_; refine XO.nil ?_
      exact stepQ_ok rfl (rfl)
     refine stepsK_cons rfl ?_ ?_
     ·intro X
      refine withPreds_cons rfl rfl ?_; rintro _ rfl; refine withPreds_nil rfl ?_; refine XO.loadO 0 rfl rfl ty_31 rfl rfl rfl ?_; refine XO.nil ?_
      exact stepQ_ok rfl (rfl)
     refine stepsK_cons rfl ?_ ?_
     ·intro X
      refine withPreds_cons rfl rfl ?_; rintro _ rfl; refine withPreds_nil rfl ?_; refine XO.indexE rfl rfl Try.underlying31 ty_27 (by omega) (by omega) rfl ?_; refine XO.nil ?_
      exact stepQ_ok rfl (rfl)
     refine stepsK_cons rfl ?_ ?_
     ·intro X
      refine withPreds_cons rfl rfl ?_; rintro _ rfl; refine withPreds_nil rfl ?_; refine XO.loadH rfl (by assumption) ty_27 rfl rfl rfl ?_; refine XO.nil ?_
      exact stepQ_ok rfl (rfl)
     refine stepsK_cons rfl ?_ ?_
     ·intro X
      refine withPreds_cons rfl rfl ?_; rintro _ rfl; refine withPreds_nil rfl ?_; refine XO.callV rfl (at_fn (hd x28) _ _ _ hdZ hDZ) rfl ?_; refine XO.nil ?_
      exact stepQ_ok rfl (rfl)
     refine stepsK_cons rfl ?_ ?_
     ·intro X
      refine withPreds_nil rfl ?_; refine XO.loadO 1 rfl rfl ty_55 rfl rfl rfl ?_; refine XO.nil ?_
      exact stepQ_ok rfl (rfl)
     exact stepsD_end rfl
    case tail11 =>
     refine withPreds_cons rfl rfl ?_; rintro _ rfl; refine withPreds_cons rfl rfl ?_; rintro _ rfl; refine withPreds_cons rfl rfl ?_; rintro _ rfl; refine withPreds_cons rfl rfl ?_; rintro _ rfl; refine withPreds_cons rfl rfl ?_; rintro _ rfl; refine withPreds_cons rfl rfl ?_; rintro _ rfl; refine withPreds_nil rfl ?_; refine XO.eqlAr (l := plcL (hd x28)) (m := [x, y, z]) rfl rfl rfl rfl rfl rfl Try.underlying55 eg_55 Try.underlying3 ty_3 rfl ?_; refine XO.move rfl rfl ?_; refine XO.guardF rfl rfl (decide_eq_false hpl) rfl rfl ?_; refine XO.guardF rfl rfl (decide_eq_false hpl) rfl rfl ?_; refine XO.guardF rfl rfl (decide_eq_false hpl) rfl rfl ?_; refine XO.guardF rfl rfl (decide_eq_false hpl) rfl rfl ?_; refine XO.pickF rfl (decide_eq_false hpl) rfl rfl ?_; refine XO.nil ?_; refine XC.seq2 ?_; refine XC.condF rfl (rfl) ?_; refine XC.skip ?_; refine blockN ?_; refine XC.seq2 ?_; refine XC.region ?_; refine XO.add rfl rfl (wrap_i64 (by omega) (by omega)) rfl ?_; refine XO.move rfl rfl ?_; refine XO.nil ?_; refine loop_next (k + 1) (by show l.length - (k + 1) < l.length - k; omega) (prov_cons (rfl) (prov_cons (rfl) (prov_cons (rfl) (prov_cons (rfl) (prov_cons (rfl) prov_nil))))) (⟨by show k + 1 ≤ l.length; omega, rfl, all_snocP (p := fun y_ => ¬ (plcL (hd y_) = [x, y, z] ∧ y_.length = 1)) hno hx28 (fun h => by first | exact absurd h.1 (by assumption) | (have := h.2; omega))⟩) (by repeat (first | exact List.Sublist.refl _ | apply List.Sublist.cons_cons | apply List.Sublist.cons)) (hle0)
  ·obtain rfl : k = l.length := by omega
   rw [List.take_length] at hno
   refine XC.exit ?_; refine seqX_exit ?_; refine loopX_exit ?_; refine blockHit rfl ?_; refine XC.seq2 ?_; refine XC.seq ?_; refine XC.region ?_; refine XO.loadO 1 rfl rfl ty_27 rfl rfl rfl ?_; refine XO.storeO 1 rfl rfl rfl rfl ty_27 rfl rfl rfl rfl rfl ?_; refine XO.assign rfl rfl ?_; refine XO.assign rfl rfl ?_; refine XO.nil ?_; refine XC.seq2 ?_; refine XC.ret ?_; refine ⟨rfl, _, [], (resC_cell 1 rfl rfl ty_27 rfl rfl (resC_tmp rfl (resC_tmp rfl resC_nil))), (by repeat (first | exact List.Sublist.refl _ | apply List.Sublist.cons)), RetR.mk ?_⟩
   first | exact FndU.n (fndR_1 (by omega)) | exact FndU.y (fndR_2 h0 hno hx28 ⟨by assumption, by omega⟩) (by assumption) (by assumption) | exact FndU.n (fndR_3 h0 hno)

end Go.Proofs

/- The walks of the functions of boxes: what each of them computes, at any input. -/
set_option maxRecDepth 100000
set_option autoImplicit false
set_option linter.unusedVariables false
set_option linter.unusedSimpArgs false
namespace Go.Proofs
open Go.XL



theorem rmrg_b (l m : Box) (a b : Option Addr) (c d : Nat) (H : Hp) (hs : SlR (slR cardR) H a c l) (ht : SlR (slR cardR) H b d m) (hl : l.length < 9223372036854775808) (hm : m.length < 9223372036854775808) (hlx : ∀ x ∈ l, x.length < 9223372036854775808) (hlc : ∀ x ∈ l, ∀ s ∈ x, s.C.length < 9223372036854775808) (hmx : ∀ x ∈ m, x.length < 9223372036854775808) (hmc : ∀ x ∈ m, ∀ s ∈ x, s.C.length < 9223372036854775808) : FnC Try.prog 17 #[.slice a l.length c, .slice b m.length d] H [] (RetR (fun v H2 _ => BoxU (rmrgX l m) (rmrgE l m) H2 v)) := by
 refine FnC.intro (args := [.slice a l.length c, .slice b m.length d]) Try.func17 rfl rfl Try.ntmps17 rfl rfl rfl fun G rest => ?_
 refine XC.seq ?_; refine XC.region ?_; refine XO.assign rfl rfl ?_; refine XO.assign rfl rfl ?_; refine XO.nil ?_; refine XC.seq2 ?_; refine XC.seq ?_; refine XC.region ?_; refine XO.move rfl rfl ?_; refine XO.callV rfl (rcheck_b _ _ l _ hs hl hlx hlc) rfl ?_; refine XO.assign rfl rfl ?_; refine XO.nil ?_; refine XC.seq2 ?_; refine XC.seq ?_; refine XC.seq ?_; refine XC.region ?_; refine XO.move rfl rfl ?_; refine XO.eql rfl rfl rfl ?_; refine XO.nil ?_; refine XC.seq2 ?_; refine XC.cond rfl (fun c0_2 => ?_) (fun c0_2 => ?_)
 ·refine XC.region ?_; refine XO.move rfl rfl ?_; refine XO.callV rfl (rcheck_b _ _ m _ ht hm hmx hmc) rfl ?_; refine XO.assign rfl rfl ?_; refine XO.nil ?_; refine XC.seq2 ?_; refine XC.seq ?_; refine XC.seq ?_; refine XC.region ?_; refine XO.move rfl rfl ?_; refine XO.neq rfl rfl rfl ?_; refine XO.nil ?_; refine XC.seq2 ?_; refine XC.cond rfl (fun c1_4 => ?_) (fun c1_4 => ?_)
  ·refine XC.seq ?_; refine XC.region ?_; refine XO.move rfl rfl ?_; refine XO.assign rfl rfl ?_; refine XO.assign rfl rfl ?_; refine XO.nil ?_; refine XC.seq2 ?_; refine XC.ret ?_; refine seqX_ret ?_; refine ⟨rfl, _, [], rfl, (by repeat (first | exact List.Sublist.refl _ | apply List.Sublist.cons)), RetR.mk ?_⟩
   first | exact BoxU.e (rmrg_1 (by omega)) | exact BoxU.e (rmrg_2 (by omega) (by omega)) | exact BoxU.e (rmrg_3 h0 h1 (by omega)) | exact BoxU.k (rmrg_4 h0 h1 (by omega)) (by assumption)
  ·have h0 : chkB l = 0 := by omega
   have h1 : chkB m = 0 := by omega
   have hg := good_of h0
   have hgm := good_of h1
   have hll := (chkB_0 h0).1
   have hml := (chkB_0 h1).1
   refine XC.skip ?_; refine XC.seq2 ?_; refine XC.seq ?_; refine XC.region ?_; refine XO.move rfl rfl ?_; refine XO.assign rfl rfl ?_; refine XO.nil ?_; refine XC.seq2 ?_; refine XC.seq ?_; refine XC.seq ?_; refine XC.region ?_; refine XO.assign rfl rfl ?_; refine XO.nil ?_; refine XC.seq2 ?_; refine XC.block ?_; refine XC.keep [7, 8, 1] rfl ?_; refine XC.loop (base := [(1, _)]) (fun ζ : Nat × (Option Addr) × (Nat) => [(7, .slice ζ.2.1 ((putsB l ((m.take (ζ.1)).flatten))).length ζ.2.2), (8, .int .i64 (ζ.1 : Nat))]) (fun ζ Hl own => ζ.1 ≤ m.length ∧ rest = own ∧ (SlR (slR cardR) Hl ζ.2.1 ζ.2.2 (putsB l ((m.take (ζ.1)).flatten)))) (fun ζ => m.length - ζ.1) (0, a, c) (prov_cons (rfl) (prov_cons (rfl) (prov_cons (rfl) prov_nil))) (by repeat (first | exact List.Sublist.refl _ | apply List.Sublist.cons_cons | apply List.Sublist.cons)) ⟨Nat.zero_le _, rfl, hs⟩ ?_; rintro ⟨i, ax, cx⟩ Hl0 _ hle0 ⟨hki, rfl, hX⟩; replace hs := hs.mono hle0; replace ht := ht.mono hle0
   try dsimp only at hki hX ⊢
   refine XC.seq ?_; refine XC.seq ?_; refine XC.region ?_; refine XO.move rfl rfl ?_; refine XO.move rfl rfl ?_; refine XO.lenS (ts := #[]) rfl Try.underlying22 rfl ?_; refine XO.lss rfl rfl rfl ?_; refine XO.nil ?_; refine XC.seq2 ?_; refine XC.cond rfl (fun c2_5 => ?_) (fun c2_5 => ?_)
   ·refine XC.skip ?_; refine XC.seq2 ?_; refine XC.seq ?_; refine XC.block ?_; refine XC.seq ?_; refine XC.region ?_; refine XO.assign rfl rfl ?_; refine XO.nil ?_; refine XC.seq2 ?_; refine XC.block ?_; refine XC.keep [7, 9, 1, 8] rfl ?_
    obtain ⟨xR, hxR⟩ : ∃ x, m[i]? = some x := ⟨_, List.getElem?_eq_getElem (by omega)⟩
    have hkR := (hgm _ (List.mem_of_getElem? hxR)).1
    refine XC.loop (base := [(1, _), (8, _)]) (fun ζ : Nat × (Option Addr) × (Nat) => [(7, .slice ζ.2.1 ((putsB l ((m.take i).flatten ++ xR.take (ζ.1)))).length ζ.2.2), (9, .int .i64 (ζ.1 : Nat))]) (fun ζ Hl own => ζ.1 ≤ xR.length ∧ rest = own ∧ (SlR (slR cardR) Hl ζ.2.1 ζ.2.2 (putsB l ((m.take i).flatten ++ xR.take (ζ.1))))) (fun ζ => xR.length - ζ.1) (0, ax, cx) (prov_cons (by simp only [List.take_zero, List.append_nil]; rfl) (prov_cons (rfl) (prov_cons (rfl) (prov_cons (rfl) prov_nil)))) (by repeat (first | exact List.Sublist.refl _ | apply List.Sublist.cons_cons | apply List.Sublist.cons)) ⟨Nat.zero_le _, rfl, by rw [List.take_zero, List.append_nil]; exact hX⟩ ?_; rintro ⟨k, ay, cy⟩ Hl1 _ hle1 ⟨hkk, rfl, hY⟩; replace hs := hs.mono hle1; replace ht := ht.mono hle1; replace hX := hX.mono hle1; replace hle0 := hle0.trans hle1
    try dsimp only at hkk hY ⊢
    refine XC.seq ?_; refine XC.seq ?_; refine XC.region ?_; refine XO.move rfl rfl ?_; refine XO.move rfl rfl ?_; refine XO.move rfl rfl ?_; refine XO.indexN rfl ht rfl Try.underlying22 ty_50 (by omega) rfl ?_; rintro eb29 eo29 _ x29 hx29 ⟨ax29, cx29, rfl, hd29⟩ hp29; obtain rfl := Option.some.inj (hxR.symm.trans hx29); refine XO.fieldAddr rfl fa_50_0 rfl ?_; refine XO.loadHF rfl (by assumption) ty_31 rfl rfl rfl ?_; refine XO.lenS (ts := #[]) rfl Try.underlying31 rfl ?_; refine XO.lss rfl rfl rfl ?_; refine XO.nil ?_; refine XC.seq2 ?_; refine XC.cond rfl (fun c3_7 => ?_) (fun c3_7 => ?_)
    ·refine XC.skip ?_; refine XC.seq2 ?_; refine XC.seq ?_; refine XC.block ?_; refine XC.region ?_; refine XO.move rfl rfl ?_; refine XO.move rfl rfl ?_; refine XO.move rfl rfl ?_; refine XO.indexN rfl ht rfl Try.underlying22 ty_50 (by omega) rfl ?_; rintro eb39 eo39 _ x39 hx39 ⟨ax39, cx39, rfl, hd39⟩ hp39; obtain rfl := Option.some.inj (hxR.symm.trans hx39); refine XO.fieldAddr rfl fa_50_0 rfl ?_; refine XO.loadHF rfl (by assumption) ty_31 rfl rfl rfl ?_; refine XO.move rfl rfl ?_; refine XO.indexN (i := k) rfl hd39 rfl Try.underlying31 ty_27 (by omega) rfl ?_; rintro eb43 eo43 _ x43 hx43 ⟨ax43, cx43, rfl, hd43, hD43⟩ hp43; refine XO.loadH rfl (by assumption) ty_27 rfl rfl rfl ?_; refine XO.callH rfl (put_fn (putsB l ((m.take i).flatten ++ xR.take (k))) x43 _ _ _ _ _ hY hd43 hD43 (puts_good _ l hg (fun s hs => good_mem hgm (mem_take_flat hxR k hs))) ((hgm _ (List.mem_of_getElem? hxR)).2 _ (List.mem_of_getElem? hx43)) (by have := puts_len ((m.take i).flatten ++ xR.take k) l; have := flat_part_len hgm hxR k; omega)) rfl ?_; rintro _ HN45 hleN45 ⟨aN45, cN45, rfl, hN45⟩; replace hs := hs.mono hleN45; replace ht := ht.mono hleN45; replace hX := hX.mono hleN45; replace hY := hY.mono hleN45; replace hp29 := hp29.mono hleN45; replace hd29 := hd29.mono hleN45; replace hp39 := hp39.mono hleN45; replace hd39 := hd39.mono hleN45; replace hp43 := hp43.mono hleN45; replace hd43 := hd43.mono hleN45; replace hle0 := hle0.trans hleN45; replace hle1 := hle1.trans hleN45; refine XO.assign rfl rfl ?_; refine XO.nil ?_; refine blockN ?_; refine XC.seq2 ?_; refine XC.region ?_; refine XO.move rfl rfl ?_; refine XO.add rfl rfl (wrap_i64 (by omega) (by omega)) rfl ?_; refine XO.assign rfl rfl ?_; refine XO.nil ?_; refine loop_next ((k + 1, aN45, cN45)) (by show xR.length - (k + 1) < xR.length - k; omega) (prov_cons (by rw [take_snoc hx43, ← List.append_assoc, puts_snoc]; rfl) (prov_cons (rfl) (prov_cons (rfl) (prov_cons (rfl) prov_nil)))) (⟨by show k + 1 ≤ xR.length; omega, rfl, by rw [take_snoc hx43, ← List.append_assoc, puts_snoc]; exact hN45⟩) (by repeat (first | exact List.Sublist.refl _ | apply List.Sublist.cons_cons | apply List.Sublist.cons)) (hle1)
    ·obtain rfl : k = xR.length := by omega
     rw [List.take_length] at hY ⊢
     refine XC.exit ?_; refine seqX_exit ?_; refine loopX_exit ?_; refine blockHit rfl ?_; refine blockN ?_; refine XC.seq2 ?_; refine XC.region ?_; refine XO.move rfl rfl ?_; refine XO.add rfl rfl (wrap_i64 (by omega) (by omega)) rfl ?_; refine XO.assign rfl rfl ?_; refine XO.nil ?_; refine loop_next ((i + 1, ay, cy)) (by show m.length - (i + 1) < m.length - i; omega) (prov_cons (by rw [flat_take hxR]; rfl) (prov_cons (rfl) (prov_cons (rfl) prov_nil))) (⟨by show i + 1 ≤ m.length; omega, rfl, by rw [flat_take hxR]; exact hY⟩) (by repeat (first | exact List.Sublist.refl _ | apply List.Sublist.cons_cons | apply List.Sublist.cons)) (hle0)
   ·obtain rfl : i = m.length := by omega
    rw [List.take_length] at hX ⊢
    have hpl := puts_len m.flatten l
    have hfl := flat_len hgm
    refine XC.exit ?_; refine seqX_exit ?_; refine loopX_exit ?_; refine blockHit rfl ?_; refine XC.seq2 ?_; refine XC.seq ?_; refine XC.seq ?_; refine XC.region ?_; refine XO.move rfl rfl ?_; refine XO.lenS (ts := #[]) rfl Try.underlying22 rfl ?_; refine XO.gtr rfl rfl rfl ?_; refine XO.nil ?_; refine XC.seq2 ?_; refine XC.cond rfl (fun c4_11 => ?_) (fun c4_11 => ?_)
    ·refine XC.seq ?_; refine XC.region ?_; refine XO.assign rfl rfl ?_; refine XO.assign rfl rfl ?_; refine XO.nil ?_; refine XC.seq2 ?_; refine XC.ret ?_; refine seqX_ret ?_; refine ⟨rfl, _, [], rfl, (by repeat (first | exact List.Sublist.refl _ | apply List.Sublist.cons)), RetR.mk ?_⟩
     first | exact BoxU.e (rmrg_1 (by omega)) | exact BoxU.e (rmrg_2 (by omega) (by omega)) | exact BoxU.e (rmrg_3 h0 h1 (by omega)) | exact BoxU.k (rmrg_4 h0 h1 (by omega)) (by assumption)
    ·refine XC.skip ?_; refine XC.seq2 ?_; refine XC.seq ?_; refine XC.region ?_; refine XO.move rfl rfl ?_; refine XO.assign rfl rfl ?_; refine XO.assign rfl rfl ?_; refine XO.nil ?_; refine XC.seq2 ?_; refine XC.ret ?_; refine ⟨rfl, _, [], rfl, (by repeat (first | exact List.Sublist.refl _ | apply List.Sublist.cons)), RetR.mk ?_⟩
     first | exact BoxU.e (rmrg_1 (by omega)) | exact BoxU.e (rmrg_2 (by omega) (by omega)) | exact BoxU.e (rmrg_3 h0 h1 (by omega)) | exact BoxU.k (rmrg_4 h0 h1 (by omega)) (by assumption)
 ·refine XC.skip ?_; refine XC.seq2 ?_; refine XC.seq ?_; refine XC.seq ?_; refine XC.region ?_; refine XO.move rfl rfl ?_; refine XO.neq rfl rfl rfl ?_; refine XO.nil ?_; refine XC.seq2 ?_; refine XC.condT rfl (decide_eq_true (by omega)) ?_; refine XC.seq ?_; refine XC.region ?_; refine XO.move rfl rfl ?_; refine XO.assign rfl rfl ?_; refine XO.assign rfl rfl ?_; refine XO.nil ?_; refine XC.seq2 ?_; refine XC.ret ?_; refine seqX_ret ?_; refine ⟨rfl, _, [], rfl, (by repeat (first | exact List.Sublist.refl _ | apply List.Sublist.cons)), RetR.mk ?_⟩
  first | exact BoxU.e (rmrg_1 (by omega)) | exact BoxU.e (rmrg_2 (by omega) (by omega)) | exact BoxU.e (rmrg_3 h0 h1 (by omega)) | exact BoxU.k (rmrg_4 h0 h1 (by omega)) (by assumption)

end Go.Proofs

/- Boxes: the program's merge, in plain Lean. -/
set_option maxRecDepth 100000
set_option autoImplicit false
set_option linter.unusedVariables false
set_option linter.unusedSimpArgs false
namespace Go.Proofs
open Go.XL
/-- two lists in one, in order -/
def mrg : List Card → List Card → List Card
 | [], y => y
 | x :: p, [] => x :: p
 | x :: p, y :: q => if ordC y x < 0 then y :: mrg (x :: p) q else x :: mrg p (y :: q)
termination_by a b => a.length + b.length
theorem mrg_nil (x : List Card) : mrg x [] = x := by cases x <;> rw [mrg]
theorem mrg_x {X Y : List Card} {z : Card} (h : X[0]? = some z) (hc : Y.length = 0 ∨ ∃ y, Y[0]? = some y ∧ ¬ ordC y z < 0) : mrg X Y = z :: mrg (X.drop 1) Y := by
  match X, h with
  | x :: p, h =>
    simp at h; subst h
    match Y, hc with
    | [], _ => rw [mrg_nil, mrg_nil]; rfl
    | y :: q, hc =>
      rw [mrg, if_neg]
      · rfl
      · rcases hc with hc | ⟨y', h1, h2⟩
        · simp at hc
        · simp at h1; subst h1; exact h2
theorem mrg_y {X Y : List Card} {z : Card} (h : Y[0]? = some z) (hc : X.length = 0 ∨ ∃ x, X[0]? = some x ∧ ordC z x < 0) : mrg X Y = z :: mrg X (Y.drop 1) := by
  match Y, h with
  | y :: q, h =>
    simp at h; subst h
    match X, hc with
    | [], _ => rw [mrg, mrg]; rfl
    | x :: p, hc =>
      rw [mrg, if_pos]
      · rfl
      · rcases hc with hc | ⟨x', h1, h2⟩
        · simp at hc
        · simp at h1; subst h1; exact h2
theorem drop_one {Z ls : List Card} (h : ls = (Z.drop (1 : Int).toNat).take (((Z.length : Nat) : Int).toNat - (1 : Int).toNat)) : ls = Z.drop 1 := by
 rw [h, show (1 : Int).toNat = 1 from rfl, show ((Z.length : Nat) : Int).toNat = Z.length from rfl, List.take_of_length_le]
 rw [List.length_drop]; omega
theorem mem_mrg : ∀ {x y : List Card} {z : Card}, z ∈ mrg x y ↔ z ∈ x ∨ z ∈ y
  | [], y, z => by rw [mrg]; simp
  | x :: p, [], z => by rw [mrg]; simp
  | x :: p, y :: q, z => by
    rw [mrg]
    split
    · rw [List.mem_cons, mem_mrg, List.mem_cons (a := z) (b := y)]; constructor <;> (intro h; rcases h with h | h | h <;> simp [h])
    · rw [List.mem_cons, mem_mrg, List.mem_cons (a := z) (b := x)]; constructor
      · intro h; rcases h with h | h | h <;> simp [h]
      · intro h; rcases h with (h | h) | h <;> simp [h]
termination_by x y => x.length + y.length
theorem len_mrg : ∀ (x y : List Card), (mrg x y).length = x.length + y.length
  | [], y => by rw [mrg]; simp
  | x :: p, [] => by rw [mrg]; simp
  | x :: p, y :: q => by
    rw [mrg]
    split
    · rw [List.length_cons, len_mrg]; simp; omega
    · rw [List.length_cons, len_mrg]; simp; omega
termination_by x y => x.length + y.length
def encC (x : Card) (b : Option Addr × Nat) : List Value := [.agg ⟨cardV x.R x.E x.J x.C.length x.D b.1 b.2⟩]
def lendC (x : Card) (b : Option Addr × Nat) (H : Hp) (o : XL.Own) : Prop := o = [] ∧ SlR (intR .i64) H b.1 b.2 x.C ∧ x.D.length = 32
/-- one card more -/
def stepM (R : Box) (s : Card) : Box :=
 match R[R.length - 1]? with
 | none => R ++ [[s]]
 | some x => if plcL (hd x) ≠ plcL s then R ++ [[s]] else if x.length < 2 ∧ ordC (hd x) s < 0 then R.set (R.length - 1) (x ++ [s]) else R
def boxO (l : List Card) : Box := l.foldl stepM []
theorem boxO_snoc (l : List Card) (s : Card) : boxO (l ++ [s]) = stepM (boxO l) s := by unfold boxO; rw [List.foldl_append]; rfl
section
variable {R : Box} {s : Card} {x : List Card}
theorem step_1 (h : R.length = 0) : stepM R s = R ++ [[s]] := by
 have : R = [] := List.eq_nil_of_length_eq_zero h
 subst this; rfl
theorem step_2 (hx : R[R.length - 1]? = some x) (h : plcL (hd x) ≠ plcL s) : stepM R s = R ++ [[s]] := by unfold stepM; rw [hx]; exact if_pos h
theorem step_3 (hx : R[R.length - 1]? = some x) (h : plcL (hd x) = plcL s) (h2 : ¬ (x.length < 2 ∧ ordC (hd x) s < 0)) : stepM R s = R := by unfold stepM; rw [hx]; simp only; rw [if_neg (fun e => e h), if_neg h2]
theorem step_5 (hx : R[R.length - 1]? = some x) (h : plcL (hd x) = plcL s) (h2 : x.length < 2 ∧ ordC (hd x) s < 0) : stepM R s = R.set (R.length - 1) (x ++ [s]) := by unfold stepM; rw [hx]; simp only; rw [if_neg (fun e => e h), if_pos h2]
theorem good_step (hg : goodB R) (hs : okC s) : goodB (stepM R s) := by
 have h1 : goodB (R ++ [[s]]) := good_snoc hg ⟨Nat.le_refl 1, show 1 ≤ 2 by decide⟩ (fun t ht => by simp only [List.mem_singleton] at ht; subst ht; exact hs)
 unfold stepM
 split
 ·exact h1
 ·rename_i x hx
  split
  ·exact h1
  ·split
   ·rename_i h2
    intro y hy
    rcases List.mem_or_eq_of_mem_set hy with hy | rfl
    ·exact hg y hy
    ·have := hg _ (List.mem_of_getElem? hx)
     refine ⟨by rw [List.length_append, List.length_singleton]; omega, fun t ht => ?_⟩
     rcases List.mem_append.1 ht with ht | ht
     ·exact this.2 t ht
     ·simp only [List.mem_singleton] at ht; subst ht; exact hs
   ·exact hg
theorem len_step : (stepM R s).length ≤ R.length + 1 := by
 unfold stepM
 split
 ·simp
 ·split
  ·simp
  ·split <;> simp
end
theorem good_boxO {l : List Card} (h : ∀ s ∈ l, okC s) : goodB (boxO l) := by
 have key : ∀ (l : List Card) (R : Box), goodB R → (∀ s ∈ l, okC s) → goodB (l.foldl stepM R) := by
  intro l
  induction l with
  | nil => intro R h _; exact h
  | cons s l ih => intro R h h2; exact ih _ (good_step h (h2 s List.mem_cons_self)) fun t ht => h2 t (List.mem_cons_of_mem _ ht)
 exact key l [] (fun x hx => by cases hx) h
theorem len_boxO (l : List Card) : (boxO l).length ≤ l.length := by
  have key : ∀ (l : List Card) (R : Box), (l.foldl stepM R).length ≤ R.length + l.length := by
    intro l
    induction l with
    | nil => intro R; simp
    | cons s l ih =>
      intro R
      have h1 := ih (stepM R s)
      have h2 := len_step (R := R) (s := s)
      rw [List.foldl_cons, List.length_cons]; omega
  have := key l []
  unfold boxO
  simpa using this
/-- the slots as they lie, small ones full -/
def RawS (H : Hp) (rs : List Raw) (l : Box) : Prop := RawOf cardR H rs l ∧ ∀ (i : Nat) (r : Raw) (x : List Card), rs[i]? = some r → l[i]? = some x → x.length < 2 → r.2.2 ≤ x.length
section
variable {H : Hp} {rs : List Raw} {l : Box} {x : List Card} {a : Option Addr} {c i : Nat}
theorem RawS.mono {H' : Hp} (h : RawS H rs l) (hle : Le H H') : RawS H' rs l := ⟨h.1.mono hle, h.2⟩
theorem RawS.nil : RawS H [] [] := ⟨⟨rfl, fun i r x h => by simp at h⟩, fun i r x h => by simp at h⟩
theorem RawS.get (h : RawS H rs l) (hx : l[i]? = some x) : ∃ a c, rs[i]? = some (a, x.length, c) ∧ SlR cardR H a c x ∧ (x.length < 2 → c ≤ x.length) := by
 have hi : i < rs.length := by rw [h.1.1]; exact (List.getElem?_eq_some_iff.1 hx).1
 have hr : rs[i]? = some rs[i] := List.getElem?_eq_getElem hi
 obtain ⟨h1, h2⟩ := h.1.2 i _ x hr hx; refine ⟨rs[i].1, rs[i].2.2, by rw [hr, ← h1], h2, h.2 i _ x hr hx⟩
theorem RawS.snoc (h : RawS H rs l) (hs : SlR cardR H a c x) (hc : x.length < 2 → c ≤ x.length) : RawS H (rs ++ [(a, x.length, c)]) (l ++ [x]) := by
 have e := h.1.1
 have key : ∀ (i : Nat) (r : Raw) (y : List Card), (rs ++ [(a, x.length, c)])[i]? = some r → (l ++ [x])[i]? = some y → (rs[i]? = some r ∧ l[i]? = some y) ∨ (r = (a, x.length, c) ∧ y = x) := by
  intro i r y hr hy
  rcases Nat.lt_or_ge i rs.length with hi | hi
  ·rw [List.getElem?_append_left hi] at hr
   rw [List.getElem?_append_left (by omega)] at hy
   exact .inl ⟨hr, hy⟩
  ·rw [List.getElem?_append_right hi] at hr
   rw [List.getElem?_append_right (by omega)] at hy
   have h1 := List.mem_of_getElem? hr
   have h2 := List.mem_of_getElem? hy
   simp only [List.mem_singleton] at h1 h2
   exact .inr ⟨h1, h2⟩
 refine ⟨⟨by simp [e], fun i r y hr hy => ?_⟩, fun i r y hr hy => ?_⟩
 ·rcases key i r y hr hy with ⟨h1, h2⟩ | ⟨rfl, rfl⟩
  ·exact h.1.2 i r y h1 h2
  ·exact ⟨rfl, hs⟩
 ·rcases key i r y hr hy with ⟨h1, h2⟩ | ⟨rfl, rfl⟩
  ·exact h.2 i r y h1 h2
  ·exact hc
theorem RawS.set (h : RawS H rs l) (hi : i < l.length) (hs : SlR cardR H a c x) (hc : x.length < 2 → c ≤ x.length) : RawS H (rs.set i (a, x.length, c)) (l.set i x) := by
 have e := h.1.1
 have key : ∀ (j : Nat) (r : Raw) (y : List Card), (rs.set i (a, x.length, c))[j]? = some r → (l.set i x)[j]? = some y → (rs[j]? = some r ∧ l[j]? = some y) ∨ (r = (a, x.length, c) ∧ y = x) := by
  intro j r y hr hy
  by_cases hj : i = j
  ·subst hj
   rw [List.getElem?_set_self (by omega)] at hr hy
   exact .inr ⟨(Option.some.inj hr).symm, (Option.some.inj hy).symm⟩
  ·rw [List.getElem?_set_ne hj] at hr hy
   exact .inl ⟨hr, hy⟩
 refine ⟨⟨by simp [e], fun j r y hr hy => ?_⟩, fun j r y hr hy => ?_⟩
 ·rcases key j r y hr hy with ⟨h1, h2⟩ | ⟨rfl, rfl⟩
  ·exact h.1.2 j r y h1 h2
  ·exact ⟨rfl, hs⟩
 ·rcases key j r y hr hy with ⟨h1, h2⟩ | ⟨rfl, rfl⟩
  ·exact h.2 j r y h1 h2
  ·exact hc
end
/-- the program's merge -/
def pmB (l m : Box) : Box := boxO (mrg l.flatten m.flatten)
def pE (X : Box) : Int := if 4096 < X.length then 2 else 0
def pX (X : Box) : Box := if 4096 < X.length then [] else X
theorem p_1 {X : Box} (h : 4096 < X.length) : pE X = 2 ∧ pX X = [] := ⟨if_pos h, if_pos h⟩
theorem p_0 {X : Box} (h : ¬ 4096 < X.length) : pE X = 0 ∧ pX X = X := ⟨if_neg h, if_neg h⟩
theorem BoxU.n {b X : Box} {E : Int} {H : Hp} {a : Option Addr} {c n : Nat} (h : E = 0 ∧ X = b) (hn : n = b.length) (hs : SlR (slR cardR) H a c b) : BoxU X E H (.tuple #[.slice a n c, .int .i64 0]) := by subst hn; exact BoxU.k h hs
def pputE (b : Box) (s : Card) : Int := if chkB b = 0 then (if okC s then pE (pmB b [[s]]) else 350) else chkB b
def pputX (b : Box) (s : Card) : Box := if chkB b = 0 ∧ okC s then pX (pmB b [[s]]) else []
def pmrgE (a b : Box) : Int := if chkB a = 0 then (if chkB b = 0 then pE (pmB a b) else chkB b) else chkB a
def pmrgX (a b : Box) : Box := if chkB a = 0 ∧ chkB b = 0 then pX (pmB a b) else []
theorem pput_1 {b : Box} {s : Card} (h : ¬ chkB b = 0) : pputE b s = chkB b ∧ pputX b s = [] := ⟨if_neg h, if_neg fun e => h e.1⟩
theorem pput_2 {b : Box} {s : Card} (h : chkB b = 0) (h2 : ¬ okC s) : pputE b s = 350 ∧ pputX b s = [] := ⟨by unfold pputE; rw [if_pos h, if_neg h2], if_neg fun e => h2 e.2⟩
theorem pput_3 {b : Box} {s : Card} (h : chkB b = 0) (h2 : okC s) : pputE b s = pE (pmB b [[s]]) ∧ pputX b s = pX (pmB b [[s]]) := ⟨by unfold pputE; rw [if_pos h, if_pos h2], if_pos ⟨h, h2⟩⟩
theorem pmrg_1 {a b : Box} (h : ¬ chkB a = 0) : pmrgE a b = chkB a ∧ pmrgX a b = [] := ⟨if_neg h, if_neg fun e => h e.1⟩
theorem pmrg_2 {a b : Box} (h : chkB a = 0) (h2 : ¬ chkB b = 0) : pmrgE a b = chkB b ∧ pmrgX a b = [] := ⟨by unfold pmrgE; rw [if_pos h, if_neg h2], if_neg fun e => h2 e.2⟩
theorem pmrg_3 {a b : Box} (h : chkB a = 0) (h2 : chkB b = 0) : pmrgE a b = pE (pmB a b) ∧ pmrgX a b = pX (pmB a b) := ⟨by unfold pmrgE; rw [if_pos h, if_pos h2], if_pos ⟨h, h2⟩⟩
theorem BoxU.via {X Y : Box} {E F : Int} {H : Hp} {a : Option Addr} {c : Nat} {e : Int} {n : Nat} (h : E = F ∧ X = Y) (hb : F = e ∧ n = Y.length) (hs : SlR (slR cardR) H a c Y) : BoxU X E H (.tuple #[.slice a n c, .int .i64 e]) := by obtain ⟨rfl, rfl⟩ := h; obtain ⟨rfl, rfl⟩ := hb; exact BoxU.yes hs
end Go.Proofs
