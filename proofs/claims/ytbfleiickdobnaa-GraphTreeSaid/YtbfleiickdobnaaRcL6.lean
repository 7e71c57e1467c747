/- The law GraphTree: it returns true, whatever the input, and what it was handed reads as before. No condition. -/
import Derived.Test.YtbfleiickdobnaaRcE2
import Derived.Test.YtbfleiickdobnaaXLn
import Derived.Test.YtbfleiickdobnaaRcI2
import Derived.Test.YtbfleiickdobnaaRows
import Derived.WalkKit
import Derived.ProofKit
import Derived.OpenShut
import Derived.ShutString
import Derived.ChangeOld
import Derived.Below
set_option autoImplicit false
set_option linter.unusedVariables false
set_option linter.unusedSimpArgs false
namespace Go.Proofs.Ytbfleiickdobnaa
open Go.XL



set_option maxRecDepth 100000 in
set_option maxHeartbeats 1600000 in
theorem graphTree_fn (a : Option Addr) (c : Nat) (m : Tb) (H : Hp) (hs : SlR tbR H a c m) (hl : m.length < 9223372036854775808) (at_ : Int) (hat : 0 ≤ at_ ∧ at_ ≤ 255) : FnC Try.prog 6 #[.slice a m.length c, .int .u8 at_] H [] (RetR (fun v _ _ => v = .bool true)) := by
  refine FnC.intro (args := [.slice a m.length c, .int .u8 at_]) Try.func6 rfl rfl Try.ntmps6 rfl rfl rfl fun G rest => ?_
  refine XC.seq ?_
  refine XC.region ?_
  refine XO.assign rfl rfl ?_
  refine XO.nil ?_
  refine XC.seq2 ?_
  refine XC.seq ?_
  refine XC.seq ?_
  refine XC.region ?_
  refine XO.callV rfl (sane37 _) rfl ?_
  refine XO.notB rfl rfl ?_
  refine XO.nil ?_
  refine XC.seq2 ?_
  refine XC.condF rfl (rfl) ?_
  refine XC.skip ?_
  refine XC.seq2 ?_
  refine XC.seq ?_
  refine XC.seq ?_
  refine XC.region ?_
  refine XO.move rfl rfl ?_
  refine XO.callV rfl (small_fn _ _ m _ hs hl) rfl ?_
  refine XO.not rfl rfl ?_
  refine XO.nil ?_
  refine XC.seq2 ?_
  refine XC.cond rfl (fun c1_3 => ?_) (fun c1_3 => ?_)
  · refine XC.seq ?_
    refine XC.region ?_
    refine XO.assign rfl rfl ?_
    refine XO.nil ?_
    refine XC.seq2 ?_
    refine XC.ret ?_
    refine seqX_ret ?_
    refine ⟨rfl, _, [], rfl, (by repeat (first | exact List.Sublist.refl _ | apply List.Sublist.cons)), RetR.mk ?_⟩
    first | rfl | exact congrArg Value.bool (decide_eq_true (alone_less hok (by omega)))
  · have hsm : smallG m := Decidable.not_not.1 (by assumption)
    have hck := hsm.2.2.1
    have hok := chk_eq0.1 hck
    have hlm := hsm.1
    have hwm := hsm.2.2.2
    have hwm16 := okG_wide hok
    have hll := trL_len (m := m)
    have hte := trL_tree hok
    have htl : (treeE m).length = (trL m).length := by rw [hte, List.length_map]
    refine XC.skip ?_
    refine XC.seq2 ?_
    refine XC.seq ?_
    refine XC.region ?_
    refine XO.move rfl rfl ?_
    have hcall25 := tree_u _ _ m _ hs (by omega)
    refine XO.callH rfl hcall25 rfl ?_
    rintro _ HT25 hleT25 ⟨a25, c25, h25, rfl⟩
    replace hs := hs.mono hleT25
    refine XO.move rfl rfl ?_
    refine XO.extract rfl rfl rfl ?_
    refine XO.extract rfl rfl rfl ?_
    refine XO.extract rfl rfl rfl ?_
    refine XO.assign rfl rfl ?_
    refine XO.assign rfl rfl ?_
    refine XO.assign rfl rfl ?_
    refine XO.nil ?_
    refine XC.seq2 ?_
    refine XC.seq ?_
    refine XC.seq ?_
    refine XC.region ?_
    refine XO.move rfl rfl ?_
    refine XO.neq rfl rfl rfl ?_
    refine XO.nil ?_
    refine XC.seq2 ?_
    refine XC.condF rfl (decide_eq_false (by omega)) ?_
    refine XC.skip ?_
    refine XC.seq2 ?_
    refine XC.seq ?_
    refine XC.seq ?_
    refine XC.region ?_
    refine XO.move rfl rfl ?_
    refine XO.lenS (ts := #[]) rfl Try.underlying25 rfl ?_
    refine XO.move rfl rfl ?_
    refine XO.nil ?_
    refine XC.seq2 ?_
    refine XC.block ?_
    refine XC.keep [33, 0, 1, 5, 6, 31, 32] rfl ?_
    refine XC.loop (base := [(0, _), (1, _), (5, _), (6, _), (31, _), (32, _)]) (fun ζ : Nat => [(33, .int .i64 (ζ : Nat))]) (fun ζ Hl own => ζ ≤ (trL m).length ∧ rest = own) (fun ζ => (trL m).length - ζ) 0 (prov_cons (rfl) (prov_cons (rfl) (prov_cons (rfl) (prov_cons (rfl) (prov_cons (rfl) (prov_cons (rfl) (prov_cons (rfl) prov_nil))))))) (by repeat (first | exact List.Sublist.refl _ | apply List.Sublist.cons_cons | apply List.Sublist.cons)) ⟨Nat.zero_le _, rfl⟩ ?_
    rintro k Hl0 _ hle0 ⟨hkk, rfl⟩
    replace hs := hs.mono hle0
    replace h25 := h25.mono hle0
    try dsimp only at ⊢
    refine XC.seq ?_
    refine XC.region ?_
    refine XO.lss rfl rfl rfl ?_
    refine XO.nil ?_
    refine XC.seq2 ?_
    refine XC.seq ?_
    refine XC.cond rfl (fun c3_5 => ?_) (fun c3_5 => ?_)
    · refine XC.skip ?_
      refine XC.seq2 ?_
      refine XC.seq ?_
      refine XC.block ?_
      refine XC.seq ?_
      refine XC.region ?_
      refine XO.move rfl rfl ?_
      refine XO.indexN rfl h25 rfl Try.underlying25 ty_41 (by omega) rfl ?_
      rintro eb36 eo36 _ x36 hx36 rfl hp36
      obtain ⟨i, j, rfl, hte2, hi1, row, hrow, hmk, hjr⟩ := tree_marks2 hok hx36
      refine XO.loadH rfl (by assumption) ty_41 rfl rfl rfl ?_
      refine XO.alloc ze_41 rfl (fun b9 => ?_)
      refine XO.assign rfl rfl ?_
      refine XO.storeO 0 rfl rfl rfl rfl ty_41 rfl rfl rfl rfl rfl ?_
      refine XO.nil ?_
      refine XC.seq2 ?_
      refine XC.seq ?_
      refine XC.seq ?_
      refine XC.keep [0, 1, 5, 6, 8, 9, 31, 32, 33] rfl ?_
      obtain ⟨bER, oER, rfl⟩ := hs.addr (by omega)
      obtain ⟨_, xR, hxR, ⟨axR, cxR, rfl, hdR⟩, hpR⟩ := hs.elem (i) (by omega)
      obtain rfl := Option.some.inj (hrow.symm.trans hxR)
      obtain ⟨bEB, oEB, rfl⟩ := hdR.addr (by omega)
      obtain ⟨_, xB, hxB, rfl, hpB⟩ := hdR.elem j (by omega)
      obtain rfl := Option.some.inj (hmk.symm.trans hxB)
      apply XC.drawH (fun _ => True) trivial [] (by decide) (fun _ _ _ _ => True) (fun _ _ _ _ _ _ h => h) 34 [eqF _, eqF _, eqF _, eqF _, eqF _, eqF _, eqF _, eqF _, eqF _, eqF _, eqF _, eqF _, eqF _, eqF _, eqF _, eqF _, eqF _, eqF _, eqF _, eqF _, eqF _, eqF _, eqF _, eqF _, eqF _, eqF _, eqF _, eqF _, eqF _, eqF _, eqF _, eqF _, eqF _, eqF _] follows (by kernel_rfl) ⟨eqF_mono _, eqF_mono _, eqF_mono _, eqF_mono _, eqF_mono _, eqF_mono _, eqF_mono _, eqF_mono _, eqF_mono _, eqF_mono _, eqF_mono _, eqF_mono _, eqF_mono _, eqF_mono _, eqF_mono _, eqF_mono _, eqF_mono _, eqF_mono _, eqF_mono _, eqF_mono _, eqF_mono _, eqF_mono _, eqF_mono _, eqF_mono _, eqF_mono _, eqF_mono _, eqF_mono _, eqF_mono _, eqF_mono _, eqF_mono _, eqF_mono _, eqF_mono _, eqF_mono _, eqF_mono _, trivial⟩ (by decide) ?steps7 ?tail7
      case steps7 =>
        refine stepsH_cons rfl ?_ ?_
        · intro X ext HD hleD _
          replace hs := hs.mono hleD
          replace h25 := h25.mono hleD
          replace hp36 := hp36.mono hleD
          replace hpR := hpR.mono hleD
          replace hdR := hdR.mono hleD
          replace hpB := hpB.mono hleD
          replace hle0 := hle0.trans hleD
          refine withP_nil rfl ?_
          refine XO.indexArr rfl rfl Try.underlying41 ty_3 (by first | decide | omega) (by first | decide | omega) rfl ?_
          refine XO.nil ?_
          exact stepQN_ok rfl trivial (rfl)
        refine stepsH_cons rfl ?_ ?_
        · intro X ext HD hleD _
          replace hs := hs.mono hleD
          replace h25 := h25.mono hleD
          replace hp36 := hp36.mono hleD
          replace hpR := hpR.mono hleD
          replace hdR := hdR.mono hleD
          replace hpB := hpB.mono hleD
          replace hle0 := hle0.trans hleD
          refine withP_cons rfl rfl ?_
          rintro _ rfl
          refine withP_nil rfl ?_
          refine XO.loadO 0 rfl rfl ty_3 rfl rfl rfl ?_
          refine XO.nil ?_
          exact stepQN_ok rfl trivial (rfl)
        refine stepsH_cons rfl ?_ ?_
        · intro X ext HD hleD _
          replace hs := hs.mono hleD
          replace h25 := h25.mono hleD
          replace hp36 := hp36.mono hleD
          replace hpR := hpR.mono hleD
          replace hdR := hdR.mono hleD
          replace hpB := hpB.mono hleD
          replace hle0 := hle0.trans hleD
          refine withP_cons rfl rfl ?_
          rintro _ rfl
          refine withP_nil rfl ?_
          refine XO.lss rfl rfl rfl ?_
          refine XO.nil ?_
          exact stepQN_ok rfl trivial (rfl)
        refine stepsH_cons rfl ?_ ?_
        · intro X ext HD hleD _
          replace hs := hs.mono hleD
          replace h25 := h25.mono hleD
          replace hp36 := hp36.mono hleD
          replace hpR := hpR.mono hleD
          replace hdR := hdR.mono hleD
          replace hpB := hpB.mono hleD
          replace hle0 := hle0.trans hleD
          refine withP_cons rfl rfl ?_
          rintro _ rfl
          refine withP_nil rfl ?_
          refine XO.move rfl rfl ?_
          refine XO.nil ?_
          exact stepQN_ok rfl trivial (rfl)
        refine stepsH_cons rfl ?_ ?_
        · intro X ext HD hleD _
          replace hs := hs.mono hleD
          replace h25 := h25.mono hleD
          replace hp36 := hp36.mono hleD
          replace hpR := hpR.mono hleD
          replace hdR := hdR.mono hleD
          replace hpB := hpB.mono hleD
          replace hle0 := hle0.trans hleD
          refine withP_cons rfl rfl ?_
          rintro _ rfl
          refine withP_nil rfl ?_
          refine XO.guardT rfl rfl (decide_eq_false (by dsimp only; omega)) rfl ?_
          refine XO.indexArr rfl rfl Try.underlying41 ty_3 (by first | decide | omega) (by first | decide | omega) rfl ?_
          refine XO.nil ?_
          exact stepQN_ok rfl trivial (rfl)
        refine stepsH_cons rfl ?_ ?_
        · intro X ext HD hleD _
          replace hs := hs.mono hleD
          replace h25 := h25.mono hleD
          replace hp36 := hp36.mono hleD
          replace hpR := hpR.mono hleD
          replace hdR := hdR.mono hleD
          replace hpB := hpB.mono hleD
          replace hle0 := hle0.trans hleD
          refine withP_cons rfl rfl ?_
          rintro _ rfl
          refine withP_cons rfl rfl ?_
          rintro _ rfl
          refine withP_nil rfl ?_
          refine XO.guardT rfl rfl (decide_eq_false (by dsimp only; omega)) rfl ?_
          refine XO.loadO 0 rfl rfl ty_3 rfl rfl rfl ?_
          refine XO.nil ?_
          exact stepQN_ok rfl trivial (rfl)
        refine stepsH_cons rfl ?_ ?_
        · intro X ext HD hleD _
          replace hs := hs.mono hleD
          replace h25 := h25.mono hleD
          replace hp36 := hp36.mono hleD
          replace hpR := hpR.mono hleD
          replace hdR := hdR.mono hleD
          replace hpB := hpB.mono hleD
          replace hle0 := hle0.trans hleD
          refine withP_cons rfl rfl ?_
          rintro _ rfl
          refine withP_nil rfl ?_
          refine XO.guardT rfl rfl (decide_eq_false (by dsimp only; omega)) rfl ?_
          refine XO.move rfl rfl ?_
          refine XO.nil ?_
          exact stepQN_ok rfl trivial (rfl)
        refine stepsH_cons rfl ?_ ?_
        · intro X ext HD hleD _
          replace hs := hs.mono hleD
          replace h25 := h25.mono hleD
          replace hp36 := hp36.mono hleD
          replace hpR := hpR.mono hleD
          replace hdR := hdR.mono hleD
          replace hpB := hpB.mono hleD
          replace hle0 := hle0.trans hleD
          refine withP_cons rfl rfl ?_
          rintro _ rfl
          refine withP_cons rfl rfl ?_
          rintro _ rfl
          refine withP_nil rfl ?_
          refine XO.guardT rfl rfl (decide_eq_false (by dsimp only; omega)) rfl ?_
          refine XO.lenS (ts := #[]) rfl Try.underlying22 rfl ?_
          refine XO.nil ?_
          exact stepQN_ok rfl trivial (rfl)
        refine stepsH_cons rfl ?_ ?_
        · intro X ext HD hleD _
          replace hs := hs.mono hleD
          replace h25 := h25.mono hleD
          replace hp36 := hp36.mono hleD
          replace hpR := hpR.mono hleD
          replace hdR := hdR.mono hleD
          replace hpB := hpB.mono hleD
          replace hle0 := hle0.trans hleD
          refine withP_cons rfl rfl ?_
          rintro _ rfl
          refine withP_cons rfl rfl ?_
          rintro _ rfl
          refine withP_cons rfl rfl ?_
          rintro _ rfl
          refine withP_nil rfl ?_
          refine XO.guardT rfl rfl (decide_eq_false (by dsimp only; omega)) rfl ?_
          refine XO.geq rfl rfl rfl ?_
          refine XO.nil ?_
          exact stepQN_ok rfl trivial (rfl)
        refine stepsH_cons rfl ?_ ?_
        · intro X ext HD hleD _
          replace hs := hs.mono hleD
          replace h25 := h25.mono hleD
          replace hp36 := hp36.mono hleD
          replace hpR := hpR.mono hleD
          replace hdR := hdR.mono hleD
          replace hpB := hpB.mono hleD
          replace hle0 := hle0.trans hleD
          refine withP_cons rfl rfl ?_
          rintro _ rfl
          refine withP_cons rfl rfl ?_
          rintro _ rfl
          refine withP_nil rfl ?_
          refine XO.pickF rfl (decide_eq_false (by dsimp only; omega)) rfl rfl ?_
          refine XO.nil ?_
          exact stepQN_ok rfl trivial (rfl)
        refine stepsH_cons rfl ?_ ?_
        · intro X ext HD hleD _
          replace hs := hs.mono hleD
          replace h25 := h25.mono hleD
          replace hp36 := hp36.mono hleD
          replace hpR := hpR.mono hleD
          replace hdR := hdR.mono hleD
          replace hpB := hpB.mono hleD
          replace hle0 := hle0.trans hleD
          refine withP_cons rfl rfl ?_
          rintro _ rfl
          refine withP_nil rfl ?_
          refine XO.move rfl rfl ?_
          refine XO.nil ?_
          exact stepQN_ok rfl trivial (rfl)
        refine stepsH_cons rfl ?_ ?_
        · intro X ext HD hleD _
          replace hs := hs.mono hleD
          replace h25 := h25.mono hleD
          replace hp36 := hp36.mono hleD
          replace hpR := hpR.mono hleD
          replace hdR := hdR.mono hleD
          replace hpB := hpB.mono hleD
          replace hle0 := hle0.trans hleD
          refine withP_cons rfl rfl ?_
          rintro _ rfl
          refine withP_nil rfl ?_
          refine XO.guardT rfl rfl (decide_eq_false (by dsimp only; omega)) rfl ?_
          refine XO.indexArr rfl rfl Try.underlying41 ty_3 (by first | decide | omega) (by first | decide | omega) rfl ?_
          refine XO.nil ?_
          exact stepQN_ok rfl trivial (rfl)
        refine stepsH_cons rfl ?_ ?_
        · intro X ext HD hleD _
          replace hs := hs.mono hleD
          replace h25 := h25.mono hleD
          replace hp36 := hp36.mono hleD
          replace hpR := hpR.mono hleD
          replace hdR := hdR.mono hleD
          replace hpB := hpB.mono hleD
          replace hle0 := hle0.trans hleD
          refine withP_cons rfl rfl ?_
          rintro _ rfl
          refine withP_cons rfl rfl ?_
          rintro _ rfl
          refine withP_nil rfl ?_
          refine XO.guardT rfl rfl (decide_eq_false (by dsimp only; omega)) rfl ?_
          refine XO.loadO 0 rfl rfl ty_3 rfl rfl rfl ?_
          refine XO.nil ?_
          exact stepQN_ok rfl trivial (rfl)
        refine stepsH_cons rfl ?_ ?_
        · intro X ext HD hleD _
          replace hs := hs.mono hleD
          replace h25 := h25.mono hleD
          replace hp36 := hp36.mono hleD
          replace hpR := hpR.mono hleD
          replace hdR := hdR.mono hleD
          replace hpB := hpB.mono hleD
          replace hle0 := hle0.trans hleD
          refine withP_cons rfl rfl ?_
          rintro _ rfl
          refine withP_cons rfl rfl ?_
          rintro _ rfl
          refine withP_nil rfl ?_
          refine XO.guardT rfl rfl (decide_eq_false (by dsimp only; omega)) rfl ?_
          refine XO.lss rfl rfl rfl ?_
          refine XO.nil ?_
          exact stepQN_ok rfl trivial (rfl)
        refine stepsH_cons rfl ?_ ?_
        · intro X ext HD hleD _
          replace hs := hs.mono hleD
          replace h25 := h25.mono hleD
          replace hp36 := hp36.mono hleD
          replace hpR := hpR.mono hleD
          replace hdR := hdR.mono hleD
          replace hpB := hpB.mono hleD
          replace hle0 := hle0.trans hleD
          refine withP_cons rfl rfl ?_
          rintro _ rfl
          refine withP_cons rfl rfl ?_
          rintro _ rfl
          refine withP_nil rfl ?_
          refine XO.pickF rfl (decide_eq_false (by dsimp only; omega)) rfl rfl ?_
          refine XO.nil ?_
          exact stepQN_ok rfl trivial (rfl)
        refine stepsH_cons rfl ?_ ?_
        · intro X ext HD hleD _
          replace hs := hs.mono hleD
          replace h25 := h25.mono hleD
          replace hp36 := hp36.mono hleD
          replace hpR := hpR.mono hleD
          replace hdR := hdR.mono hleD
          replace hpB := hpB.mono hleD
          replace hle0 := hle0.trans hleD
          refine withP_cons rfl rfl ?_
          rintro _ rfl
          refine withP_nil rfl ?_
          refine XO.move rfl rfl ?_
          refine XO.nil ?_
          exact stepQN_ok rfl trivial (rfl)
        refine stepsH_cons rfl ?_ ?_
        · intro X ext HD hleD _
          replace hs := hs.mono hleD
          replace h25 := h25.mono hleD
          replace hp36 := hp36.mono hleD
          replace hpR := hpR.mono hleD
          replace hdR := hdR.mono hleD
          replace hpB := hpB.mono hleD
          replace hle0 := hle0.trans hleD
          refine withP_cons rfl rfl ?_
          rintro _ rfl
          refine withP_nil rfl ?_
          refine XO.guardT rfl rfl (decide_eq_false (by dsimp only; omega)) rfl ?_
          refine XO.indexArr rfl rfl Try.underlying41 ty_3 (by first | decide | omega) (by first | decide | omega) rfl ?_
          refine XO.nil ?_
          exact stepQN_ok rfl trivial (rfl)
        refine stepsH_cons rfl ?_ ?_
        · intro X ext HD hleD _
          replace hs := hs.mono hleD
          replace h25 := h25.mono hleD
          replace hp36 := hp36.mono hleD
          replace hpR := hpR.mono hleD
          replace hdR := hdR.mono hleD
          replace hpB := hpB.mono hleD
          replace hle0 := hle0.trans hleD
          refine withP_cons rfl rfl ?_
          rintro _ rfl
          refine withP_cons rfl rfl ?_
          rintro _ rfl
          refine withP_nil rfl ?_
          refine XO.guardT rfl rfl (decide_eq_false (by dsimp only; omega)) rfl ?_
          refine XO.loadO 0 rfl rfl ty_3 rfl rfl rfl ?_
          refine XO.nil ?_
          exact stepQN_ok rfl trivial (rfl)
        refine stepsH_cons rfl ?_ ?_
        · intro X ext HD hleD _
          replace hs := hs.mono hleD
          replace h25 := h25.mono hleD
          replace hp36 := hp36.mono hleD
          replace hpR := hpR.mono hleD
          replace hdR := hdR.mono hleD
          replace hpB := hpB.mono hleD
          replace hle0 := hle0.trans hleD
          refine withP_cons rfl rfl ?_
          rintro _ rfl
          refine withP_nil rfl ?_
          refine XO.guardT rfl rfl (decide_eq_false (by dsimp only; omega)) rfl ?_
          refine XO.move rfl rfl ?_
          refine XO.nil ?_
          exact stepQN_ok rfl trivial (rfl)
        refine stepsH_cons rfl ?_ ?_
        · intro X ext HD hleD _
          replace hs := hs.mono hleD
          replace h25 := h25.mono hleD
          replace hp36 := hp36.mono hleD
          replace hpR := hpR.mono hleD
          replace hdR := hdR.mono hleD
          replace hpB := hpB.mono hleD
          replace hle0 := hle0.trans hleD
          refine withP_cons rfl rfl ?_
          rintro _ rfl
          refine withP_nil rfl ?_
          refine XO.guardT rfl rfl (decide_eq_false (by dsimp only; omega)) rfl ?_
          refine XO.indexArr rfl rfl Try.underlying41 ty_3 (by first | decide | omega) (by first | decide | omega) rfl ?_
          refine XO.nil ?_
          exact stepQN_ok rfl trivial (rfl)
        refine stepsH_cons rfl ?_ ?_
        · intro X ext HD hleD _
          replace hs := hs.mono hleD
          replace h25 := h25.mono hleD
          replace hp36 := hp36.mono hleD
          replace hpR := hpR.mono hleD
          replace hdR := hdR.mono hleD
          replace hpB := hpB.mono hleD
          replace hle0 := hle0.trans hleD
          refine withP_cons rfl rfl ?_
          rintro _ rfl
          refine withP_cons rfl rfl ?_
          rintro _ rfl
          refine withP_nil rfl ?_
          refine XO.guardT rfl rfl (decide_eq_false (by dsimp only; omega)) rfl ?_
          refine XO.loadO 0 rfl rfl ty_3 rfl rfl rfl ?_
          refine XO.nil ?_
          exact stepQN_ok rfl trivial (rfl)
        refine stepsH_cons rfl ?_ ?_
        · intro X ext HD hleD _
          replace hs := hs.mono hleD
          replace h25 := h25.mono hleD
          replace hp36 := hp36.mono hleD
          replace hpR := hpR.mono hleD
          replace hdR := hdR.mono hleD
          replace hpB := hpB.mono hleD
          replace hle0 := hle0.trans hleD
          refine withP_cons rfl rfl ?_
          rintro _ rfl
          refine withP_cons rfl rfl ?_
          rintro _ rfl
          refine withP_cons rfl rfl ?_
          rintro _ rfl
          refine withP_nil rfl ?_
          refine XO.guardT rfl rfl (decide_eq_false (by dsimp only; omega)) rfl ?_
          refine XO.indexE rfl rfl Try.underlying22 ty_40 (by omega) (by omega) rfl ?_
          refine XO.nil ?_
          exact stepQN_ok rfl trivial (rfl)
        refine stepsH_cons rfl ?_ ?_
        · intro X ext HD hleD _
          replace hs := hs.mono hleD
          replace h25 := h25.mono hleD
          replace hp36 := hp36.mono hleD
          replace hpR := hpR.mono hleD
          replace hdR := hdR.mono hleD
          replace hpB := hpB.mono hleD
          replace hle0 := hle0.trans hleD
          refine withP_cons rfl rfl ?_
          rintro _ rfl
          refine withP_cons rfl rfl ?_
          rintro _ rfl
          refine withP_nil rfl ?_
          refine XO.guardT rfl rfl (decide_eq_false (by dsimp only; omega)) rfl ?_
          refine XO.loadH rfl (by assumption) ty_40 rfl rfl rfl ?_
          refine XO.nil ?_
          exact stepQN_ok rfl trivial (rfl)
        refine stepsH_cons rfl ?_ ?_
        · intro X ext HD hleD _
          replace hs := hs.mono hleD
          replace h25 := h25.mono hleD
          replace hp36 := hp36.mono hleD
          replace hpR := hpR.mono hleD
          replace hdR := hdR.mono hleD
          replace hpB := hpB.mono hleD
          replace hle0 := hle0.trans hleD
          refine withP_cons rfl rfl ?_
          rintro _ rfl
          refine withP_cons rfl rfl ?_
          rintro _ rfl
          refine withP_nil rfl ?_
          refine XO.guardT rfl rfl (decide_eq_false (by dsimp only; omega)) rfl ?_
          refine XO.lenS (ts := #[]) rfl Try.underlying40 rfl ?_
          refine XO.nil ?_
          exact stepQN_ok rfl trivial (rfl)
        refine stepsH_cons rfl ?_ ?_
        · intro X ext HD hleD _
          replace hs := hs.mono hleD
          replace h25 := h25.mono hleD
          replace hp36 := hp36.mono hleD
          replace hpR := hpR.mono hleD
          replace hdR := hdR.mono hleD
          replace hpB := hpB.mono hleD
          replace hle0 := hle0.trans hleD
          refine withP_cons rfl rfl ?_
          rintro _ rfl
          refine withP_cons rfl rfl ?_
          rintro _ rfl
          refine withP_cons rfl rfl ?_
          rintro _ rfl
          refine withP_nil rfl ?_
          refine XO.guardT rfl rfl (decide_eq_false (by dsimp only; omega)) rfl ?_
          refine XO.geq rfl rfl rfl ?_
          refine XO.nil ?_
          exact stepQN_ok rfl trivial (rfl)
        refine stepsH_cons rfl ?_ ?_
        · intro X ext HD hleD _
          replace hs := hs.mono hleD
          replace h25 := h25.mono hleD
          replace hp36 := hp36.mono hleD
          replace hpR := hpR.mono hleD
          replace hdR := hdR.mono hleD
          replace hpB := hpB.mono hleD
          replace hle0 := hle0.trans hleD
          refine withP_cons rfl rfl ?_
          rintro _ rfl
          refine withP_cons rfl rfl ?_
          rintro _ rfl
          refine withP_nil rfl ?_
          refine XO.pickF rfl (decide_eq_false (by dsimp only; omega)) rfl rfl ?_
          refine XO.nil ?_
          exact stepQN_ok rfl trivial (rfl)
        refine stepsH_cons rfl ?_ ?_
        · intro X ext HD hleD _
          replace hs := hs.mono hleD
          replace h25 := h25.mono hleD
          replace hp36 := hp36.mono hleD
          replace hpR := hpR.mono hleD
          replace hdR := hdR.mono hleD
          replace hpB := hpB.mono hleD
          replace hle0 := hle0.trans hleD
          refine withP_cons rfl rfl ?_
          rintro _ rfl
          refine withP_nil rfl ?_
          refine XO.move rfl rfl ?_
          refine XO.nil ?_
          exact stepQN_ok rfl trivial (rfl)
        refine stepsH_cons rfl ?_ ?_
        · intro X ext HD hleD _
          replace hs := hs.mono hleD
          replace h25 := h25.mono hleD
          replace hp36 := hp36.mono hleD
          replace hpR := hpR.mono hleD
          replace hdR := hdR.mono hleD
          replace hpB := hpB.mono hleD
          replace hle0 := hle0.trans hleD
          refine withP_cons rfl rfl ?_
          rintro _ rfl
          refine withP_nil rfl ?_
          refine XO.guardT rfl rfl (decide_eq_false (by dsimp only; omega)) rfl ?_
          refine XO.move rfl rfl ?_
          refine XO.nil ?_
          exact stepQN_ok rfl trivial (rfl)
        refine stepsH_cons rfl ?_ ?_
        · intro X ext HD hleD _
          replace hs := hs.mono hleD
          replace h25 := h25.mono hleD
          replace hp36 := hp36.mono hleD
          replace hpR := hpR.mono hleD
          replace hdR := hdR.mono hleD
          replace hpB := hpB.mono hleD
          replace hle0 := hle0.trans hleD
          refine withP_cons rfl rfl ?_
          rintro _ rfl
          refine withP_nil rfl ?_
          refine XO.guardT rfl rfl (decide_eq_false (by dsimp only; omega)) rfl ?_
          refine XO.indexArr rfl rfl Try.underlying41 ty_3 (by first | decide | omega) (by first | decide | omega) rfl ?_
          refine XO.nil ?_
          exact stepQN_ok rfl trivial (rfl)
        refine stepsH_cons rfl ?_ ?_
        · intro X ext HD hleD _
          replace hs := hs.mono hleD
          replace h25 := h25.mono hleD
          replace hp36 := hp36.mono hleD
          replace hpR := hpR.mono hleD
          replace hdR := hdR.mono hleD
          replace hpB := hpB.mono hleD
          replace hle0 := hle0.trans hleD
          refine withP_cons rfl rfl ?_
          rintro _ rfl
          refine withP_cons rfl rfl ?_
          rintro _ rfl
          refine withP_nil rfl ?_
          refine XO.guardT rfl rfl (decide_eq_false (by dsimp only; omega)) rfl ?_
          refine XO.loadO 0 rfl rfl ty_3 rfl rfl rfl ?_
          refine XO.nil ?_
          exact stepQN_ok rfl trivial (rfl)
        refine stepsH_cons rfl ?_ ?_
        · intro X ext HD hleD _
          replace hs := hs.mono hleD
          replace h25 := h25.mono hleD
          replace hp36 := hp36.mono hleD
          replace hpR := hpR.mono hleD
          replace hdR := hdR.mono hleD
          replace hpB := hpB.mono hleD
          replace hle0 := hle0.trans hleD
          refine withP_cons rfl rfl ?_
          rintro _ rfl
          refine withP_cons rfl rfl ?_
          rintro _ rfl
          refine withP_cons rfl rfl ?_
          rintro _ rfl
          refine withP_nil rfl ?_
          refine XO.guardT rfl rfl (decide_eq_false (by dsimp only; omega)) rfl ?_
          refine XO.indexE rfl rfl Try.underlying22 ty_40 (by omega) (by omega) rfl ?_
          refine XO.nil ?_
          exact stepQN_ok rfl trivial (rfl)
        refine stepsH_cons rfl ?_ ?_
        · intro X ext HD hleD _
          replace hs := hs.mono hleD
          replace h25 := h25.mono hleD
          replace hp36 := hp36.mono hleD
          replace hpR := hpR.mono hleD
          replace hdR := hdR.mono hleD
          replace hpB := hpB.mono hleD
          replace hle0 := hle0.trans hleD
          refine withP_cons rfl rfl ?_
          rintro _ rfl
          refine withP_cons rfl rfl ?_
          rintro _ rfl
          refine withP_nil rfl ?_
          refine XO.guardT rfl rfl (decide_eq_false (by dsimp only; omega)) rfl ?_
          refine XO.loadH rfl (by assumption) ty_40 rfl rfl rfl ?_
          refine XO.nil ?_
          exact stepQN_ok rfl trivial (rfl)
        refine stepsH_cons rfl ?_ ?_
        · intro X ext HD hleD _
          replace hs := hs.mono hleD
          replace h25 := h25.mono hleD
          replace hp36 := hp36.mono hleD
          replace hpR := hpR.mono hleD
          replace hdR := hdR.mono hleD
          replace hpB := hpB.mono hleD
          replace hle0 := hle0.trans hleD
          refine withP_cons rfl rfl ?_
          rintro _ rfl
          refine withP_nil rfl ?_
          refine XO.guardT rfl rfl (decide_eq_false (by dsimp only; omega)) rfl ?_
          refine XO.indexArr rfl rfl Try.underlying41 ty_3 (by first | decide | omega) (by first | decide | omega) rfl ?_
          refine XO.nil ?_
          exact stepQN_ok rfl trivial (rfl)
        refine stepsH_cons rfl ?_ ?_
        · intro X ext HD hleD _
          replace hs := hs.mono hleD
          replace h25 := h25.mono hleD
          replace hp36 := hp36.mono hleD
          replace hpR := hpR.mono hleD
          replace hdR := hdR.mono hleD
          replace hpB := hpB.mono hleD
          replace hle0 := hle0.trans hleD
          refine withP_cons rfl rfl ?_
          rintro _ rfl
          refine withP_cons rfl rfl ?_
          rintro _ rfl
          refine withP_nil rfl ?_
          refine XO.guardT rfl rfl (decide_eq_false (by dsimp only; omega)) rfl ?_
          refine XO.loadO 0 rfl rfl ty_3 rfl rfl rfl ?_
          refine XO.nil ?_
          exact stepQN_ok rfl trivial (rfl)
        exact stepsH_end rfl
      case tail7 =>
        intro HD hleD _
        replace hs := hs.mono hleD
        replace h25 := h25.mono hleD
        replace hp36 := hp36.mono hleD
        replace hpR := hpR.mono hleD
        replace hdR := hdR.mono hleD
        replace hpB := hpB.mono hleD
        replace hle0 := hle0.trans hleD
        refine withP_cons rfl rfl ?_
        rintro _ rfl
        refine withP_cons rfl rfl ?_
        rintro _ rfl
        refine withP_cons rfl rfl ?_
        rintro _ rfl
        refine withP_cons rfl rfl ?_
        rintro _ rfl
        refine withP_cons rfl rfl ?_
        rintro _ rfl
        refine withP_cons rfl rfl ?_
        rintro _ rfl
        refine withP_cons rfl rfl ?_
        rintro _ rfl
        refine withP_cons rfl rfl ?_
        rintro _ rfl
        refine withP_cons rfl rfl ?_
        rintro _ rfl
        refine withP_cons rfl rfl ?_
        rintro _ rfl
        refine withP_cons rfl rfl ?_
        rintro _ rfl
        refine withP_cons rfl rfl ?_
        rintro _ rfl
        refine withP_cons rfl rfl ?_
        rintro _ rfl
        refine withP_cons rfl rfl ?_
        rintro _ rfl
        refine withP_cons rfl rfl ?_
        rintro _ rfl
        refine withP_cons rfl rfl ?_
        rintro _ rfl
        refine withP_cons rfl rfl ?_
        rintro _ rfl
        refine withP_cons rfl rfl ?_
        rintro _ rfl
        refine withP_cons rfl rfl ?_
        rintro _ rfl
        refine withP_cons rfl rfl ?_
        rintro _ rfl
        refine withP_cons rfl rfl ?_
        rintro _ rfl
        refine withP_cons rfl rfl ?_
        rintro _ rfl
        refine withP_cons rfl rfl ?_
        rintro _ rfl
        refine withP_cons rfl rfl ?_
        rintro _ rfl
        refine withP_cons rfl rfl ?_
        rintro _ rfl
        refine withP_cons rfl rfl ?_
        rintro _ rfl
        refine withP_cons rfl rfl ?_
        rintro _ rfl
        refine withP_cons rfl rfl ?_
        rintro _ rfl
        refine withP_cons rfl rfl ?_
        rintro _ rfl
        refine withP_cons rfl rfl ?_
        rintro _ rfl
        refine withP_cons rfl rfl ?_
        rintro _ rfl
        refine withP_cons rfl rfl ?_
        rintro _ rfl
        refine withP_cons rfl rfl ?_
        rintro _ rfl
        refine withP_cons rfl rfl ?_
        rintro _ rfl
        refine withP_nil rfl ?_
        refine withEnts_nil ?_
        refine XO.guardT rfl rfl (decide_eq_false (by dsimp only; omega)) rfl ?_
        refine XO.indexN rfl (by assumption) rfl Try.underlying40 ty_4 (by omega) rfl ?_
        rintro eb72 eo72 _ x72 hx72 rfl hp72
        obtain rfl := Option.some.inj (hmk.symm.trans hx72)
        refine XO.guardT rfl rfl (decide_eq_false (by dsimp only; omega)) rfl ?_
        refine XO.loadH rfl (by assumption) ty_4 rfl rfl rfl ?_
        refine XO.guardT rfl rfl (decide_eq_false (by dsimp only; omega)) rfl ?_
        refine XO.notB rfl rfl ?_
        refine XO.pickF rfl (decide_eq_false (by dsimp only; omega)) rfl rfl ?_
        refine XO.nil ?_
        refine XC.seq2 ?_
        refine XC.condF rfl (rfl) ?_
        refine XC.skip ?_
        refine XC.seq2 ?_
        refine XC.seq ?_
        obtain ⟨bEP, oEP, rfl⟩ := h25.addr (by omega)
        obtain ⟨_, xP, hxP, rfl, hpP⟩ := h25.elem (k - 1) (by omega)
        by_cases hk0 : (0 : Int) < ((k : Nat) : Int)
        · skip
          by_cases hq : xP.1 = ((i : Nat) : Int)
          · skip
            refine XC.keep [0, 1, 5, 6, 8, 9, 31, 32, 33] rfl ?_
            apply XC.drawH (fun _ => True) trivial [] (by decide) (fun _ _ _ _ => True) (fun _ _ _ _ _ _ h => h) 31 [eqF _, eqF _, eqF _, eqF _, eqF _, eqF _, eqF _, eqF _, eqF _, eqF _, eqF _, eqF _, eqF _, eqF _, eqF _, eqF _, eqF _, eqF _, eqF _, eqF _, eqF _, eqF _, eqF _, eqF _, eqF _, eqF _, eqF _, eqF _, eqF _, eqF _, eqF _] follows (by kernel_rfl) ⟨eqF_mono _, eqF_mono _, eqF_mono _, eqF_mono _, eqF_mono _, eqF_mono _, eqF_mono _, eqF_mono _, eqF_mono _, eqF_mono _, eqF_mono _, eqF_mono _, eqF_mono _, eqF_mono _, eqF_mono _, eqF_mono _, eqF_mono _, eqF_mono _, eqF_mono _, eqF_mono _, eqF_mono _, eqF_mono _, eqF_mono _, eqF_mono _, eqF_mono _, eqF_mono _, eqF_mono _, eqF_mono _, eqF_mono _, eqF_mono _, eqF_mono _, trivial⟩ (by decide) ?steps11 ?tail11
            case steps11 =>
              refine stepsH_cons rfl ?_ ?_
              · intro X ext HD hleD _
                replace hs := hs.mono hleD
                replace h25 := h25.mono hleD
                replace hp36 := hp36.mono hleD
                replace hpR := hpR.mono hleD
                replace hdR := hdR.mono hleD
                replace hpB := hpB.mono hleD
                replace hp72 := hp72.mono hleD
                replace hpP := hpP.mono hleD
                replace hle0 := hle0.trans hleD
                refine withP_nil rfl ?_
                refine XO.move rfl rfl ?_
                refine XO.nil ?_
                exact stepQN_ok rfl trivial (rfl)
              refine stepsH_cons rfl ?_ ?_
              · intro X ext HD hleD _
                replace hs := hs.mono hleD
                replace h25 := h25.mono hleD
                replace hp36 := hp36.mono hleD
                replace hpR := hpR.mono hleD
                replace hdR := hdR.mono hleD
                replace hpB := hpB.mono hleD
                replace hp72 := hp72.mono hleD
                replace hpP := hpP.mono hleD
                replace hle0 := hle0.trans hleD
                refine withP_cons rfl rfl ?_
                rintro _ rfl
                refine withP_nil rfl ?_
                refine XO.gtr rfl rfl rfl ?_
                refine XO.nil ?_
                exact stepQN_ok rfl trivial (rfl)
              refine stepsH_cons rfl ?_ ?_
              · intro X ext HD hleD _
                replace hs := hs.mono hleD
                replace h25 := h25.mono hleD
                replace hp36 := hp36.mono hleD
                replace hpR := hpR.mono hleD
                replace hdR := hdR.mono hleD
                replace hpB := hpB.mono hleD
                replace hp72 := hp72.mono hleD
                replace hpP := hpP.mono hleD
                replace hle0 := hle0.trans hleD
                refine withP_cons rfl rfl ?_
                rintro _ rfl
                refine withP_nil rfl ?_
                refine XO.move rfl rfl ?_
                refine XO.nil ?_
                exact stepQN_ok rfl trivial (rfl)
              refine stepsH_cons rfl ?_ ?_
              · intro X ext HD hleD _
                replace hs := hs.mono hleD
                replace h25 := h25.mono hleD
                replace hp36 := hp36.mono hleD
                replace hpR := hpR.mono hleD
                replace hdR := hdR.mono hleD
                replace hpB := hpB.mono hleD
                replace hp72 := hp72.mono hleD
                replace hpP := hpP.mono hleD
                replace hle0 := hle0.trans hleD
                refine withP_cons rfl rfl ?_
                rintro _ rfl
                refine withP_nil rfl ?_
                refine XO.guardT rfl rfl (decide_eq_true hk0) rfl ?_
                refine XO.move rfl rfl ?_
                refine XO.nil ?_
                exact stepQN_ok rfl trivial (rfl)
              refine stepsH_cons rfl ?_ ?_
              · intro X ext HD hleD _
                replace hs := hs.mono hleD
                replace h25 := h25.mono hleD
                replace hp36 := hp36.mono hleD
                replace hpR := hpR.mono hleD
                replace hdR := hdR.mono hleD
                replace hpB := hpB.mono hleD
                replace hp72 := hp72.mono hleD
                replace hpP := hpP.mono hleD
                replace hle0 := hle0.trans hleD
                refine withP_cons rfl rfl ?_
                rintro _ rfl
                refine withP_nil rfl ?_
                refine XO.guardT rfl rfl (decide_eq_true hk0) rfl ?_
                refine XO.move rfl rfl ?_
                refine XO.nil ?_
                exact stepQN_ok rfl trivial (rfl)
              refine stepsH_cons rfl ?_ ?_
              · intro X ext HD hleD _
                replace hs := hs.mono hleD
                replace h25 := h25.mono hleD
                replace hp36 := hp36.mono hleD
                replace hpR := hpR.mono hleD
                replace hdR := hdR.mono hleD
                replace hpB := hpB.mono hleD
                replace hp72 := hp72.mono hleD
                replace hpP := hpP.mono hleD
                replace hle0 := hle0.trans hleD
                refine withP_cons rfl rfl ?_
                rintro _ rfl
                refine withP_cons rfl rfl ?_
                rintro _ rfl
                refine withP_nil rfl ?_
                refine XO.guardT rfl rfl (decide_eq_true hk0) rfl ?_
                refine XO.sub (c := ((k - 1 : Nat) : Int)) rfl rfl ((wrap_i64 (by omega) (by omega)).trans (by omega)) rfl ?_
                refine XO.nil ?_
                exact stepQN_ok rfl trivial (rfl)
              refine stepsH_cons rfl ?_ ?_
              · intro X ext HD hleD _
                replace hs := hs.mono hleD
                replace h25 := h25.mono hleD
                replace hp36 := hp36.mono hleD
                replace hpR := hpR.mono hleD
                replace hdR := hdR.mono hleD
                replace hpB := hpB.mono hleD
                replace hp72 := hp72.mono hleD
                replace hpP := hpP.mono hleD
                replace hle0 := hle0.trans hleD
                refine withP_cons rfl rfl ?_
                rintro _ rfl
                refine withP_cons rfl rfl ?_
                rintro _ rfl
                refine withP_cons rfl rfl ?_
                rintro _ rfl
                refine withP_nil rfl ?_
                refine XO.guardT rfl rfl (decide_eq_true hk0) rfl ?_
                refine XO.indexE rfl rfl Try.underlying25 ty_41 (by omega) (by omega) rfl ?_
                refine XO.nil ?_
                exact stepQN_ok rfl trivial (rfl)
              refine stepsH_cons rfl ?_ ?_
              · intro X ext HD hleD _
                replace hs := hs.mono hleD
                replace h25 := h25.mono hleD
                replace hp36 := hp36.mono hleD
                replace hpR := hpR.mono hleD
                replace hdR := hdR.mono hleD
                replace hpB := hpB.mono hleD
                replace hp72 := hp72.mono hleD
                replace hpP := hpP.mono hleD
                replace hle0 := hle0.trans hleD
                refine withP_cons rfl rfl ?_
                rintro _ rfl
                refine withP_cons rfl rfl ?_
                rintro _ rfl
                refine withP_nil rfl ?_
                refine XO.guardT rfl rfl (decide_eq_true hk0) rfl ?_
                refine XO.indexArr rfl rfl Try.underlying41 ty_3 (by first | decide | omega) (by first | decide | omega) rfl ?_
                refine XO.nil ?_
                exact stepQN_ok rfl trivial (rfl)
              refine stepsH_cons rfl ?_ ?_
              · intro X ext HD hleD _
                replace hs := hs.mono hleD
                replace h25 := h25.mono hleD
                replace hp36 := hp36.mono hleD
                replace hpR := hpR.mono hleD
                replace hdR := hdR.mono hleD
                replace hpB := hpB.mono hleD
                replace hp72 := hp72.mono hleD
                replace hpP := hpP.mono hleD
                replace hle0 := hle0.trans hleD
                refine withP_cons rfl rfl ?_
                rintro _ rfl
                refine withP_cons rfl rfl ?_
                rintro _ rfl
                refine withP_nil rfl ?_
                refine XO.guardT rfl rfl (decide_eq_true hk0) rfl ?_
                refine XO.loadHF rfl (by assumption) ty_3 rfl rfl rfl ?_
                refine XO.nil ?_
                exact stepQN_ok rfl trivial (rfl)
              refine stepsH_cons rfl ?_ ?_
              · intro X ext HD hleD _
                replace hs := hs.mono hleD
                replace h25 := h25.mono hleD
                replace hp36 := hp36.mono hleD
                replace hpR := hpR.mono hleD
                replace hdR := hdR.mono hleD
                replace hpB := hpB.mono hleD
                replace hp72 := hp72.mono hleD
                replace hpP := hpP.mono hleD
                replace hle0 := hle0.trans hleD
                refine withP_cons rfl rfl ?_
                rintro _ rfl
                refine withP_nil rfl ?_
                refine XO.guardT rfl rfl (decide_eq_true hk0) rfl ?_
                refine XO.indexArr rfl rfl Try.underlying41 ty_3 (by first | decide | omega) (by first | decide | omega) rfl ?_
                refine XO.nil ?_
                exact stepQN_ok rfl trivial (rfl)
              refine stepsH_cons rfl ?_ ?_
              · intro X ext HD hleD _
                replace hs := hs.mono hleD
                replace h25 := h25.mono hleD
                replace hp36 := hp36.mono hleD
                replace hpR := hpR.mono hleD
                replace hdR := hdR.mono hleD
                replace hpB := hpB.mono hleD
                replace hp72 := hp72.mono hleD
                replace hpP := hpP.mono hleD
                replace hle0 := hle0.trans hleD
                refine withP_cons rfl rfl ?_
                rintro _ rfl
                refine withP_cons rfl rfl ?_
                rintro _ rfl
                refine withP_nil rfl ?_
                refine XO.guardT rfl rfl (decide_eq_true hk0) rfl ?_
                refine XO.loadO 0 rfl rfl ty_3 rfl rfl rfl ?_
                refine XO.nil ?_
                exact stepQN_ok rfl trivial (rfl)
              refine stepsH_cons rfl ?_ ?_
              · intro X ext HD hleD _
                replace hs := hs.mono hleD
                replace h25 := h25.mono hleD
                replace hp36 := hp36.mono hleD
                replace hpR := hpR.mono hleD
                replace hdR := hdR.mono hleD
                replace hpB := hpB.mono hleD
                replace hp72 := hp72.mono hleD
                replace hpP := hpP.mono hleD
                replace hle0 := hle0.trans hleD
                refine withP_cons rfl rfl ?_
                rintro _ rfl
                refine withP_cons rfl rfl ?_
                rintro _ rfl
                refine withP_cons rfl rfl ?_
                rintro _ rfl
                refine withP_nil rfl ?_
                refine XO.guardT rfl rfl (decide_eq_true hk0) rfl ?_
                refine XO.gtr rfl rfl rfl ?_
                refine XO.nil ?_
                exact stepQN_ok rfl trivial (rfl)
              refine stepsH_cons rfl ?_ ?_
              · intro X ext HD hleD _
                replace hs := hs.mono hleD
                replace h25 := h25.mono hleD
                replace hp36 := hp36.mono hleD
                replace hpR := hpR.mono hleD
                replace hdR := hdR.mono hleD
                replace hpB := hpB.mono hleD
                replace hp72 := hp72.mono hleD
                replace hpP := hpP.mono hleD
                replace hle0 := hle0.trans hleD
                refine withP_cons rfl rfl ?_
                rintro _ rfl
                refine withP_cons rfl rfl ?_
                rintro _ rfl
                refine withP_nil rfl ?_
                refine XO.guardT rfl rfl (decide_eq_true hk0) rfl ?_
                refine XO.move rfl rfl ?_
                refine XO.nil ?_
                exact stepQN_ok rfl trivial (rfl)
              refine stepsH_cons rfl ?_ ?_
              · intro X ext HD hleD _
                replace hs := hs.mono hleD
                replace h25 := h25.mono hleD
                replace hp36 := hp36.mono hleD
                replace hpR := hpR.mono hleD
                replace hdR := hdR.mono hleD
                replace hpB := hpB.mono hleD
                replace hp72 := hp72.mono hleD
                replace hpP := hpP.mono hleD
                replace hle0 := hle0.trans hleD
                refine withP_cons rfl rfl ?_
                rintro _ rfl
                refine withP_nil rfl ?_
                refine XO.guardT rfl rfl (decide_eq_false (by have := tree_prev hok (by omega) hte2 hxP; dsimp only; omega)) rfl ?_
                refine XO.move rfl rfl ?_
                refine XO.nil ?_
                exact stepQN_ok rfl trivial (rfl)
              refine stepsH_cons rfl ?_ ?_
              · intro X ext HD hleD _
                replace hs := hs.mono hleD
                replace h25 := h25.mono hleD
                replace hp36 := hp36.mono hleD
                replace hpR := hpR.mono hleD
                replace hdR := hdR.mono hleD
                replace hpB := hpB.mono hleD
                replace hp72 := hp72.mono hleD
                replace hpP := hpP.mono hleD
                replace hle0 := hle0.trans hleD
                refine withP_cons rfl rfl ?_
                rintro _ rfl
                refine withP_nil rfl ?_
                refine XO.guardT rfl rfl (decide_eq_false (by have := tree_prev hok (by omega) hte2 hxP; dsimp only; omega)) rfl ?_
                refine XO.move rfl rfl ?_
                refine XO.nil ?_
                exact stepQN_ok rfl trivial (rfl)
              refine stepsH_cons rfl ?_ ?_
              · intro X ext HD hleD _
                replace hs := hs.mono hleD
                replace h25 := h25.mono hleD
                replace hp36 := hp36.mono hleD
                replace hpR := hpR.mono hleD
                replace hdR := hdR.mono hleD
                replace hpB := hpB.mono hleD
                replace hp72 := hp72.mono hleD
                replace hpP := hpP.mono hleD
                replace hle0 := hle0.trans hleD
                refine withP_cons rfl rfl ?_
                rintro _ rfl
                refine withP_cons rfl rfl ?_
                rintro _ rfl
                refine withP_nil rfl ?_
                refine XO.guardT rfl rfl (decide_eq_false (by have := tree_prev hok (by omega) hte2 hxP; dsimp only; omega)) rfl ?_
                refine XO.sub (c := ((k - 1 : Nat) : Int)) rfl rfl ((wrap_i64 (by omega) (by omega)).trans (by omega)) rfl ?_
                refine XO.nil ?_
                exact stepQN_ok rfl trivial (rfl)
              refine stepsH_cons rfl ?_ ?_
              · intro X ext HD hleD _
                replace hs := hs.mono hleD
                replace h25 := h25.mono hleD
                replace hp36 := hp36.mono hleD
                replace hpR := hpR.mono hleD
                replace hdR := hdR.mono hleD
                replace hpB := hpB.mono hleD
                replace hp72 := hp72.mono hleD
                replace hpP := hpP.mono hleD
                replace hle0 := hle0.trans hleD
                refine withP_cons rfl rfl ?_
                rintro _ rfl
                refine withP_cons rfl rfl ?_
                rintro _ rfl
                refine withP_cons rfl rfl ?_
                rintro _ rfl
                refine withP_nil rfl ?_
                refine XO.guardT rfl rfl (decide_eq_false (by have := tree_prev hok (by omega) hte2 hxP; dsimp only; omega)) rfl ?_
                refine XO.indexE rfl rfl Try.underlying25 ty_41 (by omega) (by omega) rfl ?_
                refine XO.nil ?_
                exact stepQN_ok rfl trivial (rfl)
              refine stepsH_cons rfl ?_ ?_
              · intro X ext HD hleD _
                replace hs := hs.mono hleD
                replace h25 := h25.mono hleD
                replace hp36 := hp36.mono hleD
                replace hpR := hpR.mono hleD
                replace hdR := hdR.mono hleD
                replace hpB := hpB.mono hleD
                replace hp72 := hp72.mono hleD
                replace hpP := hpP.mono hleD
                replace hle0 := hle0.trans hleD
                refine withP_cons rfl rfl ?_
                rintro _ rfl
                refine withP_cons rfl rfl ?_
                rintro _ rfl
                refine withP_nil rfl ?_
                refine XO.guardT rfl rfl (decide_eq_false (by have := tree_prev hok (by omega) hte2 hxP; dsimp only; omega)) rfl ?_
                refine XO.indexArr rfl rfl Try.underlying41 ty_3 (by first | decide | omega) (by first | decide | omega) rfl ?_
                refine XO.nil ?_
                exact stepQN_ok rfl trivial (rfl)
              refine stepsH_cons rfl ?_ ?_
              · intro X ext HD hleD _
                replace hs := hs.mono hleD
                replace h25 := h25.mono hleD
                replace hp36 := hp36.mono hleD
                replace hpR := hpR.mono hleD
                replace hdR := hdR.mono hleD
                replace hpB := hpB.mono hleD
                replace hp72 := hp72.mono hleD
                replace hpP := hpP.mono hleD
                replace hle0 := hle0.trans hleD
                refine withP_cons rfl rfl ?_
                rintro _ rfl
                refine withP_cons rfl rfl ?_
                rintro _ rfl
                refine withP_nil rfl ?_
                refine XO.guardT rfl rfl (decide_eq_false (by have := tree_prev hok (by omega) hte2 hxP; dsimp only; omega)) rfl ?_
                refine XO.loadHF rfl (by assumption) ty_3 rfl rfl rfl ?_
                refine XO.nil ?_
                exact stepQN_ok rfl trivial (rfl)
              refine stepsH_cons rfl ?_ ?_
              · intro X ext HD hleD _
                replace hs := hs.mono hleD
                replace h25 := h25.mono hleD
                replace hp36 := hp36.mono hleD
                replace hpR := hpR.mono hleD
                replace hdR := hdR.mono hleD
                replace hpB := hpB.mono hleD
                replace hp72 := hp72.mono hleD
                replace hpP := hpP.mono hleD
                replace hle0 := hle0.trans hleD
                refine withP_cons rfl rfl ?_
                rintro _ rfl
                refine withP_nil rfl ?_
                refine XO.guardT rfl rfl (decide_eq_false (by have := tree_prev hok (by omega) hte2 hxP; dsimp only; omega)) rfl ?_
                refine XO.indexArr rfl rfl Try.underlying41 ty_3 (by first | decide | omega) (by first | decide | omega) rfl ?_
                refine XO.nil ?_
                exact stepQN_ok rfl trivial (rfl)
              refine stepsH_cons rfl ?_ ?_
              · intro X ext HD hleD _
                replace hs := hs.mono hleD
                replace h25 := h25.mono hleD
                replace hp36 := hp36.mono hleD
                replace hpR := hpR.mono hleD
                replace hdR := hdR.mono hleD
                replace hpB := hpB.mono hleD
                replace hp72 := hp72.mono hleD
                replace hpP := hpP.mono hleD
                replace hle0 := hle0.trans hleD
                refine withP_cons rfl rfl ?_
                rintro _ rfl
                refine withP_cons rfl rfl ?_
                rintro _ rfl
                refine withP_nil rfl ?_
                refine XO.guardT rfl rfl (decide_eq_false (by have := tree_prev hok (by omega) hte2 hxP; dsimp only; omega)) rfl ?_
                refine XO.loadO 0 rfl rfl ty_3 rfl rfl rfl ?_
                refine XO.nil ?_
                exact stepQN_ok rfl trivial (rfl)
              refine stepsH_cons rfl ?_ ?_
              · intro X ext HD hleD _
                replace hs := hs.mono hleD
                replace h25 := h25.mono hleD
                replace hp36 := hp36.mono hleD
                replace hpR := hpR.mono hleD
                replace hdR := hdR.mono hleD
                replace hpB := hpB.mono hleD
                replace hp72 := hp72.mono hleD
                replace hpP := hpP.mono hleD
                replace hle0 := hle0.trans hleD
                refine withP_cons rfl rfl ?_
                rintro _ rfl
                refine withP_cons rfl rfl ?_
                rintro _ rfl
                refine withP_cons rfl rfl ?_
                rintro _ rfl
                refine withP_nil rfl ?_
                refine XO.guardT rfl rfl (decide_eq_false (by have := tree_prev hok (by omega) hte2 hxP; dsimp only; omega)) rfl ?_
                refine XO.eql rfl rfl rfl ?_
                refine XO.nil ?_
                exact stepQN_ok rfl trivial (rfl)
              refine stepsH_cons rfl ?_ ?_
              · intro X ext HD hleD _
                replace hs := hs.mono hleD
                replace h25 := h25.mono hleD
                replace hp36 := hp36.mono hleD
                replace hpR := hpR.mono hleD
                replace hdR := hdR.mono hleD
                replace hpB := hpB.mono hleD
                replace hp72 := hp72.mono hleD
                replace hpP := hpP.mono hleD
                replace hle0 := hle0.trans hleD
                refine withP_cons rfl rfl ?_
                rintro _ rfl
                refine withP_cons rfl rfl ?_
                rintro _ rfl
                refine withP_nil rfl ?_
                refine XO.guardT rfl rfl (decide_eq_false (by have := tree_prev hok (by omega) hte2 hxP; dsimp only; omega)) rfl ?_
                refine XO.move rfl rfl ?_
                refine XO.nil ?_
                exact stepQN_ok rfl trivial (rfl)
              refine stepsH_cons rfl ?_ ?_
              · intro X ext HD hleD _
                replace hs := hs.mono hleD
                replace h25 := h25.mono hleD
                replace hp36 := hp36.mono hleD
                replace hpR := hpR.mono hleD
                replace hdR := hdR.mono hleD
                replace hpB := hpB.mono hleD
                replace hp72 := hp72.mono hleD
                replace hpP := hpP.mono hleD
                replace hle0 := hle0.trans hleD
                refine withP_cons rfl rfl ?_
                rintro _ rfl
                refine withP_nil rfl ?_
                refine XO.guardT rfl rfl (decide_eq_true hq) rfl ?_
                refine XO.move rfl rfl ?_
                refine XO.nil ?_
                exact stepQN_ok rfl trivial (rfl)
              refine stepsH_cons rfl ?_ ?_
              · intro X ext HD hleD _
                replace hs := hs.mono hleD
                replace h25 := h25.mono hleD
                replace hp36 := hp36.mono hleD
                replace hpR := hpR.mono hleD
                replace hdR := hdR.mono hleD
                replace hpB := hpB.mono hleD
                replace hp72 := hp72.mono hleD
                replace hpP := hpP.mono hleD
                replace hle0 := hle0.trans hleD
                refine withP_cons rfl rfl ?_
                rintro _ rfl
                refine withP_nil rfl ?_
                refine XO.guardT rfl rfl (decide_eq_true hq) rfl ?_
                refine XO.move rfl rfl ?_
                refine XO.nil ?_
                exact stepQN_ok rfl trivial (rfl)
              refine stepsH_cons rfl ?_ ?_
              · intro X ext HD hleD _
                replace hs := hs.mono hleD
                replace h25 := h25.mono hleD
                replace hp36 := hp36.mono hleD
                replace hpR := hpR.mono hleD
                replace hdR := hdR.mono hleD
                replace hpB := hpB.mono hleD
                replace hp72 := hp72.mono hleD
                replace hpP := hpP.mono hleD
                replace hle0 := hle0.trans hleD
                refine withP_cons rfl rfl ?_
                rintro _ rfl
                refine withP_cons rfl rfl ?_
                rintro _ rfl
                refine withP_nil rfl ?_
                refine XO.guardT rfl rfl (decide_eq_true hq) rfl ?_
                refine XO.sub (c := ((k - 1 : Nat) : Int)) rfl rfl ((wrap_i64 (by omega) (by omega)).trans (by omega)) rfl ?_
                refine XO.nil ?_
                exact stepQN_ok rfl trivial (rfl)
              refine stepsH_cons rfl ?_ ?_
              · intro X ext HD hleD _
                replace hs := hs.mono hleD
                replace h25 := h25.mono hleD
                replace hp36 := hp36.mono hleD
                replace hpR := hpR.mono hleD
                replace hdR := hdR.mono hleD
                replace hpB := hpB.mono hleD
                replace hp72 := hp72.mono hleD
                replace hpP := hpP.mono hleD
                replace hle0 := hle0.trans hleD
                refine withP_cons rfl rfl ?_
                rintro _ rfl
                refine withP_cons rfl rfl ?_
                rintro _ rfl
                refine withP_cons rfl rfl ?_
                rintro _ rfl
                refine withP_nil rfl ?_
                refine XO.guardT rfl rfl (decide_eq_true hq) rfl ?_
                refine XO.indexE rfl rfl Try.underlying25 ty_41 (by omega) (by omega) rfl ?_
                refine XO.nil ?_
                exact stepQN_ok rfl trivial (rfl)
              refine stepsH_cons rfl ?_ ?_
              · intro X ext HD hleD _
                replace hs := hs.mono hleD
                replace h25 := h25.mono hleD
                replace hp36 := hp36.mono hleD
                replace hpR := hpR.mono hleD
                replace hdR := hdR.mono hleD
                replace hpB := hpB.mono hleD
                replace hp72 := hp72.mono hleD
                replace hpP := hpP.mono hleD
                replace hle0 := hle0.trans hleD
                refine withP_cons rfl rfl ?_
                rintro _ rfl
                refine withP_cons rfl rfl ?_
                rintro _ rfl
                refine withP_nil rfl ?_
                refine XO.guardT rfl rfl (decide_eq_true hq) rfl ?_
                refine XO.indexArr rfl rfl Try.underlying41 ty_3 (by first | decide | omega) (by first | decide | omega) rfl ?_
                refine XO.nil ?_
                exact stepQN_ok rfl trivial (rfl)
              refine stepsH_cons rfl ?_ ?_
              · intro X ext HD hleD _
                replace hs := hs.mono hleD
                replace h25 := h25.mono hleD
                replace hp36 := hp36.mono hleD
                replace hpR := hpR.mono hleD
                replace hdR := hdR.mono hleD
                replace hpB := hpB.mono hleD
                replace hp72 := hp72.mono hleD
                replace hpP := hpP.mono hleD
                replace hle0 := hle0.trans hleD
                refine withP_cons rfl rfl ?_
                rintro _ rfl
                refine withP_cons rfl rfl ?_
                rintro _ rfl
                refine withP_nil rfl ?_
                refine XO.guardT rfl rfl (decide_eq_true hq) rfl ?_
                refine XO.loadHF rfl (by assumption) ty_3 rfl rfl rfl ?_
                refine XO.nil ?_
                exact stepQN_ok rfl trivial (rfl)
              refine stepsH_cons rfl ?_ ?_
              · intro X ext HD hleD _
                replace hs := hs.mono hleD
                replace h25 := h25.mono hleD
                replace hp36 := hp36.mono hleD
                replace hpR := hpR.mono hleD
                replace hdR := hdR.mono hleD
                replace hpB := hpB.mono hleD
                replace hp72 := hp72.mono hleD
                replace hpP := hpP.mono hleD
                replace hle0 := hle0.trans hleD
                refine withP_cons rfl rfl ?_
                rintro _ rfl
                refine withP_nil rfl ?_
                refine XO.guardT rfl rfl (decide_eq_true hq) rfl ?_
                refine XO.indexArr rfl rfl Try.underlying41 ty_3 (by first | decide | omega) (by first | decide | omega) rfl ?_
                refine XO.nil ?_
                exact stepQN_ok rfl trivial (rfl)
              refine stepsH_cons rfl ?_ ?_
              · intro X ext HD hleD _
                replace hs := hs.mono hleD
                replace h25 := h25.mono hleD
                replace hp36 := hp36.mono hleD
                replace hpR := hpR.mono hleD
                replace hdR := hdR.mono hleD
                replace hpB := hpB.mono hleD
                replace hp72 := hp72.mono hleD
                replace hpP := hpP.mono hleD
                replace hle0 := hle0.trans hleD
                refine withP_cons rfl rfl ?_
                rintro _ rfl
                refine withP_cons rfl rfl ?_
                rintro _ rfl
                refine withP_nil rfl ?_
                refine XO.guardT rfl rfl (decide_eq_true hq) rfl ?_
                refine XO.loadO 0 rfl rfl ty_3 rfl rfl rfl ?_
                refine XO.nil ?_
                exact stepQN_ok rfl trivial (rfl)
              exact stepsH_end rfl
            case tail11 =>
              intro HD hleD _
              replace hs := hs.mono hleD
              replace h25 := h25.mono hleD
              replace hp36 := hp36.mono hleD
              replace hpR := hpR.mono hleD
              replace hdR := hdR.mono hleD
              replace hpB := hpB.mono hleD
              replace hp72 := hp72.mono hleD
              replace hpP := hpP.mono hleD
              replace hle0 := hle0.trans hleD
              refine withP_cons rfl rfl ?_
              rintro _ rfl
              refine withP_cons rfl rfl ?_
              rintro _ rfl
              refine withP_cons rfl rfl ?_
              rintro _ rfl
              refine withP_cons rfl rfl ?_
              rintro _ rfl
              refine withP_cons rfl rfl ?_
              rintro _ rfl
              refine withP_cons rfl rfl ?_
              rintro _ rfl
              refine withP_cons rfl rfl ?_
              rintro _ rfl
              refine withP_cons rfl rfl ?_
              rintro _ rfl
              refine withP_cons rfl rfl ?_
              rintro _ rfl
              refine withP_cons rfl rfl ?_
              rintro _ rfl
              refine withP_cons rfl rfl ?_
              rintro _ rfl
              refine withP_cons rfl rfl ?_
              rintro _ rfl
              refine withP_cons rfl rfl ?_
              rintro _ rfl
              refine withP_cons rfl rfl ?_
              rintro _ rfl
              refine withP_cons rfl rfl ?_
              rintro _ rfl
              refine withP_cons rfl rfl ?_
              rintro _ rfl
              refine withP_cons rfl rfl ?_
              rintro _ rfl
              refine withP_cons rfl rfl ?_
              rintro _ rfl
              refine withP_cons rfl rfl ?_
              rintro _ rfl
              refine withP_cons rfl rfl ?_
              rintro _ rfl
              refine withP_cons rfl rfl ?_
              rintro _ rfl
              refine withP_cons rfl rfl ?_
              rintro _ rfl
              refine withP_cons rfl rfl ?_
              rintro _ rfl
              refine withP_cons rfl rfl ?_
              rintro _ rfl
              refine withP_cons rfl rfl ?_
              rintro _ rfl
              refine withP_cons rfl rfl ?_
              rintro _ rfl
              refine withP_cons rfl rfl ?_
              rintro _ rfl
              refine withP_cons rfl rfl ?_
              rintro _ rfl
              refine withP_cons rfl rfl ?_
              rintro _ rfl
              refine withP_cons rfl rfl ?_
              rintro _ rfl
              refine withP_cons rfl rfl ?_
              rintro _ rfl
              refine withP_nil rfl ?_
              refine withEnts_nil ?_
              refine XO.guardT rfl rfl (decide_eq_true hq) rfl ?_
              refine XO.geq rfl rfl rfl ?_
              refine XO.guardT rfl rfl (decide_eq_false (by have := tree_prev hok (by omega) hte2 hxP; dsimp only; omega)) rfl ?_
              refine XO.pickT rfl (decide_eq_true hq) rfl rfl ?_
              refine XO.guardT rfl rfl (decide_eq_true hk0) rfl ?_
              refine XO.pickF rfl (decide_eq_false (by have := tree_prev hok (by omega) hte2 hxP; dsimp only; omega)) rfl rfl ?_
              refine XO.pickT rfl (decide_eq_true hk0) rfl rfl ?_
              refine XO.nil ?_
              refine XC.seq2 ?_
              refine XC.condF rfl (decide_eq_false (by have := tree_prev hok (by omega) hte2 hxP; dsimp only; omega)) ?_
              refine XC.skip ?_
              refine blockN ?_
              refine XC.seq2 ?_
              refine XC.region ?_
              refine XO.add rfl rfl (wrap_i64 (by omega) (by omega)) rfl ?_
              refine XO.move rfl rfl ?_
              refine XO.nil ?_
              refine loop_next (k + 1) (by show (trL m).length - (k + 1) < (trL m).length - k; omega) (prov_cons (rfl) (prov_cons (rfl) (prov_cons (rfl) (prov_cons (rfl) (prov_cons (rfl) (prov_cons (rfl) (prov_cons (rfl) prov_nil))))))) (⟨by show k + 1 ≤ (trL m).length; omega, rfl⟩) (by repeat (first | exact List.Sublist.refl _ | apply List.Sublist.cons_cons | apply List.Sublist.cons)) (hle0)
          · skip
            refine XC.keep [0, 1, 5, 6, 8, 9, 31, 32, 33] rfl ?_
            apply XC.drawH (fun _ => True) trivial [] (by decide) (fun _ _ _ _ => True) (fun _ _ _ _ _ _ h => h) 31 [eqF _, eqF _, eqF _, eqF _, eqF _, eqF _, eqF _, eqF _, eqF _, eqF _, eqF _, eqF _, eqF _, eqF _, eqF _, eqF _, eqF _, eqF _, eqF _, eqF _, eqF _, eqF _, eqF _, eqF _, eqF _, eqF _, eqF _, eqF _, eqF _, eqF _, eqF _] follows (by kernel_rfl) ⟨eqF_mono _, eqF_mono _, eqF_mono _, eqF_mono _, eqF_mono _, eqF_mono _, eqF_mono _, eqF_mono _, eqF_mono _, eqF_mono _, eqF_mono _, eqF_mono _, eqF_mono _, eqF_mono _, eqF_mono _, eqF_mono _, eqF_mono _, eqF_mono _, eqF_mono _, eqF_mono _, eqF_mono _, eqF_mono _, eqF_mono _, eqF_mono _, eqF_mono _, eqF_mono _, eqF_mono _, eqF_mono _, eqF_mono _, eqF_mono _, eqF_mono _, trivial⟩ (by decide) ?steps18 ?tail18
            case steps18 =>
              refine stepsH_cons rfl ?_ ?_
              · intro X ext HD hleD _
                replace hs := hs.mono hleD
                replace h25 := h25.mono hleD
                replace hp36 := hp36.mono hleD
                replace hpR := hpR.mono hleD
                replace hdR := hdR.mono hleD
                replace hpB := hpB.mono hleD
                replace hp72 := hp72.mono hleD
                replace hpP := hpP.mono hleD
                replace hle0 := hle0.trans hleD
                refine withP_nil rfl ?_
                refine XO.move rfl rfl ?_
                refine XO.nil ?_
                exact stepQN_ok rfl trivial (rfl)
              refine stepsH_cons rfl ?_ ?_
              · intro X ext HD hleD _
                replace hs := hs.mono hleD
                replace h25 := h25.mono hleD
                replace hp36 := hp36.mono hleD
                replace hpR := hpR.mono hleD
                replace hdR := hdR.mono hleD
                replace hpB := hpB.mono hleD
                replace hp72 := hp72.mono hleD
                replace hpP := hpP.mono hleD
                replace hle0 := hle0.trans hleD
                refine withP_cons rfl rfl ?_
                rintro _ rfl
                refine withP_nil rfl ?_
                refine XO.gtr rfl rfl rfl ?_
                refine XO.nil ?_
                exact stepQN_ok rfl trivial (rfl)
              refine stepsH_cons rfl ?_ ?_
              · intro X ext HD hleD _
                replace hs := hs.mono hleD
                replace h25 := h25.mono hleD
                replace hp36 := hp36.mono hleD
                replace hpR := hpR.mono hleD
                replace hdR := hdR.mono hleD
                replace hpB := hpB.mono hleD
                replace hp72 := hp72.mono hleD
                replace hpP := hpP.mono hleD
                replace hle0 := hle0.trans hleD
                refine withP_cons rfl rfl ?_
                rintro _ rfl
                refine withP_nil rfl ?_
                refine XO.move rfl rfl ?_
                refine XO.nil ?_
                exact stepQN_ok rfl trivial (rfl)
              refine stepsH_cons rfl ?_ ?_
              · intro X ext HD hleD _
                replace hs := hs.mono hleD
                replace h25 := h25.mono hleD
                replace hp36 := hp36.mono hleD
                replace hpR := hpR.mono hleD
                replace hdR := hdR.mono hleD
                replace hpB := hpB.mono hleD
                replace hp72 := hp72.mono hleD
                replace hpP := hpP.mono hleD
                replace hle0 := hle0.trans hleD
                refine withP_cons rfl rfl ?_
                rintro _ rfl
                refine withP_nil rfl ?_
                refine XO.guardT rfl rfl (decide_eq_true hk0) rfl ?_
                refine XO.move rfl rfl ?_
                refine XO.nil ?_
                exact stepQN_ok rfl trivial (rfl)
              refine stepsH_cons rfl ?_ ?_
              · intro X ext HD hleD _
                replace hs := hs.mono hleD
                replace h25 := h25.mono hleD
                replace hp36 := hp36.mono hleD
                replace hpR := hpR.mono hleD
                replace hdR := hdR.mono hleD
                replace hpB := hpB.mono hleD
                replace hp72 := hp72.mono hleD
                replace hpP := hpP.mono hleD
                replace hle0 := hle0.trans hleD
                refine withP_cons rfl rfl ?_
                rintro _ rfl
                refine withP_nil rfl ?_
                refine XO.guardT rfl rfl (decide_eq_true hk0) rfl ?_
                refine XO.move rfl rfl ?_
                refine XO.nil ?_
                exact stepQN_ok rfl trivial (rfl)
              refine stepsH_cons rfl ?_ ?_
              · intro X ext HD hleD _
                replace hs := hs.mono hleD
                replace h25 := h25.mono hleD
                replace hp36 := hp36.mono hleD
                replace hpR := hpR.mono hleD
                replace hdR := hdR.mono hleD
                replace hpB := hpB.mono hleD
                replace hp72 := hp72.mono hleD
                replace hpP := hpP.mono hleD
                replace hle0 := hle0.trans hleD
                refine withP_cons rfl rfl ?_
                rintro _ rfl
                refine withP_cons rfl rfl ?_
                rintro _ rfl
                refine withP_nil rfl ?_
                refine XO.guardT rfl rfl (decide_eq_true hk0) rfl ?_
                refine XO.sub (c := ((k - 1 : Nat) : Int)) rfl rfl ((wrap_i64 (by omega) (by omega)).trans (by omega)) rfl ?_
                refine XO.nil ?_
                exact stepQN_ok rfl trivial (rfl)
              refine stepsH_cons rfl ?_ ?_
              · intro X ext HD hleD _
                replace hs := hs.mono hleD
                replace h25 := h25.mono hleD
                replace hp36 := hp36.mono hleD
                replace hpR := hpR.mono hleD
                replace hdR := hdR.mono hleD
                replace hpB := hpB.mono hleD
                replace hp72 := hp72.mono hleD
                replace hpP := hpP.mono hleD
                replace hle0 := hle0.trans hleD
                refine withP_cons rfl rfl ?_
                rintro _ rfl
                refine withP_cons rfl rfl ?_
                rintro _ rfl
                refine withP_cons rfl rfl ?_
                rintro _ rfl
                refine withP_nil rfl ?_
                refine XO.guardT rfl rfl (decide_eq_true hk0) rfl ?_
                refine XO.indexE rfl rfl Try.underlying25 ty_41 (by omega) (by omega) rfl ?_
                refine XO.nil ?_
                exact stepQN_ok rfl trivial (rfl)
              refine stepsH_cons rfl ?_ ?_
              · intro X ext HD hleD _
                replace hs := hs.mono hleD
                replace h25 := h25.mono hleD
                replace hp36 := hp36.mono hleD
                replace hpR := hpR.mono hleD
                replace hdR := hdR.mono hleD
                replace hpB := hpB.mono hleD
                replace hp72 := hp72.mono hleD
                replace hpP := hpP.mono hleD
                replace hle0 := hle0.trans hleD
                refine withP_cons rfl rfl ?_
                rintro _ rfl
                refine withP_cons rfl rfl ?_
                rintro _ rfl
                refine withP_nil rfl ?_
                refine XO.guardT rfl rfl (decide_eq_true hk0) rfl ?_
                refine XO.indexArr rfl rfl Try.underlying41 ty_3 (by first | decide | omega) (by first | decide | omega) rfl ?_
                refine XO.nil ?_
                exact stepQN_ok rfl trivial (rfl)
              refine stepsH_cons rfl ?_ ?_
              · intro X ext HD hleD _
                replace hs := hs.mono hleD
                replace h25 := h25.mono hleD
                replace hp36 := hp36.mono hleD
                replace hpR := hpR.mono hleD
                replace hdR := hdR.mono hleD
                replace hpB := hpB.mono hleD
                replace hp72 := hp72.mono hleD
                replace hpP := hpP.mono hleD
                replace hle0 := hle0.trans hleD
                refine withP_cons rfl rfl ?_
                rintro _ rfl
                refine withP_cons rfl rfl ?_
                rintro _ rfl
                refine withP_nil rfl ?_
                refine XO.guardT rfl rfl (decide_eq_true hk0) rfl ?_
                refine XO.loadHF rfl (by assumption) ty_3 rfl rfl rfl ?_
                refine XO.nil ?_
                exact stepQN_ok rfl trivial (rfl)
              refine stepsH_cons rfl ?_ ?_
              · intro X ext HD hleD _
                replace hs := hs.mono hleD
                replace h25 := h25.mono hleD
                replace hp36 := hp36.mono hleD
                replace hpR := hpR.mono hleD
                replace hdR := hdR.mono hleD
                replace hpB := hpB.mono hleD
                replace hp72 := hp72.mono hleD
                replace hpP := hpP.mono hleD
                replace hle0 := hle0.trans hleD
                refine withP_cons rfl rfl ?_
                rintro _ rfl
                refine withP_nil rfl ?_
                refine XO.guardT rfl rfl (decide_eq_true hk0) rfl ?_
                refine XO.indexArr rfl rfl Try.underlying41 ty_3 (by first | decide | omega) (by first | decide | omega) rfl ?_
                refine XO.nil ?_
                exact stepQN_ok rfl trivial (rfl)
              refine stepsH_cons rfl ?_ ?_
              · intro X ext HD hleD _
                replace hs := hs.mono hleD
                replace h25 := h25.mono hleD
                replace hp36 := hp36.mono hleD
                replace hpR := hpR.mono hleD
                replace hdR := hdR.mono hleD
                replace hpB := hpB.mono hleD
                replace hp72 := hp72.mono hleD
                replace hpP := hpP.mono hleD
                replace hle0 := hle0.trans hleD
                refine withP_cons rfl rfl ?_
                rintro _ rfl
                refine withP_cons rfl rfl ?_
                rintro _ rfl
                refine withP_nil rfl ?_
                refine XO.guardT rfl rfl (decide_eq_true hk0) rfl ?_
                refine XO.loadO 0 rfl rfl ty_3 rfl rfl rfl ?_
                refine XO.nil ?_
                exact stepQN_ok rfl trivial (rfl)
              refine stepsH_cons rfl ?_ ?_
              · intro X ext HD hleD _
                replace hs := hs.mono hleD
                replace h25 := h25.mono hleD
                replace hp36 := hp36.mono hleD
                replace hpR := hpR.mono hleD
                replace hdR := hdR.mono hleD
                replace hpB := hpB.mono hleD
                replace hp72 := hp72.mono hleD
                replace hpP := hpP.mono hleD
                replace hle0 := hle0.trans hleD
                refine withP_cons rfl rfl ?_
                rintro _ rfl
                refine withP_cons rfl rfl ?_
                rintro _ rfl
                refine withP_cons rfl rfl ?_
                rintro _ rfl
                refine withP_nil rfl ?_
                refine XO.guardT rfl rfl (decide_eq_true hk0) rfl ?_
                refine XO.gtr rfl rfl rfl ?_
                refine XO.nil ?_
                exact stepQN_ok rfl trivial (rfl)
              refine stepsH_cons rfl ?_ ?_
              · intro X ext HD hleD _
                replace hs := hs.mono hleD
                replace h25 := h25.mono hleD
                replace hp36 := hp36.mono hleD
                replace hpR := hpR.mono hleD
                replace hdR := hdR.mono hleD
                replace hpB := hpB.mono hleD
                replace hp72 := hp72.mono hleD
                replace hpP := hpP.mono hleD
                replace hle0 := hle0.trans hleD
                refine withP_cons rfl rfl ?_
                rintro _ rfl
                refine withP_cons rfl rfl ?_
                rintro _ rfl
                refine withP_nil rfl ?_
                refine XO.guardT rfl rfl (decide_eq_true hk0) rfl ?_
                refine XO.move rfl rfl ?_
                refine XO.nil ?_
                exact stepQN_ok rfl trivial (rfl)
              refine stepsH_cons rfl ?_ ?_
              · intro X ext HD hleD _
                replace hs := hs.mono hleD
                replace h25 := h25.mono hleD
                replace hp36 := hp36.mono hleD
                replace hpR := hpR.mono hleD
                replace hdR := hdR.mono hleD
                replace hpB := hpB.mono hleD
                replace hp72 := hp72.mono hleD
                replace hpP := hpP.mono hleD
                replace hle0 := hle0.trans hleD
                refine withP_cons rfl rfl ?_
                rintro _ rfl
                refine withP_nil rfl ?_
                refine XO.guardT rfl rfl (decide_eq_false (by have := tree_prev hok (by omega) hte2 hxP; dsimp only; omega)) rfl ?_
                refine XO.move rfl rfl ?_
                refine XO.nil ?_
                exact stepQN_ok rfl trivial (rfl)
              refine stepsH_cons rfl ?_ ?_
              · intro X ext HD hleD _
                replace hs := hs.mono hleD
                replace h25 := h25.mono hleD
                replace hp36 := hp36.mono hleD
                replace hpR := hpR.mono hleD
                replace hdR := hdR.mono hleD
                replace hpB := hpB.mono hleD
                replace hp72 := hp72.mono hleD
                replace hpP := hpP.mono hleD
                replace hle0 := hle0.trans hleD
                refine withP_cons rfl rfl ?_
                rintro _ rfl
                refine withP_nil rfl ?_
                refine XO.guardT rfl rfl (decide_eq_false (by have := tree_prev hok (by omega) hte2 hxP; dsimp only; omega)) rfl ?_
                refine XO.move rfl rfl ?_
                refine XO.nil ?_
                exact stepQN_ok rfl trivial (rfl)
              refine stepsH_cons rfl ?_ ?_
              · intro X ext HD hleD _
                replace hs := hs.mono hleD
                replace h25 := h25.mono hleD
                replace hp36 := hp36.mono hleD
                replace hpR := hpR.mono hleD
                replace hdR := hdR.mono hleD
                replace hpB := hpB.mono hleD
                replace hp72 := hp72.mono hleD
                replace hpP := hpP.mono hleD
                replace hle0 := hle0.trans hleD
                refine withP_cons rfl rfl ?_
                rintro _ rfl
                refine withP_cons rfl rfl ?_
                rintro _ rfl
                refine withP_nil rfl ?_
                refine XO.guardT rfl rfl (decide_eq_false (by have := tree_prev hok (by omega) hte2 hxP; dsimp only; omega)) rfl ?_
                refine XO.sub (c := ((k - 1 : Nat) : Int)) rfl rfl ((wrap_i64 (by omega) (by omega)).trans (by omega)) rfl ?_
                refine XO.nil ?_
                exact stepQN_ok rfl trivial (rfl)
              refine stepsH_cons rfl ?_ ?_
              · intro X ext HD hleD _
                replace hs := hs.mono hleD
                replace h25 := h25.mono hleD
                replace hp36 := hp36.mono hleD
                replace hpR := hpR.mono hleD
                replace hdR := hdR.mono hleD
                replace hpB := hpB.mono hleD
                replace hp72 := hp72.mono hleD
                replace hpP := hpP.mono hleD
                replace hle0 := hle0.trans hleD
                refine withP_cons rfl rfl ?_
                rintro _ rfl
                refine withP_cons rfl rfl ?_
                rintro _ rfl
                refine withP_cons rfl rfl ?_
                rintro _ rfl
                refine withP_nil rfl ?_
                refine XO.guardT rfl rfl (decide_eq_false (by have := tree_prev hok (by omega) hte2 hxP; dsimp only; omega)) rfl ?_
                refine XO.indexE rfl rfl Try.underlying25 ty_41 (by omega) (by omega) rfl ?_
                refine XO.nil ?_
                exact stepQN_ok rfl trivial (rfl)
              refine stepsH_cons rfl ?_ ?_
              · intro X ext HD hleD _
                replace hs := hs.mono hleD
                replace h25 := h25.mono hleD
                replace hp36 := hp36.mono hleD
                replace hpR := hpR.mono hleD
                replace hdR := hdR.mono hleD
                replace hpB := hpB.mono hleD
                replace hp72 := hp72.mono hleD
                replace hpP := hpP.mono hleD
                replace hle0 := hle0.trans hleD
                refine withP_cons rfl rfl ?_
                rintro _ rfl
                refine withP_cons rfl rfl ?_
                rintro _ rfl
                refine withP_nil rfl ?_
                refine XO.guardT rfl rfl (decide_eq_false (by have := tree_prev hok (by omega) hte2 hxP; dsimp only; omega)) rfl ?_
                refine XO.indexArr rfl rfl Try.underlying41 ty_3 (by first | decide | omega) (by first | decide | omega) rfl ?_
                refine XO.nil ?_
                exact stepQN_ok rfl trivial (rfl)
              refine stepsH_cons rfl ?_ ?_
              · intro X ext HD hleD _
                replace hs := hs.mono hleD
                replace h25 := h25.mono hleD
                replace hp36 := hp36.mono hleD
                replace hpR := hpR.mono hleD
                replace hdR := hdR.mono hleD
                replace hpB := hpB.mono hleD
                replace hp72 := hp72.mono hleD
                replace hpP := hpP.mono hleD
                replace hle0 := hle0.trans hleD
                refine withP_cons rfl rfl ?_
                rintro _ rfl
                refine withP_cons rfl rfl ?_
                rintro _ rfl
                refine withP_nil rfl ?_
                refine XO.guardT rfl rfl (decide_eq_false (by have := tree_prev hok (by omega) hte2 hxP; dsimp only; omega)) rfl ?_
                refine XO.loadHF rfl (by assumption) ty_3 rfl rfl rfl ?_
                refine XO.nil ?_
                exact stepQN_ok rfl trivial (rfl)
              refine stepsH_cons rfl ?_ ?_
              · intro X ext HD hleD _
                replace hs := hs.mono hleD
                replace h25 := h25.mono hleD
                replace hp36 := hp36.mono hleD
                replace hpR := hpR.mono hleD
                replace hdR := hdR.mono hleD
                replace hpB := hpB.mono hleD
                replace hp72 := hp72.mono hleD
                replace hpP := hpP.mono hleD
                replace hle0 := hle0.trans hleD
                refine withP_cons rfl rfl ?_
                rintro _ rfl
                refine withP_nil rfl ?_
                refine XO.guardT rfl rfl (decide_eq_false (by have := tree_prev hok (by omega) hte2 hxP; dsimp only; omega)) rfl ?_
                refine XO.indexArr rfl rfl Try.underlying41 ty_3 (by first | decide | omega) (by first | decide | omega) rfl ?_
                refine XO.nil ?_
                exact stepQN_ok rfl trivial (rfl)
              refine stepsH_cons rfl ?_ ?_
              · intro X ext HD hleD _
                replace hs := hs.mono hleD
                replace h25 := h25.mono hleD
                replace hp36 := hp36.mono hleD
                replace hpR := hpR.mono hleD
                replace hdR := hdR.mono hleD
                replace hpB := hpB.mono hleD
                replace hp72 := hp72.mono hleD
                replace hpP := hpP.mono hleD
                replace hle0 := hle0.trans hleD
                refine withP_cons rfl rfl ?_
                rintro _ rfl
                refine withP_cons rfl rfl ?_
                rintro _ rfl
                refine withP_nil rfl ?_
                refine XO.guardT rfl rfl (decide_eq_false (by have := tree_prev hok (by omega) hte2 hxP; dsimp only; omega)) rfl ?_
                refine XO.loadO 0 rfl rfl ty_3 rfl rfl rfl ?_
                refine XO.nil ?_
                exact stepQN_ok rfl trivial (rfl)
              refine stepsH_cons rfl ?_ ?_
              · intro X ext HD hleD _
                replace hs := hs.mono hleD
                replace h25 := h25.mono hleD
                replace hp36 := hp36.mono hleD
                replace hpR := hpR.mono hleD
                replace hdR := hdR.mono hleD
                replace hpB := hpB.mono hleD
                replace hp72 := hp72.mono hleD
                replace hpP := hpP.mono hleD
                replace hle0 := hle0.trans hleD
                refine withP_cons rfl rfl ?_
                rintro _ rfl
                refine withP_cons rfl rfl ?_
                rintro _ rfl
                refine withP_cons rfl rfl ?_
                rintro _ rfl
                refine withP_nil rfl ?_
                refine XO.guardT rfl rfl (decide_eq_false (by have := tree_prev hok (by omega) hte2 hxP; dsimp only; omega)) rfl ?_
                refine XO.eql rfl rfl rfl ?_
                refine XO.nil ?_
                exact stepQN_ok rfl trivial (rfl)
              refine stepsH_cons rfl ?_ ?_
              · intro X ext HD hleD _
                replace hs := hs.mono hleD
                replace h25 := h25.mono hleD
                replace hp36 := hp36.mono hleD
                replace hpR := hpR.mono hleD
                replace hdR := hdR.mono hleD
                replace hpB := hpB.mono hleD
                replace hp72 := hp72.mono hleD
                replace hpP := hpP.mono hleD
                replace hle0 := hle0.trans hleD
                refine withP_cons rfl rfl ?_
                rintro _ rfl
                refine withP_cons rfl rfl ?_
                rintro _ rfl
                refine withP_nil rfl ?_
                refine XO.guardT rfl rfl (decide_eq_false (by have := tree_prev hok (by omega) hte2 hxP; dsimp only; omega)) rfl ?_
                refine XO.move rfl rfl ?_
                refine XO.nil ?_
                exact stepQN_ok rfl trivial (rfl)
              refine stepsH_cons rfl ?_ ?_
              · intro X ext HD hleD _
                replace hs := hs.mono hleD
                replace h25 := h25.mono hleD
                replace hp36 := hp36.mono hleD
                replace hpR := hpR.mono hleD
                replace hdR := hdR.mono hleD
                replace hpB := hpB.mono hleD
                replace hp72 := hp72.mono hleD
                replace hpP := hpP.mono hleD
                replace hle0 := hle0.trans hleD
                refine withP_cons rfl rfl ?_
                rintro _ rfl
                refine withP_nil rfl ?_
                refine XO.guardF rfl rfl (decide_eq_false hq) rfl rfl ?_
                refine XO.nil ?_
                exact stepQN_ok rfl trivial (rfl)
              refine stepsH_cons rfl ?_ ?_
              · intro X ext HD hleD _
                replace hs := hs.mono hleD
                replace h25 := h25.mono hleD
                replace hp36 := hp36.mono hleD
                replace hpR := hpR.mono hleD
                replace hdR := hdR.mono hleD
                replace hpB := hpB.mono hleD
                replace hp72 := hp72.mono hleD
                replace hpP := hpP.mono hleD
                replace hle0 := hle0.trans hleD
                refine withP_cons rfl rfl ?_
                rintro _ rfl
                refine withP_nil rfl ?_
                refine XO.guardF rfl rfl (decide_eq_false hq) rfl rfl ?_
                refine XO.nil ?_
                exact stepQN_ok rfl trivial (rfl)
              refine stepsH_cons rfl ?_ ?_
              · intro X ext HD hleD _
                replace hs := hs.mono hleD
                replace h25 := h25.mono hleD
                replace hp36 := hp36.mono hleD
                replace hpR := hpR.mono hleD
                replace hdR := hdR.mono hleD
                replace hpB := hpB.mono hleD
                replace hp72 := hp72.mono hleD
                replace hpP := hpP.mono hleD
                replace hle0 := hle0.trans hleD
                refine withP_cons rfl rfl ?_
                rintro _ rfl
                refine withP_cons rfl rfl ?_
                rintro _ rfl
                refine withP_nil rfl ?_
                refine XO.guardF rfl rfl (decide_eq_false hq) rfl rfl ?_
                refine XO.nil ?_
                exact stepQN_ok rfl trivial (rfl)
              refine stepsH_cons rfl ?_ ?_
              · intro X ext HD hleD _
                replace hs := hs.mono hleD
                replace h25 := h25.mono hleD
                replace hp36 := hp36.mono hleD
                replace hpR := hpR.mono hleD
                replace hdR := hdR.mono hleD
                replace hpB := hpB.mono hleD
                replace hp72 := hp72.mono hleD
                replace hpP := hpP.mono hleD
                replace hle0 := hle0.trans hleD
                refine withP_cons rfl rfl ?_
                rintro _ rfl
                refine withP_cons rfl rfl ?_
                rintro _ rfl
                refine withP_cons rfl rfl ?_
                rintro _ rfl
                refine withP_nil rfl ?_
                refine XO.guardF rfl rfl (decide_eq_false hq) rfl rfl ?_
                refine XO.nil ?_
                exact stepQN_ok rfl trivial (rfl)
              refine stepsH_cons rfl ?_ ?_
              · intro X ext HD hleD _
                replace hs := hs.mono hleD
                replace h25 := h25.mono hleD
                replace hp36 := hp36.mono hleD
                replace hpR := hpR.mono hleD
                replace hdR := hdR.mono hleD
                replace hpB := hpB.mono hleD
                replace hp72 := hp72.mono hleD
                replace hpP := hpP.mono hleD
                replace hle0 := hle0.trans hleD
                refine withP_cons rfl rfl ?_
                rintro _ rfl
                refine withP_cons rfl rfl ?_
                rintro _ rfl
                refine withP_nil rfl ?_
                refine XO.guardF rfl rfl (decide_eq_false hq) rfl rfl ?_
                refine XO.nil ?_
                exact stepQN_ok rfl trivial (rfl)
              refine stepsH_cons rfl ?_ ?_
              · intro X ext HD hleD _
                replace hs := hs.mono hleD
                replace h25 := h25.mono hleD
                replace hp36 := hp36.mono hleD
                replace hpR := hpR.mono hleD
                replace hdR := hdR.mono hleD
                replace hpB := hpB.mono hleD
                replace hp72 := hp72.mono hleD
                replace hpP := hpP.mono hleD
                replace hle0 := hle0.trans hleD
                refine withP_cons rfl rfl ?_
                rintro _ rfl
                refine withP_cons rfl rfl ?_
                rintro _ rfl
                refine withP_nil rfl ?_
                refine XO.guardF rfl rfl (decide_eq_false hq) rfl rfl ?_
                refine XO.nil ?_
                exact stepQN_ok rfl trivial (rfl)
              refine stepsH_cons rfl ?_ ?_
              · intro X ext HD hleD _
                replace hs := hs.mono hleD
                replace h25 := h25.mono hleD
                replace hp36 := hp36.mono hleD
                replace hpR := hpR.mono hleD
                replace hdR := hdR.mono hleD
                replace hpB := hpB.mono hleD
                replace hp72 := hp72.mono hleD
                replace hpP := hpP.mono hleD
                replace hle0 := hle0.trans hleD
                refine withP_cons rfl rfl ?_
                rintro _ rfl
                refine withP_nil rfl ?_
                refine XO.guardF rfl rfl (decide_eq_false hq) rfl rfl ?_
                refine XO.nil ?_
                exact stepQN_ok rfl trivial (rfl)
              refine stepsH_cons rfl ?_ ?_
              · intro X ext HD hleD _
                replace hs := hs.mono hleD
                replace h25 := h25.mono hleD
                replace hp36 := hp36.mono hleD
                replace hpR := hpR.mono hleD
                replace hdR := hdR.mono hleD
                replace hpB := hpB.mono hleD
                replace hp72 := hp72.mono hleD
                replace hpP := hpP.mono hleD
                replace hle0 := hle0.trans hleD
                refine withP_cons rfl rfl ?_
                rintro _ rfl
                refine withP_cons rfl rfl ?_
                rintro _ rfl
                refine withP_nil rfl ?_
                refine XO.guardF rfl rfl (decide_eq_false hq) rfl rfl ?_
                refine XO.nil ?_
                exact stepQN_ok rfl trivial (rfl)
              exact stepsH_end rfl
            case tail18 =>
              intro HD hleD _
              replace hs := hs.mono hleD
              replace h25 := h25.mono hleD
              replace hp36 := hp36.mono hleD
              replace hpR := hpR.mono hleD
              replace hdR := hdR.mono hleD
              replace hpB := hpB.mono hleD
              replace hp72 := hp72.mono hleD
              replace hpP := hpP.mono hleD
              replace hle0 := hle0.trans hleD
              refine withP_cons rfl rfl ?_
              rintro _ rfl
              refine withP_cons rfl rfl ?_
              rintro _ rfl
              refine withP_cons rfl rfl ?_
              rintro _ rfl
              refine withP_cons rfl rfl ?_
              rintro _ rfl
              refine withP_cons rfl rfl ?_
              rintro _ rfl
              refine withP_cons rfl rfl ?_
              rintro _ rfl
              refine withP_cons rfl rfl ?_
              rintro _ rfl
              refine withP_cons rfl rfl ?_
              rintro _ rfl
              refine withP_cons rfl rfl ?_
              rintro _ rfl
              refine withP_cons rfl rfl ?_
              rintro _ rfl
              refine withP_cons rfl rfl ?_
              rintro _ rfl
              refine withP_cons rfl rfl ?_
              rintro _ rfl
              refine withP_cons rfl rfl ?_
              rintro _ rfl
              refine withP_cons rfl rfl ?_
              rintro _ rfl
              refine withP_cons rfl rfl ?_
              rintro _ rfl
              refine withP_cons rfl rfl ?_
              rintro _ rfl
              refine withP_cons rfl rfl ?_
              rintro _ rfl
              refine withP_cons rfl rfl ?_
              rintro _ rfl
              refine withP_cons rfl rfl ?_
              rintro _ rfl
              refine withP_cons rfl rfl ?_
              rintro _ rfl
              refine withP_cons rfl rfl ?_
              rintro _ rfl
              refine withP_cons rfl rfl ?_
              rintro _ rfl
              refine withP_cons rfl rfl ?_
              rintro _ rfl
              refine withP_cons rfl rfl ?_
              rintro _ rfl
              refine withP_cons rfl rfl ?_
              rintro _ rfl
              refine withP_cons rfl rfl ?_
              rintro _ rfl
              refine withP_cons rfl rfl ?_
              rintro _ rfl
              refine withP_cons rfl rfl ?_
              rintro _ rfl
              refine withP_cons rfl rfl ?_
              rintro _ rfl
              refine withP_cons rfl rfl ?_
              rintro _ rfl
              refine withP_cons rfl rfl ?_
              rintro _ rfl
              refine withP_nil rfl ?_
              refine withEnts_nil ?_
              refine XO.guardF rfl rfl (decide_eq_false hq) rfl rfl ?_
              refine XO.guardT rfl rfl (decide_eq_false (by have := tree_prev hok (by omega) hte2 hxP; dsimp only; omega)) rfl ?_
              refine XO.pickF rfl (decide_eq_false hq) rfl rfl ?_
              refine XO.guardT rfl rfl (decide_eq_true hk0) rfl ?_
              refine XO.pickF rfl (decide_eq_false (by have := tree_prev hok (by omega) hte2 hxP; dsimp only; omega)) rfl rfl ?_
              refine XO.pickT rfl (decide_eq_true hk0) rfl rfl ?_
              refine XO.nil ?_
              refine XC.seq2 ?_
              refine XC.condF rfl (rfl) ?_
              refine XC.skip ?_
              refine blockN ?_
              refine XC.seq2 ?_
              refine XC.region ?_
              refine XO.add rfl rfl (wrap_i64 (by omega) (by omega)) rfl ?_
              refine XO.move rfl rfl ?_
              refine XO.nil ?_
              refine loop_next (k + 1) (by show (trL m).length - (k + 1) < (trL m).length - k; omega) (prov_cons (rfl) (prov_cons (rfl) (prov_cons (rfl) (prov_cons (rfl) (prov_cons (rfl) (prov_cons (rfl) (prov_cons (rfl) prov_nil))))))) (⟨by show k + 1 ≤ (trL m).length; omega, rfl⟩) (by repeat (first | exact List.Sublist.refl _ | apply List.Sublist.cons_cons | apply List.Sublist.cons)) (hle0)
        · skip
          refine XC.keep [0, 1, 5, 6, 8, 9, 31, 32, 33] rfl ?_
          apply XC.drawH (fun _ => True) trivial [] (by decide) (fun _ _ _ _ => True) (fun _ _ _ _ _ _ h => h) 31 [eqF _, eqF _, eqF _, eqF _, eqF _, eqF _, eqF _, eqF _, eqF _, eqF _, eqF _, eqF _, eqF _, eqF _, eqF _, eqF _, eqF _, eqF _, eqF _, eqF _, eqF _, eqF _, eqF _, eqF _, eqF _, eqF _, eqF _, eqF _, eqF _, eqF _, eqF _] follows (by kernel_rfl) ⟨eqF_mono _, eqF_mono _, eqF_mono _, eqF_mono _, eqF_mono _, eqF_mono _, eqF_mono _, eqF_mono _, eqF_mono _, eqF_mono _, eqF_mono _, eqF_mono _, eqF_mono _, eqF_mono _, eqF_mono _, eqF_mono _, eqF_mono _, eqF_mono _, eqF_mono _, eqF_mono _, eqF_mono _, eqF_mono _, eqF_mono _, eqF_mono _, eqF_mono _, eqF_mono _, eqF_mono _, eqF_mono _, eqF_mono _, eqF_mono _, eqF_mono _, trivial⟩ (by decide) ?steps23 ?tail23
          case steps23 =>
            refine stepsH_cons rfl ?_ ?_
            · intro X ext HD hleD _
              replace hs := hs.mono hleD
              replace h25 := h25.mono hleD
              replace hp36 := hp36.mono hleD
              replace hpR := hpR.mono hleD
              replace hdR := hdR.mono hleD
              replace hpB := hpB.mono hleD
              replace hp72 := hp72.mono hleD
              replace hpP := hpP.mono hleD
              replace hle0 := hle0.trans hleD
              refine withP_nil rfl ?_
              refine XO.move rfl rfl ?_
              refine XO.nil ?_
              exact stepQN_ok rfl trivial (rfl)
            refine stepsH_cons rfl ?_ ?_
            · intro X ext HD hleD _
              replace hs := hs.mono hleD
              replace h25 := h25.mono hleD
              replace hp36 := hp36.mono hleD
              replace hpR := hpR.mono hleD
              replace hdR := hdR.mono hleD
              replace hpB := hpB.mono hleD
              replace hp72 := hp72.mono hleD
              replace hpP := hpP.mono hleD
              replace hle0 := hle0.trans hleD
              refine withP_cons rfl rfl ?_
              rintro _ rfl
              refine withP_nil rfl ?_
              refine XO.gtr rfl rfl rfl ?_
              refine XO.nil ?_
              exact stepQN_ok rfl trivial (rfl)
            refine stepsH_cons rfl ?_ ?_
            · intro X ext HD hleD _
              replace hs := hs.mono hleD
              replace h25 := h25.mono hleD
              replace hp36 := hp36.mono hleD
              replace hpR := hpR.mono hleD
              replace hdR := hdR.mono hleD
              replace hpB := hpB.mono hleD
              replace hp72 := hp72.mono hleD
              replace hpP := hpP.mono hleD
              replace hle0 := hle0.trans hleD
              refine withP_cons rfl rfl ?_
              rintro _ rfl
              refine withP_nil rfl ?_
              refine XO.move rfl rfl ?_
              refine XO.nil ?_
              exact stepQN_ok rfl trivial (rfl)
            refine stepsH_cons rfl ?_ ?_
            · intro X ext HD hleD _
              replace hs := hs.mono hleD
              replace h25 := h25.mono hleD
              replace hp36 := hp36.mono hleD
              replace hpR := hpR.mono hleD
              replace hdR := hdR.mono hleD
              replace hpB := hpB.mono hleD
              replace hp72 := hp72.mono hleD
              replace hpP := hpP.mono hleD
              replace hle0 := hle0.trans hleD
              refine withP_cons rfl rfl ?_
              rintro _ rfl
              refine withP_nil rfl ?_
              refine XO.guardF rfl rfl (decide_eq_false hk0) rfl rfl ?_
              refine XO.nil ?_
              exact stepQN_ok rfl trivial (rfl)
            refine stepsH_cons rfl ?_ ?_
            · intro X ext HD hleD _
              replace hs := hs.mono hleD
              replace h25 := h25.mono hleD
              replace hp36 := hp36.mono hleD
              replace hpR := hpR.mono hleD
              replace hdR := hdR.mono hleD
              replace hpB := hpB.mono hleD
              replace hp72 := hp72.mono hleD
              replace hpP := hpP.mono hleD
              replace hle0 := hle0.trans hleD
              refine withP_cons rfl rfl ?_
              rintro _ rfl
              refine withP_nil rfl ?_
              refine XO.guardF rfl rfl (decide_eq_false hk0) rfl rfl ?_
              refine XO.nil ?_
              exact stepQN_ok rfl trivial (rfl)
            refine stepsH_cons rfl ?_ ?_
            · intro X ext HD hleD _
              replace hs := hs.mono hleD
              replace h25 := h25.mono hleD
              replace hp36 := hp36.mono hleD
              replace hpR := hpR.mono hleD
              replace hdR := hdR.mono hleD
              replace hpB := hpB.mono hleD
              replace hp72 := hp72.mono hleD
              replace hpP := hpP.mono hleD
              replace hle0 := hle0.trans hleD
              refine withP_cons rfl rfl ?_
              rintro _ rfl
              refine withP_cons rfl rfl ?_
              rintro _ rfl
              refine withP_nil rfl ?_
              refine XO.guardF rfl rfl (decide_eq_false hk0) rfl rfl ?_
              refine XO.nil ?_
              exact stepQN_ok rfl trivial (rfl)
            refine stepsH_cons rfl ?_ ?_
            · intro X ext HD hleD _
              replace hs := hs.mono hleD
              replace h25 := h25.mono hleD
              replace hp36 := hp36.mono hleD
              replace hpR := hpR.mono hleD
              replace hdR := hdR.mono hleD
              replace hpB := hpB.mono hleD
              replace hp72 := hp72.mono hleD
              replace hpP := hpP.mono hleD
              replace hle0 := hle0.trans hleD
              refine withP_cons rfl rfl ?_
              rintro _ rfl
              refine withP_cons rfl rfl ?_
              rintro _ rfl
              refine withP_cons rfl rfl ?_
              rintro _ rfl
              refine withP_nil rfl ?_
              refine XO.guardF rfl rfl (decide_eq_false hk0) rfl rfl ?_
              refine XO.nil ?_
              exact stepQN_ok rfl trivial (rfl)
            refine stepsH_cons rfl ?_ ?_
            · intro X ext HD hleD _
              replace hs := hs.mono hleD
              replace h25 := h25.mono hleD
              replace hp36 := hp36.mono hleD
              replace hpR := hpR.mono hleD
              replace hdR := hdR.mono hleD
              replace hpB := hpB.mono hleD
              replace hp72 := hp72.mono hleD
              replace hpP := hpP.mono hleD
              replace hle0 := hle0.trans hleD
              refine withP_cons rfl rfl ?_
              rintro _ rfl
              refine withP_cons rfl rfl ?_
              rintro _ rfl
              refine withP_nil rfl ?_
              refine XO.guardF rfl rfl (decide_eq_false hk0) rfl rfl ?_
              refine XO.nil ?_
              exact stepQN_ok rfl trivial (rfl)
            refine stepsH_cons rfl ?_ ?_
            · intro X ext HD hleD _
              replace hs := hs.mono hleD
              replace h25 := h25.mono hleD
              replace hp36 := hp36.mono hleD
              replace hpR := hpR.mono hleD
              replace hdR := hdR.mono hleD
              replace hpB := hpB.mono hleD
              replace hp72 := hp72.mono hleD
              replace hpP := hpP.mono hleD
              replace hle0 := hle0.trans hleD
              refine withP_cons rfl rfl ?_
              rintro _ rfl
              refine withP_cons rfl rfl ?_
              rintro _ rfl
              refine withP_nil rfl ?_
              refine XO.guardF rfl rfl (decide_eq_false hk0) rfl rfl ?_
              refine XO.nil ?_
              exact stepQN_ok rfl trivial (rfl)
            refine stepsH_cons rfl ?_ ?_
            · intro X ext HD hleD _
              replace hs := hs.mono hleD
              replace h25 := h25.mono hleD
              replace hp36 := hp36.mono hleD
              replace hpR := hpR.mono hleD
              replace hdR := hdR.mono hleD
              replace hpB := hpB.mono hleD
              replace hp72 := hp72.mono hleD
              replace hpP := hpP.mono hleD
              replace hle0 := hle0.trans hleD
              refine withP_cons rfl rfl ?_
              rintro _ rfl
              refine withP_nil rfl ?_
              refine XO.guardF rfl rfl (decide_eq_false hk0) rfl rfl ?_
              refine XO.nil ?_
              exact stepQN_ok rfl trivial (rfl)
            refine stepsH_cons rfl ?_ ?_
            · intro X ext HD hleD _
              replace hs := hs.mono hleD
              replace h25 := h25.mono hleD
              replace hp36 := hp36.mono hleD
              replace hpR := hpR.mono hleD
              replace hdR := hdR.mono hleD
              replace hpB := hpB.mono hleD
              replace hp72 := hp72.mono hleD
              replace hpP := hpP.mono hleD
              replace hle0 := hle0.trans hleD
              refine withP_cons rfl rfl ?_
              rintro _ rfl
              refine withP_cons rfl rfl ?_
              rintro _ rfl
              refine withP_nil rfl ?_
              refine XO.guardF rfl rfl (decide_eq_false hk0) rfl rfl ?_
              refine XO.nil ?_
              exact stepQN_ok rfl trivial (rfl)
            refine stepsH_cons rfl ?_ ?_
            · intro X ext HD hleD _
              replace hs := hs.mono hleD
              replace h25 := h25.mono hleD
              replace hp36 := hp36.mono hleD
              replace hpR := hpR.mono hleD
              replace hdR := hdR.mono hleD
              replace hpB := hpB.mono hleD
              replace hp72 := hp72.mono hleD
              replace hpP := hpP.mono hleD
              replace hle0 := hle0.trans hleD
              refine withP_cons rfl rfl ?_
              rintro _ rfl
              refine withP_cons rfl rfl ?_
              rintro _ rfl
              refine withP_cons rfl rfl ?_
              rintro _ rfl
              refine withP_nil rfl ?_
              refine XO.guardF rfl rfl (decide_eq_false hk0) rfl rfl ?_
              refine XO.nil ?_
              exact stepQN_ok rfl trivial (rfl)
            refine stepsH_cons rfl ?_ ?_
            · intro X ext HD hleD _
              replace hs := hs.mono hleD
              replace h25 := h25.mono hleD
              replace hp36 := hp36.mono hleD
              replace hpR := hpR.mono hleD
              replace hdR := hdR.mono hleD
              replace hpB := hpB.mono hleD
              replace hp72 := hp72.mono hleD
              replace hpP := hpP.mono hleD
              replace hle0 := hle0.trans hleD
              refine withP_cons rfl rfl ?_
              rintro _ rfl
              refine withP_cons rfl rfl ?_
              rintro _ rfl
              refine withP_nil rfl ?_
              refine XO.guardF rfl rfl (decide_eq_false hk0) rfl rfl ?_
              refine XO.nil ?_
              exact stepQN_ok rfl trivial (rfl)
            refine stepsH_cons rfl ?_ ?_
            · intro X ext HD hleD _
              replace hs := hs.mono hleD
              replace h25 := h25.mono hleD
              replace hp36 := hp36.mono hleD
              replace hpR := hpR.mono hleD
              replace hdR := hdR.mono hleD
              replace hpB := hpB.mono hleD
              replace hp72 := hp72.mono hleD
              replace hpP := hpP.mono hleD
              replace hle0 := hle0.trans hleD
              refine withP_cons rfl rfl ?_
              rintro _ rfl
              refine withP_nil rfl ?_
              refine XO.guardU rfl rfl rfl rfl ?_
              refine XO.nil ?_
              exact stepQN_ok rfl trivial (rfl)
            refine stepsH_cons rfl ?_ ?_
            · intro X ext HD hleD _
              replace hs := hs.mono hleD
              replace h25 := h25.mono hleD
              replace hp36 := hp36.mono hleD
              replace hpR := hpR.mono hleD
              replace hdR := hdR.mono hleD
              replace hpB := hpB.mono hleD
              replace hp72 := hp72.mono hleD
              replace hpP := hpP.mono hleD
              replace hle0 := hle0.trans hleD
              refine withP_cons rfl rfl ?_
              rintro _ rfl
              refine withP_nil rfl ?_
              refine XO.guardU rfl rfl rfl rfl ?_
              refine XO.nil ?_
              exact stepQN_ok rfl trivial (rfl)
            refine stepsH_cons rfl ?_ ?_
            · intro X ext HD hleD _
              replace hs := hs.mono hleD
              replace h25 := h25.mono hleD
              replace hp36 := hp36.mono hleD
              replace hpR := hpR.mono hleD
              replace hdR := hdR.mono hleD
              replace hpB := hpB.mono hleD
              replace hp72 := hp72.mono hleD
              replace hpP := hpP.mono hleD
              replace hle0 := hle0.trans hleD
              refine withP_cons rfl rfl ?_
              rintro _ rfl
              refine withP_cons rfl rfl ?_
              rintro _ rfl
              refine withP_nil rfl ?_
              refine XO.guardU rfl rfl rfl rfl ?_
              refine XO.nil ?_
              exact stepQN_ok rfl trivial (rfl)
            refine stepsH_cons rfl ?_ ?_
            · intro X ext HD hleD _
              replace hs := hs.mono hleD
              replace h25 := h25.mono hleD
              replace hp36 := hp36.mono hleD
              replace hpR := hpR.mono hleD
              replace hdR := hdR.mono hleD
              replace hpB := hpB.mono hleD
              replace hp72 := hp72.mono hleD
              replace hpP := hpP.mono hleD
              replace hle0 := hle0.trans hleD
              refine withP_cons rfl rfl ?_
              rintro _ rfl
              refine withP_cons rfl rfl ?_
              rintro _ rfl
              refine withP_cons rfl rfl ?_
              rintro _ rfl
              refine withP_nil rfl ?_
              refine XO.guardU rfl rfl rfl rfl ?_
              refine XO.nil ?_
              exact stepQN_ok rfl trivial (rfl)
            refine stepsH_cons rfl ?_ ?_
            · intro X ext HD hleD _
              replace hs := hs.mono hleD
              replace h25 := h25.mono hleD
              replace hp36 := hp36.mono hleD
              replace hpR := hpR.mono hleD
              replace hdR := hdR.mono hleD
              replace hpB := hpB.mono hleD
              replace hp72 := hp72.mono hleD
              replace hpP := hpP.mono hleD
              replace hle0 := hle0.trans hleD
              refine withP_cons rfl rfl ?_
              rintro _ rfl
              refine withP_cons rfl rfl ?_
              rintro _ rfl
              refine withP_nil rfl ?_
              refine XO.guardU rfl rfl rfl rfl ?_
              refine XO.nil ?_
              exact stepQN_ok rfl trivial (rfl)
            refine stepsH_cons rfl ?_ ?_
            · intro X ext HD hleD _
              replace hs := hs.mono hleD
              replace h25 := h25.mono hleD
              replace hp36 := hp36.mono hleD
              replace hpR := hpR.mono hleD
              replace hdR := hdR.mono hleD
              replace hpB := hpB.mono hleD
              replace hp72 := hp72.mono hleD
              replace hpP := hpP.mono hleD
              replace hle0 := hle0.trans hleD
              refine withP_cons rfl rfl ?_
              rintro _ rfl
              refine withP_cons rfl rfl ?_
              rintro _ rfl
              refine withP_nil rfl ?_
              refine XO.guardU rfl rfl rfl rfl ?_
              refine XO.nil ?_
              exact stepQN_ok rfl trivial (rfl)
            refine stepsH_cons rfl ?_ ?_
            · intro X ext HD hleD _
              replace hs := hs.mono hleD
              replace h25 := h25.mono hleD
              replace hp36 := hp36.mono hleD
              replace hpR := hpR.mono hleD
              replace hdR := hdR.mono hleD
              replace hpB := hpB.mono hleD
              replace hp72 := hp72.mono hleD
              replace hpP := hpP.mono hleD
              replace hle0 := hle0.trans hleD
              refine withP_cons rfl rfl ?_
              rintro _ rfl
              refine withP_nil rfl ?_
              refine XO.guardU rfl rfl rfl rfl ?_
              refine XO.nil ?_
              exact stepQN_ok rfl trivial (rfl)
            refine stepsH_cons rfl ?_ ?_
            · intro X ext HD hleD _
              replace hs := hs.mono hleD
              replace h25 := h25.mono hleD
              replace hp36 := hp36.mono hleD
              replace hpR := hpR.mono hleD
              replace hdR := hdR.mono hleD
              replace hpB := hpB.mono hleD
              replace hp72 := hp72.mono hleD
              replace hpP := hpP.mono hleD
              replace hle0 := hle0.trans hleD
              refine withP_cons rfl rfl ?_
              rintro _ rfl
              refine withP_cons rfl rfl ?_
              rintro _ rfl
              refine withP_nil rfl ?_
              refine XO.guardU rfl rfl rfl rfl ?_
              refine XO.nil ?_
              exact stepQN_ok rfl trivial (rfl)
            refine stepsH_cons rfl ?_ ?_
            · intro X ext HD hleD _
              replace hs := hs.mono hleD
              replace h25 := h25.mono hleD
              replace hp36 := hp36.mono hleD
              replace hpR := hpR.mono hleD
              replace hdR := hdR.mono hleD
              replace hpB := hpB.mono hleD
              replace hp72 := hp72.mono hleD
              replace hpP := hpP.mono hleD
              replace hle0 := hle0.trans hleD
              refine withP_cons rfl rfl ?_
              rintro _ rfl
              refine withP_cons rfl rfl ?_
              rintro _ rfl
              refine withP_cons rfl rfl ?_
              rintro _ rfl
              refine withP_nil rfl ?_
              refine XO.guardU rfl rfl rfl rfl ?_
              refine XO.nil ?_
              exact stepQN_ok rfl trivial (rfl)
            refine stepsH_cons rfl ?_ ?_
            · intro X ext HD hleD _
              replace hs := hs.mono hleD
              replace h25 := h25.mono hleD
              replace hp36 := hp36.mono hleD
              replace hpR := hpR.mono hleD
              replace hdR := hdR.mono hleD
              replace hpB := hpB.mono hleD
              replace hp72 := hp72.mono hleD
              replace hpP := hpP.mono hleD
              replace hle0 := hle0.trans hleD
              refine withP_cons rfl rfl ?_
              rintro _ rfl
              refine withP_cons rfl rfl ?_
              rintro _ rfl
              refine withP_nil rfl ?_
              refine XO.guardU rfl rfl rfl rfl ?_
              refine XO.nil ?_
              exact stepQN_ok rfl trivial (rfl)
            refine stepsH_cons rfl ?_ ?_
            · intro X ext HD hleD _
              replace hs := hs.mono hleD
              replace h25 := h25.mono hleD
              replace hp36 := hp36.mono hleD
              replace hpR := hpR.mono hleD
              replace hdR := hdR.mono hleD
              replace hpB := hpB.mono hleD
              replace hp72 := hp72.mono hleD
              replace hpP := hpP.mono hleD
              replace hle0 := hle0.trans hleD
              refine withP_cons rfl rfl ?_
              rintro _ rfl
              refine withP_nil rfl ?_
              refine XO.guardU rfl rfl rfl rfl ?_
              refine XO.nil ?_
              exact stepQN_ok rfl trivial (rfl)
            refine stepsH_cons rfl ?_ ?_
            · intro X ext HD hleD _
              replace hs := hs.mono hleD
              replace h25 := h25.mono hleD
              replace hp36 := hp36.mono hleD
              replace hpR := hpR.mono hleD
              replace hdR := hdR.mono hleD
              replace hpB := hpB.mono hleD
              replace hp72 := hp72.mono hleD
              replace hpP := hpP.mono hleD
              replace hle0 := hle0.trans hleD
              refine withP_cons rfl rfl ?_
              rintro _ rfl
              refine withP_nil rfl ?_
              refine XO.guardU rfl rfl rfl rfl ?_
              refine XO.nil ?_
              exact stepQN_ok rfl trivial (rfl)
            refine stepsH_cons rfl ?_ ?_
            · intro X ext HD hleD _
              replace hs := hs.mono hleD
              replace h25 := h25.mono hleD
              replace hp36 := hp36.mono hleD
              replace hpR := hpR.mono hleD
              replace hdR := hdR.mono hleD
              replace hpB := hpB.mono hleD
              replace hp72 := hp72.mono hleD
              replace hpP := hpP.mono hleD
              replace hle0 := hle0.trans hleD
              refine withP_cons rfl rfl ?_
              rintro _ rfl
              refine withP_cons rfl rfl ?_
              rintro _ rfl
              refine withP_nil rfl ?_
              refine XO.guardU rfl rfl rfl rfl ?_
              refine XO.nil ?_
              exact stepQN_ok rfl trivial (rfl)
            refine stepsH_cons rfl ?_ ?_
            · intro X ext HD hleD _
              replace hs := hs.mono hleD
              replace h25 := h25.mono hleD
              replace hp36 := hp36.mono hleD
              replace hpR := hpR.mono hleD
              replace hdR := hdR.mono hleD
              replace hpB := hpB.mono hleD
              replace hp72 := hp72.mono hleD
              replace hpP := hpP.mono hleD
              replace hle0 := hle0.trans hleD
              refine withP_cons rfl rfl ?_
              rintro _ rfl
              refine withP_cons rfl rfl ?_
              rintro _ rfl
              refine withP_cons rfl rfl ?_
              rintro _ rfl
              refine withP_nil rfl ?_
              refine XO.guardU rfl rfl rfl rfl ?_
              refine XO.nil ?_
              exact stepQN_ok rfl trivial (rfl)
            refine stepsH_cons rfl ?_ ?_
            · intro X ext HD hleD _
              replace hs := hs.mono hleD
              replace h25 := h25.mono hleD
              replace hp36 := hp36.mono hleD
              replace hpR := hpR.mono hleD
              replace hdR := hdR.mono hleD
              replace hpB := hpB.mono hleD
              replace hp72 := hp72.mono hleD
              replace hpP := hpP.mono hleD
              replace hle0 := hle0.trans hleD
              refine withP_cons rfl rfl ?_
              rintro _ rfl
              refine withP_cons rfl rfl ?_
              rintro _ rfl
              refine withP_nil rfl ?_
              refine XO.guardU rfl rfl rfl rfl ?_
              refine XO.nil ?_
              exact stepQN_ok rfl trivial (rfl)
            refine stepsH_cons rfl ?_ ?_
            · intro X ext HD hleD _
              replace hs := hs.mono hleD
              replace h25 := h25.mono hleD
              replace hp36 := hp36.mono hleD
              replace hpR := hpR.mono hleD
              replace hdR := hdR.mono hleD
              replace hpB := hpB.mono hleD
              replace hp72 := hp72.mono hleD
              replace hpP := hpP.mono hleD
              replace hle0 := hle0.trans hleD
              refine withP_cons rfl rfl ?_
              rintro _ rfl
              refine withP_cons rfl rfl ?_
              rintro _ rfl
              refine withP_nil rfl ?_
              refine XO.guardU rfl rfl rfl rfl ?_
              refine XO.nil ?_
              exact stepQN_ok rfl trivial (rfl)
            refine stepsH_cons rfl ?_ ?_
            · intro X ext HD hleD _
              replace hs := hs.mono hleD
              replace h25 := h25.mono hleD
              replace hp36 := hp36.mono hleD
              replace hpR := hpR.mono hleD
              replace hdR := hdR.mono hleD
              replace hpB := hpB.mono hleD
              replace hp72 := hp72.mono hleD
              replace hpP := hpP.mono hleD
              replace hle0 := hle0.trans hleD
              refine withP_cons rfl rfl ?_
              rintro _ rfl
              refine withP_nil rfl ?_
              refine XO.guardU rfl rfl rfl rfl ?_
              refine XO.nil ?_
              exact stepQN_ok rfl trivial (rfl)
            refine stepsH_cons rfl ?_ ?_
            · intro X ext HD hleD _
              replace hs := hs.mono hleD
              replace h25 := h25.mono hleD
              replace hp36 := hp36.mono hleD
              replace hpR := hpR.mono hleD
              replace hdR := hdR.mono hleD
              replace hpB := hpB.mono hleD
              replace hp72 := hp72.mono hleD
              replace hpP := hpP.mono hleD
              replace hle0 := hle0.trans hleD
              refine withP_cons rfl rfl ?_
              rintro _ rfl
              refine withP_cons rfl rfl ?_
              rintro _ rfl
              refine withP_nil rfl ?_
              refine XO.guardU rfl rfl rfl rfl ?_
              refine XO.nil ?_
              exact stepQN_ok rfl trivial (rfl)
            exact stepsH_end rfl
          case tail23 =>
            intro HD hleD _
            replace hs := hs.mono hleD
            replace h25 := h25.mono hleD
            replace hp36 := hp36.mono hleD
            replace hpR := hpR.mono hleD
            replace hdR := hdR.mono hleD
            replace hpB := hpB.mono hleD
            replace hp72 := hp72.mono hleD
            replace hpP := hpP.mono hleD
            replace hle0 := hle0.trans hleD
            refine withP_cons rfl rfl ?_
            rintro _ rfl
            refine withP_cons rfl rfl ?_
            rintro _ rfl
            refine withP_cons rfl rfl ?_
            rintro _ rfl
            refine withP_cons rfl rfl ?_
            rintro _ rfl
            refine withP_cons rfl rfl ?_
            rintro _ rfl
            refine withP_cons rfl rfl ?_
            rintro _ rfl
            refine withP_cons rfl rfl ?_
            rintro _ rfl
            refine withP_cons rfl rfl ?_
            rintro _ rfl
            refine withP_cons rfl rfl ?_
            rintro _ rfl
            refine withP_cons rfl rfl ?_
            rintro _ rfl
            refine withP_cons rfl rfl ?_
            rintro _ rfl
            refine withP_cons rfl rfl ?_
            rintro _ rfl
            refine withP_cons rfl rfl ?_
            rintro _ rfl
            refine withP_cons rfl rfl ?_
            rintro _ rfl
            refine withP_cons rfl rfl ?_
            rintro _ rfl
            refine withP_cons rfl rfl ?_
            rintro _ rfl
            refine withP_cons rfl rfl ?_
            rintro _ rfl
            refine withP_cons rfl rfl ?_
            rintro _ rfl
            refine withP_cons rfl rfl ?_
            rintro _ rfl
            refine withP_cons rfl rfl ?_
            rintro _ rfl
            refine withP_cons rfl rfl ?_
            rintro _ rfl
            refine withP_cons rfl rfl ?_
            rintro _ rfl
            refine withP_cons rfl rfl ?_
            rintro _ rfl
            refine withP_cons rfl rfl ?_
            rintro _ rfl
            refine withP_cons rfl rfl ?_
            rintro _ rfl
            refine withP_cons rfl rfl ?_
            rintro _ rfl
            refine withP_cons rfl rfl ?_
            rintro _ rfl
            refine withP_cons rfl rfl ?_
            rintro _ rfl
            refine withP_cons rfl rfl ?_
            rintro _ rfl
            refine withP_cons rfl rfl ?_
            rintro _ rfl
            refine withP_cons rfl rfl ?_
            rintro _ rfl
            refine withP_nil rfl ?_
            refine withEnts_nil ?_
            refine XO.guardU rfl rfl rfl rfl ?_
            refine XO.guardU rfl rfl rfl rfl ?_
            refine XO.guardF rfl rfl (decide_eq_false hk0) rfl rfl ?_
            refine XO.pickF rfl (decide_eq_false hk0) rfl rfl ?_
            refine XO.nil ?_
            refine XC.seq2 ?_
            refine XC.condF rfl (rfl) ?_
            refine XC.skip ?_
            refine blockN ?_
            refine XC.seq2 ?_
            refine XC.region ?_
            refine XO.add rfl rfl (wrap_i64 (by omega) (by omega)) rfl ?_
            refine XO.move rfl rfl ?_
            refine XO.nil ?_
            refine loop_next (k + 1) (by show (trL m).length - (k + 1) < (trL m).length - k; omega) (prov_cons (rfl) (prov_cons (rfl) (prov_cons (rfl) (prov_cons (rfl) (prov_cons (rfl) (prov_cons (rfl) (prov_cons (rfl) prov_nil))))))) (⟨by show k + 1 ≤ (trL m).length; omega, rfl⟩) (by repeat (first | exact List.Sublist.refl _ | apply List.Sublist.cons_cons | apply List.Sublist.cons)) (hle0)
    · refine XC.exit ?_
      refine seqX_exit ?_
      refine loopX_exit ?_
      refine blockHit rfl ?_
      refine XC.seq2 ?_
      refine XC.seq ?_
      refine XC.region ?_
      obtain ⟨q0, q1, _⟩ := alone_tr hok (List.Sublist.refl (treeE m))
      have q2 := (alone_marks (tree_in hok (List.Sublist.refl (treeE m)))).len
      refine XO.move rfl rfl ?_
      refine XO.move rfl rfl ?_
      have hcall115 := alone_fn _ _ _ _ m (treeE m) _ _ hs h25 hte hok (fun e he => treeE_lt hok he) (by omega)
      refine XO.callH rfl hcall115 rfl ?_
      rintro _ HW115 hleW115 ⟨aW115, cW115, rfl, hW115⟩
      replace hs := hs.mono hleW115
      replace h25 := h25.mono hleW115
      replace hle0 := hle0.trans hleW115
      have hcall116 := tree_u _ _ (aloneM m (treeE m)) _ hW115 (by omega)
      refine XO.callH rfl hcall116 rfl ?_
      rintro _ HT116 hleT116 ⟨a116, c116, h116, rfl⟩
      replace hs := hs.mono hleT116
      replace h25 := h25.mono hleT116
      replace hW115 := hW115.mono hleT116
      replace hle0 := hle0.trans hleT116
      refine XO.move rfl rfl ?_
      refine XO.extract rfl rfl rfl ?_
      refine XO.extract rfl rfl rfl ?_
      refine XO.extract rfl rfl rfl ?_
      refine XO.assign rfl rfl ?_
      refine XO.assign rfl rfl ?_
      refine XO.assign rfl rfl ?_
      refine XO.nil ?_
      refine XC.seq2 ?_
      refine XC.seq ?_
      refine XC.seq ?_
      refine XC.region ?_
      refine XO.move rfl rfl ?_
      refine XO.neq rfl rfl rfl ?_
      refine XO.move rfl rfl ?_
      refine XO.guardT rfl rfl (decide_eq_false (by omega)) rfl ?_
      refine XO.move rfl rfl ?_
      refine XO.guardT rfl rfl (decide_eq_false (by omega)) rfl ?_
      refine XO.move rfl rfl ?_
      refine XO.guardT rfl rfl (decide_eq_false (by omega)) rfl ?_
      refine XO.callV rfl (same_fn _ _ _ _ (trL (aloneM m (treeE m))) (trL m) _ h116 h25 (by rw [q1]; simp; omega)) rfl ?_
      refine XO.guardT rfl rfl (decide_eq_false (by omega)) rfl ?_
      refine XO.not rfl rfl ?_
      refine XO.pickF rfl (decide_eq_false (by omega)) rfl rfl ?_
      refine XO.move rfl rfl ?_
      refine XO.guardT rfl rfl (decide_eq_false (fun h => h (q1.trans hte.symm))) rfl ?_
      refine XO.move rfl rfl ?_
      refine XO.guardT rfl rfl (decide_eq_false (fun h => h (q1.trans hte.symm))) rfl ?_
      refine XO.move rfl rfl ?_
      refine XO.guardT rfl rfl (decide_eq_false (fun h => h (q1.trans hte.symm))) rfl ?_
      refine XO.neqB rfl rfl Try.underlying4 rfl ?_
      refine XO.pickF rfl (decide_eq_false (fun h => h (q1.trans hte.symm))) rfl rfl ?_
      refine XO.nil ?_
      refine XC.seq2 ?_
      refine XC.condF rfl (alone_not hok) ?_
      refine XC.skip ?_
      refine XC.seq2 ?_
      refine XC.seq ?_
      refine XC.seq ?_
      refine XC.region ?_
      refine XO.move rfl rfl ?_
      refine XO.lenS (ts := #[]) rfl Try.underlying25 rfl ?_
      refine XO.eql rfl rfl rfl ?_
      refine XO.nil ?_
      refine XC.seq2 ?_
      refine XC.cond rfl (fun c7_27 => ?_) (fun c7_27 => ?_)
      · refine XC.seq ?_
        refine XC.region ?_
        refine XO.assign rfl rfl ?_
        refine XO.nil ?_
        refine XC.seq2 ?_
        refine XC.ret ?_
        refine seqX_ret ?_
        refine ⟨rfl, _, [], rfl, (by repeat (first | exact List.Sublist.refl _ | apply List.Sublist.cons)), RetR.mk ?_⟩
        first | rfl | exact congrArg Value.bool (decide_eq_true (alone_less hok (by omega)))
      · have hc7 : 0 < (trL m).length := by omega
        refine XC.skip ?_
        refine XC.seq2 ?_
        refine XC.seq ?_
        refine XC.region ?_
        refine XO.move rfl rfl ?_
        refine XO.convI rfl Try.underlying5 Try.underlying3 (wrap_i64 (by omega) (by omega)) rfl ?_
        refine XO.move rfl rfl ?_
        refine XO.lenS (ts := #[]) rfl Try.underlying25 rfl ?_
        obtain ⟨k0, hk⟩ : ∃ k0 : Nat, at_ % ((trL m).length : Int) = k0 := ⟨_, (Int.toNat_of_nonneg (Int.emod_nonneg _ (by omega))).symm⟩
        have hkl : k0 < (trL m).length := by have := Int.emod_lt_of_pos at_ (show 0 < ((trL m).length : Int) by omega); omega
        refine XO.rem (c := (k0 : Int)) rfl rfl (by omega) (by rw [rem_nn (by omega)]; exact hk) rfl ?_
        refine XO.assign rfl rfl ?_
        refine XO.nil ?_
        refine XC.seq2 ?_
        refine XC.seq ?_
        have hqle := h25.le
        by_cases hk0 : k0 = 0
        · skip
          refine XC.keep [0, 5, 13] rfl ?_
          apply XC.drawG (fun _ => True) trivial 9 [slCap pairR [], eqF _, eqF _, slG pairR ((trL m).take k0), slCap pairR ((trL m).take k0), eqF _, eqF _, eqF _, slG pairR ((trL m).drop (k0 + 1))] follows (by kernel_rfl) (by kernel_rfl) ⟨slCap_mono _ _, eqF_mono _, eqF_mono _, slG_mono _ _, slCap_mono _ _, eqF_mono _, eqF_mono _, eqF_mono _, slG_mono _ _, trivial⟩ ?steps29 ?tail29
          case steps29 =>
            refine stepsD_cons rfl ?_ ?_
            · intro X HD hleD _
              replace hs := hs.mono hleD
              replace h25 := h25.mono hleD
              replace hW115 := hW115.mono hleD
              replace h116 := h116.mono hleD
              replace hle0 := hle0.trans hleD
              refine withPreds_nil rfl ?_
              refine XO.buildSlice rfl Try.underlying25 ty_41 ze_41 rfl rfl rfl (fun b141 => ?_)
              refine XO.publish 0 rfl rfl rfl (fun HP141 oP141 hleP141 hbP141 hoP141 => ?_)
              have hsl141 := SlR.lit (ρ := pairR) (l := []) hbP141 hoP141 rfl
              replace hs := hs.mono hleP141
              replace h25 := h25.mono hleP141
              replace hW115 := hW115.mono hleP141
              replace h116 := h116.mono hleP141
              replace hle0 := hle0.trans hleP141
              refine XO.nil ?_
              exact stepQ_ok trivial (⟨_, _, rfl, hsl141, by simp⟩)
            refine stepsD_cons rfl ?_ ?_
            · intro X HD hleD _
              replace hs := hs.mono hleD
              replace h25 := h25.mono hleD
              replace hW115 := hW115.mono hleD
              replace h116 := h116.mono hleD
              replace hle0 := hle0.trans hleD
              refine withPreds_nil rfl ?_
              refine XO.move rfl rfl ?_
              refine XO.nil ?_
              exact stepQ_ok trivial (rfl)
            refine stepsD_cons rfl ?_ ?_
            · intro X HD hleD _
              replace hs := hs.mono hleD
              replace h25 := h25.mono hleD
              replace hW115 := hW115.mono hleD
              replace h116 := h116.mono hleD
              replace hle0 := hle0.trans hleD
              refine withPreds_nil rfl ?_
              refine XO.move rfl rfl ?_
              refine XO.nil ?_
              exact stepQ_ok trivial (rfl)
            refine stepsD_cons rfl ?_ ?_
            · intro X HD hleD _
              replace hs := hs.mono hleD
              replace h25 := h25.mono hleD
              replace hW115 := hW115.mono hleD
              replace h116 := h116.mono hleD
              replace hle0 := hle0.trans hleD
              refine withPreds_cons rfl rfl ?_
              rintro _ rfl
              refine withPreds_cons rfl rfl ?_
              rintro _ rfl
              refine withPreds_nil rfl ?_
              refine XO.slice (lo' := 0) (hi' := (k0 : Int)) (m' := (c25 : Int)) rfl h25 ev?_none (ev?_some rfl) ev?_none (by simp) (by omega) (by omega) (by omega) (by omega) (by omega) Try.underlying25 ty_41 rfl (fun as144 ls144 hls144 hss144 => ?_)
              obtain rfl : ls144 = (trL m).take k0 := by first | (rw [hls144]; simp; done) | (rw [hls144]; simp; rw [List.take_of_length_le (by simp)])
              refine XO.nil ?_
              exact stepQ_ok trivial (⟨_, _, rfl, hss144⟩)
            refine stepsD_cons rfl ?_ ?_
            · intro X HD hleD _
              replace hs := hs.mono hleD
              replace h25 := h25.mono hleD
              replace hW115 := hW115.mono hleD
              replace h116 := h116.mono hleD
              replace hle0 := hle0.trans hleD
              refine withPreds_cons rfl rfl ?_
              rintro _ ⟨a141, c141, rfl, hsl141, hcap141⟩
              refine withPreds_cons rfl rfl ?_
              rintro _ ⟨a144, c144, rfl, hsl144⟩
              refine withPreds_nil rfl ?_
              refine XO.append0 rfl rfl (by first | rfl | (rw [hk0]; rfl)) hsl141.le Try.underlying25 ty_41 rfl ?_
              refine XO.nil ?_
              exact stepQ_ok trivial (⟨_, _, by first | rfl | (rw [hk0]; rfl), by first | exact hsl141 | (rw [hk0]; exact hsl141), by first | exact hcap141 | (rw [hk0]; exact hcap141)⟩)
            refine stepsD_cons rfl ?_ ?_
            · intro X HD hleD _
              replace hs := hs.mono hleD
              replace h25 := h25.mono hleD
              replace hW115 := hW115.mono hleD
              replace h116 := h116.mono hleD
              replace hle0 := hle0.trans hleD
              refine withPreds_nil rfl ?_
              refine XO.move rfl rfl ?_
              refine XO.nil ?_
              exact stepQ_ok trivial (rfl)
            refine stepsD_cons rfl ?_ ?_
            · intro X HD hleD _
              replace hs := hs.mono hleD
              replace h25 := h25.mono hleD
              replace hW115 := hW115.mono hleD
              replace h116 := h116.mono hleD
              replace hle0 := hle0.trans hleD
              refine withPreds_nil rfl ?_
              refine XO.move rfl rfl ?_
              refine XO.nil ?_
              exact stepQ_ok trivial (rfl)
            refine stepsD_cons rfl ?_ ?_
            · intro X HD hleD _
              replace hs := hs.mono hleD
              replace h25 := h25.mono hleD
              replace hW115 := hW115.mono hleD
              replace h116 := h116.mono hleD
              replace hle0 := hle0.trans hleD
              refine withPreds_cons rfl rfl ?_
              rintro _ rfl
              refine withPreds_nil rfl ?_
              refine XO.add rfl rfl (wrap_i64 (by omega) (by omega)) rfl ?_
              refine XO.nil ?_
              exact stepQ_ok trivial (rfl)
            refine stepsD_cons rfl ?_ ?_
            · intro X HD hleD _
              replace hs := hs.mono hleD
              replace h25 := h25.mono hleD
              replace hW115 := hW115.mono hleD
              replace h116 := h116.mono hleD
              replace hle0 := hle0.trans hleD
              refine withPreds_cons rfl rfl ?_
              rintro _ rfl
              refine withPreds_cons rfl rfl ?_
              rintro _ rfl
              refine withPreds_nil rfl ?_
              refine XO.slice (lo' := (k0 : Int) + 1) (hi' := ((trL m).length : Int)) (m' := (c25 : Int)) rfl h25 (ev?_some rfl) ev?_none ev?_none (by simp) (by omega) (by omega) (by omega) (by omega) (by omega) Try.underlying25 ty_41 rfl (fun as149 ls149 hls149 hss149 => ?_)
              obtain rfl : ls149 = (trL m).drop (k0 + 1) := by first | (rw [hls149]; simp; done) | (rw [hls149]; simp; rw [List.take_of_length_le (by simp)])
              refine XO.nil ?_
              exact stepQ_ok trivial (⟨_, _, rfl, hss149⟩)
            exact stepsD_end rfl
          case tail29 =>
            intro HD hleD _
            replace hs := hs.mono hleD
            replace h25 := h25.mono hleD
            replace hW115 := hW115.mono hleD
            replace h116 := h116.mono hleD
            replace hle0 := hle0.trans hleD
            refine withPreds_cons rfl rfl ?_
            rintro _ ⟨a141, c141, rfl, hsl141, hcap141⟩
            refine withPreds_cons rfl rfl ?_
            rintro _ rfl
            refine withPreds_cons rfl rfl ?_
            rintro _ rfl
            refine withPreds_cons rfl rfl ?_
            rintro _ ⟨a144, c144, rfl, hsl144⟩
            refine withPreds_cons rfl rfl ?_
            rintro _ ⟨a145, c145, rfl, hsl145, hcap145⟩
            refine withPreds_cons rfl rfl ?_
            rintro _ rfl
            refine withPreds_cons rfl rfl ?_
            rintro _ rfl
            refine withPreds_cons rfl rfl ?_
            rintro _ rfl
            refine withPreds_cons rfl rfl ?_
            rintro _ ⟨a149, c149, rfl, hsl149⟩
            refine withPreds_nil rfl ?_
            refine XO.appendP rfl hsl145 rfl rfl hsl149 rfl (by exact hcap145) Try.underlying25 ty_41 ze_41 rfl by_41 (by simp; omega) rfl (fun HA150 aA150 cA150 hleA150 hsA150 => ?_)
            replace hs := hs.mono hleA150
            replace h25 := h25.mono hleA150
            replace hW115 := hW115.mono hleA150
            replace h116 := h116.mono hleA150
            replace hsl141 := hsl141.mono hleA150
            replace hsl144 := hsl144.mono hleA150
            replace hsl145 := hsl145.mono hleA150
            replace hsl149 := hsl149.mono hleA150
            replace hle0 := hle0.trans hleA150
            refine XO.assign rfl rfl ?_
            refine XO.nil ?_
            refine XC.seq2 ?_
            refine XC.seq ?_
            refine XC.region ?_
            obtain ⟨r0, r1, _⟩ := alone_tr hok (List.eraseIdx_sublist (treeE m) k0)
            have r2 := (alone_marks (tree_in hok (List.eraseIdx_sublist (treeE m) k0))).len
            have r3 := (List.eraseIdx_sublist (treeE m) k0).length_le
            refine XO.move rfl rfl ?_
            refine XO.move rfl rfl ?_
            have hcall154 := alone_fn _ _ _ _ m ((treeE m).eraseIdx k0) _ _ hs hsA150 (less_list hok k0) hok (fun e he => treeE_lt hok ((List.eraseIdx_sublist _ _).subset he)) (by have := (List.eraseIdx_sublist (treeE m) k0).length_le; omega)
            refine XO.callH rfl hcall154 rfl ?_
            rintro _ HW154 hleW154 ⟨aW154, cW154, rfl, hW154⟩
            replace hs := hs.mono hleW154
            replace h25 := h25.mono hleW154
            replace hW115 := hW115.mono hleW154
            replace h116 := h116.mono hleW154
            replace hsl141 := hsl141.mono hleW154
            replace hsl144 := hsl144.mono hleW154
            replace hsl145 := hsl145.mono hleW154
            replace hsl149 := hsl149.mono hleW154
            replace hsA150 := hsA150.mono hleW154
            replace hle0 := hle0.trans hleW154
            have hcall155 := tree_u _ _ (aloneM m ((treeE m).eraseIdx k0)) _ hW154 (by omega)
            refine XO.callH rfl hcall155 rfl ?_
            rintro _ HT155 hleT155 ⟨a155, c155, h155, rfl⟩
            replace hs := hs.mono hleT155
            replace h25 := h25.mono hleT155
            replace hW115 := hW115.mono hleT155
            replace h116 := h116.mono hleT155
            replace hsl141 := hsl141.mono hleT155
            replace hsl144 := hsl144.mono hleT155
            replace hsl145 := hsl145.mono hleT155
            replace hsl149 := hsl149.mono hleT155
            replace hsA150 := hsA150.mono hleT155
            replace hW154 := hW154.mono hleT155
            replace hle0 := hle0.trans hleT155
            refine XO.move rfl rfl ?_
            refine XO.extract rfl rfl rfl ?_
            refine XO.extract rfl rfl rfl ?_
            refine XO.extract rfl rfl rfl ?_
            refine XO.assign rfl rfl ?_
            refine XO.assign rfl rfl ?_
            refine XO.assign rfl rfl ?_
            refine XO.nil ?_
            refine XC.seq2 ?_
            refine XC.seq ?_
            refine XC.region ?_
            refine XO.move rfl rfl ?_
            refine XO.eql rfl rfl rfl ?_
            refine XO.move rfl rfl ?_
            refine XO.guardT rfl rfl (decide_eq_true r0) rfl ?_
            refine XO.move rfl rfl ?_
            refine XO.guardT rfl rfl (decide_eq_true r0) rfl ?_
            refine XO.move rfl rfl ?_
            refine XO.guardT rfl rfl (decide_eq_true r0) rfl ?_
            refine XO.callV rfl (same_fn _ _ _ _ (trL (aloneM m ((treeE m).eraseIdx k0))) (((trL m).take k0) ++ ((trL m).drop (k0 + 1))) _ h155 hsA150 (by rw [r1, List.length_map]; omega)) rfl ?_
            refine XO.pickT rfl (decide_eq_true r0) rfl rfl ?_
            refine XO.move rfl rfl ?_
            refine XO.guardT rfl rfl (decide_eq_true (r1.trans (less_list hok k0).symm)) rfl ?_
            refine XO.move rfl rfl ?_
            refine XO.guardT rfl rfl (decide_eq_true (r1.trans (less_list hok k0).symm)) rfl ?_
            refine XO.not rfl rfl ?_
            refine XO.pickT rfl (decide_eq_true (r1.trans (less_list hok k0).symm)) rfl rfl ?_
            refine XO.assign rfl rfl ?_
            refine XO.nil ?_
            refine XC.seq2 ?_
            refine XC.ret ?_
            refine ⟨rfl, _, [], rfl, (by repeat (first | exact List.Sublist.refl _ | apply List.Sublist.cons)), RetR.mk ?_⟩
            first | rfl | exact congrArg Value.bool (decide_eq_true (alone_less hok (by omega)))
        · skip
          refine XC.keep [0, 5, 13] rfl ?_
          apply XC.drawH (fun _ => True) trivial [4] (by decide) (ownF pairR 41 ((trL m).take k0)) (ownF_mono _ _ _) 9 [slF pairR [], eqF _, eqF _, slG pairR ((trL m).take k0), anyF, eqF _, eqF _, eqF _, slG pairR ((trL m).drop (k0 + 1))] follows (by kernel_rfl) ⟨slF_mono _ _, eqF_mono _, eqF_mono _, slG_mono _ _, anyF_mono, eqF_mono _, eqF_mono _, eqF_mono _, slG_mono _ _, trivial⟩ (by decide) ?steps35 ?tail35
          case steps35 =>
            refine stepsH_cons rfl ?_ ?_
            · intro X ext HD hleD _
              replace hs := hs.mono hleD
              replace h25 := h25.mono hleD
              replace hW115 := hW115.mono hleD
              replace h116 := h116.mono hleD
              replace hle0 := hle0.trans hleD
              refine withP_nil rfl ?_
              refine XO.buildSlice rfl Try.underlying25 ty_41 ze_41 rfl rfl rfl (fun b141 => ?_)
              refine XO.publish 0 rfl rfl rfl (fun HP141 oP141 hleP141 hbP141 hoP141 => ?_)
              have hsl141 := SlR.lit (ρ := pairR) (l := []) hbP141 hoP141 rfl
              replace hs := hs.mono hleP141
              replace h25 := h25.mono hleP141
              replace hW115 := hW115.mono hleP141
              replace h116 := h116.mono hleP141
              replace hle0 := hle0.trans hleP141
              refine XO.nil ?_
              exact stepQN_ok rfl trivial (⟨_, rfl, hsl141⟩)
            refine stepsH_cons rfl ?_ ?_
            · intro X ext HD hleD _
              replace hs := hs.mono hleD
              replace h25 := h25.mono hleD
              replace hW115 := hW115.mono hleD
              replace h116 := h116.mono hleD
              replace hle0 := hle0.trans hleD
              refine withP_nil rfl ?_
              refine XO.move rfl rfl ?_
              refine XO.nil ?_
              exact stepQN_ok rfl trivial (rfl)
            refine stepsH_cons rfl ?_ ?_
            · intro X ext HD hleD _
              replace hs := hs.mono hleD
              replace h25 := h25.mono hleD
              replace hW115 := hW115.mono hleD
              replace h116 := h116.mono hleD
              replace hle0 := hle0.trans hleD
              refine withP_nil rfl ?_
              refine XO.move rfl rfl ?_
              refine XO.nil ?_
              exact stepQN_ok rfl trivial (rfl)
            refine stepsH_cons rfl ?_ ?_
            · intro X ext HD hleD _
              replace hs := hs.mono hleD
              replace h25 := h25.mono hleD
              replace hW115 := hW115.mono hleD
              replace h116 := h116.mono hleD
              replace hle0 := hle0.trans hleD
              refine withP_cons rfl rfl ?_
              rintro _ rfl
              refine withP_cons rfl rfl ?_
              rintro _ rfl
              refine withP_nil rfl ?_
              refine XO.slice (lo' := 0) (hi' := (k0 : Int)) (m' := (c25 : Int)) rfl h25 ev?_none (ev?_some rfl) ev?_none (by simp) (by omega) (by omega) (by omega) (by omega) (by omega) Try.underlying25 ty_41 rfl (fun as144 ls144 hls144 hss144 => ?_)
              obtain rfl : ls144 = (trL m).take k0 := by first | (rw [hls144]; simp; done) | (rw [hls144]; simp; rw [List.take_of_length_le (by simp)])
              refine XO.nil ?_
              exact stepQN_ok rfl trivial (⟨_, _, rfl, hss144⟩)
            refine stepsH_cons rfl ?_ ?_
            · intro X ext HD hleD _
              replace hs := hs.mono hleD
              replace h25 := h25.mono hleD
              replace hW115 := hW115.mono hleD
              replace h116 := h116.mono hleD
              replace hle0 := hle0.trans hleD
              refine withP_cons rfl rfl ?_
              rintro _ ⟨bs141, rfl, hsl141⟩
              refine withP_cons rfl rfl ?_
              rintro _ ⟨a144, c144, rfl, hsl144⟩
              refine withP_nil rfl ?_
              refine XO.appendN rfl hsl141 rfl rfl hsl144 rfl (by simp; omega) Try.underlying25 ty_41 ze_41 rfl by_41 (by simp; omega) rfl (fun pe ae ce hacc => ?_)
              refine XO.nil ?_
              exact stepQN_new rfl trivial trivial (⟨_, _, rfl, hacc⟩)
            refine stepsH_cons rfl ?_ ?_
            · intro X ext HD hleD _
              replace hs := hs.mono hleD
              replace h25 := h25.mono hleD
              replace hW115 := hW115.mono hleD
              replace h116 := h116.mono hleD
              replace hle0 := hle0.trans hleD
              refine withP_nil rfl ?_
              refine XO.move rfl rfl ?_
              refine XO.nil ?_
              exact stepQN_ok rfl trivial (rfl)
            refine stepsH_cons rfl ?_ ?_
            · intro X ext HD hleD _
              replace hs := hs.mono hleD
              replace h25 := h25.mono hleD
              replace hW115 := hW115.mono hleD
              replace h116 := h116.mono hleD
              replace hle0 := hle0.trans hleD
              refine withP_nil rfl ?_
              refine XO.move rfl rfl ?_
              refine XO.nil ?_
              exact stepQN_ok rfl trivial (rfl)
            refine stepsH_cons rfl ?_ ?_
            · intro X ext HD hleD _
              replace hs := hs.mono hleD
              replace h25 := h25.mono hleD
              replace hW115 := hW115.mono hleD
              replace h116 := h116.mono hleD
              replace hle0 := hle0.trans hleD
              refine withP_cons rfl rfl ?_
              rintro _ rfl
              refine withP_nil rfl ?_
              refine XO.add rfl rfl (wrap_i64 (by omega) (by omega)) rfl ?_
              refine XO.nil ?_
              exact stepQN_ok rfl trivial (rfl)
            refine stepsH_cons rfl ?_ ?_
            · intro X ext HD hleD _
              replace hs := hs.mono hleD
              replace h25 := h25.mono hleD
              replace hW115 := hW115.mono hleD
              replace h116 := h116.mono hleD
              replace hle0 := hle0.trans hleD
              refine withP_cons rfl rfl ?_
              rintro _ rfl
              refine withP_cons rfl rfl ?_
              rintro _ rfl
              refine withP_nil rfl ?_
              refine XO.slice (lo' := (k0 : Int) + 1) (hi' := ((trL m).length : Int)) (m' := (c25 : Int)) rfl h25 (ev?_some rfl) ev?_none ev?_none (by simp) (by omega) (by omega) (by omega) (by omega) (by omega) Try.underlying25 ty_41 rfl (fun as149 ls149 hls149 hss149 => ?_)
              obtain rfl : ls149 = (trL m).drop (k0 + 1) := by first | (rw [hls149]; simp; done) | (rw [hls149]; simp; rw [List.take_of_length_le (by simp)])
              refine XO.nil ?_
              exact stepQN_ok rfl trivial (⟨_, _, rfl, hss149⟩)
            exact stepsH_end rfl
          case tail35 =>
            intro HD hleD _
            replace hs := hs.mono hleD
            replace h25 := h25.mono hleD
            replace hW115 := hW115.mono hleD
            replace h116 := h116.mono hleD
            replace hle0 := hle0.trans hleD
            refine withP_cons rfl rfl ?_
            rintro _ ⟨bs141, rfl, hsl141⟩
            refine withP_cons rfl rfl ?_
            rintro _ rfl
            refine withP_cons rfl rfl ?_
            rintro _ rfl
            refine withP_cons rfl rfl ?_
            rintro _ ⟨a144, c144, rfl, hsl144⟩
            refine withP_cons rfl rfl ?_
            rintro _ _
            refine withP_cons rfl rfl ?_
            rintro _ rfl
            refine withP_cons rfl rfl ?_
            rintro _ rfl
            refine withP_cons rfl rfl ?_
            rintro _ rfl
            refine withP_cons rfl rfl ?_
            rintro _ ⟨a149, c149, rfl, hsl149⟩
            refine withP_nil rfl ?_
            refine withEnts_cons ?_
            intro pe hpe
            obtain ⟨ae, ce, rfl, hacce⟩ := hpe _ ⟨_, rfl, rfl⟩
            refine withEnts_nil ?_
            refine XO.appendA 0 rfl rfl hacce rfl rfl hsl149 rfl Try.underlying25 ty_41 ze_41 rfl by_41 (by simp; omega) rfl (fun p150 a150 c150 hacc150 => ?_)
            refine XO.publishA 0 rfl hacc150 rfl (fun HQ38 hleQ38 hsQ38 => ?_)
            replace hs := hs.mono hleQ38
            replace h25 := h25.mono hleQ38
            replace hW115 := hW115.mono hleQ38
            replace h116 := h116.mono hleQ38
            replace hsl141 := hsl141.mono hleQ38
            replace hsl144 := hsl144.mono hleQ38
            replace hsl149 := hsl149.mono hleQ38
            replace hle0 := hle0.trans hleQ38
            refine XO.assign rfl rfl ?_
            refine XO.nil ?_
            refine XC.seq2 ?_
            refine XC.seq ?_
            refine XC.region ?_
            obtain ⟨r0, r1, _⟩ := alone_tr hok (List.eraseIdx_sublist (treeE m) k0)
            have r2 := (alone_marks (tree_in hok (List.eraseIdx_sublist (treeE m) k0))).len
            have r3 := (List.eraseIdx_sublist (treeE m) k0).length_le
            refine XO.move rfl rfl ?_
            refine XO.move rfl rfl ?_
            have hcall154 := alone_fn _ _ _ _ m ((treeE m).eraseIdx k0) _ _ hs hsQ38 (less_list hok k0) hok (fun e he => treeE_lt hok ((List.eraseIdx_sublist _ _).subset he)) (by have := (List.eraseIdx_sublist (treeE m) k0).length_le; omega)
            refine XO.callH rfl hcall154 rfl ?_
            rintro _ HW154 hleW154 ⟨aW154, cW154, rfl, hW154⟩
            replace hs := hs.mono hleW154
            replace h25 := h25.mono hleW154
            replace hW115 := hW115.mono hleW154
            replace h116 := h116.mono hleW154
            replace hsl141 := hsl141.mono hleW154
            replace hsl144 := hsl144.mono hleW154
            replace hsl149 := hsl149.mono hleW154
            replace hsQ38 := hsQ38.mono hleW154
            replace hle0 := hle0.trans hleW154
            have hcall155 := tree_u _ _ (aloneM m ((treeE m).eraseIdx k0)) _ hW154 (by omega)
            refine XO.callH rfl hcall155 rfl ?_
            rintro _ HT155 hleT155 ⟨a155, c155, h155, rfl⟩
            replace hs := hs.mono hleT155
            replace h25 := h25.mono hleT155
            replace hW115 := hW115.mono hleT155
            replace h116 := h116.mono hleT155
            replace hsl141 := hsl141.mono hleT155
            replace hsl144 := hsl144.mono hleT155
            replace hsl149 := hsl149.mono hleT155
            replace hsQ38 := hsQ38.mono hleT155
            replace hW154 := hW154.mono hleT155
            replace hle0 := hle0.trans hleT155
            refine XO.move rfl rfl ?_
            refine XO.extract rfl rfl rfl ?_
            refine XO.extract rfl rfl rfl ?_
            refine XO.extract rfl rfl rfl ?_
            refine XO.assign rfl rfl ?_
            refine XO.assign rfl rfl ?_
            refine XO.assign rfl rfl ?_
            refine XO.nil ?_
            refine XC.seq2 ?_
            refine XC.seq ?_
            refine XC.region ?_
            refine XO.move rfl rfl ?_
            refine XO.eql rfl rfl rfl ?_
            refine XO.move rfl rfl ?_
            refine XO.guardT rfl rfl (decide_eq_true r0) rfl ?_
            refine XO.move rfl rfl ?_
            refine XO.guardT rfl rfl (decide_eq_true r0) rfl ?_
            refine XO.move rfl rfl ?_
            refine XO.guardT rfl rfl (decide_eq_true r0) rfl ?_
            refine XO.callV rfl (same_fn _ _ _ _ (trL (aloneM m ((treeE m).eraseIdx k0))) (((trL m).take k0) ++ ((trL m).drop (k0 + 1))) _ h155 hsQ38 (by rw [r1, List.length_map]; omega)) rfl ?_
            refine XO.pickT rfl (decide_eq_true r0) rfl rfl ?_
            refine XO.move rfl rfl ?_
            refine XO.guardT rfl rfl (decide_eq_true (r1.trans (less_list hok k0).symm)) rfl ?_
            refine XO.move rfl rfl ?_
            refine XO.guardT rfl rfl (decide_eq_true (r1.trans (less_list hok k0).symm)) rfl ?_
            refine XO.not rfl rfl ?_
            refine XO.pickT rfl (decide_eq_true (r1.trans (less_list hok k0).symm)) rfl rfl ?_
            refine XO.assign rfl rfl ?_
            refine XO.nil ?_
            refine XC.seq2 ?_
            refine XC.ret ?_
            refine ⟨rfl, _, [], rfl, (by repeat (first | exact List.Sublist.refl _ | apply List.Sublist.cons)), RetR.mk ?_⟩
            first | rfl | exact congrArg Value.bool (decide_eq_true (alone_less hok (by omega)))

namespace graphTree
open Go.ChangeShapes Go.WideShapes Go.ChangeAt Go.RowKit
open Go.ChangeMaps (open_string shut_string)
theorem own : ownKnob Try.prog.godebug = none := by kernel_rfl
theorem laidOut : laidOutB Try.prog = true := by kernel_rfl
set_option maxRecDepth 100000 in
theorem lifted (os : Os) (started : os.Started) (H : Type) (enc : TypeId × Value → H) :
    ReturnsInHanded {} Try.checked os 6 .any (Rows.graphTreeSpec.pre6 enc Try.prog Try.f6 Rows.graphTreeRow.domain false) (Rows.graphTreeSpec.post enc Try.prog Try.f6 false true false false) := by
  refine returnsInHanded_of_change (C := Try.checked) own started (by kernel_rfl) Try.func6
    (ChangeSpec.witness6 (enc := enc) (C := Try.checked) false ⟨#[], #[.slice none 0 0, .int .u8 0], []⟩ 8 (by kernel_rfl) (by kernel_rfl) (by kernel_rfl) (by kernel_rfl)) ?_
  intro W base args ds gs before hval0 hW hcnd _
  have hval : ∀ (j : Nat) t v, Try.f6.params[j]? = some t → args[j]? = some v → Value.okWide Try.prog W .any base t v := hval0
  have hW' := hW
  obtain ⟨p, q, hA0, hV, rfl, hfz, hnd⟩ := hW
  have hA : DataW.TrodAll enc Try.prog W 0 (fun _ => true) true Try.f6.params.toList args.toList ds p := hA0
  rw [Try.params6] at hA hval
  obtain ⟨v0, vs0, d0, ds0, p0, q0, hargs, rfl, rfl, h0, r0⟩ := trodAll_cons hA
  obtain ⟨v1, vs1, d1, ds1, p1, q1, rfl, rfl, rfl, h1, r1⟩ := trodAll_cons r0
  obtain ⟨rfl, rfl, rfl⟩ := trodAll_nil r1
  obtain rfl : args = #[v0, v1] := by cases args; simp_all
  obtain ⟨rfl, rfl⟩ := trodVars_none hV
  obtain ⟨a0, len0, cap0, rfl⟩ := okWide_slice Try.underlying22 (hval 0 22 v0 rfl rfl)
  have k0 := h0
  have lt0 : ∀ x ∈ p0, x.block < W.heap.size := by obtain ⟨m, hm⟩ := k0; exact DataW.trod_lt m _ _ _ hm
  obtain ⟨fuel0, hf0⟩ := h0
  obtain ⟨l0, ⟨aa0, cc0, hcs0, hs0⟩, hw0⟩ := opens_tb enc W 0 _ _ fuel0 _ _ hf0
  simp [Value.cells] at hcs0
  obtain ⟨rfl, rfl, rfl⟩ := hcs0
  obtain ⟨a1, rfl, rfl, rfl, w1⟩ := open_int Try.underlying5 (hval 1 5 v1 rfl rfl) h1
  clear hA0 hval0
  refine (graphTree_fn _ _ l0 (hpOf W) hs0 (by have := hw0.1; unfold maxLen at this; omega) a1 (wf_u8 w1)).below.mono fun e W' ⟨he, bel⟩ => ?_
  subst he
  exact ⟨_, rfl, _, _, _, [], _, [], hW', trodAll_mk1 (shut_bool Try.underlying4 _), (trodAll_cons_mk (Below.trod laidOut (by kernel_rfl) (of_decide_eq_true (by kernel_rfl)) k0 bel lt0) (trodAll_cons_mk (shut_int Try.underlying5 w1) trodAll_mk0)), rfl, bel.frame _, fun h => by cases h⟩
theorem over : Rows.graphTreeRow.holds Try.pinned (OpenSpec.ofChange Rows.graphTreeSpec) :=
  OpenClaim.holds_of_wide 6 Try.f6 rfl rfl rfl rfl rfl rfl rfl ⟨rfl, rfl, rfl, rfl, rfl⟩ rfl rfl rfl rfl rfl (by kernel_rfl) Try.func6 (by kernel_rfl)
    (of_decide_eq_true (by kernel_rfl)) (by unfold Func.isWrapper; first | (rw [if_pos (by decide +kernel)]; kernel_rfl) | (rw [if_neg (by decide +kernel)]; exact ⟨rfl, rfl⟩))
    (fun os started H enc _ => lifted os started H enc)
/-- The given statement. -/
theorem proved : Rows.GraphTreeSaid := over
#print axioms proved
end graphTree
end Go.Proofs.Ytbfleiickdobnaa
