/- The walks of the functions of the codec: what each of them computes, at any input. -/
import Derived.Test.YtngedgknbebgpaaB6
import Derived.Test.YtngedgknbebgpaaB5
import Derived.Lib.ConvBytes
import Derived.Test.YtngedgknbebgpaaB2
import Derived.OpenShut
set_option autoImplicit false
set_option linter.unusedVariables false
set_option linter.unusedSimpArgs false
namespace Go.Proofs
open Go.XL

theorem bf_62 : structF Try.prog 62 = some [(0, 1), (1, 1), (2, 1)] := by kernel_rfl
theorem bk_62 : structK Try.prog 62 = true := by kernel_rfl
theorem ze_62 : zeroC Try.prog 62 = some [.slice none 0 0, .int .i64 0, .bool false] := by kernel_rfl

theorem rdecode_fn (a : Option Addr) (c : Nat) (b : List UInt8) (H : Hp) (hs : SlR u8R H a c b) (hlen : b.length ≤ 100000) : FnC Try.prog 19 #[.slice a b.length c] H [] (RetR (fun v H2 _ => DecVR b H2 v)) := by
  refine FnC.introC (args := [.slice a b.length c]) Try.func19 rfl rfl Try.ntmps19 rfl rfl rfl fun G rest => ?_
  refine XC.seq ?_
  refine XC.region ?_
  refine XO.alloc ze_24 rfl (fun b2 => ?_)
  refine XO.assign rfl rfl ?_
  refine XO.nil ?_
  refine XC.seq2 ?_
  refine XC.seq ?_
  refine XC.region ?_
  refine XO.move rfl rfl ?_
  refine XO.build bk_62 bf_62 ze_62 rfl rfl rfl ?_
  refine XO.box rfl rfl rfl (fun b8 => ?_)
  refine XO.assign rfl rfl ?_
  refine XO.nil ?_
  refine XC.seq2 ?_
  refine XC.seq ?_
  refine XC.region ?_
  refine XO.move rfl rfl ?_
  have hcall := rvalue_all 16 b8 a c b 0 _ (by decide) hs (by omega) (Nat.zero_le _)
  refine XO.callF 0 rfl hcall rfl rfl ?_
  rintro _ HN10 _ hleN10 ⟨⟨kw, nw, sw, lw⟩, p10, bad10, ⟨aw, cw, rfl, hw⟩, rfl, hpr10⟩
  refine ⟨_, rfl, ?_⟩
  replace hs := hs.mono hleN10
  refine XO.alloc ze_24 rfl (fun b5 => ?_)
  refine XO.storeO 0 rfl rfl rfl rfl ty_24 rfl rfl rfl rfl rfl ?_
  refine XO.nil ?_
  refine XC.seq2 ?_
  refine XC.seq ?_
  refine XC.seq ?_
  cases bad10
  · skip
    by_cases hA : ((p10 : Nat) : Int) ≠ ((b.length : Nat) : Int)
    · skip
      refine XC.keep [0, 2, 4, 5] rfl ?_
      apply XC.drawH (fun _ => True) trivial [] (by decide) (fun _ _ _ _ => True) (fun _ _ _ _ _ _ h => h) 24 [eqF _, eqF _, eqF _, eqF _, eqF _, eqF _, eqF _, eqF _, eqF _, eqF _, eqF _, eqF _, eqF _, eqF _, eqF _, eqF _, eqF _, eqF _, eqF _, eqF _, eqF _, eqF _, eqF _, eqF _] follows (by kernel_rfl) ⟨eqF_mono _, eqF_mono _, eqF_mono _, eqF_mono _, eqF_mono _, eqF_mono _, eqF_mono _, eqF_mono _, eqF_mono _, eqF_mono _, eqF_mono _, eqF_mono _, eqF_mono _, eqF_mono _, eqF_mono _, eqF_mono _, eqF_mono _, eqF_mono _, eqF_mono _, eqF_mono _, eqF_mono _, eqF_mono _, eqF_mono _, eqF_mono _, trivial⟩ (by decide) ?steps1 ?tail1
      case steps1 =>
        refine stepsH_cons rfl ?_ ?_
        · intro X ext HD hleD _
          replace hs := hs.mono hleD
          replace hw := hw.mono hleD
          refine withP_nil rfl ?_
          refine XO.move rfl rfl ?_
          refine XO.nil ?_
          exact stepQN_ok rfl trivial (rfl)
        refine stepsH_cons rfl ?_ ?_
        · intro X ext HD hleD _
          replace hs := hs.mono hleD
          replace hw := hw.mono hleD
          refine withP_cons rfl rfl ?_
          rintro _ rfl
          refine withP_nil rfl ?_
          refine XO.nilCheckP rfl rfl ?_
          refine XO.nil ?_
          exact stepQN_ok rfl trivial (rfl)
        refine stepsH_cons rfl ?_ ?_
        · intro X ext HD hleD _
          replace hs := hs.mono hleD
          replace hw := hw.mono hleD
          refine withP_cons rfl rfl ?_
          rintro _ rfl
          refine withP_nil rfl ?_
          refine XO.fieldAddr rfl fa_62_2 rfl ?_
          refine XO.nil ?_
          exact stepQN_ok rfl trivial (rfl)
        refine stepsH_cons rfl ?_ ?_
        · intro X ext HD hleD _
          replace hs := hs.mono hleD
          replace hw := hw.mono hleD
          refine withP_cons rfl rfl ?_
          rintro _ rfl
          refine withP_nil rfl ?_
          refine XO.loadO 1 rfl rfl ty_4 rfl rfl rfl ?_
          refine XO.nil ?_
          exact stepQN_ok rfl trivial (rfl)
        refine stepsH_cons rfl ?_ ?_
        · intro X ext HD hleD _
          replace hs := hs.mono hleD
          replace hw := hw.mono hleD
          refine withP_cons rfl rfl ?_
          rintro _ rfl
          refine withP_nil rfl ?_
          refine XO.move rfl rfl ?_
          refine XO.nil ?_
          exact stepQN_ok rfl trivial (rfl)
        refine stepsH_cons rfl ?_ ?_
        · intro X ext HD hleD _
          replace hs := hs.mono hleD
          replace hw := hw.mono hleD
          refine withP_cons rfl rfl ?_
          rintro _ rfl
          refine withP_nil rfl ?_
          refine XO.guardT rfl rfl (rfl) rfl ?_
          refine XO.move rfl rfl ?_
          refine XO.nil ?_
          exact stepQN_ok rfl trivial (rfl)
        refine stepsH_cons rfl ?_ ?_
        · intro X ext HD hleD _
          replace hs := hs.mono hleD
          replace hw := hw.mono hleD
          refine withP_cons rfl rfl ?_
          rintro _ rfl
          refine withP_cons rfl rfl ?_
          rintro _ rfl
          refine withP_nil rfl ?_
          refine XO.guardT rfl rfl (rfl) rfl ?_
          refine XO.nilCheckP rfl rfl ?_
          refine XO.nil ?_
          exact stepQN_ok rfl trivial (rfl)
        refine stepsH_cons rfl ?_ ?_
        · intro X ext HD hleD _
          replace hs := hs.mono hleD
          replace hw := hw.mono hleD
          refine withP_cons rfl rfl ?_
          rintro _ rfl
          refine withP_cons rfl rfl ?_
          rintro _ rfl
          refine withP_nil rfl ?_
          refine XO.guardT rfl rfl (rfl) rfl ?_
          refine XO.fieldAddr rfl fa_62_1 rfl ?_
          refine XO.nil ?_
          exact stepQN_ok rfl trivial (rfl)
        refine stepsH_cons rfl ?_ ?_
        · intro X ext HD hleD _
          replace hs := hs.mono hleD
          replace hw := hw.mono hleD
          refine withP_cons rfl rfl ?_
          rintro _ rfl
          refine withP_cons rfl rfl ?_
          rintro _ rfl
          refine withP_nil rfl ?_
          refine XO.guardT rfl rfl (rfl) rfl ?_
          refine XO.loadO 1 rfl rfl ty_3 rfl rfl rfl ?_
          refine XO.nil ?_
          exact stepQN_ok rfl trivial (rfl)
        refine stepsH_cons rfl ?_ ?_
        · intro X ext HD hleD _
          replace hs := hs.mono hleD
          replace hw := hw.mono hleD
          refine withP_cons rfl rfl ?_
          rintro _ rfl
          refine withP_nil rfl ?_
          refine XO.guardT rfl rfl (rfl) rfl ?_
          refine XO.move rfl rfl ?_
          refine XO.nil ?_
          exact stepQN_ok rfl trivial (rfl)
        refine stepsH_cons rfl ?_ ?_
        · intro X ext HD hleD _
          replace hs := hs.mono hleD
          replace hw := hw.mono hleD
          refine withP_cons rfl rfl ?_
          rintro _ rfl
          refine withP_cons rfl rfl ?_
          rintro _ rfl
          refine withP_nil rfl ?_
          refine XO.guardT rfl rfl (rfl) rfl ?_
          refine XO.lenS (ts := #[]) rfl Try.underlying27 rfl ?_
          refine XO.nil ?_
          exact stepQN_ok rfl trivial (rfl)
        refine stepsH_cons rfl ?_ ?_
        · intro X ext HD hleD _
          replace hs := hs.mono hleD
          replace hw := hw.mono hleD
          refine withP_cons rfl rfl ?_
          rintro _ rfl
          refine withP_cons rfl rfl ?_
          rintro _ rfl
          refine withP_cons rfl rfl ?_
          rintro _ rfl
          refine withP_nil rfl ?_
          refine XO.guardT rfl rfl (rfl) rfl ?_
          refine XO.neq rfl rfl rfl ?_
          refine XO.nil ?_
          exact stepQN_ok rfl trivial (rfl)
        refine stepsH_cons rfl ?_ ?_
        · intro X ext HD hleD _
          replace hs := hs.mono hleD
          replace hw := hw.mono hleD
          refine withP_cons rfl rfl ?_
          rintro _ rfl
          refine withP_cons rfl rfl ?_
          rintro _ rfl
          refine withP_nil rfl ?_
          refine XO.pickF rfl (rfl) rfl rfl ?_
          refine XO.nil ?_
          exact stepQN_ok rfl trivial (rfl)
        refine stepsH_cons rfl ?_ ?_
        · intro X ext HD hleD _
          replace hs := hs.mono hleD
          replace hw := hw.mono hleD
          refine withP_cons rfl rfl ?_
          rintro _ rfl
          refine withP_nil rfl ?_
          refine XO.move rfl rfl ?_
          refine XO.nil ?_
          exact stepQN_ok rfl trivial (rfl)
        refine stepsH_cons rfl ?_ ?_
        · intro X ext HD hleD _
          replace hs := hs.mono hleD
          replace hw := hw.mono hleD
          refine withP_cons rfl rfl ?_
          rintro _ rfl
          refine withP_nil rfl ?_
          refine XO.guardF rfl rfl (decide_eq_true hA) rfl rfl ?_
          refine XO.nil ?_
          exact stepQN_ok rfl trivial (rfl)
        refine stepsH_cons rfl ?_ ?_
        · intro X ext HD hleD _
          replace hs := hs.mono hleD
          replace hw := hw.mono hleD
          refine withP_cons rfl rfl ?_
          rintro _ rfl
          refine withP_cons rfl rfl ?_
          rintro _ rfl
          refine withP_nil rfl ?_
          refine XO.guardF rfl rfl (decide_eq_true hA) rfl rfl ?_
          refine XO.nil ?_
          exact stepQN_ok rfl trivial (rfl)
        refine stepsH_cons rfl ?_ ?_
        · intro X ext HD hleD _
          replace hs := hs.mono hleD
          replace hw := hw.mono hleD
          refine withP_cons rfl rfl ?_
          rintro _ rfl
          refine withP_cons rfl rfl ?_
          rintro _ rfl
          refine withP_nil rfl ?_
          refine XO.guardF rfl rfl (decide_eq_true hA) rfl rfl ?_
          refine XO.nil ?_
          exact stepQN_ok rfl trivial (rfl)
        refine stepsH_cons rfl ?_ ?_
        · intro X ext HD hleD _
          replace hs := hs.mono hleD
          replace hw := hw.mono hleD
          refine withP_cons rfl rfl ?_
          rintro _ rfl
          refine withP_cons rfl rfl ?_
          rintro _ rfl
          refine withP_nil rfl ?_
          refine XO.pickT rfl (decide_eq_true hA) rfl rfl ?_
          refine XO.nil ?_
          exact stepQN_ok rfl trivial (rfl)
        refine stepsH_cons rfl ?_ ?_
        · intro X ext HD hleD _
          replace hs := hs.mono hleD
          replace hw := hw.mono hleD
          refine withP_cons rfl rfl ?_
          rintro _ rfl
          refine withP_nil rfl ?_
          refine XO.move rfl rfl ?_
          refine XO.nil ?_
          exact stepQN_ok rfl trivial (rfl)
        refine stepsH_cons rfl ?_ ?_
        · intro X ext HD hleD _
          replace hs := hs.mono hleD
          replace hw := hw.mono hleD
          refine withP_cons rfl rfl ?_
          rintro _ rfl
          refine withP_nil rfl ?_
          refine XO.guardF rfl rfl (rfl) rfl rfl ?_
          refine XO.nil ?_
          exact stepQN_ok rfl trivial (rfl)
        refine stepsH_cons rfl ?_ ?_
        · intro X ext HD hleD _
          replace hs := hs.mono hleD
          replace hw := hw.mono hleD
          refine withP_cons rfl rfl ?_
          rintro _ rfl
          refine withP_cons rfl rfl ?_
          rintro _ rfl
          refine withP_nil rfl ?_
          refine XO.guardF rfl rfl (rfl) rfl rfl ?_
          refine XO.nil ?_
          exact stepQN_ok rfl trivial (rfl)
        refine stepsH_cons rfl ?_ ?_
        · intro X ext HD hleD _
          replace hs := hs.mono hleD
          replace hw := hw.mono hleD
          refine withP_cons rfl rfl ?_
          rintro _ rfl
          refine withP_cons rfl rfl ?_
          rintro _ rfl
          refine withP_nil rfl ?_
          refine XO.guardF rfl rfl (rfl) rfl rfl ?_
          refine XO.nil ?_
          exact stepQN_ok rfl trivial (rfl)
        refine stepsH_cons rfl ?_ ?_
        · intro X ext HD hleD _
          replace hs := hs.mono hleD
          replace hw := hw.mono hleD
          refine withP_cons rfl rfl ?_
          rintro _ rfl
          refine withP_nil rfl ?_
          refine XO.guardF rfl rfl (rfl) rfl rfl ?_
          refine XO.nil ?_
          exact stepQN_ok rfl trivial (rfl)
        refine stepsH_cons rfl ?_ ?_
        · intro X ext HD hleD _
          replace hs := hs.mono hleD
          replace hw := hw.mono hleD
          refine withP_cons rfl rfl ?_
          rintro _ rfl
          refine withP_cons rfl rfl ?_
          rintro _ rfl
          refine withP_nil rfl ?_
          refine XO.guardF rfl rfl (rfl) rfl rfl ?_
          refine XO.nil ?_
          exact stepQN_ok rfl trivial (rfl)
        exact stepsH_end rfl
      case tail1 =>
        intro HD hleD _
        replace hs := hs.mono hleD
        replace hw := hw.mono hleD
        refine withP_cons rfl rfl ?_
        rintro _ rfl
        refine withP_cons rfl rfl ?_
        rintro _ rfl
        refine withP_cons rfl rfl ?_
        rintro _ rfl
        refine withP_cons rfl rfl ?_
        rintro _ rfl
        refine withP_cons rfl rfl ?_
        rintro _ rfl
        refine withP_cons rfl rfl ?_
        rintro _ rfl
        refine withP_cons rfl rfl ?_
        rintro _ rfl
        refine withP_cons rfl rfl ?_
        rintro _ rfl
        refine withP_cons rfl rfl ?_
        rintro _ rfl
        refine withP_cons rfl rfl ?_
        rintro _ rfl
        refine withP_cons rfl rfl ?_
        rintro _ rfl
        refine withP_cons rfl rfl ?_
        rintro _ rfl
        refine withP_cons rfl rfl ?_
        rintro _ rfl
        refine withP_cons rfl rfl ?_
        rintro _ rfl
        refine withP_cons rfl rfl ?_
        rintro _ rfl
        refine withP_cons rfl rfl ?_
        rintro _ rfl
        refine withP_cons rfl rfl ?_
        rintro _ rfl
        refine withP_cons rfl rfl ?_
        rintro _ rfl
        refine withP_cons rfl rfl ?_
        rintro _ rfl
        refine withP_cons rfl rfl ?_
        rintro _ rfl
        refine withP_cons rfl rfl ?_
        rintro _ rfl
        refine withP_cons rfl rfl ?_
        rintro _ rfl
        refine withP_cons rfl rfl ?_
        rintro _ rfl
        refine withP_cons rfl rfl ?_
        rintro _ rfl
        refine withP_nil rfl ?_
        refine withEnts_nil ?_
        refine XO.guardF rfl rfl (rfl) rfl rfl ?_
        refine XO.pickT rfl (rfl) rfl rfl ?_
        refine XO.nil ?_
        refine XC.seq2 ?_
        refine XC.condT rfl (rfl) ?_
        refine XC.seq ?_
        refine XC.region ?_
        refine XO.build bk_24 bf_24 ze_24 rfl rfl rfl ?_
        refine XO.storeO 2 rfl rfl rfl rfl ty_24 rfl rfl rfl rfl rfl ?_
        refine XO.assign rfl rfl ?_
        refine XO.nil ?_
        refine XC.seq2 ?_
        refine XC.ret ?_
        refine seqX_ret ?_
        refine ⟨rfl, _, [], (resC_cell 2 rfl rfl ty_24 rfl rfl (resC_tmp rfl resC_nil)), (by repeat (first | exact List.Sublist.refl _ | apply List.Sublist.cons)), RetR.mk ?_⟩
        first | exact DecVR.no (rd_none hpr10) | exact DecVR.no (rd_rest hpr10 hA) | exact absurd (rd_fit hpr10 hlen).2.2.1 hC | exact DecVR.yes (rd_all hpr10 hA) ⟨_, _, rfl, hw⟩ | (exfalso; have h7 := (rd_fit hpr10 hlen).2.2.2 (by omega); simp_all)
    · skip
      refine XC.keep [0, 2, 4, 5] rfl ?_
      apply XC.drawH (fun _ => True) trivial [] (by decide) (fun _ _ _ _ => True) (fun _ _ _ _ _ _ h => h) 24 [eqF _, eqF _, eqF _, eqF _, eqF _, eqF _, eqF _, eqF _, eqF _, eqF _, eqF _, eqF _, eqF _, eqF _, eqF _, eqF _, eqF _, eqF _, eqF _, eqF _, fun v H => ∃ a c, v = .slice a (encV (.mk kw nw sw lw)).length c ∧ SlR u8R H a c (encV (.mk kw nw sw lw)), eqF _, eqF _, eqF _] follows (by kernel_rfl) ⟨eqF_mono _, eqF_mono _, eqF_mono _, eqF_mono _, eqF_mono _, eqF_mono _, eqF_mono _, eqF_mono _, eqF_mono _, eqF_mono _, eqF_mono _, eqF_mono _, eqF_mono _, eqF_mono _, eqF_mono _, eqF_mono _, eqF_mono _, eqF_mono _, eqF_mono _, eqF_mono _, fun _ _ _ hle ⟨a, c, h1, h2⟩ => ⟨a, c, h1, h2.mono hle⟩, eqF_mono _, eqF_mono _, eqF_mono _, trivial⟩ (by decide) ?steps2 ?tail2
      case steps2 =>
        refine stepsH_cons rfl ?_ ?_
        · intro X ext HD hleD _
          replace hs := hs.mono hleD
          replace hw := hw.mono hleD
          refine withP_nil rfl ?_
          refine XO.move rfl rfl ?_
          refine XO.nil ?_
          exact stepQN_ok rfl trivial (rfl)
        refine stepsH_cons rfl ?_ ?_
        · intro X ext HD hleD _
          replace hs := hs.mono hleD
          replace hw := hw.mono hleD
          refine withP_cons rfl rfl ?_
          rintro _ rfl
          refine withP_nil rfl ?_
          refine XO.nilCheckP rfl rfl ?_
          refine XO.nil ?_
          exact stepQN_ok rfl trivial (rfl)
        refine stepsH_cons rfl ?_ ?_
        · intro X ext HD hleD _
          replace hs := hs.mono hleD
          replace hw := hw.mono hleD
          refine withP_cons rfl rfl ?_
          rintro _ rfl
          refine withP_nil rfl ?_
          refine XO.fieldAddr rfl fa_62_2 rfl ?_
          refine XO.nil ?_
          exact stepQN_ok rfl trivial (rfl)
        refine stepsH_cons rfl ?_ ?_
        · intro X ext HD hleD _
          replace hs := hs.mono hleD
          replace hw := hw.mono hleD
          refine withP_cons rfl rfl ?_
          rintro _ rfl
          refine withP_nil rfl ?_
          refine XO.loadO 1 rfl rfl ty_4 rfl rfl rfl ?_
          refine XO.nil ?_
          exact stepQN_ok rfl trivial (rfl)
        refine stepsH_cons rfl ?_ ?_
        · intro X ext HD hleD _
          replace hs := hs.mono hleD
          replace hw := hw.mono hleD
          refine withP_cons rfl rfl ?_
          rintro _ rfl
          refine withP_nil rfl ?_
          refine XO.move rfl rfl ?_
          refine XO.nil ?_
          exact stepQN_ok rfl trivial (rfl)
        refine stepsH_cons rfl ?_ ?_
        · intro X ext HD hleD _
          replace hs := hs.mono hleD
          replace hw := hw.mono hleD
          refine withP_cons rfl rfl ?_
          rintro _ rfl
          refine withP_nil rfl ?_
          refine XO.guardT rfl rfl (rfl) rfl ?_
          refine XO.move rfl rfl ?_
          refine XO.nil ?_
          exact stepQN_ok rfl trivial (rfl)
        refine stepsH_cons rfl ?_ ?_
        · intro X ext HD hleD _
          replace hs := hs.mono hleD
          replace hw := hw.mono hleD
          refine withP_cons rfl rfl ?_
          rintro _ rfl
          refine withP_cons rfl rfl ?_
          rintro _ rfl
          refine withP_nil rfl ?_
          refine XO.guardT rfl rfl (rfl) rfl ?_
          refine XO.nilCheckP rfl rfl ?_
          refine XO.nil ?_
          exact stepQN_ok rfl trivial (rfl)
        refine stepsH_cons rfl ?_ ?_
        · intro X ext HD hleD _
          replace hs := hs.mono hleD
          replace hw := hw.mono hleD
          refine withP_cons rfl rfl ?_
          rintro _ rfl
          refine withP_cons rfl rfl ?_
          rintro _ rfl
          refine withP_nil rfl ?_
          refine XO.guardT rfl rfl (rfl) rfl ?_
          refine XO.fieldAddr rfl fa_62_1 rfl ?_
          refine XO.nil ?_
          exact stepQN_ok rfl trivial (rfl)
        refine stepsH_cons rfl ?_ ?_
        · intro X ext HD hleD _
          replace hs := hs.mono hleD
          replace hw := hw.mono hleD
          refine withP_cons rfl rfl ?_
          rintro _ rfl
          refine withP_cons rfl rfl ?_
          rintro _ rfl
          refine withP_nil rfl ?_
          refine XO.guardT rfl rfl (rfl) rfl ?_
          refine XO.loadO 1 rfl rfl ty_3 rfl rfl rfl ?_
          refine XO.nil ?_
          exact stepQN_ok rfl trivial (rfl)
        refine stepsH_cons rfl ?_ ?_
        · intro X ext HD hleD _
          replace hs := hs.mono hleD
          replace hw := hw.mono hleD
          refine withP_cons rfl rfl ?_
          rintro _ rfl
          refine withP_nil rfl ?_
          refine XO.guardT rfl rfl (rfl) rfl ?_
          refine XO.move rfl rfl ?_
          refine XO.nil ?_
          exact stepQN_ok rfl trivial (rfl)
        refine stepsH_cons rfl ?_ ?_
        · intro X ext HD hleD _
          replace hs := hs.mono hleD
          replace hw := hw.mono hleD
          refine withP_cons rfl rfl ?_
          rintro _ rfl
          refine withP_cons rfl rfl ?_
          rintro _ rfl
          refine withP_nil rfl ?_
          refine XO.guardT rfl rfl (rfl) rfl ?_
          refine XO.lenS (ts := #[]) rfl Try.underlying27 rfl ?_
          refine XO.nil ?_
          exact stepQN_ok rfl trivial (rfl)
        refine stepsH_cons rfl ?_ ?_
        · intro X ext HD hleD _
          replace hs := hs.mono hleD
          replace hw := hw.mono hleD
          refine withP_cons rfl rfl ?_
          rintro _ rfl
          refine withP_cons rfl rfl ?_
          rintro _ rfl
          refine withP_cons rfl rfl ?_
          rintro _ rfl
          refine withP_nil rfl ?_
          refine XO.guardT rfl rfl (rfl) rfl ?_
          refine XO.neq rfl rfl rfl ?_
          refine XO.nil ?_
          exact stepQN_ok rfl trivial (rfl)
        refine stepsH_cons rfl ?_ ?_
        · intro X ext HD hleD _
          replace hs := hs.mono hleD
          replace hw := hw.mono hleD
          refine withP_cons rfl rfl ?_
          rintro _ rfl
          refine withP_cons rfl rfl ?_
          rintro _ rfl
          refine withP_nil rfl ?_
          refine XO.pickF rfl (rfl) rfl rfl ?_
          refine XO.nil ?_
          exact stepQN_ok rfl trivial (rfl)
        refine stepsH_cons rfl ?_ ?_
        · intro X ext HD hleD _
          replace hs := hs.mono hleD
          replace hw := hw.mono hleD
          refine withP_cons rfl rfl ?_
          rintro _ rfl
          refine withP_nil rfl ?_
          refine XO.move rfl rfl ?_
          refine XO.nil ?_
          exact stepQN_ok rfl trivial (rfl)
        refine stepsH_cons rfl ?_ ?_
        · intro X ext HD hleD _
          replace hs := hs.mono hleD
          replace hw := hw.mono hleD
          refine withP_cons rfl rfl ?_
          rintro _ rfl
          refine withP_nil rfl ?_
          refine XO.guardT rfl rfl (decide_eq_false hA) rfl ?_
          refine XO.loadO 0 rfl rfl ty_24 rfl rfl rfl ?_
          refine XO.nil ?_
          exact stepQN_ok rfl trivial (rfl)
        refine stepsH_cons rfl ?_ ?_
        · intro X ext HD hleD _
          replace hs := hs.mono hleD
          replace hw := hw.mono hleD
          refine withP_cons rfl rfl ?_
          rintro _ rfl
          refine withP_cons rfl rfl ?_
          rintro _ rfl
          refine withP_nil rfl ?_
          refine XO.guardT rfl rfl (decide_eq_false hA) rfl ?_
          have hft := rd_fit hpr10 hlen
          have hcall := rcheck_fn kw nw sw lw aw cw _ hft.1 hw
          refine XO.callV rfl hcall rfl ?_
          refine XO.nil ?_
          exact stepQN_ok rfl trivial (rfl)
        refine stepsH_cons rfl ?_ ?_
        · intro X ext HD hleD _
          replace hs := hs.mono hleD
          replace hw := hw.mono hleD
          refine withP_cons rfl rfl ?_
          rintro _ rfl
          refine withP_cons rfl rfl ?_
          rintro _ rfl
          refine withP_nil rfl ?_
          refine XO.guardT rfl rfl (decide_eq_false hA) rfl ?_
          refine XO.neq rfl rfl rfl ?_
          refine XO.nil ?_
          exact stepQN_ok rfl trivial (rfl)
        refine stepsH_cons rfl ?_ ?_
        · intro X ext HD hleD _
          replace hs := hs.mono hleD
          replace hw := hw.mono hleD
          refine withP_cons rfl rfl ?_
          rintro _ rfl
          refine withP_cons rfl rfl ?_
          rintro _ rfl
          refine withP_nil rfl ?_
          refine XO.pickF rfl (decide_eq_false hA) rfl rfl ?_
          refine XO.nil ?_
          exact stepQN_ok rfl trivial (rfl)
        refine stepsH_cons rfl ?_ ?_
        · intro X ext HD hleD _
          replace hs := hs.mono hleD
          replace hw := hw.mono hleD
          refine withP_cons rfl rfl ?_
          rintro _ rfl
          refine withP_nil rfl ?_
          refine XO.move rfl rfl ?_
          refine XO.nil ?_
          exact stepQN_ok rfl trivial (rfl)
        refine stepsH_cons rfl ?_ ?_
        · intro X ext HD hleD _
          replace hs := hs.mono hleD
          replace hw := hw.mono hleD
          refine withP_cons rfl rfl ?_
          rintro _ rfl
          refine withP_nil rfl ?_
          refine XO.guardT rfl rfl (decide_eq_false (fun h => h (rd_fit hpr10 hlen).2.2.1)) rfl ?_
          refine XO.loadO 0 rfl rfl ty_24 rfl rfl rfl ?_
          refine XO.nil ?_
          exact stepQN_ok rfl trivial (rfl)
        refine stepsH_cons rfl ?_ ?_
        · intro X ext HD hleD _
          replace hs := hs.mono hleD
          replace hw := hw.mono hleD
          refine withP_cons rfl rfl ?_
          rintro _ rfl
          refine withP_cons rfl rfl ?_
          rintro _ rfl
          refine withP_nil rfl ?_
          refine XO.guardT rfl rfl (decide_eq_false (fun h => h (rd_fit hpr10 hlen).2.2.1)) rfl ?_
          have hft := rd_fit hpr10 hlen
          have hcall := renc_all 1000000 kw nw sw lw aw cw _ hft.1 (by omega) hft.2.1 hw
          refine XO.callH rfl hcall rfl ?_
          rintro _ HN31 hleN31 ⟨aN31, cN31, rfl, hN31⟩
          replace hs := hs.mono hleN31
          replace hw := hw.mono hleN31
          refine XO.nil ?_
          exact stepQN_ok rfl trivial (⟨_, _, rfl, hN31⟩)
        refine stepsH_cons rfl ?_ ?_
        · intro X ext HD hleD _
          replace hs := hs.mono hleD
          replace hw := hw.mono hleD
          refine withP_cons rfl rfl ?_
          rintro _ ⟨a31, c31, rfl, h31⟩
          refine withP_cons rfl rfl ?_
          rintro _ rfl
          refine withP_nil rfl ?_
          refine XO.guardT rfl rfl (decide_eq_false (fun h => h (rd_fit hpr10 hlen).2.2.1)) rfl ?_
          refine XO.b2s rfl h31 Try.underlying27 Try.underlying5 Try.underlying9 rfl ?_
          refine XO.nil ?_
          exact stepQN_ok rfl trivial (rfl)
        refine stepsH_cons rfl ?_ ?_
        · intro X ext HD hleD _
          replace hs := hs.mono hleD
          replace hw := hw.mono hleD
          refine withP_cons rfl rfl ?_
          rintro _ rfl
          refine withP_nil rfl ?_
          refine XO.guardT rfl rfl (decide_eq_false (fun h => h (rd_fit hpr10 hlen).2.2.1)) rfl ?_
          refine XO.move rfl rfl ?_
          refine XO.nil ?_
          exact stepQN_ok rfl trivial (rfl)
        refine stepsH_cons rfl ?_ ?_
        · intro X ext HD hleD _
          replace hs := hs.mono hleD
          replace hw := hw.mono hleD
          refine withP_cons rfl rfl ?_
          rintro _ rfl
          refine withP_cons rfl rfl ?_
          rintro _ rfl
          refine withP_nil rfl ?_
          refine XO.guardT rfl rfl (decide_eq_false (fun h => h (rd_fit hpr10 hlen).2.2.1)) rfl ?_
          refine XO.b2s rfl hs Try.underlying27 Try.underlying5 Try.underlying9 rfl ?_
          refine XO.nil ?_
          exact stepQN_ok rfl trivial (rfl)
        exact stepsH_end rfl
      case tail2 =>
        intro HD hleD _
        replace hs := hs.mono hleD
        replace hw := hw.mono hleD
        refine withP_cons rfl rfl ?_
        rintro _ rfl
        refine withP_cons rfl rfl ?_
        rintro _ rfl
        refine withP_cons rfl rfl ?_
        rintro _ rfl
        refine withP_cons rfl rfl ?_
        rintro _ rfl
        refine withP_cons rfl rfl ?_
        rintro _ rfl
        refine withP_cons rfl rfl ?_
        rintro _ rfl
        refine withP_cons rfl rfl ?_
        rintro _ rfl
        refine withP_cons rfl rfl ?_
        rintro _ rfl
        refine withP_cons rfl rfl ?_
        rintro _ rfl
        refine withP_cons rfl rfl ?_
        rintro _ rfl
        refine withP_cons rfl rfl ?_
        rintro _ rfl
        refine withP_cons rfl rfl ?_
        rintro _ rfl
        refine withP_cons rfl rfl ?_
        rintro _ rfl
        refine withP_cons rfl rfl ?_
        rintro _ rfl
        refine withP_cons rfl rfl ?_
        rintro _ rfl
        refine withP_cons rfl rfl ?_
        rintro _ rfl
        refine withP_cons rfl rfl ?_
        rintro _ rfl
        refine withP_cons rfl rfl ?_
        rintro _ rfl
        refine withP_cons rfl rfl ?_
        rintro _ rfl
        refine withP_cons rfl rfl ?_
        rintro _ rfl
        refine withP_cons rfl rfl ?_
        rintro _ ⟨a31, c31, rfl, h31⟩
        refine withP_cons rfl rfl ?_
        rintro _ rfl
        refine withP_cons rfl rfl ?_
        rintro _ rfl
        refine withP_cons rfl rfl ?_
        rintro _ rfl
        refine withP_nil rfl ?_
        refine withEnts_nil ?_
        refine XO.guardT rfl rfl (decide_eq_false (fun h => h (rd_fit hpr10 hlen).2.2.1)) rfl ?_
        refine XO.neqS rfl rfl rfl ?_
        refine XO.pickF rfl (decide_eq_false (fun h => h (rd_fit hpr10 hlen).2.2.1)) rfl rfl ?_
        refine XO.nil ?_
        refine XC.seq2 ?_
        refine XC.cond rfl (fun c0_7 => ?_) (fun c0_7 => ?_)
        · refine XC.seq ?_
          refine XC.region ?_
          refine XO.build bk_24 bf_24 ze_24 rfl rfl rfl ?_
          refine XO.storeO 2 rfl rfl rfl rfl ty_24 rfl rfl rfl rfl rfl ?_
          refine XO.assign rfl rfl ?_
          refine XO.nil ?_
          refine XC.seq2 ?_
          refine XC.ret ?_
          refine seqX_ret ?_
          refine ⟨rfl, _, [], (resC_cell 2 rfl rfl ty_24 rfl rfl (resC_tmp rfl resC_nil)), (by repeat (first | exact List.Sublist.refl _ | apply List.Sublist.cons)), RetR.mk ?_⟩
          first | exact DecVR.no (rd_none hpr10) | exact DecVR.no (rd_rest hpr10 hA) | exact absurd (rd_fit hpr10 hlen).2.2.1 hC | exact DecVR.yes (rd_all hpr10 hA) ⟨_, _, rfl, hw⟩ | (exfalso; have h7 := (rd_fit hpr10 hlen).2.2.2 (by omega); simp_all)
        · refine XC.skip ?_
          refine XC.seq2 ?_
          refine XC.seq ?_
          refine XC.region ?_
          refine XO.loadO 0 rfl rfl ty_24 rfl rfl rfl ?_
          refine XO.storeO 2 rfl rfl rfl rfl ty_24 rfl rfl rfl rfl rfl ?_
          refine XO.assign rfl rfl ?_
          refine XO.nil ?_
          refine XC.seq2 ?_
          refine XC.ret ?_
          refine ⟨rfl, _, [], (resC_cell 2 rfl rfl ty_24 rfl rfl (resC_tmp rfl resC_nil)), (by repeat (first | exact List.Sublist.refl _ | apply List.Sublist.cons)), RetR.mk ?_⟩
          first | exact DecVR.no (rd_none hpr10) | exact DecVR.no (rd_rest hpr10 hA) | exact absurd (rd_fit hpr10 hlen).2.2.1 hC | exact DecVR.yes (rd_all hpr10 hA) ⟨_, _, rfl, hw⟩ | (exfalso; have h7 := (rd_fit hpr10 hlen).2.2.2 (by omega); simp_all)
  · skip
    refine XC.keep [0, 2, 4, 5] rfl ?_
    apply XC.drawH (fun _ => True) trivial [] (by decide) (fun _ _ _ _ => True) (fun _ _ _ _ _ _ h => h) 24 [eqF _, eqF _, eqF _, eqF _, eqF _, eqF _, eqF _, eqF _, eqF _, eqF _, eqF _, eqF _, eqF _, eqF _, eqF _, eqF _, eqF _, eqF _, eqF _, eqF _, eqF _, eqF _, eqF _, eqF _] follows (by kernel_rfl) ⟨eqF_mono _, eqF_mono _, eqF_mono _, eqF_mono _, eqF_mono _, eqF_mono _, eqF_mono _, eqF_mono _, eqF_mono _, eqF_mono _, eqF_mono _, eqF_mono _, eqF_mono _, eqF_mono _, eqF_mono _, eqF_mono _, eqF_mono _, eqF_mono _, eqF_mono _, eqF_mono _, eqF_mono _, eqF_mono _, eqF_mono _, eqF_mono _, trivial⟩ (by decide) ?steps8 ?tail8
    case steps8 =>
      refine stepsH_cons rfl ?_ ?_
      · intro X ext HD hleD _
        replace hs := hs.mono hleD
        replace hw := hw.mono hleD
        refine withP_nil rfl ?_
        refine XO.move rfl rfl ?_
        refine XO.nil ?_
        exact stepQN_ok rfl trivial (rfl)
      refine stepsH_cons rfl ?_ ?_
      · intro X ext HD hleD _
        replace hs := hs.mono hleD
        replace hw := hw.mono hleD
        refine withP_cons rfl rfl ?_
        rintro _ rfl
        refine withP_nil rfl ?_
        refine XO.nilCheckP rfl rfl ?_
        refine XO.nil ?_
        exact stepQN_ok rfl trivial (rfl)
      refine stepsH_cons rfl ?_ ?_
      · intro X ext HD hleD _
        replace hs := hs.mono hleD
        replace hw := hw.mono hleD
        refine withP_cons rfl rfl ?_
        rintro _ rfl
        refine withP_nil rfl ?_
        refine XO.fieldAddr rfl fa_62_2 rfl ?_
        refine XO.nil ?_
        exact stepQN_ok rfl trivial (rfl)
      refine stepsH_cons rfl ?_ ?_
      · intro X ext HD hleD _
        replace hs := hs.mono hleD
        replace hw := hw.mono hleD
        refine withP_cons rfl rfl ?_
        rintro _ rfl
        refine withP_nil rfl ?_
        refine XO.loadO 1 rfl rfl ty_4 rfl rfl rfl ?_
        refine XO.nil ?_
        exact stepQN_ok rfl trivial (rfl)
      refine stepsH_cons rfl ?_ ?_
      · intro X ext HD hleD _
        replace hs := hs.mono hleD
        replace hw := hw.mono hleD
        refine withP_cons rfl rfl ?_
        rintro _ rfl
        refine withP_nil rfl ?_
        refine XO.move rfl rfl ?_
        refine XO.nil ?_
        exact stepQN_ok rfl trivial (rfl)
      refine stepsH_cons rfl ?_ ?_
      · intro X ext HD hleD _
        replace hs := hs.mono hleD
        replace hw := hw.mono hleD
        refine withP_cons rfl rfl ?_
        rintro _ rfl
        refine withP_nil rfl ?_
        refine XO.guardF rfl rfl (rfl) rfl rfl ?_
        refine XO.nil ?_
        exact stepQN_ok rfl trivial (rfl)
      refine stepsH_cons rfl ?_ ?_
      · intro X ext HD hleD _
        replace hs := hs.mono hleD
        replace hw := hw.mono hleD
        refine withP_cons rfl rfl ?_
        rintro _ rfl
        refine withP_cons rfl rfl ?_
        rintro _ rfl
        refine withP_nil rfl ?_
        refine XO.guardF rfl rfl (rfl) rfl rfl ?_
        refine XO.nil ?_
        exact stepQN_ok rfl trivial (rfl)
      refine stepsH_cons rfl ?_ ?_
      · intro X ext HD hleD _
        replace hs := hs.mono hleD
        replace hw := hw.mono hleD
        refine withP_cons rfl rfl ?_
        rintro _ rfl
        refine withP_cons rfl rfl ?_
        rintro _ rfl
        refine withP_nil rfl ?_
        refine XO.guardF rfl rfl (rfl) rfl rfl ?_
        refine XO.nil ?_
        exact stepQN_ok rfl trivial (rfl)
      refine stepsH_cons rfl ?_ ?_
      · intro X ext HD hleD _
        replace hs := hs.mono hleD
        replace hw := hw.mono hleD
        refine withP_cons rfl rfl ?_
        rintro _ rfl
        refine withP_cons rfl rfl ?_
        rintro _ rfl
        refine withP_nil rfl ?_
        refine XO.guardF rfl rfl (rfl) rfl rfl ?_
        refine XO.nil ?_
        exact stepQN_ok rfl trivial (rfl)
      refine stepsH_cons rfl ?_ ?_
      · intro X ext HD hleD _
        replace hs := hs.mono hleD
        replace hw := hw.mono hleD
        refine withP_cons rfl rfl ?_
        rintro _ rfl
        refine withP_nil rfl ?_
        refine XO.guardF rfl rfl (rfl) rfl rfl ?_
        refine XO.nil ?_
        exact stepQN_ok rfl trivial (rfl)
      refine stepsH_cons rfl ?_ ?_
      · intro X ext HD hleD _
        replace hs := hs.mono hleD
        replace hw := hw.mono hleD
        refine withP_cons rfl rfl ?_
        rintro _ rfl
        refine withP_cons rfl rfl ?_
        rintro _ rfl
        refine withP_nil rfl ?_
        refine XO.guardF rfl rfl (rfl) rfl rfl ?_
        refine XO.nil ?_
        exact stepQN_ok rfl trivial (rfl)
      refine stepsH_cons rfl ?_ ?_
      · intro X ext HD hleD _
        replace hs := hs.mono hleD
        replace hw := hw.mono hleD
        refine withP_cons rfl rfl ?_
        rintro _ rfl
        refine withP_cons rfl rfl ?_
        rintro _ rfl
        refine withP_cons rfl rfl ?_
        rintro _ rfl
        refine withP_nil rfl ?_
        refine XO.guardF rfl rfl (rfl) rfl rfl ?_
        refine XO.nil ?_
        exact stepQN_ok rfl trivial (rfl)
      refine stepsH_cons rfl ?_ ?_
      · intro X ext HD hleD _
        replace hs := hs.mono hleD
        replace hw := hw.mono hleD
        refine withP_cons rfl rfl ?_
        rintro _ rfl
        refine withP_cons rfl rfl ?_
        rintro _ rfl
        refine withP_nil rfl ?_
        refine XO.pickT rfl (rfl) rfl rfl ?_
        refine XO.nil ?_
        exact stepQN_ok rfl trivial (rfl)
      refine stepsH_cons rfl ?_ ?_
      · intro X ext HD hleD _
        replace hs := hs.mono hleD
        replace hw := hw.mono hleD
        refine withP_cons rfl rfl ?_
        rintro _ rfl
        refine withP_nil rfl ?_
        refine XO.move rfl rfl ?_
        refine XO.nil ?_
        exact stepQN_ok rfl trivial (rfl)
      refine stepsH_cons rfl ?_ ?_
      · intro X ext HD hleD _
        replace hs := hs.mono hleD
        replace hw := hw.mono hleD
        refine withP_cons rfl rfl ?_
        rintro _ rfl
        refine withP_nil rfl ?_
        refine XO.guardF rfl rfl (rfl) rfl rfl ?_
        refine XO.nil ?_
        exact stepQN_ok rfl trivial (rfl)
      refine stepsH_cons rfl ?_ ?_
      · intro X ext HD hleD _
        replace hs := hs.mono hleD
        replace hw := hw.mono hleD
        refine withP_cons rfl rfl ?_
        rintro _ rfl
        refine withP_cons rfl rfl ?_
        rintro _ rfl
        refine withP_nil rfl ?_
        refine XO.guardF rfl rfl (rfl) rfl rfl ?_
        refine XO.nil ?_
        exact stepQN_ok rfl trivial (rfl)
      refine stepsH_cons rfl ?_ ?_
      · intro X ext HD hleD _
        replace hs := hs.mono hleD
        replace hw := hw.mono hleD
        refine withP_cons rfl rfl ?_
        rintro _ rfl
        refine withP_cons rfl rfl ?_
        rintro _ rfl
        refine withP_nil rfl ?_
        refine XO.guardF rfl rfl (rfl) rfl rfl ?_
        refine XO.nil ?_
        exact stepQN_ok rfl trivial (rfl)
      refine stepsH_cons rfl ?_ ?_
      · intro X ext HD hleD _
        replace hs := hs.mono hleD
        replace hw := hw.mono hleD
        refine withP_cons rfl rfl ?_
        rintro _ rfl
        refine withP_cons rfl rfl ?_
        rintro _ rfl
        refine withP_nil rfl ?_
        refine XO.pickT rfl (rfl) rfl rfl ?_
        refine XO.nil ?_
        exact stepQN_ok rfl trivial (rfl)
      refine stepsH_cons rfl ?_ ?_
      · intro X ext HD hleD _
        replace hs := hs.mono hleD
        replace hw := hw.mono hleD
        refine withP_cons rfl rfl ?_
        rintro _ rfl
        refine withP_nil rfl ?_
        refine XO.move rfl rfl ?_
        refine XO.nil ?_
        exact stepQN_ok rfl trivial (rfl)
      refine stepsH_cons rfl ?_ ?_
      · intro X ext HD hleD _
        replace hs := hs.mono hleD
        replace hw := hw.mono hleD
        refine withP_cons rfl rfl ?_
        rintro _ rfl
        refine withP_nil rfl ?_
        refine XO.guardF rfl rfl (rfl) rfl rfl ?_
        refine XO.nil ?_
        exact stepQN_ok rfl trivial (rfl)
      refine stepsH_cons rfl ?_ ?_
      · intro X ext HD hleD _
        replace hs := hs.mono hleD
        replace hw := hw.mono hleD
        refine withP_cons rfl rfl ?_
        rintro _ rfl
        refine withP_cons rfl rfl ?_
        rintro _ rfl
        refine withP_nil rfl ?_
        refine XO.guardF rfl rfl (rfl) rfl rfl ?_
        refine XO.nil ?_
        exact stepQN_ok rfl trivial (rfl)
      refine stepsH_cons rfl ?_ ?_
      · intro X ext HD hleD _
        replace hs := hs.mono hleD
        replace hw := hw.mono hleD
        refine withP_cons rfl rfl ?_
        rintro _ rfl
        refine withP_cons rfl rfl ?_
        rintro _ rfl
        refine withP_nil rfl ?_
        refine XO.guardF rfl rfl (rfl) rfl rfl ?_
        refine XO.nil ?_
        exact stepQN_ok rfl trivial (rfl)
      refine stepsH_cons rfl ?_ ?_
      · intro X ext HD hleD _
        replace hs := hs.mono hleD
        replace hw := hw.mono hleD
        refine withP_cons rfl rfl ?_
        rintro _ rfl
        refine withP_nil rfl ?_
        refine XO.guardF rfl rfl (rfl) rfl rfl ?_
        refine XO.nil ?_
        exact stepQN_ok rfl trivial (rfl)
      refine stepsH_cons rfl ?_ ?_
      · intro X ext HD hleD _
        replace hs := hs.mono hleD
        replace hw := hw.mono hleD
        refine withP_cons rfl rfl ?_
        rintro _ rfl
        refine withP_cons rfl rfl ?_
        rintro _ rfl
        refine withP_nil rfl ?_
        refine XO.guardF rfl rfl (rfl) rfl rfl ?_
        refine XO.nil ?_
        exact stepQN_ok rfl trivial (rfl)
      exact stepsH_end rfl
    case tail8 =>
      intro HD hleD _
      replace hs := hs.mono hleD
      replace hw := hw.mono hleD
      refine withP_cons rfl rfl ?_
      rintro _ rfl
      refine withP_cons rfl rfl ?_
      rintro _ rfl
      refine withP_cons rfl rfl ?_
      rintro _ rfl
      refine withP_cons rfl rfl ?_
      rintro _ rfl
      refine withP_cons rfl rfl ?_
      rintro _ rfl
      refine withP_cons rfl rfl ?_
      rintro _ rfl
      refine withP_cons rfl rfl ?_
      rintro _ rfl
      refine withP_cons rfl rfl ?_
      rintro _ rfl
      refine withP_cons rfl rfl ?_
      rintro _ rfl
      refine withP_cons rfl rfl ?_
      rintro _ rfl
      refine withP_cons rfl rfl ?_
      rintro _ rfl
      refine withP_cons rfl rfl ?_
      rintro _ rfl
      refine withP_cons rfl rfl ?_
      rintro _ rfl
      refine withP_cons rfl rfl ?_
      rintro _ rfl
      refine withP_cons rfl rfl ?_
      rintro _ rfl
      refine withP_cons rfl rfl ?_
      rintro _ rfl
      refine withP_cons rfl rfl ?_
      rintro _ rfl
      refine withP_cons rfl rfl ?_
      rintro _ rfl
      refine withP_cons rfl rfl ?_
      rintro _ rfl
      refine withP_cons rfl rfl ?_
      rintro _ rfl
      refine withP_cons rfl rfl ?_
      rintro _ rfl
      refine withP_cons rfl rfl ?_
      rintro _ rfl
      refine withP_cons rfl rfl ?_
      rintro _ rfl
      refine withP_cons rfl rfl ?_
      rintro _ rfl
      refine withP_nil rfl ?_
      refine withEnts_nil ?_
      refine XO.guardF rfl rfl (rfl) rfl rfl ?_
      refine XO.pickT rfl (rfl) rfl rfl ?_
      refine XO.nil ?_
      refine XC.seq2 ?_
      refine XC.condT rfl (rfl) ?_
      refine XC.seq ?_
      refine XC.region ?_
      refine XO.build bk_24 bf_24 ze_24 rfl rfl rfl ?_
      refine XO.storeO 2 rfl rfl rfl rfl ty_24 rfl rfl rfl rfl rfl ?_
      refine XO.assign rfl rfl ?_
      refine XO.nil ?_
      refine XC.seq2 ?_
      refine XC.ret ?_
      refine seqX_ret ?_
      refine ⟨rfl, _, [], (resC_cell 2 rfl rfl ty_24 rfl rfl (resC_tmp rfl resC_nil)), (by repeat (first | exact List.Sublist.refl _ | apply List.Sublist.cons)), RetR.mk ?_⟩
      first | exact DecVR.no (rd_none hpr10) | exact DecVR.no (rd_rest hpr10 hA) | exact absurd (rd_fit hpr10 hlen).2.2.1 hC | exact DecVR.yes (rd_all hpr10 hA) ⟨_, _, rfl, hw⟩ | (exfalso; have h7 := (rd_fit hpr10 hlen).2.2.2 (by omega); simp_all)

end Go.Proofs

/- A string turned into a slice of bytes. No statement of the program stands here. -/
set_option autoImplicit false
set_option linter.unusedSimpArgs false
set_option linter.unusedVariables false
namespace Go.XL
section
variable {C : Ctx} {ops : Array Oper} {Q : Exit → St → Prop} {rest : List Oper} {env : Env} {df : List Deferred} {H : Hp} {own : Own} {dst : Option Tmp} {ty : TypeId} {pos : String} {af : Array Edge}
theorem bytesWorld_eq (w : World) (e : TypeId) (s : ByteArray) : Go.Lib.bytesWorld w e s = { w.drew with heap := w.heap.push (.cells (Go.Lib.bytesCells w e s) e ((Go.Lib.bytesCells w e s).size, (Go.Lib.bytesCells w e s).size + 1)) } := by
  have h := Go.Lib.bytesWorld_at_new w e s
  have hs := Go.Lib.bytesWorld_size w e s
  have ho := Go.Lib.bytesWorld_at_old w e s
  have hh : (Go.Lib.bytesWorld w e s).heap = w.heap.push (.cells (Go.Lib.bytesCells w e s) e ((Go.Lib.bytesCells w e s).size, (Go.Lib.bytesCells w e s).size + 1)) := by
    apply Array.ext_getElem?
    intro j
    rcases Nat.lt_trichotomy j w.heap.size with hj | hj | hj
    · rw [ho j hj, Array.getElem?_push_lt hj, Array.getElem?_eq_getElem hj]
    · subst hj; rw [h]; simp
    · rw [Array.getElem?_eq_none (by omega), Array.getElem?_eq_none (by simp; omega)]
  have : Go.Lib.bytesWorld w e s = { w.drew with heap := (Go.Lib.bytesWorld w e s).heap } := rfl
  rw [this, hh]
theorem XO.s2b {s t e : TypeId} {x : Operand} {l : List UInt8} (hx : ev env x = some (.string (bsOf l))) (hs : C.P.underlying s = some .string) (ht : C.P.underlying t = some (.slice e)) (he : C.P.underlying e = some (.int .u8)) (hd : dstOk C.N dst = true)
    (h : ∀ H' a c, Le H H' → SlR u8R H' a c l → XO C ops Q rest ⟨putE dst (.slice a l.length c) env, df, H', own⟩) : XO C ops Q (⟨dst, .convert s t x, ty, pos, af, none⟩ :: rest) ⟨env, df, H, own⟩ := by
  refine XO.op rfl rfl hd fun ρ' w fr ha hok => ?_
  have hsz : (bsOf l).size = l.length := bsSize l
  have hge := grownCap_ge w (bsOf l).size 0 e
  have h1 := (hok.drew).new (o := .cells (Go.Lib.bytesCells w e (bsOf l)) e ((Go.Lib.bytesCells w e (bsOf l)).size, (Go.Lib.bytesCells w e (bsOf l)).size + 1)) (s := .obj _) rfl
  obtain ⟨H', o, hle, hb, hso, hok'⟩ := Ok.publish (pre := []) (s := .obj _) h1 rfl
  cases hso
  refine ⟨_, _, Go.Lib.bytesWorld w e (bsOf l), H', own, ?_, .inl rfl, hle, ?_, h H' (some ⟨w.heap.size, 0, none⟩) (grownCap w (bsOf l).size 0 e) hle ?_⟩
  · simp only [execOp, ha _ _ hx, Sem.run_bind, Go.Lib.run_convert_string_bytes w s t e (bsOf l) hs ht he, Result.andThen]
    rw [hsz]; rfl
  · rw [bytesWorld_eq]; exact hok'
  · refine ⟨by rw [← hsz]; exact hge, fun h => (by cases h), fun i x hi => ⟨w.heap.size, 0, [.int .u8 (x.toNat : Nat)], rfl, ⟨_, _, _, hb, fun j u hj => ?_⟩, rfl⟩⟩
    cases j with
    | zero =>
      simp at hj; subst hj
      have hil := (List.getElem?_eq_some_iff.1 hi).1
      simp [Go.Lib.bytesCells, bsOf, Array.getElem?_append, hil, hi, u8R]
      have hx2 : l[i] = x := (List.getElem?_eq_some_iff.1 hi).2
      rw [hx2]
    | succ j => simp at hj
end
end Go.XL

/- The codec at a few values. -/
set_option autoImplicit false
set_option linter.unusedVariables false
set_option linter.unusedSimpArgs false
namespace Go.Proofs
open Go.XL
def sv1 : Val := .mk 1 (-3) [] []
def sv2 : Val := .mk 3 0 [] [.mk 1 100 [] [], .mk 2 0 [97, 98] []]
theorem chk_sv1 : chkV sv1 = 0 := by simp [sv1, chkV, formedB, formedL, depthV, depthL]
theorem chk_sv2 : chkV sv2 = 0 := by simp [sv2, chkV, formedB, formedL, depthV, depthL]
theorem eB_sv1 : eB sv1 = [1, 5] := by
  unfold eB; rw [if_pos chk_sv1]
  simp [sv1, encV, unsV, numL]
theorem eB_sv2 : eB sv2 = [3, 2, 1, 200, 1, 2, 2, 97, 98] := by
  unfold eB; rw [if_pos chk_sv2]
  simp [sv2, encV, encL, unsV, numL]
theorem fit1 (n : Int) (h : -9223372036854775808 ≤ n ∧ n ≤ 9223372036854775807) : Fit (.mk 1 n [] []) := .mk _ _ _ _ h (by simp) (by simp) (fun x hx => by cases hx)
theorem fit_sv1 : Fit sv1 := fit1 _ (by decide)
theorem fit_sv2 : Fit sv2 := .mk _ _ _ _ (by decide) (by simp) (by simp) (by
  intro x hx
  simp only [List.mem_cons, List.not_mem_nil, or_false] at hx
  rcases hx with rfl | rfl
  · exact fit1 _ (by decide)
  · exact .mk _ _ _ _ (by decide) (by simp) (by simp) (fun x hx => by cases hx))
theorem dec_sv2 : decV (eB sv2) = (sv2, 0) := by
  unfold eB; rw [if_pos chk_sv2]; exact dec_enc chk_sv2 fit_sv2
theorem dec_s0 : (decV []).2 = 10 := by simp [decV, valP]
theorem dec_s1 : (decV [1, 128, 0]).2 = 10 := by simp [decV, valP, numG, numP]
theorem dec_s2 : (decV [1, 5, 0]).2 = 10 := by simp [decV, valP, numG, numP]
theorem dec_s3 : (decV [2, 3, 97]).2 = 10 := by simp [decV, valP, lenG, numG, numP]
theorem wsz_sv1 : wszV sv1 = 20 := by simp [sv1, wszV, wszL]
theorem wsz_sv2 : wszV sv2 = 62 := by simp [sv2, wszV, wszL]
theorem same_sv2 : sameV sv2 sv2 = true := (sameV_iff _ _).2 rfl
theorem same2x : sameV (.mk 3 0 [] [.mk 1 100 [] [], .mk 2 0 [97, 98] []]) (.mk 3 0 [] [.mk 1 100 [] [], .mk 2 0 [97, 98] []]) = true := same_sv2
theorem same_no : sameV (.mk 2 0 [] []) (.mk 3 0 [] []) = false := by simp [sameV]
theorem chk_v0 : chkV v0 = 1 := by simp [v0, chkV, formedB]
theorem w_sv1 : wszV sv1 ≤ 1000000 := by rw [wsz_sv1]; decide
theorem w_sv2 : wszV sv2 ≤ 1000000 := by rw [wsz_sv2]; decide
theorem w_t0 : wszV (.mk 2 0 [] []) ≤ 1000000 := by simp [wszV, wszL]
theorem w_v0 : wszV v0 ≤ 1000000 := by simp [v0, wszV, wszL]
theorem eB1x : eB (.mk 1 (-3) [] []) = [1, 5] := eB_sv1
theorem eB2x : eB (.mk 3 0 [] [.mk 1 100 [] [], .mk 2 0 [97, 98] []]) = [3, 2, 1, 200, 1, 2, 2, 97, 98] := eB_sv2
theorem dec2x : decV (eB (.mk 3 0 [] [.mk 1 100 [] [], .mk 2 0 [97, 98] []])) = (.mk 3 0 [] [.mk 1 100 [] [], .mk 2 0 [97, 98] []], 0) := dec_sv2
theorem map_get {α β : Type} {f : α → β} {l : List α} {i : Nat} {x : β} (h : (l.map f)[i]? = some x) : ∃ y, l[i]? = some y ∧ f y = x := by
  rw [List.getElem?_map] at h
  cases hy : l[i]? with
  | none => rw [hy] at h; cases h
  | some y => rw [hy] at h; exact ⟨y, rfl, by simpa using h⟩
/-- the codes of the strings that are no codes -/
def badS : List (List UInt8) := [[], [1, 128, 0], [1, 5, 0], [2, 3, 97]]
theorem dec_badS {i : Nat} {x : List UInt8} (h : badS[i]? = some x) : (decV x).2 = 10 ∧ x.length ≤ 3 := by
  have hx := List.mem_of_getElem? h
  simp only [badS, List.mem_cons, List.not_mem_nil, or_false] at hx
  rcases hx with rfl | rfl | rfl | rfl
  · exact ⟨dec_s0, by decide⟩
  · exact ⟨dec_s1, by decide⟩
  · exact ⟨dec_s2, by decide⟩
  · exact ⟨dec_s3, by decide⟩
end Go.Proofs

/- The walks of the functions of the codec: what each of them computes, at any input. -/
set_option autoImplicit false
set_option linter.unusedVariables false
set_option linter.unusedSimpArgs false
namespace Go.Proofs
open Go.XL

theorem ze_9 : zeroC Try.prog 9 = some [.string ⟨#[]⟩] := by kernel_rfl

set_option maxRecDepth 100000 in
set_option maxHeartbeats 1600000 in
theorem sane01 (H : Hp) : FnC Try.prog 10 #[] H [] (RetR (fun v _ _ => v = .bool true)) := by
  refine FnC.intro (args := []) Try.func10 rfl rfl Try.ntmps10 rfl rfl rfl fun G rest => ?_
  refine XC.seq ?_
  refine XC.region ?_
  refine XO.assign rfl rfl ?_
  refine XO.nil ?_
  refine XC.seq2 ?_
  refine XC.seq ?_
  refine XC.region ?_
  refine XO.callV rfl (int_fn _ _) rfl ?_
  refine XO.callH rfl (enc_fn 1 (-3) [] [] none 0 _ w_sv1 fit_sv1 (SlR.nil0 _ _)) rfl ?_
  rintro _ HN16 hleN16 ⟨aN16, cN16, hN16, rfl⟩
  refine XO.move rfl rfl ?_
  refine XO.extract rfl rfl rfl ?_
  refine XO.extract rfl rfl rfl ?_
  refine XO.assign rfl rfl ?_
  refine XO.assign rfl rfl ?_
  refine XO.nil ?_
  refine XC.seq2 ?_
  refine XC.seq ?_
  refine XC.region ?_
  refine XO.callV rfl (int_fn _ _) rfl ?_
  refine XO.callV rfl (text_fn [97, 98] _) rfl ?_
  refine XO.buildSlice rfl Try.underlying22 ty_24 ze_24 rfl rfl rfl (fun b21 => ?_)
  refine XO.publish 0 rfl rfl rfl (fun HP21 hoP21 hleP21 hbP21 hsoP21 => ?_)
  have hsl21 := SlR.lit (ρ := valR) (l := [.mk 1 100 [] [], .mk 2 0 [97, 98] []]) hbP21 hsoP21 (RowsR.cons1 (cs := [_, _, _, _]) (valR_iff.2 ⟨none, 0, rfl, SlR.nil0 _ _⟩) (RowsR.one1 (valR_iff.2 ⟨none, 0, rfl, SlR.nil0 _ _⟩)))
  replace hN16 := hN16.mono hleP21
  refine XO.callV rfl (list_fn _ _ [.mk 1 100 [] [], .mk 2 0 [97, 98] []] _) rfl ?_
  refine XO.alloc ze_24 rfl (fun b3 => ?_)
  refine XO.storeO 0 rfl rfl rfl rfl ty_24 rfl rfl rfl rfl rfl ?_
  refine XO.nil ?_
  refine XC.seq2 ?_
  refine XC.seq ?_
  refine XC.region ?_
  refine XO.loadO 0 rfl rfl ty_24 rfl rfl rfl ?_
  refine XO.callH rfl (enc_fn 3 0 [] [.mk 1 100 [] [], .mk 2 0 [97, 98] []] _ _ _ w_sv2 fit_sv2 hsl21) rfl ?_
  rintro _ HN25 hleN25 ⟨aN25, cN25, hN25, rfl⟩
  replace hN16 := hN16.mono hleN25
  replace hsl21 := hsl21.mono hleN25
  refine XO.move rfl rfl ?_
  refine XO.extract rfl rfl rfl ?_
  refine XO.extract rfl rfl rfl ?_
  refine XO.assign rfl rfl ?_
  refine XO.assign rfl rfl ?_
  refine XO.nil ?_
  refine XC.seq2 ?_
  refine XC.seq ?_
  refine XC.region ?_
  refine XO.move rfl rfl ?_
  have hcall30 := decode_u aN25 cN25 (eB (.mk 3 0 [] [.mk 1 100 [] [], .mk 2 0 [97, 98] []])) _ hN25 (by rw [eB2x]; decide)
  refine XO.callH rfl hcall30 rfl ?_
  rintro _ HN30 hleN30 hD30
  unfold DecVR at hD30
  rw [dec2x] at hD30
  obtain ⟨_, ⟨aN30, cN30, rfl, hN30⟩, rfl⟩ := hD30
  replace hN16 := hN16.mono hleN30
  replace hsl21 := hsl21.mono hleN30
  replace hN25 := hN25.mono hleN30
  refine XO.move rfl rfl ?_
  refine XO.extract rfl rfl rfl ?_
  refine XO.extract rfl rfl rfl ?_
  refine XO.alloc ze_24 rfl (fun b6 => ?_)
  refine XO.storeO 0 rfl rfl rfl rfl ty_24 rfl rfl rfl rfl rfl ?_
  refine XO.assign rfl rfl ?_
  refine XO.nil ?_
  refine XC.seq2 ?_
  refine XC.seq ?_
  refine XC.region ?_
  refine XO.loadO 1 rfl rfl ty_24 rfl rfl rfl ?_
  refine XO.callV rfl (size_fn 3 0 [] [.mk 1 100 [] [], .mk 2 0 [97, 98] []] _ _ _ w_sv2 fit_sv2 hsl21) rfl ?_
  refine XO.move rfl rfl ?_
  refine XO.extract rfl rfl rfl ?_
  refine XO.extract rfl rfl rfl ?_
  refine XO.assign rfl rfl ?_
  refine XO.assign rfl rfl ?_
  refine XO.nil ?_
  refine XC.seq2 ?_
  refine XC.seq ?_
  refine XC.seq ?_
  refine XC.region ?_
  refine XO.move rfl rfl ?_
  refine XO.neq rfl rfl rfl ?_
  refine XO.move rfl rfl ?_
  refine XO.guardT rfl rfl (decide_eq_false (fun h => h chk_sv1)) rfl ?_
  refine XO.move rfl rfl ?_
  refine XO.guardT rfl rfl (decide_eq_false (fun h => h chk_sv1)) rfl ?_
  refine XO.b2s rfl hN16 Try.underlying27 Try.underlying5 Try.underlying9 rfl ?_
  refine XO.guardT rfl rfl (decide_eq_false (fun h => h chk_sv1)) rfl ?_
  refine XO.neqS (m := [1, 5]) rfl rfl rfl ?_
  refine XO.pickF rfl (decide_eq_false (fun h => h chk_sv1)) rfl rfl ?_
  refine XO.move rfl rfl ?_
  refine XO.guardT rfl rfl (decide_eq_false (fun h => h eB1x)) rfl ?_
  refine XO.move rfl rfl ?_
  refine XO.guardT rfl rfl (decide_eq_false (fun h => h eB1x)) rfl ?_
  refine XO.neq rfl rfl rfl ?_
  refine XO.pickF rfl (decide_eq_false (fun h => h eB1x)) rfl rfl ?_
  refine XO.move rfl rfl ?_
  refine XO.guardT rfl rfl (decide_eq_false (fun h => h chk_sv2)) rfl ?_
  refine XO.move rfl rfl ?_
  refine XO.guardT rfl rfl (decide_eq_false (fun h => h chk_sv2)) rfl ?_
  refine XO.b2s rfl hN25 Try.underlying27 Try.underlying5 Try.underlying9 rfl ?_
  refine XO.guardT rfl rfl (decide_eq_false (fun h => h chk_sv2)) rfl ?_
  refine XO.neqS (m := [3, 2, 1, 200, 1, 2, 2, 97, 98]) rfl rfl rfl ?_
  refine XO.pickF rfl (decide_eq_false (fun h => h chk_sv2)) rfl rfl ?_
  refine XO.move rfl rfl ?_
  refine XO.guardT rfl rfl (decide_eq_false (fun h => h eB2x)) rfl ?_
  refine XO.move rfl rfl ?_
  refine XO.guardT rfl rfl (decide_eq_false (fun h => h eB2x)) rfl ?_
  refine XO.neq rfl rfl rfl ?_
  refine XO.pickF rfl (decide_eq_false (fun h => h eB2x)) rfl rfl ?_
  refine XO.move rfl rfl ?_
  refine XO.guardT rfl rfl (decide_eq_false (fun h => h rfl)) rfl ?_
  refine XO.loadO 1 rfl rfl ty_24 rfl rfl rfl ?_
  refine XO.guardT rfl rfl (decide_eq_false (fun h => h rfl)) rfl ?_
  refine XO.loadO 0 rfl rfl ty_24 rfl rfl rfl ?_
  refine XO.guardT rfl rfl (decide_eq_false (fun h => h rfl)) rfl ?_
  refine XO.callV rfl (same_all 1000000 3 0 3 0 [] [] [.mk 1 100 [] [], .mk 2 0 [97, 98] []] [.mk 1 100 [] [], .mk 2 0 [97, 98] []] _ _ _ _ _ w_sv2 (by decide) hsl21 hN30) rfl ?_
  refine XO.guardT rfl rfl (decide_eq_false (fun h => h rfl)) rfl ?_
  refine XO.notB rfl rfl ?_
  refine XO.pickF rfl (decide_eq_false (fun h => h rfl)) rfl rfl ?_
  refine XO.move rfl rfl ?_
  refine XO.guardT rfl rfl (by rw [same2x]; rfl) rfl ?_
  refine XO.move rfl rfl ?_
  refine XO.guardT rfl rfl (by rw [same2x]; rfl) rfl ?_
  refine XO.neq rfl rfl rfl ?_
  refine XO.pickF rfl (by rw [same2x]; rfl) rfl rfl ?_
  refine XO.move rfl rfl ?_
  refine XO.guardT rfl rfl (decide_eq_false (fun h => h (by rw [eB2x]; rfl))) rfl ?_
  refine XO.move rfl rfl ?_
  refine XO.guardT rfl rfl (decide_eq_false (fun h => h (by rw [eB2x]; rfl))) rfl ?_
  refine XO.neq rfl rfl rfl ?_
  refine XO.pickF rfl (decide_eq_false (fun h => h (by rw [eB2x]; rfl))) rfl rfl ?_
  refine XO.move rfl rfl ?_
  refine XO.guardT rfl rfl (decide_eq_false (fun h => h chk_sv2)) rfl ?_
  refine XO.callV rfl (text_fn [] _) rfl ?_
  refine XO.guardT rfl rfl (decide_eq_false (fun h => h chk_sv2)) rfl ?_
  refine XO.callV rfl (list_fn none 0 [] _) rfl ?_
  refine XO.guardT rfl rfl (decide_eq_false (fun h => h chk_sv2)) rfl ?_
  refine XO.callV rfl (same_all 1000000 2 0 3 0 [] [] [] [] none none 0 0 _ w_t0 (by decide) (SlR.nil0 _ _) (SlR.nil0 _ _)) rfl ?_
  refine XO.pickF rfl (decide_eq_false (fun h => h chk_sv2)) rfl rfl ?_
  refine XO.nil ?_
  refine XC.seq2 ?_
  refine XC.condF rfl (same_no) ?_
  refine XC.skip ?_
  refine XC.seq2 ?_
  refine XC.seq ?_
  refine XC.seq ?_
  refine XC.region ?_
  refine XO.buildSlice rfl Try.underlying45 ty_9 ze_9 rfl rfl rfl (fun b77 => ?_)
  refine XO.publish 0 rfl rfl rfl (fun HP77 oP77 hleP77 hbP77 hoP77 => ?_)
  have hsl77 := SlR.lit (ρ := strR) (l := (badS.map bsOf)) hbP77 hoP77 (RowsR.cons1 (cs := [_]) rfl (RowsR.cons1 (cs := [_]) rfl (RowsR.cons1 (cs := [_]) rfl (RowsR.one1 rfl))))
  replace hN16 := hN16.mono hleP77
  replace hsl21 := hsl21.mono hleP77
  replace hN25 := hN25.mono hleP77
  replace hN30 := hN30.mono hleP77
  refine XO.lenS (ts := #[]) rfl Try.underlying45 rfl ?_
  refine XO.move rfl rfl ?_
  refine XO.nil ?_
  refine XC.seq2 ?_
  refine XC.block ?_
  refine XC.keep [79, 77, 78] rfl ?_
  refine XC.loop (base := [(77, _), (78, _)]) (fun ζ : Nat => [(79, .int .i64 (ζ : Nat))]) (fun ζ Hl own => ζ ≤ 4 ∧ rest = own) (fun ζ => 4 - ζ) 0 (prov_cons (rfl) (prov_cons (rfl) (prov_cons (rfl) prov_nil))) (by repeat (first | exact List.Sublist.refl _ | apply List.Sublist.cons_cons | apply List.Sublist.cons)) ⟨Nat.zero_le _, rfl⟩ ?_
  rintro i Hl0 _ hle0 ⟨hki, rfl⟩
  replace hN16 := hN16.mono hle0
  replace hsl21 := hsl21.mono hle0
  replace hN25 := hN25.mono hle0
  replace hN30 := hN30.mono hle0
  replace hsl77 := hsl77.mono hle0
  try dsimp only at ⊢
  refine XC.seq ?_
  refine XC.region ?_
  refine XO.lss rfl rfl rfl ?_
  refine XO.nil ?_
  refine XC.seq2 ?_
  refine XC.seq ?_
  refine XC.cond rfl (fun c1_15 => ?_) (fun c1_15 => ?_)
  · refine XC.skip ?_
    refine XC.seq2 ?_
    refine XC.seq ?_
    refine XC.block ?_
    refine XC.seq ?_
    refine XC.region ?_
    refine XO.indexN rfl hsl77 rfl Try.underlying45 ty_9 (by rw [List.length_map]; show i < 4; omega) rfl ?_
    rintro eb81 eo81 _ x81 hx81 rfl hp81
    refine XO.loadH rfl (by assumption) ty_9 rfl rfl rfl ?_
    refine XO.assign rfl rfl ?_
    refine XO.nil ?_
    refine XC.seq2 ?_
    refine XC.seq ?_
    refine XC.region ?_
    obtain ⟨y81, hy81, rfl⟩ := map_get hx81
    have hd81 := dec_badS hy81
    refine XO.move rfl rfl ?_
    refine XO.s2b rfl Try.underlying9 Try.underlying27 Try.underlying5 rfl (fun HS aS cS hleS hsS => ?_)
    replace hN16 := hN16.mono hleS
    replace hsl21 := hsl21.mono hleS
    replace hN25 := hN25.mono hleS
    replace hN30 := hN30.mono hleS
    replace hsl77 := hsl77.mono hleS
    replace hp81 := hp81.mono hleS
    replace hle0 := hle0.trans hleS
    have hcall86 := decode_u aS cS y81 _ hsS (by omega)
    refine XO.callH rfl hcall86 rfl ?_
    rintro _ HN86 hleN86 ⟨_, ⟨aN86, cN86, rfl, hN86⟩, rfl⟩
    replace hN16 := hN16.mono hleN86
    replace hsl21 := hsl21.mono hleN86
    replace hN25 := hN25.mono hleN86
    replace hN30 := hN30.mono hleN86
    replace hsl77 := hsl77.mono hleN86
    replace hp81 := hp81.mono hleN86
    replace hsS := hsS.mono hleN86
    replace hle0 := hle0.trans hleN86
    refine XO.move rfl rfl ?_
    refine XO.extract rfl rfl rfl ?_
    refine XO.extract rfl rfl rfl ?_
    refine XO.alloc ze_24 rfl (fun b12 => ?_)
    refine XO.storeO 0 rfl rfl rfl rfl ty_24 rfl rfl rfl rfl rfl ?_
    refine XO.assign rfl rfl ?_
    refine XO.nil ?_
    refine XC.seq2 ?_
    refine XC.seq ?_
    refine XC.region ?_
    refine XO.move rfl rfl ?_
    refine XO.neq rfl rfl rfl ?_
    refine XO.nil ?_
    refine XC.seq2 ?_
    refine XC.condF rfl (decide_eq_false (fun h => h hd81.1)) ?_
    refine XC.skip ?_
    refine blockN ?_
    refine XC.seq2 ?_
    refine XC.region ?_
    refine XO.add rfl rfl (wrap_i64 (by omega) (by omega)) rfl ?_
    refine XO.move rfl rfl ?_
    refine XO.nil ?_
    refine loop_next (i + 1) (by show 4 - (i + 1) < 4 - i; omega) (prov_cons (rfl) (prov_cons (rfl) (prov_cons (rfl) prov_nil))) (⟨by show i + 1 ≤ 4; omega, rfl⟩) (by repeat (first | exact List.Sublist.refl _ | apply List.Sublist.cons_cons | apply List.Sublist.cons)) (hle0)
  · refine XC.exit ?_
    refine seqX_exit ?_
    refine loopX_exit ?_
    refine blockHit rfl ?_
    refine XC.seq2 ?_
    refine XC.seq ?_
    refine XC.region ?_
    refine XO.build bk_24 bf_24 ze_24 rfl rfl rfl ?_
    refine XO.callV rfl (check_fn 0 0 [] [] none 0 _ w_v0 (SlR.nil0 _ _)) rfl ?_
    refine XO.eql rfl rfl rfl ?_
    refine XO.assign rfl rfl ?_
    refine XO.nil ?_
    refine XC.seq2 ?_
    refine XC.ret ?_
    refine ⟨rfl, _, [], rfl, (by repeat (first | exact List.Sublist.refl _ | apply List.Sublist.cons)), RetR.mk ?_⟩
    exact congrArg Value.bool (decide_eq_true chk_v0)

end Go.Proofs

/- Values of a type that holds itself, opened: by how deep the reading goes. No statement of the program stands here. -/
set_option autoImplicit false
set_option linter.unusedSimpArgs false
set_option linter.unusedVariables false
namespace Go.XL
/-- as Opens, for readings no deeper than N -/
def OpensN (N : Nat) (P : Program) (t : TypeId) {α : Type} (ρ : Rep α) (wf : α → Prop) : Prop := ∀ {H : Type} (enc : TypeId × Value → H) (w : World) (base : Nat) (spare : Nat → Bool) (held : Bool) (fuel : Nat) (cs : List Value) (x : DataW H × List MemPlace),
  fuel ≤ N → DataW.trod enc P w base spare held fuel t cs = some x → ∃ u, ρ.R (hpOf w) cs u ∧ wf u
theorem Opens.ofN {P : Program} {t : TypeId} {α : Type} {ρ : Rep α} {wf : α → Prop} (h : ∀ N, OpensN N P t ρ wf) : Opens P t ρ wf := fun enc w base spare held fuel cs x hx => h fuel enc w base spare held fuel cs x (Nat.le_refl _) hx
theorem Opens.toN {P : Program} {t : TypeId} {α : Type} {ρ : Rep α} {wf : α → Prop} (h : Opens P t ρ wf) (N : Nat) : OpensN N P t ρ wf := fun enc w base spare held fuel cs x _ hx => h enc w base spare held fuel cs x hx
theorem OpensN.slice {N : Nat} {P : Program} {t e : TypeId} {α : Type} {ρ : Rep α} {wf : α → Prop} (ht : P.underlying t = some (.slice e)) (hsz : P.cellsOf e = ρ.sz) (hpos : 0 < ρ.sz) (ho : OpensN N P e ρ wf) :
    OpensN (N + 1) P t (slR ρ) (fun l => l.length ≤ maxLen ∧ ∀ u ∈ l, wf u) := by
  intro H enc w base spare held fuel cs x hN h
  rcases DataW.trod_slice ht h with ⟨rfl, _⟩ | ⟨a, len, cap, elems, rest, n, hn, rfl, _, _, hl, hm, hlen, hel, _, _⟩
  · exact ⟨[], ⟨none, 0, rfl, SlR.nil0 _ _⟩, Nat.zero_le _, by simp⟩
  · obtain ⟨l, h1, h2⟩ := list_choose (Q := fun i (u : α) => ∃ cs, w.cells? base (a.add (i * ρ.sz)) ρ.sz = some cs ∧ ρ.R (hpOf w) cs u ∧ wf u) len (fun i hi => by
      have h3 := hel i hi
      rw [List.getElem?_eq_getElem (by omega), hsz, Option.bind_eq_some_iff] at h3
      obtain ⟨cs, h4, h5⟩ := h3
      obtain ⟨u, h6, h7⟩ := ho enc w base spare held n cs _ (by omega) h5
      exact ⟨u, cs, h4, h6, h7⟩)
    refine ⟨l, ⟨some a, cap, by rw [h1], by omega, by simp, fun i u hu => ?_⟩, by omega, fun u hu => ?_⟩
    · obtain ⟨cs, h3, h4, h5⟩ := h2 i u hu
      have hi : i < l.length := (List.getElem?_eq_some_iff.1 hu).1
      obtain ⟨cs0, h30, h40, _⟩ := h2 0 l[0] (by rw [List.getElem?_eq_getElem])
      obtain ⟨hk1, hk2⟩ := cells?_get h30
      have hsp : a.spot = none := by
        have := hk2 0 cs0[0] (List.getElem?_eq_getElem (by omega))
        simp [Addr.add] at this
        exact World.cell?_spot this
      obtain ⟨b, o, sp⟩ := a
      simp only at hsp; subst hsp
      refine ⟨b, o, cs, rfl, ?_, h4⟩
      obtain ⟨hc1, hc2⟩ := cells?_get h3
      have hadd : ∀ j k : Nat, ((⟨b, o, none⟩ : Addr).add j).add k = ⟨b, o + j + k, none⟩ := fun j k => by
        unfold Addr.add; (repeat' split) <;> simp_all
      have hblk : ∃ c T fz, w.heap[b]? = some (.cells c T fz) := by
        have := hc2 0 cs[0] (List.getElem?_eq_getElem (by omega))
        rw [hadd] at this
        unfold World.cell? at this
        split at this
        · rename_i c T fz hh; exact ⟨c, T, fz, hh⟩
        · cases this
      obtain ⟨c, T, fz, hh⟩ := hblk
      refine ⟨c, T, fz, hh, fun j v hj => ?_⟩
      have := hc2 j v hj
      rw [hadd] at this
      unfold World.cell? at this
      simpa [hh] using this
    · obtain ⟨i, hi, rfl⟩ := List.getElem_of_mem hu
      obtain ⟨_, _, _, h5⟩ := h2 i _ (List.getElem?_eq_getElem hi)
      exact h5
end Go.XL

/- What is handed to a law of the codec, opened from its reading; facts on values that the laws ask. -/
set_option autoImplicit false
set_option linter.unusedVariables false
set_option linter.unusedSimpArgs false
namespace Go.Proofs
open Go.XL Go.RowKit Go.ChangeShapes Go.WideShapes
theorem open_agg {P : Program} {t : TypeId} {α : Type} {ρ : Rep α} {wf : α → Prop} (ho : Opens P t ρ wf) {fs : Array Field} (ht : P.underlying t = some (.struct fs)) {W : World} {r : Reach} {base : Nat} {v : Value} (hv : Value.okWide P W r base t v)
    {H : Type} {enc : TypeId × Value → H} {b2 : Nat} {spare : Nat → Bool} {held : Bool} {fuel : Nat} {x : DataW H × List MemPlace} (h : DataW.trod enc P W b2 spare held fuel t v.cells.toList = some x) : ∃ u l, v = .agg ⟨l⟩ ∧ ρ.R (hpOf W) l u ∧ wf u := by
  obtain ⟨cs, rfl, _⟩ := okWide_struct ht hv
  obtain ⟨u, hR, hw⟩ := ho enc W b2 spare held fuel _ _ h
  exact ⟨u, cs.toList, rfl, hR, hw⟩
theorem opens_u8 : Opens Try.prog 5 u8R (fun _ => True) := by
  intro H enc w base spare held fuel cs x h
  obtain ⟨n, rfl, _, hw⟩ := DataW.trod_int Try.underlying5 h
  have := wf_u8 hw
  refine ⟨UInt8.ofNat n.toNat, ?_, trivial⟩
  show [Value.int .u8 n] = [Value.int .u8 ((UInt8.ofNat n.toNat).toNat : Nat)]
  have h2 : (UInt8.ofNat n.toNat).toNat = n.toNat := by simp [UInt8.toNat_ofNat']; omega
  rw [h2, show ((n.toNat : Nat) : Int) = n by omega]
theorem opens_bytes : Opens Try.prog 27 (slR u8R) (fun l => l.length ≤ maxLen ∧ ∀ p ∈ l, True) := Opens.slice Try.underlying27 (by kernel_rfl) (by decide) opens_u8
theorem bs_of (s : ByteArray) : bsOf s.data.toList = s := by simp [bsOf]
theorem opens_valN : ∀ N, OpensN N Try.prog 24 valR Fit
  | 0 => by
    intro enc w base spare held fuel cs x hN h
    obtain ⟨_, n, hn, _⟩ := DataW.trod_struct Try.underlying24 h
    omega
  | N + 1 => by
    intro enc w base spare held fuel cs x hN h
    obtain ⟨xs, m, hm, _, hl, hxs, hf⟩ := DataW.trod_struct Try.underlying24 h
    rw [show Try.prog.cellsOf 24 = 4 by kernel_rfl] at hl
    match cs, hl, xs, hxs with
    | [u, v, s, t], _, [y0, y1, y2, y3], _ =>
      have h0 : DataW.trod enc Try.prog w base spare held m 3 ([u, v, s, t].take (Try.prog.cellsOf 3)) = some y0 := hf 0 _ rfl
      have h1 : DataW.trod enc Try.prog w base spare held m 3 ([v, s, t].take (Try.prog.cellsOf 3)) = some y1 := hf 1 _ rfl
      have h2 : DataW.trod enc Try.prog w base spare held m 9 ([s, t].take (Try.prog.cellsOf 9)) = some y2 := hf 2 _ rfl
      have h3 : DataW.trod enc Try.prog w base spare held m 22 ([t].take (Try.prog.cellsOf 22)) = some y3 := hf 3 _ rfl
      simp only [show Try.prog.cellsOf 3 = 1 by kernel_rfl, show Try.prog.cellsOf 9 = 1 by kernel_rfl, show Try.prog.cellsOf 22 = 1 by kernel_rfl] at h0 h1 h2 h3
      obtain ⟨k, hk, _, wk⟩ := DataW.trod_int Try.underlying3 h0
      obtain ⟨n, hn, _, wn⟩ := DataW.trod_int Try.underlying3 h1
      obtain ⟨b, hb, _, wb⟩ := DataW.trod_string Try.underlying9 h2
      have hsl : OpensN N Try.prog 22 (slR valR) (fun l => l.length ≤ maxLen ∧ ∀ p ∈ l, Fit p) := by
        cases N with
        | zero =>
          intro H enc w base spare held fuel cs x hN h
          obtain rfl : fuel = 0 := by omega
          rcases DataW.trod_slice Try.underlying22 h with ⟨rfl, _⟩ | ⟨_, _, _, _, _, _, hn, _⟩
          · exact ⟨[], ⟨none, 0, rfl, SlR.nil0 _ _⟩, Nat.zero_le _, by simp⟩
          · omega
        | succ N => exact OpensN.slice Try.underlying22 (by kernel_rfl) (by decide) (opens_valN N)
      obtain ⟨l, ⟨a, c, hd, hs⟩, wd⟩ := hsl enc w base spare held m _ _ (by omega) h3
      simp at hk hn hb hd; subst hk; subst hn; subst hb; subst hd
      unfold maxLen at wb wd
      refine ⟨.mk k n b.data.toList l, valR_iff.2 ⟨a, c, by rw [bs_of], hs⟩, .mk _ _ _ _ (wf_i64 wn) ?_ (by omega) wd.2⟩
      have : b.data.toList.length = b.size := rfl
      omega
theorem opens_val : Opens Try.prog 24 valR Fit := Opens.ofN opens_valN
theorem opens_vals : Opens Try.prog 22 (slR valR) (fun l => l.length ≤ maxLen ∧ ∀ p ∈ l, Fit p) := Opens.slice Try.underlying22 (by kernel_rfl) (by decide) opens_val
/-- a value taken apart -/
theorem val_open {H : Hp} {cs : List Value} {u : Val} (h : valR.R H cs u) (hf : Fit u) : ∃ k n s l a c, u = .mk k n s l ∧ cs = [.int .i64 k, .int .i64 n, .string (bsOf s), .slice a l.length c] ∧ SlR valR H a c l ∧ Fit (.mk k n s l) := by
  obtain ⟨k, n, s, l⟩ := u
  obtain ⟨a, c, h1, h2⟩ := valR_iff.1 h
  exact ⟨k, n, s, l, a, c, rfl, h1, h2, hf⟩
theorem val_eta (u : Val) : Val.mk u.K u.N u.S u.L = u := by cases u; rfl
theorem dec_wsz {b : List UInt8} (h : b.length ≤ 100000) : wszV (decV b).1 ≤ 1000000 := by
  rcases dec_cases b with ⟨h1, h2, h3⟩ | h1
  · have := wsz_enc (decV b).1 (chk0_formed h3)
    rw [← h2] at this; omega
  · rw [h1]; exact w_v0
theorem same_self (u : Val) : sameV u u = true := (sameV_iff u u).2 rfl
theorem eB_len {u : Val} (hf : Fit u) (hw : wszV u ≤ 1000000) : (eB u).length ≤ 1000000 := by
  unfold eB; split
  · have := enc_wsz u hf; omega
  · simp
theorem pre_app {a b : List UInt8} (h : a = b.take a.length) : a ++ b.drop a.length = b := by
  have := List.take_append_drop a.length b
  rw [← h] at this; exact this
/-- no code of a value is the beginning of another's -/
theorem enc_apart {u v : Val} (h1 : chkV u = 0) (h2 : chkV v = 0) (f1 : Fit u) (f2 : Fit v) {n : Nat} (hn : n = min (eB u).length (eB v).length) (h : (eB u).take n = (eB v).take n) : u = v := by
  have e1 : eB u = encV u := by unfold eB; rw [if_pos h1]
  have e2 : eB v = encV v := by unfold eB; rw [if_pos h2]
  have d1 : depthV u ≤ 16 := by
    have := chk0_formed h1; unfold chkV at h1; rw [if_pos this] at h1; split at h1 <;> omega
  have d2 : depthV v ≤ 16 := by
    have := chk0_formed h2; unfold chkV at h2; rw [if_pos this] at h2; split at h2 <;> omega
  rw [e1, e2] at h hn
  rcases Nat.le_total (encV u).length (encV v).length with hl | hl
  · rw [hn, Nat.min_eq_left hl, List.take_length] at h
    have h3 := valP_to 16 u ((encV v).drop (encV u).length) (chk0_formed h1) d1 f1
    have h4 := valP_to 16 v [] (chk0_formed h2) d2 f2
    rw [List.append_nil] at h4
    have : encV u ++ (encV v).drop (encV u).length = encV v := pre_app h
    rw [this, h4] at h3
    simp only [Option.some.injEq, Prod.mk.injEq] at h3
    exact h3.1.symm
  · rw [hn, Nat.min_eq_right hl, List.take_length] at h
    have h3 := valP_to 16 v ((encV u).drop (encV v).length) (chk0_formed h2) d2 f2
    have h4 := valP_to 16 u [] (chk0_formed h1) d1 f1
    rw [List.append_nil] at h4
    have : encV v ++ (encV u).drop (encV v).length = encV u := pre_app h.symm
    rw [this, h4] at h3
    simp only [Option.some.injEq, Prod.mk.injEq] at h3
    exact h3.1
theorem numL_mono : ∀ (j u v : Nat), u < 128 ^ (j + 1) → u ≤ v → (numL u).length ≤ (numL v).length
  | 0, u, v, hu, h => by
    rw [numL, dif_pos (by simpa using hu)]; have := numL_pos v; simp; omega
  | j + 1, u, v, hu, h => by
    rw [numL]; split
    · have := numL_pos v; simp; omega
    · rw [numL.eq_1 v, dif_neg (by omega)]
      have := numL_mono j (u / 128) (v / 128) (by rw [Nat.pow_succ] at hu; omega) (by omega)
      simp; omega
def sizN (n : Int) : Nat := (eB (.mk 1 n [] [])).length
theorem chk_int (n : Int) : chkV (.mk 1 n [] []) = 0 := by simp [chkV, formedB, depthV]
theorem eB_int (n : Int) : eB (.mk 1 n [] []) = 1 :: numL (unsV n) := by
  unfold eB; rw [if_pos (chk_int n), encV, if_pos rfl]
theorem siz_eq (n : Int) : sizN n = (numL (unsV n)).length + 1 := by unfold sizN; rw [eB_int]; simp
theorem siz_bounds {n : Int} (h : -9223372036854775808 ≤ n ∧ n ≤ 9223372036854775807) : 2 ≤ sizN n ∧ sizN n ≤ 11 := by
  rw [siz_eq]; have := numL_pos (unsV n); have := numL_10 (uns_lt h); omega
theorem siz_mono {a b : Int} (ha : -9223372036854775808 ≤ a ∧ a ≤ 9223372036854775807) (h : (0 ≤ a ∧ a ≤ b) ∨ (a < 0 ∧ b ≤ a)) : sizN a ≤ sizN b := by
  rw [siz_eq, siz_eq]
  have := numL_mono 9 (unsV a) (unsV b) (Nat.lt_of_lt_of_le (uns_lt ha) (by decide)) (by unfold unsV; split <;> split <;> omega)
  omega
theorem dec_int {n : Int} (h : -9223372036854775808 ≤ n ∧ n ≤ 9223372036854775807) : decV (eB (.mk 1 n [] [])) = (.mk 1 n [] [], 0) := by
  have e : eB (.mk 1 n [] []) = encV (.mk 1 n [] []) := by unfold eB; rw [if_pos (chk_int n)]
  rw [e]; exact dec_enc (chk_int n) (fit1 n h)
theorem w_int (n : Int) : wszV (.mk 1 n [] []) ≤ 1000000 := by simp [wszV, wszL]
theorem dec_eB {u : Val} (h : chkV u = 0) (hf : Fit u) : decV (eB u) = (u, 0) := by
  have e : eB u = encV u := by unfold eB; rw [if_pos h]
  rw [e]; exact dec_enc h hf
theorem dec_bad {b : List UInt8} (h : (decV b).2 ≠ 0) : (decV b).2 = 10 ∧ sameV (.mk (decV b).1.K (decV b).1.N (decV b).1.S (decV b).1.L) (.mk 0 0 [] []) = true := by
  rcases dec_cases b with ⟨h1, _⟩ | h1
  · exact absurd h1 h
  · rw [h1]; exact ⟨rfl, same_self _⟩
theorem dec_good {b : List UInt8} (h : (decV b).2 = 0) (hl : b.length < 2 ^ 63) : chkV (.mk (decV b).1.K (decV b).1.N (decV b).1.S (decV b).1.L) = 0 ∧ eB (.mk (decV b).1.K (decV b).1.N (decV b).1.S (decV b).1.L) = b ∧ Fit (.mk (decV b).1.K (decV b).1.N (decV b).1.S (decV b).1.L) := by
  rw [val_eta]
  rcases dec_cases b with ⟨_, h2, h3⟩ | h1
  · refine ⟨h3, by unfold eB; rw [if_pos h3]; exact h2.symm, ?_⟩
    have hd : decV b = ((decV b).1, 0) := by rw [← h]
    unfold decV at hd
    cases hv : valP 16 b with
    | none => rw [hv] at hd; cases hd
    | some x =>
      obtain ⟨w, r⟩ := x
      have hb := (valP_of hv).1
      have hw : (decV b).1 = w := by
        rcases Nat.eq_zero_or_pos r.length with hr | hr
        · rw [dec_all hv hr]
        · rw [dec_rest hv (by omega)] at h; cases h
      rw [hw]
      refine valP_fit 16 b w r hv ?_
      have : b.length = (encV w).length + r.length := by rw [hb, List.length_append]
      omega
  · rw [h1] at h; cases h
theorem w_list {l : List Val} (h : ∀ x ∈ l, wszV x ≤ 44000) (hl : l.length ≤ 20) : wszV (.mk 3 0 [] l) ≤ 1000000 := by
  have : ∀ l : List Val, (∀ x ∈ l, wszV x ≤ 44000) → wszL l ≤ 44000 * l.length := by
    intro l
    induction l with
    | nil => intro _; simp [wszL]
    | cons x r ih =>
      intro h
      have h1 := h x (by simp)
      have h2 := ih fun y hy => h y (by simp [hy])
      rw [wszL, List.length_cons]; omega
  have h2 := this l h
  rw [wszV, List.length_nil]; omega
theorem fit_list {l : List Val} (h : ∀ x ∈ l, Fit x) (hl : l.length < 9223372036854775808) : Fit (.mk 3 0 [] l) := .mk _ _ _ _ (by decide) (by simp) (by omega) h
theorem depthL_mem {x : Val} : ∀ {l : List Val}, x ∈ l → depthV x ≤ depthL l
  | y :: r, h => by
    rw [depthL]
    rcases List.mem_cons.1 h with rfl | h
    · omega
    · have := depthL_mem h; omega
theorem chk_list_no {l : List Val} {x : Val} (hx : x ∈ l) (h : chkV x ≠ 0) : chkV (.mk 3 0 [] l) ≠ 0 := by
  intro h0
  have hf := chk0_formed h0
  have hl := (formed3.1 hf).2
  have hfx := formedL_iff.1 hl x hx
  unfold chkV at h0 h
  rw [if_pos hf] at h0
  rw [if_pos hfx] at h
  have hd := depthL_mem hx
  rw [depthV, if_pos rfl] at h0
  split at h0
  · cases h0
  · rw [if_neg (by omega)] at h; exact h rfl
/-- what the law on lists says, at the end of the loop -/
theorem chk_list {l : List Val} (h : ∀ x ∈ l, chkV x = 0) : chkV (.mk 3 0 [] l) = 0 ∨ chkV (.mk 3 0 [] l) = 2 := by
  have hf : formedB (.mk 3 0 [] l) = true := formed3.2 ⟨⟨rfl, rfl⟩, formedL_iff.2 fun x hx => chk0_formed (h x hx)⟩
  unfold chkV
  rw [if_pos hf]; split <;> simp
def zerosV (n : Nat) : List Val := List.replicate n (.mk 1 0 [] [])
theorem zeros_snoc (n : Nat) : zerosV (n + 1) = zerosV n ++ [.mk 1 0 [] []] := List.replicate_succ'
theorem chk_zeros (n : Nat) : chkV (.mk 3 0 [] (zerosV n)) = 0 := by
  have hf : formedB (.mk 3 0 [] (zerosV n)) = true := formed3.2 ⟨⟨rfl, rfl⟩, formedL_iff.2 fun x hx => by rw [(List.mem_replicate.1 hx).2]; simp [formedB]⟩
  have hd : depthL (zerosV n) ≤ 0 := depthL_le.2 fun x hx => by rw [(List.mem_replicate.1 hx).2]; simp [depthV]
  unfold chkV
  rw [if_pos hf, if_neg (by rw [depthV, if_pos rfl]; omega)]
theorem eB_list {l : List Val} (h : chkV (.mk 3 0 [] l) = 0) : eB (.mk 3 0 [] l) = (3 :: numL l.length) ++ encL l := by
  unfold eB; rw [if_pos h, encV3]; simp
theorem encL_zeros : ∀ n, (encL (zerosV n)).length = 2 * n
  | 0 => rfl
  | n + 1 => by
    rw [zerosV, List.replicate_succ, encL, List.length_append]
    have := encL_zeros n
    unfold zerosV at this
    rw [this, encV, if_pos rfl]
    simp [numL, unsV]; omega
theorem len_zeros (n : Nat) : (zerosV n).length = n := by simp [zerosV]
theorem eB_zeros (n : Nat) : (eB (.mk 3 0 [] (zerosV n))).length = 1 + (numL n).length + 2 * n := by
  rw [eB_list (chk_zeros n), List.length_append, encL_zeros, len_zeros, List.length_cons]; omega
theorem eB_list_len {l : List Val} (h : chkV (.mk 3 0 [] l) = 0) : (eB (.mk 3 0 [] l)).length = 1 + (numL l.length).length + (encL l).length := by
  rw [eB_list h, List.length_append, List.length_cons]; omega
theorem eB_list_drop {l : List Val} (h : chkV (.mk 3 0 [] l) = 0) {n : Nat} (hn : n = 1 + (numL l.length).length) : (eB (.mk 3 0 [] l)).drop n = encL l := by
  rw [eB_list h, List.drop_append_of_le_length (by simp; omega), List.drop_eq_nil_of_le (by simp; omega)]; rfl
theorem w_zeros {n : Nat} (h : n ≤ 20) : wszV (.mk 3 0 [] (zerosV n)) ≤ 1000000 := w_list (fun x hx => by rw [(List.mem_replicate.1 hx).2]; simp [wszV, wszL]) (by rw [len_zeros]; exact h)
theorem fit_zeros {n : Nat} (h : n ≤ 20) : Fit (.mk 3 0 [] (zerosV n)) := fit_list (fun x hx => by rw [(List.mem_replicate.1 hx).2]; exact fit1 0 (by decide)) (by rw [len_zeros]; omega)
theorem eB_enc {u : Val} (h : chkV u = 0) : eB u = encV u := by unfold eB; rw [if_pos h]
end Go.Proofs
