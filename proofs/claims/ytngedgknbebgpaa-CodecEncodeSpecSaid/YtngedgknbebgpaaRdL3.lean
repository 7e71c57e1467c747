/- The law CodecEncodeSpec: it returns true, whatever the input, and what it was handed reads as before. No condition. -/
import Derived.Test.YtngedgknbebgpaaB7
import Derived.Test.YtngedgknbebgpaaB2
import Derived.Test.YtngedgknbebgpaaRows
import Derived.WalkKit
import Derived.ProofKit
import Derived.OpenShut
import Derived.ShutString
import Derived.ChangeOld
import Derived.Below
set_option autoImplicit false
set_option linter.unusedVariables false
set_option linter.unusedSimpArgs false
namespace Go.Proofs.Ytngedgknbebgpaa
open Go.XL



set_option maxRecDepth 100000 in
set_option maxHeartbeats 1600000 in
theorem codecEncodeSpec_fn (k n : Int) (s : List UInt8) (l : List Val) (a : Option Addr) (c : Nat) (H : Hp) (hf : Fit (.mk k n s l)) (hs : SlR valR H a c l) : FnC Try.prog 3 #[.agg ⟨[.int .i64 k, .int .i64 n, .string (bsOf s), .slice a l.length c]⟩] H [] (RetR (fun v _ _ => v = .bool true)) := by
  refine FnC.intro (args := [.agg ⟨[.int .i64 k, .int .i64 n, .string (bsOf s), .slice a l.length c]⟩]) Try.func3 rfl rfl Try.ntmps3 rfl rfl rfl fun G rest => ?_
  refine XC.seq ?_
  refine XC.region ?_
  refine XO.box rfl rfl rfl (fun b1 => ?_)
  refine XO.assign rfl rfl ?_
  refine XO.nil ?_
  refine XC.seq2 ?_
  refine XC.seq ?_
  refine XC.seq ?_
  refine XC.region ?_
  refine XO.callV rfl (sane01 _) rfl ?_
  refine XO.notB rfl rfl ?_
  refine XO.nil ?_
  refine XC.seq2 ?_
  refine XC.condF rfl (rfl) ?_
  refine XC.skip ?_
  refine XC.seq2 ?_
  refine XC.seq ?_
  refine XC.seq ?_
  refine XC.region ?_
  refine XO.loadO 0 rfl rfl ty_24 rfl rfl rfl ?_
  refine XO.buildSlice rfl Try.underlying22 ty_24 ze_24 rfl rfl rfl (fun b14 => ?_)
  refine XO.publish 0 rfl rfl rfl (fun HP14 hoP14 hleP14 hbP14 hsoP14 => ?_)
  replace hs := hs.mono hleP14
  have hsl14 := SlR.lit (ρ := valR) (l := [.mk k n s l]) hbP14 hsoP14 (RowsR.one1 (valR_iff.2 ⟨_, _, rfl, hs⟩))
  have hcall := few_fn _ _ [.mk k n s l] _ hsl14 (by simp only [List.mem_cons, List.not_mem_nil, or_false, forall_eq_or_imp, forall_eq]; exact hf) (by simp)
  refine XO.callK rfl hcall rfl ?_
  rintro _ ⟨bf, rfl, hfew⟩
  refine XO.notB rfl rfl ?_
  refine XO.nil ?_
  refine XC.seq2 ?_
  refine XC.condB rfl (fun c1_3 => ?_) (fun c1_3 => ?_)
  · refine XC.seq ?_
    refine XC.region ?_
    refine XO.assign rfl rfl ?_
    refine XO.nil ?_
    refine XC.seq2 ?_
    refine XC.ret ?_
    refine seqX_ret ?_
    refine ⟨rfl, _, [], rfl, (by repeat (first | exact List.Sublist.refl _ | apply List.Sublist.cons)), RetR.mk ?_⟩
    first | rfl | exact congrArg Value.bool (decide_eq_true rfl)
  · obtain rfl : bf = true := by simpa using c1_3
    have hv : wszV (.mk k n s l) ≤ 44000 := hfew rfl _ (by simp)
    have hw : wszV (.mk k n s l) ≤ 1000000 := by omega
    refine XC.skip ?_
    refine XC.seq2 ?_
    refine XC.seq ?_
    refine XC.region ?_
    refine XO.loadO 0 rfl rfl ty_24 rfl rfl rfl ?_
    refine XO.callH rfl (enc_fn k n s l a c _ hw hf hs) rfl ?_
    rintro _ HN19 hleN19 ⟨aN19, cN19, hN19, rfl⟩
    replace hs := hs.mono hleN19
    replace hsl14 := hsl14.mono hleN19
    refine XO.move rfl rfl ?_
    refine XO.extract rfl rfl rfl ?_
    refine XO.extract rfl rfl rfl ?_
    refine XO.assign rfl rfl ?_
    refine XO.assign rfl rfl ?_
    refine XO.nil ?_
    refine XC.seq2 ?_
    refine XC.seq ?_
    refine XC.region ?_
    refine XO.loadO 0 rfl rfl ty_24 rfl rfl rfl ?_
    refine XO.callH rfl (renc_fn k n s l a c _ hw hf hs) rfl ?_
    rintro _ HN24 hleN24 ⟨aN24, cN24, hN24, rfl⟩
    replace hs := hs.mono hleN24
    replace hsl14 := hsl14.mono hleN24
    replace hN19 := hN19.mono hleN24
    refine XO.move rfl rfl ?_
    refine XO.extract rfl rfl rfl ?_
    refine XO.extract rfl rfl rfl ?_
    refine XO.assign rfl rfl ?_
    refine XO.assign rfl rfl ?_
    refine XO.nil ?_
    refine XC.seq2 ?_
    refine XC.seq ?_
    refine XC.region ?_
    refine XO.loadO 0 rfl rfl ty_24 rfl rfl rfl ?_
    refine XO.callV rfl (size_fn k n s l a c _ hw hf hs) rfl ?_
    refine XO.move rfl rfl ?_
    refine XO.extract rfl rfl rfl ?_
    refine XO.extract rfl rfl rfl ?_
    refine XO.assign rfl rfl ?_
    refine XO.assign rfl rfl ?_
    refine XO.nil ?_
    refine XC.seq2 ?_
    refine XC.seq ?_
    refine XC.region ?_
    refine XO.loadO 0 rfl rfl ty_24 rfl rfl rfl ?_
    refine XO.callV rfl (rsize_fn k n s l a c _ hw hf hs) rfl ?_
    refine XO.move rfl rfl ?_
    refine XO.extract rfl rfl rfl ?_
    refine XO.extract rfl rfl rfl ?_
    refine XO.assign rfl rfl ?_
    refine XO.assign rfl rfl ?_
    refine XO.nil ?_
    refine XC.seq2 ?_
    refine XC.seq ?_
    refine XC.keep [1, 3, 4, 5, 6, 7, 8, 9, 10] rfl ?_
    apply XC.drawH (fun _ => True) trivial [] (by decide) (fun _ _ _ _ => True) (fun _ _ _ _ _ _ h => h) 24 [eqF _, eqF _, eqF _, eqF _, eqF _, eqF _, eqF _, eqF _, eqF _, eqF _, eqF _, eqF _, eqF _, eqF _, eqF _, eqF _, eqF _, eqF _, eqF _, eqF _, eqF _, eqF _, eqF _, eqF _] follows (by kernel_rfl) ⟨eqF_mono _, eqF_mono _, eqF_mono _, eqF_mono _, eqF_mono _, eqF_mono _, eqF_mono _, eqF_mono _, eqF_mono _, eqF_mono _, eqF_mono _, eqF_mono _, eqF_mono _, eqF_mono _, eqF_mono _, eqF_mono _, eqF_mono _, eqF_mono _, eqF_mono _, eqF_mono _, eqF_mono _, eqF_mono _, eqF_mono _, eqF_mono _, trivial⟩ (by decide) ?steps8 ?tail8
    case steps8 =>
      refine stepsH_cons rfl ?_ ?_
      · intro X ext HD hleD _
        replace hs := hs.mono hleD
        replace hsl14 := hsl14.mono hleD
        replace hN19 := hN19.mono hleD
        replace hN24 := hN24.mono hleD
        refine withP_nil rfl ?_
        refine XO.move rfl rfl ?_
        refine XO.nil ?_
        exact stepQN_ok rfl trivial (rfl)
      refine stepsH_cons rfl ?_ ?_
      · intro X ext HD hleD _
        replace hs := hs.mono hleD
        replace hsl14 := hsl14.mono hleD
        replace hN19 := hN19.mono hleD
        replace hN24 := hN24.mono hleD
        refine withP_cons rfl rfl ?_
        rintro _ rfl
        refine withP_nil rfl ?_
        refine XO.b2s rfl hN19 Try.underlying27 Try.underlying5 Try.underlying9 rfl ?_
        refine XO.nil ?_
        exact stepQN_ok rfl trivial (rfl)
      refine stepsH_cons rfl ?_ ?_
      · intro X ext HD hleD _
        replace hs := hs.mono hleD
        replace hsl14 := hsl14.mono hleD
        replace hN19 := hN19.mono hleD
        replace hN24 := hN24.mono hleD
        refine withP_nil rfl ?_
        refine XO.move rfl rfl ?_
        refine XO.nil ?_
        exact stepQN_ok rfl trivial (rfl)
      refine stepsH_cons rfl ?_ ?_
      · intro X ext HD hleD _
        replace hs := hs.mono hleD
        replace hsl14 := hsl14.mono hleD
        replace hN19 := hN19.mono hleD
        replace hN24 := hN24.mono hleD
        refine withP_cons rfl rfl ?_
        rintro _ rfl
        refine withP_nil rfl ?_
        refine XO.b2s rfl hN24 Try.underlying27 Try.underlying5 Try.underlying9 rfl ?_
        refine XO.nil ?_
        exact stepQN_ok rfl trivial (rfl)
      refine stepsH_cons rfl ?_ ?_
      · intro X ext HD hleD _
        replace hs := hs.mono hleD
        replace hsl14 := hsl14.mono hleD
        replace hN19 := hN19.mono hleD
        replace hN24 := hN24.mono hleD
        refine withP_cons rfl rfl ?_
        rintro _ rfl
        refine withP_cons rfl rfl ?_
        rintro _ rfl
        refine withP_nil rfl ?_
        refine XO.eqlS rfl rfl rfl ?_
        refine XO.nil ?_
        exact stepQN_ok rfl trivial (rfl)
      refine stepsH_cons rfl ?_ ?_
      · intro X ext HD hleD _
        replace hs := hs.mono hleD
        replace hsl14 := hsl14.mono hleD
        replace hN19 := hN19.mono hleD
        replace hN24 := hN24.mono hleD
        refine withP_cons rfl rfl ?_
        rintro _ rfl
        refine withP_nil rfl ?_
        refine XO.move rfl rfl ?_
        refine XO.nil ?_
        exact stepQN_ok rfl trivial (rfl)
      refine stepsH_cons rfl ?_ ?_
      · intro X ext HD hleD _
        replace hs := hs.mono hleD
        replace hsl14 := hsl14.mono hleD
        replace hN19 := hN19.mono hleD
        replace hN24 := hN24.mono hleD
        refine withP_cons rfl rfl ?_
        rintro _ rfl
        refine withP_nil rfl ?_
        refine XO.guardT rfl rfl (decide_eq_true rfl) rfl ?_
        refine XO.move rfl rfl ?_
        refine XO.nil ?_
        exact stepQN_ok rfl trivial (rfl)
      refine stepsH_cons rfl ?_ ?_
      · intro X ext HD hleD _
        replace hs := hs.mono hleD
        replace hsl14 := hsl14.mono hleD
        replace hN19 := hN19.mono hleD
        replace hN24 := hN24.mono hleD
        refine withP_cons rfl rfl ?_
        rintro _ rfl
        refine withP_nil rfl ?_
        refine XO.guardT rfl rfl (decide_eq_true rfl) rfl ?_
        refine XO.move rfl rfl ?_
        refine XO.nil ?_
        exact stepQN_ok rfl trivial (rfl)
      refine stepsH_cons rfl ?_ ?_
      · intro X ext HD hleD _
        replace hs := hs.mono hleD
        replace hsl14 := hsl14.mono hleD
        replace hN19 := hN19.mono hleD
        replace hN24 := hN24.mono hleD
        refine withP_cons rfl rfl ?_
        rintro _ rfl
        refine withP_cons rfl rfl ?_
        rintro _ rfl
        refine withP_cons rfl rfl ?_
        rintro _ rfl
        refine withP_nil rfl ?_
        refine XO.guardT rfl rfl (decide_eq_true rfl) rfl ?_
        refine XO.eql rfl rfl rfl ?_
        refine XO.nil ?_
        exact stepQN_ok rfl trivial (rfl)
      refine stepsH_cons rfl ?_ ?_
      · intro X ext HD hleD _
        replace hs := hs.mono hleD
        replace hsl14 := hsl14.mono hleD
        replace hN19 := hN19.mono hleD
        replace hN24 := hN24.mono hleD
        refine withP_cons rfl rfl ?_
        rintro _ rfl
        refine withP_cons rfl rfl ?_
        rintro _ rfl
        refine withP_nil rfl ?_
        refine XO.pickT rfl (decide_eq_true rfl) rfl rfl ?_
        refine XO.nil ?_
        exact stepQN_ok rfl trivial (rfl)
      refine stepsH_cons rfl ?_ ?_
      · intro X ext HD hleD _
        replace hs := hs.mono hleD
        replace hsl14 := hsl14.mono hleD
        replace hN19 := hN19.mono hleD
        replace hN24 := hN24.mono hleD
        refine withP_cons rfl rfl ?_
        rintro _ rfl
        refine withP_nil rfl ?_
        refine XO.move rfl rfl ?_
        refine XO.nil ?_
        exact stepQN_ok rfl trivial (rfl)
      refine stepsH_cons rfl ?_ ?_
      · intro X ext HD hleD _
        replace hs := hs.mono hleD
        replace hsl14 := hsl14.mono hleD
        replace hN19 := hN19.mono hleD
        replace hN24 := hN24.mono hleD
        refine withP_cons rfl rfl ?_
        rintro _ rfl
        refine withP_nil rfl ?_
        refine XO.guardT rfl rfl (decide_eq_true rfl) rfl ?_
        refine XO.move rfl rfl ?_
        refine XO.nil ?_
        exact stepQN_ok rfl trivial (rfl)
      refine stepsH_cons rfl ?_ ?_
      · intro X ext HD hleD _
        replace hs := hs.mono hleD
        replace hsl14 := hsl14.mono hleD
        replace hN19 := hN19.mono hleD
        replace hN24 := hN24.mono hleD
        refine withP_cons rfl rfl ?_
        rintro _ rfl
        refine withP_nil rfl ?_
        refine XO.guardT rfl rfl (decide_eq_true rfl) rfl ?_
        refine XO.move rfl rfl ?_
        refine XO.nil ?_
        exact stepQN_ok rfl trivial (rfl)
      refine stepsH_cons rfl ?_ ?_
      · intro X ext HD hleD _
        replace hs := hs.mono hleD
        replace hsl14 := hsl14.mono hleD
        replace hN19 := hN19.mono hleD
        replace hN24 := hN24.mono hleD
        refine withP_cons rfl rfl ?_
        rintro _ rfl
        refine withP_cons rfl rfl ?_
        rintro _ rfl
        refine withP_cons rfl rfl ?_
        rintro _ rfl
        refine withP_nil rfl ?_
        refine XO.guardT rfl rfl (decide_eq_true rfl) rfl ?_
        refine XO.eql rfl rfl rfl ?_
        refine XO.nil ?_
        exact stepQN_ok rfl trivial (rfl)
      refine stepsH_cons rfl ?_ ?_
      · intro X ext HD hleD _
        replace hs := hs.mono hleD
        replace hsl14 := hsl14.mono hleD
        replace hN19 := hN19.mono hleD
        replace hN24 := hN24.mono hleD
        refine withP_cons rfl rfl ?_
        rintro _ rfl
        refine withP_cons rfl rfl ?_
        rintro _ rfl
        refine withP_nil rfl ?_
        refine XO.pickT rfl (decide_eq_true rfl) rfl rfl ?_
        refine XO.nil ?_
        exact stepQN_ok rfl trivial (rfl)
      refine stepsH_cons rfl ?_ ?_
      · intro X ext HD hleD _
        replace hs := hs.mono hleD
        replace hsl14 := hsl14.mono hleD
        replace hN19 := hN19.mono hleD
        replace hN24 := hN24.mono hleD
        refine withP_cons rfl rfl ?_
        rintro _ rfl
        refine withP_nil rfl ?_
        refine XO.move rfl rfl ?_
        refine XO.nil ?_
        exact stepQN_ok rfl trivial (rfl)
      refine stepsH_cons rfl ?_ ?_
      · intro X ext HD hleD _
        replace hs := hs.mono hleD
        replace hsl14 := hsl14.mono hleD
        replace hN19 := hN19.mono hleD
        replace hN24 := hN24.mono hleD
        refine withP_cons rfl rfl ?_
        rintro _ rfl
        refine withP_nil rfl ?_
        refine XO.guardT rfl rfl (decide_eq_true rfl) rfl ?_
        refine XO.move rfl rfl ?_
        refine XO.nil ?_
        exact stepQN_ok rfl trivial (rfl)
      refine stepsH_cons rfl ?_ ?_
      · intro X ext HD hleD _
        replace hs := hs.mono hleD
        replace hsl14 := hsl14.mono hleD
        replace hN19 := hN19.mono hleD
        replace hN24 := hN24.mono hleD
        refine withP_cons rfl rfl ?_
        rintro _ rfl
        refine withP_nil rfl ?_
        refine XO.guardT rfl rfl (decide_eq_true rfl) rfl ?_
        refine XO.move rfl rfl ?_
        refine XO.nil ?_
        exact stepQN_ok rfl trivial (rfl)
      refine stepsH_cons rfl ?_ ?_
      · intro X ext HD hleD _
        replace hs := hs.mono hleD
        replace hsl14 := hsl14.mono hleD
        replace hN19 := hN19.mono hleD
        replace hN24 := hN24.mono hleD
        refine withP_cons rfl rfl ?_
        rintro _ rfl
        refine withP_cons rfl rfl ?_
        rintro _ rfl
        refine withP_cons rfl rfl ?_
        rintro _ rfl
        refine withP_nil rfl ?_
        refine XO.guardT rfl rfl (decide_eq_true rfl) rfl ?_
        refine XO.eql rfl rfl rfl ?_
        refine XO.nil ?_
        exact stepQN_ok rfl trivial (rfl)
      refine stepsH_cons rfl ?_ ?_
      · intro X ext HD hleD _
        replace hs := hs.mono hleD
        replace hsl14 := hsl14.mono hleD
        replace hN19 := hN19.mono hleD
        replace hN24 := hN24.mono hleD
        refine withP_cons rfl rfl ?_
        rintro _ rfl
        refine withP_cons rfl rfl ?_
        rintro _ rfl
        refine withP_nil rfl ?_
        refine XO.pickT rfl (decide_eq_true rfl) rfl rfl ?_
        refine XO.nil ?_
        exact stepQN_ok rfl trivial (rfl)
      refine stepsH_cons rfl ?_ ?_
      · intro X ext HD hleD _
        replace hs := hs.mono hleD
        replace hsl14 := hsl14.mono hleD
        replace hN19 := hN19.mono hleD
        replace hN24 := hN24.mono hleD
        refine withP_cons rfl rfl ?_
        rintro _ rfl
        refine withP_nil rfl ?_
        refine XO.move rfl rfl ?_
        refine XO.nil ?_
        exact stepQN_ok rfl trivial (rfl)
      refine stepsH_cons rfl ?_ ?_
      · intro X ext HD hleD _
        replace hs := hs.mono hleD
        replace hsl14 := hsl14.mono hleD
        replace hN19 := hN19.mono hleD
        replace hN24 := hN24.mono hleD
        refine withP_cons rfl rfl ?_
        rintro _ rfl
        refine withP_nil rfl ?_
        refine XO.guardT rfl rfl (decide_eq_true rfl) rfl ?_
        refine XO.loadO 0 rfl rfl ty_24 rfl rfl rfl ?_
        refine XO.nil ?_
        exact stepQN_ok rfl trivial (rfl)
      refine stepsH_cons rfl ?_ ?_
      · intro X ext HD hleD _
        replace hs := hs.mono hleD
        replace hsl14 := hsl14.mono hleD
        replace hN19 := hN19.mono hleD
        replace hN24 := hN24.mono hleD
        refine withP_cons rfl rfl ?_
        rintro _ rfl
        refine withP_cons rfl rfl ?_
        rintro _ rfl
        refine withP_nil rfl ?_
        refine XO.guardT rfl rfl (decide_eq_true rfl) rfl ?_
        refine XO.callV rfl (check_fn k n s l a c _ hw hs) rfl ?_
        refine XO.nil ?_
        exact stepQN_ok rfl trivial (rfl)
      refine stepsH_cons rfl ?_ ?_
      · intro X ext HD hleD _
        replace hs := hs.mono hleD
        replace hsl14 := hsl14.mono hleD
        replace hN19 := hN19.mono hleD
        replace hN24 := hN24.mono hleD
        refine withP_cons rfl rfl ?_
        rintro _ rfl
        refine withP_nil rfl ?_
        refine XO.guardT rfl rfl (decide_eq_true rfl) rfl ?_
        refine XO.loadO 0 rfl rfl ty_24 rfl rfl rfl ?_
        refine XO.nil ?_
        exact stepQN_ok rfl trivial (rfl)
      exact stepsH_end rfl
    case tail8 =>
      intro HD hleD _
      replace hs := hs.mono hleD
      replace hsl14 := hsl14.mono hleD
      replace hN19 := hN19.mono hleD
      replace hN24 := hN24.mono hleD
      refine withP_cons rfl rfl ?_
      rintro _ rfl
      refine withP_cons rfl rfl ?_
      rintro _ rfl
      refine withP_cons rfl rfl ?_
      rintro _ rfl
      refine withP_cons rfl rfl ?_
      rintro _ rfl
      refine withP_cons rfl rfl ?_
      rintro _ rfl
      refine withP_cons rfl rfl ?_
      rintro _ rfl
      refine withP_cons rfl rfl ?_
      rintro _ rfl
      refine withP_cons rfl rfl ?_
      rintro _ rfl
      refine withP_cons rfl rfl ?_
      rintro _ rfl
      refine withP_cons rfl rfl ?_
      rintro _ rfl
      refine withP_cons rfl rfl ?_
      rintro _ rfl
      refine withP_cons rfl rfl ?_
      rintro _ rfl
      refine withP_cons rfl rfl ?_
      rintro _ rfl
      refine withP_cons rfl rfl ?_
      rintro _ rfl
      refine withP_cons rfl rfl ?_
      rintro _ rfl
      refine withP_cons rfl rfl ?_
      rintro _ rfl
      refine withP_cons rfl rfl ?_
      rintro _ rfl
      refine withP_cons rfl rfl ?_
      rintro _ rfl
      refine withP_cons rfl rfl ?_
      rintro _ rfl
      refine withP_cons rfl rfl ?_
      rintro _ rfl
      refine withP_cons rfl rfl ?_
      rintro _ rfl
      refine withP_cons rfl rfl ?_
      rintro _ rfl
      refine withP_cons rfl rfl ?_
      rintro _ rfl
      refine withP_cons rfl rfl ?_
      rintro _ rfl
      refine withP_nil rfl ?_
      refine withEnts_nil ?_
      refine XO.guardT rfl rfl (decide_eq_true rfl) rfl ?_
      refine XO.callV rfl (rcheck_fn k n s l a c _ hw hs) rfl ?_
      refine XO.guardT rfl rfl (decide_eq_true rfl) rfl ?_
      refine XO.eql rfl rfl rfl ?_
      refine XO.pickT rfl (decide_eq_true rfl) rfl rfl ?_
      refine XO.assign rfl rfl ?_
      refine XO.nil ?_
      refine XC.seq2 ?_
      refine XC.ret ?_
      refine ⟨rfl, _, [], rfl, (by repeat (first | exact List.Sublist.refl _ | apply List.Sublist.cons)), RetR.mk ?_⟩
      first | rfl | exact congrArg Value.bool (decide_eq_true rfl)

namespace codecEncodeSpec
open Go.ChangeShapes Go.WideShapes Go.ChangeAt Go.RowKit
open Go.ChangeMaps (open_string shut_string)
theorem own : ownKnob Try.prog.godebug = none := by kernel_rfl
theorem laidOut : laidOutB Try.prog = true := by kernel_rfl
set_option maxRecDepth 100000 in
theorem lifted (os : Os) (started : os.Started) (H : Type) (enc : TypeId × Value → H) :
    ReturnsInHanded {} Try.checked os 3 .any (Rows.codecEncodeSpecSpec.pre6 enc Try.prog Try.f3 Rows.codecEncodeSpecRow.domain false) (Rows.codecEncodeSpecSpec.post enc Try.prog Try.f3 false true false false) := by
  refine returnsInHanded_of_change (C := Try.checked) own started (by kernel_rfl) Try.func3
    (ChangeSpec.witness6 (enc := enc) (C := Try.checked) false ⟨#[], #[.agg ⟨[.int .i64 0, .int .i64 0, .string ByteArray.empty, .slice none 0 0]⟩], []⟩ 8 (by kernel_rfl) (by kernel_rfl) (by kernel_rfl) (by kernel_rfl)) ?_
  intro W base args ds gs before hval0 hW hcnd _
  have hval : ∀ (j : Nat) t v, Try.f3.params[j]? = some t → args[j]? = some v → Value.okWide Try.prog W .any base t v := hval0
  have hW' := hW
  obtain ⟨p, q, hA0, hV, rfl, hfz, hnd⟩ := hW
  have hA : DataW.TrodAll enc Try.prog W 0 (fun _ => true) true Try.f3.params.toList args.toList ds p := hA0
  rw [Try.params3] at hA hval
  obtain ⟨v0, vs0, d0, ds0, p0, q0, hargs, rfl, rfl, h0, r0⟩ := trodAll_cons hA
  obtain ⟨rfl, rfl, rfl⟩ := trodAll_nil r0
  obtain rfl : args = #[v0] := by cases args; simp_all
  obtain ⟨rfl, rfl⟩ := trodVars_none hV
  have k0 := h0
  have lt0 : ∀ x ∈ p0, x.block < W.heap.size := by obtain ⟨m, hm⟩ := k0; exact DataW.trod_lt m _ _ _ hm
  obtain ⟨fuel0, hf0⟩ := h0
  obtain ⟨l0, cl0, rfl, hR0, hw0⟩ := open_agg opens_val Try.underlying24 (hval 0 24 v0 rfl rfl) hf0
  obtain ⟨xk0, xn0, xs0, xl0, xa0, xc0, rfl, rfl, xd0, xf0⟩ := val_open hR0 hw0
  clear hA0 hval0
  refine (codecEncodeSpec_fn xk0 xn0 xs0 xl0 xa0 xc0 (hpOf W) xf0 xd0).below.mono fun e W' ⟨he, bel⟩ => ?_
  subst he
  exact ⟨_, rfl, _, _, _, [], _, [], hW', trodAll_mk1 (shut_bool Try.underlying4 _), (trodAll_cons_mk (Below.trod laidOut (by kernel_rfl) (of_decide_eq_true (by kernel_rfl)) k0 bel lt0) trodAll_mk0), rfl, bel.frame _, fun h => by cases h⟩
theorem over : Rows.codecEncodeSpecRow.holds Try.pinned (OpenSpec.ofChange Rows.codecEncodeSpecSpec) :=
  OpenClaim.holds_of_wide 3 Try.f3 rfl rfl rfl rfl rfl rfl rfl ⟨rfl, rfl, rfl, rfl, rfl⟩ rfl rfl rfl rfl rfl (by kernel_rfl) Try.func3 (by kernel_rfl)
    (of_decide_eq_true (by kernel_rfl)) (by unfold Func.isWrapper; first | (rw [if_pos (by decide +kernel)]; kernel_rfl) | (rw [if_neg (by decide +kernel)]; exact ⟨rfl, rfl⟩))
    (fun os started H enc _ => lifted os started H enc)
/-- The given statement. -/
theorem proved : Rows.CodecEncodeSpecSaid := over
#print axioms proved
end codecEncodeSpec
end Go.Proofs.Ytngedgknbebgpaa
