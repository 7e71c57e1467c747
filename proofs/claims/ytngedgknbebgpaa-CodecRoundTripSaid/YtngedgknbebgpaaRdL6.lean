/- The law CodecRoundTrip: it returns true, whatever the input, and what it was handed reads as before. No condition. -/
import Derived.Test.YtngedgknbebgpaaB7
import Derived.Test.YtngedgknbebgpaaB2
import Derived.Test.YtngedgknbebgpaaRows
import Derived.WalkKit
import Derived.ProofKit
import Derived.OpenShut
import Derived.ShutString
import Derived.ChangeOld
import Derived.Below
set_option autoImplicit false
set_option linter.unusedVariables false
set_option linter.unusedSimpArgs false
namespace Go.Proofs.Ytngedgknbebgpaa
open Go.XL



set_option maxRecDepth 100000 in
set_option maxHeartbeats 1600000 in
theorem codecRoundTrip_fn (k n : Int) (s : List UInt8) (l : List Val) (a : Option Addr) (c : Nat) (a2 : Option Addr) (c2 : Nat) (b : List UInt8) (H : Hp) (hf : Fit (.mk k n s l)) (hs : SlR valR H a c l) (hb : SlR u8R H a2 c2 b) (hbl : b.length < 9223372036854775808) : FnC Try.prog 6 #[.agg ⟨[.int .i64 k, .int .i64 n, .string (bsOf s), .slice a l.length c]⟩, .slice a2 b.length c2] H [] (RetR (fun v _ _ => v = .bool true)) := by
  refine FnC.intro (args := [.agg ⟨[.int .i64 k, .int .i64 n, .string (bsOf s), .slice a l.length c]⟩, .slice a2 b.length c2]) Try.func6 rfl rfl Try.ntmps6 rfl rfl rfl fun G rest => ?_
  refine XC.seq ?_
  refine XC.region ?_
  refine XO.box rfl rfl rfl (fun b2 => ?_)
  refine XO.assign rfl rfl ?_
  refine XO.nil ?_
  refine XC.seq2 ?_
  refine XC.seq ?_
  refine XC.seq ?_
  refine XC.region ?_
  refine XO.callV rfl (sane01 _) rfl ?_
  refine XO.notB rfl rfl ?_
  refine XO.nil ?_
  refine XC.seq2 ?_
  refine XC.condF rfl (rfl) ?_
  refine XC.skip ?_
  refine XC.seq2 ?_
  refine XC.seq ?_
  refine XC.seq ?_
  refine XC.region ?_
  refine XO.loadO 0 rfl rfl ty_24 rfl rfl rfl ?_
  refine XO.buildSlice rfl Try.underlying22 ty_24 ze_24 rfl rfl rfl (fun b16 => ?_)
  refine XO.publish 0 rfl rfl rfl (fun HP16 hoP16 hleP16 hbP16 hsoP16 => ?_)
  replace hs := hs.mono hleP16
  replace hb := hb.mono hleP16
  have hsl16 := SlR.lit (ρ := valR) (l := [.mk k n s l]) hbP16 hsoP16 (RowsR.one1 (valR_iff.2 ⟨_, _, rfl, hs⟩))
  have hcall := few_fn _ _ [.mk k n s l] _ hsl16 (by simp only [List.mem_cons, List.not_mem_nil, or_false, forall_eq_or_imp, forall_eq]; exact hf) (by simp)
  refine XO.callK rfl hcall rfl ?_
  rintro _ ⟨bf, rfl, hfew⟩
  refine XO.notB rfl rfl ?_
  refine XO.move rfl rfl ?_
  refine XO.guardC rfl rfl rfl rfl (fun g3 => ?_) (fun g3 => ?_)
  · have g3p := g3
    obtain rfl : bf = true := by simpa using g3
    have hv : wszV (.mk k n s l) ≤ 44000 := hfew rfl _ (by simp)
    have hw : wszV (.mk k n s l) ≤ 1000000 := by omega
    refine XO.move rfl rfl ?_
    refine XO.guardT rfl rfl (g3) rfl ?_
    refine XO.lenS (ts := #[]) rfl Try.underlying27 rfl ?_
    refine XO.guardT rfl rfl (g3) rfl ?_
    refine XO.gtr rfl rfl rfl ?_
    refine XO.pickF rfl (g3) rfl rfl ?_
    refine XO.nil ?_
    refine XC.seq2 ?_
    refine XC.cond rfl (fun c1_4 => ?_) (fun c1_4 => ?_)
    · refine XC.seq ?_
      refine XC.region ?_
      refine XO.assign rfl rfl ?_
      refine XO.nil ?_
      refine XC.seq2 ?_
      refine XC.ret ?_
      refine seqX_ret ?_
      refine ⟨rfl, _, [], rfl, (by repeat (first | exact List.Sublist.refl _ | apply List.Sublist.cons)), RetR.mk ?_⟩
      first | rfl | exact congrArg Value.bool (decide_eq_true rfl) | exact congrArg Value.bool h10.2 | exact congrArg Value.bool (decide_eq_true hgood.1)
    · have hlen : b.length ≤ 2000 := by omega
      have hwd : wszV (.mk (decV b).1.K (decV b).1.N (decV b).1.S (decV b).1.L) ≤ 1000000 := by rw [val_eta]; exact dec_wsz (by omega)
      refine XC.skip ?_
      refine XC.seq2 ?_
      refine XC.seq ?_
      refine XC.region ?_
      refine XO.loadO 0 rfl rfl ty_24 rfl rfl rfl ?_
      refine XO.callH rfl (enc_fn k n s l a c _ hw hf hs) rfl ?_
      rintro _ HN26 hleN26 ⟨aN26, cN26, hN26, rfl⟩
      replace hs := hs.mono hleN26
      replace hb := hb.mono hleN26
      replace hsl16 := hsl16.mono hleN26
      refine XO.move rfl rfl ?_
      refine XO.extract rfl rfl rfl ?_
      refine XO.extract rfl rfl rfl ?_
      refine XO.assign rfl rfl ?_
      refine XO.assign rfl rfl ?_
      refine XO.nil ?_
      refine XC.seq2 ?_
      refine XC.seq ?_
      refine XC.seq ?_
      refine XC.region ?_
      refine XO.move rfl rfl ?_
      refine XO.loadO 0 rfl rfl ty_24 rfl rfl rfl ?_
      refine XO.callV rfl (check_fn k n s l a c _ hw hs) rfl ?_
      refine XO.neq rfl rfl rfl ?_
      refine XO.nil ?_
      refine XC.seq2 ?_
      refine XC.condF rfl (decide_eq_false (fun h => h rfl)) ?_
      refine XC.skip ?_
      refine XC.seq2 ?_
      refine XC.seq ?_
      refine XC.seq ?_
      refine XC.region ?_
      refine XO.move rfl rfl ?_
      refine XO.eql rfl rfl rfl ?_
      refine XO.nil ?_
      refine XC.seq2 ?_
      refine XC.cond rfl (fun c3_7 => ?_) (fun c3_7 => ?_)
      · refine XC.seq ?_
        refine XC.region ?_
        refine XO.move rfl rfl ?_
        have hcall37 := decode_u _ _ _ _ hN26 (eB_len hf hw)
        refine XO.callH rfl hcall37 rfl ?_
        rintro _ HN37 hleN37 hD37
        unfold DecVR at hD37
        rw [dec_eB (by omega) hf] at hD37
        obtain ⟨_, ⟨aN37, cN37, rfl, hN37⟩, rfl⟩ := hD37
        replace hs := hs.mono hleN37
        replace hb := hb.mono hleN37
        replace hsl16 := hsl16.mono hleN37
        replace hN26 := hN26.mono hleN37
        refine XO.move rfl rfl ?_
        refine XO.extract rfl rfl rfl ?_
        refine XO.extract rfl rfl rfl ?_
        refine XO.alloc ze_24 rfl (fun b7 => ?_)
        refine XO.storeO 0 rfl rfl rfl rfl ty_24 rfl rfl rfl rfl rfl ?_
        refine XO.assign rfl rfl ?_
        refine XO.nil ?_
        refine XC.seq2 ?_
        refine XC.seq ?_
        refine XC.region ?_
        refine XO.move rfl rfl ?_
        refine XO.neq rfl rfl rfl ?_
        refine XO.move rfl rfl ?_
        refine XO.guardT rfl rfl (decide_eq_false (fun h => h rfl)) rfl ?_
        refine XO.loadO 1 rfl rfl ty_24 rfl rfl rfl ?_
        refine XO.guardT rfl rfl (decide_eq_false (fun h => h rfl)) rfl ?_
        refine XO.loadO 0 rfl rfl ty_24 rfl rfl rfl ?_
        refine XO.guardT rfl rfl (decide_eq_false (fun h => h rfl)) rfl ?_
        refine XO.callV rfl (same_all 1000000 k n k n s s l l a aN37 c cN37 _ hw (by decide) hs hN37) rfl ?_
        refine XO.guardT rfl rfl (decide_eq_false (fun h => h rfl)) rfl ?_
        refine XO.notB rfl rfl ?_
        refine XO.pickF rfl (decide_eq_false (fun h => h rfl)) rfl rfl ?_
        refine XO.move rfl rfl ?_
        refine XO.guardT rfl rfl (by rw [same_self]; rfl) rfl ?_
        refine XO.loadO 1 rfl rfl ty_24 rfl rfl rfl ?_
        refine XO.guardT rfl rfl (by rw [same_self]; rfl) rfl ?_
        refine XO.loadO 0 rfl rfl ty_24 rfl rfl rfl ?_
        refine XO.guardT rfl rfl (by rw [same_self]; rfl) rfl ?_
        refine XO.callV rfl (rsame_all 1000000 k n k n s s l l a aN37 c cN37 _ hw (by decide) hs hN37) rfl ?_
        refine XO.guardT rfl rfl (by rw [same_self]; rfl) rfl ?_
        refine XO.notB rfl rfl ?_
        refine XO.pickF rfl (by rw [same_self]; rfl) rfl rfl ?_
        refine XO.nil ?_
        refine XC.seq2 ?_
        refine XC.condF rfl (by rw [same_self]; rfl) ?_
        refine XC.skip ?_
        refine XC.seq2 ?_
        refine XC.seq ?_
        refine XC.region ?_
        refine XO.move rfl rfl ?_
        have hcall56 := decode_u a2 c2 b _ hb (by omega)
        refine XO.callH rfl hcall56 rfl ?_
        rintro _ HN56 hleN56 ⟨_, ⟨aN56, cN56, rfl, hN56⟩, rfl⟩
        replace hs := hs.mono hleN56
        replace hb := hb.mono hleN56
        replace hsl16 := hsl16.mono hleN56
        replace hN26 := hN26.mono hleN56
        replace hN37 := hN37.mono hleN56
        refine XO.move rfl rfl ?_
        refine XO.extract rfl rfl rfl ?_
        refine XO.extract rfl rfl rfl ?_
        refine XO.alloc ze_24 rfl (fun b9 => ?_)
        refine XO.storeO 0 rfl rfl rfl rfl ty_24 rfl rfl rfl rfl rfl ?_
        refine XO.assign rfl rfl ?_
        refine XO.nil ?_
        refine XC.seq2 ?_
        refine XC.seq ?_
        refine XC.seq ?_
        refine XC.region ?_
        refine XO.move rfl rfl ?_
        refine XO.neq rfl rfl rfl ?_
        refine XO.nil ?_
        refine XC.seq2 ?_
        refine XC.cond rfl (fun c5_12 => ?_) (fun c5_12 => ?_)
        · have h10 := dec_bad c5_12
          refine XC.seq ?_
          refine XC.region ?_
          refine XO.move rfl rfl ?_
          refine XO.eql rfl rfl rfl ?_
          refine XO.move rfl rfl ?_
          refine XO.guardT rfl rfl (decide_eq_true h10.1) rfl ?_
          refine XO.loadO 0 rfl rfl ty_24 rfl rfl rfl ?_
          refine XO.guardT rfl rfl (decide_eq_true h10.1) rfl ?_
          refine XO.build bk_24 bf_24 ze_24 rfl rfl rfl ?_
          refine XO.guardT rfl rfl (decide_eq_true h10.1) rfl ?_
          have hcall := same_all 1000000 (decV b).1.K (decV b).1.N 0 0 (decV b).1.S [] (decV b).1.L [] _ none _ 0 _ hwd (by decide) hN56 (SlR.nil0 _ _)
          refine XO.callV rfl hcall rfl ?_
          refine XO.pickT rfl (decide_eq_true h10.1) rfl rfl ?_
          refine XO.assign rfl rfl ?_
          refine XO.nil ?_
          refine XC.seq2 ?_
          refine XC.ret ?_
          refine seqX_ret ?_
          refine ⟨rfl, _, [], rfl, (by repeat (first | exact List.Sublist.refl _ | apply List.Sublist.cons)), RetR.mk ?_⟩
          first | rfl | exact congrArg Value.bool (decide_eq_true rfl) | exact congrArg Value.bool h10.2 | exact congrArg Value.bool (decide_eq_true hgood.1)
        · have hgood := dec_good (b := b) (by omega) (by omega)
          refine XC.skip ?_
          refine XC.seq2 ?_
          refine XC.seq ?_
          refine XC.region ?_
          refine XO.loadO 0 rfl rfl ty_24 rfl rfl rfl ?_
          refine XO.callH rfl (enc_fn (decV b).1.K (decV b).1.N (decV b).1.S (decV b).1.L _ _ _ hwd hgood.2.2 hN56) rfl ?_
          rintro _ HN70 hleN70 ⟨aN70, cN70, hN70, rfl⟩
          replace hs := hs.mono hleN70
          replace hb := hb.mono hleN70
          replace hsl16 := hsl16.mono hleN70
          replace hN26 := hN26.mono hleN70
          replace hN37 := hN37.mono hleN70
          replace hN56 := hN56.mono hleN70
          refine XO.move rfl rfl ?_
          refine XO.extract rfl rfl rfl ?_
          refine XO.extract rfl rfl rfl ?_
          refine XO.assign rfl rfl ?_
          refine XO.assign rfl rfl ?_
          refine XO.nil ?_
          refine XC.seq2 ?_
          refine XC.seq ?_
          refine XC.region ?_
          refine XO.move rfl rfl ?_
          refine XO.eql rfl rfl rfl ?_
          refine XO.move rfl rfl ?_
          refine XO.guardT rfl rfl (decide_eq_true hgood.1) rfl ?_
          refine XO.move rfl rfl ?_
          refine XO.guardT rfl rfl (decide_eq_true hgood.1) rfl ?_
          refine XO.b2s rfl hN70 Try.underlying27 Try.underlying5 Try.underlying9 rfl ?_
          refine XO.guardT rfl rfl (decide_eq_true hgood.1) rfl ?_
          refine XO.move rfl rfl ?_
          refine XO.guardT rfl rfl (decide_eq_true hgood.1) rfl ?_
          refine XO.b2s rfl hb Try.underlying27 Try.underlying5 Try.underlying9 rfl ?_
          refine XO.guardT rfl rfl (decide_eq_true hgood.1) rfl ?_
          refine XO.eqlS rfl rfl rfl ?_
          refine XO.pickT rfl (decide_eq_true hgood.1) rfl rfl ?_
          refine XO.move rfl rfl ?_
          refine XO.guardT rfl rfl (decide_eq_true hgood.2.1) rfl ?_
          refine XO.loadO 0 rfl rfl ty_24 rfl rfl rfl ?_
          refine XO.guardT rfl rfl (decide_eq_true hgood.2.1) rfl ?_
          refine XO.callV rfl (check_fn (decV b).1.K (decV b).1.N (decV b).1.S (decV b).1.L _ _ _ hwd hN56) rfl ?_
          refine XO.guardT rfl rfl (decide_eq_true hgood.2.1) rfl ?_
          refine XO.eql rfl rfl rfl ?_
          refine XO.pickT rfl (decide_eq_true hgood.2.1) rfl rfl ?_
          refine XO.assign rfl rfl ?_
          refine XO.nil ?_
          refine XC.seq2 ?_
          refine XC.ret ?_
          refine ⟨rfl, _, [], rfl, (by repeat (first | exact List.Sublist.refl _ | apply List.Sublist.cons)), RetR.mk ?_⟩
          first | rfl | exact congrArg Value.bool (decide_eq_true rfl) | exact congrArg Value.bool h10.2 | exact congrArg Value.bool (decide_eq_true hgood.1)
      · refine XC.skip ?_
        refine XC.seq2 ?_
        refine XC.seq ?_
        refine XC.region ?_
        refine XO.move rfl rfl ?_
        have hcall56 := decode_u a2 c2 b _ hb (by omega)
        refine XO.callH rfl hcall56 rfl ?_
        rintro _ HN56 hleN56 ⟨_, ⟨aN56, cN56, rfl, hN56⟩, rfl⟩
        replace hs := hs.mono hleN56
        replace hb := hb.mono hleN56
        replace hsl16 := hsl16.mono hleN56
        replace hN26 := hN26.mono hleN56
        refine XO.move rfl rfl ?_
        refine XO.extract rfl rfl rfl ?_
        refine XO.extract rfl rfl rfl ?_
        refine XO.alloc ze_24 rfl (fun b9 => ?_)
        refine XO.storeO 0 rfl rfl rfl rfl ty_24 rfl rfl rfl rfl rfl ?_
        refine XO.assign rfl rfl ?_
        refine XO.nil ?_
        refine XC.seq2 ?_
        refine XC.seq ?_
        refine XC.seq ?_
        refine XC.region ?_
        refine XO.move rfl rfl ?_
        refine XO.neq rfl rfl rfl ?_
        refine XO.nil ?_
        refine XC.seq2 ?_
        refine XC.cond rfl (fun c5_17 => ?_) (fun c5_17 => ?_)
        · have h10 := dec_bad c5_17
          refine XC.seq ?_
          refine XC.region ?_
          refine XO.move rfl rfl ?_
          refine XO.eql rfl rfl rfl ?_
          refine XO.move rfl rfl ?_
          refine XO.guardT rfl rfl (decide_eq_true h10.1) rfl ?_
          refine XO.loadO 0 rfl rfl ty_24 rfl rfl rfl ?_
          refine XO.guardT rfl rfl (decide_eq_true h10.1) rfl ?_
          refine XO.build bk_24 bf_24 ze_24 rfl rfl rfl ?_
          refine XO.guardT rfl rfl (decide_eq_true h10.1) rfl ?_
          have hcall := same_all 1000000 (decV b).1.K (decV b).1.N 0 0 (decV b).1.S [] (decV b).1.L [] _ none _ 0 _ hwd (by decide) hN56 (SlR.nil0 _ _)
          refine XO.callV rfl hcall rfl ?_
          refine XO.pickT rfl (decide_eq_true h10.1) rfl rfl ?_
          refine XO.assign rfl rfl ?_
          refine XO.nil ?_
          refine XC.seq2 ?_
          refine XC.ret ?_
          refine seqX_ret ?_
          refine ⟨rfl, _, [], rfl, (by repeat (first | exact List.Sublist.refl _ | apply List.Sublist.cons)), RetR.mk ?_⟩
          first | rfl | exact congrArg Value.bool (decide_eq_true rfl) | exact congrArg Value.bool h10.2 | exact congrArg Value.bool (decide_eq_true hgood.1)
        · have hgood := dec_good (b := b) (by omega) (by omega)
          refine XC.skip ?_
          refine XC.seq2 ?_
          refine XC.seq ?_
          refine XC.region ?_
          refine XO.loadO 0 rfl rfl ty_24 rfl rfl rfl ?_
          refine XO.callH rfl (enc_fn (decV b).1.K (decV b).1.N (decV b).1.S (decV b).1.L _ _ _ hwd hgood.2.2 hN56) rfl ?_
          rintro _ HN70 hleN70 ⟨aN70, cN70, hN70, rfl⟩
          replace hs := hs.mono hleN70
          replace hb := hb.mono hleN70
          replace hsl16 := hsl16.mono hleN70
          replace hN26 := hN26.mono hleN70
          replace hN56 := hN56.mono hleN70
          refine XO.move rfl rfl ?_
          refine XO.extract rfl rfl rfl ?_
          refine XO.extract rfl rfl rfl ?_
          refine XO.assign rfl rfl ?_
          refine XO.assign rfl rfl ?_
          refine XO.nil ?_
          refine XC.seq2 ?_
          refine XC.seq ?_
          refine XC.region ?_
          refine XO.move rfl rfl ?_
          refine XO.eql rfl rfl rfl ?_
          refine XO.move rfl rfl ?_
          refine XO.guardT rfl rfl (decide_eq_true hgood.1) rfl ?_
          refine XO.move rfl rfl ?_
          refine XO.guardT rfl rfl (decide_eq_true hgood.1) rfl ?_
          refine XO.b2s rfl hN70 Try.underlying27 Try.underlying5 Try.underlying9 rfl ?_
          refine XO.guardT rfl rfl (decide_eq_true hgood.1) rfl ?_
          refine XO.move rfl rfl ?_
          refine XO.guardT rfl rfl (decide_eq_true hgood.1) rfl ?_
          refine XO.b2s rfl hb Try.underlying27 Try.underlying5 Try.underlying9 rfl ?_
          refine XO.guardT rfl rfl (decide_eq_true hgood.1) rfl ?_
          refine XO.eqlS rfl rfl rfl ?_
          refine XO.pickT rfl (decide_eq_true hgood.1) rfl rfl ?_
          refine XO.move rfl rfl ?_
          refine XO.guardT rfl rfl (decide_eq_true hgood.2.1) rfl ?_
          refine XO.loadO 0 rfl rfl ty_24 rfl rfl rfl ?_
          refine XO.guardT rfl rfl (decide_eq_true hgood.2.1) rfl ?_
          refine XO.callV rfl (check_fn (decV b).1.K (decV b).1.N (decV b).1.S (decV b).1.L _ _ _ hwd hN56) rfl ?_
          refine XO.guardT rfl rfl (decide_eq_true hgood.2.1) rfl ?_
          refine XO.eql rfl rfl rfl ?_
          refine XO.pickT rfl (decide_eq_true hgood.2.1) rfl rfl ?_
          refine XO.assign rfl rfl ?_
          refine XO.nil ?_
          refine XC.seq2 ?_
          refine XC.ret ?_
          refine ⟨rfl, _, [], rfl, (by repeat (first | exact List.Sublist.refl _ | apply List.Sublist.cons)), RetR.mk ?_⟩
          first | rfl | exact congrArg Value.bool (decide_eq_true rfl) | exact congrArg Value.bool h10.2 | exact congrArg Value.bool (decide_eq_true hgood.1)
  · have g3p := g3
    refine XO.guardF rfl rfl (g3) rfl rfl ?_
    refine XO.guardF rfl rfl (g3) rfl rfl ?_
    refine XO.pickT rfl (g3) rfl rfl ?_
    refine XO.nil ?_
    refine XC.seq2 ?_
    refine XC.condT rfl (rfl) ?_
    refine XC.seq ?_
    refine XC.region ?_
    refine XO.assign rfl rfl ?_
    refine XO.nil ?_
    refine XC.seq2 ?_
    refine XC.ret ?_
    refine seqX_ret ?_
    refine ⟨rfl, _, [], rfl, (by repeat (first | exact List.Sublist.refl _ | apply List.Sublist.cons)), RetR.mk ?_⟩
    first | rfl | exact congrArg Value.bool (decide_eq_true rfl) | exact congrArg Value.bool h10.2 | exact congrArg Value.bool (decide_eq_true hgood.1)

namespace codecRoundTrip
open Go.ChangeShapes Go.WideShapes Go.ChangeAt Go.RowKit
open Go.ChangeMaps (open_string shut_string)
theorem own : ownKnob Try.prog.godebug = none := by kernel_rfl
theorem laidOut : laidOutB Try.prog = true := by kernel_rfl
set_option maxRecDepth 100000 in
theorem lifted (os : Os) (started : os.Started) (H : Type) (enc : TypeId × Value → H) :
    ReturnsInHanded {} Try.checked os 6 .any (Rows.codecRoundTripSpec.pre6 enc Try.prog Try.f6 Rows.codecRoundTripRow.domain false) (Rows.codecRoundTripSpec.post enc Try.prog Try.f6 false true false false) := by
  refine returnsInHanded_of_change (C := Try.checked) own started (by kernel_rfl) Try.func6
    (ChangeSpec.witness6 (enc := enc) (C := Try.checked) false ⟨#[], #[.agg ⟨[.int .i64 0, .int .i64 0, .string ByteArray.empty, .slice none 0 0]⟩, .slice none 0 0], []⟩ 8 (by kernel_rfl) (by kernel_rfl) (by kernel_rfl) (by kernel_rfl)) ?_
  intro W base args ds gs before hval0 hW hcnd _
  have hval : ∀ (j : Nat) t v, Try.f6.params[j]? = some t → args[j]? = some v → Value.okWide Try.prog W .any base t v := hval0
  have hW' := hW
  obtain ⟨p, q, hA0, hV, rfl, hfz, hnd⟩ := hW
  have hA : DataW.TrodAll enc Try.prog W 0 (fun _ => true) true Try.f6.params.toList args.toList ds p := hA0
  rw [Try.params6] at hA hval
  obtain ⟨v0, vs0, d0, ds0, p0, q0, hargs, rfl, rfl, h0, r0⟩ := trodAll_cons hA
  obtain ⟨v1, vs1, d1, ds1, p1, q1, rfl, rfl, rfl, h1, r1⟩ := trodAll_cons r0
  obtain ⟨rfl, rfl, rfl⟩ := trodAll_nil r1
  obtain rfl : args = #[v0, v1] := by cases args; simp_all
  obtain ⟨rfl, rfl⟩ := trodVars_none hV
  have k0 := h0
  have lt0 : ∀ x ∈ p0, x.block < W.heap.size := by obtain ⟨m, hm⟩ := k0; exact DataW.trod_lt m _ _ _ hm
  obtain ⟨fuel0, hf0⟩ := h0
  obtain ⟨l0, cl0, rfl, hR0, hw0⟩ := open_agg opens_val Try.underlying24 (hval 0 24 v0 rfl rfl) hf0
  obtain ⟨xk0, xn0, xs0, xl0, xa0, xc0, rfl, rfl, xd0, xf0⟩ := val_open hR0 hw0
  obtain ⟨a1, len1, cap1, rfl⟩ := okWide_slice Try.underlying27 (hval 1 27 v1 rfl rfl)
  have k1 := h1
  have lt1 : ∀ x ∈ p1, x.block < W.heap.size := by obtain ⟨m, hm⟩ := k1; exact DataW.trod_lt m _ _ _ hm
  obtain ⟨fuel1, hf1⟩ := h1
  obtain ⟨l1, ⟨aa1, cc1, hcs1, hs1⟩, hw1⟩ := opens_bytes enc W 0 _ _ fuel1 _ _ hf1
  simp [Value.cells] at hcs1
  obtain ⟨rfl, rfl, rfl⟩ := hcs1
  clear hA0 hval0
  refine (codecRoundTrip_fn xk0 xn0 xs0 xl0 xa0 xc0 _ _ l1 (hpOf W) xf0 xd0 hs1 (by have := hw1.1; unfold maxLen at this; omega)).below.mono fun e W' ⟨he, bel⟩ => ?_
  subst he
  exact ⟨_, rfl, _, _, _, [], _, [], hW', trodAll_mk1 (shut_bool Try.underlying4 _), (trodAll_cons_mk (Below.trod laidOut (by kernel_rfl) (of_decide_eq_true (by kernel_rfl)) k0 bel lt0) (trodAll_cons_mk (Below.trod laidOut (by kernel_rfl) (of_decide_eq_true (by kernel_rfl)) k1 bel lt1) trodAll_mk0)), rfl, bel.frame _, fun h => by cases h⟩
theorem over : Rows.codecRoundTripRow.holds Try.pinned (OpenSpec.ofChange Rows.codecRoundTripSpec) :=
  OpenClaim.holds_of_wide 6 Try.f6 rfl rfl rfl rfl rfl rfl rfl ⟨rfl, rfl, rfl, rfl, rfl⟩ rfl rfl rfl rfl rfl (by kernel_rfl) Try.func6 (by kernel_rfl)
    (of_decide_eq_true (by kernel_rfl)) (by unfold Func.isWrapper; first | (rw [if_pos (by decide +kernel)]; kernel_rfl) | (rw [if_neg (by decide +kernel)]; exact ⟨rfl, rfl⟩))
    (fun os started H enc _ => lifted os started H enc)
/-- The given statement. -/
theorem proved : Rows.CodecRoundTripSaid := over
#print axioms proved
end codecRoundTrip
end Go.Proofs.Ytngedgknbebgpaa
