/- The law CodecDifferent: it returns true, whatever the input, and what it was handed reads as before. No condition. -/
import Derived.Test.YtngedgknbebgpaaB7
import Derived.Test.YtngedgknbebgpaaB2
import Derived.Test.YtngedgknbebgpaaRows
import Derived.WalkKit
import Derived.ProofKit
import Derived.OpenShut
import Derived.ShutString
import Derived.ChangeOld
import Derived.Below
set_option autoImplicit false
set_option linter.unusedVariables false
set_option linter.unusedSimpArgs false
namespace Go.Proofs.Ytngedgknbebgpaa
open Go.XL



theorem codecDifferent_fn (k n : Int) (s : List UInt8) (l : List Val) (a : Option Addr) (c : Nat) (k2 n2 : Int) (s2 : List UInt8) (l2 : List Val) (a2 : Option Addr) (c2 : Nat) (H : Hp) (hf : Fit (.mk k n s l)) (hs : SlR valR H a c l) (hf2 : Fit (.mk k2 n2 s2 l2)) (hs2 : SlR valR H a2 c2 l2) : FnC Try.prog 7 #[.agg ⟨[.int .i64 k, .int .i64 n, .string (bsOf s), .slice a l.length c]⟩, .agg ⟨[.int .i64 k2, .int .i64 n2, .string (bsOf s2), .slice a2 l2.length c2]⟩] H [] (RetR (fun v _ _ => v = .bool true)) := by
  refine FnC.intro (args := [.agg ⟨[.int .i64 k, .int .i64 n, .string (bsOf s), .slice a l.length c]⟩, .agg ⟨[.int .i64 k2, .int .i64 n2, .string (bsOf s2), .slice a2 l2.length c2]⟩]) Try.func7 rfl rfl Try.ntmps7 rfl rfl rfl fun G rest => ?_
  refine XC.seq ?_
  refine XC.region ?_
  refine XO.box rfl rfl rfl (fun b2 => ?_)
  refine XO.box rfl rfl rfl (fun b3 => ?_)
  refine XO.assign rfl rfl ?_
  refine XO.nil ?_
  refine XC.seq2 ?_
  refine XC.seq ?_
  refine XC.seq ?_
  refine XC.region ?_
  refine XO.callV rfl (sane01 _) rfl ?_
  refine XO.notB rfl rfl ?_
  refine XO.nil ?_
  refine XC.seq2 ?_
  refine XC.condF rfl (rfl) ?_
  refine XC.skip ?_
  refine XC.seq2 ?_
  refine XC.seq ?_
  refine XC.seq ?_
  refine XC.region ?_
  refine XO.loadO 1 rfl rfl ty_24 rfl rfl rfl ?_
  refine XO.loadO 0 rfl rfl ty_24 rfl rfl rfl ?_
  refine XO.buildSlice rfl Try.underlying22 ty_24 ze_24 rfl rfl rfl (fun b14 => ?_)
  refine XO.publish 0 rfl rfl rfl (fun HP14 hoP14 hleP14 hbP14 hsoP14 => ?_)
  replace hs := hs.mono hleP14
  replace hs2 := hs2.mono hleP14
  have hsl14 := SlR.lit (ρ := valR) (l := [.mk k n s l, .mk k2 n2 s2 l2]) hbP14 hsoP14 (RowsR.cons1 (cs := [_, _, _, _]) (valR_iff.2 ⟨_, _, rfl, hs⟩) (RowsR.one1 (valR_iff.2 ⟨_, _, rfl, hs2⟩)))
  have hcall := few_fn _ _ [.mk k n s l, .mk k2 n2 s2 l2] _ hsl14 (by simp only [List.mem_cons, List.not_mem_nil, or_false, forall_eq_or_imp, forall_eq]; exact ⟨hf, hf2⟩) (by simp)
  refine XO.callK rfl hcall rfl ?_
  rintro _ ⟨bf, rfl, hfew⟩
  refine XO.notB rfl rfl ?_
  refine XO.nil ?_
  refine XC.seq2 ?_
  refine XC.condB rfl (fun c1_3 => ?_) (fun c1_3 => ?_)
  · refine XC.seq ?_
    refine XC.region ?_
    refine XO.assign rfl rfl ?_
    refine XO.nil ?_
    refine XC.seq2 ?_
    refine XC.ret ?_
    refine seqX_ret ?_
    refine ⟨rfl, _, [], rfl, (by repeat (first | exact List.Sublist.refl _ | apply List.Sublist.cons)), RetR.mk ?_⟩
    first | rfl | exact congrArg Value.bool (decide_eq_true (by rw [heq])) | exact congrArg Value.bool (decide_eq_true (fun h => hne (enc_apart (by omega) (by omega) hf hf2 rfl h)))
  · obtain rfl : bf = true := by simpa using c1_3
    have hv : wszV (.mk k n s l) ≤ 44000 := hfew rfl _ (by simp)
    have hw : wszV (.mk k n s l) ≤ 1000000 := by omega
    have hv2 : wszV (.mk k2 n2 s2 l2) ≤ 44000 := hfew rfl _ (by simp)
    have hw2 : wszV (.mk k2 n2 s2 l2) ≤ 1000000 := by omega
    refine XC.skip ?_
    refine XC.seq2 ?_
    refine XC.seq ?_
    refine XC.region ?_
    refine XO.loadO 1 rfl rfl ty_24 rfl rfl rfl ?_
    refine XO.callH rfl (enc_fn k n s l a c _ hw hf hs) rfl ?_
    rintro _ HN19 hleN19 ⟨aN19, cN19, hN19, rfl⟩
    replace hs := hs.mono hleN19
    replace hs2 := hs2.mono hleN19
    replace hsl14 := hsl14.mono hleN19
    refine XO.move rfl rfl ?_
    refine XO.extract rfl rfl rfl ?_
    refine XO.extract rfl rfl rfl ?_
    refine XO.assign rfl rfl ?_
    refine XO.assign rfl rfl ?_
    refine XO.nil ?_
    refine XC.seq2 ?_
    refine XC.seq ?_
    refine XC.region ?_
    refine XO.loadO 0 rfl rfl ty_24 rfl rfl rfl ?_
    refine XO.callH rfl (enc_fn k2 n2 s2 l2 a2 c2 _ hw2 hf2 hs2) rfl ?_
    rintro _ HN24 hleN24 ⟨aN24, cN24, hN24, rfl⟩
    replace hs := hs.mono hleN24
    replace hs2 := hs2.mono hleN24
    replace hsl14 := hsl14.mono hleN24
    replace hN19 := hN19.mono hleN24
    refine XO.move rfl rfl ?_
    refine XO.extract rfl rfl rfl ?_
    refine XO.extract rfl rfl rfl ?_
    refine XO.assign rfl rfl ?_
    refine XO.assign rfl rfl ?_
    refine XO.nil ?_
    refine XC.seq2 ?_
    refine XC.seq ?_
    refine XC.seq ?_
    refine XC.region ?_
    refine XO.move rfl rfl ?_
    refine XO.neq rfl rfl rfl ?_
    refine XO.move rfl rfl ?_
    refine XO.guardC rfl rfl rfl rfl (fun g6 => ?_) (fun g6 => ?_)
    · have g6p := of_decide_eq_false g6
      refine XO.move rfl rfl ?_
      refine XO.guardT rfl rfl (g6) rfl ?_
      refine XO.neq rfl rfl rfl ?_
      refine XO.pickF rfl (g6) rfl rfl ?_
      refine XO.nil ?_
      refine XC.seq2 ?_
      refine XC.cond rfl (fun c2_7 => ?_) (fun c2_7 => ?_)
      · refine XC.seq ?_
        refine XC.region ?_
        refine XO.assign rfl rfl ?_
        refine XO.nil ?_
        refine XC.seq2 ?_
        refine XC.ret ?_
        refine seqX_ret ?_
        refine ⟨rfl, _, [], rfl, (by repeat (first | exact List.Sublist.refl _ | apply List.Sublist.cons)), RetR.mk ?_⟩
        first | rfl | exact congrArg Value.bool (decide_eq_true (by rw [heq])) | exact congrArg Value.bool (decide_eq_true (fun h => hne (enc_apart (by omega) (by omega) hf hf2 rfl h)))
      · refine XC.skip ?_
        refine XC.seq2 ?_
        refine XC.seq ?_
        refine XC.seq ?_
        refine XC.region ?_
        refine XO.loadO 1 rfl rfl ty_24 rfl rfl rfl ?_
        refine XO.loadO 0 rfl rfl ty_24 rfl rfl rfl ?_
        refine XO.callV rfl (same_all 1000000 k n k2 n2 s s2 l l2 a a2 c c2 _ hw (by decide) hs hs2) rfl ?_
        refine XO.nil ?_
        refine XC.seq2 ?_
        refine XC.condB rfl (fun c3_9 => ?_) (fun c3_9 => ?_)
        · have heq := (sameV_iff _ _).1 c3_9
          refine XC.seq ?_
          refine XC.region ?_
          refine XO.move rfl rfl ?_
          refine XO.b2s rfl hN19 Try.underlying27 Try.underlying5 Try.underlying9 rfl ?_
          refine XO.move rfl rfl ?_
          refine XO.b2s rfl hN24 Try.underlying27 Try.underlying5 Try.underlying9 rfl ?_
          refine XO.eqlS rfl rfl rfl ?_
          refine XO.assign rfl rfl ?_
          refine XO.nil ?_
          refine XC.seq2 ?_
          refine XC.ret ?_
          refine seqX_ret ?_
          refine ⟨rfl, _, [], rfl, (by repeat (first | exact List.Sublist.refl _ | apply List.Sublist.cons)), RetR.mk ?_⟩
          first | rfl | exact congrArg Value.bool (decide_eq_true (by rw [heq])) | exact congrArg Value.bool (decide_eq_true (fun h => hne (enc_apart (by omega) (by omega) hf hf2 rfl h)))
        · have hne : (Val.mk k n s l) ≠ ((.mk k2 n2 s2 l2) : Val) := fun h => by rw [h, same_self] at c3_9; cases c3_9
          refine XC.skip ?_
          refine XC.seq2 ?_
          refine XC.seq ?_
          refine XC.region ?_
          refine XO.move rfl rfl ?_
          refine XO.lenS (ts := #[]) rfl Try.underlying27 rfl ?_
          refine XO.move rfl rfl ?_
          refine XO.lenS (ts := #[]) rfl Try.underlying27 rfl ?_
          refine XO.minI (c := (((min (eB (.mk k n s l)).length (eB (.mk k2 n2 s2 l2)).length) : Nat) : Int)) rfl rfl (by split <;> omega) rfl ?_
          have hc19 := hN19.le
          have hc24 := hN24.le
          refine XO.assign rfl rfl ?_
          refine XO.nil ?_
          refine XC.seq2 ?_
          refine XC.seq ?_
          refine XC.keep [5, 7, 9] rfl ?_
          apply XC.drawG (fun _ => True) trivial 8 [eqF _, eqF _, fun v H => ∃ a c, v = .slice a ((eB (.mk k n s l)).take (min (eB (.mk k n s l)).length (eB (.mk k2 n2 s2 l2)).length)).length c ∧ SlR u8R H a c ((eB (.mk k n s l)).take (min (eB (.mk k n s l)).length (eB (.mk k2 n2 s2 l2)).length)), eqF _, eqF _, eqF _, fun v H => ∃ a c, v = .slice a ((eB (.mk k2 n2 s2 l2)).take (min (eB (.mk k n s l)).length (eB (.mk k2 n2 s2 l2)).length)).length c ∧ SlR u8R H a c ((eB (.mk k2 n2 s2 l2)).take (min (eB (.mk k n s l)).length (eB (.mk k2 n2 s2 l2)).length)), eqF _] follows (by kernel_rfl) (by kernel_rfl) ⟨eqF_mono _, eqF_mono _, fun _ _ _ hle ⟨a, c, h1, h2⟩ => ⟨a, c, h1, h2.mono hle⟩, eqF_mono _, eqF_mono _, eqF_mono _, fun _ _ _ hle ⟨a, c, h1, h2⟩ => ⟨a, c, h1, h2.mono hle⟩, eqF_mono _, trivial⟩ ?steps11 ?tail11
          case steps11 =>
            refine stepsD_cons rfl ?_ ?_
            · intro X HD hleD _
              replace hs := hs.mono hleD
              replace hs2 := hs2.mono hleD
              replace hsl14 := hsl14.mono hleD
              replace hN19 := hN19.mono hleD
              replace hN24 := hN24.mono hleD
              refine withPreds_nil rfl ?_
              refine XO.move rfl rfl ?_
              refine XO.nil ?_
              exact stepQ_ok trivial (rfl)
            refine stepsD_cons rfl ?_ ?_
            · intro X HD hleD _
              replace hs := hs.mono hleD
              replace hs2 := hs2.mono hleD
              replace hsl14 := hsl14.mono hleD
              replace hN19 := hN19.mono hleD
              replace hN24 := hN24.mono hleD
              refine withPreds_nil rfl ?_
              refine XO.move rfl rfl ?_
              refine XO.nil ?_
              exact stepQ_ok trivial (rfl)
            refine stepsD_cons rfl ?_ ?_
            · intro X HD hleD _
              replace hs := hs.mono hleD
              replace hs2 := hs2.mono hleD
              replace hsl14 := hsl14.mono hleD
              replace hN19 := hN19.mono hleD
              replace hN24 := hN24.mono hleD
              refine withPreds_cons rfl rfl ?_
              rintro _ rfl
              refine withPreds_cons rfl rfl ?_
              rintro _ rfl
              refine withPreds_nil rfl ?_
              refine XO.slice (lo' := 0) (hi' := (((min (eB (.mk k n s l)).length (eB (.mk k2 n2 s2 l2)).length) : Nat) : Int)) (m' := (cN19 : Int)) rfl hN19 ev?_none (ev?_some rfl) ev?_none (by simp) (by omega) (by omega) (by omega) (by omega) (by omega) Try.underlying27 ty_5 rfl (fun as48 ls48 hls48 hss48 => ?_)
              obtain rfl : ls48 = (eB (.mk k n s l)).take (min (eB (.mk k n s l)).length (eB (.mk k2 n2 s2 l2)).length) := by first | (rw [hls48]; simp only [Int.toNat_natCast, Nat.add_sub_cancel_left]; done) | (rw [hls48]; simp; done) | (rw [hls48]; simp; rw [List.take_of_length_le (by simp)])
              refine XO.nil ?_
              exact stepQ_ok trivial (⟨_, _, rfl, hss48⟩)
            refine stepsD_cons rfl ?_ ?_
            · intro X HD hleD _
              replace hs := hs.mono hleD
              replace hs2 := hs2.mono hleD
              replace hsl14 := hsl14.mono hleD
              replace hN19 := hN19.mono hleD
              replace hN24 := hN24.mono hleD
              refine withPreds_cons rfl rfl ?_
              rintro _ ⟨a48, c48, rfl, h48⟩
              refine withPreds_nil rfl ?_
              refine XO.b2s rfl h48 Try.underlying27 Try.underlying5 Try.underlying9 rfl ?_
              refine XO.nil ?_
              exact stepQ_ok trivial (rfl)
            refine stepsD_cons rfl ?_ ?_
            · intro X HD hleD _
              replace hs := hs.mono hleD
              replace hs2 := hs2.mono hleD
              replace hsl14 := hsl14.mono hleD
              replace hN19 := hN19.mono hleD
              replace hN24 := hN24.mono hleD
              refine withPreds_nil rfl ?_
              refine XO.move rfl rfl ?_
              refine XO.nil ?_
              exact stepQ_ok trivial (rfl)
            refine stepsD_cons rfl ?_ ?_
            · intro X HD hleD _
              replace hs := hs.mono hleD
              replace hs2 := hs2.mono hleD
              replace hsl14 := hsl14.mono hleD
              replace hN19 := hN19.mono hleD
              replace hN24 := hN24.mono hleD
              refine withPreds_nil rfl ?_
              refine XO.move rfl rfl ?_
              refine XO.nil ?_
              exact stepQ_ok trivial (rfl)
            refine stepsD_cons rfl ?_ ?_
            · intro X HD hleD _
              replace hs := hs.mono hleD
              replace hs2 := hs2.mono hleD
              replace hsl14 := hsl14.mono hleD
              replace hN19 := hN19.mono hleD
              replace hN24 := hN24.mono hleD
              refine withPreds_cons rfl rfl ?_
              rintro _ rfl
              refine withPreds_cons rfl rfl ?_
              rintro _ rfl
              refine withPreds_nil rfl ?_
              refine XO.slice (lo' := 0) (hi' := (((min (eB (.mk k n s l)).length (eB (.mk k2 n2 s2 l2)).length) : Nat) : Int)) (m' := (cN24 : Int)) rfl hN24 ev?_none (ev?_some rfl) ev?_none (by simp) (by omega) (by omega) (by omega) (by omega) (by omega) Try.underlying27 ty_5 rfl (fun as52 ls52 hls52 hss52 => ?_)
              obtain rfl : ls52 = (eB (.mk k2 n2 s2 l2)).take (min (eB (.mk k n s l)).length (eB (.mk k2 n2 s2 l2)).length) := by first | (rw [hls52]; simp only [Int.toNat_natCast, Nat.add_sub_cancel_left]; done) | (rw [hls52]; simp; done) | (rw [hls52]; simp; rw [List.take_of_length_le (by simp)])
              refine XO.nil ?_
              exact stepQ_ok trivial (⟨_, _, rfl, hss52⟩)
            refine stepsD_cons rfl ?_ ?_
            · intro X HD hleD _
              replace hs := hs.mono hleD
              replace hs2 := hs2.mono hleD
              replace hsl14 := hsl14.mono hleD
              replace hN19 := hN19.mono hleD
              replace hN24 := hN24.mono hleD
              refine withPreds_cons rfl rfl ?_
              rintro _ ⟨a52, c52, rfl, h52⟩
              refine withPreds_nil rfl ?_
              refine XO.b2s rfl h52 Try.underlying27 Try.underlying5 Try.underlying9 rfl ?_
              refine XO.nil ?_
              exact stepQ_ok trivial (rfl)
            exact stepsD_end rfl
          case tail11 =>
            intro HD hleD _
            replace hs := hs.mono hleD
            replace hs2 := hs2.mono hleD
            replace hsl14 := hsl14.mono hleD
            replace hN19 := hN19.mono hleD
            replace hN24 := hN24.mono hleD
            refine withPreds_cons rfl rfl ?_
            rintro _ rfl
            refine withPreds_cons rfl rfl ?_
            rintro _ rfl
            refine withPreds_cons rfl rfl ?_
            rintro _ ⟨a48, c48, rfl, h48⟩
            refine withPreds_cons rfl rfl ?_
            rintro _ rfl
            refine withPreds_cons rfl rfl ?_
            rintro _ rfl
            refine withPreds_cons rfl rfl ?_
            rintro _ rfl
            refine withPreds_cons rfl rfl ?_
            rintro _ ⟨a52, c52, rfl, h52⟩
            refine withPreds_cons rfl rfl ?_
            rintro _ rfl
            refine withPreds_nil rfl ?_
            refine XO.neqS rfl rfl rfl ?_
            refine XO.assign rfl rfl ?_
            refine XO.nil ?_
            refine XC.seq2 ?_
            refine XC.ret ?_
            refine ⟨rfl, _, [], rfl, (by repeat (first | exact List.Sublist.refl _ | apply List.Sublist.cons)), RetR.mk ?_⟩
            first | rfl | exact congrArg Value.bool (decide_eq_true (by rw [heq])) | exact congrArg Value.bool (decide_eq_true (fun h => hne (enc_apart (by omega) (by omega) hf hf2 rfl h)))
    · have g6p := of_decide_eq_true g6
      refine XO.guardF rfl rfl (g6) rfl rfl ?_
      refine XO.pickT rfl (g6) rfl rfl ?_
      refine XO.nil ?_
      refine XC.seq2 ?_
      refine XC.condT rfl (rfl) ?_
      refine XC.seq ?_
      refine XC.region ?_
      refine XO.assign rfl rfl ?_
      refine XO.nil ?_
      refine XC.seq2 ?_
      refine XC.ret ?_
      refine seqX_ret ?_
      refine ⟨rfl, _, [], rfl, (by repeat (first | exact List.Sublist.refl _ | apply List.Sublist.cons)), RetR.mk ?_⟩
      first | rfl | exact congrArg Value.bool (decide_eq_true (by rw [heq])) | exact congrArg Value.bool (decide_eq_true (fun h => hne (enc_apart (by omega) (by omega) hf hf2 rfl h)))

namespace codecDifferent
open Go.ChangeShapes Go.WideShapes Go.ChangeAt Go.RowKit
open Go.ChangeMaps (open_string shut_string)
theorem own : ownKnob Try.prog.godebug = none := by kernel_rfl
theorem laidOut : laidOutB Try.prog = true := by kernel_rfl
set_option maxRecDepth 100000 in
theorem lifted (os : Os) (started : os.Started) (H : Type) (enc : TypeId × Value → H) :
    ReturnsInHanded {} Try.checked os 7 .any (Rows.codecDifferentSpec.pre6 enc Try.prog Try.f7 Rows.codecDifferentRow.domain false) (Rows.codecDifferentSpec.post enc Try.prog Try.f7 false true false false) := by
  refine returnsInHanded_of_change (C := Try.checked) own started (by kernel_rfl) Try.func7
    (ChangeSpec.witness6 (enc := enc) (C := Try.checked) false ⟨#[], #[.agg ⟨[.int .i64 0, .int .i64 0, .string ByteArray.empty, .slice none 0 0]⟩, .agg ⟨[.int .i64 0, .int .i64 0, .string ByteArray.empty, .slice none 0 0]⟩], []⟩ 8 (by kernel_rfl) (by kernel_rfl) (by kernel_rfl) (by kernel_rfl)) ?_
  intro W base args ds gs before hval0 hW hcnd _
  have hval : ∀ (j : Nat) t v, Try.f7.params[j]? = some t → args[j]? = some v → Value.okWide Try.prog W .any base t v := hval0
  have hW' := hW
  obtain ⟨p, q, hA0, hV, rfl, hfz, hnd⟩ := hW
  have hA : DataW.TrodAll enc Try.prog W 0 (fun _ => true) true Try.f7.params.toList args.toList ds p := hA0
  rw [Try.params7] at hA hval
  obtain ⟨v0, vs0, d0, ds0, p0, q0, hargs, rfl, rfl, h0, r0⟩ := trodAll_cons hA
  obtain ⟨v1, vs1, d1, ds1, p1, q1, rfl, rfl, rfl, h1, r1⟩ := trodAll_cons r0
  obtain ⟨rfl, rfl, rfl⟩ := trodAll_nil r1
  obtain rfl : args = #[v0, v1] := by cases args; simp_all
  obtain ⟨rfl, rfl⟩ := trodVars_none hV
  have k0 := h0
  have lt0 : ∀ x ∈ p0, x.block < W.heap.size := by obtain ⟨m, hm⟩ := k0; exact DataW.trod_lt m _ _ _ hm
  obtain ⟨fuel0, hf0⟩ := h0
  obtain ⟨l0, cl0, rfl, hR0, hw0⟩ := open_agg opens_val Try.underlying24 (hval 0 24 v0 rfl rfl) hf0
  obtain ⟨xk0, xn0, xs0, xl0, xa0, xc0, rfl, rfl, xd0, xf0⟩ := val_open hR0 hw0
  have k1 := h1
  have lt1 : ∀ x ∈ p1, x.block < W.heap.size := by obtain ⟨m, hm⟩ := k1; exact DataW.trod_lt m _ _ _ hm
  obtain ⟨fuel1, hf1⟩ := h1
  obtain ⟨l1, cl1, rfl, hR1, hw1⟩ := open_agg opens_val Try.underlying24 (hval 1 24 v1 rfl rfl) hf1
  obtain ⟨xk1, xn1, xs1, xl1, xa1, xc1, rfl, rfl, xd1, xf1⟩ := val_open hR1 hw1
  clear hA0 hval0
  refine (codecDifferent_fn xk0 xn0 xs0 xl0 xa0 xc0 xk1 xn1 xs1 xl1 xa1 xc1 (hpOf W) xf0 xd0 xf1 xd1).below.mono fun e W' ⟨he, bel⟩ => ?_
  subst he
  exact ⟨_, rfl, _, _, _, [], _, [], hW', trodAll_mk1 (shut_bool Try.underlying4 _), (trodAll_cons_mk (Below.trod laidOut (by kernel_rfl) (of_decide_eq_true (by kernel_rfl)) k0 bel lt0) (trodAll_cons_mk (Below.trod laidOut (by kernel_rfl) (of_decide_eq_true (by kernel_rfl)) k1 bel lt1) trodAll_mk0)), rfl, bel.frame _, fun h => by cases h⟩
theorem over : Rows.codecDifferentRow.holds Try.pinned (OpenSpec.ofChange Rows.codecDifferentSpec) :=
  OpenClaim.holds_of_wide 7 Try.f7 rfl rfl rfl rfl rfl rfl rfl ⟨rfl, rfl, rfl, rfl, rfl⟩ rfl rfl rfl rfl rfl (by kernel_rfl) Try.func7 (by kernel_rfl)
    (of_decide_eq_true (by kernel_rfl)) (by unfold Func.isWrapper; first | (rw [if_pos (by decide +kernel)]; kernel_rfl) | (rw [if_neg (by decide +kernel)]; exact ⟨rfl, rfl⟩))
    (fun os started H enc _ => lifted os started H enc)
/-- The given statement. -/
theorem proved : Rows.CodecDifferentSaid := over
#print axioms proved
end codecDifferent
end Go.Proofs.Ytngedgknbebgpaa
