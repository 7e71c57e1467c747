/- The law CodecSameSpec: it returns true, whatever the input, and what it was handed reads as before. No condition. -/
import Derived.Test.YtngedgknbebgpaaB7
import Derived.Test.YtngedgknbebgpaaB2
import Derived.Test.YtngedgknbebgpaaRows
import Derived.WalkKit
import Derived.ProofKit
import Derived.OpenShut
import Derived.ShutString
import Derived.ChangeOld
import Derived.Below
set_option autoImplicit false
set_option linter.unusedVariables false
set_option linter.unusedSimpArgs false
namespace Go.Proofs.Ytngedgknbebgpaa
open Go.XL



theorem codecSameSpec_fn (k n : Int) (s : List UInt8) (l : List Val) (a : Option Addr) (c : Nat) (k2 n2 : Int) (s2 : List UInt8) (l2 : List Val) (a2 : Option Addr) (c2 : Nat) (H : Hp) (hf : Fit (.mk k n s l)) (hs : SlR valR H a c l) (hf2 : Fit (.mk k2 n2 s2 l2)) (hs2 : SlR valR H a2 c2 l2) : FnC Try.prog 5 #[.agg ⟨[.int .i64 k, .int .i64 n, .string (bsOf s), .slice a l.length c]⟩, .agg ⟨[.int .i64 k2, .int .i64 n2, .string (bsOf s2), .slice a2 l2.length c2]⟩] H [] (RetR (fun v _ _ => v = .bool true)) := by
  refine FnC.intro (args := [.agg ⟨[.int .i64 k, .int .i64 n, .string (bsOf s), .slice a l.length c]⟩, .agg ⟨[.int .i64 k2, .int .i64 n2, .string (bsOf s2), .slice a2 l2.length c2]⟩]) Try.func5 rfl rfl Try.ntmps5 rfl rfl rfl fun G rest => ?_
  refine XC.seq ?_
  refine XC.region ?_
  refine XO.box rfl rfl rfl (fun b2 => ?_)
  refine XO.box rfl rfl rfl (fun b3 => ?_)
  refine XO.assign rfl rfl ?_
  refine XO.nil ?_
  refine XC.seq2 ?_
  refine XC.seq ?_
  refine XC.seq ?_
  refine XC.region ?_
  refine XO.callV rfl (sane01 _) rfl ?_
  refine XO.notB rfl rfl ?_
  refine XO.nil ?_
  refine XC.seq2 ?_
  refine XC.condF rfl (rfl) ?_
  refine XC.skip ?_
  refine XC.seq2 ?_
  refine XC.seq ?_
  refine XC.seq ?_
  refine XC.region ?_
  refine XO.loadO 1 rfl rfl ty_24 rfl rfl rfl ?_
  refine XO.loadO 0 rfl rfl ty_24 rfl rfl rfl ?_
  refine XO.buildSlice rfl Try.underlying22 ty_24 ze_24 rfl rfl rfl (fun b9 => ?_)
  refine XO.publish 0 rfl rfl rfl (fun HP9 hoP9 hleP9 hbP9 hsoP9 => ?_)
  replace hs := hs.mono hleP9
  replace hs2 := hs2.mono hleP9
  have hsl9 := SlR.lit (ρ := valR) (l := [.mk k n s l, .mk k2 n2 s2 l2]) hbP9 hsoP9 (RowsR.cons1 (cs := [_, _, _, _]) (valR_iff.2 ⟨_, _, rfl, hs⟩) (RowsR.one1 (valR_iff.2 ⟨_, _, rfl, hs2⟩)))
  have hcall := few_fn _ _ [.mk k n s l, .mk k2 n2 s2 l2] _ hsl9 (by simp only [List.mem_cons, List.not_mem_nil, or_false, forall_eq_or_imp, forall_eq]; exact ⟨hf, hf2⟩) (by simp)
  refine XO.callK rfl hcall rfl ?_
  rintro _ ⟨bf, rfl, hfew⟩
  refine XO.notB rfl rfl ?_
  refine XO.nil ?_
  refine XC.seq2 ?_
  refine XC.condB rfl (fun c1_3 => ?_) (fun c1_3 => ?_)
  · refine XC.seq ?_
    refine XC.region ?_
    refine XO.assign rfl rfl ?_
    refine XO.nil ?_
    refine XC.seq2 ?_
    refine XC.ret ?_
    refine seqX_ret ?_
    refine ⟨rfl, _, [], rfl, (by repeat (first | exact List.Sublist.refl _ | apply List.Sublist.cons)), RetR.mk ?_⟩
    first | rfl | exact congrArg Value.bool (same_self _)
  · obtain rfl : bf = true := by simpa using c1_3
    have hv : wszV (.mk k n s l) ≤ 44000 := hfew rfl _ (by simp)
    have hw : wszV (.mk k n s l) ≤ 1000000 := by omega
    have hv2 : wszV (.mk k2 n2 s2 l2) ≤ 44000 := hfew rfl _ (by simp)
    have hw2 : wszV (.mk k2 n2 s2 l2) ≤ 1000000 := by omega
    refine XC.skip ?_
    refine XC.seq2 ?_
    refine XC.seq ?_
    refine XC.keep [2, 3] rfl ?_
    apply XC.drawH (fun _ => True) trivial [] (by decide) (fun _ _ _ _ => True) (fun _ _ _ _ _ _ h => h) 15 [eqF _, eqF _, eqF _, eqF _, eqF _, eqF _, eqF _, eqF _, eqF _, eqF _, eqF _, eqF _, eqF _, eqF _, eqF _] follows (by kernel_rfl) ⟨eqF_mono _, eqF_mono _, eqF_mono _, eqF_mono _, eqF_mono _, eqF_mono _, eqF_mono _, eqF_mono _, eqF_mono _, eqF_mono _, eqF_mono _, eqF_mono _, eqF_mono _, eqF_mono _, eqF_mono _, trivial⟩ (by decide) ?steps4 ?tail4
    case steps4 =>
      refine stepsH_cons rfl ?_ ?_
      · intro X ext HD hleD _
        replace hs := hs.mono hleD
        replace hs2 := hs2.mono hleD
        replace hsl9 := hsl9.mono hleD
        refine withP_nil rfl ?_
        refine XO.loadO 1 rfl rfl ty_24 rfl rfl rfl ?_
        refine XO.nil ?_
        exact stepQN_ok rfl trivial (rfl)
      refine stepsH_cons rfl ?_ ?_
      · intro X ext HD hleD _
        replace hs := hs.mono hleD
        replace hs2 := hs2.mono hleD
        replace hsl9 := hsl9.mono hleD
        refine withP_nil rfl ?_
        refine XO.loadO 0 rfl rfl ty_24 rfl rfl rfl ?_
        refine XO.nil ?_
        exact stepQN_ok rfl trivial (rfl)
      refine stepsH_cons rfl ?_ ?_
      · intro X ext HD hleD _
        replace hs := hs.mono hleD
        replace hs2 := hs2.mono hleD
        replace hsl9 := hsl9.mono hleD
        refine withP_cons rfl rfl ?_
        rintro _ rfl
        refine withP_cons rfl rfl ?_
        rintro _ rfl
        refine withP_nil rfl ?_
        refine XO.callV rfl (same_all 1000000 k n k2 n2 s s2 l l2 a a2 c c2 _ hw (by decide) hs hs2) rfl ?_
        refine XO.nil ?_
        exact stepQN_ok rfl trivial (rfl)
      refine stepsH_cons rfl ?_ ?_
      · intro X ext HD hleD _
        replace hs := hs.mono hleD
        replace hs2 := hs2.mono hleD
        replace hsl9 := hsl9.mono hleD
        refine withP_nil rfl ?_
        refine XO.loadO 1 rfl rfl ty_24 rfl rfl rfl ?_
        refine XO.nil ?_
        exact stepQN_ok rfl trivial (rfl)
      refine stepsH_cons rfl ?_ ?_
      · intro X ext HD hleD _
        replace hs := hs.mono hleD
        replace hs2 := hs2.mono hleD
        replace hsl9 := hsl9.mono hleD
        refine withP_nil rfl ?_
        refine XO.loadO 0 rfl rfl ty_24 rfl rfl rfl ?_
        refine XO.nil ?_
        exact stepQN_ok rfl trivial (rfl)
      refine stepsH_cons rfl ?_ ?_
      · intro X ext HD hleD _
        replace hs := hs.mono hleD
        replace hs2 := hs2.mono hleD
        replace hsl9 := hsl9.mono hleD
        refine withP_cons rfl rfl ?_
        rintro _ rfl
        refine withP_cons rfl rfl ?_
        rintro _ rfl
        refine withP_nil rfl ?_
        refine XO.callV rfl (rsame_all 1000000 k n k2 n2 s s2 l l2 a a2 c c2 _ hw (by decide) hs hs2) rfl ?_
        refine XO.nil ?_
        exact stepQN_ok rfl trivial (rfl)
      refine stepsH_cons rfl ?_ ?_
      · intro X ext HD hleD _
        replace hs := hs.mono hleD
        replace hs2 := hs2.mono hleD
        replace hsl9 := hsl9.mono hleD
        refine withP_cons rfl rfl ?_
        rintro _ rfl
        refine withP_cons rfl rfl ?_
        rintro _ rfl
        refine withP_nil rfl ?_
        refine XO.eqlB rfl rfl Try.underlying4 rfl ?_
        refine XO.nil ?_
        exact stepQN_ok rfl trivial (rfl)
      refine stepsH_cons rfl ?_ ?_
      · intro X ext HD hleD _
        replace hs := hs.mono hleD
        replace hs2 := hs2.mono hleD
        replace hsl9 := hsl9.mono hleD
        refine withP_cons rfl rfl ?_
        rintro _ rfl
        refine withP_nil rfl ?_
        refine XO.move rfl rfl ?_
        refine XO.nil ?_
        exact stepQN_ok rfl trivial (rfl)
      refine stepsH_cons rfl ?_ ?_
      · intro X ext HD hleD _
        replace hs := hs.mono hleD
        replace hs2 := hs2.mono hleD
        replace hsl9 := hsl9.mono hleD
        refine withP_cons rfl rfl ?_
        rintro _ rfl
        refine withP_nil rfl ?_
        refine XO.guardT rfl rfl (by simp) rfl ?_
        refine XO.loadO 1 rfl rfl ty_24 rfl rfl rfl ?_
        refine XO.nil ?_
        exact stepQN_ok rfl trivial (rfl)
      refine stepsH_cons rfl ?_ ?_
      · intro X ext HD hleD _
        replace hs := hs.mono hleD
        replace hs2 := hs2.mono hleD
        replace hsl9 := hsl9.mono hleD
        refine withP_cons rfl rfl ?_
        rintro _ rfl
        refine withP_nil rfl ?_
        refine XO.guardT rfl rfl (by simp) rfl ?_
        refine XO.loadO 1 rfl rfl ty_24 rfl rfl rfl ?_
        refine XO.nil ?_
        exact stepQN_ok rfl trivial (rfl)
      refine stepsH_cons rfl ?_ ?_
      · intro X ext HD hleD _
        replace hs := hs.mono hleD
        replace hs2 := hs2.mono hleD
        replace hsl9 := hsl9.mono hleD
        refine withP_cons rfl rfl ?_
        rintro _ rfl
        refine withP_cons rfl rfl ?_
        rintro _ rfl
        refine withP_cons rfl rfl ?_
        rintro _ rfl
        refine withP_nil rfl ?_
        refine XO.guardT rfl rfl (by simp) rfl ?_
        refine XO.callV rfl (same_all 1000000 k n k n s s l l a a c c _ hw (by decide) hs hs) rfl ?_
        refine XO.nil ?_
        exact stepQN_ok rfl trivial (rfl)
      refine stepsH_cons rfl ?_ ?_
      · intro X ext HD hleD _
        replace hs := hs.mono hleD
        replace hs2 := hs2.mono hleD
        replace hsl9 := hsl9.mono hleD
        refine withP_cons rfl rfl ?_
        rintro _ rfl
        refine withP_cons rfl rfl ?_
        rintro _ rfl
        refine withP_nil rfl ?_
        refine XO.pickT rfl (by simp) rfl rfl ?_
        refine XO.nil ?_
        exact stepQN_ok rfl trivial (rfl)
      refine stepsH_cons rfl ?_ ?_
      · intro X ext HD hleD _
        replace hs := hs.mono hleD
        replace hs2 := hs2.mono hleD
        replace hsl9 := hsl9.mono hleD
        refine withP_cons rfl rfl ?_
        rintro _ rfl
        refine withP_nil rfl ?_
        refine XO.move rfl rfl ?_
        refine XO.nil ?_
        exact stepQN_ok rfl trivial (rfl)
      refine stepsH_cons rfl ?_ ?_
      · intro X ext HD hleD _
        replace hs := hs.mono hleD
        replace hs2 := hs2.mono hleD
        replace hsl9 := hsl9.mono hleD
        refine withP_cons rfl rfl ?_
        rintro _ rfl
        refine withP_nil rfl ?_
        refine XO.guardT rfl rfl (same_self _) rfl ?_
        refine XO.loadO 0 rfl rfl ty_24 rfl rfl rfl ?_
        refine XO.nil ?_
        exact stepQN_ok rfl trivial (rfl)
      refine stepsH_cons rfl ?_ ?_
      · intro X ext HD hleD _
        replace hs := hs.mono hleD
        replace hs2 := hs2.mono hleD
        replace hsl9 := hsl9.mono hleD
        refine withP_cons rfl rfl ?_
        rintro _ rfl
        refine withP_nil rfl ?_
        refine XO.guardT rfl rfl (same_self _) rfl ?_
        refine XO.loadO 0 rfl rfl ty_24 rfl rfl rfl ?_
        refine XO.nil ?_
        exact stepQN_ok rfl trivial (rfl)
      exact stepsH_end rfl
    case tail4 =>
      intro HD hleD _
      replace hs := hs.mono hleD
      replace hs2 := hs2.mono hleD
      replace hsl9 := hsl9.mono hleD
      refine withP_cons rfl rfl ?_
      rintro _ rfl
      refine withP_cons rfl rfl ?_
      rintro _ rfl
      refine withP_cons rfl rfl ?_
      rintro _ rfl
      refine withP_cons rfl rfl ?_
      rintro _ rfl
      refine withP_cons rfl rfl ?_
      rintro _ rfl
      refine withP_cons rfl rfl ?_
      rintro _ rfl
      refine withP_cons rfl rfl ?_
      rintro _ rfl
      refine withP_cons rfl rfl ?_
      rintro _ rfl
      refine withP_cons rfl rfl ?_
      rintro _ rfl
      refine withP_cons rfl rfl ?_
      rintro _ rfl
      refine withP_cons rfl rfl ?_
      rintro _ rfl
      refine withP_cons rfl rfl ?_
      rintro _ rfl
      refine withP_cons rfl rfl ?_
      rintro _ rfl
      refine withP_cons rfl rfl ?_
      rintro _ rfl
      refine withP_cons rfl rfl ?_
      rintro _ rfl
      refine withP_nil rfl ?_
      refine withEnts_nil ?_
      refine XO.guardT rfl rfl (same_self _) rfl ?_
      refine XO.callV rfl (same_all 1000000 k2 n2 k2 n2 s2 s2 l2 l2 a2 a2 c2 c2 _ hw2 (by decide) hs2 hs2) rfl ?_
      refine XO.pickT rfl (same_self _) rfl rfl ?_
      refine XO.assign rfl rfl ?_
      refine XO.nil ?_
      refine XC.seq2 ?_
      refine XC.ret ?_
      refine ⟨rfl, _, [], rfl, (by repeat (first | exact List.Sublist.refl _ | apply List.Sublist.cons)), RetR.mk ?_⟩
      first | rfl | exact congrArg Value.bool (same_self _)

namespace codecSameSpec
open Go.ChangeShapes Go.WideShapes Go.ChangeAt Go.RowKit
open Go.ChangeMaps (open_string shut_string)
theorem own : ownKnob Try.prog.godebug = none := by kernel_rfl
theorem laidOut : laidOutB Try.prog = true := by kernel_rfl
set_option maxRecDepth 100000 in
theorem lifted (os : Os) (started : os.Started) (H : Type) (enc : TypeId × Value → H) :
    ReturnsInHanded {} Try.checked os 5 .any (Rows.codecSameSpecSpec.pre6 enc Try.prog Try.f5 Rows.codecSameSpecRow.domain false) (Rows.codecSameSpecSpec.post enc Try.prog Try.f5 false true false false) := by
  refine returnsInHanded_of_change (C := Try.checked) own started (by kernel_rfl) Try.func5
    (ChangeSpec.witness6 (enc := enc) (C := Try.checked) false ⟨#[], #[.agg ⟨[.int .i64 0, .int .i64 0, .string ByteArray.empty, .slice none 0 0]⟩, .agg ⟨[.int .i64 0, .int .i64 0, .string ByteArray.empty, .slice none 0 0]⟩], []⟩ 8 (by kernel_rfl) (by kernel_rfl) (by kernel_rfl) (by kernel_rfl)) ?_
  intro W base args ds gs before hval0 hW hcnd _
  have hval : ∀ (j : Nat) t v, Try.f5.params[j]? = some t → args[j]? = some v → Value.okWide Try.prog W .any base t v := hval0
  have hW' := hW
  obtain ⟨p, q, hA0, hV, rfl, hfz, hnd⟩ := hW
  have hA : DataW.TrodAll enc Try.prog W 0 (fun _ => true) true Try.f5.params.toList args.toList ds p := hA0
  rw [Try.params5] at hA hval
  obtain ⟨v0, vs0, d0, ds0, p0, q0, hargs, rfl, rfl, h0, r0⟩ := trodAll_cons hA
  obtain ⟨v1, vs1, d1, ds1, p1, q1, rfl, rfl, rfl, h1, r1⟩ := trodAll_cons r0
  obtain ⟨rfl, rfl, rfl⟩ := trodAll_nil r1
  obtain rfl : args = #[v0, v1] := by cases args; simp_all
  obtain ⟨rfl, rfl⟩ := trodVars_none hV
  have k0 := h0
  have lt0 : ∀ x ∈ p0, x.block < W.heap.size := by obtain ⟨m, hm⟩ := k0; exact DataW.trod_lt m _ _ _ hm
  obtain ⟨fuel0, hf0⟩ := h0
  obtain ⟨l0, cl0, rfl, hR0, hw0⟩ := open_agg opens_val Try.underlying24 (hval 0 24 v0 rfl rfl) hf0
  obtain ⟨xk0, xn0, xs0, xl0, xa0, xc0, rfl, rfl, xd0, xf0⟩ := val_open hR0 hw0
  have k1 := h1
  have lt1 : ∀ x ∈ p1, x.block < W.heap.size := by obtain ⟨m, hm⟩ := k1; exact DataW.trod_lt m _ _ _ hm
  obtain ⟨fuel1, hf1⟩ := h1
  obtain ⟨l1, cl1, rfl, hR1, hw1⟩ := open_agg opens_val Try.underlying24 (hval 1 24 v1 rfl rfl) hf1
  obtain ⟨xk1, xn1, xs1, xl1, xa1, xc1, rfl, rfl, xd1, xf1⟩ := val_open hR1 hw1
  clear hA0 hval0
  refine (codecSameSpec_fn xk0 xn0 xs0 xl0 xa0 xc0 xk1 xn1 xs1 xl1 xa1 xc1 (hpOf W) xf0 xd0 xf1 xd1).below.mono fun e W' ⟨he, bel⟩ => ?_
  subst he
  exact ⟨_, rfl, _, _, _, [], _, [], hW', trodAll_mk1 (shut_bool Try.underlying4 _), (trodAll_cons_mk (Below.trod laidOut (by kernel_rfl) (of_decide_eq_true (by kernel_rfl)) k0 bel lt0) (trodAll_cons_mk (Below.trod laidOut (by kernel_rfl) (of_decide_eq_true (by kernel_rfl)) k1 bel lt1) trodAll_mk0)), rfl, bel.frame _, fun h => by cases h⟩
theorem over : Rows.codecSameSpecRow.holds Try.pinned (OpenSpec.ofChange Rows.codecSameSpecSpec) :=
  OpenClaim.holds_of_wide 5 Try.f5 rfl rfl rfl rfl rfl rfl rfl ⟨rfl, rfl, rfl, rfl, rfl⟩ rfl rfl rfl rfl rfl (by kernel_rfl) Try.func5 (by kernel_rfl)
    (of_decide_eq_true (by kernel_rfl)) (by unfold Func.isWrapper; first | (rw [if_pos (by decide +kernel)]; kernel_rfl) | (rw [if_neg (by decide +kernel)]; exact ⟨rfl, rfl⟩))
    (fun os started H enc _ => lifted os started H enc)
/-- The given statement. -/
theorem proved : Rows.CodecSameSpecSaid := over
#print axioms proved
end codecSameSpec
end Go.Proofs.Ytngedgknbebgpaa
