/- The law FieldThrough: it returns true, whatever the input, and what it was handed reads as before. No condition. -/
import Derived.Test.YtdiknopliedddaaRaO
import Derived.Test.YtdiknopliedddaaRaW
import Derived.Test.YtdiknopliedddaaRaQ
import Derived.Test.YtdiknopliedddaaXLn
import Derived.Test.YtdiknopliedddaaRows
import Derived.WalkKit
import Derived.ProofKit
import Derived.OpenShut
import Derived.ShutString
import Derived.ChangeOld
import Derived.Below
set_option autoImplicit false
set_option linter.unusedVariables false
set_option linter.unusedSimpArgs false
namespace Go.Proofs.Ytdiknopliedddaa
open Go.XL



set_option maxRecDepth 100000 in
theorem fieldThrough_fn (a0 : Option Addr) (c0 : Nat) (l0 : List Pt) (a1 : Option Addr) (c1 : Nat) (l1 : List Int) (t : Int) (H : Hp) (hs0 : SlR ptR H a0 c0 l0) (hs1 : SlR (intR .i64) H a1 c1 l1) : FnC Try.prog 6 #[.slice a0 l0.length c0, .slice a1 l1.length c1, .int .i64 t] H [] (RetR fun v _ _ => v = .bool true) := by
  refine FnC.intro (args := [.slice a0 l0.length c0, .slice a1 l1.length c1, .int .i64 t]) Try.func6 rfl rfl Try.ntmps6 rfl rfl rfl fun G rest => ?_
  refine XC.seq ?_
  refine XC.region ?_
  refine XO.assign rfl rfl ?_
  refine XO.nil ?_
  refine XC.seq2 ?_
  refine XC.seq ?_
  refine XC.seq ?_
  refine XC.region ?_
  refine XO.callV rfl (sane12 _) rfl ?_
  refine XO.notB rfl rfl ?_
  refine XO.nil ?_
  refine XC.seq2 ?_
  refine XC.condF rfl (rfl) ?_
  refine XC.skip ?_
  refine XC.seq2 ?_
  refine XC.seq ?_
  refine XC.seq ?_
  refine XC.region ?_
  refine XO.move rfl rfl ?_
  refine XO.lenS (ts := #[]) rfl Try.underlying30 rfl ?_
  refine XO.gtr rfl rfl rfl ?_
  refine XO.move rfl rfl ?_
  refine XO.guardC rfl rfl rfl rfl (fun g2 => ?_) (fun g2 => ?_)
  · have g2p := of_decide_eq_false g2
    refine XO.move rfl rfl ?_
    refine XO.guardT rfl rfl (g2) rfl ?_
    refine XO.callK rfl (diff_fn _ _ _ _ hs0 (by omega)) rfl ?_
    rintro _ ⟨bD, rfl, hD⟩
    refine XO.guardT rfl rfl (g2) rfl ?_
    refine XO.notB rfl rfl ?_
    refine XO.pickF rfl (g2) rfl rfl ?_
    refine XO.move rfl rfl ?_
    refine XO.guardC rfl rfl rfl rfl (fun g4 => ?_) (fun g4 => ?_)
    · have g4p := g4
      refine XO.move rfl rfl ?_
      refine XO.guardT rfl rfl (g4) rfl ?_
      refine XO.lenS (ts := #[]) rfl Try.underlying29 rfl ?_
      refine XO.guardT rfl rfl (g4) rfl ?_
      refine XO.move rfl rfl ?_
      refine XO.guardT rfl rfl (g4) rfl ?_
      refine XO.lenS (ts := #[]) rfl Try.underlying30 rfl ?_
      refine XO.guardT rfl rfl (g4) rfl ?_
      refine XO.gtr rfl rfl rfl ?_
      refine XO.pickF rfl (g4) rfl rfl ?_
      refine XO.nil ?_
      refine XC.seq2 ?_
      refine XC.cond rfl (fun c1_5 => ?_) (fun c1_5 => ?_)
      · refine XC.seq ?_
        refine XC.region ?_
        refine XO.assign rfl rfl ?_
        refine XO.nil ?_
        refine XC.seq2 ?_
        refine XC.ret ?_
        refine seqX_ret ?_
        refine ⟨rfl, _, [], rfl, (by repeat (first | exact List.Sublist.refl _ | apply List.Sublist.cons)), RetR.mk ?_⟩
        first | rfl | exact congrArg Value.bool (by simp [hthr])
      · have hl24 : l0.length ≤ 24 := by omega
        have hn : (l0.map fun p : Pt => p.X % 1073741789).Nodup := by rw [← diff_iff, ← hD]; simp_all
        refine XC.skip ?_
        refine XC.seq2 ?_
        refine XC.seq ?_
        refine XC.region ?_
        refine XO.assign rfl rfl ?_
        refine XO.nil ?_
        refine XC.seq2 ?_
        refine XC.seq ?_
        refine XC.seq ?_
        refine XC.region ?_
        refine XO.move rfl rfl ?_
        refine XO.lenS (ts := #[]) rfl Try.underlying30 rfl ?_
        refine XO.move rfl rfl ?_
        refine XO.nil ?_
        refine XC.seq2 ?_
        refine XC.block ?_
        refine XC.keep [7, 33, 0, 1, 2, 31, 32] rfl ?_
        refine XC.open0 0 ?_
        refine XC.loop (base := [(0, _), (1, _), (2, _), (31, _), (32, _)]) (fun s : Nat × (Nat × SObj) × Option Addr × Nat => [(7, .slice s.2.2.1 (evl l1 (l0.take s.1)).length s.2.2.2), (33, .int .i64 (s.1 : Nat))]) (fun s Hl own => s.1 ≤ l0.length ∧ Le H Hl ∧ s.2.1 :: rest = own ∧ Acc ptR 38 Hl s.2.1 s.2.2.1 s.2.2.2 (evl l1 (l0.take s.1))) (fun s => l0.length - s.1) (0, (0, .nothing), none, 0) (prov_cons (rfl) (prov_cons (rfl) (prov_cons (rfl) (prov_cons (rfl) (prov_cons (rfl) (prov_cons (rfl) (prov_cons (rfl) prov_nil))))))) (List.Sublist.refl _) ⟨Nat.zero_le _, Le.refl _, rfl, Acc.nil _ _ _ _⟩ ?_
        rintro ⟨k, pa, aa, ca⟩ Hl _ hle ⟨hk, hH, rfl, hacc⟩
        replace hs0 := hs0.mono hH
        replace hs1 := hs1.mono hH
        simp only at hk hacc ⊢
        refine XC.seq ?_
        refine XC.region ?_
        refine XO.lss rfl rfl rfl ?_
        refine XO.nil ?_
        refine XC.seq2 ?_
        refine XC.seq ?_
        refine XC.cond rfl (fun c2_6 => ?_) (fun c2_6 => ?_)
        · refine XC.skip ?_
          refine XC.seq2 ?_
          refine XC.seq ?_
          refine XC.block ?_
          refine XC.seq ?_
          refine XC.region ?_
          refine XO.indexN rfl (by assumption) rfl Try.underlying30 ty_38 (by omega) rfl ?_
          rintro eb eo _ xE hxE rfl hpE
          have hnode := atV_node hl24 hn hxE
          refine XO.loadH rfl (by assumption) ty_38 rfl rfl rfl ?_
          refine XO.alloc ze_38 rfl (fun b9 => ?_)
          refine XO.storeO 0 rfl rfl rfl rfl ty_38 rfl rfl rfl rfl rfl ?_
          refine XO.nil ?_
          refine XC.seq2 ?_
          refine XC.seq ?_
          refine XC.region ?_
          refine XO.move rfl rfl ?_
          refine XO.fieldAddr rfl fa_38_0 rfl ?_
          refine XO.loadO 0 rfl rfl ty_3 rfl rfl rfl ?_
          refine XO.callV rfl (at_fn _ _ _ _ _ hs0) rfl ?_
          refine XO.move rfl rfl ?_
          refine XO.extract rfl rfl rfl ?_
          refine XO.extract rfl rfl rfl ?_
          refine XO.assign rfl rfl ?_
          refine XO.assign rfl rfl ?_
          refine XO.nil ?_
          refine XC.seq2 ?_
          refine XC.seq ?_
          refine XC.seq ?_
          refine XC.region ?_
          refine XO.move rfl rfl ?_
          refine XO.neq rfl rfl rfl ?_
          refine XO.move rfl rfl ?_
          refine XO.guardT rfl rfl (by simp [hnode]) rfl ?_
          refine XO.move rfl rfl ?_
          refine XO.guardT rfl rfl (by simp [hnode]) rfl ?_
          refine XO.fieldAddr rfl fa_38_1 rfl ?_
          refine XO.guardT rfl rfl (by simp [hnode]) rfl ?_
          refine XO.loadO 0 rfl rfl ty_3 rfl rfl rfl ?_
          refine XO.guardT rfl rfl (by simp [hnode]) rfl ?_
          refine XO.callV rfl (mod_fn _ _) rfl ?_
          refine XO.guardT rfl rfl (by simp [hnode]) rfl ?_
          refine XO.neq rfl rfl rfl ?_
          refine XO.pickF rfl (by simp [hnode]) rfl rfl ?_
          refine XO.nil ?_
          refine XC.seq2 ?_
          refine XC.condF rfl (by simp [hnode]) ?_
          refine XC.skip ?_
          refine XC.seq2 ?_
          refine XC.keep [0, 1, 2, 7, 9, 31, 32, 33] rfl ?_
          apply XC.drawG (fun _ => True) trivial 9 [eqF _, eqF _, eqF _, eqF _, eqF _, eqF _, eqF _, eqF _, slF ptR [⟨xE.X, valP xE.X l1 0 1⟩]] follows (by kernel_rfl) (by kernel_rfl) ⟨eqF_mono _, eqF_mono _, eqF_mono _, eqF_mono _, eqF_mono _, eqF_mono _, eqF_mono _, eqF_mono _, slF_mono _ _, trivial⟩ ?steps10 ?tail10
          case steps10 =>
            refine stepsD_cons rfl ?_ ?_
            · intro X HD hleD _
              replace hs1 := hs1.mono hleD
              replace hacc := hacc.mono hleD
              refine withPreds_nil rfl ?_
              refine XO.move rfl rfl ?_
              refine XO.nil ?_
              exact stepQ_ok trivial (rfl)
            refine stepsD_cons rfl ?_ ?_
            · intro X HD hleD _
              replace hs1 := hs1.mono hleD
              replace hacc := hacc.mono hleD
              refine withPreds_nil rfl ?_
              refine XO.fieldAddr rfl fa_38_0 rfl ?_
              refine XO.nil ?_
              exact stepQ_ok trivial (rfl)
            refine stepsD_cons rfl ?_ ?_
            · intro X HD hleD _
              replace hs1 := hs1.mono hleD
              replace hacc := hacc.mono hleD
              refine withPreds_cons rfl rfl ?_
              rintro _ rfl
              refine withPreds_nil rfl ?_
              refine XO.loadO 0 rfl rfl ty_3 rfl rfl rfl ?_
              refine XO.nil ?_
              exact stepQ_ok trivial (rfl)
            refine stepsD_cons rfl ?_ ?_
            · intro X HD hleD _
              replace hs1 := hs1.mono hleD
              replace hacc := hacc.mono hleD
              refine withPreds_nil rfl ?_
              refine XO.move rfl rfl ?_
              refine XO.nil ?_
              exact stepQ_ok trivial (rfl)
            refine stepsD_cons rfl ?_ ?_
            · intro X HD hleD _
              replace hs1 := hs1.mono hleD
              replace hacc := hacc.mono hleD
              refine withPreds_nil rfl ?_
              refine XO.fieldAddr rfl fa_38_0 rfl ?_
              refine XO.nil ?_
              exact stepQ_ok trivial (rfl)
            refine stepsD_cons rfl ?_ ?_
            · intro X HD hleD _
              replace hs1 := hs1.mono hleD
              replace hacc := hacc.mono hleD
              refine withPreds_cons rfl rfl ?_
              rintro _ rfl
              refine withPreds_nil rfl ?_
              refine XO.loadO 0 rfl rfl ty_3 rfl rfl rfl ?_
              refine XO.nil ?_
              exact stepQ_ok trivial (rfl)
            refine stepsD_cons rfl ?_ ?_
            · intro X HD hleD _
              replace hs1 := hs1.mono hleD
              replace hacc := hacc.mono hleD
              refine withPreds_cons rfl rfl ?_
              rintro _ rfl
              refine withPreds_cons rfl rfl ?_
              rintro _ rfl
              refine withPreds_nil rfl ?_
              refine XO.callV rfl (value_fn _ _ _ _ _ hs1 (by omega)) rfl ?_
              refine XO.nil ?_
              exact stepQ_ok trivial (rfl)
            refine stepsD_cons rfl ?_ ?_
            · intro X HD hleD _
              replace hs1 := hs1.mono hleD
              replace hacc := hacc.mono hleD
              refine withPreds_cons rfl rfl ?_
              rintro _ rfl
              refine withPreds_cons rfl rfl ?_
              rintro _ rfl
              refine withPreds_nil rfl ?_
              refine XO.build bk_38 bf_38 ze_38 rfl rfl rfl ?_
              refine XO.nil ?_
              exact stepQ_ok trivial (rfl)
            refine stepsD_cons rfl ?_ ?_
            · intro X HD hleD _
              replace hs1 := hs1.mono hleD
              replace hacc := hacc.mono hleD
              refine withPreds_cons rfl rfl ?_
              rintro _ rfl
              refine withPreds_nil rfl ?_
              refine XO.buildSlice rfl Try.underlying30 ty_38 ze_38 rfl rfl rfl (fun b61 => ?_)
              refine XO.publish 0 rfl rfl rfl (fun HP oP hleP hbP hoP => ?_)
              have hsl := SlR.lit (ρ := ptR) (l := [⟨xE.X, valP xE.X l1 0 1⟩]) hbP hoP (RowsR.one1 rfl)
              refine XO.nil ?_
              exact stepQ_ok trivial (⟨_, rfl, hsl⟩)
            exact stepsD_end rfl
          case tail10 =>
            intro HD hleD _
            replace hs1 := hs1.mono hleD
            replace hacc := hacc.mono hleD
            refine withPreds_cons rfl rfl ?_
            rintro _ rfl
            refine withPreds_cons rfl rfl ?_
            rintro _ rfl
            refine withPreds_cons rfl rfl ?_
            rintro _ rfl
            refine withPreds_cons rfl rfl ?_
            rintro _ rfl
            refine withPreds_cons rfl rfl ?_
            rintro _ rfl
            refine withPreds_cons rfl rfl ?_
            rintro _ rfl
            refine withPreds_cons rfl rfl ?_
            rintro _ rfl
            refine withPreds_cons rfl rfl ?_
            rintro _ rfl
            refine withPreds_cons rfl rfl ?_
            rintro _ ⟨bs, rfl, hsl⟩
            refine withPreds_nil rfl ?_
            refine XO.appendA 1 rfl rfl hacc rfl rfl hsl rfl Try.underlying30 ty_38 ze_38 rfl by_38 (by rw [evl_len, List.length_take]; simp; omega) rfl (fun pa2 aa2 ca2 hacc2 => ?_)
            refine XO.assign rfl rfl ?_
            refine XO.nil ?_
            refine blockN ?_
            refine XC.seq2 ?_
            refine XC.region ?_
            refine XO.add rfl rfl (wrap_i64 (by omega) (by omega)) rfl ?_
            refine XO.move rfl rfl ?_
            refine XO.nil ?_
            refine loop_next ((k + 1, pa2, aa2, ca2)) (by show l0.length - (k + 1) < l0.length - k; omega) (prov_cons (by rw [evl_succ hxE]; rfl) (prov_cons (rfl) (prov_cons (rfl) (prov_cons (rfl) (prov_cons (rfl) (prov_cons (rfl) (prov_cons (rfl) prov_nil))))))) (⟨by show k + 1 ≤ _; omega, hH.trans hleD, rfl, by rw [evl_succ hxE]; exact hacc2⟩) (by repeat (first | exact List.Sublist.refl _ | apply List.Sublist.cons)) (hle.trans hleD)
        · obtain rfl : k = l0.length := by omega
          simp only [List.take_length] at hacc ⊢
          refine XC.publishA 0 rfl hacc rfl (fun HQ hleQ hsQ => ?_)
          replace hs1 := hs1.mono hleQ
          have hthr : atV t (evl l1 l0) = (valP t l1 0 1, 0) := atV_through hl24 hn (by omega) t
          have hvr : 0 ≤ valP t l1 0 1 ∧ valP t l1 0 1 < 1073741789 := valP_rng _ _ _ _ (by decide) (by decide)
          refine XC.exit ?_
          refine seqX_exit ?_
          refine loopX_exit ?_
          refine blockHit rfl ?_
          refine XC.seq2 ?_
          refine XC.seq ?_
          refine XC.region ?_
          refine XO.move rfl rfl ?_
          refine XO.move rfl rfl ?_
          refine XO.callV rfl (at_fn _ _ (evl l1 l0) _ _ hsQ) rfl ?_
          refine XO.move rfl rfl ?_
          refine XO.extract rfl rfl rfl ?_
          refine XO.extract rfl rfl rfl ?_
          refine XO.assign rfl rfl ?_
          refine XO.assign rfl rfl ?_
          refine XO.nil ?_
          refine XC.seq2 ?_
          refine XC.seq ?_
          refine XC.region ?_
          refine XO.move rfl rfl ?_
          refine XO.eql rfl rfl rfl ?_
          refine XO.move rfl rfl ?_
          refine XO.guardT rfl rfl (by simp [hthr]) rfl ?_
          refine XO.move rfl rfl ?_
          refine XO.guardT rfl rfl (by simp [hthr]) rfl ?_
          refine XO.callV rfl (in_fn _ _) rfl ?_
          refine XO.pickT rfl (by simp [hthr]) rfl rfl ?_
          refine XO.move rfl rfl ?_
          refine XO.guardT rfl rfl (by simp [hthr, hvr]) rfl ?_
          refine XO.move rfl rfl ?_
          refine XO.guardT rfl rfl (by simp [hthr, hvr]) rfl ?_
          refine XO.move rfl rfl ?_
          refine XO.guardT rfl rfl (by simp [hthr, hvr]) rfl ?_
          refine XO.move rfl rfl ?_
          refine XO.guardT rfl rfl (by simp [hthr, hvr]) rfl ?_
          refine XO.callV rfl (value_fn _ _ _ _ _ hs1 (by omega)) rfl ?_
          refine XO.guardT rfl rfl (by simp [hthr, hvr]) rfl ?_
          refine XO.eql rfl rfl rfl ?_
          refine XO.pickT rfl (by simp [hthr, hvr]) rfl rfl ?_
          refine XO.assign rfl rfl ?_
          refine XO.nil ?_
          refine XC.seq2 ?_
          refine XC.ret ?_
          refine ⟨rfl, _, [], rfl, (by repeat (first | exact List.Sublist.refl _ | apply List.Sublist.cons)), RetR.mk ?_⟩
          first | rfl | exact congrArg Value.bool (by simp [hthr])
    · have g4p := g4
      refine XO.guardF rfl rfl (g4) rfl rfl ?_
      refine XO.guardF rfl rfl (g4) rfl rfl ?_
      refine XO.guardF rfl rfl (g4) rfl rfl ?_
      refine XO.guardF rfl rfl (g4) rfl rfl ?_
      refine XO.pickT rfl (g4) rfl rfl ?_
      refine XO.nil ?_
      refine XC.seq2 ?_
      refine XC.condT rfl (rfl) ?_
      refine XC.seq ?_
      refine XC.region ?_
      refine XO.assign rfl rfl ?_
      refine XO.nil ?_
      refine XC.seq2 ?_
      refine XC.ret ?_
      refine seqX_ret ?_
      refine ⟨rfl, _, [], rfl, (by repeat (first | exact List.Sublist.refl _ | apply List.Sublist.cons)), RetR.mk ?_⟩
      first | rfl | exact congrArg Value.bool (by simp [hthr])
  · have g2p := of_decide_eq_true g2
    refine XO.guardF rfl rfl (g2) rfl rfl ?_
    refine XO.guardF rfl rfl (g2) rfl rfl ?_
    refine XO.pickT rfl (g2) rfl rfl ?_
    refine XO.move rfl rfl ?_
    refine XO.guardF rfl rfl (rfl) rfl rfl ?_
    refine XO.guardF rfl rfl (rfl) rfl rfl ?_
    refine XO.guardF rfl rfl (rfl) rfl rfl ?_
    refine XO.guardF rfl rfl (rfl) rfl rfl ?_
    refine XO.guardF rfl rfl (rfl) rfl rfl ?_
    refine XO.pickT rfl (rfl) rfl rfl ?_
    refine XO.nil ?_
    refine XC.seq2 ?_
    refine XC.condT rfl (rfl) ?_
    refine XC.seq ?_
    refine XC.region ?_
    refine XO.assign rfl rfl ?_
    refine XO.nil ?_
    refine XC.seq2 ?_
    refine XC.ret ?_
    refine seqX_ret ?_
    refine ⟨rfl, _, [], rfl, (by repeat (first | exact List.Sublist.refl _ | apply List.Sublist.cons)), RetR.mk ?_⟩
    first | rfl | exact congrArg Value.bool (by simp [hthr])

namespace fieldThrough
open Go.ChangeShapes Go.WideShapes Go.ChangeAt Go.RowKit
open Go.ChangeMaps (open_string shut_string)
theorem own : ownKnob Try.prog.godebug = none := by kernel_rfl
theorem laidOut : laidOutB Try.prog = true := by kernel_rfl
set_option maxRecDepth 100000 in
theorem lifted (os : Os) (started : os.Started) (H : Type) (enc : TypeId × Value → H) :
    ReturnsInHanded {} Try.checked os 6 .any (Rows.fieldThroughSpec.pre6 enc Try.prog Try.f6 Rows.fieldThroughRow.domain false) (Rows.fieldThroughSpec.post enc Try.prog Try.f6 false true false false) := by
  refine returnsInHanded_of_change (C := Try.checked) own started (by kernel_rfl) Try.func6
    (ChangeSpec.witness6 (enc := enc) (C := Try.checked) false ⟨#[], #[.slice none 0 0, .slice none 0 0, .int .i64 0], []⟩ 8 (by kernel_rfl) (by kernel_rfl) (by kernel_rfl) (by kernel_rfl)) ?_
  intro W base args ds gs before hval0 hW hcnd _
  have hval : ∀ (j : Nat) t v, Try.f6.params[j]? = some t → args[j]? = some v → Value.okWide Try.prog W .any base t v := hval0
  have hW' := hW
  obtain ⟨p, q, hA0, hV, rfl, hfz, hnd⟩ := hW
  have hA : DataW.TrodAll enc Try.prog W 0 (fun _ => true) true Try.f6.params.toList args.toList ds p := hA0
  rw [Try.params6] at hA hval
  obtain ⟨v0, vs0, d0, ds0, p0, q0, hargs, rfl, rfl, h0, r0⟩ := trodAll_cons hA
  obtain ⟨v1, vs1, d1, ds1, p1, q1, rfl, rfl, rfl, h1, r1⟩ := trodAll_cons r0
  obtain ⟨v2, vs2, d2, ds2, p2, q2, rfl, rfl, rfl, h2, r2⟩ := trodAll_cons r1
  obtain ⟨rfl, rfl, rfl⟩ := trodAll_nil r2
  obtain rfl : args = #[v0, v1, v2] := by cases args; simp_all
  obtain ⟨rfl, rfl⟩ := trodVars_none hV
  obtain ⟨a0, len0, cap0, rfl⟩ := okWide_slice Try.underlying30 (hval 0 30 v0 rfl rfl)
  have k0 := h0
  have lt0 : ∀ x ∈ p0, x.block < W.heap.size := by obtain ⟨m, hm⟩ := k0; exact DataW.trod_lt m _ _ _ hm
  obtain ⟨fuel0, hf0⟩ := h0
  obtain ⟨l0, ⟨aa0, cc0, hcs0, hs0⟩, hw0⟩ := opens_pts enc W 0 _ _ fuel0 _ _ hf0
  simp [Value.cells] at hcs0
  obtain ⟨rfl, rfl, rfl⟩ := hcs0
  obtain ⟨a1, len1, cap1, rfl⟩ := okWide_slice Try.underlying29 (hval 1 29 v1 rfl rfl)
  have k1 := h1
  have lt1 : ∀ x ∈ p1, x.block < W.heap.size := by obtain ⟨m, hm⟩ := k1; exact DataW.trod_lt m _ _ _ hm
  obtain ⟨fuel1, hf1⟩ := h1
  obtain ⟨l1, ⟨aa1, cc1, hcs1, hs1⟩, hw1⟩ := opens_ints enc W 0 _ _ fuel1 _ _ hf1
  simp [Value.cells] at hcs1
  obtain ⟨rfl, rfl, rfl⟩ := hcs1
  obtain ⟨a2, rfl, rfl, rfl, w2⟩ := open_int Try.underlying3 (hval 2 3 v2 rfl rfl) h2
  clear hA0 hval0
  refine (fieldThrough_fn _ _ _ _ _ _ a2 (hpOf W) hs0 hs1).below.mono fun e W' ⟨he, bel⟩ => ?_
  subst he
  exact ⟨_, rfl, _, _, _, [], _, [], hW', trodAll_mk1 (shut_bool Try.underlying4 _), (trodAll_cons_mk (Below.trod laidOut (by kernel_rfl) (of_decide_eq_true (by kernel_rfl)) k0 bel lt0) (trodAll_cons_mk (Below.trod laidOut (by kernel_rfl) (of_decide_eq_true (by kernel_rfl)) k1 bel lt1) (trodAll_cons_mk (shut_int Try.underlying3 w2) trodAll_mk0))), rfl, bel.frame _, fun h => by cases h⟩
theorem over : Rows.fieldThroughRow.holds Try.pinned (OpenSpec.ofChange Rows.fieldThroughSpec) :=
  OpenClaim.holds_of_wide 6 Try.f6 rfl rfl rfl rfl rfl rfl rfl ⟨rfl, rfl, rfl, rfl, rfl⟩ rfl rfl rfl rfl rfl (by kernel_rfl) Try.func6 (by kernel_rfl)
    (of_decide_eq_true (by kernel_rfl)) (by unfold Func.isWrapper; first | (rw [if_pos (by decide +kernel)]; kernel_rfl) | (rw [if_neg (by decide +kernel)]; exact ⟨rfl, rfl⟩))
    (fun os started H enc _ => lifted os started H enc)
/-- The given statement. -/
theorem proved : Rows.FieldThroughSaid := over
#print axioms proved
end fieldThrough
end Go.Proofs.Ytdiknopliedddaa
