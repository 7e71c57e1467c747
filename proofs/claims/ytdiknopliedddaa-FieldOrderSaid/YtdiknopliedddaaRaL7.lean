/- The law FieldOrder: it returns true, whatever the input, and what it was handed reads as before. No condition. -/
import Derived.Test.YtdiknopliedddaaRaO
import Derived.Test.YtdiknopliedddaaRaW
import Derived.Test.YtdiknopliedddaaRaQ
import Derived.Test.YtdiknopliedddaaXLo
import Derived.Test.YtdiknopliedddaaRows
import Derived.WalkKit
import Derived.ProofKit
import Derived.OpenShut
import Derived.ShutString
import Derived.ChangeOld
import Derived.Below
set_option autoImplicit false
set_option linter.unusedVariables false
set_option linter.unusedSimpArgs false
namespace Go.Proofs.Ytdiknopliedddaa
open Go.XL



set_option maxRecDepth 100000 in
set_option maxHeartbeats 1600000 in
theorem fieldOrder_fn (a0 : Option Addr) (c0 : Nat) (l0 : List Pt) (n u t : Int) (H : Hp) (hs0 : SlR ptR H a0 c0 l0) (hn0 : 0 ≤ n) (hn1 : n ≤ 255) : FnC Try.prog 7 #[.slice a0 l0.length c0, .int .u8 n, .int .i64 u, .int .i64 t] H [] (RetR fun v _ _ => v = .bool true) := by
  refine FnC.intro (args := [.slice a0 l0.length c0, .int .u8 n, .int .i64 u, .int .i64 t]) Try.func7 rfl rfl Try.ntmps7 rfl rfl rfl fun G rest => ?_
  refine XC.seq ?_
  refine XC.region ?_
  refine XO.assign rfl rfl ?_
  refine XO.nil ?_
  refine XC.seq2 ?_
  refine XC.seq ?_
  refine XC.seq ?_
  refine XC.region ?_
  refine XO.callV rfl (sane12 _) rfl ?_
  refine XO.notB rfl rfl ?_
  refine XO.nil ?_
  refine XC.seq2 ?_
  refine XC.condF rfl (rfl) ?_
  refine XC.skip ?_
  refine XC.seq2 ?_
  refine XC.seq ?_
  refine XC.seq ?_
  refine XC.region ?_
  refine XO.move rfl rfl ?_
  refine XO.lenS (ts := #[]) rfl Try.underlying30 rfl ?_
  refine XO.geq rfl rfl rfl ?_
  refine XO.move rfl rfl ?_
  refine XO.guardC rfl rfl rfl rfl (fun g2 => ?_) (fun g2 => ?_)
  · have g2p := of_decide_eq_false g2
    refine XO.move rfl rfl ?_
    refine XO.guardT rfl rfl (g2) rfl ?_
    refine XO.callK rfl (diff_fn _ _ _ _ hs0 (by omega)) rfl ?_
    rintro _ ⟨bD, rfl, hD⟩
    refine XO.guardT rfl rfl (g2) rfl ?_
    refine XO.notB rfl rfl ?_
    refine XO.pickF rfl (g2) rfl rfl ?_
    refine XO.move rfl rfl ?_
    refine XO.guardC rfl rfl rfl rfl (fun g4 => ?_) (fun g4 => ?_)
    · have g4p := g4
      refine XO.move rfl rfl ?_
      refine XO.guardT rfl rfl (g4) rfl ?_
      refine XO.lenS (ts := #[]) rfl Try.underlying30 rfl ?_
      refine XO.guardT rfl rfl (g4) rfl ?_
      refine XO.eql rfl rfl rfl ?_
      refine XO.pickF rfl (g4) rfl rfl ?_
      refine XO.nil ?_
      refine XC.seq2 ?_
      refine XC.cond rfl (fun c1_5 => ?_) (fun c1_5 => ?_)
      · refine XC.seq ?_
        refine XC.region ?_
        refine XO.assign rfl rfl ?_
        refine XO.nil ?_
        refine XC.seq2 ?_
        refine XC.ret ?_
        refine seqX_ret ?_
        refine ⟨rfl, _, [], rfl, (by repeat (first | exact List.Sublist.refl _ | apply List.Sublist.cons)), RetR.mk ?_⟩
        first | rfl | exact congrArg Value.bool (by first | (rw [atV_dup (by simp; omega) hdup]; rfl) | (rw [atV_plus hl24 hn u t hplus]; simp))
      · have hl24 : l0.length < 24 := by omega
        have hn : Nd l0 := by show (l0.map _).Nodup; rw [← diff_iff, ← hD]; simp_all
        refine XC.skip ?_
        refine XC.seq2 ?_
        refine XC.seq ?_
        refine XC.region ?_
        refine XO.move rfl rfl ?_
        refine XO.convI rfl Try.underlying5 Try.underlying3 (wrap_i64 (by omega) (by omega)) rfl ?_
        refine XO.move rfl rfl ?_
        refine XO.lenS (ts := #[]) rfl Try.underlying30 rfl ?_
        refine XO.rem rfl rfl (by omega) (rem_nn (by omega)) rfl ?_
        refine XO.assign rfl rfl ?_
        refine XO.nil ?_
        refine XC.seq2 ?_
        refine XC.seq ?_
        refine XC.keep [0, 2, 3, 9] rfl ?_
        obtain ⟨r, hr⟩ : ∃ r : Nat, n % (l0.length : Int) = (r : Int) := ⟨(n % (l0.length : Int)).toNat, by have := Int.emod_nonneg n (show (l0.length : Int) ≠ 0 by omega); omega⟩
        have hrl : r < l0.length := by have := Int.emod_lt_of_pos n (show 0 < (l0.length : Int) by omega); omega
        rw [hr]
        apply XC.drawN (fun _ => True) trivial [4] (by decide) (ownF ptR 38 (l0.drop r)) (ownF_mono _ _ _) 8 [slF ptR [], eqF _, eqF _, slG ptR (l0.drop r), anyF, eqF _, eqF _, slG ptR (l0.take r)] follows (by kernel_rfl) (by kernel_rfl) ⟨slF_mono _ _, eqF_mono _, eqF_mono _, slG_mono _ _, anyF_mono, eqF_mono _, eqF_mono _, slG_mono _ _, trivial⟩ (by decide) ?steps6 ?tail6
        case steps6 =>
          refine stepsN_cons rfl ?_ ?_
          · intro X ext HD hleD _
            replace hs0 := hs0.mono hleD
            refine withPreds_nil rfl ?_
            refine XO.buildSlice rfl Try.underlying30 ty_38 ze_38 rfl rfl rfl (fun b40 => ?_)
            refine XO.publish 0 rfl rfl rfl (fun HP oP hleP hbP hoP => ?_)
            have hsE := SlR.lit (ρ := ptR) (l := []) hbP hoP rfl
            refine XO.nil ?_
            exact stepQN_ok rfl trivial (⟨_, rfl, hsE⟩)
          refine stepsN_cons rfl ?_ ?_
          · intro X ext HD hleD _
            replace hs0 := hs0.mono hleD
            refine withPreds_nil rfl ?_
            refine XO.move rfl rfl ?_
            refine XO.nil ?_
            exact stepQN_ok rfl trivial (rfl)
          refine stepsN_cons rfl ?_ ?_
          · intro X ext HD hleD _
            replace hs0 := hs0.mono hleD
            refine withPreds_nil rfl ?_
            refine XO.move rfl rfl ?_
            refine XO.nil ?_
            exact stepQN_ok rfl trivial (rfl)
          refine stepsN_cons rfl ?_ ?_
          · intro X ext HD hleD _
            replace hs0 := hs0.mono hleD
            refine withPreds_cons rfl rfl ?_
            rintro _ rfl
            refine withPreds_cons rfl rfl ?_
            rintro _ rfl
            refine withPreds_nil rfl ?_
            refine XO.slice (lo' := (r : Nat)) (hi' := l0.length) (m' := c0) rfl hs0 (ev?_some rfl) ev?_none ev?_none (by simp) (by omega) (by omega) (by omega) (by have := hs0.le; omega) (by omega) Try.underlying30 ty_38 rfl (fun aU ls hls hsS => ?_)
            obtain rfl : ls = l0.drop r := by first | (rw [hls]; simp; done) | (rw [hls]; simp; rw [List.take_of_length_le (by simp)])
            refine XO.nil ?_
            exact stepQN_ok rfl trivial (⟨_, _, rfl, hsS⟩)
          refine stepsN_cons rfl ?_ ?_
          · intro X ext HD hleD _
            replace hs0 := hs0.mono hleD
            refine withPreds_cons rfl rfl ?_
            rintro _ ⟨bs, rfl, hsE⟩
            refine withPreds_cons rfl rfl ?_
            rintro _ ⟨aS, cS, rfl, hsS⟩
            refine withPreds_nil rfl ?_
            refine XO.appendN rfl hsE rfl rfl hsS rfl (by simp; omega) Try.underlying30 ty_38 ze_38 rfl by_38 (by simp; omega) rfl (fun pe ae ce hacc => ?_)
            refine XO.nil ?_
            exact stepQN_new rfl trivial trivial (⟨_, _, rfl, hacc⟩)
          refine stepsN_cons rfl ?_ ?_
          · intro X ext HD hleD _
            replace hs0 := hs0.mono hleD
            refine withPreds_nil rfl ?_
            refine XO.move rfl rfl ?_
            refine XO.nil ?_
            exact stepQN_ok rfl trivial (rfl)
          refine stepsN_cons rfl ?_ ?_
          · intro X ext HD hleD _
            replace hs0 := hs0.mono hleD
            refine withPreds_nil rfl ?_
            refine XO.move rfl rfl ?_
            refine XO.nil ?_
            exact stepQN_ok rfl trivial (rfl)
          refine stepsN_cons rfl ?_ ?_
          · intro X ext HD hleD _
            replace hs0 := hs0.mono hleD
            refine withPreds_cons rfl rfl ?_
            rintro _ rfl
            refine withPreds_cons rfl rfl ?_
            rintro _ rfl
            refine withPreds_nil rfl ?_
            refine XO.slice (lo' := 0) (hi' := (r : Nat)) (m' := c0) rfl hs0 ev?_none (ev?_some rfl) ev?_none (by simp) (by omega) (by omega) (by omega) (by have := hs0.le; omega) (by omega) Try.underlying30 ty_38 rfl (fun aU ls hls hsS => ?_)
            obtain rfl : ls = l0.take r := by first | (rw [hls]; simp; done) | (rw [hls]; simp; rw [List.take_of_length_le (by simp)])
            refine XO.nil ?_
            exact stepQN_ok rfl trivial (⟨_, _, rfl, hsS⟩)
          exact stepsN_end rfl
        case tail6 =>
          intro HD hleD _
          replace hs0 := hs0.mono hleD
          refine withPreds_cons rfl rfl ?_
          rintro _ ⟨bs, rfl, hsE⟩
          refine withPreds_cons rfl rfl ?_
          rintro _ rfl
          refine withPreds_cons rfl rfl ?_
          rintro _ rfl
          refine withPreds_cons rfl rfl ?_
          rintro _ ⟨aS, cS, rfl, hsS⟩
          refine withPreds_cons rfl rfl ?_
          rintro _ _
          refine withPreds_cons rfl rfl ?_
          rintro _ rfl
          refine withPreds_cons rfl rfl ?_
          rintro _ rfl
          refine withPreds_cons rfl rfl ?_
          rintro _ ⟨aT, cT, rfl, hsT⟩
          refine withPreds_nil rfl ?_
          refine withEnts_cons ?_
          intro pe hpe
          obtain ⟨ae, ce, rfl, hacc⟩ := hpe _ ⟨_, rfl, rfl⟩
          refine withEnts_nil ?_
          refine XO.appendA 0 rfl rfl hacc rfl rfl hsT rfl Try.underlying30 ty_38 ze_38 rfl by_38 (by simp; omega) rfl (fun pe ae ce hacc => ?_)
          refine XO.assign rfl rfl ?_
          refine XO.nil ?_
          refine XC.seq2 ?_
          refine XC.seq ?_
          refine XC.region ?_
          refine XO.publishA 0 rfl hacc rfl (fun HQ hleQ hsQ => ?_)
          replace hs0 := hs0.mono hleQ
          refine XO.move rfl rfl ?_
          refine XO.move rfl rfl ?_
          refine XO.callV rfl (at_fn _ _ _ _ _ hs0) rfl ?_
          refine XO.move rfl rfl ?_
          refine XO.extract rfl rfl rfl ?_
          refine XO.extract rfl rfl rfl ?_
          refine XO.assign rfl rfl ?_
          refine XO.assign rfl rfl ?_
          refine XO.nil ?_
          refine XC.seq2 ?_
          refine XC.seq ?_
          refine XC.region ?_
          refine XO.move rfl rfl ?_
          refine XO.move rfl rfl ?_
          refine XO.callV rfl (at_fn _ _ (l0.drop r ++ l0.take r) _ _ hsQ) rfl ?_
          refine XO.move rfl rfl ?_
          refine XO.extract rfl rfl rfl ?_
          refine XO.extract rfl rfl rfl ?_
          refine XO.assign rfl rfl ?_
          refine XO.assign rfl rfl ?_
          refine XO.nil ?_
          refine XC.seq2 ?_
          refine XC.seq ?_
          refine XC.seq ?_
          refine XC.region ?_
          refine XO.move rfl rfl ?_
          refine XO.neq rfl rfl rfl ?_
          refine XO.move rfl rfl ?_
          refine XO.guardT rfl rfl (by simp [atV_ok (Nat.le_of_lt hl24) hn]) rfl ?_
          refine XO.move rfl rfl ?_
          refine XO.guardT rfl rfl (by simp [atV_ok (Nat.le_of_lt hl24) hn]) rfl ?_
          refine XO.neq rfl rfl rfl ?_
          refine XO.pickF rfl (by simp [atV_ok (Nat.le_of_lt hl24) hn]) rfl rfl ?_
          refine XO.move rfl rfl ?_
          refine XO.guardT rfl rfl (by simp [atV_rot (Nat.le_of_lt hl24) hn, atV_ok (Nat.le_of_lt hl24) hn]) rfl ?_
          refine XO.move rfl rfl ?_
          refine XO.guardT rfl rfl (by simp [atV_rot (Nat.le_of_lt hl24) hn, atV_ok (Nat.le_of_lt hl24) hn]) rfl ?_
          refine XO.move rfl rfl ?_
          refine XO.guardT rfl rfl (by simp [atV_rot (Nat.le_of_lt hl24) hn, atV_ok (Nat.le_of_lt hl24) hn]) rfl ?_
          refine XO.neq rfl rfl rfl ?_
          refine XO.pickF rfl (by simp [atV_rot (Nat.le_of_lt hl24) hn, atV_ok (Nat.le_of_lt hl24) hn]) rfl rfl ?_
          refine XO.nil ?_
          refine XC.seq2 ?_
          refine XC.condF rfl (by simp [atV_rot (Nat.le_of_lt hl24) hn]) ?_
          refine XC.skip ?_
          refine XC.seq2 ?_
          refine XC.seq ?_
          refine XC.region ?_
          refine XO.move rfl rfl ?_
          refine XO.move rfl rfl ?_
          refine XO.callV rfl (at_fn _ _ _ _ _ hs0) rfl ?_
          refine XO.move rfl rfl ?_
          refine XO.extract rfl rfl rfl ?_
          refine XO.extract rfl rfl rfl ?_
          refine XO.assign rfl rfl ?_
          refine XO.assign rfl rfl ?_
          refine XO.nil ?_
          refine XC.seq2 ?_
          refine XC.seq ?_
          refine XC.region ?_
          refine XO.buildSlice rfl Try.underlying30 ty_38 ze_38 rfl rfl rfl (fun b78 => ?_)
          refine XO.publish 0 rfl rfl rfl (fun HP oP hleP hbP hoP => ?_)
          have hsE := SlR.lit (ρ := ptR) (l := []) hbP hoP rfl
          replace hs0 := hs0.mono hleP
          refine XO.move rfl rfl ?_
          refine XO.appendN rfl hsE rfl rfl hs0 rfl (by simp; omega) Try.underlying30 ty_38 ze_38 rfl by_38 (by simp; omega) rfl (fun pe ae ce hacc => ?_)
          rw [List.nil_append] at hacc
          rw [List.nil_append]
          refine XO.move rfl rfl ?_
          refine XO.move rfl rfl ?_
          refine XO.build bk_38 bf_38 ze_38 rfl rfl rfl ?_
          refine XO.buildSlice rfl Try.underlying30 ty_38 ze_38 rfl rfl rfl (fun b84 => ?_)
          refine XO.publish 0 rfl rfl rfl (fun HP oP hleP hbP hoP => ?_)
          have hsl := SlR.lit (ρ := ptR) (l := [⟨u, (atV u l0).1⟩]) hbP hoP (RowsR.one1 rfl)
          replace hs0 := hs0.mono hleP
          replace hacc := hacc.mono hleP
          refine XO.appendA 0 rfl rfl hacc rfl rfl hsl rfl Try.underlying30 ty_38 ze_38 rfl by_38 (by simp; omega) rfl (fun pe ae ce hacc => ?_)
          refine XO.assign rfl rfl ?_
          refine XO.nil ?_
          refine XC.seq2 ?_
          refine XC.seq ?_
          refine XC.region ?_
          refine XO.publishA 0 rfl hacc rfl (fun HQ hleQ hsQ => ?_)
          replace hs0 := hs0.mono hleQ
          refine XO.move rfl rfl ?_
          refine XO.move rfl rfl ?_
          have hcall := at_fn ae ce (l0 ++ [⟨u, (atV u l0).1⟩]) t HQ hsQ
          refine XO.callV (vs := [.slice ae (l0 ++ [(⟨u, (atV u l0).1⟩ : Pt)]).length ce, .int .i64 t]) ?_ hcall rfl ?_
          · rfl
          refine XO.move rfl rfl ?_
          refine XO.extract rfl rfl rfl ?_
          refine XO.extract rfl rfl rfl ?_
          refine XO.assign rfl rfl ?_
          refine XO.assign rfl rfl ?_
          refine XO.nil ?_
          refine XC.seq2 ?_
          refine XC.seq ?_
          refine XC.seq ?_
          refine XC.region ?_
          refine XO.move rfl rfl ?_
          have hcall2 := diff_fn ae ce (l0 ++ [⟨u, (atV u l0).1⟩]) HQ hsQ (by simp; omega)
          refine XO.callK (vs := [.slice ae (l0 ++ [(⟨u, (atV u l0).1⟩ : Pt)]).length ce]) ?_ hcall2 rfl ?_
          · rfl
          rintro _ ⟨bE, rfl, hE⟩
          refine XO.notB rfl rfl ?_
          refine XO.nil ?_
          refine XC.seq2 ?_
          refine XC.condB rfl (fun c3_23 => ?_) (fun c3_23 => ?_)
          · have hdup : ¬ Nd (l0 ++ [⟨u, (atV u l0).1⟩]) := by show ¬ (List.map _ _).Nodup; rw [← diff_iff, ← hE]; simp_all
            refine XC.seq ?_
            refine XC.region ?_
            refine XO.move rfl rfl ?_
            refine XO.eql rfl rfl rfl ?_
            refine XO.move rfl rfl ?_
            refine XO.guardT rfl rfl (by simp [atV_ok (Nat.le_of_lt hl24) hn]) rfl ?_
            refine XO.move rfl rfl ?_
            refine XO.guardT rfl rfl (by simp [atV_ok (Nat.le_of_lt hl24) hn]) rfl ?_
            refine XO.eql rfl rfl rfl ?_
            refine XO.pickT rfl (by simp [atV_ok (Nat.le_of_lt hl24) hn]) rfl rfl ?_
            refine XO.assign rfl rfl ?_
            refine XO.nil ?_
            refine XC.seq2 ?_
            refine XC.ret ?_
            refine seqX_ret ?_
            refine ⟨rfl, _, [], rfl, (by repeat (first | exact List.Sublist.refl _ | apply List.Sublist.cons)), RetR.mk ?_⟩
            first | rfl | exact congrArg Value.bool (by first | (rw [atV_dup (by simp; omega) hdup]; rfl) | (rw [atV_plus hl24 hn u t hplus]; simp))
          · have hplus : Nd (l0 ++ [⟨u, (atV u l0).1⟩]) := by show (List.map _ _).Nodup; rw [← diff_iff, ← hE]; simp_all
            refine XC.skip ?_
            refine XC.seq2 ?_
            refine XC.seq ?_
            refine XC.region ?_
            refine XO.move rfl rfl ?_
            refine XO.eql rfl rfl rfl ?_
            refine XO.move rfl rfl ?_
            refine XO.guardT rfl rfl (by simp [atV_ok (Nat.le_of_lt hl24) hn]) rfl ?_
            refine XO.move rfl rfl ?_
            refine XO.guardT rfl rfl (by simp [atV_ok (Nat.le_of_lt hl24) hn]) rfl ?_
            refine XO.eql rfl rfl rfl ?_
            refine XO.pickT rfl (by simp [atV_ok (Nat.le_of_lt hl24) hn]) rfl rfl ?_
            refine XO.move rfl rfl ?_
            refine XO.guardT rfl rfl (by rw [atV_plus hl24 hn u t hplus, atV_ok (Nat.le_of_lt hl24) hn]; rfl) rfl ?_
            refine XO.move rfl rfl ?_
            refine XO.guardT rfl rfl (by rw [atV_plus hl24 hn u t hplus, atV_ok (Nat.le_of_lt hl24) hn]; rfl) rfl ?_
            refine XO.move rfl rfl ?_
            refine XO.guardT rfl rfl (by rw [atV_plus hl24 hn u t hplus, atV_ok (Nat.le_of_lt hl24) hn]; rfl) rfl ?_
            refine XO.eql rfl rfl rfl ?_
            refine XO.pickT rfl (by rw [atV_plus hl24 hn u t hplus, atV_ok (Nat.le_of_lt hl24) hn]; rfl) rfl rfl ?_
            refine XO.assign rfl rfl ?_
            refine XO.nil ?_
            refine XC.seq2 ?_
            refine XC.ret ?_
            refine ⟨rfl, _, [], rfl, (by repeat (first | exact List.Sublist.refl _ | apply List.Sublist.cons)), RetR.mk ?_⟩
            first | rfl | exact congrArg Value.bool (by first | (rw [atV_dup (by simp; omega) hdup]; rfl) | (rw [atV_plus hl24 hn u t hplus]; simp))
    · have g4p := g4
      refine XO.guardF rfl rfl (g4) rfl rfl ?_
      refine XO.guardF rfl rfl (g4) rfl rfl ?_
      refine XO.pickT rfl (g4) rfl rfl ?_
      refine XO.nil ?_
      refine XC.seq2 ?_
      refine XC.condT rfl (rfl) ?_
      refine XC.seq ?_
      refine XC.region ?_
      refine XO.assign rfl rfl ?_
      refine XO.nil ?_
      refine XC.seq2 ?_
      refine XC.ret ?_
      refine seqX_ret ?_
      refine ⟨rfl, _, [], rfl, (by repeat (first | exact List.Sublist.refl _ | apply List.Sublist.cons)), RetR.mk ?_⟩
      first | rfl | exact congrArg Value.bool (by first | (rw [atV_dup (by simp; omega) hdup]; rfl) | (rw [atV_plus hl24 hn u t hplus]; simp))
  · have g2p := of_decide_eq_true g2
    refine XO.guardF rfl rfl (g2) rfl rfl ?_
    refine XO.guardF rfl rfl (g2) rfl rfl ?_
    refine XO.pickT rfl (g2) rfl rfl ?_
    refine XO.move rfl rfl ?_
    refine XO.guardF rfl rfl (rfl) rfl rfl ?_
    refine XO.guardF rfl rfl (rfl) rfl rfl ?_
    refine XO.guardF rfl rfl (rfl) rfl rfl ?_
    refine XO.pickT rfl (rfl) rfl rfl ?_
    refine XO.nil ?_
    refine XC.seq2 ?_
    refine XC.condT rfl (rfl) ?_
    refine XC.seq ?_
    refine XC.region ?_
    refine XO.assign rfl rfl ?_
    refine XO.nil ?_
    refine XC.seq2 ?_
    refine XC.ret ?_
    refine seqX_ret ?_
    refine ⟨rfl, _, [], rfl, (by repeat (first | exact List.Sublist.refl _ | apply List.Sublist.cons)), RetR.mk ?_⟩
    first | rfl | exact congrArg Value.bool (by first | (rw [atV_dup (by simp; omega) hdup]; rfl) | (rw [atV_plus hl24 hn u t hplus]; simp))

namespace fieldOrder
open Go.ChangeShapes Go.WideShapes Go.ChangeAt Go.RowKit
open Go.ChangeMaps (open_string shut_string)
theorem own : ownKnob Try.prog.godebug = none := by kernel_rfl
theorem laidOut : laidOutB Try.prog = true := by kernel_rfl
set_option maxRecDepth 100000 in
theorem lifted (os : Os) (started : os.Started) (H : Type) (enc : TypeId × Value → H) :
    ReturnsInHanded {} Try.checked os 7 .any (Rows.fieldOrderSpec.pre6 enc Try.prog Try.f7 Rows.fieldOrderRow.domain false) (Rows.fieldOrderSpec.post enc Try.prog Try.f7 false true false false) := by
  refine returnsInHanded_of_change (C := Try.checked) own started (by kernel_rfl) Try.func7
    (ChangeSpec.witness6 (enc := enc) (C := Try.checked) false ⟨#[], #[.slice none 0 0, .int .u8 0, .int .i64 0, .int .i64 0], []⟩ 8 (by kernel_rfl) (by kernel_rfl) (by kernel_rfl) (by kernel_rfl)) ?_
  intro W base args ds gs before hval0 hW hcnd _
  have hval : ∀ (j : Nat) t v, Try.f7.params[j]? = some t → args[j]? = some v → Value.okWide Try.prog W .any base t v := hval0
  have hW' := hW
  obtain ⟨p, q, hA0, hV, rfl, hfz, hnd⟩ := hW
  have hA : DataW.TrodAll enc Try.prog W 0 (fun _ => true) true Try.f7.params.toList args.toList ds p := hA0
  rw [Try.params7] at hA hval
  obtain ⟨v0, vs0, d0, ds0, p0, q0, hargs, rfl, rfl, h0, r0⟩ := trodAll_cons hA
  obtain ⟨v1, vs1, d1, ds1, p1, q1, rfl, rfl, rfl, h1, r1⟩ := trodAll_cons r0
  obtain ⟨v2, vs2, d2, ds2, p2, q2, rfl, rfl, rfl, h2, r2⟩ := trodAll_cons r1
  obtain ⟨v3, vs3, d3, ds3, p3, q3, rfl, rfl, rfl, h3, r3⟩ := trodAll_cons r2
  obtain ⟨rfl, rfl, rfl⟩ := trodAll_nil r3
  obtain rfl : args = #[v0, v1, v2, v3] := by cases args; simp_all
  obtain ⟨rfl, rfl⟩ := trodVars_none hV
  obtain ⟨a0, len0, cap0, rfl⟩ := okWide_slice Try.underlying30 (hval 0 30 v0 rfl rfl)
  have k0 := h0
  have lt0 : ∀ x ∈ p0, x.block < W.heap.size := by obtain ⟨m, hm⟩ := k0; exact DataW.trod_lt m _ _ _ hm
  obtain ⟨fuel0, hf0⟩ := h0
  obtain ⟨l0, ⟨aa0, cc0, hcs0, hs0⟩, hw0⟩ := opens_pts enc W 0 _ _ fuel0 _ _ hf0
  simp [Value.cells] at hcs0
  obtain ⟨rfl, rfl, rfl⟩ := hcs0
  obtain ⟨a1, rfl, rfl, rfl, w1⟩ := open_int Try.underlying5 (hval 1 5 v1 rfl rfl) h1
  obtain ⟨a2, rfl, rfl, rfl, w2⟩ := open_int Try.underlying3 (hval 2 3 v2 rfl rfl) h2
  obtain ⟨a3, rfl, rfl, rfl, w3⟩ := open_int Try.underlying3 (hval 3 3 v3 rfl rfl) h3
  clear hA0 hval0
  refine (fieldOrder_fn _ _ _ a1 a2 a3 (hpOf W) hs0 (wf_u8 w1).1 (wf_u8 w1).2).below.mono fun e W' ⟨he, bel⟩ => ?_
  subst he
  exact ⟨_, rfl, _, _, _, [], _, [], hW', trodAll_mk1 (shut_bool Try.underlying4 _), (trodAll_cons_mk (Below.trod laidOut (by kernel_rfl) (of_decide_eq_true (by kernel_rfl)) k0 bel lt0) (trodAll_cons_mk (shut_int Try.underlying5 w1) (trodAll_cons_mk (shut_int Try.underlying3 w2) (trodAll_cons_mk (shut_int Try.underlying3 w3) trodAll_mk0)))), rfl, bel.frame _, fun h => by cases h⟩
theorem over : Rows.fieldOrderRow.holds Try.pinned (OpenSpec.ofChange Rows.fieldOrderSpec) :=
  OpenClaim.holds_of_wide 7 Try.f7 rfl rfl rfl rfl rfl rfl rfl ⟨rfl, rfl, rfl, rfl, rfl⟩ rfl rfl rfl rfl rfl (by kernel_rfl) Try.func7 (by kernel_rfl)
    (of_decide_eq_true (by kernel_rfl)) (by unfold Func.isWrapper; first | (rw [if_pos (by decide +kernel)]; kernel_rfl) | (rw [if_neg (by decide +kernel)]; exact ⟨rfl, rfl⟩))
    (fun os started H enc _ => lifted os started H enc)
/-- The given statement. -/
theorem proved : Rows.FieldOrderSaid := over
#print axioms proved
end fieldOrder
end Go.Proofs.Ytdiknopliedddaa
