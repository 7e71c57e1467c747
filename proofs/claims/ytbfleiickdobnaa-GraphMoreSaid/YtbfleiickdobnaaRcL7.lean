/- The law GraphMore: it returns true, whatever the input, and what it was handed reads as before. No condition. -/
import Derived.Test.YtbfleiickdobnaaRcE2
import Derived.Test.YtbfleiickdobnaaXLn
import Derived.Test.YtbfleiickdobnaaRcI
import Derived.Test.YtbfleiickdobnaaXMc
import Derived.Test.YtbfleiickdobnaaRows
import Derived.WalkKit
import Derived.ProofKit
import Derived.OpenShut
import Derived.ShutString
import Derived.ChangeOld
import Derived.Below
set_option autoImplicit false
set_option linter.unusedVariables false
set_option linter.unusedSimpArgs false
namespace Go.Proofs.Ytbfleiickdobnaa
open Go.XL



set_option maxRecDepth 100000 in
set_option maxHeartbeats 1600000 in
theorem graphMore_fn (a : Option Addr) (c : Nat) (m : Tb) (H : Hp) (hs : SlR tbR H a c m) (hl : m.length < 9223372036854775808) (entry judge t : Int) (hen : 0 ≤ entry ∧ entry ≤ 255) (hju : 0 ≤ judge ∧ judge ≤ 255) (ht : -9223372036854775808 ≤ t ∧ t ≤ 9223372036854775807) : FnC Try.prog 7 #[.slice a m.length c, .int .u8 entry, .int .u8 judge, .int .i64 t] H [] (RetR (fun v _ _ => v = .bool true)) := by
  refine FnC.intro (args := [.slice a m.length c, .int .u8 entry, .int .u8 judge, .int .i64 t]) Try.func7 rfl rfl Try.ntmps7 rfl rfl rfl fun G rest => ?_
  refine XC.seq ?_
  refine XC.region ?_
  refine XO.assign rfl rfl ?_
  refine XO.nil ?_
  refine XC.seq2 ?_
  refine XC.seq ?_
  refine XC.seq ?_
  refine XC.region ?_
  refine XO.callV rfl (sane37 _) rfl ?_
  refine XO.notB rfl rfl ?_
  refine XO.nil ?_
  refine XC.seq2 ?_
  refine XC.condF rfl (rfl) ?_
  refine XC.skip ?_
  refine XC.seq2 ?_
  refine XC.seq ?_
  refine XC.seq ?_
  refine XC.region ?_
  refine XO.move rfl rfl ?_
  refine XO.callV rfl (small_fn _ _ m _ hs hl) rfl ?_
  refine XO.not rfl rfl ?_
  refine XO.move rfl rfl ?_
  refine XO.guardC rfl rfl rfl rfl (fun g3 => ?_) (fun g3 => ?_)
  · have g3p := of_decide_eq_false g3
    refine XO.move rfl rfl ?_
    refine XO.guardT rfl rfl (g3) rfl ?_
    refine XO.callV rfl (judges_fn _ _ m _ hs hl) rfl ?_
    refine XO.guardT rfl rfl (g3) rfl ?_
    refine XO.eql rfl rfl rfl ?_
    refine XO.pickF rfl (g3) rfl rfl ?_
    refine XO.nil ?_
    refine XC.seq2 ?_
    refine XC.cond rfl (fun c1_5 => ?_) (fun c1_5 => ?_)
    · refine XC.seq ?_
      refine XC.region ?_
      refine XO.assign rfl rfl ?_
      refine XO.nil ?_
      refine XC.seq2 ?_
      refine XC.ret ?_
      refine seqX_ret ?_
      refine ⟨rfl, _, [], rfl, (by repeat (first | exact List.Sublist.refl _ | apply List.Sublist.cons)), RetR.mk ?_⟩
      first | rfl | exact congrArg Value.bool (decide_eq_true (more_re hok he0m hj0l (by assumption)))
    · have hsm : smallG m := Decidable.not_not.1 (by assumption)
      have hck := hsm.2.2.1
      have hok := chk_eq0.1 hck
      have hlm := hsm.1
      have hwm := hsm.2.2.2
      have hwm16 := okG_wide hok
      refine XC.skip ?_
      refine XC.seq2 ?_
      refine XC.seq ?_
      refine XC.region ?_
      refine XO.assign rfl rfl ?_
      refine XO.nil ?_
      refine XC.seq2 ?_
      refine XC.seq ?_
      refine XC.seq ?_
      refine XC.region ?_
      refine XO.move rfl rfl ?_
      refine XO.lenS (ts := #[]) rfl Try.underlying22 rfl ?_
      refine XO.move rfl rfl ?_
      refine XO.nil ?_
      refine XC.seq2 ?_
      refine XC.block ?_
      refine XC.keep [9, 36, 0, 1, 2, 3, 34, 35] rfl ?_
      refine XC.open0 0 ?_
      refine XC.loop (base := [(0, _), (1, _), (2, _), (3, _), (34, _), (35, _)]) (fun ζ : Nat × (List (RowO Bool)) × ((Nat × SObj) × Option Addr × Nat) => [(9, .slice ζ.2.2.2.1 (ζ.2.1.map RowO.raw).length ζ.2.2.2.2), (36, .int .i64 (ζ.1 : Nat))]) (fun ζ Hl own => ζ.1 ≤ m.length ∧ ζ.2.2.1 :: (ζ.2.1.map RowO.p ++ rest) = own ∧ Acc rawR 40 Hl ζ.2.2.1 ζ.2.2.2.1 ζ.2.2.2.2 (ζ.2.1.map RowO.raw) ∧ (RowsO boolR 4 Hl ζ.2.1) ∧ (ζ.2.1.map RowO.l = m.take ζ.1)) (fun ζ => m.length - ζ.1) (0, [], ((0, .nothing), none, 0)) (prov_cons (rfl) (prov_cons (rfl) (prov_cons (rfl) (prov_cons (rfl) (prov_cons (rfl) (prov_cons (rfl) (prov_cons (rfl) (prov_cons (rfl) prov_nil)))))))) (by repeat (first | exact List.Sublist.refl _ | apply List.Sublist.cons_cons | apply List.Sublist.cons)) ⟨Nat.zero_le _, rfl, Acc.nil _ _ _ _, RowsO.nil, by simp⟩ ?_
      rintro ⟨k, rs, ⟨po, ao, co⟩⟩ Hl0 _ hle0 ⟨hkk, rfl, hacco, hro, hrl⟩
      replace hs := hs.mono hle0
      try dsimp only at hkk hacco hro hrl ⊢
      refine XC.seq ?_
      refine XC.region ?_
      refine XO.lss rfl rfl rfl ?_
      refine XO.nil ?_
      refine XC.seq2 ?_
      refine XC.seq ?_
      refine XC.cond rfl (fun c2_6 => ?_) (fun c2_6 => ?_)
      · refine XC.skip ?_
        refine XC.seq2 ?_
        refine XC.seq ?_
        refine XC.block ?_
        refine XC.seq ?_
        refine XC.region ?_
        refine XO.indexN rfl hs rfl Try.underlying22 ty_40 (by omega) rfl ?_
        rintro eb38 eo38 _ x38 hx38 ⟨ax38, cx38, rfl, hd38⟩ hp38
        refine XO.loadH rfl (by assumption) ty_40 rfl rfl rfl ?_
        refine XO.assign rfl rfl ?_
        refine XO.nil ?_
        refine XC.seq2 ?_
        refine XC.region ?_
        have hwx := (hok.2 _ (List.mem_of_getElem? hx38)).2
        have hlr : rs.length = k := by have := congrArg List.length hrl; simp at this; omega
        refine XO.move rfl rfl ?_
        refine XO.buildRow (ρ := boolR) (l := []) rfl Try.underlying40 ty_4 ze_4 rfl rfl rfl rfl rfl (fun p41 a41 c41 hacc41 => ?_)
        refine XO.move rfl rfl ?_
        refine XO.appendA 0 rfl rfl hacc41 rfl rfl (by assumption) rfl Try.underlying40 ty_4 ze_4 rfl by_4 (by simp; omega) rfl (fun p43 a43 c43 hacc43 => ?_)
        refine XO.buildSlice rfl Try.underlying22 ty_40 ze_40 rfl rfl rfl (fun b44 => ?_)
        refine XO.publish 0 rfl rfl rfl (fun HP44 oP44 hleP44 hbP44 hoP44 => ?_)
        have hsl44 := SlR.lit (ρ := rawR) (l := [(a43, ([] ++ x38 : List Bool).length, c43)]) hbP44 hoP44 (RowsR.one1 rfl)
        replace hs := hs.mono hleP44
        replace hacco := hacco.mono hleP44
        replace hro := hro.mono hleP44
        replace hp38 := hp38.mono hleP44
        replace hd38 := hd38.mono hleP44
        replace hacc43 := hacc43.mono hleP44
        replace hle0 := hle0.trans hleP44
        refine XO.appendA 1 rfl rfl hacco rfl rfl hsl44 rfl Try.underlying22 ty_40 ze_40 rfl by_40 (by rw [List.length_map]; simp only [List.length_cons, List.length_nil]; omega) rfl (fun p45 a45 c45 hacc45 => ?_)
        refine XO.perm (perm_row (r := ⟨p43, a43, c43, [] ++ x38⟩)) ?_
        refine XO.assign rfl rfl ?_
        refine XO.nil ?_
        refine blockN ?_
        refine XC.seq2 ?_
        refine XC.region ?_
        refine XO.add rfl rfl (wrap_i64 (by omega) (by omega)) rfl ?_
        refine XO.move rfl rfl ?_
        refine XO.nil ?_
        refine loop_next ((k + 1, rs ++ [⟨p43, a43, c43, [] ++ x38⟩], (p45, a45, c45))) (by show m.length - (k + 1) < m.length - k; omega) (prov_cons (by first | rfl | (rw [List.map_append]; rfl)) (prov_cons (rfl) (prov_cons (rfl) (prov_cons (rfl) (prov_cons (rfl) (prov_cons (rfl) (prov_cons (rfl) (prov_cons (rfl) prov_nil)))))))) (⟨by show k + 1 ≤ m.length; omega, rfl, by first | (exact hacc45) | (rw [List.map_append]; exact hacc45), hro.snoc hacc43, by rw [List.map_append, hrl, take_snoc hx38]; rfl⟩) (by repeat (first | exact List.Sublist.refl _ | apply List.Sublist.cons_cons | apply List.Sublist.cons)) (hle0)
      · obtain rfl : k = m.length := by omega
        rw [List.take_length] at hrl
        refine XC.exit ?_
        refine seqX_exit ?_
        refine loopX_exit ?_
        refine blockHit rfl ?_
        refine XC.seq2 ?_
        refine XC.seq ?_
        refine XC.keep [0, 1, 2, 3, 9] rfl ?_
        have hlr : rs.length = m.length := by have := congrArg List.length hrl; simpa using this
        have hm0 : 0 < m.length := by
          rcases Nat.eq_zero_or_pos m.length with h0 | h0
          · exact absurd (wide_nil h0) (by omega)
          · exact h0
        have haddr := hacco.addr (by rw [List.length_map]; omega)
        subst haddr
        have hlrm : (rs.map RowO.raw).length = m.length := by rw [List.length_map, hlr]
        obtain ⟨e0, he0⟩ : ∃ e0 : Nat, entry % ((rs.map RowO.raw).length : Int) = e0 := ⟨_, (Int.toNat_of_nonneg (Int.emod_nonneg _ (by omega))).symm⟩
        have he0l : e0 < (rs.map RowO.raw).length := by have := Int.emod_lt_of_pos entry (show 0 < ((rs.map RowO.raw).length : Int) by omega); omega
        have he0m : e0 < m.length := by omega
        have hlt : e0 < rs.length := by omega
        obtain ⟨⟨rp, ra, rc, rl⟩, hre⟩ : ∃ r, rs[e0]? = some r := ⟨_, List.getElem?_eq_getElem hlt⟩
        obtain ⟨⟨zp, za, zc, zl⟩, hrz⟩ : ∃ r, rs[0]? = some r := ⟨_, List.getElem?_eq_getElem (by omega)⟩
        have hrowOf : ∀ (i : Nat) (r : RowO Bool), rs[i]? = some r → m[i]? = some r.l := fun i r h => by rw [← hrl, List.getElem?_map, h]; rfl
        have hwe : rl.length = wideM m := (hok.2 _ (List.mem_of_getElem? (hrowOf _ _ hre))).1
        have hwz : zl.length = wideM m := (hok.2 _ (List.mem_of_getElem? (hrowOf _ _ hrz))).1
        have hacce := hro _ (List.mem_of_getElem? hre)
        have haddr2 := hacce.addr (by show 0 < rl.length; omega)
        simp only at haddr2 hacce
        subst haddr2
        have hmrow : m.getD e0 [] = rl := by rw [List.getD_eq_getElem?_getD, hrowOf _ _ hre]; rfl
        obtain ⟨j0, hj0⟩ : ∃ j0 : Nat, judge % (zl.length : Int) = j0 := ⟨_, (Int.toNat_of_nonneg (Int.emod_nonneg _ (by omega))).symm⟩
        have hj0l : j0 < wideM m := by have := Int.emod_lt_of_pos judge (show 0 < (zl.length : Int) by omega); omega
        have hge : (rs.map RowO.raw)[e0]? = some (some ⟨rp.1, 0, none⟩, rl.length, rc) := by rw [List.getElem?_map, hre]; rfl
        have hgz : (rs.map RowO.raw)[0]? = some (za, zl.length, zc) := by rw [List.getElem?_map, hrz]; rfl
        apply XC.draw 15 [eqF _, eqF _, eqF _, eqF _, eqF _, eqF _, eqF _, eqF _, eqF _, eqF _, eqF _, eqF _, eqF _, eqF _, eqF _] follows (by kernel_rfl) (by kernel_rfl) ⟨eqF_mono _, eqF_mono _, eqF_mono _, eqF_mono _, eqF_mono _, eqF_mono _, eqF_mono _, eqF_mono _, eqF_mono _, eqF_mono _, eqF_mono _, eqF_mono _, eqF_mono _, eqF_mono _, eqF_mono _, trivial⟩ ?steps9 ?tail9
        case steps9 =>
          refine stepsK_cons rfl ?_ ?_
          · intro X
            refine withPreds_nil rfl ?_
            refine XO.move rfl rfl ?_
            refine XO.nil ?_
            exact stepQ_ok rfl (rfl)
          refine stepsK_cons rfl ?_ ?_
          · intro X
            refine withPreds_nil rfl ?_
            refine XO.move rfl rfl ?_
            refine XO.nil ?_
            exact stepQ_ok rfl (rfl)
          refine stepsK_cons rfl ?_ ?_
          · intro X
            refine withPreds_cons rfl rfl ?_
            rintro _ rfl
            refine withPreds_nil rfl ?_
            refine XO.convI rfl Try.underlying5 Try.underlying3 (wrap_i64 (by omega) (by omega)) rfl ?_
            refine XO.nil ?_
            exact stepQ_ok rfl (rfl)
          refine stepsK_cons rfl ?_ ?_
          · intro X
            refine withPreds_nil rfl ?_
            refine XO.move rfl rfl ?_
            refine XO.nil ?_
            exact stepQ_ok rfl (rfl)
          refine stepsK_cons rfl ?_ ?_
          · intro X
            refine withPreds_cons rfl rfl ?_
            rintro _ rfl
            refine withPreds_nil rfl ?_
            refine XO.lenS (ts := #[]) rfl Try.underlying22 rfl ?_
            refine XO.nil ?_
            exact stepQ_ok rfl (rfl)
          refine stepsK_cons rfl ?_ ?_
          · intro X
            refine withPreds_cons rfl rfl ?_
            rintro _ rfl
            refine withPreds_cons rfl rfl ?_
            rintro _ rfl
            refine withPreds_nil rfl ?_
            refine XO.rem (c := ((e0 : Nat) : Int)) rfl rfl (by first | omega | (dsimp only; omega)) (by rw [rem_nn (by omega)]; exact he0) rfl ?_
            refine XO.nil ?_
            exact stepQ_ok rfl (rfl)
          refine stepsK_cons rfl ?_ ?_
          · intro X
            refine withPreds_cons rfl rfl ?_
            rintro _ rfl
            refine withPreds_cons rfl rfl ?_
            rintro _ rfl
            refine withPreds_nil rfl ?_
            refine XO.indexE rfl rfl Try.underlying22 ty_40 (by omega) (by omega) rfl ?_
            refine XO.nil ?_
            exact stepQ_ok rfl (rfl)
          refine stepsK_cons rfl ?_ ?_
          · intro X
            refine withPreds_cons rfl rfl ?_
            rintro _ rfl
            refine withPreds_nil rfl ?_
            refine XO.loadA 0 rfl rfl hacco hge ty_40 rfl (fun cs54 v54 hR54 hv54 => ?_) (fun cs54 hR54 => ⟨_, by cases hR54; rfl⟩)
            cases hR54; cases hv54
            refine XO.nil ?_
            exact stepQ_ok rfl (rfl)
          refine stepsK_cons rfl ?_ ?_
          · intro X
            refine withPreds_nil rfl ?_
            refine XO.move rfl rfl ?_
            refine XO.nil ?_
            exact stepQ_ok rfl (rfl)
          refine stepsK_cons rfl ?_ ?_
          · intro X
            refine withPreds_cons rfl rfl ?_
            rintro _ rfl
            refine withPreds_nil rfl ?_
            refine XO.convI rfl Try.underlying5 Try.underlying3 (wrap_i64 (by omega) (by omega)) rfl ?_
            refine XO.nil ?_
            exact stepQ_ok rfl (rfl)
          refine stepsK_cons rfl ?_ ?_
          · intro X
            refine withPreds_nil rfl ?_
            refine XO.move rfl rfl ?_
            refine XO.nil ?_
            exact stepQ_ok rfl (rfl)
          refine stepsK_cons rfl ?_ ?_
          · intro X
            refine withPreds_cons rfl rfl ?_
            rintro _ rfl
            refine withPreds_nil rfl ?_
            refine XO.indexE rfl rfl Try.underlying22 ty_40 (by omega) (by omega) rfl ?_
            refine XO.nil ?_
            exact stepQ_ok rfl (rfl)
          refine stepsK_cons rfl ?_ ?_
          · intro X
            refine withPreds_cons rfl rfl ?_
            rintro _ rfl
            refine withPreds_nil rfl ?_
            refine XO.loadA 0 rfl rfl hacco hgz ty_40 rfl (fun cs59 v59 hR59 hv59 => ?_) (fun cs59 hR59 => ⟨_, by cases hR59; rfl⟩)
            cases hR59; cases hv59
            refine XO.nil ?_
            exact stepQ_ok rfl (rfl)
          refine stepsK_cons rfl ?_ ?_
          · intro X
            refine withPreds_cons rfl rfl ?_
            rintro _ rfl
            refine withPreds_nil rfl ?_
            refine XO.lenS (ts := #[]) rfl Try.underlying40 rfl ?_
            refine XO.nil ?_
            exact stepQ_ok rfl (rfl)
          refine stepsK_cons rfl ?_ ?_
          · intro X
            refine withPreds_cons rfl rfl ?_
            rintro _ rfl
            refine withPreds_cons rfl rfl ?_
            rintro _ rfl
            refine withPreds_nil rfl ?_
            refine XO.rem (c := ((j0 : Nat) : Int)) rfl rfl (by first | omega | (dsimp only; omega)) (by rw [rem_nn (by omega)]; exact hj0) rfl ?_
            refine XO.nil ?_
            exact stepQ_ok rfl (rfl)
          exact stepsD_end rfl
        case tail9 =>
          refine withPreds_cons rfl rfl ?_
          rintro _ rfl
          refine withPreds_cons rfl rfl ?_
          rintro _ rfl
          refine withPreds_cons rfl rfl ?_
          rintro _ rfl
          refine withPreds_cons rfl rfl ?_
          rintro _ rfl
          refine withPreds_cons rfl rfl ?_
          rintro _ rfl
          refine withPreds_cons rfl rfl ?_
          rintro _ rfl
          refine withPreds_cons rfl rfl ?_
          rintro _ rfl
          refine withPreds_cons rfl rfl ?_
          rintro _ rfl
          refine withPreds_cons rfl rfl ?_
          rintro _ rfl
          refine withPreds_cons rfl rfl ?_
          rintro _ rfl
          refine withPreds_cons rfl rfl ?_
          rintro _ rfl
          refine withPreds_cons rfl rfl ?_
          rintro _ rfl
          refine withPreds_cons rfl rfl ?_
          rintro _ rfl
          refine withPreds_cons rfl rfl ?_
          rintro _ rfl
          refine withPreds_cons rfl rfl ?_
          rintro _ rfl
          refine withPreds_nil rfl ?_
          refine XO.indexE rfl rfl Try.underlying40 ty_4 (by omega) (by dsimp only; omega) rfl ?_
          refine XO.storeA (e0 + 1) rfl rfl (show Own.at (rs.map RowO.p ++ rest) e0 = _ from rows_at hre) hacce (k := j0) (by omega) rfl rfl ty_4 rfl (fun pS haccS => ?_)
          refine XO.perm (List.Perm.of_eq (congrArg (po :: ·) (rows_set (r' := ⟨pS, some ⟨rp.1, 0, none⟩, rc, rl.set j0 true⟩) hlt))) ?_
          refine XO.publishT (rs := rs.set e0 ⟨pS, some ⟨rp.1, 0, none⟩, rc, rl.set j0 true⟩) (by rw [set_raw (by simp [RowO.raw]) hre]; exact hacco) (hro.set e0 haccS) (fun HT hleT hsT => ?_)
          have hmx : (rs.set e0 ⟨pS, some ⟨rp.1, 0, none⟩, rc, rl.set j0 true⟩).map RowO.l = setT m (e0, j0) := by rw [List.map_set, hrl, setT, hmrow]
          rw [hmx] at hsT
          rw [show (rs.map RowO.raw).length = (setT m (e0, j0)).length by simp [setT, hlr]]
          have hdims := setT_dims (x := m) (e := (e0, j0)) he0m
          have hk2 := chk_eq0.2 (hdims.ok hok)
          have hlx := hdims.len
          replace hs := hs.mono hleT
          replace hacco := hacco.mono hleT
          replace hro := hro.mono hleT
          replace hle0 := hle0.trans hleT
          refine XO.nil ?_
          refine XC.seq2 ?_
          refine XC.seq ?_
          refine XC.region ?_
          refine XO.move rfl rfl ?_
          have hcall65 := tree_u _ _ m _ hs (by omega)
          refine XO.callH rfl hcall65 rfl ?_
          rintro _ HT65 hleT65 ⟨a65, c65, h65, rfl⟩
          replace hs := hs.mono hleT65
          replace hsT := hsT.mono hleT65
          replace hle0 := hle0.trans hleT65
          refine XO.move rfl rfl ?_
          refine XO.extract rfl rfl rfl ?_
          refine XO.extract rfl rfl rfl ?_
          refine XO.extract rfl rfl rfl ?_
          refine XO.assign rfl rfl ?_
          refine XO.assign rfl rfl ?_
          refine XO.assign rfl rfl ?_
          refine XO.nil ?_
          refine XC.seq2 ?_
          refine XC.seq ?_
          refine XC.region ?_
          refine XO.move rfl rfl ?_
          have hcall71 := tree_u _ _ (setT m (e0, j0)) _ hsT (by omega)
          refine XO.callH rfl hcall71 rfl ?_
          rintro _ HT71 hleT71 ⟨a71, c71, h71, rfl⟩
          replace hs := hs.mono hleT71
          replace hsT := hsT.mono hleT71
          replace h65 := h65.mono hleT71
          replace hle0 := hle0.trans hleT71
          refine XO.move rfl rfl ?_
          refine XO.extract rfl rfl rfl ?_
          refine XO.extract rfl rfl rfl ?_
          refine XO.extract rfl rfl rfl ?_
          refine XO.assign rfl rfl ?_
          refine XO.assign rfl rfl ?_
          refine XO.assign rfl rfl ?_
          refine XO.nil ?_
          refine XC.seq2 ?_
          refine XC.seq ?_
          refine XC.region ?_
          refine XO.move rfl rfl ?_
          refine XO.move rfl rfl ?_
          have hcall78 := resist_u _ _ m _ hs (by omega) t ht
          refine XO.callH rfl hcall78 rfl ?_
          rintro _ HT78 hleT78 ⟨a78, c78, h78, rfl⟩
          replace hs := hs.mono hleT78
          replace hsT := hsT.mono hleT78
          replace h65 := h65.mono hleT78
          replace h71 := h71.mono hleT78
          replace hle0 := hle0.trans hleT78
          refine XO.move rfl rfl ?_
          refine XO.extract rfl rfl rfl ?_
          refine XO.extract rfl rfl rfl ?_
          refine XO.extract rfl rfl rfl ?_
          refine XO.assign rfl rfl ?_
          refine XO.assign rfl rfl ?_
          refine XO.assign rfl rfl ?_
          refine XO.nil ?_
          refine XC.seq2 ?_
          refine XC.seq ?_
          refine XC.region ?_
          refine XO.move rfl rfl ?_
          refine XO.move rfl rfl ?_
          have hcall85 := resist_u _ _ (setT m (e0, j0)) _ hsT (by omega) t ht
          refine XO.callH rfl hcall85 rfl ?_
          rintro _ HT85 hleT85 ⟨a85, c85, h85, rfl⟩
          replace hs := hs.mono hleT85
          replace hsT := hsT.mono hleT85
          replace h65 := h65.mono hleT85
          replace h71 := h71.mono hleT85
          replace h78 := h78.mono hleT85
          replace hle0 := hle0.trans hleT85
          refine XO.move rfl rfl ?_
          refine XO.extract rfl rfl rfl ?_
          refine XO.extract rfl rfl rfl ?_
          refine XO.extract rfl rfl rfl ?_
          refine XO.assign rfl rfl ?_
          refine XO.assign rfl rfl ?_
          refine XO.assign rfl rfl ?_
          refine XO.nil ?_
          refine XC.seq2 ?_
          refine XC.seq ?_
          refine XC.region ?_
          refine XO.move rfl rfl ?_
          refine XO.eql rfl rfl rfl ?_
          refine XO.move rfl rfl ?_
          refine XO.guardT rfl rfl (decide_eq_true hck) rfl ?_
          refine XO.move rfl rfl ?_
          refine XO.guardT rfl rfl (decide_eq_true hck) rfl ?_
          refine XO.eql rfl rfl rfl ?_
          refine XO.pickT rfl (decide_eq_true hck) rfl rfl ?_
          refine XO.move rfl rfl ?_
          refine XO.guardT rfl rfl (decide_eq_true hk2) rfl ?_
          refine XO.move rfl rfl ?_
          refine XO.guardT rfl rfl (decide_eq_true hk2) rfl ?_
          refine XO.not rfl rfl ?_
          refine XO.guardT rfl rfl (decide_eq_true hk2) rfl ?_
          refine XO.move rfl rfl ?_
          refine XO.guardC rfl rfl rfl rfl (fun g21 => ?_) (fun g21 => ?_)
          · have g21p := of_decide_eq_false g21
            refine XO.move rfl rfl ?_
            refine XO.guardT rfl rfl (decide_eq_true hk2) rfl ?_
            refine XO.pickF rfl (g21) rfl rfl ?_
            refine XO.pickT rfl (decide_eq_true hk2) rfl rfl ?_
            refine XO.move rfl rfl ?_
            refine XO.guardT rfl rfl (decide_eq_true (more_tr hok he0m hj0l (Decidable.not_not.1 (by assumption)))) rfl ?_
            refine XO.move rfl rfl ?_
            refine XO.guardT rfl rfl (decide_eq_true (more_tr hok he0m hj0l (Decidable.not_not.1 (by assumption)))) rfl ?_
            refine XO.move rfl rfl ?_
            refine XO.guardT rfl rfl (decide_eq_true (more_tr hok he0m hj0l (Decidable.not_not.1 (by assumption)))) rfl ?_
            refine XO.eql rfl rfl rfl ?_
            refine XO.pickT rfl (decide_eq_true (more_tr hok he0m hj0l (Decidable.not_not.1 (by assumption)))) rfl rfl ?_
            refine XO.move rfl rfl ?_
            refine XO.guardT rfl rfl (decide_eq_true (reE_dims hok hdims _)) rfl ?_
            refine XO.move rfl rfl ?_
            refine XO.guardT rfl rfl (decide_eq_true (reE_dims hok hdims _)) rfl ?_
            refine XO.move rfl rfl ?_
            refine XO.guardC rfl rfl rfl rfl (fun g22 => ?_) (fun g22 => ?_)
            · have g22p := of_decide_eq_false g22
              refine XO.move rfl rfl ?_
              refine XO.guardT rfl rfl (g22) rfl ?_
              refine XO.not rfl rfl ?_
              refine XO.guardT rfl rfl (decide_eq_true (reE_dims hok hdims _)) rfl ?_
              refine XO.pickF rfl (g22) rfl rfl ?_
              refine XO.pickT rfl (decide_eq_true (reE_dims hok hdims _)) rfl rfl ?_
              refine XO.assign rfl rfl ?_
              refine XO.nil ?_
              refine XC.seq2 ?_
              refine XC.ret ?_
              refine ⟨rfl, _, [], rfl, (by repeat (first | exact List.Sublist.refl _ | apply List.Sublist.cons)), RetR.mk ?_⟩
              first | rfl | exact congrArg Value.bool (decide_eq_true (more_re hok he0m hj0l (by assumption)))
            · have g22p := of_decide_eq_true g22
              refine XO.guardF rfl rfl (g22) rfl rfl ?_
              refine XO.guardT rfl rfl (decide_eq_true (reE_dims hok hdims _)) rfl ?_
              refine XO.pickT rfl (g22) rfl rfl ?_
              refine XO.pickT rfl (decide_eq_true (reE_dims hok hdims _)) rfl rfl ?_
              refine XO.assign rfl rfl ?_
              refine XO.nil ?_
              refine XC.seq2 ?_
              refine XC.ret ?_
              refine ⟨rfl, _, [], rfl, (by repeat (first | exact List.Sublist.refl _ | apply List.Sublist.cons)), RetR.mk ?_⟩
              first | rfl | exact congrArg Value.bool (decide_eq_true (more_re hok he0m hj0l (by assumption)))
          · have g21p := of_decide_eq_true g21
            refine XO.guardT rfl rfl (decide_eq_true hk2) rfl ?_
            refine XO.pickT rfl (g21) rfl rfl ?_
            refine XO.pickT rfl (decide_eq_true hk2) rfl rfl ?_
            refine XO.move rfl rfl ?_
            refine XO.guardT rfl rfl (rfl) rfl ?_
            refine XO.move rfl rfl ?_
            refine XO.guardT rfl rfl (rfl) rfl ?_
            refine XO.move rfl rfl ?_
            refine XO.guardT rfl rfl (rfl) rfl ?_
            refine XO.eql rfl rfl rfl ?_
            refine XO.pickT rfl (rfl) rfl rfl ?_
            refine XO.move rfl rfl ?_
            refine XO.guardT rfl rfl (decide_eq_true (reE_dims hok hdims _)) rfl ?_
            refine XO.move rfl rfl ?_
            refine XO.guardT rfl rfl (decide_eq_true (reE_dims hok hdims _)) rfl ?_
            refine XO.move rfl rfl ?_
            refine XO.guardC rfl rfl rfl rfl (fun g23 => ?_) (fun g23 => ?_)
            · have g23p := of_decide_eq_false g23
              refine XO.move rfl rfl ?_
              refine XO.guardT rfl rfl (g23) rfl ?_
              refine XO.not rfl rfl ?_
              refine XO.guardT rfl rfl (decide_eq_true (reE_dims hok hdims _)) rfl ?_
              refine XO.pickF rfl (g23) rfl rfl ?_
              refine XO.pickT rfl (decide_eq_true (reE_dims hok hdims _)) rfl rfl ?_
              refine XO.assign rfl rfl ?_
              refine XO.nil ?_
              refine XC.seq2 ?_
              refine XC.ret ?_
              refine ⟨rfl, _, [], rfl, (by repeat (first | exact List.Sublist.refl _ | apply List.Sublist.cons)), RetR.mk ?_⟩
              first | rfl | exact congrArg Value.bool (decide_eq_true (more_re hok he0m hj0l (by assumption)))
            · have g23p := of_decide_eq_true g23
              refine XO.guardF rfl rfl (g23) rfl rfl ?_
              refine XO.guardT rfl rfl (decide_eq_true (reE_dims hok hdims _)) rfl ?_
              refine XO.pickT rfl (g23) rfl rfl ?_
              refine XO.pickT rfl (decide_eq_true (reE_dims hok hdims _)) rfl rfl ?_
              refine XO.assign rfl rfl ?_
              refine XO.nil ?_
              refine XC.seq2 ?_
              refine XC.ret ?_
              refine ⟨rfl, _, [], rfl, (by repeat (first | exact List.Sublist.refl _ | apply List.Sublist.cons)), RetR.mk ?_⟩
              first | rfl | exact congrArg Value.bool (decide_eq_true (more_re hok he0m hj0l (by assumption)))
  · have g3p := of_decide_eq_true g3
    refine XO.guardF rfl rfl (g3) rfl rfl ?_
    refine XO.guardF rfl rfl (g3) rfl rfl ?_
    refine XO.pickT rfl (g3) rfl rfl ?_
    refine XO.nil ?_
    refine XC.seq2 ?_
    refine XC.condT rfl (rfl) ?_
    refine XC.seq ?_
    refine XC.region ?_
    refine XO.assign rfl rfl ?_
    refine XO.nil ?_
    refine XC.seq2 ?_
    refine XC.ret ?_
    refine seqX_ret ?_
    refine ⟨rfl, _, [], rfl, (by repeat (first | exact List.Sublist.refl _ | apply List.Sublist.cons)), RetR.mk ?_⟩
    first | rfl | exact congrArg Value.bool (decide_eq_true (more_re hok he0m hj0l (by assumption)))

namespace graphMore
open Go.ChangeShapes Go.WideShapes Go.ChangeAt Go.RowKit
open Go.ChangeMaps (open_string shut_string)
theorem own : ownKnob Try.prog.godebug = none := by kernel_rfl
theorem laidOut : laidOutB Try.prog = true := by kernel_rfl
set_option maxRecDepth 100000 in
theorem lifted (os : Os) (started : os.Started) (H : Type) (enc : TypeId × Value → H) :
    ReturnsInHanded {} Try.checked os 7 .any (Rows.graphMoreSpec.pre6 enc Try.prog Try.f7 Rows.graphMoreRow.domain false) (Rows.graphMoreSpec.post enc Try.prog Try.f7 false true false false) := by
  refine returnsInHanded_of_change (C := Try.checked) own started (by kernel_rfl) Try.func7
    (ChangeSpec.witness6 (enc := enc) (C := Try.checked) false ⟨#[], #[.slice none 0 0, .int .u8 0, .int .u8 0, .int .i64 0], []⟩ 8 (by kernel_rfl) (by kernel_rfl) (by kernel_rfl) (by kernel_rfl)) ?_
  intro W base args ds gs before hval0 hW hcnd _
  have hval : ∀ (j : Nat) t v, Try.f7.params[j]? = some t → args[j]? = some v → Value.okWide Try.prog W .any base t v := hval0
  have hW' := hW
  obtain ⟨p, q, hA0, hV, rfl, hfz, hnd⟩ := hW
  have hA : DataW.TrodAll enc Try.prog W 0 (fun _ => true) true Try.f7.params.toList args.toList ds p := hA0
  rw [Try.params7] at hA hval
  obtain ⟨v0, vs0, d0, ds0, p0, q0, hargs, rfl, rfl, h0, r0⟩ := trodAll_cons hA
  obtain ⟨v1, vs1, d1, ds1, p1, q1, rfl, rfl, rfl, h1, r1⟩ := trodAll_cons r0
  obtain ⟨v2, vs2, d2, ds2, p2, q2, rfl, rfl, rfl, h2, r2⟩ := trodAll_cons r1
  obtain ⟨v3, vs3, d3, ds3, p3, q3, rfl, rfl, rfl, h3, r3⟩ := trodAll_cons r2
  obtain ⟨rfl, rfl, rfl⟩ := trodAll_nil r3
  obtain rfl : args = #[v0, v1, v2, v3] := by cases args; simp_all
  obtain ⟨rfl, rfl⟩ := trodVars_none hV
  obtain ⟨a0, len0, cap0, rfl⟩ := okWide_slice Try.underlying22 (hval 0 22 v0 rfl rfl)
  have k0 := h0
  have lt0 : ∀ x ∈ p0, x.block < W.heap.size := by obtain ⟨m, hm⟩ := k0; exact DataW.trod_lt m _ _ _ hm
  obtain ⟨fuel0, hf0⟩ := h0
  obtain ⟨l0, ⟨aa0, cc0, hcs0, hs0⟩, hw0⟩ := opens_tb enc W 0 _ _ fuel0 _ _ hf0
  simp [Value.cells] at hcs0
  obtain ⟨rfl, rfl, rfl⟩ := hcs0
  obtain ⟨a1, rfl, rfl, rfl, w1⟩ := open_int Try.underlying5 (hval 1 5 v1 rfl rfl) h1
  obtain ⟨a2, rfl, rfl, rfl, w2⟩ := open_int Try.underlying5 (hval 2 5 v2 rfl rfl) h2
  obtain ⟨a3, rfl, rfl, rfl, w3⟩ := open_int Try.underlying3 (hval 3 3 v3 rfl rfl) h3
  clear hA0 hval0
  refine (graphMore_fn _ _ l0 (hpOf W) hs0 (by have := hw0.1; unfold maxLen at this; omega) a1 a2 a3 (wf_u8 w1) (wf_u8 w2) (wf_i64 w3)).below.mono fun e W' ⟨he, bel⟩ => ?_
  subst he
  exact ⟨_, rfl, _, _, _, [], _, [], hW', trodAll_mk1 (shut_bool Try.underlying4 _), (trodAll_cons_mk (Below.trod laidOut (by kernel_rfl) (of_decide_eq_true (by kernel_rfl)) k0 bel lt0) (trodAll_cons_mk (shut_int Try.underlying5 w1) (trodAll_cons_mk (shut_int Try.underlying5 w2) (trodAll_cons_mk (shut_int Try.underlying3 w3) trodAll_mk0)))), rfl, bel.frame _, fun h => by cases h⟩
theorem over : Rows.graphMoreRow.holds Try.pinned (OpenSpec.ofChange Rows.graphMoreSpec) :=
  OpenClaim.holds_of_wide 7 Try.f7 rfl rfl rfl rfl rfl rfl rfl ⟨rfl, rfl, rfl, rfl, rfl⟩ rfl rfl rfl rfl rfl (by kernel_rfl) Try.func7 (by kernel_rfl)
    (of_decide_eq_true (by kernel_rfl)) (by unfold Func.isWrapper; first | (rw [if_pos (by decide +kernel)]; kernel_rfl) | (rw [if_neg (by decide +kernel)]; exact ⟨rfl, rfl⟩))
    (fun os started H enc _ => lifted os started H enc)
/-- The given statement. -/
theorem proved : Rows.GraphMoreSaid := over
#print axioms proved
end graphMore
end Go.Proofs.Ytbfleiickdobnaa
