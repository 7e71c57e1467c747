/- The walks of the functions of the graph: what each of them computes, at any input. -/
import Derived.Test.YtbfleiickdobnaaRcI
import Derived.Test.YtbfleiickdobnaaXMc
import Derived.Test.YtbfleiickdobnaaRcE2
set_option autoImplicit false
set_option linter.unusedVariables false
set_option linter.unusedSimpArgs false
namespace Go.Proofs
open Go.XL



theorem alone_fn (a ao : Option Addr) (c co : Nat) (m : Tb) (E : Ed) (L : List (Int × Int)) (H : Hp) (hs : SlR tbR H a c m) (ht : SlR pairR H ao co L) (hL : L = E.map ie) (hok : okG m) (hE : ∀ e ∈ E, e.1 < m.length ∧ e.2 < wideM m) (hEl : E.length ≤ 2000) : FnC Try.prog 26 #[.slice a m.length c, .slice ao L.length co] H [] (RetR (fun v H2 _ => ∃ a2 c2, v = .slice a2 (aloneM m E).length c2 ∧ SlR tbR H2 a2 c2 (aloneM m E))) := by
  refine FnC.intro (args := [.slice a m.length c, .slice ao L.length co]) Try.func26 rfl rfl Try.ntmps26 rfl rfl rfl fun G rest => ?_
  subst hL
  have hlm := hok.1
  have hwm := okG_wide hok
  have hel : (E.map ie).length = E.length := List.length_map ..
  refine XC.seq ?_
  refine XC.region ?_
  refine XO.assign rfl rfl ?_
  refine XO.nil ?_
  refine XC.seq2 ?_
  refine XC.seq ?_
  refine XC.region ?_
  refine XO.assign rfl rfl ?_
  refine XO.nil ?_
  refine XC.seq2 ?_
  refine XC.seq ?_
  refine XC.seq ?_
  refine XC.region ?_
  refine XO.move rfl rfl ?_
  refine XO.lenS (ts := #[]) rfl Try.underlying22 rfl ?_
  refine XO.move rfl rfl ?_
  refine XO.nil ?_
  refine XC.seq2 ?_
  refine XC.block ?_
  refine XC.keep [5, 12, 1, 10, 11] rfl ?_
  refine XC.open0 0 ?_
  refine XC.loop (base := [(1, _), (10, _), (11, _)]) (fun ζ : Nat × (List (RowO Bool)) × ((Nat × SObj) × Option Addr × Nat) => [(5, .slice ζ.2.2.2.1 (ζ.2.1.map RowO.raw).length ζ.2.2.2.2), (12, .int .i64 (ζ.1 : Nat))]) (fun ζ Hl own => ζ.1 ≤ m.length ∧ ζ.2.2.1 :: (ζ.2.1.map RowO.p ++ rest) = own ∧ Acc rawR 40 Hl ζ.2.2.1 ζ.2.2.2.1 ζ.2.2.2.2 (ζ.2.1.map RowO.raw) ∧ (RowsO boolR 4 Hl ζ.2.1) ∧ (ζ.2.1.map RowO.l = (m.take ζ.1).map fun r => List.replicate r.length false)) (fun ζ => m.length - ζ.1) (0, [], ((0, .nothing), none, 0)) (prov_cons (rfl) (prov_cons (rfl) (prov_cons (rfl) (prov_cons (rfl) (prov_cons (rfl) prov_nil))))) (by repeat (first | exact List.Sublist.refl _ | apply List.Sublist.cons_cons | apply List.Sublist.cons)) ⟨Nat.zero_le _, rfl, Acc.nil _ _ _ _, RowsO.nil, by simp⟩ ?_
  rintro ⟨k, rs, ⟨po, ao, co⟩⟩ Hl0 _ hle0 ⟨hkk, rfl, hacco, hro, hrl⟩
  replace hs := hs.mono hle0
  replace ht := ht.mono hle0
  try dsimp only at hkk hacco hro hrl ⊢
  refine XC.seq ?_
  refine XC.region ?_
  refine XO.lss rfl rfl rfl ?_
  refine XO.nil ?_
  refine XC.seq2 ?_
  refine XC.seq ?_
  refine XC.cond rfl (fun c0_1 => ?_) (fun c0_1 => ?_)
  · refine XC.skip ?_
    refine XC.seq2 ?_
    refine XC.seq ?_
    refine XC.block ?_
    refine XC.seq ?_
    refine XC.region ?_
    refine XO.indexN rfl hs rfl Try.underlying22 ty_40 (by omega) rfl ?_
    rintro eb14 eo14 _ x14 hx14 ⟨ax14, cx14, rfl, hd14⟩ hp14
    refine XO.loadH rfl (by assumption) ty_40 rfl rfl rfl ?_
    refine XO.assign rfl rfl ?_
    refine XO.nil ?_
    refine XC.seq2 ?_
    refine XC.region ?_
    have hwx := hok.2 _ (List.mem_of_getElem? hx14)
    have hlr : rs.length = k := by have := congrArg List.length hrl; simp at this; omega
    refine XO.move rfl rfl ?_
    refine XO.move rfl rfl ?_
    refine XO.lenS (ts := #[]) rfl Try.underlying40 rfl ?_
    refine XO.makeRow (ρ := boolR) (n := x14.length) false rfl rfl Try.underlying40 ty_4 ze_4 rfl by_4 (by omega) rfl rfl (fun p19 c19 hacc19 => ?_)
    refine XO.buildSlice rfl Try.underlying22 ty_40 ze_40 rfl rfl rfl (fun b20 => ?_)
    refine XO.publish 0 rfl rfl rfl (fun HP20 oP20 hleP20 hbP20 hoP20 => ?_)
    have hsl20 := SlR.lit (ρ := rawR) (l := [(some ⟨p19.1, 0, none⟩, x14.length, c19)]) hbP20 hoP20 (RowsR.one1 rfl)
    replace hs := hs.mono hleP20
    replace ht := ht.mono hleP20
    replace hacco := hacco.mono hleP20
    replace hro := hro.mono hleP20
    replace hp14 := hp14.mono hleP20
    replace hd14 := hd14.mono hleP20
    replace hacc19 := hacc19.mono hleP20
    replace hle0 := hle0.trans hleP20
    refine XO.appendA 1 rfl rfl hacco rfl rfl hsl20 rfl Try.underlying22 ty_40 ze_40 rfl by_40 (by rw [List.length_map]; simp only [List.length_cons, List.length_nil]; omega) rfl (fun p21 a21 c21 hacc21 => ?_)
    refine XO.perm (perm_row (r := ⟨p19, some ⟨p19.1, 0, none⟩, c19, List.replicate x14.length false⟩)) ?_
    rw [show (List.map RowO.raw rs ++ [(some ⟨p19.1, 0, none⟩, x14.length, c19)]) = (rs ++ [(⟨p19, some ⟨p19.1, 0, none⟩, c19, List.replicate x14.length false⟩ : RowO Bool)]).map RowO.raw by simp [RowO.raw]] at hacc21 ⊢
    refine XO.assign rfl rfl ?_
    refine XO.nil ?_
    refine blockN ?_
    refine XC.seq2 ?_
    refine XC.region ?_
    refine XO.add rfl rfl (wrap_i64 (by omega) (by omega)) rfl ?_
    refine XO.move rfl rfl ?_
    refine XO.nil ?_
    refine loop_next ((k + 1, rs ++ [⟨p19, some ⟨p19.1, 0, none⟩, c19, List.replicate x14.length false⟩], (p21, a21, c21))) (by show m.length - (k + 1) < m.length - k; omega) (prov_cons (by first | rfl) (prov_cons (rfl) (prov_cons (rfl) (prov_cons (rfl) (prov_cons (rfl) prov_nil))))) (⟨by show k + 1 ≤ m.length; omega, rfl, by first | (exact hacc21), hro.snoc hacc19, by rw [List.map_append, hrl, take_snoc hx14, List.map_append]; rfl⟩) (by repeat (first | exact List.Sublist.refl _ | apply List.Sublist.cons_cons | apply List.Sublist.cons)) (hle0)
  · obtain rfl : k = m.length := by omega
    rw [List.take_length] at hrl
    refine XC.exit ?_
    refine seqX_exit ?_
    refine loopX_exit ?_
    refine blockHit rfl ?_
    refine XC.seq2 ?_
    refine XC.seq ?_
    refine XC.seq ?_
    refine XC.region ?_
    refine XO.move rfl rfl ?_
    refine XO.lenS (ts := #[]) rfl Try.underlying25 rfl ?_
    refine XO.move rfl rfl ?_
    refine XO.nil ?_
    refine XC.seq2 ?_
    refine XC.block ?_
    refine XC.keep [25, 5, 23, 24] rfl ?_
    refine XC.loop (base := [(5, _), (23, _), (24, _)]) (fun ζ : Nat × (List (RowO Bool)) => [(25, .int .i64 (ζ.1 : Nat))]) (fun ζ Hl own => ζ.1 ≤ (E.map ie).length ∧ po :: (ζ.2.map RowO.p ++ rest) = own ∧ (RowsO boolR 4 Hl ζ.2) ∧ (ζ.2.map RowO.l = (E.take ζ.1).foldl setT (zeroT m)) ∧ (ζ.2.map RowO.raw = rs.map RowO.raw)) (fun ζ => (E.map ie).length - ζ.1) (0, rs) (prov_cons (rfl) (prov_cons (rfl) (prov_cons (rfl) (prov_cons (rfl) prov_nil)))) (by repeat (first | exact List.Sublist.refl _ | apply List.Sublist.cons_cons | apply List.Sublist.cons)) ⟨Nat.zero_le _, rfl, hro, hrl, rfl⟩ ?_
    rintro ⟨k, rt⟩ Hl1 _ hle1 ⟨hkk, rfl, hrt, hrl2, hraw⟩
    replace hs := hs.mono hle1
    replace ht := ht.mono hle1
    replace hacco := hacco.mono hle1
    replace hro := hro.mono hle1
    replace hle0 := hle0.trans hle1
    try dsimp only at hkk hrt hrl2 hraw ⊢
    refine XC.seq ?_
    refine XC.region ?_
    refine XO.lss rfl rfl rfl ?_
    refine XO.nil ?_
    refine XC.seq2 ?_
    refine XC.seq ?_
    refine XC.cond rfl (fun c1_3 => ?_) (fun c1_3 => ?_)
    · refine XC.skip ?_
      refine XC.seq2 ?_
      refine XC.seq ?_
      refine XC.block ?_
      refine XC.seq ?_
      refine XC.region ?_
      refine XO.indexN rfl ht rfl Try.underlying25 ty_41 (by omega) rfl ?_
      rintro eb27 eo27 _ x27 hx27 rfl hp27
      obtain ⟨ei, ej, rfl, hek⟩ := ie_get hx27
      refine XO.loadH rfl (by assumption) ty_41 rfl rfl rfl ?_
      refine XO.alloc ze_41 rfl (fun b9 => ?_)
      refine XO.storeO 0 rfl rfl rfl rfl ty_41 rfl rfl rfl rfl rfl ?_
      refine XO.nil ?_
      refine XC.seq2 ?_
      refine XC.keep [5, 9, 23, 24, 25] rfl ?_
      have hlr : rt.length = m.length := by have := congrArg List.length hrl2; rw [List.length_map, aloneM_len m _ _ (zero_marks m).len] at this; exact this
      have hein := hE _ (List.mem_of_getElem? hek)
      have hrw := row_len hok hein.1
      have haddr := hacco.addr (by rw [← hraw, List.length_map]; omega)
      subst haddr
      have hlrm : (rs.map RowO.raw).length = m.length := by rw [← hraw, List.length_map, hlr]
      have hlt : ei < rt.length := by simp only at hein; omega
      obtain ⟨⟨rp, ra, rc, rl⟩, hre⟩ : ∃ r, rt[ei]? = some r := ⟨_, List.getElem?_eq_getElem hlt⟩
      have hxr : ((E.take k).foldl setT (zeroT m))[ei]? = some rl := by rw [← hrl2, List.getElem?_map, hre]; rfl
      have hxd : ((E.take k).foldl setT (zeroT m)).getD ei [] = rl := by rw [List.getD_eq_getElem?_getD, hxr]; rfl
      have hwe : rl.length = wideM m := by rw [← hxd, (fold_dims (fun e he => ⟨(hE e he).1, by rw [row_len hok (hE e he).1]; exact (hE e he).2⟩) k).row, hrw]
      have hacce := hrt _ (List.mem_of_getElem? hre)
      have haddr2 := hacce.addr (by show 0 < rl.length; simp only at hein; omega)
      simp only at haddr2 hacce hein
      subst haddr2
      have hge : (rs.map RowO.raw)[ei]? = some (some ⟨rp.1, 0, none⟩, rl.length, rc) := by rw [← hraw, List.getElem?_map, hre]; rfl
      apply XC.draw 7 [eqF _, eqF _, eqF _, eqF _, eqF _, eqF _, eqF _] follows (by kernel_rfl) (by kernel_rfl) ⟨eqF_mono _, eqF_mono _, eqF_mono _, eqF_mono _, eqF_mono _, eqF_mono _, eqF_mono _, trivial⟩ ?steps5 ?tail5
      case steps5 =>
        refine stepsK_cons rfl ?_ ?_
        · intro X
          refine withPreds_nil rfl ?_
          refine XO.move rfl rfl ?_
          refine XO.nil ?_
          exact stepQ_ok rfl (rfl)
        refine stepsK_cons rfl ?_ ?_
        · intro X
          refine withPreds_nil rfl ?_
          refine XO.indexArr rfl rfl Try.underlying41 ty_3 (by first | decide | omega) (by first | decide | omega) rfl ?_
          refine XO.nil ?_
          exact stepQ_ok rfl (rfl)
        refine stepsK_cons rfl ?_ ?_
        · intro X
          refine withPreds_cons rfl rfl ?_
          rintro _ rfl
          refine withPreds_nil rfl ?_
          refine XO.loadO 0 rfl rfl ty_3 rfl rfl rfl ?_
          refine XO.nil ?_
          exact stepQ_ok rfl (rfl)
        refine stepsK_cons rfl ?_ ?_
        · intro X
          refine withPreds_cons rfl rfl ?_
          rintro _ rfl
          refine withPreds_cons rfl rfl ?_
          rintro _ rfl
          refine withPreds_nil rfl ?_
          refine XO.indexE rfl rfl Try.underlying22 ty_40 (by dsimp only; omega) (by dsimp only; omega) rfl ?_
          refine XO.nil ?_
          exact stepQ_ok rfl (rfl)
        refine stepsK_cons rfl ?_ ?_
        · intro X
          refine withPreds_cons rfl rfl ?_
          rintro _ rfl
          refine withPreds_nil rfl ?_
          refine XO.loadA 1 rfl rfl hacco hge ty_40 rfl (fun cs7 v7 hR7 hv7 => ?_) (fun cs7 hR7 => ⟨_, by cases hR7; rfl⟩)
          cases hR7; cases hv7
          refine XO.nil ?_
          exact stepQ_ok rfl (rfl)
        refine stepsK_cons rfl ?_ ?_
        · intro X
          refine withPreds_nil rfl ?_
          refine XO.indexArr rfl rfl Try.underlying41 ty_3 (by first | decide | omega) (by first | decide | omega) rfl ?_
          refine XO.nil ?_
          exact stepQ_ok rfl (rfl)
        refine stepsK_cons rfl ?_ ?_
        · intro X
          refine withPreds_cons rfl rfl ?_
          rintro _ rfl
          refine withPreds_nil rfl ?_
          refine XO.loadO 0 rfl rfl ty_3 rfl rfl rfl ?_
          refine XO.nil ?_
          exact stepQ_ok rfl (rfl)
        exact stepsD_end rfl
      case tail5 =>
        refine withPreds_cons rfl rfl ?_
        rintro _ rfl
        refine withPreds_cons rfl rfl ?_
        rintro _ rfl
        refine withPreds_cons rfl rfl ?_
        rintro _ rfl
        refine withPreds_cons rfl rfl ?_
        rintro _ rfl
        refine withPreds_cons rfl rfl ?_
        rintro _ rfl
        refine withPreds_cons rfl rfl ?_
        rintro _ rfl
        refine withPreds_cons rfl rfl ?_
        rintro _ rfl
        refine withPreds_nil rfl ?_
        refine XO.indexE rfl rfl Try.underlying40 ty_4 (by dsimp only; omega) (by dsimp only; omega) rfl ?_
        refine XO.storeA (ei + 2) rfl rfl (show Own.at (rt.map RowO.p ++ rest) ei = _ from rows_at hre) hacce (k := ej) (by omega) rfl rfl ty_4 rfl (fun pS haccS => ?_)
        refine XO.perm (List.Perm.of_eq (congrArg (fun z => (b9, _) :: po :: z) (rows_set (r' := ⟨pS, some ⟨rp.1, 0, none⟩, rc, rl.set ej true⟩) hlt))) ?_
        refine XO.nil ?_
        refine blockN ?_
        refine XC.seq2 ?_
        refine XC.region ?_
        refine XO.add rfl rfl (wrap_i64 (by omega) (by omega)) rfl ?_
        refine XO.move rfl rfl ?_
        refine XO.nil ?_
        refine loop_next ((k + 1, rt.set ei ⟨pS, some ⟨rp.1, 0, none⟩, rc, rl.set ej true⟩)) (by show (E.map ie).length - (k + 1) < (E.map ie).length - k; omega) (prov_cons (rfl) (prov_cons (rfl) (prov_cons (rfl) (prov_cons (rfl) prov_nil)))) (⟨by show k + 1 ≤ (E.map ie).length; omega, rfl, hrt.set ei haccS, by rw [List.map_set, hrl2, fold_succ hek, setT, hxd], by rw [set_raw (by simp [RowO.raw]) hre]; exact hraw⟩) (by repeat (first | exact List.Sublist.refl _ | apply List.Sublist.cons_cons | apply List.Sublist.cons)) (hle1)
    · obtain rfl : k = (E.map ie).length := by omega
      refine XC.exit ?_
      refine seqX_exit ?_
      refine loopX_exit ?_
      refine blockHit rfl ?_
      refine XC.seq2 ?_
      refine XC.seq ?_
      refine XC.region ?_
      have hmx : rt.map RowO.l = aloneM m E := by rw [hrl2, List.take_of_length_le (by simp)]; rfl
      refine XO.publishT (rs := rt) (by rw [hraw]; exact hacco) hrt (fun HT hleT hsT => ?_)
      rw [hmx] at hsT
      rw [show (rs.map RowO.raw).length = (aloneM m E).length by rw [← hmx, ← hraw]; simp]
      refine XO.move rfl rfl ?_
      replace hs := hs.mono hleT
      replace ht := ht.mono hleT
      replace hacco := hacco.mono hleT
      replace hro := hro.mono hleT
      replace hrt := hrt.mono hleT
      replace hle0 := hle0.trans hleT
      replace hle1 := hle1.trans hleT
      refine XO.assign rfl rfl ?_
      refine XO.nil ?_
      refine XC.seq2 ?_
      refine XC.ret ?_
      refine ⟨rfl, _, [], rfl, (by repeat (first | exact List.Sublist.refl _ | apply List.Sublist.cons)), RetR.mk ?_⟩
      exact ⟨_, _, rfl, hsT⟩

end Go.Proofs
