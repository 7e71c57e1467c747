/- The walks of the functions of the graph: what each of them computes, at any input. -/
import Derived.Test.YtbfleiickdobnaaRcY
import Derived.Test.YtbfleiickdobnaaRcG
import Derived.Test.YtbfleiickdobnaaXLy
set_option autoImplicit false
set_option linter.unusedVariables false
set_option linter.unusedSimpArgs false
namespace Go.Proofs
open Go.XL

theorem bf_59 : structF Try.prog 59 = some [(0, 80), (80, 1)] := by kernel_rfl
theorem bk_59 : structK Try.prog 59 = true := by kernel_rfl
theorem by_41 : Nat.ble (Try.prog.bytesOf 41) 4096 = true := by kernel_rfl
theorem fa_53_0 : fieldF Try.prog 53 0 = some 0 := by kernel_rfl
theorem ty_25 : tyF Try.prog 25 1 false = true := by kernel_rfl
theorem ty_4 : tyF Try.prog 4 1 false = true := by kernel_rfl
theorem ze_41 : zeroC Try.prog 41 = some [.int .i64 0, .int .i64 0] := by kernel_rfl
theorem ze_59 : zeroC Try.prog 59 = some [.int .i64 0, .int .i64 0, .int .i64 0, .int .i64 0, .int .i64 0, .int .i64 0, .int .i64 0, .int .i64 0, .int .i64 0, .int .i64 0, .int .i64 0, .int .i64 0, .int .i64 0, .int .i64 0, .int .i64 0, .int .i64 0, .int .i64 0, .int .i64 0, .int .i64 0, .int .i64 0, .int .i64 0, .int .i64 0, .int .i64 0, .int .i64 0, .int .i64 0, .int .i64 0, .int .i64 0, .int .i64 0, .int .i64 0, .int .i64 0, .int .i64 0, .int .i64 0, .int .i64 0, .int .i64 0, .int .i64 0, .int .i64 0, .int .i64 0, .int .i64 0, .int .i64 0, .int .i64 0, .int .i64 0, .int .i64 0, .int .i64 0, .int .i64 0, .int .i64 0, .int .i64 0, .int .i64 0, .int .i64 0, .int .i64 0, .int .i64 0, .int .i64 0, .int .i64 0, .int .i64 0, .int .i64 0, .int .i64 0, .int .i64 0, .int .i64 0, .int .i64 0, .int .i64 0, .int .i64 0, .int .i64 0, .int .i64 0, .int .i64 0, .int .i64 0, .int .i64 0, .int .i64 0, .int .i64 0, .int .i64 0, .int .i64 0, .int .i64 0, .int .i64 0, .int .i64 0, .int .i64 0, .int .i64 0, .int .i64 0, .int .i64 0, .int .i64 0, .int .i64 0, .int .i64 0, .int .i64 0, .int .i64 0] := by kernel_rfl

set_option maxRecDepth 100000 in
set_option maxHeartbeats 1600000 in
theorem grown_fn (a ao : Option Addr) (c co : Nat) (po : Nat × SObj) (m : Tb) (out : List Int) (g : Value) (oc : XL.Own) (S : CbS) (H : Hp) (hs : SlR tbR H a c m) (hok : okG m) (hacc : Acc (intR .i64) 3 H po ao co out) (hl : out.length ≤ 16) (hgn : match g with | .func .. => True | _ => False) (hcb : CbOk Try.prog S g H) (hS : S.Holds [] H oc) : FnC Try.prog 30 #[.slice a m.length c, .slice ao out.length co, g] H (po :: oc) (RetR (fun v H' own => ∃ bf up d oc', v = .pointer (some ⟨bf, 0, none⟩) ∧ FI (m.length + wideM m) up (allG m out m.length).Pl d ∧ S.Holds (allG m out m.length).l H' oc' ∧ own = (bf, .cells 59 (frC up (allG m out m.length).p)) :: po :: oc')) := by
  refine FnC.intro (args := [.slice a m.length c, .slice ao out.length co, g]) Try.func30 rfl rfl Try.ntmps30 rfl rfl rfl fun G rest => ?_
  have hH : LeW H H := Le.refl H
  have hlm := hok.1
  have hwm : wideM m ≤ 16 := okG_wide hok
  refine XC.seq ?_
  refine XC.region ?_
  refine XO.assign rfl rfl ?_
  refine XO.nil ?_
  refine XC.seq2 ?_
  refine XC.seq ?_
  refine XC.region ?_
  refine XO.move rfl rfl ?_
  refine XO.callV rfl (wide_fn _ _ m _ hs (by omega)) rfl ?_
  refine XO.assign rfl rfl ?_
  refine XO.nil ?_
  refine XC.seq2 ?_
  refine XC.seq ?_
  refine XC.region ?_
  refine XO.move rfl rfl ?_
  refine XO.lenS (ts := #[]) rfl Try.underlying22 rfl ?_
  refine XO.move rfl rfl ?_
  refine XO.add rfl rfl (wrap_i64 (by omega) (by omega)) rfl ?_
  refine XO.move rfl rfl ?_
  refine XO.lenS (ts := #[]) rfl Try.underlying29 rfl ?_
  refine XO.sub rfl rfl (wrap_i64 (by omega) (by omega)) rfl ?_
  refine XO.build bk_59 bf_59 ze_59 rfl rfl rfl ?_
  refine XO.box rfl rfl rfl (fun b24 => ?_)
  refine XO.assign rfl rfl ?_
  refine XO.nil ?_
  refine XC.seq2 ?_
  refine XC.seq ?_
  refine XC.seq ?_
  refine XC.region ?_
  refine XO.move rfl rfl ?_
  refine XO.lenS (ts := #[]) rfl Try.underlying22 rfl ?_
  refine XO.move rfl rfl ?_
  refine XO.add rfl rfl (wrap_i64 (by omega) (by omega)) rfl ?_
  refine XO.move rfl rfl ?_
  refine XO.nil ?_
  refine XC.seq2 ?_
  refine XC.block ?_
  refine XC.keep [29, 0, 1, 2, 8, 28] rfl ?_
  refine XC.loop (base := [(0, _), (1, _), (2, _), (8, _), (28, _)]) (fun ζ : Nat × (Nat → Nat) => [(29, .int .i64 (ζ.1 : Nat))]) (fun ζ Hl own => ζ.1 ≤ (m.length + wideM m) ∧ (b24, .cells 59 (frC ζ.2 (((m.length : Int) + (wideM m : Nat) - out.length)))) :: po :: (oc ++ rest) = own ∧ (∀ y, y < ζ.1 → ζ.2 y = y)) (fun ζ => (m.length + wideM m) - ζ.1) (0, (fun _ => 0)) (prov_cons (rfl) (prov_cons (rfl) (prov_cons (rfl) (prov_cons (rfl) (prov_cons (rfl) (prov_cons (rfl) prov_nil)))))) (by repeat (first | exact List.Sublist.refl _ | apply List.Sublist.cons_cons | apply List.Sublist.cons)) ⟨Nat.zero_le _, rfl, by intro y hy; omega⟩ ?_
  rintro ⟨x, u⟩ Hl0 _ hle0 ⟨hkx, rfl, hu⟩
  replace hs := hs.mono hle0
  replace hacc := hacc.mono hle0
  replace hS := hS.mono hle0
  replace hH := hH.mono hle0
  try dsimp only at hkx hu ⊢
  refine XC.seq ?_
  refine XC.region ?_
  refine XO.lss rfl rfl rfl ?_
  refine XO.nil ?_
  refine XC.seq2 ?_
  refine XC.seq ?_
  refine XC.cond rfl (fun c0_2 => ?_) (fun c0_2 => ?_)
  · refine XC.skip ?_
    refine XC.seq2 ?_
    refine XC.seq ?_
    refine XC.block ?_
    refine XC.seq ?_
    refine XC.region ?_
    refine XO.move rfl rfl ?_
    refine XO.assign rfl rfl ?_
    refine XO.nil ?_
    refine XC.seq2 ?_
    refine XC.region ?_
    refine XO.move rfl rfl ?_
    refine XO.move rfl rfl ?_
    refine XO.move rfl rfl ?_
    refine XO.nilCheckP rfl rfl ?_
    refine XO.fieldAddr rfl fa_59_0 rfl ?_
    refine XO.indexArr rfl rfl Try.underlying57 ty_3 (by first | decide | omega) (by first | decide | omega) rfl ?_
    refine XO.storeC 0 rfl rfl rfl rfl ty_3 rfl (fr_in (by omega)) (fr_put (by omega)) rfl rfl ?_
    refine XO.nil ?_
    refine blockN ?_
    refine XC.seq2 ?_
    refine XC.region ?_
    refine XO.add rfl rfl (wrap_i64 (by omega) (by omega)) rfl ?_
    refine XO.move rfl rfl ?_
    refine XO.nil ?_
    refine loop_next ((x + 1, upd u x x)) (by show (m.length + wideM m) - (x + 1) < (m.length + wideM m) - x; omega) (prov_cons (rfl) (prov_cons (rfl) (prov_cons (rfl) (prov_cons (rfl) (prov_cons (rfl) (prov_cons (rfl) prov_nil)))))) (⟨by show x + 1 ≤ (m.length + wideM m); omega, rfl, upd_id hu⟩) (by repeat (first | exact List.Sublist.refl _ | apply List.Sublist.cons_cons | apply List.Sublist.cons)) (hle0)
  · refine XC.exit ?_
    refine seqX_exit ?_
    refine loopX_exit ?_
    refine blockHit rfl ?_
    refine XC.seq2 ?_
    refine XC.seq ?_
    refine XC.seq ?_
    refine XC.region ?_
    refine XO.move rfl rfl ?_
    refine XO.lenS (ts := #[]) rfl Try.underlying22 rfl ?_
    refine XO.move rfl rfl ?_
    refine XO.nil ?_
    refine XC.seq2 ?_
    refine XC.block ?_
    refine XC.keep [41, 0, 1, 2, 8, 39, 40] rfl ?_
    refine XC.loop (base := [(0, _), (1, _), (2, _), (8, _), (39, _), (40, _)]) (fun ζ : Nat × (Nat → Nat) × (Nat → Nat) × (XL.Own) => [(41, .int .i64 (ζ.1 : Nat))]) (fun ζ Hl own => ζ.1 ≤ m.length ∧ (b24, .cells 59 (frC ζ.2.1 ((allG m out ζ.1).p))) :: po :: (ζ.2.2.2 ++ rest) = own ∧ (FI (m.length + wideM m) ζ.2.1 (allG m out (ζ.1)).Pl ζ.2.2.1) ∧ (S.Holds (allG m out (ζ.1)).l Hl ζ.2.2.2) ∧ (Acc (intR .i64) 3 Hl po ao co out)) (fun ζ => m.length - ζ.1) (0, u, (fun _ => 0), oc) (prov_cons (rfl) (prov_cons (rfl) (prov_cons (rfl) (prov_cons (rfl) (prov_cons (rfl) (prov_cons (rfl) (prov_cons (rfl) prov_nil))))))) (by repeat (first | exact List.Sublist.refl _ | apply List.Sublist.cons_cons | apply List.Sublist.cons)) ⟨Nat.zero_le _, rfl, FI.init _ (fun y hy => hu y (by omega)), hS, hacc⟩ ?_
    rintro ⟨i, u, d, oc⟩ Hl1 _ hle1 ⟨hki, rfl, hF, hS, hacc⟩
    replace hs := hs.mono hle1
    replace hH := hH.mono hle1
    replace hle0 := hle0.trans hle1
    try dsimp only at hki hF hS hacc ⊢
    refine XC.seq ?_
    refine XC.region ?_
    refine XO.lss rfl rfl rfl ?_
    refine XO.nil ?_
    refine XC.seq2 ?_
    refine XC.seq ?_
    refine XC.cond rfl (fun c1_4 => ?_) (fun c1_4 => ?_)
    · refine XC.skip ?_
      refine XC.seq2 ?_
      refine XC.seq ?_
      refine XC.block ?_
      refine XC.seq ?_
      refine XC.region ?_
      refine XO.move rfl rfl ?_
      refine XO.indexN rfl hs rfl Try.underlying22 ty_40 (by omega) rfl ?_
      rintro eb44 eo44 _ x44 hx44 ⟨ax44, cx44, rfl, hd44⟩ hp44
      refine XO.loadH rfl (by assumption) ty_40 rfl rfl rfl ?_
      refine XO.assign rfl rfl ?_
      refine XO.assign rfl rfl ?_
      refine XO.nil ?_
      refine XC.seq2 ?_
      refine XC.seq ?_
      refine XC.region ?_
      refine XO.move rfl rfl ?_
      refine XO.lenS (ts := #[]) rfl Try.underlying40 rfl ?_
      refine XO.move rfl rfl ?_
      refine XO.nil ?_
      refine XC.seq2 ?_
      refine XC.block ?_
      refine XC.keep [48, 0, 1, 2, 8, 10, 39, 40, 41, 46, 47] rfl ?_
      refine XC.loop (base := [(0, _), (1, _), (2, _), (8, _), (10, _), (39, _), (40, _), (41, _), (46, _), (47, _)]) (fun ζ : Nat × (GS) × (Nat → Nat) × (Nat → Nat) × (XL.Own) => [(48, .int .i64 (ζ.1 : Nat))]) (fun ζ Hl own => ζ.1 ≤ x44.length ∧ (b24, .cells 59 (frC ζ.2.2.1 ((ζ.2.1).p))) :: po :: (ζ.2.2.2.2 ++ rest) = own ∧ (ζ.2.1 = rowG m.length out i x44 ζ.1 (allG m out (i))) ∧ (FI (m.length + wideM m) ζ.2.2.1 (ζ.2.1).Pl ζ.2.2.2.1) ∧ (S.Holds (ζ.2.1).l Hl ζ.2.2.2.2) ∧ (Acc (intR .i64) 3 Hl po ao co out)) (fun ζ => x44.length - ζ.1) (0, (allG m out (i)), u, d, oc) (prov_cons (rfl) (prov_cons (rfl) (prov_cons (rfl) (prov_cons (rfl) (prov_cons (rfl) (prov_cons (rfl) (prov_cons (rfl) (prov_cons (rfl) (prov_cons (rfl) (prov_cons (rfl) (prov_cons (rfl) prov_nil))))))))))) (by repeat (first | exact List.Sublist.refl _ | apply List.Sublist.cons_cons | apply List.Sublist.cons)) ⟨Nat.zero_le _, rfl, rfl, hF, hS, hacc⟩ ?_
      rintro ⟨j, s, u, d, oc⟩ Hl2 _ hle2 ⟨hkj, rfl, hs2, hF, hS, hacc⟩
      replace hs := hs.mono hle2
      replace hH := hH.mono hle2
      replace hp44 := hp44.mono hle2
      replace hd44 := hd44.mono hle2
      replace hle0 := hle0.trans hle2
      replace hle1 := hle1.trans hle2
      try dsimp only at hkj hs2 hF hS hacc ⊢
      refine XC.seq ?_
      refine XC.region ?_
      refine XO.lss rfl rfl rfl ?_
      refine XO.nil ?_
      refine XC.seq2 ?_
      refine XC.seq ?_
      refine XC.cond rfl (fun c2_6 => ?_) (fun c2_6 => ?_)
      · refine XC.skip ?_
        refine XC.seq2 ?_
        refine XC.seq ?_
        refine XC.block ?_
        refine XC.seq ?_
        refine XC.region ?_
        refine XO.move rfl rfl ?_
        refine XO.indexN rfl (by assumption) rfl Try.underlying40 ty_4 (by omega) rfl ?_
        rintro eb51 eo51 _ x51 hx51 rfl hp51
        refine XO.loadH rfl (by assumption) ty_4 rfl rfl rfl ?_
        refine XO.assign rfl rfl ?_
        refine XO.assign rfl rfl ?_
        refine XO.nil ?_
        refine XC.seq2 ?_
        refine XC.seq ?_
        refine XC.region ?_
        have hsp : -2000 ≤ s.p ∧ s.p ≤ 2000 := by rw [hs2]; exact gs_p hok hl hx44 (by omega)
        have hsl : s.l.length < 4000 := by rw [hs2]; exact gs_l hok hx44 (by omega)
        have hwx : x44.length = wideM m := (hok.2 _ (List.mem_of_getElem? hx44)).1
        refine XO.move rfl rfl ?_
        refine XO.move rfl rfl ?_
        refine XO.guardC rfl rfl rfl rfl (fun g8 => ?_) (fun g8 => ?_)
        · have g8p := g8
          refine XO.move rfl rfl ?_
          refine XO.guardT rfl rfl (g8) rfl ?_
          refine XO.move rfl rfl ?_
          refine XO.guardT rfl rfl (g8) rfl ?_
          refine XO.callF 1 rfl (containsO_fn po ao co out (j : Int) _ hacc (by omega)) rfl rfl ?_
          rintro _ HR57 _ hleR57 ⟨rfl, rfl⟩
          refine ⟨_, rfl, ?_⟩
          replace hs := hs.mono hleR57
          replace hH := hH.mono hleR57
          replace hp44 := hp44.mono hleR57
          replace hd44 := hd44.mono hleR57
          replace hS := hS.mono hleR57
          replace hacc := hacc.mono hleR57
          replace hp51 := hp51.mono hleR57
          replace hle0 := hle0.trans hleR57
          replace hle1 := hle1.trans hleR57
          replace hle2 := hle2.trans hleR57
          refine XO.guardT rfl rfl (g8) rfl ?_
          refine XO.not rfl rfl ?_
          refine XO.pickT rfl (g8) rfl rfl ?_
          refine XO.move rfl rfl ?_
          refine XO.guardC rfl rfl rfl rfl (fun g10 => ?_) (fun g10 => ?_)
          · have g10p := of_decide_eq_true g10
            refine XO.move rfl rfl ?_
            refine XO.guardT rfl rfl (g10) rfl ?_
            refine XO.move rfl rfl ?_
            refine XO.guardT rfl rfl (g10) rfl ?_
            refine XO.move rfl rfl ?_
            refine XO.guardT rfl rfl (g10) rfl ?_
            refine XO.lenS (ts := #[]) rfl Try.underlying22 rfl ?_
            refine XO.guardT rfl rfl (g10) rfl ?_
            refine XO.move rfl rfl ?_
            refine XO.guardT rfl rfl (g10) rfl ?_
            refine XO.add (c := ((m.length + j : Nat) : Int)) rfl rfl ((wrap_i64 (by omega) (by omega)).trans (by omega)) rfl ?_
            refine XO.guardT rfl rfl (g10) rfl ?_
            refine XO.callF 0 rfl (join_fn b24 (m.length + wideM m) u s.Pl d s.p _ hF (by omega) i (m.length + j) (by omega) (by omega) hsp) rfl rfl ?_
            rintro _ HR67 _ hleR67 ⟨rfl, u67, d67, hF67, rfl⟩
            refine ⟨_, rfl, ?_⟩
            replace hs := hs.mono hleR67
            replace hH := hH.mono hleR67
            replace hp44 := hp44.mono hleR67
            replace hd44 := hd44.mono hleR67
            replace hS := hS.mono hleR67
            replace hacc := hacc.mono hleR67
            replace hp51 := hp51.mono hleR67
            replace hle0 := hle0.trans hleR67
            replace hle1 := hle1.trans hleR67
            replace hle2 := hle2.trans hleR67
            refine XO.pickT rfl (g10) rfl rfl ?_
            refine XO.nil ?_
            refine XC.seq2 ?_
            refine XC.cond rfl (fun c3_13 => ?_) (fun c3_13 => ?_)
            · have hne : s.Pl i ≠ s.Pl (m.length + j) := by omega
              rw [if_neg hne]
              refine XC.region ?_
              refine XO.move rfl rfl ?_
              refine XO.move rfl rfl ?_
              refine XO.move rfl rfl ?_
              refine XO.buildArr Try.underlying41 ty_3 ze_41 rfl rfl rfl ?_
              refine XO.callVal [_, _] rfl trivial rfl (hcb s.l _ oc ((i : Int), (j : Int)) hH hsl hS) rfl rfl ?_
              rintro _ HC73 oc73 hleC73 hS73
              replace hs := hs.mono hleC73
              replace hH := hH.mono hleC73
              replace hp44 := hp44.mono hleC73
              replace hd44 := hd44.mono hleC73
              replace hS := hS.mono hleC73
              replace hacc := hacc.mono hleC73
              replace hp51 := hp51.mono hleC73
              replace hle0 := hle0.trans hleC73
              replace hle1 := hle1.trans hleC73
              replace hle2 := hle2.trans hleC73
              refine XO.nil ?_
              refine blockN ?_
              refine XC.seq2 ?_
              refine XC.region ?_
              refine XO.add rfl rfl (wrap_i64 (by omega) (by omega)) rfl ?_
              refine XO.move rfl rfl ?_
              refine XO.nil ?_
              refine loop_next ((j + 1, ⟨jnP s.Pl i (m.length + j), s.p - 1, s.l ++ [((i : Int), (j : Int))]⟩, u67, d67, oc73)) (by show x44.length - (j + 1) < x44.length - j; omega) (prov_cons (rfl) (prov_cons (rfl) (prov_cons (rfl) (prov_cons (rfl) (prov_cons (rfl) (prov_cons (rfl) (prov_cons (rfl) (prov_cons (rfl) (prov_cons (rfl) (prov_cons (rfl) (prov_cons (rfl) prov_nil))))))))))) (⟨by show j + 1 ≤ x44.length; omega, rfl, by first | exact ((row_succ hs2 hx51).trans (step_yes2 (by assumption) (by assumption) hne)).symm | exact ((row_succ hs2 hx51).trans (step_same he)).symm | exact ((row_succ hs2 hx51).trans (step_out (Decidable.not_not.1 (by assumption)))).symm | exact ((row_succ hs2 hx51).trans (step_off2 (by assumption))).symm, by assumption, by assumption, hacc⟩) (by repeat (first | exact List.Sublist.refl _ | apply List.Sublist.cons_cons | apply List.Sublist.cons)) (hle2)
            · have he : s.Pl i = s.Pl (m.length + j) := by omega
              rw [jnP, if_pos he] at hF67
              rw [if_pos he]
              refine XC.skip ?_
              refine blockN ?_
              refine XC.seq2 ?_
              refine XC.region ?_
              refine XO.add rfl rfl (wrap_i64 (by omega) (by omega)) rfl ?_
              refine XO.move rfl rfl ?_
              refine XO.nil ?_
              refine loop_next ((j + 1, s, u67, d67, oc)) (by show x44.length - (j + 1) < x44.length - j; omega) (prov_cons (rfl) (prov_cons (rfl) (prov_cons (rfl) (prov_cons (rfl) (prov_cons (rfl) (prov_cons (rfl) (prov_cons (rfl) (prov_cons (rfl) (prov_cons (rfl) (prov_cons (rfl) (prov_cons (rfl) prov_nil))))))))))) (⟨by show j + 1 ≤ x44.length; omega, rfl, by first | exact ((row_succ hs2 hx51).trans (step_yes2 (by assumption) (by assumption) hne)).symm | exact ((row_succ hs2 hx51).trans (step_same he)).symm | exact ((row_succ hs2 hx51).trans (step_out (Decidable.not_not.1 (by assumption)))).symm | exact ((row_succ hs2 hx51).trans (step_off2 (by assumption))).symm, by assumption, by assumption, hacc⟩) (by repeat (first | exact List.Sublist.refl _ | apply List.Sublist.cons_cons | apply List.Sublist.cons)) (hle2)
          · have g10p := of_decide_eq_false g10
            refine XO.guardF rfl rfl (g10) rfl rfl ?_
            refine XO.guardF rfl rfl (g10) rfl rfl ?_
            refine XO.guardF rfl rfl (g10) rfl rfl ?_
            refine XO.guardF rfl rfl (g10) rfl rfl ?_
            refine XO.guardF rfl rfl (g10) rfl rfl ?_
            refine XO.guardF rfl rfl (g10) rfl rfl ?_
            refine XO.pickF rfl (g10) rfl rfl ?_
            refine XO.nil ?_
            refine XC.seq2 ?_
            refine XC.condF rfl (rfl) ?_
            refine XC.skip ?_
            refine blockN ?_
            refine XC.seq2 ?_
            refine XC.region ?_
            refine XO.add rfl rfl (wrap_i64 (by omega) (by omega)) rfl ?_
            refine XO.move rfl rfl ?_
            refine XO.nil ?_
            refine loop_next ((j + 1, s, u, d, oc)) (by show x44.length - (j + 1) < x44.length - j; omega) (prov_cons (rfl) (prov_cons (rfl) (prov_cons (rfl) (prov_cons (rfl) (prov_cons (rfl) (prov_cons (rfl) (prov_cons (rfl) (prov_cons (rfl) (prov_cons (rfl) (prov_cons (rfl) (prov_cons (rfl) prov_nil))))))))))) (⟨by show j + 1 ≤ x44.length; omega, rfl, by first | exact ((row_succ hs2 hx51).trans (step_yes2 (by assumption) (by assumption) hne)).symm | exact ((row_succ hs2 hx51).trans (step_same he)).symm | exact ((row_succ hs2 hx51).trans (step_out (Decidable.not_not.1 (by assumption)))).symm | exact ((row_succ hs2 hx51).trans (step_off2 (by assumption))).symm, by assumption, by assumption, hacc⟩) (by repeat (first | exact List.Sublist.refl _ | apply List.Sublist.cons_cons | apply List.Sublist.cons)) (hle2)
        · have g8p := g8
          refine XO.guardF rfl rfl (g8) rfl rfl ?_
          refine XO.guardF rfl rfl (g8) rfl rfl ?_
          refine XO.guardF rfl rfl (g8) rfl rfl ?_
          refine XO.pickF rfl (g8) rfl rfl ?_
          refine XO.move rfl rfl ?_
          refine XO.guardF rfl rfl (rfl) rfl rfl ?_
          refine XO.guardF rfl rfl (rfl) rfl rfl ?_
          refine XO.guardF rfl rfl (rfl) rfl rfl ?_
          refine XO.guardF rfl rfl (rfl) rfl rfl ?_
          refine XO.guardF rfl rfl (rfl) rfl rfl ?_
          refine XO.guardF rfl rfl (rfl) rfl rfl ?_
          refine XO.guardF rfl rfl (rfl) rfl rfl ?_
          refine XO.pickF rfl (rfl) rfl rfl ?_
          refine XO.nil ?_
          refine XC.seq2 ?_
          refine XC.condF rfl (rfl) ?_
          refine XC.skip ?_
          refine blockN ?_
          refine XC.seq2 ?_
          refine XC.region ?_
          refine XO.add rfl rfl (wrap_i64 (by omega) (by omega)) rfl ?_
          refine XO.move rfl rfl ?_
          refine XO.nil ?_
          refine loop_next ((j + 1, s, u, d, oc)) (by show x44.length - (j + 1) < x44.length - j; omega) (prov_cons (rfl) (prov_cons (rfl) (prov_cons (rfl) (prov_cons (rfl) (prov_cons (rfl) (prov_cons (rfl) (prov_cons (rfl) (prov_cons (rfl) (prov_cons (rfl) (prov_cons (rfl) (prov_cons (rfl) prov_nil))))))))))) (⟨by show j + 1 ≤ x44.length; omega, rfl, by first | exact ((row_succ hs2 hx51).trans (step_yes2 (by assumption) (by assumption) hne)).symm | exact ((row_succ hs2 hx51).trans (step_same he)).symm | exact ((row_succ hs2 hx51).trans (step_out (Decidable.not_not.1 (by assumption)))).symm | exact ((row_succ hs2 hx51).trans (step_off2 (by assumption))).symm, by assumption, by assumption, hacc⟩) (by repeat (first | exact List.Sublist.refl _ | apply List.Sublist.cons_cons | apply List.Sublist.cons)) (hle2)
      · obtain rfl : j = x44.length := by omega
        rw [← all_succ hx44] at hs2
        subst hs2
        refine XC.exit ?_
        refine seqX_exit ?_
        refine loopX_exit ?_
        refine blockHit rfl ?_
        refine blockN ?_
        refine XC.seq2 ?_
        refine XC.region ?_
        refine XO.add rfl rfl (wrap_i64 (by omega) (by omega)) rfl ?_
        refine XO.move rfl rfl ?_
        refine XO.nil ?_
        refine loop_next ((i + 1, u, d, oc)) (by show m.length - (i + 1) < m.length - i; omega) (prov_cons (rfl) (prov_cons (rfl) (prov_cons (rfl) (prov_cons (rfl) (prov_cons (rfl) (prov_cons (rfl) (prov_cons (rfl) prov_nil))))))) (⟨by show i + 1 ≤ m.length; omega, rfl, hF, hS, hacc⟩) (by repeat (first | exact List.Sublist.refl _ | apply List.Sublist.cons_cons | apply List.Sublist.cons)) (hle1)
    · obtain rfl : i = m.length := by omega
      refine XC.exit ?_
      refine seqX_exit ?_
      refine loopX_exit ?_
      refine blockHit rfl ?_
      refine XC.seq2 ?_
      refine XC.seq ?_
      refine XC.region ?_
      refine XO.move rfl rfl ?_
      refine XO.assign rfl rfl ?_
      refine XO.nil ?_
      refine XC.seq2 ?_
      refine XC.ret ?_
      refine ⟨rfl, _, (_ :: _ :: oc), rfl, (by repeat (first | exact List.Sublist.refl _ | apply List.Sublist.cons)), RetR.mk ?_⟩
      exact ⟨_, _, _, _, rfl, hF, hS, rfl⟩

theorem nop34_fn (x : Int × Int) (H : Hp) : FnC Try.prog 34 #[.agg ⟨[.int .i64 x.1, .int .i64 x.2]⟩] H [] (RetR (fun v _ own => v = .tuple #[] ∧ own = [])) := by
  refine FnC.intro (args := [.agg ⟨[.int .i64 x.1, .int .i64 x.2]⟩]) Try.func34 rfl rfl Try.ntmps34 rfl rfl rfl fun G rest => ?_
  refine XC.region ?_
  refine XO.box rfl rfl rfl (fun b1 => ?_)
  refine XO.nil ?_
  refine ⟨rfl, _, [], rfl, (by repeat (first | exact List.Sublist.refl _ | apply List.Sublist.cons)), RetR.mk ?_⟩
  exact ⟨rfl, rfl⟩
theorem nop34_cb (H : Hp) : CbOk Try.prog nopS (.func (.func 34) #[] #[]) H := by
  intro l H' oc x _ _ hS
  obtain rfl : oc = [] := hS
  refine (FnV.of_fn (cap := []) (args := [.agg ⟨[.int .i64 x.1, .int .i64 x.2]⟩]) (nop34_fn x H')).mono ?_
  intro e _ _ _ h
  cases e with
  | returned v => exact h.2
  | panicked _ => exact h.elim
  | outgrown => exact h.elim

theorem nop41_fn (x : Int × Int) (H : Hp) : FnC Try.prog 41 #[.agg ⟨[.int .i64 x.1, .int .i64 x.2]⟩] H [] (RetR (fun v _ own => v = .tuple #[] ∧ own = [])) := by
  refine FnC.intro (args := [.agg ⟨[.int .i64 x.1, .int .i64 x.2]⟩]) Try.func41 rfl rfl Try.ntmps41 rfl rfl rfl fun G rest => ?_
  refine XC.region ?_
  refine XO.box rfl rfl rfl (fun b1 => ?_)
  refine XO.nil ?_
  refine ⟨rfl, _, [], rfl, (by repeat (first | exact List.Sublist.refl _ | apply List.Sublist.cons)), RetR.mk ?_⟩
  exact ⟨rfl, rfl⟩
theorem nop41_cb (H : Hp) : CbOk Try.prog nopS (.func (.func 41) #[] #[]) H := by
  intro l H' oc x _ _ hS
  obtain rfl : oc = [] := hS
  refine (FnV.of_fn (cap := []) (args := [.agg ⟨[.int .i64 x.1, .int .i64 x.2]⟩]) (nop41_fn x H')).mono ?_
  intro e _ _ _ h
  cases e with
  | returned v => exact h.2
  | panicked _ => exact h.elim
  | outgrown => exact h.elim

theorem add_fn (bm : Nat) (pa : Nat × SObj) (a : Option Addr) (c : Nat) (l : List (Int × Int)) (x : Int × Int) (H : Hp) (hacc : Acc pairR 41 H pa a c l) (hl : l.length < 4000) : FnC Try.prog 31 #[.pointer (some ⟨bm, 0, none⟩), .agg ⟨[.int .i64 x.1, .int .i64 x.2]⟩] H [pa, (bm, .cells 53 [.slice a l.length c])] (RetR (fun _ H' own => ∃ pa2 a2 c2, own = [pa2, (bm, .cells 53 [.slice a2 (l ++ [x]).length c2])] ∧ Acc pairR 41 H' pa2 a2 c2 (l ++ [x]))) := by
  refine FnC.intro (args := [.pointer (some ⟨bm, 0, none⟩), .agg ⟨[.int .i64 x.1, .int .i64 x.2]⟩]) Try.func31 rfl rfl Try.ntmps31 rfl rfl rfl fun G rest => ?_
  refine XC.seq ?_
  refine XC.region ?_
  refine XO.box rfl rfl rfl (fun b3 => ?_)
  refine XO.perm (List.Perm.swap _ _ _) ?_
  refine XO.nil ?_
  refine XC.seq2 ?_
  refine XC.keep [0, 3] rfl ?_
  apply XC.drawV (fun _ => True) trivial 7 (fun p H => Acc pairR 41 H p a c l) (fun v p H => ∃ a2 c2, v = .slice a2 (l ++ [x]).length c2 ∧ Acc pairR 41 H p a2 c2 (l ++ [x])) (fun _ _ _ hle h => h.mono hle) (fun _ _ _ _ hle ⟨a2, c2, h1, h2⟩ => ⟨a2, c2, h1, h2.mono hle⟩) 8 [eqF _, eqF _, eqF _, eqF _, eqF _, eqF _, slF pairR [x], anyF] follows (by kernel_rfl) ⟨eqF_mono _, eqF_mono _, eqF_mono _, eqF_mono _, eqF_mono _, eqF_mono _, slF_mono _ _, anyF_mono, trivial⟩ rfl rfl (hacc) ?steps1 ?tail1
  case steps1 =>
    refine stepsV_cons rfl ?_ ?_
    · intro X e HD hleD _ hfa
      refine withP_nil rfl ?_
      refine XO.move rfl rfl ?_
      refine XO.nil ?_
      exact stepQV_ok trivial (rfl) (by unfold foV; rw [if_neg (by decide)])
    refine stepsV_cons rfl ?_ ?_
    · intro X e HD hleD _ hfa
      refine withP_nil rfl ?_
      refine XO.move rfl rfl ?_
      refine XO.nil ?_
      exact stepQV_ok trivial (rfl) (by unfold foV; rw [if_neg (by decide)])
    refine stepsV_cons rfl ?_ ?_
    · intro X e HD hleD _ hfa
      refine withP_cons rfl rfl ?_
      rintro _ rfl
      refine withP_nil rfl ?_
      refine XO.nilCheckP rfl rfl ?_
      refine XO.nil ?_
      exact stepQV_ok trivial (rfl) (by unfold foV; rw [if_neg (by decide)])
    refine stepsV_cons rfl ?_ ?_
    · intro X e HD hleD _ hfa
      refine withP_cons rfl rfl ?_
      rintro _ rfl
      refine withP_nil rfl ?_
      refine XO.fieldAddr rfl fa_53_0 rfl ?_
      refine XO.nil ?_
      exact stepQV_ok trivial (rfl) (by unfold foV; rw [if_neg (by decide)])
    refine stepsV_cons rfl ?_ ?_
    · intro X e HD hleD _ hfa
      refine withP_cons rfl rfl ?_
      rintro _ rfl
      refine withP_nil rfl ?_
      refine XO.loadO 2 rfl rfl ty_25 rfl rfl rfl ?_
      refine XO.nil ?_
      exact stepQV_ok trivial (rfl) (by unfold foV; rw [if_neg (by decide)])
    refine stepsV_cons rfl ?_ ?_
    · intro X e HD hleD _ hfa
      refine withP_nil rfl ?_
      refine XO.loadO 1 rfl rfl ty_41 rfl rfl rfl ?_
      refine XO.nil ?_
      exact stepQV_ok trivial (rfl) (by unfold foV; rw [if_neg (by decide)])
    refine stepsV_cons rfl ?_ ?_
    · intro X e HD hleD _ hfa
      refine withP_cons rfl rfl ?_
      rintro _ rfl
      refine withP_nil rfl ?_
      refine XO.buildSlice rfl Try.underlying25 ty_41 ze_41 rfl rfl rfl (fun b10 => ?_)
      refine XO.publish 0 rfl rfl rfl (fun HP10 oP10 hleP10 hbP10 hoP10 => ?_)
      have hsl10 := SlR.lit (ρ := pairR) (l := [x]) hbP10 hoP10 (RowsR.one1 rfl)
      refine XO.nil ?_
      exact stepQV_ok trivial (⟨_, rfl, hsl10⟩) (by unfold foV; rw [if_neg (by decide)])
    refine stepsV_cons rfl ?_ ?_
    · intro X e HD hleD _ hfa
      refine withP_cons rfl rfl ?_
      rintro _ rfl
      refine withP_cons rfl rfl ?_
      rintro _ ⟨bs10, rfl, hsl10⟩
      refine withP_nil rfl ?_
      have hfa := hfa rfl
      skip
      refine XO.appendA 0 rfl rfl hfa rfl rfl hsl10 rfl Try.underlying25 ty_41 ze_41 rfl by_41 (by simp; omega) rfl (fun p11 a11 c11 hacc11 => ?_)
      refine XO.nil ?_
      exact stepQV_ok trivial (trivial) (by unfold foV; rw [if_pos rfl]; exact ⟨_, _, rfl, hacc11⟩)
    exact stepsV_end rfl
  case tail1 =>
    intro HD hleD _
    refine withP_cons rfl rfl ?_
    rintro _ rfl
    refine withP_cons rfl rfl ?_
    rintro _ rfl
    refine withP_cons rfl rfl ?_
    rintro _ rfl
    refine withP_cons rfl rfl ?_
    rintro _ rfl
    refine withP_cons rfl rfl ?_
    rintro _ rfl
    refine withP_cons rfl rfl ?_
    rintro _ rfl
    refine withP_cons rfl rfl ?_
    rintro _ ⟨bs10, rfl, hsl10⟩
    refine withP_cons rfl rfl ?_
    rintro _ _
    refine withP_nil rfl ?_
    intro e he
    obtain ⟨a2, c2, hv2, hacc2⟩ := he _ rfl
    subst hv2
    refine XO.nilCheckP rfl rfl ?_
    refine XO.fieldAddr rfl fa_53_0 rfl ?_
    refine XO.storeO 2 rfl rfl rfl rfl ty_25 rfl rfl rfl rfl rfl ?_
    refine XO.nil ?_
    refine ⟨rfl, _, [e, (bm, .cells 53 [.slice a2 (l ++ [x]).length c2])], rfl, (by repeat (first | exact List.Sublist.refl _ | apply List.Sublist.cons_cons | apply List.Sublist.cons)), RetR.mk ?_⟩
    exact ⟨_, _, _, rfl, hacc2⟩
theorem add_cb (bm : Nat) (H : Hp) : CbOk Try.prog (addS bm) (.func (.func 31) #[.pointer (some ⟨bm, 0, none⟩)] #[]) H := by
  intro l H' oc x _ hl hS
  obtain ⟨pa, a, c, rfl, hacc⟩ := hS
  refine (FnV.of_first (fst := [.pointer (some ⟨bm, 0, none⟩)]) (args := [.agg ⟨[.int .i64 x.1, .int .i64 x.2]⟩]) (cap := []) (add_fn bm pa a c l x H' hacc hl)).mono ?_
  intro e _ _ _ h
  cases e with
  | returned v => obtain ⟨pa2, a2, c2, h1, h2⟩ := h; exact ⟨pa2, a2, c2, h1, h2⟩
  | panicked _ => exact h.elim
  | outgrown => exact h.elim

end Go.Proofs
