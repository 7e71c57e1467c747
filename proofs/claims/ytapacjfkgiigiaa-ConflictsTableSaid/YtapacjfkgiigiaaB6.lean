/- The walks of the functions of conflicts: what each of them computes, at any input. -/
import Derived.Test.YtapacjfkgiigiaaB5
import Derived.Test.YtapacjfkgiigiaaB3
set_option autoImplicit false
set_option linter.unusedVariables false
set_option linter.unusedSimpArgs false
namespace Go.Proofs
open Go.XL



set_option maxRecDepth 100000 in
set_option maxHeartbeats 1600000 in
theorem ext_all (l : Fs) (x y : Int) (many : Nat) (hl : l.length ≤ 2000) (hmn : many ≤ 2000) : ∀ (d : Nat) (p : List Int) (a ap : Option Addr) (c cp : Nat) (H : Hp), p.length + d = many → SlR faR H a c l → SlR (intR .i64) H ap cp p →
 FnC Try.prog 30 #[.slice a l.length c, .int .i64 x, .int .i64 y, .slice ap p.length cp, .int .i64 (many : Nat)] H [] (RetR fun v H2 _ => ExtU (extF l x y many d p) H2 v) := by
 intro d
 refine Nat.strongRecOn d ?_
 clear d
 intro d ih p a ap c cp H hd hs hp
 refine FnC.intro (args := [.slice a l.length c, .int .i64 x, .int .i64 y, .slice ap p.length cp, .int .i64 (many : Nat)]) Try.func30 rfl rfl Try.ntmps30 rfl rfl rfl fun G rest => ?_
 refine XC.seq ?_; refine XC.region ?_; refine XO.assign rfl rfl ?_; refine XO.assign rfl rfl ?_; refine XO.nil ?_; refine XC.seq2 ?_; refine XC.seq ?_; refine XC.seq ?_; refine XC.region ?_; refine XO.move rfl rfl ?_; refine XO.lenS (ts := #[]) rfl Try.underlying25 rfl ?_; refine XO.move rfl rfl ?_; refine XO.eql rfl rfl rfl ?_; refine XO.nil ?_; refine XC.seq2 ?_; refine XC.cond rfl (fun c0_1 => ?_) (fun c0_1 => ?_)
 ·obtain rfl : d = 0 := by omega
  refine XC.seq ?_; refine XC.region ?_; refine XO.move rfl rfl ?_; refine XO.move rfl rfl ?_; refine XO.move rfl rfl ?_; refine XO.move rfl rfl ?_; refine XO.move rfl rfl ?_; refine XO.callV rfl (proves_fn _ _ _ _ l p x y _ hs hp (by omega) (by omega)) rfl ?_; refine XO.assign rfl rfl ?_; refine XO.assign rfl rfl ?_; refine XO.nil ?_; refine XC.seq2 ?_; refine XC.ret ?_; refine seqX_ret ?_; refine ⟨rfl, _, [], rfl, (by repeat (first | exact List.Sublist.refl _ | apply List.Sublist.cons_cons | apply List.Sublist.cons)), RetR.mk ?_⟩
  first | exact ExtU.of rfl hp | exact ExtU.of (ext_y hno hxX (extG_y (fun h => by first | omega | exact h.2.elim (fun h2 => by omega) (by assumption)) (by assumption))) (by assumption) | exact ExtU.of (ext_n hno) (SlR.nil0 _ _)
 ·obtain ⟨d, rfl⟩ : ∃ q, d = q + 1 := ⟨d - 1, by omega⟩
  refine XC.skip ?_; refine XC.seq2 ?_; refine XC.seq ?_; refine XC.seq ?_; refine XC.region ?_; refine XO.assign rfl rfl ?_; refine XO.nil ?_; refine XC.seq2 ?_; refine XC.block ?_; refine XC.keep [12, 0, 1, 2, 3, 4] rfl ?_; refine XC.loop (base := [(0, _), (1, _), (2, _), (3, _), (4, _)]) (fun ζ : Nat => [(12, .int .i64 (ζ : Nat))]) (fun ζ Hl own => ζ ≤ l.length ∧ rest = own ∧ (∀ g ∈ l.take (ζ), extG l x y many d p g = none)) (fun ζ => l.length - ζ) 0 (prov_cons (rfl) (prov_cons (rfl) (prov_cons (rfl) (prov_cons (rfl) (prov_cons (rfl) (prov_cons (rfl) prov_nil)))))) (by repeat (first | exact List.Sublist.refl _ | apply List.Sublist.cons_cons | apply List.Sublist.cons)) ⟨Nat.zero_le _, rfl, by simp⟩ ?_; rintro k Hl0 _ hle0 ⟨hkk, rfl, hno⟩; replace hs := hs.mono hle0; replace hp := hp.mono hle0
  try dsimp only at ⊢
  refine XC.seq ?_; refine XC.seq ?_; refine XC.region ?_; refine XO.move rfl rfl ?_; refine XO.move rfl rfl ?_; refine XO.lenS (ts := #[]) rfl Try.underlying22 rfl ?_; refine XO.lss rfl rfl rfl ?_; refine XO.nil ?_; refine XC.seq2 ?_; refine XC.cond rfl (fun c1_3 => ?_) (fun c1_3 => ?_)
  ·obtain ⟨xX, hxX⟩ : ∃ x, l[k]? = some x := ⟨_, List.getElem?_eq_getElem (by omega)⟩
   refine XC.skip ?_; refine XC.seq2 ?_; refine XC.seq ?_; refine XC.block ?_; refine XC.seq ?_; refine XC.seq ?_; refine XC.region ?_; refine XO.move rfl rfl ?_; refine XO.gtr rfl rfl rfl ?_; refine XO.move rfl rfl ?_; refine XO.guardC rfl rfl rfl rfl (fun g4 => ?_) (fun g4 => ?_)
   ·have g4p := of_decide_eq_true g4
    refine XO.move rfl rfl ?_; refine XO.guardT rfl rfl (g4) rfl ?_; refine XO.move rfl rfl ?_; refine XO.guardT rfl rfl (g4) rfl ?_; refine XO.indexN rfl hs rfl Try.underlying22 ty_41 (by omega) rfl ?_; rintro eb36 eo36 _ x36 hx36 rfl hp36; obtain rfl := Option.some.inj (hxX.symm.trans hx36); refine XO.guardT rfl rfl (g4) rfl ?_; refine XO.fieldAddr rfl fa_41_1 rfl ?_; refine XO.guardT rfl rfl (g4) rfl ?_; refine XO.loadHF rfl (by assumption) ty_3 rfl rfl rfl ?_; refine XO.guardT rfl rfl (g4) rfl ?_; refine XO.neq rfl rfl rfl ?_; refine XO.guardT rfl rfl (g4) rfl ?_; refine XO.move rfl rfl ?_; refine XO.guardC rfl rfl rfl rfl (fun g6 => ?_) (fun g6 => ?_)
    ·have g6p := of_decide_eq_false g6
     refine XO.move rfl rfl ?_; refine XO.guardT rfl rfl (g6) rfl ?_; refine XO.move rfl rfl ?_; refine XO.guardT rfl rfl (g6) rfl ?_; refine XO.move rfl rfl ?_; refine XO.guardT rfl rfl (g6) rfl ?_; refine XO.indexN rfl hs rfl Try.underlying22 ty_41 (by omega) rfl ?_; rintro eb44 eo44 _ x44 hx44 rfl hp44; obtain rfl := Option.some.inj (hxX.symm.trans hx44); refine XO.guardT rfl rfl (g6) rfl ?_; refine XO.fieldAddr rfl fa_41_0 rfl ?_; refine XO.guardT rfl rfl (g6) rfl ?_; refine XO.loadHF rfl (by assumption) ty_3 rfl rfl rfl ?_; refine XO.guardT rfl rfl (g6) rfl ?_; refine XO.callV rfl (has_fn _ _ p _ hp (by omega) xX.No) rfl ?_; refine XO.guardT rfl rfl (g4) rfl ?_; refine XO.pickF rfl (g6) rfl rfl ?_; refine XO.pickT rfl (g4) rfl rfl ?_; refine XO.nil ?_; refine XC.seq2 ?_; refine XC.cond rfl (fun c2_9 => ?_) (fun c2_9 => ?_)
     ·refine XC.exit ?_; refine seqX_exit ?_; refine blockHit rfl ?_; refine XC.seq2 ?_; refine XC.region ?_; refine XO.move rfl rfl ?_; refine XO.add rfl rfl (wrap_i64 (by omega) (by omega)) rfl ?_; refine XO.assign rfl rfl ?_; refine XO.nil ?_; refine loop_next (k + 1) (by show l.length - (k + 1) < l.length - k; omega) (prov_cons (rfl) (prov_cons (rfl) (prov_cons (rfl) (prov_cons (rfl) (prov_cons (rfl) (prov_cons (rfl) prov_nil)))))) (⟨by show k + 1 ≤ l.length; omega, rfl, all_snocP (p := fun g => extG l x y many d p g = none) hno hxX (by first | exact extG_skip (by omega) (Or.inl (by omega)) | exact extG_skip (by omega) (Or.inr (by assumption)) | exact extG_n (by assumption))⟩) (by repeat (first | exact List.Sublist.refl _ | apply List.Sublist.cons_cons | apply List.Sublist.cons)) (hle0)
     ·refine XC.skip ?_; refine XC.seq2 ?_; refine XC.seq ?_
      by_cases hq0 : p = []
      ·skip
       refine XC.keep [0, 1, 2, 3, 4, 12] rfl ?_; obtain ⟨bEY, oEY, rfl⟩ := hs.addr (by omega); obtain ⟨_, xY, hxY, rfl, hpY⟩ := hs.elem (k) (by omega); obtain rfl := Option.some.inj (hxX.symm.trans hxY)
       apply XC.drawG (fun _ => True) trivial 19 [eqF _, eqF _, eqF _, slCap (intR .i64) [], eqF _, slCap (intR .i64) p, eqF _, eqF _, eqF _, eqF _, eqF _, slF (intR .i64) [xX.No], slG (intR .i64) (p ++ [xX.No]), eqF _, fun v H => ExtU (extF l x y many d (p ++ [xX.No])) H v, fun v H => ExtU (extF l x y many d (p ++ [xX.No])) H v, slG (intR .i64) (extF l x y many d (p ++ [xX.No])).1, eqF _, slG (intR .i64) (extF l x y many d (p ++ [xX.No])).1] follows (by kernel_rfl) (by kernel_rfl) ⟨eqF_mono _, eqF_mono _, eqF_mono _, slCap_mono _ _, eqF_mono _, slCap_mono _ _, eqF_mono _, eqF_mono _, eqF_mono _, eqF_mono _, eqF_mono _, slF_mono _ _, slG_mono _ _, eqF_mono _, fun _ _ _ hle ⟨a, c, h1, h2⟩ => ⟨a, c, h1, h2.mono hle⟩, fun _ _ _ hle ⟨a, c, h1, h2⟩ => ⟨a, c, h1, h2.mono hle⟩, slG_mono _ _, eqF_mono _, slG_mono _ _, trivial⟩ ?steps10 ?tail10
       case steps10 =>
        refine stepsD_cons rfl ?_ ?_
        ·intro X HD hleD _
         replace hs := hs.mono hleD; replace hp := hp.mono hleD; replace hp36 := hp36.mono hleD; replace hp44 := hp44.mono hleD; replace hpY := hpY.mono hleD; replace hle0 := hle0.trans hleD; refine withPreds_nil rfl ?_; refine XO.move rfl rfl ?_; refine XO.nil ?_
         exact stepQ_ok trivial (rfl)
        refine stepsD_cons rfl ?_ ?_
        ·intro X HD hleD _
         replace hs := hs.mono hleD; replace hp := hp.mono hleD; replace hp36 := hp36.mono hleD; replace hp44 := hp44.mono hleD; replace hpY := hpY.mono hleD; replace hle0 := hle0.trans hleD; refine withPreds_nil rfl ?_; refine XO.move rfl rfl ?_; refine XO.nil ?_
         exact stepQ_ok trivial (rfl)
        refine stepsD_cons rfl ?_ ?_
        ·intro X HD hleD _
         replace hs := hs.mono hleD; replace hp := hp.mono hleD; replace hp36 := hp36.mono hleD; replace hp44 := hp44.mono hleD; replace hpY := hpY.mono hleD; replace hle0 := hle0.trans hleD; refine withPreds_nil rfl ?_; refine XO.move rfl rfl ?_; refine XO.nil ?_
         exact stepQ_ok trivial (rfl)
        refine stepsD_cons rfl ?_ ?_
        ·intro X HD hleD _
         replace hs := hs.mono hleD; replace hp := hp.mono hleD; replace hp36 := hp36.mono hleD; replace hp44 := hp44.mono hleD; replace hpY := hpY.mono hleD; replace hle0 := hle0.trans hleD; refine withPreds_nil rfl ?_; refine XO.buildSlice rfl Try.underlying25 ty_3 ze_3 rfl rfl rfl (fun b54 => ?_); refine XO.publish 0 rfl rfl rfl (fun HP54 oP54 hleP54 hbP54 hoP54 => ?_)
         have hsl54 := SlR.lit (ρ := (intR .i64)) (l := ([] : List Int)) hbP54 hoP54 rfl
         replace hs := hs.mono hleP54; replace hp := hp.mono hleP54; replace hp36 := hp36.mono hleP54; replace hp44 := hp44.mono hleP54; replace hpY := hpY.mono hleP54; replace hle0 := hle0.trans hleP54; refine XO.nil ?_
         exact stepQ_ok trivial (⟨_, _, rfl, hsl54, by simp⟩)
        refine stepsD_cons rfl ?_ ?_
        ·intro X HD hleD _
         replace hs := hs.mono hleD; replace hp := hp.mono hleD; replace hp36 := hp36.mono hleD; replace hp44 := hp44.mono hleD; replace hpY := hpY.mono hleD; replace hle0 := hle0.trans hleD; refine withPreds_nil rfl ?_; refine XO.move rfl rfl ?_; refine XO.nil ?_
         exact stepQ_ok trivial (rfl)
        refine stepsD_cons rfl ?_ ?_
        ·intro X HD hleD _
         replace hs := hs.mono hleD; replace hp := hp.mono hleD; replace hp36 := hp36.mono hleD; replace hp44 := hp44.mono hleD; replace hpY := hpY.mono hleD; replace hle0 := hle0.trans hleD; refine withPreds_cons rfl rfl ?_; rintro _ ⟨a54, c54, rfl, hsl54, hcap54⟩; refine withPreds_cons rfl rfl ?_; rintro _ rfl; refine withPreds_nil rfl ?_; refine XO.append0 rfl rfl (by rw [hq0]; rfl) hsl54.le Try.underlying25 ty_3 rfl ?_; refine XO.nil ?_
         exact stepQ_ok trivial (⟨_, _, by first | (rw [hq0]; done) | (rw [hq0]; rfl), by rw [hq0]; exact hsl54, by rw [hq0]; exact hcap54⟩)
        refine stepsD_cons rfl ?_ ?_
        ·intro X HD hleD _
         replace hs := hs.mono hleD; replace hp := hp.mono hleD; replace hp36 := hp36.mono hleD; replace hp44 := hp44.mono hleD; replace hpY := hpY.mono hleD; replace hle0 := hle0.trans hleD; refine withPreds_nil rfl ?_; refine XO.move rfl rfl ?_; refine XO.nil ?_
         exact stepQ_ok trivial (rfl)
        refine stepsD_cons rfl ?_ ?_
        ·intro X HD hleD _
         replace hs := hs.mono hleD; replace hp := hp.mono hleD; replace hp36 := hp36.mono hleD; replace hp44 := hp44.mono hleD; replace hpY := hpY.mono hleD; replace hle0 := hle0.trans hleD; refine withPreds_nil rfl ?_; refine XO.move rfl rfl ?_; refine XO.nil ?_
         exact stepQ_ok trivial (rfl)
        refine stepsD_cons rfl ?_ ?_
        ·intro X HD hleD _
         replace hs := hs.mono hleD; replace hp := hp.mono hleD; replace hp36 := hp36.mono hleD; replace hp44 := hp44.mono hleD; replace hpY := hpY.mono hleD; replace hle0 := hle0.trans hleD; refine withPreds_cons rfl rfl ?_; rintro _ rfl; refine withPreds_cons rfl rfl ?_; rintro _ rfl; refine withPreds_nil rfl ?_; refine XO.indexE rfl rfl Try.underlying22 ty_41 (by omega) (by omega) rfl ?_; refine XO.nil ?_
         exact stepQ_ok trivial (rfl)
        refine stepsD_cons rfl ?_ ?_
        ·intro X HD hleD _
         replace hs := hs.mono hleD; replace hp := hp.mono hleD; replace hp36 := hp36.mono hleD; replace hp44 := hp44.mono hleD; replace hpY := hpY.mono hleD; replace hle0 := hle0.trans hleD; refine withPreds_cons rfl rfl ?_; rintro _ rfl; refine withPreds_nil rfl ?_; refine XO.fieldAddr rfl fa_41_0 rfl ?_; refine XO.nil ?_
         exact stepQ_ok trivial (rfl)
        refine stepsD_cons rfl ?_ ?_
        ·intro X HD hleD _
         replace hs := hs.mono hleD; replace hp := hp.mono hleD; replace hp36 := hp36.mono hleD; replace hp44 := hp44.mono hleD; replace hpY := hpY.mono hleD; replace hle0 := hle0.trans hleD; refine withPreds_cons rfl rfl ?_; rintro _ rfl; refine withPreds_nil rfl ?_; refine XO.loadHF rfl (by assumption) ty_3 rfl rfl rfl ?_; refine XO.nil ?_
         exact stepQ_ok trivial (rfl)
        refine stepsD_cons rfl ?_ ?_
        ·intro X HD hleD _
         replace hs := hs.mono hleD; replace hp := hp.mono hleD; replace hp36 := hp36.mono hleD; replace hp44 := hp44.mono hleD; replace hpY := hpY.mono hleD; replace hle0 := hle0.trans hleD; refine withPreds_cons rfl rfl ?_; rintro _ rfl; refine withPreds_nil rfl ?_; refine XO.buildSlice rfl Try.underlying25 ty_3 ze_3 rfl rfl rfl (fun b62 => ?_); refine XO.publish 0 rfl rfl rfl (fun HP62 oP62 hleP62 hbP62 hoP62 => ?_)
         have hsl62 := SlR.lit (ρ := (intR .i64)) (l := [xX.No]) hbP62 hoP62 (RowsR.one1 rfl)
         replace hs := hs.mono hleP62; replace hp := hp.mono hleP62; replace hp36 := hp36.mono hleP62; replace hp44 := hp44.mono hleP62; replace hpY := hpY.mono hleP62; replace hle0 := hle0.trans hleP62; refine XO.nil ?_
         exact stepQ_ok trivial (⟨_, rfl, hsl62⟩)
        refine stepsD_cons rfl ?_ ?_
        ·intro X HD hleD _
         replace hs := hs.mono hleD; replace hp := hp.mono hleD; replace hp36 := hp36.mono hleD; replace hp44 := hp44.mono hleD; replace hpY := hpY.mono hleD; replace hle0 := hle0.trans hleD; refine withPreds_cons rfl rfl ?_; rintro _ ⟨a56, c56, rfl, hsl56, hcap56⟩; refine withPreds_cons rfl rfl ?_; rintro _ ⟨bs62, rfl, hsl62⟩; refine withPreds_nil rfl ?_; refine XO.appendP rfl hsl56 rfl rfl hsl62 rfl (by exact hcap56) Try.underlying25 ty_3 ze_3 rfl by_3 (by simp; omega) rfl (fun HA63 aA63 cA63 hleA63 hsA63 => ?_); replace hs := hs.mono hleA63; replace hp := hp.mono hleA63; replace hp36 := hp36.mono hleA63; replace hp44 := hp44.mono hleA63; replace hpY := hpY.mono hleA63; replace hsl56 := hsl56.mono hleA63; replace hsl62 := hsl62.mono hleA63; replace hle0 := hle0.trans hleA63; refine XO.nil ?_
         exact stepQ_ok trivial (⟨_, _, rfl, hsA63⟩)
        refine stepsD_cons rfl ?_ ?_
        ·intro X HD hleD _
         replace hs := hs.mono hleD; replace hp := hp.mono hleD; replace hp36 := hp36.mono hleD; replace hp44 := hp44.mono hleD; replace hpY := hpY.mono hleD; replace hle0 := hle0.trans hleD; refine withPreds_nil rfl ?_; refine XO.move rfl rfl ?_; refine XO.nil ?_
         exact stepQ_ok trivial (rfl)
        refine stepsD_cons rfl ?_ ?_
        ·intro X HD hleD _
         replace hs := hs.mono hleD; replace hp := hp.mono hleD; replace hp36 := hp36.mono hleD; replace hp44 := hp44.mono hleD; replace hpY := hpY.mono hleD; replace hle0 := hle0.trans hleD; refine withPreds_cons rfl rfl ?_; rintro _ rfl; refine withPreds_cons rfl rfl ?_; rintro _ rfl; refine withPreds_cons rfl rfl ?_; rintro _ rfl; refine withPreds_cons rfl rfl ?_; rintro _ ⟨a63, c63, rfl, hsl63⟩; refine withPreds_cons rfl rfl ?_; rintro _ rfl; refine withPreds_nil rfl ?_
         have hcall := ih d (by omega) (p ++ [xX.No]) _ _ _ _ _ (by simp; omega) hs hsl63
         refine XO.callH rfl hcall rfl ?_; rintro _ HF hleF ⟨aF, cF, rfl, hF⟩; replace hs := hs.mono hleF; replace hp := hp.mono hleF; replace hp36 := hp36.mono hleF; replace hp44 := hp44.mono hleF; replace hpY := hpY.mono hleF; replace hsl63 := hsl63.mono hleF; replace hle0 := hle0.trans hleF; refine XO.nil ?_
         exact stepQ_ok trivial (⟨_, _, rfl, hF⟩)
        refine stepsD_cons rfl ?_ ?_
        ·intro X HD hleD _
         replace hs := hs.mono hleD; replace hp := hp.mono hleD; replace hp36 := hp36.mono hleD; replace hp44 := hp44.mono hleD; replace hpY := hpY.mono hleD; replace hle0 := hle0.trans hleD; refine withPreds_cons rfl rfl ?_; rintro _ ⟨aF, cF, rfl, hF⟩; refine withPreds_nil rfl ?_; refine XO.move rfl rfl ?_; refine XO.nil ?_
         exact stepQ_ok trivial (⟨_, _, rfl, hF⟩)
        refine stepsD_cons rfl ?_ ?_
        ·intro X HD hleD _
         replace hs := hs.mono hleD; replace hp := hp.mono hleD; replace hp36 := hp36.mono hleD; replace hp44 := hp44.mono hleD; replace hpY := hpY.mono hleD; replace hle0 := hle0.trans hleD; refine withPreds_cons rfl rfl ?_; rintro _ ⟨aG, cG, rfl, hG⟩; refine withPreds_nil rfl ?_; refine XO.extract rfl rfl rfl ?_; refine XO.nil ?_
         exact stepQ_ok trivial (⟨_, _, rfl, hG⟩)
        refine stepsD_cons rfl ?_ ?_
        ·intro X HD hleD _
         replace hs := hs.mono hleD; replace hp := hp.mono hleD; replace hp36 := hp36.mono hleD; replace hp44 := hp44.mono hleD; replace hpY := hpY.mono hleD; replace hle0 := hle0.trans hleD; refine withPreds_cons rfl rfl ?_; rintro _ ⟨aG, cG, rfl, hG⟩; refine withPreds_nil rfl ?_; refine XO.extract rfl rfl rfl ?_; refine XO.nil ?_
         exact stepQ_ok trivial (rfl)
        refine stepsD_cons rfl ?_ ?_
        ·intro X HD hleD _
         replace hs := hs.mono hleD; replace hp := hp.mono hleD; replace hp36 := hp36.mono hleD; replace hp44 := hp44.mono hleD; replace hpY := hpY.mono hleD; replace hle0 := hle0.trans hleD; refine withPreds_cons rfl rfl ?_; rintro _ ⟨a66, c66, rfl, hsl66⟩; refine withPreds_nil rfl ?_; refine XO.assign rfl rfl ?_; refine XO.nil ?_
         exact stepQ_ok trivial (⟨_, _, rfl, hsl66⟩)
        exact stepsD_end rfl
       case tail10 =>
        intro HD hleD _
        replace hs := hs.mono hleD; replace hp := hp.mono hleD; replace hp36 := hp36.mono hleD; replace hp44 := hp44.mono hleD; replace hpY := hpY.mono hleD; replace hle0 := hle0.trans hleD; refine withPreds_cons rfl rfl ?_; rintro _ rfl; refine withPreds_cons rfl rfl ?_; rintro _ rfl; refine withPreds_cons rfl rfl ?_; rintro _ rfl; refine withPreds_cons rfl rfl ?_; rintro _ ⟨a54, c54, rfl, hsl54, hcap54⟩; refine withPreds_cons rfl rfl ?_; rintro _ rfl; refine withPreds_cons rfl rfl ?_; rintro _ ⟨a56, c56, rfl, hsl56, hcap56⟩; refine withPreds_cons rfl rfl ?_; rintro _ rfl; refine withPreds_cons rfl rfl ?_; rintro _ rfl; refine withPreds_cons rfl rfl ?_; rintro _ rfl; refine withPreds_cons rfl rfl ?_; rintro _ rfl; refine withPreds_cons rfl rfl ?_; rintro _ rfl; refine withPreds_cons rfl rfl ?_; rintro _ ⟨bs62, rfl, hsl62⟩; refine withPreds_cons rfl rfl ?_; rintro _ ⟨a63, c63, rfl, hsl63⟩; refine withPreds_cons rfl rfl ?_; rintro _ rfl; refine withPreds_cons rfl rfl ?_; rintro _ ⟨aF, cF, rfl, hF⟩; refine withPreds_cons rfl rfl ?_; rintro _ ⟨aG, cG, rfl, hG⟩; refine withPreds_cons rfl rfl ?_; rintro _ ⟨a66, c66, rfl, hsl66⟩; refine withPreds_cons rfl rfl ?_; rintro _ rfl; refine withPreds_cons rfl rfl ?_; rintro _ ⟨a13, c13, rfl, hsl13⟩; refine withPreds_nil rfl ?_; refine XO.assign rfl rfl ?_; refine XO.nil ?_; refine XC.seq2 ?_; refine XC.seq ?_; refine XC.region ?_; refine XO.move rfl rfl ?_; refine XO.nil ?_; refine XC.seq2 ?_; refine XC.condB rfl (fun c3_15 => ?_) (fun c3_15 => ?_)
        ·refine XC.seq ?_; refine XC.region ?_; refine XO.move rfl rfl ?_; refine XO.assign rfl rfl ?_; refine XO.assign rfl rfl ?_; refine XO.nil ?_; refine XC.seq2 ?_; refine XC.ret ?_; refine blockR ?_; refine seqX_ret ?_; refine loopX_ret ?_; refine blockR ?_; refine seqX_ret ?_; refine ⟨rfl, _, [], rfl, (by repeat (first | exact List.Sublist.refl _ | apply List.Sublist.cons_cons | apply List.Sublist.cons)), RetR.mk ?_⟩
         first | exact ExtU.of rfl hp | exact ExtU.of (ext_y hno hxX (extG_y (fun h => by first | omega | exact h.2.elim (fun h2 => by omega) (by assumption)) (by assumption))) (by assumption) | exact ExtU.of (ext_n hno) (SlR.nil0 _ _)
        ·refine XC.skip ?_; refine blockN ?_; refine XC.seq2 ?_; refine XC.region ?_; refine XO.move rfl rfl ?_; refine XO.add rfl rfl (wrap_i64 (by omega) (by omega)) rfl ?_; refine XO.assign rfl rfl ?_; refine XO.nil ?_; refine loop_next (k + 1) (by show l.length - (k + 1) < l.length - k; omega) (prov_cons (rfl) (prov_cons (rfl) (prov_cons (rfl) (prov_cons (rfl) (prov_cons (rfl) (prov_cons (rfl) prov_nil)))))) (⟨by show k + 1 ≤ l.length; omega, rfl, all_snocP (p := fun g => extG l x y many d p g = none) hno hxX (by first | exact extG_skip (by omega) (Or.inl (by omega)) | exact extG_skip (by omega) (Or.inr (by assumption)) | exact extG_n (by assumption))⟩) (by repeat (first | exact List.Sublist.refl _ | apply List.Sublist.cons_cons | apply List.Sublist.cons)) (hle0)
      ·skip
       refine XC.keep [0, 1, 2, 3, 4, 12] rfl ?_; obtain ⟨bEY, oEY, rfl⟩ := hs.addr (by omega); obtain ⟨_, xY, hxY, rfl, hpY⟩ := hs.elem (k) (by omega); obtain rfl := Option.some.inj (hxX.symm.trans hxY)
       apply XC.drawM (fun _ => True) trivial [5] (by decide) [(12, 5)] (ownF (intR .i64) 3 p) (fun _ _ p _ => p.2 = .nothing) (ownF_mono _ _ _) (fun _ _ _ _ _ _ h => h) 19 [eqF _, eqF _, eqF _, slF (intR .i64) ([] : List Int), eqF _, anyF, eqF _, eqF _, eqF _, eqF _, eqF _, slF (intR .i64) [xX.No], slG (intR .i64) (p ++ [xX.No]), eqF _, fun v H => ExtU (extF l x y many d (p ++ [xX.No])) H v, fun v H => ExtU (extF l x y many d (p ++ [xX.No])) H v, slG (intR .i64) (extF l x y many d (p ++ [xX.No])).1, eqF _, slG (intR .i64) (extF l x y many d (p ++ [xX.No])).1] follows (by kernel_rfl) ⟨eqF_mono _, eqF_mono _, eqF_mono _, slF_mono _ _, eqF_mono _, anyF_mono, eqF_mono _, eqF_mono _, eqF_mono _, eqF_mono _, eqF_mono _, slF_mono _ _, slG_mono _ _, eqF_mono _, fun _ _ _ hle ⟨a, c, h1, h2⟩ => ⟨a, c, h1, h2.mono hle⟩, fun _ _ _ hle ⟨a, c, h1, h2⟩ => ⟨a, c, h1, h2.mono hle⟩, slG_mono _ _, eqF_mono _, slG_mono _ _, trivial⟩ (by decide) (by kernel_rfl) ?steps16 ?tail16
       case steps16 =>
        refine stepsM_cons rfl rfl ?_ ?_
        ·intro X ext HD hleD _
         replace hs := hs.mono hleD; replace hp := hp.mono hleD; replace hp36 := hp36.mono hleD; replace hp44 := hp44.mono hleD; replace hpY := hpY.mono hleD; replace hle0 := hle0.trans hleD; refine withP_nil rfl ?_; refine XO.move rfl rfl ?_; refine XO.nil ?_; exact stepQN_ok rfl trivial (rfl)
        refine stepsM_cons rfl rfl ?_ ?_
        ·intro X ext HD hleD _
         replace hs := hs.mono hleD; replace hp := hp.mono hleD; replace hp36 := hp36.mono hleD; replace hp44 := hp44.mono hleD; replace hpY := hpY.mono hleD; replace hle0 := hle0.trans hleD; refine withP_nil rfl ?_; refine XO.move rfl rfl ?_; refine XO.nil ?_; exact stepQN_ok rfl trivial (rfl)
        refine stepsM_cons rfl rfl ?_ ?_
        ·intro X ext HD hleD _
         replace hs := hs.mono hleD; replace hp := hp.mono hleD; replace hp36 := hp36.mono hleD; replace hp44 := hp44.mono hleD; replace hpY := hpY.mono hleD; replace hle0 := hle0.trans hleD; refine withP_nil rfl ?_; refine XO.move rfl rfl ?_; refine XO.nil ?_; exact stepQN_ok rfl trivial (rfl)
        refine stepsM_cons rfl rfl ?_ ?_
        ·intro X ext HD hleD _
         replace hs := hs.mono hleD; replace hp := hp.mono hleD; replace hp36 := hp36.mono hleD; replace hp44 := hp44.mono hleD; replace hpY := hpY.mono hleD; replace hle0 := hle0.trans hleD; refine withP_nil rfl ?_; refine XO.buildSlice rfl Try.underlying25 ty_3 ze_3 rfl rfl rfl (fun b54 => ?_); refine XO.publish 0 rfl rfl rfl (fun HP54 oP54 hleP54 hbP54 hoP54 => ?_)
         have hsl54 := SlR.lit (ρ := (intR .i64)) (l := ([] : List Int)) hbP54 hoP54 rfl
         replace hs := hs.mono hleP54; replace hp := hp.mono hleP54; replace hp36 := hp36.mono hleP54; replace hp44 := hp44.mono hleP54; replace hpY := hpY.mono hleP54; replace hle0 := hle0.trans hleP54; refine XO.nil ?_
         exact stepQN_ok rfl trivial (⟨_, rfl, hsl54⟩)
        refine stepsM_cons rfl rfl ?_ ?_
        ·intro X ext HD hleD _
         replace hs := hs.mono hleD; replace hp := hp.mono hleD; replace hp36 := hp36.mono hleD; replace hp44 := hp44.mono hleD; replace hpY := hpY.mono hleD; replace hle0 := hle0.trans hleD; refine withP_nil rfl ?_; refine XO.move rfl rfl ?_; refine XO.nil ?_; exact stepQN_ok rfl trivial (rfl)
        refine stepsM_cons rfl rfl ?_ ?_
        ·intro X ext HD hleD _
         replace hs := hs.mono hleD; replace hp := hp.mono hleD; replace hp36 := hp36.mono hleD; replace hp44 := hp44.mono hleD; replace hpY := hpY.mono hleD; replace hle0 := hle0.trans hleD; refine withP_cons rfl rfl ?_; rintro _ ⟨bs54, rfl, hsl54⟩; refine withP_cons rfl rfl ?_; rintro _ rfl; refine withP_nil rfl ?_; refine XO.appendN rfl hsl54 rfl rfl hp rfl (by have := List.length_pos_iff.2 hq0; simp; omega) Try.underlying25 ty_3 ze_3 rfl by_3 (by simp; omega) rfl (fun pe ae ce hacc => ?_); refine XO.nil ?_
         exact stepQN_new rfl trivial trivial (⟨_, _, rfl, hacc⟩)
        refine stepsM_cons rfl rfl ?_ ?_
        ·intro X ext HD hleD _
         replace hs := hs.mono hleD; replace hp := hp.mono hleD; replace hp36 := hp36.mono hleD; replace hp44 := hp44.mono hleD; replace hpY := hpY.mono hleD; replace hle0 := hle0.trans hleD; refine withP_nil rfl ?_; refine XO.move rfl rfl ?_; refine XO.nil ?_; exact stepQN_ok rfl trivial (rfl)
        refine stepsM_cons rfl rfl ?_ ?_
        ·intro X ext HD hleD _
         replace hs := hs.mono hleD; replace hp := hp.mono hleD; replace hp36 := hp36.mono hleD; replace hp44 := hp44.mono hleD; replace hpY := hpY.mono hleD; replace hle0 := hle0.trans hleD; refine withP_nil rfl ?_; refine XO.move rfl rfl ?_; refine XO.nil ?_; exact stepQN_ok rfl trivial (rfl)
        refine stepsM_cons rfl rfl ?_ ?_
        ·intro X ext HD hleD _
         replace hs := hs.mono hleD; replace hp := hp.mono hleD; replace hp36 := hp36.mono hleD; replace hp44 := hp44.mono hleD; replace hpY := hpY.mono hleD; replace hle0 := hle0.trans hleD; refine withP_cons rfl rfl ?_; rintro _ rfl; refine withP_cons rfl rfl ?_; rintro _ rfl; refine withP_nil rfl ?_; refine XO.indexE rfl rfl Try.underlying22 ty_41 (by omega) (by omega) rfl ?_; refine XO.nil ?_; exact stepQN_ok rfl trivial (rfl)
        refine stepsM_cons rfl rfl ?_ ?_
        ·intro X ext HD hleD _
         replace hs := hs.mono hleD; replace hp := hp.mono hleD; replace hp36 := hp36.mono hleD; replace hp44 := hp44.mono hleD; replace hpY := hpY.mono hleD; replace hle0 := hle0.trans hleD; refine withP_cons rfl rfl ?_; rintro _ rfl; refine withP_nil rfl ?_; refine XO.fieldAddr rfl fa_41_0 rfl ?_; refine XO.nil ?_; exact stepQN_ok rfl trivial (rfl)
        refine stepsM_cons rfl rfl ?_ ?_
        ·intro X ext HD hleD _
         replace hs := hs.mono hleD; replace hp := hp.mono hleD; replace hp36 := hp36.mono hleD; replace hp44 := hp44.mono hleD; replace hpY := hpY.mono hleD; replace hle0 := hle0.trans hleD; refine withP_cons rfl rfl ?_; rintro _ rfl; refine withP_nil rfl ?_; refine XO.loadHF rfl (by assumption) ty_3 rfl rfl rfl ?_; refine XO.nil ?_; exact stepQN_ok rfl trivial (rfl)
        refine stepsM_cons rfl rfl ?_ ?_
        ·intro X ext HD hleD _
         replace hs := hs.mono hleD; replace hp := hp.mono hleD; replace hp36 := hp36.mono hleD; replace hp44 := hp44.mono hleD; replace hpY := hpY.mono hleD; replace hle0 := hle0.trans hleD; refine withP_cons rfl rfl ?_; rintro _ rfl; refine withP_nil rfl ?_; refine XO.buildSlice rfl Try.underlying25 ty_3 ze_3 rfl rfl rfl (fun b62 => ?_); refine XO.publish 0 rfl rfl rfl (fun HP62 oP62 hleP62 hbP62 hoP62 => ?_)
         have hsl62 := SlR.lit (ρ := (intR .i64)) (l := [xX.No]) hbP62 hoP62 (RowsR.one1 rfl)
         replace hs := hs.mono hleP62; replace hp := hp.mono hleP62; replace hp36 := hp36.mono hleP62; replace hp44 := hp44.mono hleP62; replace hpY := hpY.mono hleP62; replace hle0 := hle0.trans hleP62; refine XO.nil ?_
         exact stepQN_ok rfl trivial (⟨_, rfl, hsl62⟩)
        refine stepsM_mod rfl rfl ?_ ?_
        ·intro X ext p HD hleD _
         replace hs := hs.mono hleD; replace hp := hp.mono hleD; replace hp36 := hp36.mono hleD; replace hp44 := hp44.mono hleD; replace hpY := hpY.mono hleD; replace hle0 := hle0.trans hleD; refine withP_cons rfl rfl ?_; rintro _ _; refine withP_cons rfl rfl ?_; rintro _ ⟨bs62, rfl, hsl62⟩; refine withP_nil rfl ?_
         intro hfo
         obtain ⟨ab, cb, rfl, haccb⟩ := hfo _ _ rfl rfl; refine XO.appendA 0 rfl rfl haccb rfl rfl hsl62 rfl Try.underlying25 ty_3 ze_3 rfl by_3 (by simp; omega) rfl (fun pc ac cc haccc => ?_); refine XO.publishA 0 rfl haccc rfl (fun HQ hleQ hsQ => ?_); refine XO.open0 (σ := []) (fun b0 => ?_); refine XO.nil ?_
         exact stepQM_ok trivial (⟨_, _, rfl, hsQ⟩) (fun u t h1 h2 => rfl)
        refine stepsM_cons rfl rfl ?_ ?_
        ·intro X ext HD hleD _
         replace hs := hs.mono hleD; replace hp := hp.mono hleD; replace hp36 := hp36.mono hleD; replace hp44 := hp44.mono hleD; replace hpY := hpY.mono hleD; replace hle0 := hle0.trans hleD; refine withP_nil rfl ?_; refine XO.move rfl rfl ?_; refine XO.nil ?_; exact stepQN_ok rfl trivial (rfl)
        refine stepsM_cons rfl rfl ?_ ?_
        ·intro X ext HD hleD _
         replace hs := hs.mono hleD; replace hp := hp.mono hleD; replace hp36 := hp36.mono hleD; replace hp44 := hp44.mono hleD; replace hpY := hpY.mono hleD; replace hle0 := hle0.trans hleD; refine withP_cons rfl rfl ?_; rintro _ rfl; refine withP_cons rfl rfl ?_; rintro _ rfl; refine withP_cons rfl rfl ?_; rintro _ rfl; refine withP_cons rfl rfl ?_; rintro _ ⟨a63, c63, rfl, hsl63⟩; refine withP_cons rfl rfl ?_; rintro _ rfl; refine withP_nil rfl ?_
         have hcall := ih d (by omega) (p ++ [xX.No]) _ _ _ _ _ (by simp; omega) hs hsl63
         refine XO.callH rfl hcall rfl ?_; rintro _ HF hleF ⟨aF, cF, rfl, hF⟩; replace hs := hs.mono hleF; replace hp := hp.mono hleF; replace hp36 := hp36.mono hleF; replace hp44 := hp44.mono hleF; replace hpY := hpY.mono hleF; replace hsl63 := hsl63.mono hleF; replace hle0 := hle0.trans hleF; refine XO.nil ?_
         exact stepQN_ok rfl trivial (⟨_, _, rfl, hF⟩)
        refine stepsM_cons rfl rfl ?_ ?_
        ·intro X ext HD hleD _
         replace hs := hs.mono hleD; replace hp := hp.mono hleD; replace hp36 := hp36.mono hleD; replace hp44 := hp44.mono hleD; replace hpY := hpY.mono hleD; replace hle0 := hle0.trans hleD; refine withP_cons rfl rfl ?_; rintro _ ⟨aF, cF, rfl, hF⟩; refine withP_nil rfl ?_; refine XO.move rfl rfl ?_; refine XO.nil ?_
         exact stepQN_ok rfl trivial (⟨_, _, rfl, hF⟩)
        refine stepsM_cons rfl rfl ?_ ?_
        ·intro X ext HD hleD _
         replace hs := hs.mono hleD; replace hp := hp.mono hleD; replace hp36 := hp36.mono hleD; replace hp44 := hp44.mono hleD; replace hpY := hpY.mono hleD; replace hle0 := hle0.trans hleD; refine withP_cons rfl rfl ?_; rintro _ ⟨aG, cG, rfl, hG⟩; refine withP_nil rfl ?_; refine XO.extract rfl rfl rfl ?_; refine XO.nil ?_
         exact stepQN_ok rfl trivial (⟨_, _, rfl, hG⟩)
        refine stepsM_cons rfl rfl ?_ ?_
        ·intro X ext HD hleD _
         replace hs := hs.mono hleD; replace hp := hp.mono hleD; replace hp36 := hp36.mono hleD; replace hp44 := hp44.mono hleD; replace hpY := hpY.mono hleD; replace hle0 := hle0.trans hleD; refine withP_cons rfl rfl ?_; rintro _ ⟨aG, cG, rfl, hG⟩; refine withP_nil rfl ?_; refine XO.extract rfl rfl rfl ?_; refine XO.nil ?_; exact stepQN_ok rfl trivial (rfl)
        refine stepsM_cons rfl rfl ?_ ?_
        ·intro X ext HD hleD _
         replace hs := hs.mono hleD; replace hp := hp.mono hleD; replace hp36 := hp36.mono hleD; replace hp44 := hp44.mono hleD; replace hpY := hpY.mono hleD; replace hle0 := hle0.trans hleD; refine withP_cons rfl rfl ?_; rintro _ ⟨a66, c66, rfl, hsl66⟩; refine withP_nil rfl ?_; refine XO.assign rfl rfl ?_; refine XO.nil ?_
         exact stepQN_ok rfl trivial (⟨_, _, rfl, hsl66⟩)
        exact stepsM_end rfl
       case tail16 =>
        intro HD hleD _
        replace hs := hs.mono hleD; replace hp := hp.mono hleD; replace hp36 := hp36.mono hleD; replace hp44 := hp44.mono hleD; replace hpY := hpY.mono hleD; replace hle0 := hle0.trans hleD; refine withP_cons rfl rfl ?_; rintro _ rfl; refine withP_cons rfl rfl ?_; rintro _ rfl; refine withP_cons rfl rfl ?_; rintro _ rfl; refine withP_cons rfl rfl ?_; rintro _ ⟨bs54, rfl, hsl54⟩; refine withP_cons rfl rfl ?_; rintro _ rfl; refine withP_cons rfl rfl ?_; rintro _ _; refine withP_cons rfl rfl ?_; rintro _ rfl; refine withP_cons rfl rfl ?_; rintro _ rfl; refine withP_cons rfl rfl ?_; rintro _ rfl; refine withP_cons rfl rfl ?_; rintro _ rfl; refine withP_cons rfl rfl ?_; rintro _ rfl; refine withP_cons rfl rfl ?_; rintro _ ⟨bs62, rfl, hsl62⟩; refine withP_cons rfl rfl ?_; rintro _ ⟨a63, c63, rfl, hsl63⟩; refine withP_cons rfl rfl ?_; rintro _ rfl; refine withP_cons rfl rfl ?_; rintro _ ⟨aF, cF, rfl, hF⟩; refine withP_cons rfl rfl ?_; rintro _ ⟨aG, cG, rfl, hG⟩; refine withP_cons rfl rfl ?_; rintro _ ⟨a66, c66, rfl, hsl66⟩; refine withP_cons rfl rfl ?_; rintro _ rfl; refine withP_cons rfl rfl ?_; rintro _ ⟨a13, c13, rfl, hsl13⟩; refine withP_nil rfl ?_; refine withEnts_cons ?_
        intro pe hpe
        refine withEnts_nil ?_; refine XO.assign rfl rfl ?_; refine XO.nil ?_; refine XC.seq2 ?_; refine XC.seq ?_; refine XC.region ?_; refine XO.move rfl rfl ?_; refine XO.nil ?_; refine XC.seq2 ?_; refine XC.condB rfl (fun c3_20 => ?_) (fun c3_20 => ?_)
        ·refine XC.seq ?_; refine XC.region ?_; refine XO.move rfl rfl ?_; refine XO.assign rfl rfl ?_; refine XO.assign rfl rfl ?_; refine XO.nil ?_; refine XC.seq2 ?_; refine XC.ret ?_; refine blockR ?_; refine seqX_ret ?_; refine loopX_ret ?_; refine blockR ?_; refine seqX_ret ?_; refine ⟨rfl, _, [], rfl, (by repeat (first | exact List.Sublist.refl _ | apply List.Sublist.cons_cons | apply List.Sublist.cons)), RetR.mk ?_⟩
         first | exact ExtU.of rfl hp | exact ExtU.of (ext_y hno hxX (extG_y (fun h => by first | omega | exact h.2.elim (fun h2 => by omega) (by assumption)) (by assumption))) (by assumption) | exact ExtU.of (ext_n hno) (SlR.nil0 _ _)
        ·refine XC.skip ?_; refine blockN ?_; refine XC.seq2 ?_; refine XC.region ?_; refine XO.move rfl rfl ?_; refine XO.add rfl rfl (wrap_i64 (by omega) (by omega)) rfl ?_; refine XO.assign rfl rfl ?_; refine XO.nil ?_; refine loop_next (k + 1) (by show l.length - (k + 1) < l.length - k; omega) (prov_cons (rfl) (prov_cons (rfl) (prov_cons (rfl) (prov_cons (rfl) (prov_cons (rfl) (prov_cons (rfl) prov_nil)))))) (⟨by show k + 1 ≤ l.length; omega, rfl, all_snocP (p := fun g => extG l x y many d p g = none) hno hxX (by first | exact extG_skip (by omega) (Or.inl (by omega)) | exact extG_skip (by omega) (Or.inr (by assumption)) | exact extG_n (by assumption))⟩) (by repeat (first | exact List.Sublist.refl _ | apply List.Sublist.cons_cons | apply List.Sublist.cons)) (hle0)
    ·have g6p := of_decide_eq_true g6
     refine XO.guardF rfl rfl (g6) rfl rfl ?_; refine XO.guardF rfl rfl (g6) rfl rfl ?_; refine XO.guardF rfl rfl (g6) rfl rfl ?_; refine XO.guardF rfl rfl (g6) rfl rfl ?_; refine XO.guardF rfl rfl (g6) rfl rfl ?_; refine XO.guardF rfl rfl (g6) rfl rfl ?_; refine XO.guardT rfl rfl (g4) rfl ?_; refine XO.pickT rfl (g6) rfl rfl ?_; refine XO.pickT rfl (g4) rfl rfl ?_; refine XO.nil ?_; refine XC.seq2 ?_; refine XC.condT rfl (rfl) ?_; refine XC.exit ?_; refine seqX_exit ?_; refine blockHit rfl ?_; refine XC.seq2 ?_; refine XC.region ?_; refine XO.move rfl rfl ?_; refine XO.add rfl rfl (wrap_i64 (by omega) (by omega)) rfl ?_; refine XO.assign rfl rfl ?_; refine XO.nil ?_; refine loop_next (k + 1) (by show l.length - (k + 1) < l.length - k; omega) (prov_cons (rfl) (prov_cons (rfl) (prov_cons (rfl) (prov_cons (rfl) (prov_cons (rfl) (prov_cons (rfl) prov_nil)))))) (⟨by show k + 1 ≤ l.length; omega, rfl, all_snocP (p := fun g => extG l x y many d p g = none) hno hxX (by first | exact extG_skip (by omega) (Or.inl (by omega)) | exact extG_skip (by omega) (Or.inr (by assumption)) | exact extG_n (by assumption))⟩) (by repeat (first | exact List.Sublist.refl _ | apply List.Sublist.cons_cons | apply List.Sublist.cons)) (hle0)
   ·have g4p := of_decide_eq_false g4
    refine XO.guardF rfl rfl (g4) rfl rfl ?_; refine XO.guardF rfl rfl (g4) rfl rfl ?_; refine XO.guardF rfl rfl (g4) rfl rfl ?_; refine XO.guardF rfl rfl (g4) rfl rfl ?_; refine XO.guardF rfl rfl (g4) rfl rfl ?_; refine XO.guardF rfl rfl (g4) rfl rfl ?_; refine XO.guardU rfl rfl rfl rfl ?_; refine XO.guardU rfl rfl rfl rfl ?_; refine XO.guardU rfl rfl rfl rfl ?_; refine XO.guardU rfl rfl rfl rfl ?_; refine XO.guardU rfl rfl rfl rfl ?_; refine XO.guardU rfl rfl rfl rfl ?_; refine XO.guardU rfl rfl rfl rfl ?_; refine XO.guardF rfl rfl (g4) rfl rfl ?_; refine XO.pickF rfl (g4) rfl rfl ?_; refine XO.nil ?_; refine XC.seq2 ?_; refine XC.condF rfl (rfl) ?_; refine XC.skip ?_; refine XC.seq2 ?_; refine XC.seq ?_
    by_cases hq0 : p = []
    ·skip
     refine XC.keep [0, 1, 2, 3, 4, 12] rfl ?_; obtain ⟨bEY, oEY, rfl⟩ := hs.addr (by omega); obtain ⟨_, xY, hxY, rfl, hpY⟩ := hs.elem (k) (by omega); obtain rfl := Option.some.inj (hxX.symm.trans hxY)
     apply XC.drawG (fun _ => True) trivial 19 [eqF _, eqF _, eqF _, slCap (intR .i64) [], eqF _, slCap (intR .i64) p, eqF _, eqF _, eqF _, eqF _, eqF _, slF (intR .i64) [xX.No], slG (intR .i64) (p ++ [xX.No]), eqF _, fun v H => ExtU (extF l x y many d (p ++ [xX.No])) H v, fun v H => ExtU (extF l x y many d (p ++ [xX.No])) H v, slG (intR .i64) (extF l x y many d (p ++ [xX.No])).1, eqF _, slG (intR .i64) (extF l x y many d (p ++ [xX.No])).1] follows (by kernel_rfl) (by kernel_rfl) ⟨eqF_mono _, eqF_mono _, eqF_mono _, slCap_mono _ _, eqF_mono _, slCap_mono _ _, eqF_mono _, eqF_mono _, eqF_mono _, eqF_mono _, eqF_mono _, slF_mono _ _, slG_mono _ _, eqF_mono _, fun _ _ _ hle ⟨a, c, h1, h2⟩ => ⟨a, c, h1, h2.mono hle⟩, fun _ _ _ hle ⟨a, c, h1, h2⟩ => ⟨a, c, h1, h2.mono hle⟩, slG_mono _ _, eqF_mono _, slG_mono _ _, trivial⟩ ?steps21 ?tail21
     case steps21 =>
      refine stepsD_cons rfl ?_ ?_
      ·intro X HD hleD _
       replace hs := hs.mono hleD; replace hp := hp.mono hleD; replace hpY := hpY.mono hleD; replace hle0 := hle0.trans hleD; refine withPreds_nil rfl ?_; refine XO.move rfl rfl ?_; refine XO.nil ?_
       exact stepQ_ok trivial (rfl)
      refine stepsD_cons rfl ?_ ?_
      ·intro X HD hleD _
       replace hs := hs.mono hleD; replace hp := hp.mono hleD; replace hpY := hpY.mono hleD; replace hle0 := hle0.trans hleD; refine withPreds_nil rfl ?_; refine XO.move rfl rfl ?_; refine XO.nil ?_
       exact stepQ_ok trivial (rfl)
      refine stepsD_cons rfl ?_ ?_
      ·intro X HD hleD _
       replace hs := hs.mono hleD; replace hp := hp.mono hleD; replace hpY := hpY.mono hleD; replace hle0 := hle0.trans hleD; refine withPreds_nil rfl ?_; refine XO.move rfl rfl ?_; refine XO.nil ?_
       exact stepQ_ok trivial (rfl)
      refine stepsD_cons rfl ?_ ?_
      ·intro X HD hleD _
       replace hs := hs.mono hleD; replace hp := hp.mono hleD; replace hpY := hpY.mono hleD; replace hle0 := hle0.trans hleD; refine withPreds_nil rfl ?_; refine XO.buildSlice rfl Try.underlying25 ty_3 ze_3 rfl rfl rfl (fun b54 => ?_); refine XO.publish 0 rfl rfl rfl (fun HP54 oP54 hleP54 hbP54 hoP54 => ?_)
       have hsl54 := SlR.lit (ρ := (intR .i64)) (l := ([] : List Int)) hbP54 hoP54 rfl
       replace hs := hs.mono hleP54; replace hp := hp.mono hleP54; replace hpY := hpY.mono hleP54; replace hle0 := hle0.trans hleP54; refine XO.nil ?_
       exact stepQ_ok trivial (⟨_, _, rfl, hsl54, by simp⟩)
      refine stepsD_cons rfl ?_ ?_
      ·intro X HD hleD _
       replace hs := hs.mono hleD; replace hp := hp.mono hleD; replace hpY := hpY.mono hleD; replace hle0 := hle0.trans hleD; refine withPreds_nil rfl ?_; refine XO.move rfl rfl ?_; refine XO.nil ?_
       exact stepQ_ok trivial (rfl)
      refine stepsD_cons rfl ?_ ?_
      ·intro X HD hleD _
       replace hs := hs.mono hleD; replace hp := hp.mono hleD; replace hpY := hpY.mono hleD; replace hle0 := hle0.trans hleD; refine withPreds_cons rfl rfl ?_; rintro _ ⟨a54, c54, rfl, hsl54, hcap54⟩; refine withPreds_cons rfl rfl ?_; rintro _ rfl; refine withPreds_nil rfl ?_; refine XO.append0 rfl rfl (by rw [hq0]; rfl) hsl54.le Try.underlying25 ty_3 rfl ?_; refine XO.nil ?_
       exact stepQ_ok trivial (⟨_, _, by first | (rw [hq0]; done) | (rw [hq0]; rfl), by rw [hq0]; exact hsl54, by rw [hq0]; exact hcap54⟩)
      refine stepsD_cons rfl ?_ ?_
      ·intro X HD hleD _
       replace hs := hs.mono hleD; replace hp := hp.mono hleD; replace hpY := hpY.mono hleD; replace hle0 := hle0.trans hleD; refine withPreds_nil rfl ?_; refine XO.move rfl rfl ?_; refine XO.nil ?_
       exact stepQ_ok trivial (rfl)
      refine stepsD_cons rfl ?_ ?_
      ·intro X HD hleD _
       replace hs := hs.mono hleD; replace hp := hp.mono hleD; replace hpY := hpY.mono hleD; replace hle0 := hle0.trans hleD; refine withPreds_nil rfl ?_; refine XO.move rfl rfl ?_; refine XO.nil ?_
       exact stepQ_ok trivial (rfl)
      refine stepsD_cons rfl ?_ ?_
      ·intro X HD hleD _
       replace hs := hs.mono hleD; replace hp := hp.mono hleD; replace hpY := hpY.mono hleD; replace hle0 := hle0.trans hleD; refine withPreds_cons rfl rfl ?_; rintro _ rfl; refine withPreds_cons rfl rfl ?_; rintro _ rfl; refine withPreds_nil rfl ?_; refine XO.indexE rfl rfl Try.underlying22 ty_41 (by omega) (by omega) rfl ?_; refine XO.nil ?_
       exact stepQ_ok trivial (rfl)
      refine stepsD_cons rfl ?_ ?_
      ·intro X HD hleD _
       replace hs := hs.mono hleD; replace hp := hp.mono hleD; replace hpY := hpY.mono hleD; replace hle0 := hle0.trans hleD; refine withPreds_cons rfl rfl ?_; rintro _ rfl; refine withPreds_nil rfl ?_; refine XO.fieldAddr rfl fa_41_0 rfl ?_; refine XO.nil ?_
       exact stepQ_ok trivial (rfl)
      refine stepsD_cons rfl ?_ ?_
      ·intro X HD hleD _
       replace hs := hs.mono hleD; replace hp := hp.mono hleD; replace hpY := hpY.mono hleD; replace hle0 := hle0.trans hleD; refine withPreds_cons rfl rfl ?_; rintro _ rfl; refine withPreds_nil rfl ?_; refine XO.loadHF rfl (by assumption) ty_3 rfl rfl rfl ?_; refine XO.nil ?_
       exact stepQ_ok trivial (rfl)
      refine stepsD_cons rfl ?_ ?_
      ·intro X HD hleD _
       replace hs := hs.mono hleD; replace hp := hp.mono hleD; replace hpY := hpY.mono hleD; replace hle0 := hle0.trans hleD; refine withPreds_cons rfl rfl ?_; rintro _ rfl; refine withPreds_nil rfl ?_; refine XO.buildSlice rfl Try.underlying25 ty_3 ze_3 rfl rfl rfl (fun b62 => ?_); refine XO.publish 0 rfl rfl rfl (fun HP62 oP62 hleP62 hbP62 hoP62 => ?_)
       have hsl62 := SlR.lit (ρ := (intR .i64)) (l := [xX.No]) hbP62 hoP62 (RowsR.one1 rfl)
       replace hs := hs.mono hleP62; replace hp := hp.mono hleP62; replace hpY := hpY.mono hleP62; replace hle0 := hle0.trans hleP62; refine XO.nil ?_
       exact stepQ_ok trivial (⟨_, rfl, hsl62⟩)
      refine stepsD_cons rfl ?_ ?_
      ·intro X HD hleD _
       replace hs := hs.mono hleD; replace hp := hp.mono hleD; replace hpY := hpY.mono hleD; replace hle0 := hle0.trans hleD; refine withPreds_cons rfl rfl ?_; rintro _ ⟨a56, c56, rfl, hsl56, hcap56⟩; refine withPreds_cons rfl rfl ?_; rintro _ ⟨bs62, rfl, hsl62⟩; refine withPreds_nil rfl ?_; refine XO.appendP rfl hsl56 rfl rfl hsl62 rfl (by exact hcap56) Try.underlying25 ty_3 ze_3 rfl by_3 (by simp; omega) rfl (fun HA63 aA63 cA63 hleA63 hsA63 => ?_); replace hs := hs.mono hleA63; replace hp := hp.mono hleA63; replace hpY := hpY.mono hleA63; replace hsl56 := hsl56.mono hleA63; replace hsl62 := hsl62.mono hleA63; replace hle0 := hle0.trans hleA63; refine XO.nil ?_
       exact stepQ_ok trivial (⟨_, _, rfl, hsA63⟩)
      refine stepsD_cons rfl ?_ ?_
      ·intro X HD hleD _
       replace hs := hs.mono hleD; replace hp := hp.mono hleD; replace hpY := hpY.mono hleD; replace hle0 := hle0.trans hleD; refine withPreds_nil rfl ?_; refine XO.move rfl rfl ?_; refine XO.nil ?_
       exact stepQ_ok trivial (rfl)
      refine stepsD_cons rfl ?_ ?_
      ·intro X HD hleD _
       replace hs := hs.mono hleD; replace hp := hp.mono hleD; replace hpY := hpY.mono hleD; replace hle0 := hle0.trans hleD; refine withPreds_cons rfl rfl ?_; rintro _ rfl; refine withPreds_cons rfl rfl ?_; rintro _ rfl; refine withPreds_cons rfl rfl ?_; rintro _ rfl; refine withPreds_cons rfl rfl ?_; rintro _ ⟨a63, c63, rfl, hsl63⟩; refine withPreds_cons rfl rfl ?_; rintro _ rfl; refine withPreds_nil rfl ?_
       have hcall := ih d (by omega) (p ++ [xX.No]) _ _ _ _ _ (by simp; omega) hs hsl63
       refine XO.callH rfl hcall rfl ?_; rintro _ HF hleF ⟨aF, cF, rfl, hF⟩; replace hs := hs.mono hleF; replace hp := hp.mono hleF; replace hpY := hpY.mono hleF; replace hsl63 := hsl63.mono hleF; replace hle0 := hle0.trans hleF; refine XO.nil ?_
       exact stepQ_ok trivial (⟨_, _, rfl, hF⟩)
      refine stepsD_cons rfl ?_ ?_
      ·intro X HD hleD _
       replace hs := hs.mono hleD; replace hp := hp.mono hleD; replace hpY := hpY.mono hleD; replace hle0 := hle0.trans hleD; refine withPreds_cons rfl rfl ?_; rintro _ ⟨aF, cF, rfl, hF⟩; refine withPreds_nil rfl ?_; refine XO.move rfl rfl ?_; refine XO.nil ?_
       exact stepQ_ok trivial (⟨_, _, rfl, hF⟩)
      refine stepsD_cons rfl ?_ ?_
      ·intro X HD hleD _
       replace hs := hs.mono hleD; replace hp := hp.mono hleD; replace hpY := hpY.mono hleD; replace hle0 := hle0.trans hleD; refine withPreds_cons rfl rfl ?_; rintro _ ⟨aG, cG, rfl, hG⟩; refine withPreds_nil rfl ?_; refine XO.extract rfl rfl rfl ?_; refine XO.nil ?_
       exact stepQ_ok trivial (⟨_, _, rfl, hG⟩)
      refine stepsD_cons rfl ?_ ?_
      ·intro X HD hleD _
       replace hs := hs.mono hleD; replace hp := hp.mono hleD; replace hpY := hpY.mono hleD; replace hle0 := hle0.trans hleD; refine withPreds_cons rfl rfl ?_; rintro _ ⟨aG, cG, rfl, hG⟩; refine withPreds_nil rfl ?_; refine XO.extract rfl rfl rfl ?_; refine XO.nil ?_
       exact stepQ_ok trivial (rfl)
      refine stepsD_cons rfl ?_ ?_
      ·intro X HD hleD _
       replace hs := hs.mono hleD; replace hp := hp.mono hleD; replace hpY := hpY.mono hleD; replace hle0 := hle0.trans hleD; refine withPreds_cons rfl rfl ?_; rintro _ ⟨a66, c66, rfl, hsl66⟩; refine withPreds_nil rfl ?_; refine XO.assign rfl rfl ?_; refine XO.nil ?_
       exact stepQ_ok trivial (⟨_, _, rfl, hsl66⟩)
      exact stepsD_end rfl
     case tail21 =>
      intro HD hleD _
      replace hs := hs.mono hleD; replace hp := hp.mono hleD; replace hpY := hpY.mono hleD; replace hle0 := hle0.trans hleD; refine withPreds_cons rfl rfl ?_; rintro _ rfl; refine withPreds_cons rfl rfl ?_; rintro _ rfl; refine withPreds_cons rfl rfl ?_; rintro _ rfl; refine withPreds_cons rfl rfl ?_; rintro _ ⟨a54, c54, rfl, hsl54, hcap54⟩; refine withPreds_cons rfl rfl ?_; rintro _ rfl; refine withPreds_cons rfl rfl ?_; rintro _ ⟨a56, c56, rfl, hsl56, hcap56⟩; refine withPreds_cons rfl rfl ?_; rintro _ rfl; refine withPreds_cons rfl rfl ?_; rintro _ rfl; refine withPreds_cons rfl rfl ?_; rintro _ rfl; refine withPreds_cons rfl rfl ?_; rintro _ rfl; refine withPreds_cons rfl rfl ?_; rintro _ rfl; refine withPreds_cons rfl rfl ?_; rintro _ ⟨bs62, rfl, hsl62⟩; refine withPreds_cons rfl rfl ?_; rintro _ ⟨a63, c63, rfl, hsl63⟩; refine withPreds_cons rfl rfl ?_; rintro _ rfl; refine withPreds_cons rfl rfl ?_; rintro _ ⟨aF, cF, rfl, hF⟩; refine withPreds_cons rfl rfl ?_; rintro _ ⟨aG, cG, rfl, hG⟩; refine withPreds_cons rfl rfl ?_; rintro _ ⟨a66, c66, rfl, hsl66⟩; refine withPreds_cons rfl rfl ?_; rintro _ rfl; refine withPreds_cons rfl rfl ?_; rintro _ ⟨a13, c13, rfl, hsl13⟩; refine withPreds_nil rfl ?_; refine XO.assign rfl rfl ?_; refine XO.nil ?_; refine XC.seq2 ?_; refine XC.seq ?_; refine XC.region ?_; refine XO.move rfl rfl ?_; refine XO.nil ?_; refine XC.seq2 ?_; refine XC.condB rfl (fun c3_26 => ?_) (fun c3_26 => ?_)
      ·refine XC.seq ?_; refine XC.region ?_; refine XO.move rfl rfl ?_; refine XO.assign rfl rfl ?_; refine XO.assign rfl rfl ?_; refine XO.nil ?_; refine XC.seq2 ?_; refine XC.ret ?_; refine blockR ?_; refine seqX_ret ?_; refine loopX_ret ?_; refine blockR ?_; refine seqX_ret ?_; refine ⟨rfl, _, [], rfl, (by repeat (first | exact List.Sublist.refl _ | apply List.Sublist.cons_cons | apply List.Sublist.cons)), RetR.mk ?_⟩
       first | exact ExtU.of rfl hp | exact ExtU.of (ext_y hno hxX (extG_y (fun h => by first | omega | exact h.2.elim (fun h2 => by omega) (by assumption)) (by assumption))) (by assumption) | exact ExtU.of (ext_n hno) (SlR.nil0 _ _)
      ·refine XC.skip ?_; refine blockN ?_; refine XC.seq2 ?_; refine XC.region ?_; refine XO.move rfl rfl ?_; refine XO.add rfl rfl (wrap_i64 (by omega) (by omega)) rfl ?_; refine XO.assign rfl rfl ?_; refine XO.nil ?_; refine loop_next (k + 1) (by show l.length - (k + 1) < l.length - k; omega) (prov_cons (rfl) (prov_cons (rfl) (prov_cons (rfl) (prov_cons (rfl) (prov_cons (rfl) (prov_cons (rfl) prov_nil)))))) (⟨by show k + 1 ≤ l.length; omega, rfl, all_snocP (p := fun g => extG l x y many d p g = none) hno hxX (by first | exact extG_skip (by omega) (Or.inl (by omega)) | exact extG_skip (by omega) (Or.inr (by assumption)) | exact extG_n (by assumption))⟩) (by repeat (first | exact List.Sublist.refl _ | apply List.Sublist.cons_cons | apply List.Sublist.cons)) (hle0)
    ·skip
     refine XC.keep [0, 1, 2, 3, 4, 12] rfl ?_; obtain ⟨bEY, oEY, rfl⟩ := hs.addr (by omega); obtain ⟨_, xY, hxY, rfl, hpY⟩ := hs.elem (k) (by omega); obtain rfl := Option.some.inj (hxX.symm.trans hxY)
     apply XC.drawM (fun _ => True) trivial [5] (by decide) [(12, 5)] (ownF (intR .i64) 3 p) (fun _ _ p _ => p.2 = .nothing) (ownF_mono _ _ _) (fun _ _ _ _ _ _ h => h) 19 [eqF _, eqF _, eqF _, slF (intR .i64) ([] : List Int), eqF _, anyF, eqF _, eqF _, eqF _, eqF _, eqF _, slF (intR .i64) [xX.No], slG (intR .i64) (p ++ [xX.No]), eqF _, fun v H => ExtU (extF l x y many d (p ++ [xX.No])) H v, fun v H => ExtU (extF l x y many d (p ++ [xX.No])) H v, slG (intR .i64) (extF l x y many d (p ++ [xX.No])).1, eqF _, slG (intR .i64) (extF l x y many d (p ++ [xX.No])).1] follows (by kernel_rfl) ⟨eqF_mono _, eqF_mono _, eqF_mono _, slF_mono _ _, eqF_mono _, anyF_mono, eqF_mono _, eqF_mono _, eqF_mono _, eqF_mono _, eqF_mono _, slF_mono _ _, slG_mono _ _, eqF_mono _, fun _ _ _ hle ⟨a, c, h1, h2⟩ => ⟨a, c, h1, h2.mono hle⟩, fun _ _ _ hle ⟨a, c, h1, h2⟩ => ⟨a, c, h1, h2.mono hle⟩, slG_mono _ _, eqF_mono _, slG_mono _ _, trivial⟩ (by decide) (by kernel_rfl) ?steps27 ?tail27
     case steps27 =>
      refine stepsM_cons rfl rfl ?_ ?_
      ·intro X ext HD hleD _
       replace hs := hs.mono hleD; replace hp := hp.mono hleD; replace hpY := hpY.mono hleD; replace hle0 := hle0.trans hleD; refine withP_nil rfl ?_; refine XO.move rfl rfl ?_; refine XO.nil ?_; exact stepQN_ok rfl trivial (rfl)
      refine stepsM_cons rfl rfl ?_ ?_
      ·intro X ext HD hleD _
       replace hs := hs.mono hleD; replace hp := hp.mono hleD; replace hpY := hpY.mono hleD; replace hle0 := hle0.trans hleD; refine withP_nil rfl ?_; refine XO.move rfl rfl ?_; refine XO.nil ?_; exact stepQN_ok rfl trivial (rfl)
      refine stepsM_cons rfl rfl ?_ ?_
      ·intro X ext HD hleD _
       replace hs := hs.mono hleD; replace hp := hp.mono hleD; replace hpY := hpY.mono hleD; replace hle0 := hle0.trans hleD; refine withP_nil rfl ?_; refine XO.move rfl rfl ?_; refine XO.nil ?_; exact stepQN_ok rfl trivial (rfl)
      refine stepsM_cons rfl rfl ?_ ?_
      ·intro X ext HD hleD _
       replace hs := hs.mono hleD; replace hp := hp.mono hleD; replace hpY := hpY.mono hleD; replace hle0 := hle0.trans hleD; refine withP_nil rfl ?_; refine XO.buildSlice rfl Try.underlying25 ty_3 ze_3 rfl rfl rfl (fun b54 => ?_); refine XO.publish 0 rfl rfl rfl (fun HP54 oP54 hleP54 hbP54 hoP54 => ?_)
       have hsl54 := SlR.lit (ρ := (intR .i64)) (l := ([] : List Int)) hbP54 hoP54 rfl
       replace hs := hs.mono hleP54; replace hp := hp.mono hleP54; replace hpY := hpY.mono hleP54; replace hle0 := hle0.trans hleP54; refine XO.nil ?_
       exact stepQN_ok rfl trivial (⟨_, rfl, hsl54⟩)
      refine stepsM_cons rfl rfl ?_ ?_
      ·intro X ext HD hleD _
       replace hs := hs.mono hleD; replace hp := hp.mono hleD; replace hpY := hpY.mono hleD; replace hle0 := hle0.trans hleD; refine withP_nil rfl ?_; refine XO.move rfl rfl ?_; refine XO.nil ?_; exact stepQN_ok rfl trivial (rfl)
      refine stepsM_cons rfl rfl ?_ ?_
      ·intro X ext HD hleD _
       replace hs := hs.mono hleD; replace hp := hp.mono hleD; replace hpY := hpY.mono hleD; replace hle0 := hle0.trans hleD; refine withP_cons rfl rfl ?_; rintro _ ⟨bs54, rfl, hsl54⟩; refine withP_cons rfl rfl ?_; rintro _ rfl; refine withP_nil rfl ?_; refine XO.appendN rfl hsl54 rfl rfl hp rfl (by have := List.length_pos_iff.2 hq0; simp; omega) Try.underlying25 ty_3 ze_3 rfl by_3 (by simp; omega) rfl (fun pe ae ce hacc => ?_); refine XO.nil ?_
       exact stepQN_new rfl trivial trivial (⟨_, _, rfl, hacc⟩)
      refine stepsM_cons rfl rfl ?_ ?_
      ·intro X ext HD hleD _
       replace hs := hs.mono hleD; replace hp := hp.mono hleD; replace hpY := hpY.mono hleD; replace hle0 := hle0.trans hleD; refine withP_nil rfl ?_; refine XO.move rfl rfl ?_; refine XO.nil ?_; exact stepQN_ok rfl trivial (rfl)
      refine stepsM_cons rfl rfl ?_ ?_
      ·intro X ext HD hleD _
       replace hs := hs.mono hleD; replace hp := hp.mono hleD; replace hpY := hpY.mono hleD; replace hle0 := hle0.trans hleD; refine withP_nil rfl ?_; refine XO.move rfl rfl ?_; refine XO.nil ?_; exact stepQN_ok rfl trivial (rfl)
      refine stepsM_cons rfl rfl ?_ ?_
      ·intro X ext HD hleD _
       replace hs := hs.mono hleD; replace hp := hp.mono hleD; replace hpY := hpY.mono hleD; replace hle0 := hle0.trans hleD; refine withP_cons rfl rfl ?_; rintro _ rfl; refine withP_cons rfl rfl ?_; rintro _ rfl; refine withP_nil rfl ?_; refine XO.indexE rfl rfl Try.underlying22 ty_41 (by omega) (by omega) rfl ?_; refine XO.nil ?_; exact stepQN_ok rfl trivial (rfl)
      refine stepsM_cons rfl rfl ?_ ?_
      ·intro X ext HD hleD _
       replace hs := hs.mono hleD; replace hp := hp.mono hleD; replace hpY := hpY.mono hleD; replace hle0 := hle0.trans hleD; refine withP_cons rfl rfl ?_; rintro _ rfl; refine withP_nil rfl ?_; refine XO.fieldAddr rfl fa_41_0 rfl ?_; refine XO.nil ?_; exact stepQN_ok rfl trivial (rfl)
      refine stepsM_cons rfl rfl ?_ ?_
      ·intro X ext HD hleD _
       replace hs := hs.mono hleD; replace hp := hp.mono hleD; replace hpY := hpY.mono hleD; replace hle0 := hle0.trans hleD; refine withP_cons rfl rfl ?_; rintro _ rfl; refine withP_nil rfl ?_; refine XO.loadHF rfl (by assumption) ty_3 rfl rfl rfl ?_; refine XO.nil ?_; exact stepQN_ok rfl trivial (rfl)
      refine stepsM_cons rfl rfl ?_ ?_
      ·intro X ext HD hleD _
       replace hs := hs.mono hleD; replace hp := hp.mono hleD; replace hpY := hpY.mono hleD; replace hle0 := hle0.trans hleD; refine withP_cons rfl rfl ?_; rintro _ rfl; refine withP_nil rfl ?_; refine XO.buildSlice rfl Try.underlying25 ty_3 ze_3 rfl rfl rfl (fun b62 => ?_); refine XO.publish 0 rfl rfl rfl (fun HP62 oP62 hleP62 hbP62 hoP62 => ?_)
       have hsl62 := SlR.lit (ρ := (intR .i64)) (l := [xX.No]) hbP62 hoP62 (RowsR.one1 rfl)
       replace hs := hs.mono hleP62; replace hp := hp.mono hleP62; replace hpY := hpY.mono hleP62; replace hle0 := hle0.trans hleP62; refine XO.nil ?_
       exact stepQN_ok rfl trivial (⟨_, rfl, hsl62⟩)
      refine stepsM_mod rfl rfl ?_ ?_
      ·intro X ext p HD hleD _
       replace hs := hs.mono hleD; replace hp := hp.mono hleD; replace hpY := hpY.mono hleD; replace hle0 := hle0.trans hleD; refine withP_cons rfl rfl ?_; rintro _ _; refine withP_cons rfl rfl ?_; rintro _ ⟨bs62, rfl, hsl62⟩; refine withP_nil rfl ?_
       intro hfo
       obtain ⟨ab, cb, rfl, haccb⟩ := hfo _ _ rfl rfl; refine XO.appendA 0 rfl rfl haccb rfl rfl hsl62 rfl Try.underlying25 ty_3 ze_3 rfl by_3 (by simp; omega) rfl (fun pc ac cc haccc => ?_); refine XO.publishA 0 rfl haccc rfl (fun HQ hleQ hsQ => ?_); refine XO.open0 (σ := []) (fun b0 => ?_); refine XO.nil ?_
       exact stepQM_ok trivial (⟨_, _, rfl, hsQ⟩) (fun u t h1 h2 => rfl)
      refine stepsM_cons rfl rfl ?_ ?_
      ·intro X ext HD hleD _
       replace hs := hs.mono hleD; replace hp := hp.mono hleD; replace hpY := hpY.mono hleD; replace hle0 := hle0.trans hleD; refine withP_nil rfl ?_; refine XO.move rfl rfl ?_; refine XO.nil ?_; exact stepQN_ok rfl trivial (rfl)
      refine stepsM_cons rfl rfl ?_ ?_
      ·intro X ext HD hleD _
       replace hs := hs.mono hleD; replace hp := hp.mono hleD; replace hpY := hpY.mono hleD; replace hle0 := hle0.trans hleD; refine withP_cons rfl rfl ?_; rintro _ rfl; refine withP_cons rfl rfl ?_; rintro _ rfl; refine withP_cons rfl rfl ?_; rintro _ rfl; refine withP_cons rfl rfl ?_; rintro _ ⟨a63, c63, rfl, hsl63⟩; refine withP_cons rfl rfl ?_; rintro _ rfl; refine withP_nil rfl ?_
       have hcall := ih d (by omega) (p ++ [xX.No]) _ _ _ _ _ (by simp; omega) hs hsl63
       refine XO.callH rfl hcall rfl ?_; rintro _ HF hleF ⟨aF, cF, rfl, hF⟩; replace hs := hs.mono hleF; replace hp := hp.mono hleF; replace hpY := hpY.mono hleF; replace hsl63 := hsl63.mono hleF; replace hle0 := hle0.trans hleF; refine XO.nil ?_
       exact stepQN_ok rfl trivial (⟨_, _, rfl, hF⟩)
      refine stepsM_cons rfl rfl ?_ ?_
      ·intro X ext HD hleD _
       replace hs := hs.mono hleD; replace hp := hp.mono hleD; replace hpY := hpY.mono hleD; replace hle0 := hle0.trans hleD; refine withP_cons rfl rfl ?_; rintro _ ⟨aF, cF, rfl, hF⟩; refine withP_nil rfl ?_; refine XO.move rfl rfl ?_; refine XO.nil ?_
       exact stepQN_ok rfl trivial (⟨_, _, rfl, hF⟩)
      refine stepsM_cons rfl rfl ?_ ?_
      ·intro X ext HD hleD _
       replace hs := hs.mono hleD; replace hp := hp.mono hleD; replace hpY := hpY.mono hleD; replace hle0 := hle0.trans hleD; refine withP_cons rfl rfl ?_; rintro _ ⟨aG, cG, rfl, hG⟩; refine withP_nil rfl ?_; refine XO.extract rfl rfl rfl ?_; refine XO.nil ?_
       exact stepQN_ok rfl trivial (⟨_, _, rfl, hG⟩)
      refine stepsM_cons rfl rfl ?_ ?_
      ·intro X ext HD hleD _
       replace hs := hs.mono hleD; replace hp := hp.mono hleD; replace hpY := hpY.mono hleD; replace hle0 := hle0.trans hleD; refine withP_cons rfl rfl ?_; rintro _ ⟨aG, cG, rfl, hG⟩; refine withP_nil rfl ?_; refine XO.extract rfl rfl rfl ?_; refine XO.nil ?_; exact stepQN_ok rfl trivial (rfl)
      refine stepsM_cons rfl rfl ?_ ?_
      ·intro X ext HD hleD _
       replace hs := hs.mono hleD; replace hp := hp.mono hleD; replace hpY := hpY.mono hleD; replace hle0 := hle0.trans hleD; refine withP_cons rfl rfl ?_; rintro _ ⟨a66, c66, rfl, hsl66⟩; refine withP_nil rfl ?_; refine XO.assign rfl rfl ?_; refine XO.nil ?_
       exact stepQN_ok rfl trivial (⟨_, _, rfl, hsl66⟩)
      exact stepsM_end rfl
     case tail27 =>
      intro HD hleD _
      replace hs := hs.mono hleD; replace hp := hp.mono hleD; replace hpY := hpY.mono hleD; replace hle0 := hle0.trans hleD; refine withP_cons rfl rfl ?_; rintro _ rfl; refine withP_cons rfl rfl ?_; rintro _ rfl; refine withP_cons rfl rfl ?_; rintro _ rfl; refine withP_cons rfl rfl ?_; rintro _ ⟨bs54, rfl, hsl54⟩; refine withP_cons rfl rfl ?_; rintro _ rfl; refine withP_cons rfl rfl ?_; rintro _ _; refine withP_cons rfl rfl ?_; rintro _ rfl; refine withP_cons rfl rfl ?_; rintro _ rfl; refine withP_cons rfl rfl ?_; rintro _ rfl; refine withP_cons rfl rfl ?_; rintro _ rfl; refine withP_cons rfl rfl ?_; rintro _ rfl; refine withP_cons rfl rfl ?_; rintro _ ⟨bs62, rfl, hsl62⟩; refine withP_cons rfl rfl ?_; rintro _ ⟨a63, c63, rfl, hsl63⟩; refine withP_cons rfl rfl ?_; rintro _ rfl; refine withP_cons rfl rfl ?_; rintro _ ⟨aF, cF, rfl, hF⟩; refine withP_cons rfl rfl ?_; rintro _ ⟨aG, cG, rfl, hG⟩; refine withP_cons rfl rfl ?_; rintro _ ⟨a66, c66, rfl, hsl66⟩; refine withP_cons rfl rfl ?_; rintro _ rfl; refine withP_cons rfl rfl ?_; rintro _ ⟨a13, c13, rfl, hsl13⟩; refine withP_nil rfl ?_; refine withEnts_cons ?_
      intro pe hpe
      refine withEnts_nil ?_; refine XO.assign rfl rfl ?_; refine XO.nil ?_; refine XC.seq2 ?_; refine XC.seq ?_; refine XC.region ?_; refine XO.move rfl rfl ?_; refine XO.nil ?_; refine XC.seq2 ?_; refine XC.condB rfl (fun c3_31 => ?_) (fun c3_31 => ?_)
      ·refine XC.seq ?_; refine XC.region ?_; refine XO.move rfl rfl ?_; refine XO.assign rfl rfl ?_; refine XO.assign rfl rfl ?_; refine XO.nil ?_; refine XC.seq2 ?_; refine XC.ret ?_; refine blockR ?_; refine seqX_ret ?_; refine loopX_ret ?_; refine blockR ?_; refine seqX_ret ?_; refine ⟨rfl, _, [], rfl, (by repeat (first | exact List.Sublist.refl _ | apply List.Sublist.cons_cons | apply List.Sublist.cons)), RetR.mk ?_⟩
       first | exact ExtU.of rfl hp | exact ExtU.of (ext_y hno hxX (extG_y (fun h => by first | omega | exact h.2.elim (fun h2 => by omega) (by assumption)) (by assumption))) (by assumption) | exact ExtU.of (ext_n hno) (SlR.nil0 _ _)
      ·refine XC.skip ?_; refine blockN ?_; refine XC.seq2 ?_; refine XC.region ?_; refine XO.move rfl rfl ?_; refine XO.add rfl rfl (wrap_i64 (by omega) (by omega)) rfl ?_; refine XO.assign rfl rfl ?_; refine XO.nil ?_; refine loop_next (k + 1) (by show l.length - (k + 1) < l.length - k; omega) (prov_cons (rfl) (prov_cons (rfl) (prov_cons (rfl) (prov_cons (rfl) (prov_cons (rfl) (prov_cons (rfl) prov_nil)))))) (⟨by show k + 1 ≤ l.length; omega, rfl, all_snocP (p := fun g => extG l x y many d p g = none) hno hxX (by first | exact extG_skip (by omega) (Or.inl (by omega)) | exact extG_skip (by omega) (Or.inr (by assumption)) | exact extG_n (by assumption))⟩) (by repeat (first | exact List.Sublist.refl _ | apply List.Sublist.cons_cons | apply List.Sublist.cons)) (hle0)
  ·obtain rfl : k = l.length := by omega
   rw [List.take_length] at hno
   refine XC.exit ?_; refine seqX_exit ?_; refine loopX_exit ?_; refine blockHit rfl ?_; refine XC.seq2 ?_; refine XC.seq ?_; refine XC.region ?_; refine XO.assign rfl rfl ?_; refine XO.assign rfl rfl ?_; refine XO.nil ?_; refine XC.seq2 ?_; refine XC.ret ?_; refine ⟨rfl, _, [], rfl, (by repeat (first | exact List.Sublist.refl _ | apply List.Sublist.cons_cons | apply List.Sublist.cons)), RetR.mk ?_⟩
   first | exact ExtU.of rfl hp | exact ExtU.of (ext_y hno hxX (extG_y (fun h => by first | omega | exact h.2.elim (fun h2 => by omega) (by assumption)) (by assumption))) (by assumption) | exact ExtU.of (ext_n hno) (SlR.nil0 _ _)

end Go.Proofs

/- Conflicts: the reference's answer, in plain Lean. -/
set_option autoImplicit false
set_option linter.unusedVariables false
set_option linter.unusedSimpArgs false
namespace Go.Proofs
open Go.XL
theorem chkF_0 {l : Fs} (h : chkF l = 0) : l.length ≤ 1024 ∧ okB (-1) l = true := by
 unfold chkF at h
 split at h
 ·cases h
 ·split at h
  ·rename_i h1 h2; exact ⟨by omega, h2⟩
  ·cases h
theorem errC_0 {l : Fs} {a b day time : Int} (h : errC l a b day time = 0) : chkF l = 0 ∧ (((((idP a ∧ idP b) ∧ 0 ≤ day) ∧ day < 2097152) ∧ 0 ≤ time) ∧ time < 2097152) := by
 unfold errC at h
 split at h
 ·rename_i h1
  split at h
  ·rename_i h2; exact ⟨h1, h2⟩
  ·cases h
 ·rename_i h1; exact absurd h h1
def tryF (X : Fs) (a b : Int) (m : Nat) : Option (List Int) := if (extF X a b m m []).2 = true then some (extF X a b m m []).1 else none
def srcF (X : Fs) (a b : Int) : Option (List Int) := (List.range (X.length + 1)).findSome? (tryF X a b)
def cnfR (l : Fs) (a b day time : Int) : Option (List Int) := if errC l a b day time = 0 then srcF (cntF l day time) a b else none
def CnfU (o : Option (List Int)) (e : Int) (H : Hp) (v : Value) : Prop := ∃ a c, v = .tuple #[.slice a (o.getD []).length c, .bool o.isSome, .int .i64 e] ∧ SlR (intR .i64) H a c (o.getD [])
theorem CnfU.no {o : Option (List Int)} {e e2 : Int} {H : Hp} (h : o = none) (he : e2 = e) : CnfU o e H (.tuple #[.slice none 0 0, .bool false, .int .i64 e2]) := by subst h; subst he; exact ⟨none, 0, rfl, SlR.nil0 _ _⟩
theorem CnfU.yes {o : Option (List Int)} {q : List Int} {e : Int} {H : Hp} {a : Option Addr} {c : Nat} (h : o = some q) (he : e = 0) (hs : SlR (intR .i64) H a c q) : CnfU o e H (.tuple #[.slice a q.length c, .bool true, .int .i64 0]) := by subst h; subst he; exact ⟨a, c, rfl, hs⟩
theorem range_find {α : Type} {f : Nat → Option α} {M k : Nat} {y : α} (hk : k < M) (h : ∀ i, i < k → f i = none) (hf : f k = some y) : (List.range M).findSome? f = some y := by
 obtain ⟨d, rfl⟩ : ∃ d, M = k + (d + 1) := ⟨M - k - 1, by omega⟩
 rw [List.range_add, List.findSome?_append, List.findSome?_eq_none_iff.2 (fun x hx => h x (List.mem_range.1 hx)), Option.none_or, List.range_succ_eq_map]
 simp [hf]
section
variable {l : Fs} {a b day time : Int} {k : Nat}
theorem cnf_e (h : errC l a b day time ≠ 0) : cnfR l a b day time = none := if_neg h
theorem cnf_y (he : errC l a b day time = 0) (hk : k < (cntF l day time).length + 1) (h : ∀ i, i < k → tryF (cntF l day time) a b i = none) (h2 : (extF (cntF l day time) a b k k []).2 = true) : cnfR l a b day time = some (extF (cntF l day time) a b k k []).1 := by
 rw [cnfR, if_pos he]; exact range_find hk h (by rw [tryF, if_pos h2])
theorem cnf_n (he : errC l a b day time = 0) (h : ∀ i, i < (cntF l day time).length + 1 → tryF (cntF l day time) a b i = none) : cnfR l a b day time = none := by
 rw [cnfR, if_pos he]; exact List.findSome?_eq_none_iff.2 fun i hi => h i (List.mem_range.1 hi)
theorem try_n {X : Fs} (h2 : (extF X a b k k []).2 = false) : tryF X a b k = none := by rw [tryF, if_neg (by rw [h2]; decide)]
theorem cntF_len (l : Fs) (day time : Int) : (cntF l day time).length ≤ l.length := List.length_filter_le _ _
end
end Go.Proofs

/- The walks of the functions of conflicts: what each of them computes, at any input. -/
set_option autoImplicit false
set_option linter.unusedVariables false
set_option linter.unusedSimpArgs false
namespace Go.Proofs
open Go.XL



theorem rconf_fn (a : Option Addr) (c : Nat) (l : Fs) (H : Hp) (hs : SlR faR H a c l) (hl : l.length < 9223372036854775808) (x y day time : Int) : FnC Try.prog 13 #[.slice a l.length c, .int .i64 x, .int .i64 y, .int .i64 day, .int .i64 time] H [] (RetR (fun v H2 _ => CnfU (cnfR l x y day time) (errC l x y day time) H2 v)) := by
 refine FnC.intro (args := [.slice a l.length c, .int .i64 x, .int .i64 y, .int .i64 day, .int .i64 time]) Try.func13 rfl rfl Try.ntmps13 rfl rfl rfl fun G rest => ?_
 refine XC.seq ?_; refine XC.region ?_; refine XO.assign rfl rfl ?_; refine XO.assign rfl rfl ?_; refine XO.assign rfl rfl ?_; refine XO.nil ?_; refine XC.seq2 ?_; refine XC.seq ?_; refine XC.region ?_; refine XO.move rfl rfl ?_; refine XO.move rfl rfl ?_; refine XO.move rfl rfl ?_; refine XO.move rfl rfl ?_; refine XO.move rfl rfl ?_; refine XO.callV rfl (rerr_fn _ _ l _ hs hl x y day time) rfl ?_; refine XO.assign rfl rfl ?_; refine XO.nil ?_; refine XC.seq2 ?_; refine XC.seq ?_; refine XC.seq ?_; refine XC.region ?_; refine XO.move rfl rfl ?_; refine XO.neq rfl rfl rfl ?_; refine XO.nil ?_; refine XC.seq2 ?_; refine XC.cond rfl (fun c0_2 => ?_) (fun c0_2 => ?_)
 ·refine XC.seq ?_; refine XC.region ?_; refine XO.move rfl rfl ?_; refine XO.assign rfl rfl ?_; refine XO.assign rfl rfl ?_; refine XO.assign rfl rfl ?_; refine XO.nil ?_; refine XC.seq2 ?_; refine XC.ret ?_; refine seqX_ret ?_; refine ⟨rfl, _, [], rfl, (by repeat (first | exact List.Sublist.refl _ | apply List.Sublist.cons)), RetR.mk ?_⟩
  first | exact CnfU.no (cnf_e (by assumption)) rfl | exact CnfU.yes (cnf_y hE (by omega) hno (by assumption)) hE hF | exact CnfU.no (cnf_n hE hno) hE.symm
 ·have hE : errC l x y day time = 0 := by omega
  have hlx := (chkF_0 (errC_0 hE).1).1
  have hcx := cntF_len l day time
  refine XC.skip ?_; refine XC.seq2 ?_; refine XC.seq ?_; refine XC.region ?_; refine XO.move rfl rfl ?_; refine XO.move rfl rfl ?_; refine XO.move rfl rfl ?_; refine XO.callH rfl (rcounting_fn _ _ l _ hs hl (by omega) day time) rfl ?_; rintro _ HC hleC ⟨aC, cC, rfl, hC⟩; replace hs := hs.mono hleC; refine XO.assign rfl rfl ?_; refine XO.nil ?_; refine XC.seq2 ?_; refine XC.seq ?_; refine XC.seq ?_; refine XC.region ?_; refine XO.assign rfl rfl ?_; refine XO.nil ?_; refine XC.seq2 ?_; refine XC.block ?_; refine XC.keep [15, 1, 2, 14] rfl ?_; refine XC.loop (base := [(1, _), (2, _), (14, _)]) (fun ζ : Nat => [(15, .int .i64 (ζ : Nat))]) (fun ζ Hl own => ζ ≤ ((cntF l day time).length + 1) ∧ rest = own ∧ (∀ i, i < ζ → tryF (cntF l day time) x y i = none)) (fun ζ => ((cntF l day time).length + 1) - ζ) 0 (prov_cons (rfl) (prov_cons (rfl) (prov_cons (rfl) (prov_cons (rfl) prov_nil)))) (by repeat (first | exact List.Sublist.refl _ | apply List.Sublist.cons_cons | apply List.Sublist.cons)) ⟨Nat.zero_le _, rfl, fun i hi => absurd hi (by omega)⟩ ?_; rintro k Hl0 _ hle0 ⟨hkk, rfl, hno⟩; replace hs := hs.mono hle0; replace hC := hC.mono hle0
  try dsimp only at ⊢
  refine XC.seq ?_; refine XC.seq ?_; refine XC.region ?_; refine XO.move rfl rfl ?_; refine XO.move rfl rfl ?_; refine XO.lenS (ts := #[]) rfl Try.underlying22 rfl ?_; refine XO.leq rfl rfl rfl ?_; refine XO.nil ?_; refine XC.seq2 ?_; refine XC.cond rfl (fun c1_4 => ?_) (fun c1_4 => ?_)
  ·refine XC.skip ?_; refine XC.seq2 ?_; refine XC.seq ?_; refine XC.block ?_; refine XC.seq ?_; refine XC.region ?_; refine XO.move rfl rfl ?_; refine XO.move rfl rfl ?_; refine XO.move rfl rfl ?_; refine XO.move rfl rfl ?_
   have hcall := ext_all (cntF l day time) x y k (by omega) (by omega) k [] _ none _ 0 _ (by simp) hC (SlR.nil0 _ _)
   refine XO.callH rfl hcall rfl ?_; rintro _ HF hleF ⟨aF, cF, rfl, hF⟩; replace hs := hs.mono hleF; replace hC := hC.mono hleF; replace hle0 := hle0.trans hleF; refine XO.move rfl rfl ?_; refine XO.extract rfl rfl rfl ?_; refine XO.extract rfl rfl rfl ?_; refine XO.assign rfl rfl ?_; refine XO.assign rfl rfl ?_; refine XO.nil ?_; refine XC.seq2 ?_; refine XC.seq ?_; refine XC.region ?_; refine XO.move rfl rfl ?_; refine XO.nil ?_; refine XC.seq2 ?_; refine XC.condB rfl (fun c2_6 => ?_) (fun c2_6 => ?_)
   ·refine XC.seq ?_; refine XC.region ?_; refine XO.move rfl rfl ?_; refine XO.assign rfl rfl ?_; refine XO.assign rfl rfl ?_; refine XO.assign rfl rfl ?_; refine XO.nil ?_; refine XC.seq2 ?_; refine XC.ret ?_; refine blockR ?_; refine seqX_ret ?_; refine loopX_ret ?_; refine blockR ?_; refine seqX_ret ?_; refine ⟨rfl, _, [], rfl, (by repeat (first | exact List.Sublist.refl _ | apply List.Sublist.cons)), RetR.mk ?_⟩
    first | exact CnfU.no (cnf_e (by assumption)) rfl | exact CnfU.yes (cnf_y hE (by omega) hno (by assumption)) hE hF | exact CnfU.no (cnf_n hE hno) hE.symm
   ·refine XC.skip ?_; refine blockN ?_; refine XC.seq2 ?_; refine XC.region ?_; refine XO.move rfl rfl ?_; refine XO.add rfl rfl (wrap_i64 (by omega) (by omega)) rfl ?_; refine XO.assign rfl rfl ?_; refine XO.nil ?_; refine loop_next (k + 1) (by show ((cntF l day time).length + 1) - (k + 1) < ((cntF l day time).length + 1) - k; omega) (prov_cons (rfl) (prov_cons (rfl) (prov_cons (rfl) (prov_cons (rfl) prov_nil)))) (⟨by show k + 1 ≤ ((cntF l day time).length + 1); omega, rfl, fun i hi => by by_cases he : i = k <;> first | (subst he; exact try_n (by assumption)) | exact hno i (by omega)⟩) (by repeat (first | exact List.Sublist.refl _ | apply List.Sublist.cons_cons | apply List.Sublist.cons)) (hle0)
  ·obtain rfl : k = (cntF l day time).length + 1 := by omega
   refine XC.exit ?_; refine seqX_exit ?_; refine loopX_exit ?_; refine blockHit rfl ?_; refine XC.seq2 ?_; refine XC.seq ?_; refine XC.region ?_; refine XO.assign rfl rfl ?_; refine XO.assign rfl rfl ?_; refine XO.assign rfl rfl ?_; refine XO.nil ?_; refine XC.seq2 ?_; refine XC.ret ?_; refine ⟨rfl, _, [], rfl, (by repeat (first | exact List.Sublist.refl _ | apply List.Sublist.cons)), RetR.mk ?_⟩
   first | exact CnfU.no (cnf_e (by assumption)) rfl | exact CnfU.yes (cnf_y hE (by omega) hno (by assumption)) hE hF | exact CnfU.no (cnf_n hE hno) hE.symm

end Go.Proofs

/- Conflicts: the reference's Proves, in plain Lean. -/
set_option autoImplicit false
set_option linter.unusedVariables false
set_option linter.unusedSimpArgs false
namespace Go.Proofs
open Go.XL
def prvR (l : Fs) (a b day time : Int) (p : List Int) : Bool := if errC l a b day time = 0 then prvF (cntF l day time) a b p else false
end Go.Proofs

/- The walks of the functions of conflicts: what each of them computes, at any input. -/
set_option autoImplicit false
set_option linter.unusedVariables false
set_option linter.unusedSimpArgs false
namespace Go.Proofs
open Go.XL



theorem rproves_fn (a ap : Option Addr) (c cp : Nat) (l : Fs) (p : List Int) (x y day time : Int) (H : Hp) (hs : SlR faR H a c l) (hp : SlR (intR .i64) H ap cp p) (hl : l.length < 9223372036854775808) (hpl : p.length ≤ 10000) : FnC Try.prog 18 #[.slice a l.length c, .int .i64 x, .int .i64 y, .int .i64 day, .int .i64 time, .slice ap p.length cp] H [] (RetR (fun v _ _ => v = .tuple #[.bool (prvR l x y day time p), .int .i64 (errC l x y day time)])) := by
 refine FnC.intro (args := [.slice a l.length c, .int .i64 x, .int .i64 y, .int .i64 day, .int .i64 time, .slice ap p.length cp]) Try.func18 rfl rfl Try.ntmps18 rfl rfl rfl fun G rest => ?_
 refine XC.seq ?_; refine XC.region ?_; refine XO.assign rfl rfl ?_; refine XO.assign rfl rfl ?_; refine XO.nil ?_; refine XC.seq2 ?_; refine XC.seq ?_; refine XC.region ?_; refine XO.move rfl rfl ?_; refine XO.move rfl rfl ?_; refine XO.move rfl rfl ?_; refine XO.move rfl rfl ?_; refine XO.move rfl rfl ?_; refine XO.callV rfl (rerr_fn _ _ l _ hs hl x y day time) rfl ?_; refine XO.assign rfl rfl ?_; refine XO.nil ?_; refine XC.seq2 ?_; refine XC.seq ?_; refine XC.seq ?_; refine XC.region ?_; refine XO.move rfl rfl ?_; refine XO.neq rfl rfl rfl ?_; refine XO.nil ?_; refine XC.seq2 ?_; refine XC.cond rfl (fun c0_2 => ?_) (fun c0_2 => ?_)
 ·refine XC.seq ?_; refine XC.region ?_; refine XO.move rfl rfl ?_; refine XO.assign rfl rfl ?_; refine XO.assign rfl rfl ?_; refine XO.nil ?_; refine XC.seq2 ?_; refine XC.ret ?_; refine seqX_ret ?_; refine ⟨rfl, _, [], rfl, (by repeat (first | exact List.Sublist.refl _ | apply List.Sublist.cons)), RetR.mk ?_⟩
  rw [prvR, if_neg (by assumption)]; rfl
 ·have hE : errC l x y day time = 0 := by omega
  have hlx := (chkF_0 (errC_0 hE).1).1
  have hcx := cntF_len l day time
  refine XC.skip ?_; refine XC.seq2 ?_; refine XC.seq ?_; refine XC.region ?_; refine XO.move rfl rfl ?_; refine XO.move rfl rfl ?_; refine XO.move rfl rfl ?_; refine XO.callH rfl (rcounting_fn _ _ l _ hs hl (by omega) day time) rfl ?_; rintro _ HC hleC ⟨aC, cC, rfl, hC⟩; replace hs := hs.mono hleC; replace hp := hp.mono hleC; refine XO.move rfl rfl ?_; refine XO.move rfl rfl ?_; refine XO.move rfl rfl ?_; refine XO.callV rfl (proves_fn _ _ _ _ (cntF l day time) p x y _ hC hp (by omega) hpl) rfl ?_; refine XO.assign rfl rfl ?_; refine XO.assign rfl rfl ?_; refine XO.nil ?_; refine XC.seq2 ?_; refine XC.ret ?_; refine ⟨rfl, _, [], rfl, (by repeat (first | exact List.Sublist.refl _ | apply List.Sublist.cons)), RetR.mk ?_⟩
  rw [prvR, if_pos hE, hE]; rfl

theorem few_fn (a b d : Option Addr) (c e g : Nat) (l : Fs) (m q : List Int) (H : Hp) (hs : SlR faR H a c l) (hm : SlR (intR .i64) H b e m) (hq : SlR (intR .i64) H d g q) : FnC Try.prog 11 #[.slice a l.length c, .slice b m.length e, .slice d q.length g] H [] (RetR (fun v _ _ => v = .bool (decide (((l.length ≤ 7 ∨ (1024 < l.length ∧ l.length ≤ 1100)) ∧ m.length ≤ 10) ∧ q.length ≤ 10)))) := by
 refine FnC.intro (args := [.slice a l.length c, .slice b m.length e, .slice d q.length g]) Try.func11 rfl rfl Try.ntmps11 rfl rfl rfl fun G rest => ?_
 refine XC.seq ?_; refine XC.region ?_; refine XO.assign rfl rfl ?_; refine XO.nil ?_; refine XC.seq2 ?_; refine XC.seq ?_; refine XC.region ?_; refine XO.move rfl rfl ?_; refine XO.lenS (ts := #[]) rfl Try.underlying22 rfl ?_; refine XO.leq rfl rfl rfl ?_; refine XO.move rfl rfl ?_; refine XO.guardC rfl rfl rfl rfl (fun g1 => ?_) (fun g1 => ?_)
 ·have g1p := of_decide_eq_false g1
  refine XO.move rfl rfl ?_; refine XO.guardT rfl rfl (g1) rfl ?_; refine XO.lenS (ts := #[]) rfl Try.underlying22 rfl ?_; refine XO.guardT rfl rfl (g1) rfl ?_; refine XO.gtr rfl rfl rfl ?_; refine XO.guardT rfl rfl (g1) rfl ?_; refine XO.move rfl rfl ?_; refine XO.guardC rfl rfl rfl rfl (fun g2 => ?_) (fun g2 => ?_)
  ·have g2p := of_decide_eq_true g2
   refine XO.move rfl rfl ?_; refine XO.guardT rfl rfl (g2) rfl ?_; refine XO.lenS (ts := #[]) rfl Try.underlying22 rfl ?_; refine XO.guardT rfl rfl (g2) rfl ?_; refine XO.leq rfl rfl rfl ?_; refine XO.guardT rfl rfl (g1) rfl ?_; refine XO.pickT rfl (g2) rfl rfl ?_; refine XO.pickF rfl (g1) rfl rfl ?_; refine XO.move rfl rfl ?_; refine XO.guardC rfl rfl rfl rfl (fun g3 => ?_) (fun g3 => ?_)
   ·have g3p := of_decide_eq_true g3
    refine XO.move rfl rfl ?_; refine XO.guardT rfl rfl (g3) rfl ?_; refine XO.lenS (ts := #[]) rfl Try.underlying25 rfl ?_; refine XO.guardT rfl rfl (g3) rfl ?_; refine XO.leq rfl rfl rfl ?_; refine XO.pickT rfl (g3) rfl rfl ?_; refine XO.move rfl rfl ?_; refine XO.guardC rfl rfl rfl rfl (fun g4 => ?_) (fun g4 => ?_)
    ·have g4p := of_decide_eq_true g4
     refine XO.move rfl rfl ?_; refine XO.guardT rfl rfl (g4) rfl ?_; refine XO.lenS (ts := #[]) rfl Try.underlying25 rfl ?_; refine XO.guardT rfl rfl (g4) rfl ?_; refine XO.leq rfl rfl rfl ?_; refine XO.pickT rfl (g4) rfl rfl ?_; refine XO.assign rfl rfl ?_; refine XO.nil ?_; refine XC.seq2 ?_; refine XC.ret ?_; refine ⟨rfl, _, [], rfl, (by repeat (first | exact List.Sublist.refl _ | apply List.Sublist.cons)), RetR.mk ?_⟩
     first | rfl | exact congrArg Value.bool (decide_eq_decide.2 (by omega)) | exact congrArg Value.bool (decide_eq_false (by omega)).symm | exact congrArg Value.bool (decide_eq_true (by omega)).symm
    ·have g4p := of_decide_eq_false g4
     refine XO.guardF rfl rfl (g4) rfl rfl ?_; refine XO.guardF rfl rfl (g4) rfl rfl ?_; refine XO.pickF rfl (g4) rfl rfl ?_; refine XO.assign rfl rfl ?_; refine XO.nil ?_; refine XC.seq2 ?_; refine XC.ret ?_; refine ⟨rfl, _, [], rfl, (by repeat (first | exact List.Sublist.refl _ | apply List.Sublist.cons)), RetR.mk ?_⟩
     first | rfl | exact congrArg Value.bool (decide_eq_decide.2 (by omega)) | exact congrArg Value.bool (decide_eq_false (by omega)).symm | exact congrArg Value.bool (decide_eq_true (by omega)).symm
   ·have g3p := of_decide_eq_false g3
    refine XO.guardF rfl rfl (g3) rfl rfl ?_; refine XO.guardF rfl rfl (g3) rfl rfl ?_; refine XO.pickF rfl (g3) rfl rfl ?_; refine XO.move rfl rfl ?_; refine XO.guardF rfl rfl (rfl) rfl rfl ?_; refine XO.guardF rfl rfl (rfl) rfl rfl ?_; refine XO.guardF rfl rfl (rfl) rfl rfl ?_; refine XO.pickF rfl (rfl) rfl rfl ?_; refine XO.assign rfl rfl ?_; refine XO.nil ?_; refine XC.seq2 ?_; refine XC.ret ?_; refine ⟨rfl, _, [], rfl, (by repeat (first | exact List.Sublist.refl _ | apply List.Sublist.cons)), RetR.mk ?_⟩
    first | rfl | exact congrArg Value.bool (decide_eq_decide.2 (by omega)) | exact congrArg Value.bool (decide_eq_false (by omega)).symm | exact congrArg Value.bool (decide_eq_true (by omega)).symm
  ·have g2p := of_decide_eq_false g2
   refine XO.guardF rfl rfl (g2) rfl rfl ?_; refine XO.guardF rfl rfl (g2) rfl rfl ?_; refine XO.guardT rfl rfl (g1) rfl ?_; refine XO.pickF rfl (g2) rfl rfl ?_; refine XO.pickF rfl (g1) rfl rfl ?_; refine XO.move rfl rfl ?_; refine XO.guardF rfl rfl (rfl) rfl rfl ?_; refine XO.guardF rfl rfl (rfl) rfl rfl ?_; refine XO.guardF rfl rfl (rfl) rfl rfl ?_; refine XO.pickF rfl (rfl) rfl rfl ?_; refine XO.move rfl rfl ?_; refine XO.guardF rfl rfl (rfl) rfl rfl ?_; refine XO.guardF rfl rfl (rfl) rfl rfl ?_; refine XO.guardF rfl rfl (rfl) rfl rfl ?_; refine XO.pickF rfl (rfl) rfl rfl ?_; refine XO.assign rfl rfl ?_; refine XO.nil ?_; refine XC.seq2 ?_; refine XC.ret ?_; refine ⟨rfl, _, [], rfl, (by repeat (first | exact List.Sublist.refl _ | apply List.Sublist.cons)), RetR.mk ?_⟩
   first | rfl | exact congrArg Value.bool (decide_eq_decide.2 (by omega)) | exact congrArg Value.bool (decide_eq_false (by omega)).symm | exact congrArg Value.bool (decide_eq_true (by omega)).symm
 ·have g1p := of_decide_eq_true g1
  refine XO.guardF rfl rfl (g1) rfl rfl ?_; refine XO.guardF rfl rfl (g1) rfl rfl ?_; refine XO.guardF rfl rfl (g1) rfl rfl ?_; refine XO.guardU rfl rfl rfl rfl ?_; refine XO.guardU rfl rfl rfl rfl ?_; refine XO.guardU rfl rfl rfl rfl ?_; refine XO.guardF rfl rfl (g1) rfl rfl ?_; refine XO.pickT rfl (g1) rfl rfl ?_; refine XO.move rfl rfl ?_; refine XO.guardT rfl rfl (rfl) rfl ?_; refine XO.move rfl rfl ?_; refine XO.guardT rfl rfl (rfl) rfl ?_; refine XO.lenS (ts := #[]) rfl Try.underlying25 rfl ?_; refine XO.guardT rfl rfl (rfl) rfl ?_; refine XO.leq rfl rfl rfl ?_; refine XO.pickT rfl (rfl) rfl rfl ?_; refine XO.move rfl rfl ?_; refine XO.guardC rfl rfl rfl rfl (fun g5 => ?_) (fun g5 => ?_)
  ·have g5p := of_decide_eq_true g5
   refine XO.move rfl rfl ?_; refine XO.guardT rfl rfl (g5) rfl ?_; refine XO.lenS (ts := #[]) rfl Try.underlying25 rfl ?_; refine XO.guardT rfl rfl (g5) rfl ?_; refine XO.leq rfl rfl rfl ?_; refine XO.pickT rfl (g5) rfl rfl ?_; refine XO.assign rfl rfl ?_; refine XO.nil ?_; refine XC.seq2 ?_; refine XC.ret ?_; refine ⟨rfl, _, [], rfl, (by repeat (first | exact List.Sublist.refl _ | apply List.Sublist.cons)), RetR.mk ?_⟩
   first | rfl | exact congrArg Value.bool (decide_eq_decide.2 (by omega)) | exact congrArg Value.bool (decide_eq_false (by omega)).symm | exact congrArg Value.bool (decide_eq_true (by omega)).symm
  ·have g5p := of_decide_eq_false g5
   refine XO.guardF rfl rfl (g5) rfl rfl ?_; refine XO.guardF rfl rfl (g5) rfl rfl ?_; refine XO.pickF rfl (g5) rfl rfl ?_; refine XO.assign rfl rfl ?_; refine XO.nil ?_; refine XC.seq2 ?_; refine XC.ret ?_; refine ⟨rfl, _, [], rfl, (by repeat (first | exact List.Sublist.refl _ | apply List.Sublist.cons)), RetR.mk ?_⟩
   first | rfl | exact congrArg Value.bool (decide_eq_decide.2 (by omega)) | exact congrArg Value.bool (decide_eq_false (by omega)).symm | exact congrArg Value.bool (decide_eq_true (by omega)).symm

end Go.Proofs

/- The walks of the functions of conflicts: what each of them computes, at any input. -/
set_option autoImplicit false
set_option linter.unusedVariables false
set_option linter.unusedSimpArgs false
namespace Go.Proofs
open Go.XL

theorem fa_51_0 : fieldF Try.prog 51 0 = some 0 := by kernel_rfl
theorem ty_22 : tyF Try.prog 22 1 false = true := by kernel_rfl
theorem ty_51 : tyF Try.prog 51 1 true = true := by kernel_rfl
theorem ze_51 : zeroC Try.prog 51 = some [.slice none 0 0] := by kernel_rfl

theorem counting_fn (a : Option Addr) (c : Nat) (l : Fs) (H : Hp) (hs : SlR faR H a c l) (hl : l.length < 9223372036854775808) (hl2 : l.length ≤ 100000) (day time : Int) : FnC Try.prog 26 #[.slice a l.length c, .int .i64 day, .int .i64 time] H [] (RetR (fun v H2 _ => ∃ a2 c2, v = .agg ⟨[.slice a2 (cntF l day time).length c2]⟩ ∧ SlR faR H2 a2 c2 (cntF l day time))) := by
 refine FnC.introC (args := [.slice a l.length c, .int .i64 day, .int .i64 time]) Try.func26 rfl rfl Try.ntmps26 rfl rfl rfl fun G rest => ?_
 refine XC.seq ?_; refine XC.region ?_; refine XO.alloc ze_51 rfl (fun b6 => ?_); refine XO.nil ?_; refine XC.seq2 ?_; refine XC.seq ?_; refine XC.seq ?_; refine XC.region ?_; refine XO.move rfl rfl ?_; refine XO.lenS (ts := #[]) rfl Try.underlying22 rfl ?_; refine XO.open0 (σ := []) (fun b0 => ?_); refine XO.move rfl rfl ?_; refine XO.nil ?_; refine XC.seq2 ?_; refine XC.block ?_; refine XC.keep [11, 1, 2, 6, 9, 10] rfl ?_; refine XC.loop (base := [(1, _), (2, _), (6, _), (9, _), (10, _)]) (fun ζ : Nat × (Nat × SObj) × (Option Addr) × (Nat) × (Nat) => [(11, .int .i64 (ζ.1 : Nat))]) (fun ζ Hl own => ζ.1 ≤ l.length ∧ ζ.2.1 :: (b6, .cells 51 [.slice ζ.2.2.1 ζ.2.2.2.2 ζ.2.2.2.1]) :: rest = own ∧ (XL.Acc faR 41 Hl ζ.2.1 ζ.2.2.1 ζ.2.2.2.1 (cntF (l.take (ζ.1)) day time)) ∧ (ζ.2.2.2.2 = (cntF (l.take (ζ.1)) day time).length)) (fun ζ => l.length - ζ.1) (0, (b0, .nothing), none, 0, 0) (prov_cons (rfl) (prov_cons (rfl) (prov_cons (rfl) (prov_cons (rfl) (prov_cons (rfl) (prov_cons (rfl) prov_nil)))))) (by repeat (first | exact List.Sublist.refl _ | apply List.Sublist.cons_cons | apply List.Sublist.cons)) ⟨Nat.zero_le _, rfl, Acc.nil _ _ _ _, rfl⟩ ?_; rintro ⟨k, pk, ap, cp, nl⟩ Hl0 _ hle0 ⟨hkk, rfl, hacck, hnl⟩; replace hs := hs.mono hle0
 try dsimp only at hkk hacck hnl ⊢
 subst hnl
 refine XC.seq ?_; refine XC.region ?_; refine XO.lss rfl rfl rfl ?_; refine XO.nil ?_; refine XC.seq2 ?_; refine XC.seq ?_; refine XC.cond rfl (fun c0_1 => ?_) (fun c0_1 => ?_)
 ·refine XC.skip ?_; refine XC.seq2 ?_; refine XC.seq ?_; refine XC.block ?_; refine XC.seq ?_; refine XC.region ?_; refine XO.indexN rfl hs rfl Try.underlying22 ty_41 (by omega) rfl ?_; rintro eb13 eo13 _ x13 hx13 rfl hp13; refine XO.loadH rfl (by assumption) ty_41 rfl rfl rfl ?_; refine XO.alloc ze_41 rfl (fun b8 => ?_); refine XO.storeO 0 rfl rfl rfl rfl ty_41 rfl rfl rfl rfl rfl ?_; refine XO.nil ?_; refine XC.seq2 ?_; refine XC.seq ?_; refine XC.region ?_; refine XO.loadO 0 rfl rfl ty_41 rfl rfl rfl ?_; refine XO.move rfl rfl ?_; refine XO.move rfl rfl ?_; refine XO.callV rfl (counts_fn x13 day time _) rfl ?_; refine XO.nil ?_; refine XC.seq2 ?_; refine XC.cond rfl (fun c1_4 => ?_) (fun c1_4 => ?_)
  ·refine XC.region ?_; refine XO.fieldAddr rfl fa_51_0 rfl ?_; refine XO.loadO 2 rfl rfl ty_22 rfl rfl rfl ?_; refine XO.loadO 0 rfl rfl ty_41 rfl rfl rfl ?_; refine XO.buildSlice rfl Try.underlying22 ty_41 ze_41 rfl rfl rfl (fun b22 => ?_); refine XO.publish 0 rfl rfl rfl (fun HP22 oP22 hleP22 hbP22 hoP22 => ?_)
   have hsl22 := SlR.lit (ρ := faR) (l := [x13]) hbP22 hoP22 (RowsR.one1 rfl)
   replace hs := hs.mono hleP22; replace hacck := hacck.mono hleP22; replace hp13 := hp13.mono hleP22; replace hle0 := hle0.trans hleP22; refine XO.appendA 1 rfl rfl hacck rfl rfl hsl22 rfl Try.underlying22 ty_41 ze_41 rfl by_41 (by have := cnt_len l day time k; simp; omega) rfl (fun p23 a23 c23 hacc23 => ?_); refine XO.fieldAddr rfl fa_51_0 rfl ?_; refine XO.storeO 2 rfl rfl rfl rfl ty_22 rfl rfl rfl rfl rfl ?_; refine XO.nil ?_; refine blockN ?_; refine XC.seq2 ?_; refine XC.region ?_; refine XO.add rfl rfl (wrap_i64 (by omega) (by omega)) rfl ?_; refine XO.move rfl rfl ?_; refine XO.nil ?_; refine loop_next ((k + 1, p23, a23, c23, ((cntF (l.take k) day time) ++ [x13]).length)) (by show l.length - (k + 1) < l.length - k; omega) (prov_cons (rfl) (prov_cons (rfl) (prov_cons (rfl) (prov_cons (rfl) (prov_cons (rfl) (prov_cons (rfl) prov_nil)))))) (⟨by show k + 1 ≤ l.length; omega, rfl, by first | (rw [← cnt_y hx13 (by assumption)]; exact hacc23) | (rw [← cnt_n hx13 (by assumption)]; exact hacck), by first | (rw [← cnt_y hx13 (by assumption)]; done) | (rw [← cnt_n hx13 (by assumption)]; done)⟩) (by repeat (first | exact List.Sublist.refl _ | apply List.Sublist.cons_cons | apply List.Sublist.cons)) (hle0)
  ·refine XC.skip ?_; refine blockN ?_; refine XC.seq2 ?_; refine XC.region ?_; refine XO.add rfl rfl (wrap_i64 (by omega) (by omega)) rfl ?_; refine XO.move rfl rfl ?_; refine XO.nil ?_; refine loop_next ((k + 1, pk, ap, cp, (cntF (l.take k) day time).length)) (by show l.length - (k + 1) < l.length - k; omega) (prov_cons (rfl) (prov_cons (rfl) (prov_cons (rfl) (prov_cons (rfl) (prov_cons (rfl) (prov_cons (rfl) prov_nil)))))) (⟨by show k + 1 ≤ l.length; omega, rfl, by first | (rw [← cnt_y hx13 (by assumption)]; exact hacc23) | (rw [← cnt_n hx13 (by assumption)]; exact hacck), by first | (rw [← cnt_y hx13 (by assumption)]; done) | (rw [← cnt_n hx13 (by assumption)]; done)⟩) (by repeat (first | exact List.Sublist.refl _ | apply List.Sublist.cons_cons | apply List.Sublist.cons)) (hle0)
 ·obtain rfl : k = l.length := by omega
  rw [List.take_length] at hacck ⊢
  refine XC.exit ?_; refine seqX_exit ?_; refine loopX_exit ?_; refine blockHit rfl ?_; refine XC.seq2 ?_; refine XC.seq ?_; refine XC.region ?_; refine XO.publishA 0 rfl hacck rfl (fun HQ hleQ hsQ => ?_); replace hs := hs.mono hleQ; replace hle0 := hle0.trans hleQ; refine XO.loadO 0 rfl rfl ty_51 rfl rfl rfl ?_; refine XO.storeO 0 rfl rfl rfl rfl ty_51 rfl rfl rfl rfl rfl ?_; refine XO.nil ?_; refine XC.seq2 ?_; refine XC.ret ?_; refine ⟨rfl, _, [], (resC_cell 0 rfl rfl ty_51 rfl rfl resC_nil), (by repeat (first | exact List.Sublist.refl _ | apply List.Sublist.cons)), RetR.mk ?_⟩
  exact ⟨_, _, rfl, by assumption⟩

end Go.Proofs

/- The walks of the functions of conflicts: what each of them computes, at any input. -/
set_option autoImplicit false
set_option linter.unusedVariables false
set_option linter.unusedSimpArgs false
namespace Go.Proofs
open Go.XL

theorem ty_4 : tyF Try.prog 4 1 false = true := by kernel_rfl
theorem ty_45 : tyF Try.prog 45 1 false = true := by kernel_rfl

theorem sameT_fn (a b : Option Addr) (c d : Nat) (l m : List (List Bool)) (H : Hp) (hs : SlR (slR boolR) H a c l) (ht : SlR (slR boolR) H b d m) (hl : l.length < 9223372036854775808) (hw : ∀ x ∈ l, x.length < 9223372036854775808) : FnC Try.prog 21 #[.slice a l.length c, .slice b m.length d] H [] (RetR (fun v _ _ => v = .bool (decide (l = m)))) := by
 refine FnC.intro (args := [.slice a l.length c, .slice b m.length d]) Try.func21 rfl rfl Try.ntmps21 rfl rfl rfl fun G rest => ?_
 refine XC.seq ?_; refine XC.region ?_; refine XO.assign rfl rfl ?_; refine XO.nil ?_; refine XC.seq2 ?_; refine XC.seq ?_; refine XC.seq ?_; refine XC.region ?_; refine XO.move rfl rfl ?_; refine XO.lenS (ts := #[]) rfl Try.underlying34 rfl ?_; refine XO.move rfl rfl ?_; refine XO.lenS (ts := #[]) rfl Try.underlying34 rfl ?_; refine XO.neq rfl rfl rfl ?_; refine XO.nil ?_; refine XC.seq2 ?_; refine XC.cond rfl (fun c0_1 => ?_) (fun c0_1 => ?_)
 ·refine XC.seq ?_; refine XC.region ?_; refine XO.assign rfl rfl ?_; refine XO.nil ?_; refine XC.seq2 ?_; refine XC.ret ?_; refine seqX_ret ?_; refine ⟨rfl, _, [], rfl, (by repeat (first | exact List.Sublist.refl _ | apply List.Sublist.cons)), RetR.mk ?_⟩
  first | exact congrArg Value.bool (decide_eq_false (fun h => by have := congrArg List.length h; omega)).symm | exact congrArg Value.bool (decide_eq_false (fun h => by subst h; have h2 := Option.some.inj (hxX.symm.trans hxY); subst h2; first | exact absurd rfl (by assumption) | (have h3 := Option.some.inj (hxU.symm.trans hxV); simp_all))).symm | exact congrArg Value.bool (decide_eq_true (heq.trans (List.take_of_length_le (by omega)))).symm
 ·refine XC.skip ?_; refine XC.seq2 ?_; refine XC.seq ?_; refine XC.seq ?_; refine XC.region ?_; refine XO.assign rfl rfl ?_; refine XO.nil ?_; refine XC.seq2 ?_; refine XC.block ?_; refine XC.keep [5, 0, 1] rfl ?_; refine XC.loop (base := [(0, _), (1, _)]) (fun ζ : Nat => [(5, .int .i64 (ζ : Nat))]) (fun ζ Hl own => ζ ≤ l.length ∧ rest = own ∧ (l.take (ζ) = m.take (ζ))) (fun ζ => l.length - ζ) 0 (prov_cons (rfl) (prov_cons (rfl) (prov_cons (rfl) prov_nil))) (by repeat (first | exact List.Sublist.refl _ | apply List.Sublist.cons_cons | apply List.Sublist.cons)) ⟨Nat.zero_le _, rfl, by simp⟩ ?_; rintro i Hl0 _ hle0 ⟨hki, rfl, heq⟩; replace hs := hs.mono hle0; replace ht := ht.mono hle0
  try dsimp only at ⊢
  refine XC.seq ?_; refine XC.seq ?_; refine XC.region ?_; refine XO.move rfl rfl ?_; refine XO.move rfl rfl ?_; refine XO.lenS (ts := #[]) rfl Try.underlying34 rfl ?_; refine XO.lss rfl rfl rfl ?_; refine XO.nil ?_; refine XC.seq2 ?_; refine XC.cond rfl (fun c1_2 => ?_) (fun c1_2 => ?_)
  ·skip
   refine XC.skip ?_; refine XC.seq2 ?_; refine XC.seq ?_; refine XC.block ?_; refine XC.seq ?_; refine XC.seq ?_; refine XC.keep [0, 1, 5] rfl ?_; obtain ⟨bEX, oEX, rfl⟩ := hs.addr (by omega); obtain ⟨_, xX, hxX, ⟨axX, cxX, rfl, hdX⟩, hpX⟩ := hs.elem (i) (by omega); obtain ⟨bEY, oEY, rfl⟩ := ht.addr (by omega); obtain ⟨_, xY, hxY, ⟨axY, cxY, rfl, hdY⟩, hpY⟩ := ht.elem (i) (by omega)
   apply XC.draw 10 [eqF _, eqF _, eqF _, eqF _, eqF _, eqF _, eqF _, eqF _, eqF _, eqF _] follows (by kernel_rfl) (by kernel_rfl) ⟨eqF_mono _, eqF_mono _, eqF_mono _, eqF_mono _, eqF_mono _, eqF_mono _, eqF_mono _, eqF_mono _, eqF_mono _, eqF_mono _, trivial⟩ ?steps3 ?tail3
   case steps3 =>
    refine stepsK_cons rfl ?_ ?_
    ·intro X
     refine withPreds_nil rfl ?_; refine XO.move rfl rfl ?_; refine XO.nil ?_
     exact stepQ_ok rfl (rfl)
    refine stepsK_cons rfl ?_ ?_
    ·intro X
     refine withPreds_nil rfl ?_; refine XO.move rfl rfl ?_; refine XO.nil ?_
     exact stepQ_ok rfl (rfl)
    refine stepsK_cons rfl ?_ ?_
    ·intro X
     refine withPreds_cons rfl rfl ?_; rintro _ rfl; refine withPreds_cons rfl rfl ?_; rintro _ rfl; refine withPreds_nil rfl ?_; refine XO.indexE rfl rfl Try.underlying34 ty_45 (by omega) (by omega) rfl ?_; refine XO.nil ?_
     exact stepQ_ok rfl (rfl)
    refine stepsK_cons rfl ?_ ?_
    ·intro X
     refine withPreds_cons rfl rfl ?_; rintro _ rfl; refine withPreds_nil rfl ?_; refine XO.loadH rfl (by assumption) ty_45 rfl rfl rfl ?_; refine XO.nil ?_
     exact stepQ_ok rfl (rfl)
    refine stepsK_cons rfl ?_ ?_
    ·intro X
     refine withPreds_cons rfl rfl ?_; rintro _ rfl; refine withPreds_nil rfl ?_; refine XO.lenS (ts := #[]) rfl Try.underlying45 rfl ?_; refine XO.nil ?_
     exact stepQ_ok rfl (rfl)
    refine stepsK_cons rfl ?_ ?_
    ·intro X
     refine withPreds_nil rfl ?_; refine XO.move rfl rfl ?_; refine XO.nil ?_
     exact stepQ_ok rfl (rfl)
    refine stepsK_cons rfl ?_ ?_
    ·intro X
     refine withPreds_nil rfl ?_; refine XO.move rfl rfl ?_; refine XO.nil ?_
     exact stepQ_ok rfl (rfl)
    refine stepsK_cons rfl ?_ ?_
    ·intro X
     refine withPreds_cons rfl rfl ?_; rintro _ rfl; refine withPreds_cons rfl rfl ?_; rintro _ rfl; refine withPreds_nil rfl ?_; refine XO.indexE rfl rfl Try.underlying34 ty_45 (by omega) (by omega) rfl ?_; refine XO.nil ?_
     exact stepQ_ok rfl (rfl)
    refine stepsK_cons rfl ?_ ?_
    ·intro X
     refine withPreds_cons rfl rfl ?_; rintro _ rfl; refine withPreds_nil rfl ?_; refine XO.loadH rfl (by assumption) ty_45 rfl rfl rfl ?_; refine XO.nil ?_
     exact stepQ_ok rfl (rfl)
    refine stepsK_cons rfl ?_ ?_
    ·intro X
     refine withPreds_cons rfl rfl ?_; rintro _ rfl; refine withPreds_nil rfl ?_; refine XO.lenS (ts := #[]) rfl Try.underlying45 rfl ?_; refine XO.nil ?_
     exact stepQ_ok rfl (rfl)
    exact stepsD_end rfl
   case tail3 =>
    refine withPreds_cons rfl rfl ?_; rintro _ rfl; refine withPreds_cons rfl rfl ?_; rintro _ rfl; refine withPreds_cons rfl rfl ?_; rintro _ rfl; refine withPreds_cons rfl rfl ?_; rintro _ rfl; refine withPreds_cons rfl rfl ?_; rintro _ rfl; refine withPreds_cons rfl rfl ?_; rintro _ rfl; refine withPreds_cons rfl rfl ?_; rintro _ rfl; refine withPreds_cons rfl rfl ?_; rintro _ rfl; refine withPreds_cons rfl rfl ?_; rintro _ rfl; refine withPreds_cons rfl rfl ?_; rintro _ rfl; refine withPreds_nil rfl ?_; refine XO.neq rfl rfl rfl ?_; refine XO.nil ?_; refine XC.seq2 ?_; refine XC.cond rfl (fun c2_6 => ?_) (fun c2_6 => ?_)
    ·refine XC.seq ?_; refine XC.region ?_; refine XO.assign rfl rfl ?_; refine XO.nil ?_; refine XC.seq2 ?_; refine XC.ret ?_; refine seqX_ret ?_; refine blockR ?_; refine seqX_ret ?_; refine loopX_ret ?_; refine blockR ?_; refine seqX_ret ?_; refine ⟨rfl, _, [], rfl, (by repeat (first | exact List.Sublist.refl _ | apply List.Sublist.cons)), RetR.mk ?_⟩
     first | exact congrArg Value.bool (decide_eq_false (fun h => by have := congrArg List.length h; omega)).symm | exact congrArg Value.bool (decide_eq_false (fun h => by subst h; have h2 := Option.some.inj (hxX.symm.trans hxY); subst h2; first | exact absurd rfl (by assumption) | (have h3 := Option.some.inj (hxU.symm.trans hxV); simp_all))).symm | exact congrArg Value.bool (decide_eq_true (heq.trans (List.take_of_length_le (by omega)))).symm
    ·refine XC.skip ?_; refine XC.seq2 ?_; refine XC.seq ?_; refine XC.region ?_; refine XO.assign rfl rfl ?_; refine XO.nil ?_; refine XC.seq2 ?_; refine XC.block ?_; refine XC.keep [6, 0, 1, 5] rfl ?_
     have hxw := hw _ (List.mem_of_getElem? hxX)
     refine XC.loop (base := [(0, _), (1, _), (5, _)]) (fun ζ : Nat => [(6, .int .i64 (ζ : Nat))]) (fun ζ Hl own => ζ ≤ xX.length ∧ rest = own ∧ (xX.take (ζ) = xY.take (ζ))) (fun ζ => xX.length - ζ) 0 (prov_cons (rfl) (prov_cons (rfl) (prov_cons (rfl) (prov_cons (rfl) prov_nil)))) (by repeat (first | exact List.Sublist.refl _ | apply List.Sublist.cons_cons | apply List.Sublist.cons)) ⟨Nat.zero_le _, rfl, by simp⟩ ?_; rintro k Hl1 _ hle1 ⟨hkk, rfl, hrow⟩; replace hs := hs.mono hle1; replace ht := ht.mono hle1; replace hpX := hpX.mono hle1; replace hdX := hdX.mono hle1; replace hpY := hpY.mono hle1; replace hdY := hdY.mono hle1; replace hle0 := hle0.trans hle1
     try dsimp only at ⊢
     refine XC.seq ?_; refine XC.seq ?_; refine XC.region ?_; refine XO.move rfl rfl ?_; refine XO.move rfl rfl ?_; refine XO.move rfl rfl ?_; refine XO.indexN rfl hs rfl Try.underlying34 ty_45 (by omega) rfl ?_; rintro eb32 eo32 _ x32 hx32 ⟨ax32, cx32, rfl, hd32⟩ hp32; obtain rfl := Option.some.inj (hxX.symm.trans hx32); refine XO.loadH rfl (by assumption) ty_45 rfl rfl rfl ?_; refine XO.lenS (ts := #[]) rfl Try.underlying45 rfl ?_; refine XO.lss rfl rfl rfl ?_; refine XO.nil ?_; refine XC.seq2 ?_; refine XC.cond rfl (fun c3_8 => ?_) (fun c3_8 => ?_)
     ·refine XC.skip ?_; refine XC.seq2 ?_; refine XC.seq ?_; refine XC.block ?_; refine XC.seq ?_; refine XC.keep [0, 1, 5, 6] rfl ?_; obtain ⟨_, xR, hxR, ⟨axR, cxR, rfl, hdR⟩, hpR⟩ := hs.elem (i) (by omega); obtain ⟨_, xT, hxT, ⟨axT, cxT, rfl, hdT⟩, hpT⟩ := ht.elem (i) (by omega); obtain rfl := Option.some.inj (hxX.symm.trans hxR); obtain rfl := Option.some.inj (hxY.symm.trans hxT); obtain ⟨bEU, oEU, rfl⟩ := hdR.addr (by omega); obtain ⟨_, xU, hxU, rfl, hpU⟩ := hdR.elem k (by omega); obtain ⟨bEV, oEV, rfl⟩ := hdT.addr (by omega); obtain ⟨_, xV, hxV, rfl, hpV⟩ := hdT.elem k (by omega)
      apply XC.draw 14 [eqF _, eqF _, eqF _, eqF _, eqF _, eqF _, eqF _, eqF _, eqF _, eqF _, eqF _, eqF _, eqF _, eqF _] follows (by kernel_rfl) (by kernel_rfl) ⟨eqF_mono _, eqF_mono _, eqF_mono _, eqF_mono _, eqF_mono _, eqF_mono _, eqF_mono _, eqF_mono _, eqF_mono _, eqF_mono _, eqF_mono _, eqF_mono _, eqF_mono _, eqF_mono _, trivial⟩ ?steps9 ?tail9
      case steps9 =>
       refine stepsK_cons rfl ?_ ?_
       ·intro X
        refine withPreds_nil rfl ?_; refine XO.move rfl rfl ?_; refine XO.nil ?_
        exact stepQ_ok rfl (rfl)
       refine stepsK_cons rfl ?_ ?_
       ·intro X
        refine withPreds_nil rfl ?_; refine XO.move rfl rfl ?_; refine XO.nil ?_
        exact stepQ_ok rfl (rfl)
       refine stepsK_cons rfl ?_ ?_
       ·intro X
        refine withPreds_cons rfl rfl ?_; rintro _ rfl; refine withPreds_cons rfl rfl ?_; rintro _ rfl; refine withPreds_nil rfl ?_; refine XO.indexE rfl rfl Try.underlying34 ty_45 (by omega) (by omega) rfl ?_; refine XO.nil ?_
        exact stepQ_ok rfl (rfl)
       refine stepsK_cons rfl ?_ ?_
       ·intro X
        refine withPreds_cons rfl rfl ?_; rintro _ rfl; refine withPreds_nil rfl ?_; refine XO.loadH rfl (by assumption) ty_45 rfl rfl rfl ?_; refine XO.nil ?_
        exact stepQ_ok rfl (rfl)
       refine stepsK_cons rfl ?_ ?_
       ·intro X
        refine withPreds_nil rfl ?_; refine XO.move rfl rfl ?_; refine XO.nil ?_
        exact stepQ_ok rfl (rfl)
       refine stepsK_cons rfl ?_ ?_
       ·intro X
        refine withPreds_cons rfl rfl ?_; rintro _ rfl; refine withPreds_cons rfl rfl ?_; rintro _ rfl; refine withPreds_nil rfl ?_; refine XO.indexE rfl rfl Try.underlying45 ty_4 (by omega) (by omega) rfl ?_; refine XO.nil ?_
        exact stepQ_ok rfl (rfl)
       refine stepsK_cons rfl ?_ ?_
       ·intro X
        refine withPreds_cons rfl rfl ?_; rintro _ rfl; refine withPreds_nil rfl ?_; refine XO.loadH rfl (by assumption) ty_4 rfl rfl rfl ?_; refine XO.nil ?_
        exact stepQ_ok rfl (rfl)
       refine stepsK_cons rfl ?_ ?_
       ·intro X
        refine withPreds_nil rfl ?_; refine XO.move rfl rfl ?_; refine XO.nil ?_
        exact stepQ_ok rfl (rfl)
       refine stepsK_cons rfl ?_ ?_
       ·intro X
        refine withPreds_nil rfl ?_; refine XO.move rfl rfl ?_; refine XO.nil ?_
        exact stepQ_ok rfl (rfl)
       refine stepsK_cons rfl ?_ ?_
       ·intro X
        refine withPreds_cons rfl rfl ?_; rintro _ rfl; refine withPreds_cons rfl rfl ?_; rintro _ rfl; refine withPreds_nil rfl ?_; refine XO.indexE rfl rfl Try.underlying34 ty_45 (by omega) (by omega) rfl ?_; refine XO.nil ?_
        exact stepQ_ok rfl (rfl)
       refine stepsK_cons rfl ?_ ?_
       ·intro X
        refine withPreds_cons rfl rfl ?_; rintro _ rfl; refine withPreds_nil rfl ?_; refine XO.loadH rfl (by assumption) ty_45 rfl rfl rfl ?_; refine XO.nil ?_
        exact stepQ_ok rfl (rfl)
       refine stepsK_cons rfl ?_ ?_
       ·intro X
        refine withPreds_nil rfl ?_; refine XO.move rfl rfl ?_; refine XO.nil ?_
        exact stepQ_ok rfl (rfl)
       refine stepsK_cons rfl ?_ ?_
       ·intro X
        refine withPreds_cons rfl rfl ?_; rintro _ rfl; refine withPreds_cons rfl rfl ?_; rintro _ rfl; refine withPreds_nil rfl ?_; refine XO.indexE rfl rfl Try.underlying45 ty_4 (by omega) (by omega) rfl ?_; refine XO.nil ?_
        exact stepQ_ok rfl (rfl)
       refine stepsK_cons rfl ?_ ?_
       ·intro X
        refine withPreds_cons rfl rfl ?_; rintro _ rfl; refine withPreds_nil rfl ?_; refine XO.loadH rfl (by assumption) ty_4 rfl rfl rfl ?_; refine XO.nil ?_
        exact stepQ_ok rfl (rfl)
       exact stepsD_end rfl
      case tail9 =>
       refine withPreds_cons rfl rfl ?_; rintro _ rfl; refine withPreds_cons rfl rfl ?_; rintro _ rfl; refine withPreds_cons rfl rfl ?_; rintro _ rfl; refine withPreds_cons rfl rfl ?_; rintro _ rfl; refine withPreds_cons rfl rfl ?_; rintro _ rfl; refine withPreds_cons rfl rfl ?_; rintro _ rfl; refine withPreds_cons rfl rfl ?_; rintro _ rfl; refine withPreds_cons rfl rfl ?_; rintro _ rfl; refine withPreds_cons rfl rfl ?_; rintro _ rfl; refine withPreds_cons rfl rfl ?_; rintro _ rfl; refine withPreds_cons rfl rfl ?_; rintro _ rfl; refine withPreds_cons rfl rfl ?_; rintro _ rfl; refine withPreds_cons rfl rfl ?_; rintro _ rfl; refine withPreds_cons rfl rfl ?_; rintro _ rfl; refine withPreds_nil rfl ?_; refine XO.neqB rfl rfl Try.underlying4 rfl ?_; refine XO.nil ?_; refine XC.seq2 ?_; refine XC.condB rfl (fun c4_14 => ?_) (fun c4_14 => ?_)
       ·refine XC.seq ?_; refine XC.region ?_; refine XO.assign rfl rfl ?_; refine XO.nil ?_; refine XC.seq2 ?_; refine XC.ret ?_; refine blockR ?_; refine seqX_ret ?_; refine loopX_ret ?_; refine blockR ?_; refine blockR ?_; refine seqX_ret ?_; refine loopX_ret ?_; refine blockR ?_; refine seqX_ret ?_; refine ⟨rfl, _, [], rfl, (by repeat (first | exact List.Sublist.refl _ | apply List.Sublist.cons)), RetR.mk ?_⟩
        first | exact congrArg Value.bool (decide_eq_false (fun h => by have := congrArg List.length h; omega)).symm | exact congrArg Value.bool (decide_eq_false (fun h => by subst h; have h2 := Option.some.inj (hxX.symm.trans hxY); subst h2; first | exact absurd rfl (by assumption) | (have h3 := Option.some.inj (hxU.symm.trans hxV); simp_all))).symm | exact congrArg Value.bool (decide_eq_true (heq.trans (List.take_of_length_le (by omega)))).symm
       ·refine XC.skip ?_; refine blockN ?_; refine XC.seq2 ?_; refine XC.region ?_; refine XO.move rfl rfl ?_; refine XO.add rfl rfl (wrap_i64 (by omega) (by omega)) rfl ?_; refine XO.assign rfl rfl ?_; refine XO.nil ?_; refine loop_next (k + 1) (by show xX.length - (k + 1) < xX.length - k; omega) (prov_cons (rfl) (prov_cons (rfl) (prov_cons (rfl) (prov_cons (rfl) prov_nil)))) (⟨by show k + 1 ≤ xX.length; omega, rfl, by rw [take_snoc hxU, take_snoc hxV, hrow, show xU = xV by simp_all]⟩) (by repeat (first | exact List.Sublist.refl _ | apply List.Sublist.cons_cons | apply List.Sublist.cons)) (hle1)
     ·obtain rfl : k = xX.length := by omega
      rw [List.take_length, List.take_of_length_le (by omega)] at hrow
      refine XC.exit ?_; refine seqX_exit ?_; refine loopX_exit ?_; refine blockHit rfl ?_; refine blockN ?_; refine XC.seq2 ?_; refine XC.region ?_; refine XO.move rfl rfl ?_; refine XO.add rfl rfl (wrap_i64 (by omega) (by omega)) rfl ?_; refine XO.assign rfl rfl ?_; refine XO.nil ?_; refine loop_next (i + 1) (by show l.length - (i + 1) < l.length - i; omega) (prov_cons (rfl) (prov_cons (rfl) (prov_cons (rfl) prov_nil))) (⟨by show i + 1 ≤ l.length; omega, rfl, by rw [take_snoc hxX, take_snoc hxY, heq, hrow]⟩) (by repeat (first | exact List.Sublist.refl _ | apply List.Sublist.cons_cons | apply List.Sublist.cons)) (hle0)
  ·obtain rfl : i = l.length := by omega
   rw [List.take_length] at heq
   refine XC.exit ?_; refine seqX_exit ?_; refine loopX_exit ?_; refine blockHit rfl ?_; refine XC.seq2 ?_; refine XC.seq ?_; refine XC.region ?_; refine XO.assign rfl rfl ?_; refine XO.nil ?_; refine XC.seq2 ?_; refine XC.ret ?_; refine ⟨rfl, _, [], rfl, (by repeat (first | exact List.Sublist.refl _ | apply List.Sublist.cons)), RetR.mk ?_⟩
   first | exact congrArg Value.bool (decide_eq_false (fun h => by have := congrArg List.length h; omega)).symm | exact congrArg Value.bool (decide_eq_false (fun h => by subst h; have h2 := Option.some.inj (hxX.symm.trans hxY); subst h2; first | exact absurd rfl (by assumption) | (have h3 := Option.some.inj (hxU.symm.trans hxV); simp_all))).symm | exact congrArg Value.bool (decide_eq_true (heq.trans (List.take_of_length_le (by omega)))).symm

end Go.Proofs

/- Conflicts: the reference's table, in plain Lean. -/
set_option autoImplicit false
set_option linter.unusedVariables false
set_option linter.unusedSimpArgs false
namespace Go.Proofs
open Go.XL
def tabP (l : Fs) (es js : List Int) (day time : Int) : Prop := (es.length ≤ 4096 ∧ js.length ≤ 256 ∧ errC l 0 0 day time = 0) ∧ (∀ y ∈ es, idP y) ∧ ∀ y ∈ js, idP y
instance (l : Fs) (es js : List Int) (day time : Int) : Decidable (tabP l es js day time) := by unfold tabP; infer_instance
def tabE (l : Fs) (es js : List Int) (day time : Int) : Int := if chkF l = 0 then (if tabP l es js day time then 0 else 1) else chkF l
def tabT (l : Fs) (es js : List Int) (day time : Int) : List (List Bool) := if tabE l es js day time = 0 then es.map fun a => js.map fun b => (cnfR l a b day time).isSome else []
def TabU (l : Fs) (es js : List Int) (day time : Int) (H : Hp) (v : Value) : Prop := ∃ a c, v = .tuple #[.slice a (tabT l es js day time).length c, .int .i64 (tabE l es js day time)] ∧ SlR (slR boolR) H a c (tabT l es js day time)
theorem tab_no {l : Fs} {es js : List Int} {day time : Int} {H : Hp} {e : Int} (h : tabE l es js day time = e) (h0 : e ≠ 0) : TabU l es js day time H (.tuple #[.slice none 0 0, .int .i64 e]) := by
 have ht : tabT l es js day time = [] := by unfold tabT; rw [if_neg (by rw [h]; exact h0)]
 exact ⟨none, 0, by rw [ht, h]; rfl, by rw [ht]; exact SlR.nil0 _ _⟩
theorem TabU.e1 {l : Fs} {es js : List Int} {day time : Int} {H : Hp} (h : chkF l ≠ 0) : TabU l es js day time H (.tuple #[.slice none 0 0, .int .i64 (errC l 0 0 day time)]) := by
 have h1 : errC l 0 0 day time = chkF l := (err_chk h).symm
 rw [h1]; exact tab_no (by unfold tabE; rw [if_neg h]) h
theorem TabU.no {l : Fs} {es js : List Int} {day time : Int} {H : Hp} (hc : chkF l = 0) (h : ¬ tabP l es js day time) : TabU l es js day time H (.tuple #[.slice none 0 0, .int .i64 1]) :=
 tab_no (by unfold tabE; rw [if_pos hc, if_neg h]) (by decide)
theorem TabU.yes {l : Fs} {es js : List Int} {day time : Int} {H : Hp} {a : Option Addr} {c n : Nat} (hc : chkF l = 0) (he : errC l 0 0 day time = 0) (hn : es.length ≤ 4096 ∧ js.length ≤ 256) (h1 : ∀ y ∈ es, ¬ ¬ idP y) (h2 : ∀ y ∈ js, ¬ ¬ idP y)
  (hs : SlR (slR boolR) H a c (es.map fun a => js.map fun b => (cnfR l a b day time).isSome)) : TabU l es js day time H (.tuple #[.slice a (es.map fun a => js.map fun b => (cnfR l a b day time).isSome).length c, .int .i64 0]) := by
 have hp : tabP l es js day time := ⟨⟨hn.1, hn.2, he⟩, fun y hy => Decidable.not_not.1 (h1 y hy), fun y hy => Decidable.not_not.1 (h2 y hy)⟩
 have hE : tabE l es js day time = 0 := by unfold tabE; rw [if_pos hc, if_pos hp]
 have ht : tabT l es js day time = es.map fun a => js.map fun b => (cnfR l a b day time).isSome := by unfold tabT; rw [if_pos hE]
 exact ⟨a, c, by rw [ht, hE], by rw [ht]; exact hs⟩
end Go.Proofs

/- The walks of the functions of conflicts: what each of them computes, at any input. -/
set_option autoImplicit false
set_option linter.unusedVariables false
set_option linter.unusedSimpArgs false
namespace Go.Proofs
open Go.XL

theorem by_4 : Nat.ble (Try.prog.bytesOf 4) 4096 = true := by kernel_rfl
theorem by_45 : Nat.ble (Try.prog.bytesOf 45) 4096 = true := by kernel_rfl
theorem ze_4 : zeroC Try.prog 4 = some [.bool false] := by kernel_rfl
theorem ze_45 : zeroC Try.prog 45 = some [.slice none 0 0] := by kernel_rfl

set_option maxRecDepth 100000 in
set_option maxHeartbeats 1600000 in
theorem rtable_fn (a aE aJ : Option Addr) (c cE cJ : Nat) (l : Fs) (es js : List Int) (day time : Int) (H : Hp) (hs : SlR faR H a c l) (hes : SlR (intR .i64) H aE cE es) (hjs : SlR (intR .i64) H aJ cJ js) (hl : l.length < 9223372036854775808) (hel : es.length < 9223372036854775808) (hjl : js.length < 9223372036854775808) : FnC Try.prog 20 #[.slice a l.length c, .slice aE es.length cE, .slice aJ js.length cJ, .int .i64 day, .int .i64 time] H [] (RetR (fun v H2 _ => TabU l es js day time H2 v)) := by
 refine FnC.intro (args := [.slice a l.length c, .slice aE es.length cE, .slice aJ js.length cJ, .int .i64 day, .int .i64 time]) Try.func20 rfl rfl Try.ntmps20 rfl rfl rfl fun G rest => ?_
 refine XC.seq ?_; refine XC.region ?_; refine XO.assign rfl rfl ?_; refine XO.assign rfl rfl ?_; refine XO.nil ?_; refine XC.seq2 ?_; refine XC.seq ?_; refine XC.region ?_; refine XO.move rfl rfl ?_; refine XO.move rfl rfl ?_; refine XO.move rfl rfl ?_; refine XO.callV rfl (rerr_fn _ _ l _ hs hl 0 0 day time) rfl ?_; refine XO.assign rfl rfl ?_; refine XO.nil ?_; refine XC.seq2 ?_; refine XC.seq ?_; refine XC.seq ?_; refine XC.region ?_; refine XO.move rfl rfl ?_; refine XO.callV rfl (rcheck_fn _ _ l _ hs hl) rfl ?_; refine XO.neq rfl rfl rfl ?_; refine XO.nil ?_; refine XC.seq2 ?_; refine XC.cond rfl (fun c0_3 => ?_) (fun c0_3 => ?_)
 ·refine XC.seq ?_; refine XC.region ?_; refine XO.move rfl rfl ?_; refine XO.assign rfl rfl ?_; refine XO.assign rfl rfl ?_; refine XO.nil ?_; refine XC.seq2 ?_; refine XC.ret ?_; refine seqX_ret ?_; refine ⟨rfl, _, [], rfl, (by repeat (first | exact List.Sublist.refl _ | apply List.Sublist.cons)), RetR.mk ?_⟩
  first | exact TabU.e1 (by omega) | exact TabU.no hck (fun h => by have h5 := h.1; omega) | exact TabU.no hck (fun h => absurd (h.2.1 x50 (List.mem_of_getElem? hx50)) (by assumption)) | exact TabU.no hck (fun h => absurd (h.2.2 x62 (List.mem_of_getElem? hx62)) (by assumption)) | exact TabU.yes (n := 0) hck he0 (by omega) h1 h2 (by assumption)
 ·have hck : chkF l = 0 := by omega
  refine XC.skip ?_; refine XC.seq2 ?_; refine XC.seq ?_; refine XC.seq ?_; refine XC.region ?_; refine XO.move rfl rfl ?_; refine XO.lenS (ts := #[]) rfl Try.underlying25 rfl ?_; refine XO.gtr rfl rfl rfl ?_; refine XO.move rfl rfl ?_; refine XO.guardC rfl rfl rfl rfl (fun g4 => ?_) (fun g4 => ?_)
  ·have g4p := of_decide_eq_false g4
   refine XO.move rfl rfl ?_; refine XO.guardT rfl rfl (g4) rfl ?_; refine XO.lenS (ts := #[]) rfl Try.underlying25 rfl ?_; refine XO.guardT rfl rfl (g4) rfl ?_; refine XO.gtr rfl rfl rfl ?_; refine XO.pickF rfl (g4) rfl rfl ?_; refine XO.move rfl rfl ?_; refine XO.guardC rfl rfl rfl rfl (fun g5 => ?_) (fun g5 => ?_)
   ·have g5p := of_decide_eq_false g5
    refine XO.move rfl rfl ?_; refine XO.guardT rfl rfl (g5) rfl ?_; refine XO.neq rfl rfl rfl ?_; refine XO.pickF rfl (g5) rfl rfl ?_; refine XO.nil ?_; refine XC.seq2 ?_; refine XC.cond rfl (fun c1_6 => ?_) (fun c1_6 => ?_)
    ·refine XC.seq ?_; refine XC.region ?_; refine XO.assign rfl rfl ?_; refine XO.assign rfl rfl ?_; refine XO.nil ?_; refine XC.seq2 ?_; refine XC.ret ?_; refine seqX_ret ?_; refine ⟨rfl, _, [], rfl, (by repeat (first | exact List.Sublist.refl _ | apply List.Sublist.cons)), RetR.mk ?_⟩
     first | exact TabU.e1 (by omega) | exact TabU.no hck (fun h => by have h5 := h.1; omega) | exact TabU.no hck (fun h => absurd (h.2.1 x50 (List.mem_of_getElem? hx50)) (by assumption)) | exact TabU.no hck (fun h => absurd (h.2.2 x62 (List.mem_of_getElem? hx62)) (by assumption)) | exact TabU.yes (n := 0) hck he0 (by omega) h1 h2 (by assumption)
    ·have he0 : errC l 0 0 day time = 0 := by omega
     have hlx := (chkF_0 hck).1
     refine XC.skip ?_; refine XC.seq2 ?_; refine XC.seq ?_; refine XC.seq ?_; refine XC.region ?_; refine XO.assign rfl rfl ?_; refine XO.nil ?_; refine XC.seq2 ?_; refine XC.block ?_; refine XC.keep [13, 0, 1, 2, 3, 4] rfl ?_; refine XC.loop (base := [(0, _), (1, _), (2, _), (3, _), (4, _)]) (fun ζ : Nat => [(13, .int .i64 (ζ : Nat))]) (fun ζ Hl own => ζ ≤ es.length ∧ rest = own ∧ (∀ y ∈ es.take (ζ), ¬ ¬ idP y)) (fun ζ => es.length - ζ) 0 (prov_cons (rfl) (prov_cons (rfl) (prov_cons (rfl) (prov_cons (rfl) (prov_cons (rfl) (prov_cons (rfl) prov_nil)))))) (by repeat (first | exact List.Sublist.refl _ | apply List.Sublist.cons_cons | apply List.Sublist.cons)) ⟨Nat.zero_le _, rfl, by simp⟩ ?_; rintro k Hl0 _ hle0 ⟨hkk, rfl, h1⟩; replace hs := hs.mono hle0; replace hes := hes.mono hle0; replace hjs := hjs.mono hle0
     try dsimp only at ⊢
     refine XC.seq ?_; refine XC.seq ?_; refine XC.region ?_; refine XO.move rfl rfl ?_; refine XO.move rfl rfl ?_; refine XO.lenS (ts := #[]) rfl Try.underlying25 rfl ?_; refine XO.lss rfl rfl rfl ?_; refine XO.nil ?_; refine XC.seq2 ?_; refine XC.cond rfl (fun c2_7 => ?_) (fun c2_7 => ?_)
     ·refine XC.skip ?_; refine XC.seq2 ?_; refine XC.seq ?_; refine XC.block ?_; refine XC.seq ?_; refine XC.region ?_; refine XO.move rfl rfl ?_; refine XO.move rfl rfl ?_; refine XO.indexN rfl hes rfl Try.underlying25 ty_3 (by omega) rfl ?_; rintro eb50 eo50 _ x50 hx50 rfl hp50; refine XO.loadH rfl (by assumption) ty_3 rfl rfl rfl ?_; refine XO.callV rfl (rid_fn x50 _) rfl ?_; refine XO.not rfl rfl ?_; refine XO.nil ?_; refine XC.seq2 ?_; refine XC.cond rfl (fun c3_10 => ?_) (fun c3_10 => ?_)
      ·refine XC.seq ?_; refine XC.region ?_; refine XO.assign rfl rfl ?_; refine XO.assign rfl rfl ?_; refine XO.nil ?_; refine XC.seq2 ?_; refine XC.ret ?_; refine blockR ?_; refine seqX_ret ?_; refine loopX_ret ?_; refine blockR ?_; refine seqX_ret ?_; refine ⟨rfl, _, [], rfl, (by repeat (first | exact List.Sublist.refl _ | apply List.Sublist.cons)), RetR.mk ?_⟩
       first | exact TabU.e1 (by omega) | exact TabU.no hck (fun h => by have h5 := h.1; omega) | exact TabU.no hck (fun h => absurd (h.2.1 x50 (List.mem_of_getElem? hx50)) (by assumption)) | exact TabU.no hck (fun h => absurd (h.2.2 x62 (List.mem_of_getElem? hx62)) (by assumption)) | exact TabU.yes (n := 0) hck he0 (by omega) h1 h2 (by assumption)
      ·refine XC.skip ?_; refine blockN ?_; refine XC.seq2 ?_; refine XC.region ?_; refine XO.move rfl rfl ?_; refine XO.add rfl rfl (wrap_i64 (by omega) (by omega)) rfl ?_; refine XO.assign rfl rfl ?_; refine XO.nil ?_; refine loop_next (k + 1) (by show es.length - (k + 1) < es.length - k; omega) (prov_cons (rfl) (prov_cons (rfl) (prov_cons (rfl) (prov_cons (rfl) (prov_cons (rfl) (prov_cons (rfl) prov_nil)))))) (⟨by show k + 1 ≤ es.length; omega, rfl, all_snoc h1 hx50 (by assumption)⟩) (by repeat (first | exact List.Sublist.refl _ | apply List.Sublist.cons_cons | apply List.Sublist.cons)) (hle0)
     ·obtain rfl : k = es.length := by omega
      rw [List.take_length] at h1
      refine XC.exit ?_; refine seqX_exit ?_; refine loopX_exit ?_; refine blockHit rfl ?_; refine XC.seq2 ?_; refine XC.seq ?_; refine XC.seq ?_; refine XC.region ?_; refine XO.assign rfl rfl ?_; refine XO.nil ?_; refine XC.seq2 ?_; refine XC.block ?_; refine XC.keep [14, 0, 1, 2, 3, 4] rfl ?_; refine XC.loop (base := [(0, _), (1, _), (2, _), (3, _), (4, _)]) (fun ζ : Nat => [(14, .int .i64 (ζ : Nat))]) (fun ζ Hl own => ζ ≤ js.length ∧ rest = own ∧ (∀ y ∈ js.take (ζ), ¬ ¬ idP y)) (fun ζ => js.length - ζ) 0 (prov_cons (rfl) (prov_cons (rfl) (prov_cons (rfl) (prov_cons (rfl) (prov_cons (rfl) (prov_cons (rfl) prov_nil)))))) (by repeat (first | exact List.Sublist.refl _ | apply List.Sublist.cons_cons | apply List.Sublist.cons)) ⟨Nat.zero_le _, rfl, by simp⟩ ?_; rintro k Hl1 _ hle1 ⟨hkk, rfl, h2⟩; replace hs := hs.mono hle1; replace hes := hes.mono hle1; replace hjs := hjs.mono hle1; replace hle0 := hle0.trans hle1
      try dsimp only at ⊢
      refine XC.seq ?_; refine XC.seq ?_; refine XC.region ?_; refine XO.move rfl rfl ?_; refine XO.move rfl rfl ?_; refine XO.lenS (ts := #[]) rfl Try.underlying25 rfl ?_; refine XO.lss rfl rfl rfl ?_; refine XO.nil ?_; refine XC.seq2 ?_; refine XC.cond rfl (fun c4_11 => ?_) (fun c4_11 => ?_)
      ·refine XC.skip ?_; refine XC.seq2 ?_; refine XC.seq ?_; refine XC.block ?_; refine XC.seq ?_; refine XC.region ?_; refine XO.move rfl rfl ?_; refine XO.move rfl rfl ?_; refine XO.indexN rfl hjs rfl Try.underlying25 ty_3 (by omega) rfl ?_; rintro eb62 eo62 _ x62 hx62 rfl hp62; refine XO.loadH rfl (by assumption) ty_3 rfl rfl rfl ?_; refine XO.callV rfl (rid_fn x62 _) rfl ?_; refine XO.not rfl rfl ?_; refine XO.nil ?_; refine XC.seq2 ?_; refine XC.cond rfl (fun c5_14 => ?_) (fun c5_14 => ?_)
       ·refine XC.seq ?_; refine XC.region ?_; refine XO.assign rfl rfl ?_; refine XO.assign rfl rfl ?_; refine XO.nil ?_; refine XC.seq2 ?_; refine XC.ret ?_; refine blockR ?_; refine seqX_ret ?_; refine loopX_ret ?_; refine blockR ?_; refine seqX_ret ?_; refine ⟨rfl, _, [], rfl, (by repeat (first | exact List.Sublist.refl _ | apply List.Sublist.cons)), RetR.mk ?_⟩
        first | exact TabU.e1 (by omega) | exact TabU.no hck (fun h => by have h5 := h.1; omega) | exact TabU.no hck (fun h => absurd (h.2.1 x50 (List.mem_of_getElem? hx50)) (by assumption)) | exact TabU.no hck (fun h => absurd (h.2.2 x62 (List.mem_of_getElem? hx62)) (by assumption)) | exact TabU.yes (n := 0) hck he0 (by omega) h1 h2 (by assumption)
       ·refine XC.skip ?_; refine blockN ?_; refine XC.seq2 ?_; refine XC.region ?_; refine XO.move rfl rfl ?_; refine XO.add rfl rfl (wrap_i64 (by omega) (by omega)) rfl ?_; refine XO.assign rfl rfl ?_; refine XO.nil ?_; refine loop_next (k + 1) (by show js.length - (k + 1) < js.length - k; omega) (prov_cons (rfl) (prov_cons (rfl) (prov_cons (rfl) (prov_cons (rfl) (prov_cons (rfl) (prov_cons (rfl) prov_nil)))))) (⟨by show k + 1 ≤ js.length; omega, rfl, all_snoc h2 hx62 (by assumption)⟩) (by repeat (first | exact List.Sublist.refl _ | apply List.Sublist.cons_cons | apply List.Sublist.cons)) (hle1)
      ·obtain rfl : k = js.length := by omega
       rw [List.take_length] at h2
       refine XC.exit ?_; refine seqX_exit ?_; refine loopX_exit ?_; refine blockHit rfl ?_; refine XC.seq2 ?_; refine XC.seq ?_; refine XC.region ?_; refine XO.assign rfl rfl ?_; refine XO.nil ?_; refine XC.seq2 ?_; refine XC.seq ?_; refine XC.seq ?_; refine XC.region ?_; refine XO.assign rfl rfl ?_; refine XO.nil ?_; refine XC.seq2 ?_; refine XC.block ?_; refine XC.keep [15, 16, 0, 1, 2, 3, 4] rfl ?_; refine XC.open0 0 ?_; refine XC.loop (base := [(0, _), (1, _), (2, _), (3, _), (4, _)]) (fun ζ : Nat × ((Nat × SObj) × Option Addr × Nat) => [(15, .slice ζ.2.2.1 ((es.take (ζ.1)).map (fun a => (js).map (fun b => (cnfR l a b day time).isSome))).length ζ.2.2.2), (16, .int .i64 (ζ.1 : Nat))]) (fun ζ Hl own => ζ.1 ≤ es.length ∧ ζ.2.1 :: rest = own ∧ Acc (slR boolR) 45 Hl ζ.2.1 ζ.2.2.1 ζ.2.2.2 ((es.take (ζ.1)).map (fun a => (js).map (fun b => (cnfR l a b day time).isSome)))) (fun ζ => es.length - ζ.1) (0, ((0, .nothing), none, 0)) (prov_cons (rfl) (prov_cons (rfl) (prov_cons (rfl) (prov_cons (rfl) (prov_cons (rfl) (prov_cons (rfl) (prov_cons (rfl) prov_nil))))))) (by repeat (first | exact List.Sublist.refl _ | apply List.Sublist.cons_cons | apply List.Sublist.cons)) ⟨Nat.zero_le _, rfl, Acc.nil _ _ _ _⟩ ?_; rintro ⟨i, ⟨pw, aw, cw⟩⟩ Hl2 _ hle2 ⟨hki, rfl, haccw⟩; replace hs := hs.mono hle2; replace hes := hes.mono hle2; replace hjs := hjs.mono hle2; replace hle0 := hle0.trans hle2; replace hle1 := hle1.trans hle2
       try dsimp only at hki haccw ⊢
       refine XC.seq ?_; refine XC.seq ?_; refine XC.region ?_; refine XO.move rfl rfl ?_; refine XO.move rfl rfl ?_; refine XO.lenS (ts := #[]) rfl Try.underlying25 rfl ?_; refine XO.lss rfl rfl rfl ?_; refine XO.nil ?_; refine XC.seq2 ?_; refine XC.cond rfl (fun c6_15 => ?_) (fun c6_15 => ?_)
       ·obtain ⟨xX, hxX⟩ : ∃ x, es[i]? = some x := ⟨_, List.getElem?_eq_getElem (by omega)⟩
        refine XC.skip ?_; refine XC.seq2 ?_; refine XC.seq ?_; refine XC.block ?_; refine XC.seq ?_; refine XC.region ?_; refine XO.assign rfl rfl ?_; refine XO.nil ?_; refine XC.seq2 ?_; refine XC.seq ?_; refine XC.seq ?_; refine XC.region ?_; refine XO.assign rfl rfl ?_; refine XO.nil ?_; refine XC.seq2 ?_; refine XC.block ?_; refine XC.keep [17, 18, 0, 1, 2, 3, 4, 15, 16] rfl ?_; refine XC.open0 0 ?_; refine XC.loop (base := [(0, _), (1, _), (2, _), (3, _), (4, _), (15, _), (16, _)]) (fun ζ : Nat × ((Nat × SObj) × Option Addr × Nat) => [(17, .slice ζ.2.2.1 ((js.take (ζ.1)).map (fun b => (cnfR l xX b day time).isSome)).length ζ.2.2.2), (18, .int .i64 (ζ.1 : Nat))]) (fun ζ Hl own => ζ.1 ≤ js.length ∧ ζ.2.1 :: pw :: rest = own ∧ Acc boolR 4 Hl ζ.2.1 ζ.2.2.1 ζ.2.2.2 ((js.take (ζ.1)).map (fun b => (cnfR l xX b day time).isSome))) (fun ζ => js.length - ζ.1) (0, ((0, .nothing), none, 0)) (prov_cons (rfl) (prov_cons (rfl) (prov_cons (rfl) (prov_cons (rfl) (prov_cons (rfl) (prov_cons (rfl) (prov_cons (rfl) (prov_cons (rfl) (prov_cons (rfl) prov_nil))))))))) (by repeat (first | exact List.Sublist.refl _ | apply List.Sublist.cons_cons | apply List.Sublist.cons)) ⟨Nat.zero_le _, rfl, Acc.nil _ _ _ _⟩ ?_; rintro ⟨k, ⟨pq, aq, cq⟩⟩ Hl3 _ hle3 ⟨hkk, rfl, haccq⟩; replace hs := hs.mono hle3; replace hes := hes.mono hle3; replace hjs := hjs.mono hle3; replace haccw := haccw.mono hle3; replace hle0 := hle0.trans hle3; replace hle1 := hle1.trans hle3; replace hle2 := hle2.trans hle3
        try dsimp only at hkk haccq ⊢
        refine XC.seq ?_; refine XC.seq ?_; refine XC.region ?_; refine XO.move rfl rfl ?_; refine XO.move rfl rfl ?_; refine XO.lenS (ts := #[]) rfl Try.underlying25 rfl ?_; refine XO.lss rfl rfl rfl ?_; refine XO.nil ?_; refine XC.seq2 ?_; refine XC.cond rfl (fun c7_16 => ?_) (fun c7_16 => ?_)
        ·refine XC.skip ?_; refine XC.seq2 ?_; refine XC.seq ?_; refine XC.block ?_; refine XC.seq ?_; refine XC.keep [0, 1, 2, 3, 4, 15, 16, 17, 18] rfl ?_; obtain ⟨bEZ, oEZ, rfl⟩ := hes.addr (by omega); obtain ⟨_, xZ, hxZ, rfl, hpZ⟩ := hes.elem (i) (by omega); obtain ⟨bEY, oEY, rfl⟩ := hjs.addr (by omega); obtain ⟨_, xY, hxY, rfl, hpY⟩ := hjs.elem (k) (by omega); obtain rfl := Option.some.inj (hxX.symm.trans hxZ)
         apply XC.drawG (fun _ => True) trivial 18 [eqF _, eqF _, eqF _, eqF _, eqF _, eqF _, eqF _, eqF _, eqF _, eqF _, eqF _, fun v H => CnfU (cnfR l xX xY day time) (errC l xX xY day time) H v, fun v H => CnfU (cnfR l xX xY day time) (errC l xX xY day time) H v, slG (intR .i64) ((cnfR l xX xY day time).getD []), eqF _, eqF _, slG (intR .i64) ((cnfR l xX xY day time).getD []), eqF _] follows (by kernel_rfl) (by kernel_rfl) ⟨eqF_mono _, eqF_mono _, eqF_mono _, eqF_mono _, eqF_mono _, eqF_mono _, eqF_mono _, eqF_mono _, eqF_mono _, eqF_mono _, eqF_mono _, fun _ _ _ hle ⟨a, c, h1, h2⟩ => ⟨a, c, h1, h2.mono hle⟩, fun _ _ _ hle ⟨a, c, h1, h2⟩ => ⟨a, c, h1, h2.mono hle⟩, slG_mono _ _, eqF_mono _, eqF_mono _, slG_mono _ _, eqF_mono _, trivial⟩ ?steps17 ?tail17
         case steps17 =>
          refine stepsD_cons rfl ?_ ?_
          ·intro X HD hleD _
           replace hs := hs.mono hleD; replace hes := hes.mono hleD; replace hjs := hjs.mono hleD; replace haccw := haccw.mono hleD; replace haccq := haccq.mono hleD; replace hpZ := hpZ.mono hleD; replace hpY := hpY.mono hleD; replace hle0 := hle0.trans hleD; replace hle1 := hle1.trans hleD; replace hle2 := hle2.trans hleD; replace hle3 := hle3.trans hleD; refine withPreds_nil rfl ?_; refine XO.move rfl rfl ?_; refine XO.nil ?_
           exact stepQ_ok trivial (rfl)
          refine stepsD_cons rfl ?_ ?_
          ·intro X HD hleD _
           replace hs := hs.mono hleD; replace hes := hes.mono hleD; replace hjs := hjs.mono hleD; replace haccw := haccw.mono hleD; replace haccq := haccq.mono hleD; replace hpZ := hpZ.mono hleD; replace hpY := hpY.mono hleD; replace hle0 := hle0.trans hleD; replace hle1 := hle1.trans hleD; replace hle2 := hle2.trans hleD; replace hle3 := hle3.trans hleD; refine withPreds_nil rfl ?_; refine XO.move rfl rfl ?_; refine XO.nil ?_
           exact stepQ_ok trivial (rfl)
          refine stepsD_cons rfl ?_ ?_
          ·intro X HD hleD _
           replace hs := hs.mono hleD; replace hes := hes.mono hleD; replace hjs := hjs.mono hleD; replace haccw := haccw.mono hleD; replace haccq := haccq.mono hleD; replace hpZ := hpZ.mono hleD; replace hpY := hpY.mono hleD; replace hle0 := hle0.trans hleD; replace hle1 := hle1.trans hleD; replace hle2 := hle2.trans hleD; replace hle3 := hle3.trans hleD; refine withPreds_nil rfl ?_; refine XO.move rfl rfl ?_; refine XO.nil ?_
           exact stepQ_ok trivial (rfl)
          refine stepsD_cons rfl ?_ ?_
          ·intro X HD hleD _
           replace hs := hs.mono hleD; replace hes := hes.mono hleD; replace hjs := hjs.mono hleD; replace haccw := haccw.mono hleD; replace haccq := haccq.mono hleD; replace hpZ := hpZ.mono hleD; replace hpY := hpY.mono hleD; replace hle0 := hle0.trans hleD; replace hle1 := hle1.trans hleD; replace hle2 := hle2.trans hleD; replace hle3 := hle3.trans hleD; refine withPreds_cons rfl rfl ?_; rintro _ rfl; refine withPreds_cons rfl rfl ?_; rintro _ rfl; refine withPreds_nil rfl ?_; refine XO.indexE rfl rfl Try.underlying25 ty_3 (by omega) (by omega) rfl ?_; refine XO.nil ?_
           exact stepQ_ok trivial (rfl)
          refine stepsD_cons rfl ?_ ?_
          ·intro X HD hleD _
           replace hs := hs.mono hleD; replace hes := hes.mono hleD; replace hjs := hjs.mono hleD; replace haccw := haccw.mono hleD; replace haccq := haccq.mono hleD; replace hpZ := hpZ.mono hleD; replace hpY := hpY.mono hleD; replace hle0 := hle0.trans hleD; replace hle1 := hle1.trans hleD; replace hle2 := hle2.trans hleD; replace hle3 := hle3.trans hleD; refine withPreds_cons rfl rfl ?_; rintro _ rfl; refine withPreds_nil rfl ?_; refine XO.loadH rfl (by assumption) ty_3 rfl rfl rfl ?_; refine XO.nil ?_
           exact stepQ_ok trivial (rfl)
          refine stepsD_cons rfl ?_ ?_
          ·intro X HD hleD _
           replace hs := hs.mono hleD; replace hes := hes.mono hleD; replace hjs := hjs.mono hleD; replace haccw := haccw.mono hleD; replace haccq := haccq.mono hleD; replace hpZ := hpZ.mono hleD; replace hpY := hpY.mono hleD; replace hle0 := hle0.trans hleD; replace hle1 := hle1.trans hleD; replace hle2 := hle2.trans hleD; replace hle3 := hle3.trans hleD; refine withPreds_nil rfl ?_; refine XO.move rfl rfl ?_; refine XO.nil ?_
           exact stepQ_ok trivial (rfl)
          refine stepsD_cons rfl ?_ ?_
          ·intro X HD hleD _
           replace hs := hs.mono hleD; replace hes := hes.mono hleD; replace hjs := hjs.mono hleD; replace haccw := haccw.mono hleD; replace haccq := haccq.mono hleD; replace hpZ := hpZ.mono hleD; replace hpY := hpY.mono hleD; replace hle0 := hle0.trans hleD; replace hle1 := hle1.trans hleD; replace hle2 := hle2.trans hleD; replace hle3 := hle3.trans hleD; refine withPreds_nil rfl ?_; refine XO.move rfl rfl ?_; refine XO.nil ?_
           exact stepQ_ok trivial (rfl)
          refine stepsD_cons rfl ?_ ?_
          ·intro X HD hleD _
           replace hs := hs.mono hleD; replace hes := hes.mono hleD; replace hjs := hjs.mono hleD; replace haccw := haccw.mono hleD; replace haccq := haccq.mono hleD; replace hpZ := hpZ.mono hleD; replace hpY := hpY.mono hleD; replace hle0 := hle0.trans hleD; replace hle1 := hle1.trans hleD; replace hle2 := hle2.trans hleD; replace hle3 := hle3.trans hleD; refine withPreds_cons rfl rfl ?_; rintro _ rfl; refine withPreds_cons rfl rfl ?_; rintro _ rfl; refine withPreds_nil rfl ?_; refine XO.indexE rfl rfl Try.underlying25 ty_3 (by omega) (by omega) rfl ?_; refine XO.nil ?_
           exact stepQ_ok trivial (rfl)
          refine stepsD_cons rfl ?_ ?_
          ·intro X HD hleD _
           replace hs := hs.mono hleD; replace hes := hes.mono hleD; replace hjs := hjs.mono hleD; replace haccw := haccw.mono hleD; replace haccq := haccq.mono hleD; replace hpZ := hpZ.mono hleD; replace hpY := hpY.mono hleD; replace hle0 := hle0.trans hleD; replace hle1 := hle1.trans hleD; replace hle2 := hle2.trans hleD; replace hle3 := hle3.trans hleD; refine withPreds_cons rfl rfl ?_; rintro _ rfl; refine withPreds_nil rfl ?_; refine XO.loadH rfl (by assumption) ty_3 rfl rfl rfl ?_; refine XO.nil ?_
           exact stepQ_ok trivial (rfl)
          refine stepsD_cons rfl ?_ ?_
          ·intro X HD hleD _
           replace hs := hs.mono hleD; replace hes := hes.mono hleD; replace hjs := hjs.mono hleD; replace haccw := haccw.mono hleD; replace haccq := haccq.mono hleD; replace hpZ := hpZ.mono hleD; replace hpY := hpY.mono hleD; replace hle0 := hle0.trans hleD; replace hle1 := hle1.trans hleD; replace hle2 := hle2.trans hleD; replace hle3 := hle3.trans hleD; refine withPreds_nil rfl ?_; refine XO.move rfl rfl ?_; refine XO.nil ?_
           exact stepQ_ok trivial (rfl)
          refine stepsD_cons rfl ?_ ?_
          ·intro X HD hleD _
           replace hs := hs.mono hleD; replace hes := hes.mono hleD; replace hjs := hjs.mono hleD; replace haccw := haccw.mono hleD; replace haccq := haccq.mono hleD; replace hpZ := hpZ.mono hleD; replace hpY := hpY.mono hleD; replace hle0 := hle0.trans hleD; replace hle1 := hle1.trans hleD; replace hle2 := hle2.trans hleD; replace hle3 := hle3.trans hleD; refine withPreds_nil rfl ?_; refine XO.move rfl rfl ?_; refine XO.nil ?_
           exact stepQ_ok trivial (rfl)
          refine stepsD_cons rfl ?_ ?_
          ·intro X HD hleD _
           replace hs := hs.mono hleD; replace hes := hes.mono hleD; replace hjs := hjs.mono hleD; replace haccw := haccw.mono hleD; replace haccq := haccq.mono hleD; replace hpZ := hpZ.mono hleD; replace hpY := hpY.mono hleD; replace hle0 := hle0.trans hleD; replace hle1 := hle1.trans hleD; replace hle2 := hle2.trans hleD; replace hle3 := hle3.trans hleD; refine withPreds_cons rfl rfl ?_; rintro _ rfl; refine withPreds_cons rfl rfl ?_; rintro _ rfl; refine withPreds_cons rfl rfl ?_; rintro _ rfl; refine withPreds_cons rfl rfl ?_; rintro _ rfl; refine withPreds_cons rfl rfl ?_; rintro _ rfl; refine withPreds_nil rfl ?_; refine XO.callH rfl (rconf_fn _ _ l _ hs hl xX xY day time) rfl ?_; rintro _ HN90 hleN90 ⟨aN90, cN90, rfl, hN90⟩; replace hs := hs.mono hleN90; replace hes := hes.mono hleN90; replace hjs := hjs.mono hleN90; replace haccw := haccw.mono hleN90; replace haccq := haccq.mono hleN90; replace hpZ := hpZ.mono hleN90; replace hpY := hpY.mono hleN90; replace hle0 := hle0.trans hleN90; replace hle1 := hle1.trans hleN90; replace hle2 := hle2.trans hleN90; replace hle3 := hle3.trans hleN90; refine XO.nil ?_
           exact stepQ_ok trivial (⟨_, _, rfl, hN90⟩)
          refine stepsD_cons rfl ?_ ?_
          ·intro X HD hleD _
           replace hs := hs.mono hleD; replace hes := hes.mono hleD; replace hjs := hjs.mono hleD; replace haccw := haccw.mono hleD; replace haccq := haccq.mono hleD; replace hpZ := hpZ.mono hleD; replace hpY := hpY.mono hleD; replace hle0 := hle0.trans hleD; replace hle1 := hle1.trans hleD; replace hle2 := hle2.trans hleD; replace hle3 := hle3.trans hleD; refine withPreds_cons rfl rfl ?_; rintro _ ⟨aF, cF, rfl, hF⟩; refine withPreds_nil rfl ?_; refine XO.move rfl rfl ?_; refine XO.nil ?_
           exact stepQ_ok trivial (⟨_, _, rfl, hF⟩)
          refine stepsD_cons rfl ?_ ?_
          ·intro X HD hleD _
           replace hs := hs.mono hleD; replace hes := hes.mono hleD; replace hjs := hjs.mono hleD; replace haccw := haccw.mono hleD; replace haccq := haccq.mono hleD; replace hpZ := hpZ.mono hleD; replace hpY := hpY.mono hleD; replace hle0 := hle0.trans hleD; replace hle1 := hle1.trans hleD; replace hle2 := hle2.trans hleD; replace hle3 := hle3.trans hleD; refine withPreds_cons rfl rfl ?_; rintro _ ⟨aG, cG, rfl, hG⟩; refine withPreds_nil rfl ?_; refine XO.extract rfl rfl rfl ?_; refine XO.nil ?_
           exact stepQ_ok trivial (⟨_, _, rfl, hG⟩)
          refine stepsD_cons rfl ?_ ?_
          ·intro X HD hleD _
           replace hs := hs.mono hleD; replace hes := hes.mono hleD; replace hjs := hjs.mono hleD; replace haccw := haccw.mono hleD; replace haccq := haccq.mono hleD; replace hpZ := hpZ.mono hleD; replace hpY := hpY.mono hleD; replace hle0 := hle0.trans hleD; replace hle1 := hle1.trans hleD; replace hle2 := hle2.trans hleD; replace hle3 := hle3.trans hleD; refine withPreds_cons rfl rfl ?_; rintro _ ⟨aG, cG, rfl, hG⟩; refine withPreds_nil rfl ?_; refine XO.extract rfl rfl rfl ?_; refine XO.nil ?_
           exact stepQ_ok trivial (rfl)
          refine stepsD_cons rfl ?_ ?_
          ·intro X HD hleD _
           replace hs := hs.mono hleD; replace hes := hes.mono hleD; replace hjs := hjs.mono hleD; replace haccw := haccw.mono hleD; replace haccq := haccq.mono hleD; replace hpZ := hpZ.mono hleD; replace hpY := hpY.mono hleD; replace hle0 := hle0.trans hleD; replace hle1 := hle1.trans hleD; replace hle2 := hle2.trans hleD; replace hle3 := hle3.trans hleD; refine withPreds_cons rfl rfl ?_; rintro _ ⟨aG, cG, rfl, hG⟩; refine withPreds_nil rfl ?_; refine XO.extract rfl rfl rfl ?_; refine XO.nil ?_
           exact stepQ_ok trivial (rfl)
          refine stepsD_cons rfl ?_ ?_
          ·intro X HD hleD _
           replace hs := hs.mono hleD; replace hes := hes.mono hleD; replace hjs := hjs.mono hleD; replace haccw := haccw.mono hleD; replace haccq := haccq.mono hleD; replace hpZ := hpZ.mono hleD; replace hpY := hpY.mono hleD; replace hle0 := hle0.trans hleD; replace hle1 := hle1.trans hleD; replace hle2 := hle2.trans hleD; replace hle3 := hle3.trans hleD; refine withPreds_cons rfl rfl ?_; rintro _ ⟨a91, c91, rfl, hsl91⟩; refine withPreds_nil rfl ?_; refine XO.assign rfl rfl ?_; refine XO.nil ?_
           exact stepQ_ok trivial (⟨_, _, rfl, hsl91⟩)
          refine stepsD_cons rfl ?_ ?_
          ·intro X HD hleD _
           replace hs := hs.mono hleD; replace hes := hes.mono hleD; replace hjs := hjs.mono hleD; replace haccw := haccw.mono hleD; replace haccq := haccq.mono hleD; replace hpZ := hpZ.mono hleD; replace hpY := hpY.mono hleD; replace hle0 := hle0.trans hleD; replace hle1 := hle1.trans hleD; replace hle2 := hle2.trans hleD; replace hle3 := hle3.trans hleD; refine withPreds_cons rfl rfl ?_; rintro _ rfl; refine withPreds_nil rfl ?_; refine XO.assign rfl rfl ?_; refine XO.nil ?_
           exact stepQ_ok trivial (rfl)
          exact stepsD_end rfl
         case tail17 =>
          intro HD hleD _
          replace hs := hs.mono hleD; replace hes := hes.mono hleD; replace hjs := hjs.mono hleD; replace haccw := haccw.mono hleD; replace haccq := haccq.mono hleD; replace hpZ := hpZ.mono hleD; replace hpY := hpY.mono hleD; replace hle0 := hle0.trans hleD; replace hle1 := hle1.trans hleD; replace hle2 := hle2.trans hleD; replace hle3 := hle3.trans hleD; refine withPreds_cons rfl rfl ?_; rintro _ rfl; refine withPreds_cons rfl rfl ?_; rintro _ rfl; refine withPreds_cons rfl rfl ?_; rintro _ rfl; refine withPreds_cons rfl rfl ?_; rintro _ rfl; refine withPreds_cons rfl rfl ?_; rintro _ rfl; refine withPreds_cons rfl rfl ?_; rintro _ rfl; refine withPreds_cons rfl rfl ?_; rintro _ rfl; refine withPreds_cons rfl rfl ?_; rintro _ rfl; refine withPreds_cons rfl rfl ?_; rintro _ rfl; refine withPreds_cons rfl rfl ?_; rintro _ rfl; refine withPreds_cons rfl rfl ?_; rintro _ rfl; refine withPreds_cons rfl rfl ?_; rintro _ ⟨aF, cF, rfl, hF⟩; refine withPreds_cons rfl rfl ?_; rintro _ ⟨aG, cG, rfl, hG⟩; refine withPreds_cons rfl rfl ?_; rintro _ ⟨a91, c91, rfl, hsl91⟩; refine withPreds_cons rfl rfl ?_; rintro _ rfl; refine withPreds_cons rfl rfl ?_; rintro _ rfl; refine withPreds_cons rfl rfl ?_; rintro _ ⟨a19, c19, rfl, hsl19⟩; refine withPreds_cons rfl rfl ?_; rintro _ rfl; refine withPreds_nil rfl ?_; refine XO.assign rfl rfl ?_; refine XO.nil ?_; refine XC.seq2 ?_; refine XC.region ?_; refine XO.move rfl rfl ?_; refine XO.move rfl rfl ?_; refine XO.buildSlice rfl Try.underlying45 ty_4 ze_4 rfl rfl rfl (fun b96 => ?_); refine XO.publish 0 rfl rfl rfl (fun HP96 oP96 hleP96 hbP96 hoP96 => ?_)
          have hsl96 := SlR.lit (ρ := boolR) (l := [(cnfR l xX xY day time).isSome]) hbP96 hoP96 (RowsR.one1 rfl)
          replace hs := hs.mono hleP96; replace hes := hes.mono hleP96; replace hjs := hjs.mono hleP96; replace haccw := haccw.mono hleP96; replace haccq := haccq.mono hleP96; replace hpZ := hpZ.mono hleP96; replace hpY := hpY.mono hleP96; replace hsl91 := hsl91.mono hleP96; replace hsl19 := hsl19.mono hleP96; replace hle0 := hle0.trans hleP96; replace hle1 := hle1.trans hleP96; replace hle2 := hle2.trans hleP96; replace hle3 := hle3.trans hleP96; refine XO.appendA 0 rfl rfl haccq rfl rfl hsl96 rfl Try.underlying45 ty_4 ze_4 rfl by_4 (by simp; omega) rfl (fun p97 a97 c97 hacc97 => ?_); refine XO.assign rfl rfl ?_; refine XO.nil ?_; refine blockN ?_; refine XC.seq2 ?_; refine XC.region ?_; refine XO.move rfl rfl ?_; refine XO.add rfl rfl (wrap_i64 (by omega) (by omega)) rfl ?_; refine XO.assign rfl rfl ?_; refine XO.nil ?_; refine loop_next ((k + 1, (p97, a97, c97))) (by show js.length - (k + 1) < js.length - k; omega) (prov_cons (by first | rfl | (rw [map_take_snoc hxY]; rfl)) (prov_cons (rfl) (prov_cons (rfl) (prov_cons (rfl) (prov_cons (rfl) (prov_cons (rfl) (prov_cons (rfl) (prov_cons (rfl) (prov_cons (rfl) prov_nil))))))))) (⟨by show k + 1 ≤ js.length; omega, rfl, by first | (exact hacc97) | (rw [map_take_snoc hxY]; exact hacc97)⟩) (by repeat (first | exact List.Sublist.refl _ | apply List.Sublist.cons_cons | apply List.Sublist.cons)) (hle3)
        ·obtain rfl : k = js.length := by omega
         rw [List.take_length] at haccq ⊢
         refine XC.exit ?_; refine seqX_exit ?_; refine loopX_exit ?_; refine blockHit rfl ?_; refine XC.seq2 ?_; refine XC.region ?_; refine XO.publishA 0 rfl haccq rfl (fun HQ22 hleQ22 hsQ22 => ?_); replace hs := hs.mono hleQ22; replace hes := hes.mono hleQ22; replace hjs := hjs.mono hleQ22; replace haccw := haccw.mono hleQ22; replace hle0 := hle0.trans hleQ22; replace hle1 := hle1.trans hleQ22; replace hle2 := hle2.trans hleQ22; replace hle3 := hle3.trans hleQ22; refine XO.move rfl rfl ?_; refine XO.move rfl rfl ?_; refine XO.buildSlice rfl Try.underlying34 ty_45 ze_45 rfl rfl rfl (fun b100 => ?_); refine XO.publish 0 rfl rfl rfl (fun HP100 oP100 hleP100 hbP100 hoP100 => ?_); replace hs := hs.mono hleP100; replace hes := hes.mono hleP100; replace hjs := hjs.mono hleP100; replace haccw := haccw.mono hleP100; replace hsQ22 := hsQ22.mono hleP100; replace hle0 := hle0.trans hleP100; replace hle1 := hle1.trans hleP100; replace hle2 := hle2.trans hleP100; replace hle3 := hle3.trans hleP100
         have hsl100 := SlR.lit (ρ := (slR boolR)) (l := [(js).map (fun b => (cnfR l xX b day time).isSome)]) hbP100 hoP100 (RowsR.one1 ⟨_, _, rfl, hsQ22⟩)
         refine XO.appendA 0 rfl rfl haccw rfl rfl hsl100 rfl Try.underlying34 ty_45 ze_45 rfl by_45 (by simp; omega) rfl (fun p101 a101 c101 hacc101 => ?_); refine XO.assign rfl rfl ?_; refine XO.nil ?_; refine blockN ?_; refine XC.seq2 ?_; refine XC.region ?_; refine XO.move rfl rfl ?_; refine XO.add rfl rfl (wrap_i64 (by omega) (by omega)) rfl ?_; refine XO.assign rfl rfl ?_; refine XO.nil ?_; refine loop_next ((i + 1, (p101, a101, c101))) (by show es.length - (i + 1) < es.length - i; omega) (prov_cons (by first | rfl | (rw [map_take_snoc hxX]; rfl)) (prov_cons (rfl) (prov_cons (rfl) (prov_cons (rfl) (prov_cons (rfl) (prov_cons (rfl) (prov_cons (rfl) prov_nil))))))) (⟨by show i + 1 ≤ es.length; omega, rfl, by first | (exact hacc101) | (rw [map_take_snoc hxX]; exact hacc101)⟩) (by repeat (first | exact List.Sublist.refl _ | apply List.Sublist.cons_cons | apply List.Sublist.cons)) (hle2)
       ·obtain rfl : i = es.length := by omega
        rw [List.take_length] at haccw ⊢
        refine XC.exit ?_; refine seqX_exit ?_; refine loopX_exit ?_; refine blockHit rfl ?_; refine XC.seq2 ?_; refine XC.seq ?_; refine XC.region ?_; refine XO.publishA 0 rfl haccw rfl (fun HQ24 hleQ24 hsQ24 => ?_); replace hs := hs.mono hleQ24; replace hes := hes.mono hleQ24; replace hjs := hjs.mono hleQ24; replace hle0 := hle0.trans hleQ24; replace hle1 := hle1.trans hleQ24; replace hle2 := hle2.trans hleQ24; refine XO.move rfl rfl ?_; refine XO.assign rfl rfl ?_; refine XO.assign rfl rfl ?_; refine XO.nil ?_; refine XC.seq2 ?_; refine XC.ret ?_; refine ⟨rfl, _, [], rfl, (by repeat (first | exact List.Sublist.refl _ | apply List.Sublist.cons)), RetR.mk ?_⟩
        first | exact TabU.e1 (by omega) | exact TabU.no hck (fun h => by have h5 := h.1; omega) | exact TabU.no hck (fun h => absurd (h.2.1 x50 (List.mem_of_getElem? hx50)) (by assumption)) | exact TabU.no hck (fun h => absurd (h.2.2 x62 (List.mem_of_getElem? hx62)) (by assumption)) | exact TabU.yes (n := 0) hck he0 (by omega) h1 h2 (by assumption)
   ·have g5p := of_decide_eq_true g5
    refine XO.guardF rfl rfl (g5) rfl rfl ?_; refine XO.pickT rfl (g5) rfl rfl ?_; refine XO.nil ?_; refine XC.seq2 ?_; refine XC.condT rfl (rfl) ?_; refine XC.seq ?_; refine XC.region ?_; refine XO.assign rfl rfl ?_; refine XO.assign rfl rfl ?_; refine XO.nil ?_; refine XC.seq2 ?_; refine XC.ret ?_; refine seqX_ret ?_; refine ⟨rfl, _, [], rfl, (by repeat (first | exact List.Sublist.refl _ | apply List.Sublist.cons)), RetR.mk ?_⟩
    first | exact TabU.e1 (by omega) | exact TabU.no hck (fun h => by have h5 := h.1; omega) | exact TabU.no hck (fun h => absurd (h.2.1 x50 (List.mem_of_getElem? hx50)) (by assumption)) | exact TabU.no hck (fun h => absurd (h.2.2 x62 (List.mem_of_getElem? hx62)) (by assumption)) | exact TabU.yes (n := 0) hck he0 (by omega) h1 h2 (by assumption)
  ·have g4p := of_decide_eq_true g4
   refine XO.guardF rfl rfl (g4) rfl rfl ?_; refine XO.guardF rfl rfl (g4) rfl rfl ?_; refine XO.pickT rfl (g4) rfl rfl ?_; refine XO.move rfl rfl ?_; refine XO.guardF rfl rfl (rfl) rfl rfl ?_; refine XO.guardF rfl rfl (rfl) rfl rfl ?_; refine XO.pickT rfl (rfl) rfl rfl ?_; refine XO.nil ?_; refine XC.seq2 ?_; refine XC.condT rfl (rfl) ?_; refine XC.seq ?_; refine XC.region ?_; refine XO.assign rfl rfl ?_; refine XO.assign rfl rfl ?_; refine XO.nil ?_; refine XC.seq2 ?_; refine XC.ret ?_; refine seqX_ret ?_; refine ⟨rfl, _, [], rfl, (by repeat (first | exact List.Sublist.refl _ | apply List.Sublist.cons)), RetR.mk ?_⟩
   first | exact TabU.e1 (by omega) | exact TabU.no hck (fun h => by have h5 := h.1; omega) | exact TabU.no hck (fun h => absurd (h.2.1 x50 (List.mem_of_getElem? hx50)) (by assumption)) | exact TabU.no hck (fun h => absurd (h.2.2 x62 (List.mem_of_getElem? hx62)) (by assumption)) | exact TabU.yes (n := 0) hck he0 (by omega) h1 h2 (by assumption)

end Go.Proofs

/- Queues of numbers (a slice whose beginning is cut off, in a row of the call's own), and maps with their first entries. No statement of the program stands here. -/
set_option autoImplicit false
set_option linter.unusedSimpArgs false
set_option linter.unusedVariables false
set_option linter.unnecessarySimpa false
namespace Go.XL
abbrev ivs (l : List Int) : List Value := l.map fun x => Value.int .i64 x
/-- A queue: a slice whose beginning may have been cut off. -/
def QuI (e : TypeId) (p : Nat × SObj) (a : Option Addr) (c : Nat) (l : List Int) : Prop :=
 (c = 0 ∧ l = [] ∧ ∃ b o, a = some ⟨b, o, none⟩) ∨ ∃ js : List Value, a = some ⟨p.1, js.length, none⟩ ∧ p.2 = .row e (js.length + c) (js ++ ivs l) ∧ l.length ≤ c
/-- it only speaks of numbers: a greater heap leaves it as it is -/
theorem QuI.mono {e : TypeId} {p : Nat × SObj} {a : Option Addr} {c : Nat} {l : List Int} {H H' : Hp} (h : QuI e p a c l) (_ : Le H H') : QuI e p a c l := h
theorem rows_ivs {H : Hp} : ∀ {l : List Int} {xs : List Value}, RowsR (intR .i64) H xs l → xs = ivs l
  | [], xs, h => h
  | x :: l, xs, ⟨c1, c2, e, h1, h2⟩ => by
    have e1 : c1 = [Value.int .i64 x] := h1
    have e2 := rows_ivs h2
    rw [e, e1, e2]; rfl
theorem QuI.of_acc {H : Hp} {e : TypeId} {p : Nat × SObj} {a : Option Addr} {c : Nat} {l : List Int} (h : Acc (intR .i64) e H p a c l) (hl : 0 < l.length) : QuI e p a c l := by
 rcases h with ⟨_, _, h, _⟩ | ⟨xs, h1, h2, h3, h4⟩
 ·subst h; simp at hl
 ·refine .inr ⟨[], h1, ?_, h4⟩
  rw [h2, rows_ivs h3]
  simp [intR]
theorem QuI.le {e : TypeId} {p : Nat × SObj} {a : Option Addr} {c : Nat} {l : List Int} (h : QuI e p a c l) : l.length ≤ c := by
 rcases h with ⟨_, h, _⟩ | ⟨_, _, _, h⟩
 ·subst h; simp
 ·exact h
theorem QuI.addr {e : TypeId} {p : Nat × SObj} {a : Option Addr} {c : Nat} {x : Int} {l : List Int} (h : QuI e p a c (x :: l)) : ∃ js : List Value, a = some ⟨p.1, js.length, none⟩ ∧ p.2 = .row e (js.length + c) (js ++ ivs (x :: l)) ∧ l.length + 1 ≤ c := by
 rcases h with ⟨_, h, _⟩ | ⟨js, h1, h2, h3⟩
 ·cases h
 ·exact ⟨js, h1, h2, by simpa using h3⟩
section
variable {C : Ctx} {ops : Array Oper} {Q : Exit → St → Prop} {rest : List Oper} {env : Env} {df : List Deferred} {H : Hp} {own : Own} {dst : Option Tmp} {ty : TypeId} {pos : String} {af : Array Edge}
theorem XO.loadQ (i : Nat) {T t : TypeId} {x : Operand} {p : Nat × SObj} {o n : Nat} {u : Int} {l : List Int} {js : List Value} (hx : ev env x = some (.pointer (some ⟨p.1, o, none⟩))) (hp : Own.at own i = some p) (hs : p.2 = .row T n (js ++ ivs (u :: l)))
    (ho : o = js.length) (ht : tyF C.P t 1 false = true) (hd : dstOk C.N dst = true) (h : XO C ops Q rest ⟨putE dst (.int .i64 u) env, df, H, own⟩) :
    XO C ops Q (⟨dst, .load t x, ty, pos, af, none⟩ :: rest) ⟨env, df, H, own⟩ := by
  obtain ⟨b, s⟩ := p
  simp only at hs
  subst hs
  subst ho
  refine XO.op rfl rfl hd fun ρ' w fr ha hok => ⟨.value (.int .i64 u), .int .i64 u, w, H, own, ?_, .inl rfl, Le.refl _, hok, h⟩
  obtain ⟨ct, hbw, hbn⟩ := row_of hok (List.mem_append_left fr (Own.at_mem hp))
  have hrun := run_loadVar (P := C.P) (w := w) ht (b := b) (o := js.length) (vs := [.int .i64 u]) rfl (v := .int .i64 u) (fun j v hj => by
    cases j with
    | zero =>
      simp at hj; subst hj
      simp [World.cell?, hbw]
    | succ j => simp at hj) rfl
  simp only [execOp, ha _ _ hx, Instr.loadAt, Instr.sureAddr, Sem.run_bind]
  simp only [Sem.run, Pure.pure, Result.andThen, hrun]
/-- append to a queue -/
theorem run_append_qu {P : Program} {G : World} {w : World} {fr : Own} {t e t' : TypeId} {i : Nat} {p : Nat × SObj} {a a' : Option Addr} {c c' : Nat} {l l' : List Int} {zs : List Value}
  (hok : Ok G H (own ++ fr) w) (hp : Own.at own i = some p) (hacc : QuI e p a c l) (hsrc : SlR (intR .i64) H a' c' l') (hpos : 0 < l'.length)
  (ht : P.underlying t = some (.slice e)) (he : tyF P e 1 false = true) (hz : zeroC P e = some zs) (hzl : Nat.beq zs.length 1 = true) (hby : Nat.ble (P.bytesOf e) 4096 = true) (hn : l.length + l'.length ≤ 1073741824) :
  ∃ p' a'' c'' w', (Builtin.append_ #[t, t] t' #[.slice a l.length c, .slice a' l'.length c']).run P w = .ok (.slice a'' (l ++ l').length c'') w' ∧ QuI e p' a'' c'' (l ++ l') ∧ Ok G H (Own.set2 own i p' ++ fr) w' := by
 obtain ⟨_, inf, hi, hsz⟩ := tyF_run he
 have hzl := Nat.eq_of_beq_eq_true hzl
 have hby := Nat.le_of_ble_eq_true hby
 have hby' : inf.bytes ≤ 4096 := by simpa [Program.bytesOf, hi] using hby
 have hmul : (l.length + l'.length) * inf.bytes ≤ 140737488355328 := Nat.le_trans (Nat.mul_le_mul hn hby') (by decide)
 obtain ⟨z, hzz, hzc⟩ : ∃ z, inf.zero = some z ∧ z.cells = zs.toArray := by
  unfold zeroC at hz
  rw [hi] at hz
  simp only at hz
  split at hz
  ·rename_i z hzz; exact ⟨z, hzz, cellsO_eq hz⟩
  ·cases hz
 obtain ⟨cs', hrows, hcells⟩ := hsrc.cells
 obtain ⟨x0, hx0⟩ : ∃ x, l'[0]? = some x := ⟨_, List.getElem?_eq_getElem hpos⟩
 obtain ⟨b', o', c0, ha', _, _⟩ := hsrc.el 0 x0 hx0
 have hnews : ∀ j v, cs'[j]? = some v → w.cell? ((⟨b', o', none⟩ : Addr).add j) = some v := by
  intro j v hj
  obtain ⟨cc, T, fz, hH, hc⟩ := hcells b' o' ha' j v hj
  rw [addr_add]
  simp [World.cell?, hok.pub _ _ hH, hc]
 have hlen : cs'.length = l'.length * inf.size := by rw [hsz]; exact hrows.length
 have hcs : cs' = ivs l' := rows_ivs hrows
 have one : inf.size = 1 := hsz
 -- a new row
 have grow : ∀ (b : Addr) (olds : List Value), olds = ivs l → (∀ j v, olds[j]? = some v → w.cell? (b.add j) = some v) → a = some b → ¬ (l.length + l'.length ≤ c) →
   ∃ p' a'' c'' w', (Builtin.append_ #[t, t] t' #[.slice a l.length c, .slice a' l'.length c']).run P w = .ok (.slice a'' (l ++ l').length c'') w' ∧ QuI e p' a'' c'' (l ++ l') ∧ Ok G H (Own.set2 own i p' ++ fr) w' := by
  intro b olds hol hold hab hroom
  have hlo : olds.length = l.length * inf.size := by rw [hol, one]; simp
  have hrun := run_append_grow (P := P) (w := w) t t' e inf z ht hi hzz b l.length c olds hlo hold ⟨b', o', none⟩ l'.length c' cs' hlen hnews (by omega) (by omega) (growslice_fits (by omega) hmul)
  have hge := grownCap_ge w (l.length + l'.length) c e
  refine ⟨(w.heap.size, .row e (grownCap w (l.length + l'.length) c e) (ivs (l ++ l'))), some ⟨w.heap.size, 0, none⟩, grownCap w (l.length + l'.length) c e, w.drew.alloc (.cells (olds.toArray ++ cs'.toArray ++ Builtin.zeroCells z.cells (grownCap w (l.length + l'.length) c e - (l.length + l'.length))) e), ?_, .inr ⟨[], rfl, by simp only [List.length_nil, Nat.zero_add, List.nil_append], by simpa using hge⟩, ?_⟩
  ·rw [ha', hab]; simpa using hrun
  ·refine hok.swap hp ⟨(Builtin.zeroCells z.cells (grownCap w (l.length + l'.length) c e - (l.length + l'.length))).toList, ?_, ?_⟩
   ·rw [hol, hcs]; simp
   ·rw [hzc, List.length_append, zeroCells_len, hzl]
    simp; omega
 rcases hacc with ⟨hc0, hl0, b0, o0, ha0⟩ | ⟨js, ha1, hrow, hlc⟩
 ·exact grow ⟨b0, o0, none⟩ [] (by rw [hl0]; rfl) (fun j v hj => by simp at hj) ha0 (by rw [hc0]; omega)
 ·obtain ⟨b, s⟩ := p
  simp only at hrow hp ha1 ⊢
  subst hrow
  obtain ⟨ct, hbw, hbn⟩ := row_of hok (List.mem_append_left fr (Own.at_mem hp))
  by_cases hroom : l.length + l'.length ≤ c
  ·have hfit : js.length + l.length + 0 + cs'.length ≤ (js ++ ivs l ++ ct).toArray.size := by
    simp only [List.size_toArray]
    rw [hbn, hlen, one]; omega
   have hf := run_firstCells_some (P := P) w inf.size l'.length ⟨b', o', none⟩ l'.length c' cs' hlen hnews
   have hst := run_storeCells_at P b (js.length + l.length) e cs' 0 (js ++ ivs l ++ ct).toArray w hbw hfit (oneAll_mem hrows.one)
   simp only [Nat.add_zero] at hst
   have hrun : (Builtin.append_ #[t, t] t' #[.slice a l.length c, .slice a' l'.length c']).run P w = .ok (.slice a (l.length + l'.length) c) (w.setRow b ((js ++ ivs l ++ ct).toArray.toList.take (js.length + l.length) ++ cs' ++ (js ++ ivs l ++ ct).toArray.toList.drop (js.length + l.length + cs'.length)).toArray) := by
    rw [ha', ha1]
    rw [one] at hf
    simp [Builtin.append_, run_underlying ht, sizeOf, typeInfo, hi, Builtin.lenOf, hroom, hf, addr_add, one]
    simp only [List.toList_toArray, List.append_assoc] at hst
    rw [hst]; rfl
   refine ⟨(b, .row e (js.length + c) (js ++ ivs (l ++ l'))), _, _, _, by rw [hrun, List.length_append], .inr ⟨js, ha1, rfl, by simpa using hroom⟩, ?_⟩; refine hok.write2 hp rfl hbw ⟨(js ++ ivs l ++ ct).drop (js.length + l.length + cs'.length), ?_, ?_⟩
   ·rw [hcs]
    have e1 : (js ++ ivs l ++ ct).take (js.length + l.length) = js ++ ivs l := by
     rw [List.take_append_of_le_length (by simp), List.take_of_length_le (by simp)]
    simp only [List.toList_toArray] at *
    rw [e1]
    simp [ivs, List.map_append, List.append_assoc]
   ·have h5 : (js ++ ivs l ++ ct).length = js.length + c := hbn
    have hlen' : cs'.length = l'.length := by rw [hlen, one]; omega
    simp only [List.length_append, List.length_drop, List.length_map] at h5 ⊢
    rw [hlen']
    omega
  ·exact grow ⟨b, js.length, none⟩ (ivs l) rfl (fun j v hj => by
    rw [addr_add]; simp only [World.cell?, hbw]
    have hj' := (List.getElem?_eq_some_iff.1 hj).1
    simp only [Option.isSome_none, Bool.false_eq_true, if_false, List.getElem?_toArray]
    rw [List.append_assoc, List.getElem?_append_right (by omega), show js.length + j - js.length = j by omega, List.getElem?_append_left hj', hj]) ha1 hroom
theorem XO.appendQ (i : Nat) {t e : TypeId} {x y : Operand} {p : Nat × SObj} {a a' : Option Addr} {c c' n n' : Nat} {l l' : List Int} {zs : List Value}
  (hx : ev env x = some (.slice a n c)) (hp : Own.at own i = some p) (hacc : QuI e p a c l) (hln : n = l.length) (hy : ev env y = some (.slice a' n' c')) (hsrc : SlR (intR .i64) H a' c' l') (hln' : n' = l'.length) (hpos : 0 < l'.length)
  (ht : C.P.underlying t = some (.slice e)) (he : tyF C.P e 1 false = true) (hz : zeroC C.P e = some zs) (hzl : Nat.beq zs.length 1 = true) (hby : Nat.ble (C.P.bytesOf e) 4096 = true) (hn : l.length + l'.length ≤ 1073741824) (hd : dstOk C.N dst = true)
  (h : ∀ p' a'' c'', QuI e p' a'' c'' (l ++ l') → XO C ops Q rest ⟨putE dst (.slice a'' (l ++ l').length c'') env, df, H, Own.set2 own i p'⟩) :
  XO C ops Q (⟨dst, .call { callee := .builtin .append, args := #[x, y], argTypes := #[t, t] }, ty, pos, af, none⟩ :: rest) ⟨env, df, H, own⟩ := by
 refine XO.op rfl rfl hd fun ρ' w fr ha hok => ?_
 subst hln
 subst hln'
 obtain ⟨p', a'', c'', w', hrun, hacc', hok'⟩ := run_append_qu (P := C.P) (t := t) (t' := ty) hok hp hacc hsrc hpos ht he hz hzl hby hn; refine ⟨.value (.slice a'' (l ++ l').length c''), _, w', H, _, ?_, .inl rfl, Le.refl _, hok', h p' a'' c'' hacc'⟩
 simp only [execOp, resolve, Sem.run_bind]
 simp only [Pure.pure, Sem.run, Result.andThen, invoke, builtin, Sem.run_bind]
 simp [ha _ _ hx, ha _ _ hy, hrun, Result.andThen, Sem.run]
/-- l[1:] of a queue -/
theorem XO.restQ {t e : TypeId} {x y : Operand} {k : IntKind} {p : Nat × SObj} {a : Option Addr} {c n : Nat} {u : Int} {l : List Int} (hx : ev env x = some (.slice a n c)) (hn : n = (u :: l).length) (hy : ev env y = some (.int k 1)) (hacc : QuI e p a c (u :: l))
  (ht : C.P.underlying t = some (.slice e)) (he : tyF C.P e 1 false = true) (hd : dstOk C.N dst = true)
  (h : ∀ a' c', QuI e p a' c' l → XO C ops Q rest ⟨putE dst (.slice a' l.length c') env, df, H, own⟩) :
  XO C ops Q (⟨dst, .slice t x (some y) none none, ty, pos, af, none⟩ :: rest) ⟨env, df, H, own⟩ := by
 subst hn
 obtain ⟨js, h1, h2, h3⟩ := hacc.addr
 have hq : QuI e p (if c = 1 then a else a.map (·.add (1 * 1))) (c - 1) l := by
  by_cases hc : c = 1
  ·rw [if_pos hc]
   exact .inl ⟨by omega, List.length_eq_zero_iff.1 (by omega), _, _, h1⟩
  ·rw [if_neg hc]
   refine .inr ⟨js ++ [.int .i64 u], ?_, ?_, by omega⟩
   ·rw [h1]; simp [addr_add]
   ·rw [h2]; simp [ivs]; omega
 refine XO.pure rfl rfl hd (fun ρ' ha w => ?_) (h _ _ hq)
 have hb : (Instr.sliceBounds true (l.length + 1) c (some (ρ' y)) none none).run C.P w = .ok (1, l.length + 1, c) w := by
  have b2 : ∀ (code : BoundsCode) (w : World), (Instr.sliceBound (ρ' y) (l.length + 1) code).run C.P w = .ok 1 w := by
   intro code w
   rw [ha _ _ hy]; exact run_bound (by decide) (by omega)
  unfold Instr.sliceBounds
  simp only [Option.map_none, Option.map_some, Sem.run_bind]; simp only [Pure.pure, Sem.run, Result.andThen, Sem.run_bind, b2]
 have hr : (Instr.sliceAt t (.slice a (u :: l).length c) (some (ρ' y)) none none).run C.P w = .ok (.slice (if c = 1 then a else a.map (·.add (1 * 1))) l.length (c - 1)) w := by
  unfold Instr.sliceAt
  rw [Sem.run_bind, run_underlying ht]
  simp only [Result.andThen, Instr.slice]
  rw [Sem.run_bind, run_underlying ht]
  simp only [Result.andThen, Sem.run_bind, List.length_cons, hb, run_sizeOf he]
  rfl
 simp only [execOp, ha _ _ hx, Sem.run_bind, hr, Result.andThen, Option.map_some, Option.map_none]
 rfl
/-- the first entry of a map that is written out -/
theorem XO.mapIns (i : Nat) {t kt et : TypeId} {x y z : Operand} {b : Nat} {kd : IntKind} {k : Int} {v : Value} {es : Array MapEntry} {cl : Nat} {m : List (Int × Value)}
    (hx : ev env x = some (.map (some b))) (hy : ev env y = some (.int kd k)) (hz : ev env z = some v) (ho : Own.at own i = some (b, .obj (.map es cl))) (hm : MapI kd es m) (ht : C.P.underlying t = some (.map kt et)) (hk : C.P.underlying kt = some (.int kd)) (hd : dstOk C.N dst = true)
    (h : ∀ es' cl', MapI kd es' (mset m k v) → XO C ops Q rest ⟨putE dst undef env, df, H, Own.set2 own i (b, .obj (.map es' cl'))⟩) :
    XO C ops Q (⟨dst, .insert t x y z, ty, pos, af, none⟩ :: rest) ⟨env, df, H, own⟩ := by
  refine XO.op rfl rfl hd fun ρ w fr ha hok => ?_
  have hb := Ok.objIn hok ho
  have hput : ∀ o', ∃ own', Own.put own i (.obj o') = some own' ∧ own' = Own.set2 own i (b, .obj o') := by
    intro o'
    obtain ⟨pre, post, rfl, rfl⟩ := Own.at_split ho
    exact ⟨_, Own.put_split, Own.set2_split.symm⟩
  have run1 : ∀ {nx w'}, (Instr.mapUpdate t (.map (some b)) (.int kd k) v).run C.P w = .ok nx w' → (execOp ρ ⟨dst, .insert t x y z, ty, pos, af, none⟩).run C.P w = .ok .skip w' := by
    intro nx w' hr
    simp only [execOp, ha _ _ hx, ha _ _ hy, ha _ _ hz, Sem.run_bind, hr, Result.andThen]
    rfl
  rcases findNow_int es.toList m 0 hm with ⟨h1, h2⟩ | ⟨j, v', h1, h2, h3, h4, h5⟩
  · obtain ⟨own', hown, hse⟩ := hput (.map (es.push { key := .int kd k, val := v, born := cl }) (cl + 1))
    refine ⟨.skip, undef, w.putObj b (.map (es.push { key := .int kd k, val := v, born := cl }) (cl + 1)), H, own', run1 (nx := ()) ?_, .inr ⟨rfl, rfl⟩, Le.refl _, Ok.putIn hok ho hown, (hse ▸ h _ _ ?_)⟩
    · unfold Instr.mapUpdate
      rw [Sem.run_bind, run_underlying ht]
      simp only [Result.andThen, Sem.run_bind, run_getMap hb, run_checkKey (x := k) hk, run_findKey (x := k) hk h2, run_setMap _ hb]
    · have : ∀ (m : List (Int × Value)), mget m k = none → mset m k v = m ++ [(k, v)] := by
        intro m
        induction m with
        | nil => intro _; rfl
        | cons p m ih =>
          obtain ⟨k', v''⟩ := p
          intro hg
          simp only [mget] at hg
          split at hg
          · cases hg
          · rename_i hne; simp [mset, hne, ih hg]
      unfold MapI at hm ⊢
      rw [this m h1]
      simp [hm]
  · obtain ⟨own', hown, hse⟩ := hput (.map (es.modify j fun e => { e with key := .int kd k, val := v }) cl)
    refine ⟨.skip, undef, w.putObj b (.map (es.modify j fun e => { e with key := .int kd k, val := v }) cl), H, own', run1 (nx := ()) ?_, .inr ⟨rfl, rfl⟩, Le.refl _, Ok.putIn hok ho hown, (hse ▸ h _ _ ?_)⟩
    · simp only [Nat.zero_add] at h2
      unfold Instr.mapUpdate
      rw [Sem.run_bind, run_underlying ht]
      simp only [Result.andThen, Sem.run_bind, run_getMap hb, run_checkKey (x := k) hk, run_findKey (x := k) hk h2]
      have hkey : ((es[j]?).map (·.key)).getD (Value.int kd k) = .int kd k := by
        have : (es[j]?).map (·.key) = some (.int kd k) := by simpa using h4
        rw [this]; rfl
      rw [hkey]
      have hst : (Instr.keyThatStays (.int kd k) (.int kd k)).run C.P w = .ok (.int kd k) w := by
        simp [Instr.keyThatStays, Instr.sameBits, Sem.run, Pure.pure]
      rw [hst]
      simp only [run_setMap _ hb]
    · unfold MapI
      rw [← h5 v]
      simp
end

section
variable {C : Ctx} {ops : Array Oper} {Q : Exit → St → Prop} {rest : List Oper} {env : Env} {df : List Deferred} {H : Hp} {own : Own}
variable {dst : Option Tmp} {ty : TypeId} {pos : String} {af : Array Edge}
theorem XO.mapGet1 (i : Nat) {t kt et : TypeId} {x y : Operand} {b : Nat} {kd : IntKind} {k : Int} {es : Array MapEntry} {cl : Nat} {m : List (Int × Value)} {z v : Value} (hx : ev env x = some (.map (some b))) (hy : ev env y = some (.int kd k)) (ho : Own.at own i = some (b, .obj (.map es cl))) (hm : MapI kd es m)
  (ht : C.P.underlying t = some (.map kt et)) (hk : C.P.underlying kt = some (.int kd)) (hz : zeroV C.P et = some z) (hd : dstOk C.N dst = true) (hv : (mget m k).getD z = v)
  (h : XO C ops Q rest ⟨putE dst v env, df, H, own⟩) :
  XO C ops Q (⟨dst, .lookup t x y false, ty, pos, af, none⟩ :: rest) ⟨env, df, H, own⟩ := XO.mapGet i hx hy ho hm ht hk hz hd (by subst hv; exact h)
theorem XO.mapGet2 (i : Nat) {t kt et : TypeId} {x y : Operand} {b : Nat} {kd : IntKind} {k : Int} {es : Array MapEntry} {cl : Nat} {m : List (Int × Value)} {z v : Value} {q : Bool} (hx : ev env x = some (.map (some b))) (hy : ev env y = some (.int kd k)) (ho : Own.at own i = some (b, .obj (.map es cl))) (hm : MapI kd es m)
  (ht : C.P.underlying t = some (.map kt et)) (hk : C.P.underlying kt = some (.int kd)) (hz : zeroV C.P et = some z) (hd : dstOk C.N dst = true) (hv : (mget m k).getD z = v) (hq : (mget m k).isSome = q)
  (h : XO C ops Q rest ⟨putE dst (.tuple #[v, .bool q]) env, df, H, own⟩) :
  XO C ops Q (⟨dst, .lookup t x y true, ty, pos, af, none⟩ :: rest) ⟨env, df, H, own⟩ := XO.mapGet i hx hy ho hm ht hk hz hd (by subst hv; subst hq; exact h)
end
end Go.XL
