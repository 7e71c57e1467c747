/- The law ConflictsTable: it returns true, whatever the input, and what it was handed reads as before. No condition. -/
import Derived.Test.YtapacjfkgiigiaaB9
import Derived.Test.YtapacjfkgiigiaaRows
import Derived.WalkKit
import Derived.ProofKit
import Derived.OpenShut
import Derived.ShutString
import Derived.ChangeOld
import Derived.Below
set_option autoImplicit false
set_option linter.unusedVariables false
set_option linter.unusedSimpArgs false
namespace Go.Proofs.Ytapacjfkgiigiaa
open Go.XL



set_option maxRecDepth 100000 in
set_option maxHeartbeats 1600000 in
theorem conflictsTable_fn (a aE aJ : Option Addr) (c cE cJ : Nat) (l : Fs) (es js : List Int) (day time : Int) (H : Hp) (hs : SlR faR H a c l) (hes : SlR (intR .i64) H aE cE es) (hjs : SlR (intR .i64) H aJ cJ js) (hl : l.length < 9223372036854775808) (hel : es.length < 9223372036854775808) (hjl : js.length < 9223372036854775808) : FnC Try.prog 9 #[.slice a l.length c, .slice aE es.length cE, .slice aJ js.length cJ, .int .i64 day, .int .i64 time] H [] (RetR (fun v _ _ => v = .bool true)) := by
 refine FnC.intro (args := [.slice a l.length c, .slice aE es.length cE, .slice aJ js.length cJ, .int .i64 day, .int .i64 time]) Try.func9 rfl rfl Try.ntmps9 rfl rfl rfl fun G rest => ?_
 refine XC.seq ?_; refine XC.region ?_; refine XO.assign rfl rfl ?_; refine XO.nil ?_; refine XC.seq2 ?_; refine XC.seq ?_; refine XC.seq ?_; refine XC.region ?_; refine XO.callV rfl (sane27 _) rfl ?_; refine XO.notB rfl rfl ?_; refine XO.nil ?_; refine XC.seq2 ?_; refine XC.condF rfl (rfl) ?_; refine XC.skip ?_; refine XC.seq2 ?_; refine XC.seq ?_; refine XC.seq ?_; refine XC.region ?_; refine XO.move rfl rfl ?_; refine XO.callV rfl (few_fn _ none none _ 0 0 l [] [] _ hs (SlR.nil0 _ _) (SlR.nil0 _ _)) rfl ?_; refine XO.not rfl rfl ?_; refine XO.move rfl rfl ?_; refine XO.guardC rfl rfl rfl rfl (fun g3 => ?_) (fun g3 => ?_)
 ·have g3p := of_decide_eq_false g3
  refine XO.move rfl rfl ?_; refine XO.guardT rfl rfl (g3) rfl ?_; refine XO.lenS (ts := #[]) rfl Try.underlying25 rfl ?_; refine XO.guardT rfl rfl (g3) rfl ?_; refine XO.gtr rfl rfl rfl ?_; refine XO.pickF rfl (g3) rfl rfl ?_; refine XO.move rfl rfl ?_; refine XO.guardC rfl rfl rfl rfl (fun g4 => ?_) (fun g4 => ?_)
  ·have g4p := of_decide_eq_false g4
   refine XO.move rfl rfl ?_; refine XO.guardT rfl rfl (g4) rfl ?_; refine XO.lenS (ts := #[]) rfl Try.underlying25 rfl ?_; refine XO.guardT rfl rfl (g4) rfl ?_; refine XO.gtr rfl rfl rfl ?_; refine XO.pickF rfl (g4) rfl rfl ?_; refine XO.nil ?_; refine XC.seq2 ?_; refine XC.cond rfl (fun c1_5 => ?_) (fun c1_5 => ?_)
   ·refine XC.seq ?_; refine XC.region ?_; refine XO.assign rfl rfl ?_; refine XO.nil ?_; refine XC.seq2 ?_; refine XC.ret ?_; refine seqX_ret ?_; refine ⟨rfl, _, [], rfl, (by repeat (first | exact List.Sublist.refl _ | apply List.Sublist.cons)), RetR.mk ?_⟩
    first | rfl | exact congrArg Value.bool (decide_eq_true (by rw [tab_nil (by assumption)]; rfl))
   ·refine XC.skip ?_; refine XC.seq2 ?_; refine XC.seq ?_; refine XC.region ?_; refine XO.move rfl rfl ?_; refine XO.move rfl rfl ?_; refine XO.move rfl rfl ?_; refine XO.move rfl rfl ?_; refine XO.move rfl rfl ?_; refine XO.callH rfl (ptable_fn _ _ _ _ _ _ l es js day time _ hs hes hjs hl hel hjl) rfl ?_; rintro _ HN39 hleN39 hM39
    unfold TabV at hM39
    obtain ⟨aN39, cN39, rfl, hN39⟩ := hM39; replace hs := hs.mono hleN39; replace hes := hes.mono hleN39; replace hjs := hjs.mono hleN39; refine XO.move rfl rfl ?_; refine XO.extract rfl rfl rfl ?_; refine XO.extract rfl rfl rfl ?_; refine XO.assign rfl rfl ?_; refine XO.assign rfl rfl ?_; refine XO.nil ?_; refine XC.seq2 ?_; refine XC.seq ?_; refine XC.seq ?_; refine XC.region ?_; refine XO.move rfl rfl ?_; refine XO.neq rfl rfl rfl ?_; refine XO.nil ?_; refine XC.seq2 ?_; refine XC.cond rfl (fun c2_7 => ?_) (fun c2_7 => ?_)
    ·refine XC.seq ?_; refine XC.region ?_; refine XO.move rfl rfl ?_; refine XO.lenS (ts := #[]) rfl Try.underlying34 rfl ?_; refine XO.eql rfl rfl rfl ?_; refine XO.assign rfl rfl ?_; refine XO.nil ?_; refine XC.seq2 ?_; refine XC.ret ?_; refine seqX_ret ?_; refine ⟨rfl, _, [], rfl, (by repeat (first | exact List.Sublist.refl _ | apply List.Sublist.cons)), RetR.mk ?_⟩
     first | rfl | exact congrArg Value.bool (decide_eq_true (by rw [tab_nil (by assumption)]; rfl))
    ·have hE : tabE l es js day time = 0 := by omega
     have htl := tab_len hE
     refine XC.skip ?_; refine XC.seq2 ?_; refine XC.seq ?_; refine XC.seq ?_; refine XC.region ?_; refine XO.move rfl rfl ?_; refine XO.lenS (ts := #[]) rfl Try.underlying34 rfl ?_; refine XO.move rfl rfl ?_; refine XO.lenS (ts := #[]) rfl Try.underlying25 rfl ?_; refine XO.neq rfl rfl rfl ?_; refine XO.nil ?_; refine XC.seq2 ?_; refine XC.condF rfl (decide_eq_false (fun h => h (by rw [tab_len hE]))) ?_; refine XC.skip ?_; refine XC.seq2 ?_; refine XC.seq ?_; refine XC.seq ?_; refine XC.region ?_; refine XO.assign rfl rfl ?_; refine XO.nil ?_; refine XC.seq2 ?_; refine XC.block ?_; refine XC.keep [13, 0, 1, 2, 3, 4, 11] rfl ?_; refine XC.loop (base := [(0, _), (1, _), (2, _), (3, _), (4, _), (11, _)]) (fun ζ : Nat => [(13, .int .i64 (ζ : Nat))]) (fun ζ Hl own => ζ ≤ es.length ∧ rest = own) (fun ζ => es.length - ζ) 0 (prov_cons (rfl) (prov_cons (rfl) (prov_cons (rfl) (prov_cons (rfl) (prov_cons (rfl) (prov_cons (rfl) (prov_cons (rfl) prov_nil))))))) (by repeat (first | exact List.Sublist.refl _ | apply List.Sublist.cons_cons | apply List.Sublist.cons)) ⟨Nat.zero_le _, rfl⟩ ?_; rintro i Hl0 _ hle0 ⟨hki, rfl⟩; replace hs := hs.mono hle0; replace hes := hes.mono hle0; replace hjs := hjs.mono hle0; replace hN39 := hN39.mono hle0
     try dsimp only at ⊢
     refine XC.seq ?_; refine XC.seq ?_; refine XC.region ?_; refine XO.move rfl rfl ?_; refine XO.move rfl rfl ?_; refine XO.lenS (ts := #[]) rfl Try.underlying25 rfl ?_; refine XO.lss rfl rfl rfl ?_; refine XO.nil ?_; refine XC.seq2 ?_; refine XC.cond rfl (fun c4_8 => ?_) (fun c4_8 => ?_)
     ·obtain ⟨xX, hxX⟩ : ∃ x, es[i]? = some x := ⟨_, List.getElem?_eq_getElem (by omega)⟩
      refine XC.skip ?_; refine XC.seq2 ?_; refine XC.seq ?_; refine XC.block ?_; refine XC.seq ?_; refine XC.seq ?_; refine XC.region ?_; refine XO.move rfl rfl ?_; refine XO.move rfl rfl ?_; refine XO.indexN rfl hN39 rfl Try.underlying34 ty_45 (by omega) rfl ?_; rintro eb60 eo60 _ x60 hx60 ⟨ax60, cx60, rfl, hd60⟩ hp60
      have hrow := Option.some.inj (hx60.symm.trans (tab_get hE hxX))
      refine XO.loadH rfl (by assumption) ty_45 rfl rfl rfl ?_; refine XO.lenS (ts := #[]) rfl Try.underlying45 rfl ?_; refine XO.move rfl rfl ?_; refine XO.lenS (ts := #[]) rfl Try.underlying25 rfl ?_; refine XO.neq rfl rfl rfl ?_; refine XO.nil ?_; refine XC.seq2 ?_; refine XC.condF rfl (decide_eq_false (fun h => h (by rw [hrow, List.length_map]))) ?_; refine XC.skip ?_; refine XC.seq2 ?_; refine XC.seq ?_; refine XC.region ?_; refine XO.assign rfl rfl ?_; refine XO.nil ?_; refine XC.seq2 ?_; refine XC.block ?_; refine XC.keep [14, 0, 1, 2, 3, 4, 11, 13] rfl ?_; refine XC.loop (base := [(0, _), (1, _), (2, _), (3, _), (4, _), (11, _), (13, _)]) (fun ζ : Nat => [(14, .int .i64 (ζ : Nat))]) (fun ζ Hl own => ζ ≤ js.length ∧ rest = own) (fun ζ => js.length - ζ) 0 (prov_cons (rfl) (prov_cons (rfl) (prov_cons (rfl) (prov_cons (rfl) (prov_cons (rfl) (prov_cons (rfl) (prov_cons (rfl) (prov_cons (rfl) prov_nil)))))))) (by repeat (first | exact List.Sublist.refl _ | apply List.Sublist.cons_cons | apply List.Sublist.cons)) ⟨Nat.zero_le _, rfl⟩ ?_; rintro j Hl1 _ hle1 ⟨hkj, rfl⟩; replace hs := hs.mono hle1; replace hes := hes.mono hle1; replace hjs := hjs.mono hle1; replace hN39 := hN39.mono hle1; replace hp60 := hp60.mono hle1; replace hd60 := hd60.mono hle1; replace hle0 := hle0.trans hle1
      try dsimp only at ⊢
      refine XC.seq ?_; refine XC.seq ?_; refine XC.region ?_; refine XO.move rfl rfl ?_; refine XO.move rfl rfl ?_; refine XO.lenS (ts := #[]) rfl Try.underlying25 rfl ?_; refine XO.lss rfl rfl rfl ?_; refine XO.nil ?_; refine XC.seq2 ?_; refine XC.cond rfl (fun c6_10 => ?_) (fun c6_10 => ?_)
      ·skip
       refine XC.skip ?_; refine XC.seq2 ?_; refine XC.seq ?_; refine XC.block ?_; refine XC.seq ?_; refine XC.keep [0, 1, 2, 3, 4, 11, 13, 14] rfl ?_; obtain ⟨bEZ, oEZ, rfl⟩ := hes.addr (by omega); obtain ⟨_, xZ, hxZ, rfl, hpZ⟩ := hes.elem (i) (by omega); obtain ⟨bEY, oEY, rfl⟩ := hjs.addr (by omega); obtain ⟨_, xY, hxY, rfl, hpY⟩ := hjs.elem (j) (by omega); obtain rfl := Option.some.inj (hxX.symm.trans hxZ)
       have hE2 := err_ids hE (List.mem_of_getElem? hxX) (List.mem_of_getElem? hxY)
       apply XC.drawG (fun _ => True) trivial 18 [eqF _, eqF _, eqF _, eqF _, eqF _, eqF _, eqF _, eqF _, eqF _, eqF _, eqF _, fun v H => CnfU (cnfC l xX xY day time) (errC l xX xY day time) H v, fun v H => CnfU (cnfC l xX xY day time) (errC l xX xY day time) H v, slG (intR .i64) ((cnfC l xX xY day time).getD []), eqF _, eqF _, slG (intR .i64) ((cnfC l xX xY day time).getD []), eqF _] follows (by kernel_rfl) (by kernel_rfl) ⟨eqF_mono _, eqF_mono _, eqF_mono _, eqF_mono _, eqF_mono _, eqF_mono _, eqF_mono _, eqF_mono _, eqF_mono _, eqF_mono _, eqF_mono _, fun _ _ _ hle ⟨a, c, h1, h2⟩ => ⟨a, c, h1, h2.mono hle⟩, fun _ _ _ hle ⟨a, c, h1, h2⟩ => ⟨a, c, h1, h2.mono hle⟩, slG_mono _ _, eqF_mono _, eqF_mono _, slG_mono _ _, eqF_mono _, trivial⟩ ?steps11 ?tail11
       case steps11 =>
        refine stepsD_cons rfl ?_ ?_
        ·intro X HD hleD _
         replace hs := hs.mono hleD; replace hes := hes.mono hleD; replace hjs := hjs.mono hleD; replace hN39 := hN39.mono hleD; replace hp60 := hp60.mono hleD; replace hd60 := hd60.mono hleD; replace hpZ := hpZ.mono hleD; replace hpY := hpY.mono hleD; replace hle0 := hle0.trans hleD; replace hle1 := hle1.trans hleD; refine withPreds_nil rfl ?_; refine XO.move rfl rfl ?_; refine XO.nil ?_
         exact stepQ_ok trivial (rfl)
        refine stepsD_cons rfl ?_ ?_
        ·intro X HD hleD _
         replace hs := hs.mono hleD; replace hes := hes.mono hleD; replace hjs := hjs.mono hleD; replace hN39 := hN39.mono hleD; replace hp60 := hp60.mono hleD; replace hd60 := hd60.mono hleD; replace hpZ := hpZ.mono hleD; replace hpY := hpY.mono hleD; replace hle0 := hle0.trans hleD; replace hle1 := hle1.trans hleD; refine withPreds_nil rfl ?_; refine XO.move rfl rfl ?_; refine XO.nil ?_
         exact stepQ_ok trivial (rfl)
        refine stepsD_cons rfl ?_ ?_
        ·intro X HD hleD _
         replace hs := hs.mono hleD; replace hes := hes.mono hleD; replace hjs := hjs.mono hleD; replace hN39 := hN39.mono hleD; replace hp60 := hp60.mono hleD; replace hd60 := hd60.mono hleD; replace hpZ := hpZ.mono hleD; replace hpY := hpY.mono hleD; replace hle0 := hle0.trans hleD; replace hle1 := hle1.trans hleD; refine withPreds_nil rfl ?_; refine XO.move rfl rfl ?_; refine XO.nil ?_
         exact stepQ_ok trivial (rfl)
        refine stepsD_cons rfl ?_ ?_
        ·intro X HD hleD _
         replace hs := hs.mono hleD; replace hes := hes.mono hleD; replace hjs := hjs.mono hleD; replace hN39 := hN39.mono hleD; replace hp60 := hp60.mono hleD; replace hd60 := hd60.mono hleD; replace hpZ := hpZ.mono hleD; replace hpY := hpY.mono hleD; replace hle0 := hle0.trans hleD; replace hle1 := hle1.trans hleD; refine withPreds_cons rfl rfl ?_; rintro _ rfl; refine withPreds_cons rfl rfl ?_; rintro _ rfl; refine withPreds_nil rfl ?_; refine XO.indexE rfl rfl Try.underlying25 ty_3 (by omega) (by omega) rfl ?_; refine XO.nil ?_
         exact stepQ_ok trivial (rfl)
        refine stepsD_cons rfl ?_ ?_
        ·intro X HD hleD _
         replace hs := hs.mono hleD; replace hes := hes.mono hleD; replace hjs := hjs.mono hleD; replace hN39 := hN39.mono hleD; replace hp60 := hp60.mono hleD; replace hd60 := hd60.mono hleD; replace hpZ := hpZ.mono hleD; replace hpY := hpY.mono hleD; replace hle0 := hle0.trans hleD; replace hle1 := hle1.trans hleD; refine withPreds_cons rfl rfl ?_; rintro _ rfl; refine withPreds_nil rfl ?_; refine XO.loadH rfl (by assumption) ty_3 rfl rfl rfl ?_; refine XO.nil ?_
         exact stepQ_ok trivial (rfl)
        refine stepsD_cons rfl ?_ ?_
        ·intro X HD hleD _
         replace hs := hs.mono hleD; replace hes := hes.mono hleD; replace hjs := hjs.mono hleD; replace hN39 := hN39.mono hleD; replace hp60 := hp60.mono hleD; replace hd60 := hd60.mono hleD; replace hpZ := hpZ.mono hleD; replace hpY := hpY.mono hleD; replace hle0 := hle0.trans hleD; replace hle1 := hle1.trans hleD; refine withPreds_nil rfl ?_; refine XO.move rfl rfl ?_; refine XO.nil ?_
         exact stepQ_ok trivial (rfl)
        refine stepsD_cons rfl ?_ ?_
        ·intro X HD hleD _
         replace hs := hs.mono hleD; replace hes := hes.mono hleD; replace hjs := hjs.mono hleD; replace hN39 := hN39.mono hleD; replace hp60 := hp60.mono hleD; replace hd60 := hd60.mono hleD; replace hpZ := hpZ.mono hleD; replace hpY := hpY.mono hleD; replace hle0 := hle0.trans hleD; replace hle1 := hle1.trans hleD; refine withPreds_nil rfl ?_; refine XO.move rfl rfl ?_; refine XO.nil ?_
         exact stepQ_ok trivial (rfl)
        refine stepsD_cons rfl ?_ ?_
        ·intro X HD hleD _
         replace hs := hs.mono hleD; replace hes := hes.mono hleD; replace hjs := hjs.mono hleD; replace hN39 := hN39.mono hleD; replace hp60 := hp60.mono hleD; replace hd60 := hd60.mono hleD; replace hpZ := hpZ.mono hleD; replace hpY := hpY.mono hleD; replace hle0 := hle0.trans hleD; replace hle1 := hle1.trans hleD; refine withPreds_cons rfl rfl ?_; rintro _ rfl; refine withPreds_cons rfl rfl ?_; rintro _ rfl; refine withPreds_nil rfl ?_; refine XO.indexE rfl rfl Try.underlying25 ty_3 (by omega) (by omega) rfl ?_; refine XO.nil ?_
         exact stepQ_ok trivial (rfl)
        refine stepsD_cons rfl ?_ ?_
        ·intro X HD hleD _
         replace hs := hs.mono hleD; replace hes := hes.mono hleD; replace hjs := hjs.mono hleD; replace hN39 := hN39.mono hleD; replace hp60 := hp60.mono hleD; replace hd60 := hd60.mono hleD; replace hpZ := hpZ.mono hleD; replace hpY := hpY.mono hleD; replace hle0 := hle0.trans hleD; replace hle1 := hle1.trans hleD; refine withPreds_cons rfl rfl ?_; rintro _ rfl; refine withPreds_nil rfl ?_; refine XO.loadH rfl (by assumption) ty_3 rfl rfl rfl ?_; refine XO.nil ?_
         exact stepQ_ok trivial (rfl)
        refine stepsD_cons rfl ?_ ?_
        ·intro X HD hleD _
         replace hs := hs.mono hleD; replace hes := hes.mono hleD; replace hjs := hjs.mono hleD; replace hN39 := hN39.mono hleD; replace hp60 := hp60.mono hleD; replace hd60 := hd60.mono hleD; replace hpZ := hpZ.mono hleD; replace hpY := hpY.mono hleD; replace hle0 := hle0.trans hleD; replace hle1 := hle1.trans hleD; refine withPreds_nil rfl ?_; refine XO.move rfl rfl ?_; refine XO.nil ?_
         exact stepQ_ok trivial (rfl)
        refine stepsD_cons rfl ?_ ?_
        ·intro X HD hleD _
         replace hs := hs.mono hleD; replace hes := hes.mono hleD; replace hjs := hjs.mono hleD; replace hN39 := hN39.mono hleD; replace hp60 := hp60.mono hleD; replace hd60 := hd60.mono hleD; replace hpZ := hpZ.mono hleD; replace hpY := hpY.mono hleD; replace hle0 := hle0.trans hleD; replace hle1 := hle1.trans hleD; refine withPreds_nil rfl ?_; refine XO.move rfl rfl ?_; refine XO.nil ?_
         exact stepQ_ok trivial (rfl)
        refine stepsD_cons rfl ?_ ?_
        ·intro X HD hleD _
         replace hs := hs.mono hleD; replace hes := hes.mono hleD; replace hjs := hjs.mono hleD; replace hN39 := hN39.mono hleD; replace hp60 := hp60.mono hleD; replace hd60 := hd60.mono hleD; replace hpZ := hpZ.mono hleD; replace hpY := hpY.mono hleD; replace hle0 := hle0.trans hleD; replace hle1 := hle1.trans hleD; refine withPreds_cons rfl rfl ?_; rintro _ rfl; refine withPreds_cons rfl rfl ?_; rintro _ rfl; refine withPreds_cons rfl rfl ?_; rintro _ rfl; refine withPreds_cons rfl rfl ?_; rintro _ rfl; refine withPreds_cons rfl rfl ?_; rintro _ rfl; refine withPreds_nil rfl ?_; refine XO.callH rfl (conf_fn _ _ l _ hs hl xX xY day time) rfl ?_; rintro _ HN84 hleN84 ⟨aN84, cN84, rfl, hN84⟩; replace hs := hs.mono hleN84; replace hes := hes.mono hleN84; replace hjs := hjs.mono hleN84; replace hN39 := hN39.mono hleN84; replace hp60 := hp60.mono hleN84; replace hd60 := hd60.mono hleN84; replace hpZ := hpZ.mono hleN84; replace hpY := hpY.mono hleN84; replace hle0 := hle0.trans hleN84; replace hle1 := hle1.trans hleN84; refine XO.nil ?_
         exact stepQ_ok trivial (⟨_, _, rfl, hN84⟩)
        refine stepsD_cons rfl ?_ ?_
        ·intro X HD hleD _
         replace hs := hs.mono hleD; replace hes := hes.mono hleD; replace hjs := hjs.mono hleD; replace hN39 := hN39.mono hleD; replace hp60 := hp60.mono hleD; replace hd60 := hd60.mono hleD; replace hpZ := hpZ.mono hleD; replace hpY := hpY.mono hleD; replace hle0 := hle0.trans hleD; replace hle1 := hle1.trans hleD; refine withPreds_cons rfl rfl ?_; rintro _ ⟨aF, cF, rfl, hF⟩; refine withPreds_nil rfl ?_; refine XO.move rfl rfl ?_; refine XO.nil ?_
         exact stepQ_ok trivial (⟨_, _, rfl, hF⟩)
        refine stepsD_cons rfl ?_ ?_
        ·intro X HD hleD _
         replace hs := hs.mono hleD; replace hes := hes.mono hleD; replace hjs := hjs.mono hleD; replace hN39 := hN39.mono hleD; replace hp60 := hp60.mono hleD; replace hd60 := hd60.mono hleD; replace hpZ := hpZ.mono hleD; replace hpY := hpY.mono hleD; replace hle0 := hle0.trans hleD; replace hle1 := hle1.trans hleD; refine withPreds_cons rfl rfl ?_; rintro _ ⟨aG, cG, rfl, hG⟩; refine withPreds_nil rfl ?_; refine XO.extract rfl rfl rfl ?_; refine XO.nil ?_
         exact stepQ_ok trivial (⟨_, _, rfl, hG⟩)
        refine stepsD_cons rfl ?_ ?_
        ·intro X HD hleD _
         replace hs := hs.mono hleD; replace hes := hes.mono hleD; replace hjs := hjs.mono hleD; replace hN39 := hN39.mono hleD; replace hp60 := hp60.mono hleD; replace hd60 := hd60.mono hleD; replace hpZ := hpZ.mono hleD; replace hpY := hpY.mono hleD; replace hle0 := hle0.trans hleD; replace hle1 := hle1.trans hleD; refine withPreds_cons rfl rfl ?_; rintro _ ⟨aG, cG, rfl, hG⟩; refine withPreds_nil rfl ?_; refine XO.extract rfl rfl rfl ?_; refine XO.nil ?_
         exact stepQ_ok trivial (rfl)
        refine stepsD_cons rfl ?_ ?_
        ·intro X HD hleD _
         replace hs := hs.mono hleD; replace hes := hes.mono hleD; replace hjs := hjs.mono hleD; replace hN39 := hN39.mono hleD; replace hp60 := hp60.mono hleD; replace hd60 := hd60.mono hleD; replace hpZ := hpZ.mono hleD; replace hpY := hpY.mono hleD; replace hle0 := hle0.trans hleD; replace hle1 := hle1.trans hleD; refine withPreds_cons rfl rfl ?_; rintro _ ⟨aG, cG, rfl, hG⟩; refine withPreds_nil rfl ?_; refine XO.extract rfl rfl rfl ?_; refine XO.nil ?_
         exact stepQ_ok trivial (rfl)
        refine stepsD_cons rfl ?_ ?_
        ·intro X HD hleD _
         replace hs := hs.mono hleD; replace hes := hes.mono hleD; replace hjs := hjs.mono hleD; replace hN39 := hN39.mono hleD; replace hp60 := hp60.mono hleD; replace hd60 := hd60.mono hleD; replace hpZ := hpZ.mono hleD; replace hpY := hpY.mono hleD; replace hle0 := hle0.trans hleD; replace hle1 := hle1.trans hleD; refine withPreds_cons rfl rfl ?_; rintro _ ⟨a85, c85, rfl, hsl85⟩; refine withPreds_nil rfl ?_; refine XO.assign rfl rfl ?_; refine XO.nil ?_
         exact stepQ_ok trivial (⟨_, _, rfl, hsl85⟩)
        refine stepsD_cons rfl ?_ ?_
        ·intro X HD hleD _
         replace hs := hs.mono hleD; replace hes := hes.mono hleD; replace hjs := hjs.mono hleD; replace hN39 := hN39.mono hleD; replace hp60 := hp60.mono hleD; replace hd60 := hd60.mono hleD; replace hpZ := hpZ.mono hleD; replace hpY := hpY.mono hleD; replace hle0 := hle0.trans hleD; replace hle1 := hle1.trans hleD; refine withPreds_cons rfl rfl ?_; rintro _ rfl; refine withPreds_nil rfl ?_; refine XO.assign rfl rfl ?_; refine XO.nil ?_
         exact stepQ_ok trivial (rfl)
        exact stepsD_end rfl
       case tail11 =>
        intro HD hleD _
        replace hs := hs.mono hleD; replace hes := hes.mono hleD; replace hjs := hjs.mono hleD; replace hN39 := hN39.mono hleD; replace hp60 := hp60.mono hleD; replace hd60 := hd60.mono hleD; replace hpZ := hpZ.mono hleD; replace hpY := hpY.mono hleD; replace hle0 := hle0.trans hleD; replace hle1 := hle1.trans hleD; refine withPreds_cons rfl rfl ?_; rintro _ rfl; refine withPreds_cons rfl rfl ?_; rintro _ rfl; refine withPreds_cons rfl rfl ?_; rintro _ rfl; refine withPreds_cons rfl rfl ?_; rintro _ rfl; refine withPreds_cons rfl rfl ?_; rintro _ rfl; refine withPreds_cons rfl rfl ?_; rintro _ rfl; refine withPreds_cons rfl rfl ?_; rintro _ rfl; refine withPreds_cons rfl rfl ?_; rintro _ rfl; refine withPreds_cons rfl rfl ?_; rintro _ rfl; refine withPreds_cons rfl rfl ?_; rintro _ rfl; refine withPreds_cons rfl rfl ?_; rintro _ rfl; refine withPreds_cons rfl rfl ?_; rintro _ ⟨aF, cF, rfl, hF⟩; refine withPreds_cons rfl rfl ?_; rintro _ ⟨aG, cG, rfl, hG⟩; refine withPreds_cons rfl rfl ?_; rintro _ ⟨a85, c85, rfl, hsl85⟩; refine withPreds_cons rfl rfl ?_; rintro _ rfl; refine withPreds_cons rfl rfl ?_; rintro _ rfl; refine withPreds_cons rfl rfl ?_; rintro _ ⟨a15, c15, rfl, hsl15⟩; refine withPreds_cons rfl rfl ?_; rintro _ rfl; refine withPreds_nil rfl ?_; refine XO.assign rfl rfl ?_; refine XO.nil ?_; refine XC.seq2 ?_; refine XC.seq ?_; refine XC.region ?_; refine XO.move rfl rfl ?_; refine XO.neq rfl rfl rfl ?_; refine XO.move rfl rfl ?_; refine XO.guardT rfl rfl (decide_eq_false (fun h => h hE2)) rfl ?_; refine XO.move rfl rfl ?_; refine XO.guardT rfl rfl (decide_eq_false (fun h => h hE2)) rfl ?_; refine XO.move rfl rfl ?_; refine XO.guardT rfl rfl (decide_eq_false (fun h => h hE2)) rfl ?_; refine XO.move rfl rfl ?_; refine XO.guardT rfl rfl (decide_eq_false (fun h => h hE2)) rfl ?_; refine XO.indexN rfl hN39 rfl Try.underlying34 ty_45 (by omega) rfl ?_; rintro eb94 eo94 _ x94 hx94 ⟨ax94, cx94, rfl, hd94⟩ hp94; obtain rfl := Option.some.inj (hx60.symm.trans hx94); refine XO.guardT rfl rfl (decide_eq_false (fun h => h hE2)) rfl ?_; refine XO.loadH rfl (by assumption) ty_45 rfl rfl rfl ?_; refine XO.guardT rfl rfl (decide_eq_false (fun h => h hE2)) rfl ?_; refine XO.move rfl rfl ?_; refine XO.guardT rfl rfl (decide_eq_false (fun h => h hE2)) rfl ?_; refine XO.indexN rfl (by assumption) rfl Try.underlying45 ty_4 (by rw [hrow, List.length_map]; omega) rfl ?_; rintro eb97 eo97 _ x97 hx97 rfl hp97; refine XO.guardT rfl rfl (decide_eq_false (fun h => h hE2)) rfl ?_; refine XO.loadH rfl (by assumption) ty_4 rfl rfl rfl ?_; refine XO.guardT rfl rfl (decide_eq_false (fun h => h hE2)) rfl ?_; refine XO.neqB rfl rfl Try.underlying4 rfl ?_; refine XO.pickF rfl (decide_eq_false (fun h => h hE2)) rfl rfl ?_; refine XO.nil ?_; refine XC.seq2 ?_; refine XC.condF rfl (by rw [show x97 = (cnfC l xX xY day time).isSome by rw [hrow, List.getElem?_map, hxY] at hx97; exact (Option.some.inj hx97).symm]; exact bne_self_eq_false _) ?_; refine XC.skip ?_; refine blockN ?_; refine XC.seq2 ?_; refine XC.region ?_; refine XO.move rfl rfl ?_; refine XO.add rfl rfl (wrap_i64 (by omega) (by omega)) rfl ?_; refine XO.assign rfl rfl ?_; refine XO.nil ?_; refine loop_next (j + 1) (by show js.length - (j + 1) < js.length - j; omega) (prov_cons (rfl) (prov_cons (rfl) (prov_cons (rfl) (prov_cons (rfl) (prov_cons (rfl) (prov_cons (rfl) (prov_cons (rfl) (prov_cons (rfl) prov_nil)))))))) (⟨by show j + 1 ≤ js.length; omega, rfl⟩) (by repeat (first | exact List.Sublist.refl _ | apply List.Sublist.cons_cons | apply List.Sublist.cons)) (hle1)
      ·refine XC.exit ?_; refine seqX_exit ?_; refine loopX_exit ?_; refine blockHit rfl ?_; refine blockN ?_; refine XC.seq2 ?_; refine XC.region ?_; refine XO.move rfl rfl ?_; refine XO.add rfl rfl (wrap_i64 (by omega) (by omega)) rfl ?_; refine XO.assign rfl rfl ?_; refine XO.nil ?_; refine loop_next (i + 1) (by show es.length - (i + 1) < es.length - i; omega) (prov_cons (rfl) (prov_cons (rfl) (prov_cons (rfl) (prov_cons (rfl) (prov_cons (rfl) (prov_cons (rfl) (prov_cons (rfl) prov_nil))))))) (⟨by show i + 1 ≤ es.length; omega, rfl⟩) (by repeat (first | exact List.Sublist.refl _ | apply List.Sublist.cons_cons | apply List.Sublist.cons)) (hle0)
     ·refine XC.exit ?_; refine seqX_exit ?_; refine loopX_exit ?_; refine blockHit rfl ?_; refine XC.seq2 ?_; refine XC.seq ?_; refine XC.region ?_; refine XO.assign rfl rfl ?_; refine XO.nil ?_; refine XC.seq2 ?_; refine XC.ret ?_; refine ⟨rfl, _, [], rfl, (by repeat (first | exact List.Sublist.refl _ | apply List.Sublist.cons)), RetR.mk ?_⟩
      first | rfl | exact congrArg Value.bool (decide_eq_true (by rw [tab_nil (by assumption)]; rfl))
  ·have g4p := of_decide_eq_true g4
   refine XO.guardF rfl rfl (g4) rfl rfl ?_; refine XO.guardF rfl rfl (g4) rfl rfl ?_; refine XO.pickT rfl (g4) rfl rfl ?_; refine XO.nil ?_; refine XC.seq2 ?_; refine XC.condT rfl (rfl) ?_; refine XC.seq ?_; refine XC.region ?_; refine XO.assign rfl rfl ?_; refine XO.nil ?_; refine XC.seq2 ?_; refine XC.ret ?_; refine seqX_ret ?_; refine ⟨rfl, _, [], rfl, (by repeat (first | exact List.Sublist.refl _ | apply List.Sublist.cons)), RetR.mk ?_⟩
   first | rfl | exact congrArg Value.bool (decide_eq_true (by rw [tab_nil (by assumption)]; rfl))
 ·have g3p := of_decide_eq_true g3
  refine XO.guardF rfl rfl (g3) rfl rfl ?_; refine XO.guardF rfl rfl (g3) rfl rfl ?_; refine XO.pickT rfl (g3) rfl rfl ?_; refine XO.move rfl rfl ?_; refine XO.guardF rfl rfl (rfl) rfl rfl ?_; refine XO.guardF rfl rfl (rfl) rfl rfl ?_; refine XO.guardF rfl rfl (rfl) rfl rfl ?_; refine XO.pickT rfl (rfl) rfl rfl ?_; refine XO.nil ?_; refine XC.seq2 ?_; refine XC.condT rfl (rfl) ?_; refine XC.seq ?_; refine XC.region ?_; refine XO.assign rfl rfl ?_; refine XO.nil ?_; refine XC.seq2 ?_; refine XC.ret ?_; refine seqX_ret ?_; refine ⟨rfl, _, [], rfl, (by repeat (first | exact List.Sublist.refl _ | apply List.Sublist.cons)), RetR.mk ?_⟩
  first | rfl | exact congrArg Value.bool (decide_eq_true (by rw [tab_nil (by assumption)]; rfl))

namespace conflictsTable
open Go.ChangeShapes Go.WideShapes Go.ChangeAt Go.RowKit
open Go.ChangeMaps (open_string shut_string)
theorem own : ownKnob Try.prog.godebug = none := by kernel_rfl
theorem laidOut : laidOutB Try.prog = true := by kernel_rfl
set_option maxRecDepth 100000 in
theorem lifted (os : Os) (started : os.Started) (H : Type) (enc : TypeId × Value → H) :
  ReturnsInHanded {} Try.checked os 9 .any (Rows.conflictsTableSpec.pre6 enc Try.prog Try.f9 Rows.conflictsTableRow.domain false) (Rows.conflictsTableSpec.post enc Try.prog Try.f9 false true false false) := by
 refine returnsInHanded_of_change (C := Try.checked) own started (by kernel_rfl) Try.func9
  (ChangeSpec.witness6 (enc := enc) (C := Try.checked) false ⟨#[], #[.slice none 0 0, .slice none 0 0, .slice none 0 0, .int .i64 0, .int .i64 0], []⟩ 8 (by kernel_rfl) (by kernel_rfl) (by kernel_rfl) (by kernel_rfl)) ?_
 intro W base args ds gs before hval0 hW hcnd _
 have hval : ∀ (j : Nat) t v, Try.f9.params[j]? = some t → args[j]? = some v → Value.okWide Try.prog W .any base t v := hval0
 have hW' := hW
 obtain ⟨p, q, hA0, hV, rfl, hfz, hnd⟩ := hW
 have hA : DataW.TrodAll enc Try.prog W 0 (fun _ => true) true Try.f9.params.toList args.toList ds p := hA0
 rw [Try.params9] at hA hval
 obtain ⟨v0, vs0, d0, ds0, p0, q0, hargs, rfl, rfl, h0, r0⟩ := trodAll_cons hA; obtain ⟨v1, vs1, d1, ds1, p1, q1, rfl, rfl, rfl, h1, r1⟩ := trodAll_cons r0; obtain ⟨v2, vs2, d2, ds2, p2, q2, rfl, rfl, rfl, h2, r2⟩ := trodAll_cons r1; obtain ⟨v3, vs3, d3, ds3, p3, q3, rfl, rfl, rfl, h3, r3⟩ := trodAll_cons r2; obtain ⟨v4, vs4, d4, ds4, p4, q4, rfl, rfl, rfl, h4, r4⟩ := trodAll_cons r3; obtain ⟨rfl, rfl, rfl⟩ := trodAll_nil r4
 obtain rfl : args = #[v0, v1, v2, v3, v4] := by cases args; simp_all
 obtain ⟨rfl, rfl⟩ := trodVars_none hV; obtain ⟨a0, len0, cap0, rfl⟩ := okWide_slice Try.underlying22 (hval 0 22 v0 rfl rfl)
 have k0 := h0
 have lt0 : ∀ x ∈ p0, x.block < W.heap.size := by obtain ⟨m, hm⟩ := k0; exact DataW.trod_lt m _ _ _ hm
 obtain ⟨fuel0, hf0⟩ := h0; obtain ⟨l0, ⟨aa0, cc0, hcs0, hs0⟩, hw0⟩ := opens_fas enc W 0 _ _ fuel0 _ _ hf0
 simp [Value.cells] at hcs0
 obtain ⟨rfl, rfl, rfl⟩ := hcs0; obtain ⟨a1, len1, cap1, rfl⟩ := okWide_slice Try.underlying25 (hval 1 25 v1 rfl rfl)
 have k1 := h1
 have lt1 : ∀ x ∈ p1, x.block < W.heap.size := by obtain ⟨m, hm⟩ := k1; exact DataW.trod_lt m _ _ _ hm
 obtain ⟨fuel1, hf1⟩ := h1; obtain ⟨l1, ⟨aa1, cc1, hcs1, hs1⟩, hw1⟩ := opens_ints enc W 0 _ _ fuel1 _ _ hf1
 simp [Value.cells] at hcs1
 obtain ⟨rfl, rfl, rfl⟩ := hcs1; obtain ⟨a2, len2, cap2, rfl⟩ := okWide_slice Try.underlying25 (hval 2 25 v2 rfl rfl)
 have k2 := h2
 have lt2 : ∀ x ∈ p2, x.block < W.heap.size := by obtain ⟨m, hm⟩ := k2; exact DataW.trod_lt m _ _ _ hm
 obtain ⟨fuel2, hf2⟩ := h2; obtain ⟨l2, ⟨aa2, cc2, hcs2, hs2⟩, hw2⟩ := opens_ints enc W 0 _ _ fuel2 _ _ hf2
 simp [Value.cells] at hcs2
 obtain ⟨rfl, rfl, rfl⟩ := hcs2; obtain ⟨a3, rfl, rfl, rfl, w3⟩ := open_int Try.underlying3 (hval 3 3 v3 rfl rfl) h3; obtain ⟨a4, rfl, rfl, rfl, w4⟩ := open_int Try.underlying3 (hval 4 3 v4 rfl rfl) h4
 clear hA0 hval0
 refine (conflictsTable_fn _ _ _ _ _ _ l0 l1 l2 a3 a4 (hpOf W) hs0 hs1 hs2 (mlt hw0.1) (mlt hw1.1) (mlt hw2.1)).below.mono fun e W' ⟨he, bel⟩ => ?_
 subst he
 exact ⟨_, rfl, _, _, _, [], _, [], hW', trodAll_mk1 (shut_bool Try.underlying4 _), (trodAll_cons_mk (Below.trod laidOut (by kernel_rfl) (of_decide_eq_true (by kernel_rfl)) k0 bel lt0) (trodAll_cons_mk (Below.trod laidOut (by kernel_rfl) (of_decide_eq_true (by kernel_rfl)) k1 bel lt1) (trodAll_cons_mk (Below.trod laidOut (by kernel_rfl) (of_decide_eq_true (by kernel_rfl)) k2 bel lt2) (trodAll_cons_mk (shut_int Try.underlying3 w3) (trodAll_cons_mk (shut_int Try.underlying3 w4) trodAll_mk0))))), rfl, bel.frame _, fun h => by cases h⟩
theorem over : Rows.conflictsTableRow.holds Try.pinned (OpenSpec.ofChange Rows.conflictsTableSpec) :=
 OpenClaim.holds_of_wide 9 Try.f9 rfl rfl rfl rfl rfl rfl rfl ⟨rfl, rfl, rfl, rfl, rfl⟩ rfl rfl rfl rfl rfl (by kernel_rfl) Try.func9 (by kernel_rfl)
  (of_decide_eq_true (by kernel_rfl)) (by unfold Func.isWrapper; first | (rw [if_pos (by decide +kernel)]; kernel_rfl) | (rw [if_neg (by decide +kernel)]; exact ⟨rfl, rfl⟩))
  (fun os started H enc _ => lifted os started H enc)
/-- The given statement. -/
theorem proved : Rows.ConflictsTableSaid := over
#print axioms proved
end conflictsTable
end Go.Proofs.Ytapacjfkgiigiaa
