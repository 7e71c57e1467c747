/- The walks of the functions of conflicts: what each of them computes, at any input. -/
import Derived.Test.YtapacjfkgiigiaaB7
set_option autoImplicit false
set_option linter.unusedVariables false
set_option linter.unusedSimpArgs false
namespace Go.Proofs
open Go.XL



set_option maxRecDepth 100000 in
set_option maxHeartbeats 1600000 in
theorem progproves_fn (a ap : Option Addr) (c cp : Nat) (l : Fs) (p : List Int) (x y day time : Int) (H : Hp) (hs : SlR faR H a c l) (hp : SlR (intR .i64) H ap cp p) (hl : l.length < 9223372036854775808) (hpl : p.length ≤ 10000) : FnC Try.prog 17 #[.slice a l.length c, .int .i64 x, .int .i64 y, .int .i64 day, .int .i64 time, .slice ap p.length cp] H [] (RetR (fun v _ _ => v = .tuple #[.bool (prvR l x y day time p), .int .i64 (errC l x y day time)])) := by
 refine FnC.intro (args := [.slice a l.length c, .int .i64 x, .int .i64 y, .int .i64 day, .int .i64 time, .slice ap p.length cp]) Try.func17 rfl rfl Try.ntmps17 rfl rfl rfl fun G rest => ?_
 refine XC.seq ?_; refine XC.region ?_; refine XO.assign rfl rfl ?_; refine XO.assign rfl rfl ?_; refine XO.nil ?_; refine XC.seq2 ?_; refine XC.seq ?_; refine XC.seq ?_; refine XC.region ?_; refine XO.move rfl rfl ?_; refine XO.move rfl rfl ?_; refine XO.move rfl rfl ?_; refine XO.move rfl rfl ?_; refine XO.move rfl rfl ?_; refine XO.callV rfl (err_fn _ _ l _ hs hl x y day time) rfl ?_; refine XO.assign rfl rfl ?_; refine XO.nil ?_; refine XC.seq2 ?_; refine XC.seq ?_; refine XC.region ?_; refine XO.move rfl rfl ?_; refine XO.neq rfl rfl rfl ?_; refine XO.nil ?_; refine XC.seq2 ?_; refine XC.cond rfl (fun c0_2 => ?_) (fun c0_2 => ?_)
 ·refine XC.seq ?_; refine XC.region ?_; refine XO.move rfl rfl ?_; refine XO.assign rfl rfl ?_; refine XO.assign rfl rfl ?_; refine XO.nil ?_; refine XC.seq2 ?_; refine XC.ret ?_; refine seqX_ret ?_; refine ⟨rfl, _, [], rfl, (by repeat (first | exact List.Sublist.refl _ | apply List.Sublist.cons)), RetR.mk ?_⟩
  first | (rw [prvR, if_neg (by assumption)]; rfl) | exact prvR_at hE (prv_none (List.mem_of_getElem? hx47) (isSome_no (by simpa using (show (!(findN (cntF l day time) x47).isSome) = true by assumption)))) | exact prvR_at hE (((decide_eq_decide.2 (by omega)).trans (pv_0 (by omega)).symm).trans hprv.symm) | exact prvR_at hE (((decide_eq_false (by omega)).symm.trans (pv_0 (by omega)).symm).trans hprv.symm) | exact prvR_at hE ((pw_1 hn0 (by omega) hx90 (by assumption) (by assumption)).trans hprv.symm) | exact prvR_at hE ((pw_1n hn0 (by omega) hx90 (.inl (by assumption))).trans hprv.symm) | exact prvR_at hE ((pw_1n hn0 (by omega) hx90 (.inr (by assumption))).trans hprv.symm) | exact prvR_at hE ((pw_2 hn0 (by omega) hxX hxY hkX (by assumption) (by assumption) (by assumption)).trans hprv.symm) | exact prvR_at hE ((pw_2n hn0 (by omega) hxX hxY hkX (fun h => by first | exact absurd h.1 (by assumption) | exact absurd h.2.1 (by assumption) | exact absurd h.2.2 (by assumption))).trans hprv.symm) | exact prvR_at hE ((hce.symm).trans hprv.symm) | exact prvR_at hE (((rel_cn hre hx156 (.inl (by simpa using (show (!(othr x156 z).isSome) = true by assumption)))).symm).trans hprv.symm) | exact prvR_at hE (((rel_cn hre hx156 (.inr (.inr (by assumption)))).symm).trans hprv.symm) | exact prvR_at hE (((rel_cn hre hx156 (.inr (.inl ⟨by assumption, (by simpa using (show (!(othr x156 z).isSome) = false by assumption))⟩))).symm).trans hprv.symm)
 ·have hE : errC l x y day time = 0 := by omega
  have hlx := (chkF_0 (errC_0 hE).1).1
  have hcx := cntF_len l day time
  have hsort := (riseP.cnt (ok_rise (chkF_0 (errC_0 hE).1).2).1 day time)
  refine XC.skip ?_; refine XC.seq2 ?_; refine XC.seq ?_; refine XC.region ?_; refine XO.move rfl rfl ?_; refine XO.move rfl rfl ?_; refine XO.move rfl rfl ?_; refine XO.callH rfl (counting_fn _ _ l _ hs hl (by omega) day time) rfl ?_; rintro _ HC hleC ⟨aC, cC, rfl, hC⟩; replace hs := hs.mono hleC; replace hp := hp.mono hleC; refine XO.alloc ze_51 rfl (fun b14 => ?_); refine XO.storeO 0 rfl rfl rfl rfl ty_51 rfl rfl rfl rfl rfl ?_; refine XO.nil ?_; refine XC.seq2 ?_; refine XC.seq ?_; refine XC.region ?_; refine XO.assign rfl rfl ?_; refine XO.nil ?_; refine XC.seq2 ?_; refine XC.seq ?_; refine XC.seq ?_; refine XC.region ?_; refine XO.move rfl rfl ?_; refine XO.lenS (ts := #[]) rfl Try.underlying25 rfl ?_; refine XO.move rfl rfl ?_; refine XO.nil ?_; refine XC.seq2 ?_; refine XC.block ?_; refine XC.keep [15, 45, 1, 2, 14, 43, 44] rfl ?_; refine XC.open0 0 ?_; refine XC.loop (base := [(1, _), (2, _), (14, _), (43, _), (44, _)]) (fun ζ : Nat × (Fs) × ((Nat × SObj) × Option Addr × Nat) => [(15, .slice ζ.2.2.2.1 (ζ.2.1).length ζ.2.2.2.2), (45, .int .i64 (ζ.1 : Nat))]) (fun ζ Hl own => ζ.1 ≤ p.length ∧ ζ.2.2.1 :: (b14, .cells 51 [.slice aC (cntF l day time).length cC]) :: rest = own ∧ Acc faR 41 Hl ζ.2.2.1 ζ.2.2.2.1 ζ.2.2.2.2 (ζ.2.1) ∧ (allS (findN (cntF l day time)) (p.take (ζ.1)) = some ζ.2.1)) (fun ζ => p.length - ζ.1) (0, [], ((0, .nothing), none, 0)) (prov_cons (rfl) (prov_cons (rfl) (prov_cons (rfl) (prov_cons (rfl) (prov_cons (rfl) (prov_cons (rfl) (prov_cons (rfl) prov_nil))))))) (by repeat (first | exact List.Sublist.refl _ | apply List.Sublist.cons_cons | apply List.Sublist.cons)) ⟨Nat.zero_le _, rfl, Acc.nil _ _ _ _, rfl⟩ ?_; rintro ⟨k, ks, ⟨pw, aw, cw⟩⟩ Hl0 _ hle0 ⟨hkk, rfl, haccw, hks⟩; replace hs := hs.mono hle0; replace hp := hp.mono hle0; replace hC := hC.mono hle0
  try dsimp only at hkk haccw hks ⊢
  refine XC.seq ?_; refine XC.region ?_; refine XO.lss rfl rfl rfl ?_; refine XO.nil ?_; refine XC.seq2 ?_; refine XC.seq ?_; refine XC.cond rfl (fun c1_4 => ?_) (fun c1_4 => ?_)
  ·refine XC.skip ?_; refine XC.seq2 ?_; refine XC.seq ?_; refine XC.block ?_; refine XC.seq ?_; refine XC.region ?_; refine XO.indexN rfl hp rfl Try.underlying25 ty_3 (by omega) rfl ?_; rintro eb47 eo47 _ x47 hx47 rfl hp47; refine XO.loadH rfl (by assumption) ty_3 rfl rfl rfl ?_; refine XO.assign rfl rfl ?_; refine XO.nil ?_; refine XC.seq2 ?_; refine XC.seq ?_; refine XC.region ?_; refine XO.fieldAddr rfl fa_51_0 rfl ?_; refine XO.loadO 1 rfl rfl ty_22 rfl rfl rfl ?_; refine XO.move rfl rfl ?_; refine XO.callK rfl (bin_fn _ _ (cntF l day time) x47 _ hC (by omega) hsort) rfl ?_; rintro _ ⟨iX, rfl, hX⟩; refine XO.move rfl rfl ?_; refine XO.extract rfl rfl rfl ?_; refine XO.extract rfl rfl rfl ?_; refine XO.assign rfl rfl ?_; refine XO.assign rfl rfl ?_; refine XO.nil ?_; refine XC.seq2 ?_; refine XC.seq ?_; refine XC.seq ?_; refine XC.region ?_; refine XO.move rfl rfl ?_; refine XO.notB rfl rfl ?_; refine XO.nil ?_; refine XC.seq2 ?_; refine XC.condB rfl (fun c2_7 => ?_) (fun c2_7 => ?_)
   ·refine XC.seq ?_; refine XC.region ?_; refine XO.assign rfl rfl ?_; refine XO.assign rfl rfl ?_; refine XO.nil ?_; refine XC.seq2 ?_; refine XC.ret ?_; refine seqX_ret ?_; refine blockR ?_; refine seqX_ret ?_; refine loopX_ret ?_; refine blockR ?_; refine seqX_ret ?_; refine ⟨rfl, _, [], rfl, (by repeat (first | exact List.Sublist.refl _ | apply List.Sublist.cons)), RetR.mk ?_⟩
    first | (rw [prvR, if_neg (by assumption)]; rfl) | exact prvR_at hE (prv_none (List.mem_of_getElem? hx47) (isSome_no (by simpa using (show (!(findN (cntF l day time) x47).isSome) = true by assumption)))) | exact prvR_at hE (((decide_eq_decide.2 (by omega)).trans (pv_0 (by omega)).symm).trans hprv.symm) | exact prvR_at hE (((decide_eq_false (by omega)).symm.trans (pv_0 (by omega)).symm).trans hprv.symm) | exact prvR_at hE ((pw_1 hn0 (by omega) hx90 (by assumption) (by assumption)).trans hprv.symm) | exact prvR_at hE ((pw_1n hn0 (by omega) hx90 (.inl (by assumption))).trans hprv.symm) | exact prvR_at hE ((pw_1n hn0 (by omega) hx90 (.inr (by assumption))).trans hprv.symm) | exact prvR_at hE ((pw_2 hn0 (by omega) hxX hxY hkX (by assumption) (by assumption) (by assumption)).trans hprv.symm) | exact prvR_at hE ((pw_2n hn0 (by omega) hxX hxY hkX (fun h => by first | exact absurd h.1 (by assumption) | exact absurd h.2.1 (by assumption) | exact absurd h.2.2 (by assumption))).trans hprv.symm) | exact prvR_at hE ((hce.symm).trans hprv.symm) | exact prvR_at hE (((rel_cn hre hx156 (.inl (by simpa using (show (!(othr x156 z).isSome) = true by assumption)))).symm).trans hprv.symm) | exact prvR_at hE (((rel_cn hre hx156 (.inr (.inr (by assumption)))).symm).trans hprv.symm) | exact prvR_at hE (((rel_cn hre hx156 (.inr (.inl ⟨by assumption, (by simpa using (show (!(othr x156 z).isSome) = false by assumption))⟩))).symm).trans hprv.symm)
   ·have hfx := (hX (by simpa using c2_7)).trans (getD_some (d := f0) (by simpa using c2_7))
    have hil := (List.getElem?_eq_some_iff.1 hfx).1
    have hkl := allS_len hks
    rw [List.length_take] at hkl
    refine XC.skip ?_; refine XC.seq2 ?_; refine XC.region ?_; refine XO.move rfl rfl ?_; refine XO.fieldAddr rfl fa_51_0 rfl ?_; refine XO.loadO 1 rfl rfl ty_22 rfl rfl rfl ?_; refine XO.move rfl rfl ?_; refine XO.indexN (i := iX) rfl hC rfl Try.underlying22 ty_41 (by omega) rfl ?_; rintro eb62 eo62 _ x62 hx62 rfl hp62; obtain rfl := Option.some.inj (hfx.symm.trans hx62); refine XO.loadH rfl (by assumption) ty_41 rfl rfl rfl ?_; refine XO.buildSlice rfl Try.underlying22 ty_41 ze_41 rfl rfl rfl (fun b64 => ?_); refine XO.publish 0 rfl rfl rfl (fun HP64 oP64 hleP64 hbP64 hoP64 => ?_)
    have hsl64 := SlR.lit (ρ := faR) (l := [(findN (cntF l day time) x47).getD f0]) hbP64 hoP64 (RowsR.one1 rfl)
    replace hs := hs.mono hleP64; replace hp := hp.mono hleP64; replace hC := hC.mono hleP64; replace haccw := haccw.mono hleP64; replace hp47 := hp47.mono hleP64; replace hp62 := hp62.mono hleP64; replace hle0 := hle0.trans hleP64; refine XO.appendA 0 rfl rfl haccw rfl rfl hsl64 rfl Try.underlying22 ty_41 ze_41 rfl by_41 (by simp; omega) rfl (fun p65 a65 c65 hacc65 => ?_); refine XO.assign rfl rfl ?_; refine XO.nil ?_; refine blockN ?_; refine XC.seq2 ?_; refine XC.region ?_; refine XO.add rfl rfl (wrap_i64 (by omega) (by omega)) rfl ?_; refine XO.move rfl rfl ?_; refine XO.nil ?_; refine loop_next ((k + 1, ks ++ [(findN (cntF l day time) x47).getD f0], (p65, a65, c65))) (by show p.length - (k + 1) < p.length - k; omega) (prov_cons (by first | rfl) (prov_cons (rfl) (prov_cons (rfl) (prov_cons (rfl) (prov_cons (rfl) (prov_cons (rfl) (prov_cons (rfl) prov_nil))))))) (⟨by show k + 1 ≤ p.length; omega, rfl, by first | (exact hacc65), by rw [take_snoc hx47]; exact allS_snoc hks (getD_some (by simpa using (show (!(findN (cntF l day time) x47).isSome) = false by assumption)))⟩) (by repeat (first | exact List.Sublist.refl _ | apply List.Sublist.cons_cons | apply List.Sublist.cons)) (hle0)
  ·obtain rfl : k = p.length := by omega
   rw [List.take_length] at hks
   have hkl := allS_len hks
   have hprv := prv_some (a := x) (b := y) hks
   refine XC.exit ?_; refine seqX_exit ?_; refine loopX_exit ?_; refine blockHit rfl ?_; refine XC.seq2 ?_; refine XC.seq ?_; refine XC.block ?_; refine XC.seq ?_; refine XC.region ?_; refine XO.publishA 0 rfl haccw rfl (fun HQ10 hleQ10 hsQ10 => ?_); replace hs := hs.mono hleQ10; replace hp := hp.mono hleQ10; replace hC := hC.mono hleQ10; replace hle0 := hle0.trans hleQ10; refine XO.move rfl rfl ?_; refine XO.lenS (ts := #[]) rfl Try.underlying22 rfl ?_; refine XO.eql rfl rfl rfl ?_; refine XO.move rfl rfl ?_; refine XO.guardC rfl rfl rfl rfl (fun g11 => ?_) (fun g11 => ?_)
   ·have g11p := of_decide_eq_false g11
    refine XO.move rfl rfl ?_; refine XO.guardT rfl rfl (g11) rfl ?_; refine XO.move rfl rfl ?_; refine XO.guardT rfl rfl (g11) rfl ?_; refine XO.eql rfl rfl rfl ?_; refine XO.pickF rfl (g11) rfl rfl ?_; refine XO.assign rfl rfl ?_; refine XO.nil ?_; refine XC.seq2 ?_; refine XC.cond rfl (fun c3_12 => ?_) (fun c3_12 => ?_)
    ·refine XC.seq ?_; refine XC.region ?_; refine XO.move rfl rfl ?_; refine XO.lenS (ts := #[]) rfl Try.underlying22 rfl ?_; refine XO.eql rfl rfl rfl ?_; refine XO.move rfl rfl ?_; refine XO.guardC rfl rfl rfl rfl (fun g13 => ?_) (fun g13 => ?_)
     ·have g13p := of_decide_eq_true g13
      refine XO.move rfl rfl ?_; refine XO.guardT rfl rfl (g13) rfl ?_; refine XO.move rfl rfl ?_; refine XO.guardT rfl rfl (g13) rfl ?_; refine XO.eql rfl rfl rfl ?_; refine XO.pickT rfl (g13) rfl rfl ?_; refine XO.assign rfl rfl ?_; refine XO.assign rfl rfl ?_; refine XO.nil ?_; refine XC.seq2 ?_; refine XC.ret ?_; refine blockR ?_; refine seqX_ret ?_; refine ⟨rfl, _, [], rfl, (by repeat (first | exact List.Sublist.refl _ | apply List.Sublist.cons)), RetR.mk ?_⟩
      first | (rw [prvR, if_neg (by assumption)]; rfl) | exact prvR_at hE (prv_none (List.mem_of_getElem? hx47) (isSome_no (by simpa using (show (!(findN (cntF l day time) x47).isSome) = true by assumption)))) | exact prvR_at hE (((decide_eq_decide.2 (by omega)).trans (pv_0 (by omega)).symm).trans hprv.symm) | exact prvR_at hE (((decide_eq_false (by omega)).symm.trans (pv_0 (by omega)).symm).trans hprv.symm) | exact prvR_at hE ((pw_1 hn0 (by omega) hx90 (by assumption) (by assumption)).trans hprv.symm) | exact prvR_at hE ((pw_1n hn0 (by omega) hx90 (.inl (by assumption))).trans hprv.symm) | exact prvR_at hE ((pw_1n hn0 (by omega) hx90 (.inr (by assumption))).trans hprv.symm) | exact prvR_at hE ((pw_2 hn0 (by omega) hxX hxY hkX (by assumption) (by assumption) (by assumption)).trans hprv.symm) | exact prvR_at hE ((pw_2n hn0 (by omega) hxX hxY hkX (fun h => by first | exact absurd h.1 (by assumption) | exact absurd h.2.1 (by assumption) | exact absurd h.2.2 (by assumption))).trans hprv.symm) | exact prvR_at hE ((hce.symm).trans hprv.symm) | exact prvR_at hE (((rel_cn hre hx156 (.inl (by simpa using (show (!(othr x156 z).isSome) = true by assumption)))).symm).trans hprv.symm) | exact prvR_at hE (((rel_cn hre hx156 (.inr (.inr (by assumption)))).symm).trans hprv.symm) | exact prvR_at hE (((rel_cn hre hx156 (.inr (.inl ⟨by assumption, (by simpa using (show (!(othr x156 z).isSome) = false by assumption))⟩))).symm).trans hprv.symm)
     ·have g13p := of_decide_eq_false g13
      refine XO.guardF rfl rfl (g13) rfl rfl ?_; refine XO.guardF rfl rfl (g13) rfl rfl ?_; refine XO.pickF rfl (g13) rfl rfl ?_; refine XO.assign rfl rfl ?_; refine XO.assign rfl rfl ?_; refine XO.nil ?_; refine XC.seq2 ?_; refine XC.ret ?_; refine blockR ?_; refine seqX_ret ?_; refine ⟨rfl, _, [], rfl, (by repeat (first | exact List.Sublist.refl _ | apply List.Sublist.cons)), RetR.mk ?_⟩
      first | (rw [prvR, if_neg (by assumption)]; rfl) | exact prvR_at hE (prv_none (List.mem_of_getElem? hx47) (isSome_no (by simpa using (show (!(findN (cntF l day time) x47).isSome) = true by assumption)))) | exact prvR_at hE (((decide_eq_decide.2 (by omega)).trans (pv_0 (by omega)).symm).trans hprv.symm) | exact prvR_at hE (((decide_eq_false (by omega)).symm.trans (pv_0 (by omega)).symm).trans hprv.symm) | exact prvR_at hE ((pw_1 hn0 (by omega) hx90 (by assumption) (by assumption)).trans hprv.symm) | exact prvR_at hE ((pw_1n hn0 (by omega) hx90 (.inl (by assumption))).trans hprv.symm) | exact prvR_at hE ((pw_1n hn0 (by omega) hx90 (.inr (by assumption))).trans hprv.symm) | exact prvR_at hE ((pw_2 hn0 (by omega) hxX hxY hkX (by assumption) (by assumption) (by assumption)).trans hprv.symm) | exact prvR_at hE ((pw_2n hn0 (by omega) hxX hxY hkX (fun h => by first | exact absurd h.1 (by assumption) | exact absurd h.2.1 (by assumption) | exact absurd h.2.2 (by assumption))).trans hprv.symm) | exact prvR_at hE ((hce.symm).trans hprv.symm) | exact prvR_at hE (((rel_cn hre hx156 (.inl (by simpa using (show (!(othr x156 z).isSome) = true by assumption)))).symm).trans hprv.symm) | exact prvR_at hE (((rel_cn hre hx156 (.inr (.inr (by assumption)))).symm).trans hprv.symm) | exact prvR_at hE (((rel_cn hre hx156 (.inr (.inl ⟨by assumption, (by simpa using (show (!(othr x156 z).isSome) = false by assumption))⟩))).symm).trans hprv.symm)
    ·have hn0 : ¬ (ks.length = 0 ∨ x = y) := by omega
     refine XC.seq ?_; refine XC.region ?_; refine XO.move rfl rfl ?_; refine XO.lenS (ts := #[]) rfl Try.underlying22 rfl ?_; refine XO.eql rfl rfl rfl ?_; refine XO.assign rfl rfl ?_; refine XO.nil ?_; refine XC.seq2 ?_; refine XC.cond rfl (fun c4_14 => ?_) (fun c4_14 => ?_)
     ·refine XC.seq ?_; refine XC.region ?_; refine XO.move rfl rfl ?_; refine XO.indexN rfl hsQ10 rfl Try.underlying22 ty_41 (by show 0 < ks.length; omega) rfl ?_; rintro eb90 eo90 _ x90 hx90 rfl hp90; refine XO.loadH rfl (by assumption) ty_41 rfl rfl rfl ?_; refine XO.move rfl rfl ?_; refine XO.callV rfl (other_fn x90 x _) rfl ?_; refine XO.move rfl rfl ?_; refine XO.extract rfl rfl rfl ?_; refine XO.extract rfl rfl rfl ?_; refine XO.assign rfl rfl ?_; refine XO.assign rfl rfl ?_; refine XO.nil ?_; refine XC.seq2 ?_; refine XC.seq ?_; refine XC.region ?_; refine XO.move rfl rfl ?_; refine XO.move rfl rfl ?_; refine XO.guardC rfl rfl rfl rfl (fun g17 => ?_) (fun g17 => ?_)
      ·have g17p := g17
       refine XO.move rfl rfl ?_; refine XO.guardT rfl rfl (g17) rfl ?_; refine XO.move rfl rfl ?_; refine XO.guardT rfl rfl (g17) rfl ?_; refine XO.eql rfl rfl rfl ?_; refine XO.pickT rfl (g17) rfl rfl ?_; refine XO.move rfl rfl ?_; refine XO.guardC rfl rfl rfl rfl (fun g18 => ?_) (fun g18 => ?_)
       ·have g18p := of_decide_eq_true g18
        refine XO.move rfl rfl ?_; refine XO.guardT rfl rfl (g18) rfl ?_; refine XO.indexN rfl hsQ10 rfl Try.underlying22 ty_41 (by show 0 < ks.length; omega) rfl ?_; rintro eb104 eo104 _ x104 hx104 rfl hp104; obtain rfl := Option.some.inj (hx90.symm.trans hx104); refine XO.guardT rfl rfl (g18) rfl ?_; refine XO.fieldAddr rfl fa_41_1 rfl ?_; refine XO.guardT rfl rfl (g18) rfl ?_; refine XO.loadHF rfl (by assumption) ty_3 rfl rfl rfl ?_; refine XO.guardT rfl rfl (g18) rfl ?_; refine XO.neq rfl rfl rfl ?_; refine XO.pickT rfl (g18) rfl rfl ?_; refine XO.assign rfl rfl ?_; refine XO.assign rfl rfl ?_; refine XO.nil ?_; refine XC.seq2 ?_; refine XC.ret ?_; refine blockR ?_; refine seqX_ret ?_; refine ⟨rfl, _, [], rfl, (by repeat (first | exact List.Sublist.refl _ | apply List.Sublist.cons)), RetR.mk ?_⟩
        first | (rw [prvR, if_neg (by assumption)]; rfl) | exact prvR_at hE (prv_none (List.mem_of_getElem? hx47) (isSome_no (by simpa using (show (!(findN (cntF l day time) x47).isSome) = true by assumption)))) | exact prvR_at hE (((decide_eq_decide.2 (by omega)).trans (pv_0 (by omega)).symm).trans hprv.symm) | exact prvR_at hE (((decide_eq_false (by omega)).symm.trans (pv_0 (by omega)).symm).trans hprv.symm) | exact prvR_at hE ((pw_1 hn0 (by omega) hx90 (by assumption) (by assumption)).trans hprv.symm) | exact prvR_at hE ((pw_1n hn0 (by omega) hx90 (.inl (by assumption))).trans hprv.symm) | exact prvR_at hE ((pw_1n hn0 (by omega) hx90 (.inr (by assumption))).trans hprv.symm) | exact prvR_at hE ((pw_2 hn0 (by omega) hxX hxY hkX (by assumption) (by assumption) (by assumption)).trans hprv.symm) | exact prvR_at hE ((pw_2n hn0 (by omega) hxX hxY hkX (fun h => by first | exact absurd h.1 (by assumption) | exact absurd h.2.1 (by assumption) | exact absurd h.2.2 (by assumption))).trans hprv.symm) | exact prvR_at hE ((hce.symm).trans hprv.symm) | exact prvR_at hE (((rel_cn hre hx156 (.inl (by simpa using (show (!(othr x156 z).isSome) = true by assumption)))).symm).trans hprv.symm) | exact prvR_at hE (((rel_cn hre hx156 (.inr (.inr (by assumption)))).symm).trans hprv.symm) | exact prvR_at hE (((rel_cn hre hx156 (.inr (.inl ⟨by assumption, (by simpa using (show (!(othr x156 z).isSome) = false by assumption))⟩))).symm).trans hprv.symm)
       ·have g18p := of_decide_eq_false g18
        refine XO.guardF rfl rfl (g18) rfl rfl ?_; refine XO.guardF rfl rfl (g18) rfl rfl ?_; refine XO.guardF rfl rfl (g18) rfl rfl ?_; refine XO.guardF rfl rfl (g18) rfl rfl ?_; refine XO.pickF rfl (g18) rfl rfl ?_; refine XO.assign rfl rfl ?_; refine XO.assign rfl rfl ?_; refine XO.nil ?_; refine XC.seq2 ?_; refine XC.ret ?_; refine blockR ?_; refine seqX_ret ?_; refine ⟨rfl, _, [], rfl, (by repeat (first | exact List.Sublist.refl _ | apply List.Sublist.cons)), RetR.mk ?_⟩
        first | (rw [prvR, if_neg (by assumption)]; rfl) | exact prvR_at hE (prv_none (List.mem_of_getElem? hx47) (isSome_no (by simpa using (show (!(findN (cntF l day time) x47).isSome) = true by assumption)))) | exact prvR_at hE (((decide_eq_decide.2 (by omega)).trans (pv_0 (by omega)).symm).trans hprv.symm) | exact prvR_at hE (((decide_eq_false (by omega)).symm.trans (pv_0 (by omega)).symm).trans hprv.symm) | exact prvR_at hE ((pw_1 hn0 (by omega) hx90 (by assumption) (by assumption)).trans hprv.symm) | exact prvR_at hE ((pw_1n hn0 (by omega) hx90 (.inl (by assumption))).trans hprv.symm) | exact prvR_at hE ((pw_1n hn0 (by omega) hx90 (.inr (by assumption))).trans hprv.symm) | exact prvR_at hE ((pw_2 hn0 (by omega) hxX hxY hkX (by assumption) (by assumption) (by assumption)).trans hprv.symm) | exact prvR_at hE ((pw_2n hn0 (by omega) hxX hxY hkX (fun h => by first | exact absurd h.1 (by assumption) | exact absurd h.2.1 (by assumption) | exact absurd h.2.2 (by assumption))).trans hprv.symm) | exact prvR_at hE ((hce.symm).trans hprv.symm) | exact prvR_at hE (((rel_cn hre hx156 (.inl (by simpa using (show (!(othr x156 z).isSome) = true by assumption)))).symm).trans hprv.symm) | exact prvR_at hE (((rel_cn hre hx156 (.inr (.inr (by assumption)))).symm).trans hprv.symm) | exact prvR_at hE (((rel_cn hre hx156 (.inr (.inl ⟨by assumption, (by simpa using (show (!(othr x156 z).isSome) = false by assumption))⟩))).symm).trans hprv.symm)
      ·have g17p := g17
       refine XO.guardF rfl rfl (g17) rfl rfl ?_; refine XO.guardF rfl rfl (g17) rfl rfl ?_; refine XO.pickF rfl (g17) rfl rfl ?_; refine XO.move rfl rfl ?_; refine XO.guardF rfl rfl (rfl) rfl rfl ?_; refine XO.guardF rfl rfl (rfl) rfl rfl ?_; refine XO.guardF rfl rfl (rfl) rfl rfl ?_; refine XO.guardF rfl rfl (rfl) rfl rfl ?_; refine XO.guardF rfl rfl (rfl) rfl rfl ?_; refine XO.pickF rfl (rfl) rfl rfl ?_; refine XO.assign rfl rfl ?_; refine XO.assign rfl rfl ?_; refine XO.nil ?_; refine XC.seq2 ?_; refine XC.ret ?_; refine blockR ?_; refine seqX_ret ?_; refine ⟨rfl, _, [], rfl, (by repeat (first | exact List.Sublist.refl _ | apply List.Sublist.cons)), RetR.mk ?_⟩
       first | (rw [prvR, if_neg (by assumption)]; rfl) | exact prvR_at hE (prv_none (List.mem_of_getElem? hx47) (isSome_no (by simpa using (show (!(findN (cntF l day time) x47).isSome) = true by assumption)))) | exact prvR_at hE (((decide_eq_decide.2 (by omega)).trans (pv_0 (by omega)).symm).trans hprv.symm) | exact prvR_at hE (((decide_eq_false (by omega)).symm.trans (pv_0 (by omega)).symm).trans hprv.symm) | exact prvR_at hE ((pw_1 hn0 (by omega) hx90 (by assumption) (by assumption)).trans hprv.symm) | exact prvR_at hE ((pw_1n hn0 (by omega) hx90 (.inl (by assumption))).trans hprv.symm) | exact prvR_at hE ((pw_1n hn0 (by omega) hx90 (.inr (by assumption))).trans hprv.symm) | exact prvR_at hE ((pw_2 hn0 (by omega) hxX hxY hkX (by assumption) (by assumption) (by assumption)).trans hprv.symm) | exact prvR_at hE ((pw_2n hn0 (by omega) hxX hxY hkX (fun h => by first | exact absurd h.1 (by assumption) | exact absurd h.2.1 (by assumption) | exact absurd h.2.2 (by assumption))).trans hprv.symm) | exact prvR_at hE ((hce.symm).trans hprv.symm) | exact prvR_at hE (((rel_cn hre hx156 (.inl (by simpa using (show (!(othr x156 z).isSome) = true by assumption)))).symm).trans hprv.symm) | exact prvR_at hE (((rel_cn hre hx156 (.inr (.inr (by assumption)))).symm).trans hprv.symm) | exact prvR_at hE (((rel_cn hre hx156 (.inr (.inl ⟨by assumption, (by simpa using (show (!(othr x156 z).isSome) = false by assumption))⟩))).symm).trans hprv.symm)
     ·refine XC.seq ?_; refine XC.region ?_; refine XO.move rfl rfl ?_; refine XO.lenS (ts := #[]) rfl Try.underlying22 rfl ?_; refine XO.eql rfl rfl rfl ?_; refine XO.move rfl rfl ?_; refine XO.guardC rfl rfl rfl rfl (fun g20 => ?_) (fun g20 => ?_)
      ·have g20p := of_decide_eq_true g20
       refine XO.move rfl rfl ?_; refine XO.guardT rfl rfl (g20) rfl ?_; refine XO.indexN rfl hsQ10 rfl Try.underlying22 ty_41 (by show 0 < ks.length; omega) rfl ?_; rintro eb115 eo115 _ x115 hx115 rfl hp115; refine XO.guardT rfl rfl (g20) rfl ?_; refine XO.fieldAddr rfl fa_41_1 rfl ?_; refine XO.guardT rfl rfl (g20) rfl ?_; refine XO.loadHF rfl (by assumption) ty_3 rfl rfl rfl ?_; refine XO.guardT rfl rfl (g20) rfl ?_; refine XO.eql rfl rfl rfl ?_; refine XO.pickT rfl (g20) rfl rfl ?_; refine XO.assign rfl rfl ?_; refine XO.nil ?_; refine XC.seq2 ?_; refine XC.cond rfl (fun c5_22 => ?_) (fun c5_22 => ?_)
       ·have hk2 : ks.length = 2 := by omega
        refine XC.seq ?_; refine XC.keep [1, 2, 15] rfl ?_; obtain ⟨bEX, oEX, rfl⟩ := hsQ10.addr (by omega); obtain ⟨_, xX, hxX, rfl, hpX⟩ := hsQ10.elem (0) (by omega); obtain ⟨_, xY, hxY, rfl, hpY⟩ := hsQ10.elem (1) (by omega)
        have hkX : xX.K = 1 := by
         have h := Option.some.inj (hx115.symm.trans hxX)
         rw [← h]; assumption
        apply XC.drawM (fun _ => True) trivial [6, 7] (by decide) [(8, 6)] (fun _ v p _ => v = .pointer (some ⟨p.1, 0, none⟩) ∧ p.2 = .cells 41 (faV f0)) (fun _ v p _ => v = .pointer (some ⟨p.1, 0, none⟩) ∧ p.2 = .cells 41 (faV xX)) (fun _ _ _ _ _ _ h => h) (fun _ _ _ _ _ _ h => h) 9 [eqF _, eqF _, eqF _, eqF _, eqF _, eqF _, anyF, anyF, anyF] follows (by kernel_rfl) ⟨eqF_mono _, eqF_mono _, eqF_mono _, eqF_mono _, eqF_mono _, eqF_mono _, anyF_mono, anyF_mono, anyF_mono, trivial⟩ (by decide) (by kernel_rfl) ?steps23 ?tail23
        case steps23 =>
         refine stepsM_cons rfl rfl ?_ ?_
         ·intro X ext HD hleD _
          replace hs := hs.mono hleD; replace hp := hp.mono hleD; replace hC := hC.mono hleD; replace hsQ10 := hsQ10.mono hleD; replace hp115 := hp115.mono hleD; replace hpX := hpX.mono hleD; replace hpY := hpY.mono hleD; replace hle0 := hle0.trans hleD; refine withP_nil rfl ?_; refine XO.move rfl rfl ?_; refine XO.nil ?_; exact stepQN_ok rfl trivial (rfl)
         refine stepsM_cons rfl rfl ?_ ?_
         ·intro X ext HD hleD _
          replace hs := hs.mono hleD; replace hp := hp.mono hleD; replace hC := hC.mono hleD; replace hsQ10 := hsQ10.mono hleD; replace hp115 := hp115.mono hleD; replace hpX := hpX.mono hleD; replace hpY := hpY.mono hleD; replace hle0 := hle0.trans hleD; refine withP_cons rfl rfl ?_; rintro _ rfl; refine withP_nil rfl ?_; refine XO.indexE rfl rfl Try.underlying22 ty_41 (by omega) (by omega) rfl ?_; refine XO.nil ?_; exact stepQN_ok rfl trivial (rfl)
         refine stepsM_cons rfl rfl ?_ ?_
         ·intro X ext HD hleD _
          replace hs := hs.mono hleD; replace hp := hp.mono hleD; replace hC := hC.mono hleD; replace hsQ10 := hsQ10.mono hleD; replace hp115 := hp115.mono hleD; replace hpX := hpX.mono hleD; replace hpY := hpY.mono hleD; replace hle0 := hle0.trans hleD; refine withP_cons rfl rfl ?_; rintro _ rfl; refine withP_nil rfl ?_; refine XO.loadH rfl (by assumption) ty_41 rfl rfl rfl ?_; refine XO.nil ?_; exact stepQN_ok rfl trivial (rfl)
         refine stepsM_cons rfl rfl ?_ ?_
         ·intro X ext HD hleD _
          replace hs := hs.mono hleD; replace hp := hp.mono hleD; replace hC := hC.mono hleD; replace hsQ10 := hsQ10.mono hleD; replace hp115 := hp115.mono hleD; replace hpX := hpX.mono hleD; replace hpY := hpY.mono hleD; replace hle0 := hle0.trans hleD; refine withP_nil rfl ?_; refine XO.move rfl rfl ?_; refine XO.nil ?_; exact stepQN_ok rfl trivial (rfl)
         refine stepsM_cons rfl rfl ?_ ?_
         ·intro X ext HD hleD _
          replace hs := hs.mono hleD; replace hp := hp.mono hleD; replace hC := hC.mono hleD; replace hsQ10 := hsQ10.mono hleD; replace hp115 := hp115.mono hleD; replace hpX := hpX.mono hleD; replace hpY := hpY.mono hleD; replace hle0 := hle0.trans hleD; refine withP_cons rfl rfl ?_; rintro _ rfl; refine withP_nil rfl ?_; refine XO.indexE rfl rfl Try.underlying22 ty_41 (by omega) (by omega) rfl ?_; refine XO.nil ?_; exact stepQN_ok rfl trivial (rfl)
         refine stepsM_cons rfl rfl ?_ ?_
         ·intro X ext HD hleD _
          replace hs := hs.mono hleD; replace hp := hp.mono hleD; replace hC := hC.mono hleD; replace hsQ10 := hsQ10.mono hleD; replace hp115 := hp115.mono hleD; replace hpX := hpX.mono hleD; replace hpY := hpY.mono hleD; replace hle0 := hle0.trans hleD; refine withP_cons rfl rfl ?_; rintro _ rfl; refine withP_nil rfl ?_; refine XO.loadH rfl (by assumption) ty_41 rfl rfl rfl ?_; refine XO.nil ?_; exact stepQN_ok rfl trivial (rfl)
         refine stepsM_cons rfl rfl ?_ ?_
         ·intro X ext HD hleD _
          replace hs := hs.mono hleD; replace hp := hp.mono hleD; replace hC := hC.mono hleD; replace hsQ10 := hsQ10.mono hleD; replace hp115 := hp115.mono hleD; replace hpX := hpX.mono hleD; replace hpY := hpY.mono hleD; replace hle0 := hle0.trans hleD; refine withP_nil rfl ?_; refine XO.alloc ze_41 rfl (fun b22 => ?_); refine XO.nil ?_
          exact stepQN_new rfl trivial trivial (⟨rfl, rfl⟩)
         refine stepsM_cons rfl rfl ?_ ?_
         ·intro X ext HD hleD _
          replace hs := hs.mono hleD; replace hp := hp.mono hleD; replace hC := hC.mono hleD; replace hsQ10 := hsQ10.mono hleD; replace hp115 := hp115.mono hleD; replace hpX := hpX.mono hleD; replace hpY := hpY.mono hleD; replace hle0 := hle0.trans hleD; refine withP_nil rfl ?_; refine XO.alloc ze_41 rfl (fun b23 => ?_); refine XO.nil ?_
          exact stepQN_new rfl trivial trivial (⟨rfl, rfl⟩)
         refine stepsM_mod rfl rfl ?_ ?_
         ·intro X ext p HD hleD _
          replace hs := hs.mono hleD; replace hp := hp.mono hleD; replace hC := hC.mono hleD; replace hsQ10 := hsQ10.mono hleD; replace hp115 := hp115.mono hleD; replace hpX := hpX.mono hleD; replace hpY := hpY.mono hleD; replace hle0 := hle0.trans hleD; refine withP_cons rfl rfl ?_; rintro _ _; refine withP_cons rfl rfl ?_; rintro _ rfl; refine withP_nil rfl ?_
          intro hfo
          obtain ⟨be6, se6⟩ := p; obtain ⟨rfl, hse6⟩ := hfo _ _ rfl rfl
          simp only at hse6
          subst hse6
          refine XO.storeO 0 rfl rfl rfl rfl ty_41 rfl rfl rfl rfl rfl ?_; refine XO.nil ?_
          exact stepQM_ok trivial (trivial) (fun u t h1 h2 => by cases (show some _ = some t from h1); cases (show some (Value.pointer _) = some u from h2); exact ⟨rfl, rfl⟩)
         exact stepsM_end rfl
        case tail23 =>
         intro HD hleD _
         replace hs := hs.mono hleD; replace hp := hp.mono hleD; replace hC := hC.mono hleD; replace hsQ10 := hsQ10.mono hleD; replace hp115 := hp115.mono hleD; replace hpX := hpX.mono hleD; replace hpY := hpY.mono hleD; replace hle0 := hle0.trans hleD; refine withP_cons rfl rfl ?_; rintro _ rfl; refine withP_cons rfl rfl ?_; rintro _ rfl; refine withP_cons rfl rfl ?_; rintro _ rfl; refine withP_cons rfl rfl ?_; rintro _ rfl; refine withP_cons rfl rfl ?_; rintro _ rfl; refine withP_cons rfl rfl ?_; rintro _ rfl; refine withP_cons rfl rfl ?_; rintro _ _; refine withP_cons rfl rfl ?_; rintro _ _; refine withP_skip rfl rfl ?_; refine withP_nil rfl ?_; refine withEnts_cons ?_
         intro pk6 hpk6
         obtain ⟨rfl, hpk6b⟩ := hpk6 _ ⟨_, rfl, rfl⟩; obtain ⟨be6, se6⟩ := pk6
         simp only at hpk6b
         subst hpk6b
         refine withEnts_cons ?_
         intro pk7 hpk7
         obtain ⟨rfl, hpk7b⟩ := hpk7 _ ⟨_, rfl, rfl⟩; obtain ⟨be7, se7⟩ := pk7
         simp only at hpk7b
         subst hpk7b
         refine withEnts_nil ?_; refine XO.storeO 1 rfl rfl rfl rfl ty_41 rfl rfl rfl rfl rfl ?_; refine XO.nil ?_; refine XC.seq2 ?_; refine XC.seq ?_; refine XC.region ?_; refine XO.fieldAddr rfl fa_41_1 rfl ?_; refine XO.loadO 1 rfl rfl ty_3 rfl rfl rfl ?_; refine XO.eql rfl rfl rfl ?_; refine XO.move rfl rfl ?_; refine XO.guardC rfl rfl rfl rfl (fun g26 => ?_) (fun g26 => ?_)
         ·have g26p := of_decide_eq_true g26
          refine XO.fieldAddr rfl fa_41_2 rfl ?_; refine XO.guardT rfl rfl (g26) rfl ?_; refine XO.loadO 0 rfl rfl ty_3 rfl rfl rfl ?_; refine XO.guardT rfl rfl (g26) rfl ?_; refine XO.move rfl rfl ?_; refine XO.guardT rfl rfl (g26) rfl ?_; refine XO.eql rfl rfl rfl ?_; refine XO.pickT rfl (g26) rfl rfl ?_; refine XO.move rfl rfl ?_; refine XO.guardC rfl rfl rfl rfl (fun g27 => ?_) (fun g27 => ?_)
          ·have g27p := of_decide_eq_true g27
           refine XO.fieldAddr rfl fa_41_2 rfl ?_; refine XO.guardT rfl rfl (g27) rfl ?_; refine XO.loadO 1 rfl rfl ty_3 rfl rfl rfl ?_; refine XO.guardT rfl rfl (g27) rfl ?_; refine XO.move rfl rfl ?_; refine XO.guardT rfl rfl (g27) rfl ?_; refine XO.eql rfl rfl rfl ?_; refine XO.pickT rfl (g27) rfl rfl ?_; refine XO.move rfl rfl ?_; refine XO.guardC rfl rfl rfl rfl (fun g28 => ?_) (fun g28 => ?_)
           ·have g28p := of_decide_eq_true g28
            refine XO.fieldAddr rfl fa_41_3 rfl ?_; refine XO.guardT rfl rfl (g28) rfl ?_; refine XO.loadO 0 rfl rfl ty_3 rfl rfl rfl ?_; refine XO.guardT rfl rfl (g28) rfl ?_; refine XO.fieldAddr rfl fa_41_3 rfl ?_; refine XO.guardT rfl rfl (g28) rfl ?_; refine XO.loadO 1 rfl rfl ty_3 rfl rfl rfl ?_; refine XO.guardT rfl rfl (g28) rfl ?_; refine XO.eql rfl rfl rfl ?_; refine XO.pickT rfl (g28) rfl rfl ?_; refine XO.assign rfl rfl ?_; refine XO.assign rfl rfl ?_; refine XO.nil ?_; refine XC.seq2 ?_; refine XC.ret ?_; refine blockR ?_; refine seqX_ret ?_; refine ⟨rfl, _, [], rfl, (by repeat (first | exact List.Sublist.refl _ | apply List.Sublist.cons)), RetR.mk ?_⟩
            first | (rw [prvR, if_neg (by assumption)]; rfl) | exact prvR_at hE (prv_none (List.mem_of_getElem? hx47) (isSome_no (by simpa using (show (!(findN (cntF l day time) x47).isSome) = true by assumption)))) | exact prvR_at hE (((decide_eq_decide.2 (by omega)).trans (pv_0 (by omega)).symm).trans hprv.symm) | exact prvR_at hE (((decide_eq_false (by omega)).symm.trans (pv_0 (by omega)).symm).trans hprv.symm) | exact prvR_at hE ((pw_1 hn0 (by omega) hx90 (by assumption) (by assumption)).trans hprv.symm) | exact prvR_at hE ((pw_1n hn0 (by omega) hx90 (.inl (by assumption))).trans hprv.symm) | exact prvR_at hE ((pw_1n hn0 (by omega) hx90 (.inr (by assumption))).trans hprv.symm) | exact prvR_at hE ((pw_2 hn0 (by omega) hxX hxY hkX (by assumption) (by assumption) (by assumption)).trans hprv.symm) | exact prvR_at hE ((pw_2n hn0 (by omega) hxX hxY hkX (fun h => by first | exact absurd h.1 (by assumption) | exact absurd h.2.1 (by assumption) | exact absurd h.2.2 (by assumption))).trans hprv.symm) | exact prvR_at hE ((hce.symm).trans hprv.symm) | exact prvR_at hE (((rel_cn hre hx156 (.inl (by simpa using (show (!(othr x156 z).isSome) = true by assumption)))).symm).trans hprv.symm) | exact prvR_at hE (((rel_cn hre hx156 (.inr (.inr (by assumption)))).symm).trans hprv.symm) | exact prvR_at hE (((rel_cn hre hx156 (.inr (.inl ⟨by assumption, (by simpa using (show (!(othr x156 z).isSome) = false by assumption))⟩))).symm).trans hprv.symm)
           ·have g28p := of_decide_eq_false g28
            refine XO.guardF rfl rfl (g28) rfl rfl ?_; refine XO.guardF rfl rfl (g28) rfl rfl ?_; refine XO.guardF rfl rfl (g28) rfl rfl ?_; refine XO.guardF rfl rfl (g28) rfl rfl ?_; refine XO.pickF rfl (g28) rfl rfl ?_; refine XO.assign rfl rfl ?_; refine XO.assign rfl rfl ?_; refine XO.nil ?_; refine XC.seq2 ?_; refine XC.ret ?_; refine blockR ?_; refine seqX_ret ?_; refine ⟨rfl, _, [], rfl, (by repeat (first | exact List.Sublist.refl _ | apply List.Sublist.cons)), RetR.mk ?_⟩
            first | (rw [prvR, if_neg (by assumption)]; rfl) | exact prvR_at hE (prv_none (List.mem_of_getElem? hx47) (isSome_no (by simpa using (show (!(findN (cntF l day time) x47).isSome) = true by assumption)))) | exact prvR_at hE (((decide_eq_decide.2 (by omega)).trans (pv_0 (by omega)).symm).trans hprv.symm) | exact prvR_at hE (((decide_eq_false (by omega)).symm.trans (pv_0 (by omega)).symm).trans hprv.symm) | exact prvR_at hE ((pw_1 hn0 (by omega) hx90 (by assumption) (by assumption)).trans hprv.symm) | exact prvR_at hE ((pw_1n hn0 (by omega) hx90 (.inl (by assumption))).trans hprv.symm) | exact prvR_at hE ((pw_1n hn0 (by omega) hx90 (.inr (by assumption))).trans hprv.symm) | exact prvR_at hE ((pw_2 hn0 (by omega) hxX hxY hkX (by assumption) (by assumption) (by assumption)).trans hprv.symm) | exact prvR_at hE ((pw_2n hn0 (by omega) hxX hxY hkX (fun h => by first | exact absurd h.1 (by assumption) | exact absurd h.2.1 (by assumption) | exact absurd h.2.2 (by assumption))).trans hprv.symm) | exact prvR_at hE ((hce.symm).trans hprv.symm) | exact prvR_at hE (((rel_cn hre hx156 (.inl (by simpa using (show (!(othr x156 z).isSome) = true by assumption)))).symm).trans hprv.symm) | exact prvR_at hE (((rel_cn hre hx156 (.inr (.inr (by assumption)))).symm).trans hprv.symm) | exact prvR_at hE (((rel_cn hre hx156 (.inr (.inl ⟨by assumption, (by simpa using (show (!(othr x156 z).isSome) = false by assumption))⟩))).symm).trans hprv.symm)
          ·have g27p := of_decide_eq_false g27
           refine XO.guardF rfl rfl (g27) rfl rfl ?_; refine XO.guardF rfl rfl (g27) rfl rfl ?_; refine XO.guardF rfl rfl (g27) rfl rfl ?_; refine XO.pickF rfl (g27) rfl rfl ?_; refine XO.move rfl rfl ?_; refine XO.guardF rfl rfl (rfl) rfl rfl ?_; refine XO.guardF rfl rfl (rfl) rfl rfl ?_; refine XO.guardF rfl rfl (rfl) rfl rfl ?_; refine XO.guardF rfl rfl (rfl) rfl rfl ?_; refine XO.guardF rfl rfl (rfl) rfl rfl ?_; refine XO.pickF rfl (rfl) rfl rfl ?_; refine XO.assign rfl rfl ?_; refine XO.assign rfl rfl ?_; refine XO.nil ?_; refine XC.seq2 ?_; refine XC.ret ?_; refine blockR ?_; refine seqX_ret ?_; refine ⟨rfl, _, [], rfl, (by repeat (first | exact List.Sublist.refl _ | apply List.Sublist.cons)), RetR.mk ?_⟩
           first | (rw [prvR, if_neg (by assumption)]; rfl) | exact prvR_at hE (prv_none (List.mem_of_getElem? hx47) (isSome_no (by simpa using (show (!(findN (cntF l day time) x47).isSome) = true by assumption)))) | exact prvR_at hE (((decide_eq_decide.2 (by omega)).trans (pv_0 (by omega)).symm).trans hprv.symm) | exact prvR_at hE (((decide_eq_false (by omega)).symm.trans (pv_0 (by omega)).symm).trans hprv.symm) | exact prvR_at hE ((pw_1 hn0 (by omega) hx90 (by assumption) (by assumption)).trans hprv.symm) | exact prvR_at hE ((pw_1n hn0 (by omega) hx90 (.inl (by assumption))).trans hprv.symm) | exact prvR_at hE ((pw_1n hn0 (by omega) hx90 (.inr (by assumption))).trans hprv.symm) | exact prvR_at hE ((pw_2 hn0 (by omega) hxX hxY hkX (by assumption) (by assumption) (by assumption)).trans hprv.symm) | exact prvR_at hE ((pw_2n hn0 (by omega) hxX hxY hkX (fun h => by first | exact absurd h.1 (by assumption) | exact absurd h.2.1 (by assumption) | exact absurd h.2.2 (by assumption))).trans hprv.symm) | exact prvR_at hE ((hce.symm).trans hprv.symm) | exact prvR_at hE (((rel_cn hre hx156 (.inl (by simpa using (show (!(othr x156 z).isSome) = true by assumption)))).symm).trans hprv.symm) | exact prvR_at hE (((rel_cn hre hx156 (.inr (.inr (by assumption)))).symm).trans hprv.symm) | exact prvR_at hE (((rel_cn hre hx156 (.inr (.inl ⟨by assumption, (by simpa using (show (!(othr x156 z).isSome) = false by assumption))⟩))).symm).trans hprv.symm)
         ·have g26p := of_decide_eq_false g26
          refine XO.guardF rfl rfl (g26) rfl rfl ?_; refine XO.guardF rfl rfl (g26) rfl rfl ?_; refine XO.guardF rfl rfl (g26) rfl rfl ?_; refine XO.pickF rfl (g26) rfl rfl ?_; refine XO.move rfl rfl ?_; refine XO.guardF rfl rfl (rfl) rfl rfl ?_; refine XO.guardF rfl rfl (rfl) rfl rfl ?_; refine XO.guardF rfl rfl (rfl) rfl rfl ?_; refine XO.guardF rfl rfl (rfl) rfl rfl ?_; refine XO.pickF rfl (rfl) rfl rfl ?_; refine XO.move rfl rfl ?_; refine XO.guardF rfl rfl (rfl) rfl rfl ?_; refine XO.guardF rfl rfl (rfl) rfl rfl ?_; refine XO.guardF rfl rfl (rfl) rfl rfl ?_; refine XO.guardF rfl rfl (rfl) rfl rfl ?_; refine XO.guardF rfl rfl (rfl) rfl rfl ?_; refine XO.pickF rfl (rfl) rfl rfl ?_; refine XO.assign rfl rfl ?_; refine XO.assign rfl rfl ?_; refine XO.nil ?_; refine XC.seq2 ?_; refine XC.ret ?_; refine blockR ?_; refine seqX_ret ?_; refine ⟨rfl, _, [], rfl, (by repeat (first | exact List.Sublist.refl _ | apply List.Sublist.cons)), RetR.mk ?_⟩
          first | (rw [prvR, if_neg (by assumption)]; rfl) | exact prvR_at hE (prv_none (List.mem_of_getElem? hx47) (isSome_no (by simpa using (show (!(findN (cntF l day time) x47).isSome) = true by assumption)))) | exact prvR_at hE (((decide_eq_decide.2 (by omega)).trans (pv_0 (by omega)).symm).trans hprv.symm) | exact prvR_at hE (((decide_eq_false (by omega)).symm.trans (pv_0 (by omega)).symm).trans hprv.symm) | exact prvR_at hE ((pw_1 hn0 (by omega) hx90 (by assumption) (by assumption)).trans hprv.symm) | exact prvR_at hE ((pw_1n hn0 (by omega) hx90 (.inl (by assumption))).trans hprv.symm) | exact prvR_at hE ((pw_1n hn0 (by omega) hx90 (.inr (by assumption))).trans hprv.symm) | exact prvR_at hE ((pw_2 hn0 (by omega) hxX hxY hkX (by assumption) (by assumption) (by assumption)).trans hprv.symm) | exact prvR_at hE ((pw_2n hn0 (by omega) hxX hxY hkX (fun h => by first | exact absurd h.1 (by assumption) | exact absurd h.2.1 (by assumption) | exact absurd h.2.2 (by assumption))).trans hprv.symm) | exact prvR_at hE ((hce.symm).trans hprv.symm) | exact prvR_at hE (((rel_cn hre hx156 (.inl (by simpa using (show (!(othr x156 z).isSome) = true by assumption)))).symm).trans hprv.symm) | exact prvR_at hE (((rel_cn hre hx156 (.inr (.inr (by assumption)))).symm).trans hprv.symm) | exact prvR_at hE (((rel_cn hre hx156 (.inr (.inl ⟨by assumption, (by simpa using (show (!(othr x156 z).isSome) = false by assumption))⟩))).symm).trans hprv.symm)
       ·refine XC.skip ?_; refine blockN ?_; refine XC.seq2 ?_; refine XC.seq ?_; refine XC.region ?_; refine XO.makeMap rfl (fun bm => ?_); refine XO.move rfl rfl ?_; refine XO.mapIns 0 rfl rfl rfl rfl (MapI.nil .i64) Try.underlying62 Try.underlying3 rfl ?_
        intro es cl hM
        replace hM : MapI .i64 es (bV [x]) := hM
        have hre := pw_3 hn0 (by omega) (fun h => by first | (have := h.1; omega) | (obtain ⟨_, q, hq, hk⟩ := h; rw [hx115] at hq; cases hq; omega))
        refine XO.move rfl rfl ?_; refine XO.move rfl rfl ?_; refine XO.assign rfl rfl ?_; refine XO.assign rfl rfl ?_; refine XO.nil ?_; refine XC.seq2 ?_; refine XC.seq ?_; refine XC.seq ?_; refine XC.region ?_; refine XO.move rfl rfl ?_; refine XO.lenS (ts := #[]) rfl Try.underlying22 rfl ?_; refine XO.move rfl rfl ?_; refine XO.nil ?_; refine XC.seq2 ?_; refine XC.block ?_; refine XC.keep [25, 154, 2, 24, 152, 153] rfl ?_; refine XC.loop (base := [(2, _), (24, _), (152, _), (153, _)]) (fun ζ : Nat × (Array MapEntry) × (Nat) × (List Int) × (Int) => [(25, .int .i64 ζ.2.2.2.2), (154, .int .i64 (ζ.1 : Nat))]) (fun ζ Hl own => ζ.1 ≤ ks.length ∧ (bm, .obj (.map ζ.2.1 ζ.2.2.1)) :: rest = own ∧ (MapI .i64 ζ.2.1 (bV ζ.2.2.2.1)) ∧ (prvB ks x y = relF y (ks.drop (ζ.1)) ζ.2.2.2.1 ζ.2.2.2.2)) (fun ζ => ks.length - ζ.1) (0, es, cl, [x], x) (prov_cons (rfl) (prov_cons (rfl) (prov_cons (rfl) (prov_cons (rfl) (prov_cons (rfl) (prov_cons (rfl) prov_nil)))))) (by repeat (first | exact List.Sublist.refl _ | apply List.Sublist.cons_cons | apply List.Sublist.cons)) ⟨Nat.zero_le _, rfl, hM, hre⟩ ?_; rintro ⟨i, es, cl, met, z⟩ Hl1 _ hle1 ⟨hki, rfl, hM, hre⟩; replace hs := hs.mono hle1; replace hp := hp.mono hle1; replace hC := hC.mono hle1; replace hsQ10 := hsQ10.mono hle1; replace hp115 := hp115.mono hle1; replace hle0 := hle0.trans hle1
        try dsimp only at hki hM hre ⊢
        refine XC.seq ?_; refine XC.region ?_; refine XO.lss rfl rfl rfl ?_; refine XO.nil ?_; refine XC.seq2 ?_; refine XC.seq ?_; refine XC.cond rfl (fun c6_30 => ?_) (fun c6_30 => ?_)
        ·refine XC.skip ?_; refine XC.seq2 ?_; refine XC.seq ?_; refine XC.block ?_; refine XC.seq ?_; refine XC.region ?_; refine XO.indexN rfl hsQ10 rfl Try.underlying22 ty_41 (by omega) rfl ?_; rintro eb156 eo156 _ x156 hx156 rfl hp156; refine XO.loadH rfl (by assumption) ty_41 rfl rfl rfl ?_; refine XO.alloc ze_41 rfl (fun b27 => ?_); refine XO.storeO 0 rfl rfl rfl rfl ty_41 rfl rfl rfl rfl rfl ?_; refine XO.nil ?_; refine XC.seq2 ?_; refine XC.seq ?_; refine XC.region ?_; refine XO.loadO 0 rfl rfl ty_41 rfl rfl rfl ?_; refine XO.move rfl rfl ?_; refine XO.callV rfl (other_fn x156 z _) rfl ?_; refine XO.move rfl rfl ?_; refine XO.extract rfl rfl rfl ?_; refine XO.extract rfl rfl rfl ?_; refine XO.assign rfl rfl ?_; refine XO.assign rfl rfl ?_; refine XO.nil ?_; refine XC.seq2 ?_; refine XC.seq ?_; refine XC.seq ?_; refine XC.region ?_; refine XO.move rfl rfl ?_; refine XO.notB rfl rfl ?_; refine XO.move rfl rfl ?_; refine XO.guardC rfl rfl rfl rfl (fun g33 => ?_) (fun g33 => ?_)
         ·have g33p := g33
          refine XO.move rfl rfl ?_; refine XO.guardT rfl rfl (g33) rfl ?_; refine XO.move rfl rfl ?_; refine XO.guardT rfl rfl (g33) rfl ?_; refine XO.mapGet1 1 rfl rfl rfl hM Try.underlying62 Try.underlying3 zv_4 rfl (mget_b _ _) ?_; refine XO.pickF rfl (g33) rfl rfl ?_; refine XO.move rfl rfl ?_; refine XO.guardC rfl rfl rfl rfl (fun g34 => ?_) (fun g34 => ?_)
          ·have g34p := of_decide_eq_false g34
           refine XO.fieldAddr rfl fa_41_1 rfl ?_; refine XO.guardT rfl rfl (g34) rfl ?_; refine XO.loadO 0 rfl rfl ty_3 rfl rfl rfl ?_; refine XO.guardT rfl rfl (g34) rfl ?_; refine XO.neq rfl rfl rfl ?_; refine XO.pickF rfl (g34) rfl rfl ?_; refine XO.nil ?_; refine XC.seq2 ?_; refine XC.cond rfl (fun c7_35 => ?_) (fun c7_35 => ?_)
           ·refine XC.seq ?_; refine XC.region ?_; refine XO.assign rfl rfl ?_; refine XO.assign rfl rfl ?_; refine XO.nil ?_; refine XC.seq2 ?_; refine XC.ret ?_; refine seqX_ret ?_; refine blockR ?_; refine seqX_ret ?_; refine loopX_ret ?_; refine blockR ?_; refine seqX_ret ?_; refine ⟨rfl, _, [], rfl, (by repeat (first | exact List.Sublist.refl _ | apply List.Sublist.cons)), RetR.mk ?_⟩
            first | (rw [prvR, if_neg (by assumption)]; rfl) | exact prvR_at hE (prv_none (List.mem_of_getElem? hx47) (isSome_no (by simpa using (show (!(findN (cntF l day time) x47).isSome) = true by assumption)))) | exact prvR_at hE (((decide_eq_decide.2 (by omega)).trans (pv_0 (by omega)).symm).trans hprv.symm) | exact prvR_at hE (((decide_eq_false (by omega)).symm.trans (pv_0 (by omega)).symm).trans hprv.symm) | exact prvR_at hE ((pw_1 hn0 (by omega) hx90 (by assumption) (by assumption)).trans hprv.symm) | exact prvR_at hE ((pw_1n hn0 (by omega) hx90 (.inl (by assumption))).trans hprv.symm) | exact prvR_at hE ((pw_1n hn0 (by omega) hx90 (.inr (by assumption))).trans hprv.symm) | exact prvR_at hE ((pw_2 hn0 (by omega) hxX hxY hkX (by assumption) (by assumption) (by assumption)).trans hprv.symm) | exact prvR_at hE ((pw_2n hn0 (by omega) hxX hxY hkX (fun h => by first | exact absurd h.1 (by assumption) | exact absurd h.2.1 (by assumption) | exact absurd h.2.2 (by assumption))).trans hprv.symm) | exact prvR_at hE ((hce.symm).trans hprv.symm) | exact prvR_at hE (((rel_cn hre hx156 (.inl (by simpa using (show (!(othr x156 z).isSome) = true by assumption)))).symm).trans hprv.symm) | exact prvR_at hE (((rel_cn hre hx156 (.inr (.inr (by assumption)))).symm).trans hprv.symm) | exact prvR_at hE (((rel_cn hre hx156 (.inr (.inl ⟨by assumption, (by simpa using (show (!(othr x156 z).isSome) = false by assumption))⟩))).symm).trans hprv.symm)
           ·refine XC.skip ?_; refine XC.seq2 ?_; refine XC.region ?_; refine XO.move rfl rfl ?_; refine XO.move rfl rfl ?_; refine XO.move rfl rfl ?_; refine XO.mapSet 1 rfl rfl rfl rfl hM Try.underlying62 Try.underlying3 rfl ?_
            intro es2 cl2 hM2
            rw [mset_b (by assumption)] at hM2
            refine XO.assign rfl rfl ?_; refine XO.nil ?_; refine blockN ?_; refine XC.seq2 ?_; refine XC.region ?_; refine XO.add rfl rfl (wrap_i64 (by omega) (by omega)) rfl ?_; refine XO.move rfl rfl ?_; refine XO.nil ?_; refine loop_next ((i + 1, es2, cl2, met ++ [(othr x156 z).getD 0], ((othr x156 z).getD 0))) (by show ks.length - (i + 1) < ks.length - i; omega) (prov_cons (rfl) (prov_cons (rfl) (prov_cons (rfl) (prov_cons (rfl) (prov_cons (rfl) (prov_cons (rfl) prov_nil)))))) (⟨by show i + 1 ≤ ks.length; omega, rfl, hM2, rel_cy hre hx156 (by simpa using (show (!(othr x156 z).isSome) = false by assumption)) (by assumption) (by assumption)⟩) (by repeat (first | exact List.Sublist.refl _ | apply List.Sublist.cons_cons | apply List.Sublist.cons)) (hle1)
          ·have g34p := of_decide_eq_true g34
           refine XO.guardF rfl rfl (g34) rfl rfl ?_; refine XO.guardF rfl rfl (g34) rfl rfl ?_; refine XO.pickT rfl (g34) rfl rfl ?_; refine XO.nil ?_; refine XC.seq2 ?_; refine XC.condT rfl (rfl) ?_; refine XC.seq ?_; refine XC.region ?_; refine XO.assign rfl rfl ?_; refine XO.assign rfl rfl ?_; refine XO.nil ?_; refine XC.seq2 ?_; refine XC.ret ?_; refine seqX_ret ?_; refine blockR ?_; refine seqX_ret ?_; refine loopX_ret ?_; refine blockR ?_; refine seqX_ret ?_; refine ⟨rfl, _, [], rfl, (by repeat (first | exact List.Sublist.refl _ | apply List.Sublist.cons)), RetR.mk ?_⟩
           first | (rw [prvR, if_neg (by assumption)]; rfl) | exact prvR_at hE (prv_none (List.mem_of_getElem? hx47) (isSome_no (by simpa using (show (!(findN (cntF l day time) x47).isSome) = true by assumption)))) | exact prvR_at hE (((decide_eq_decide.2 (by omega)).trans (pv_0 (by omega)).symm).trans hprv.symm) | exact prvR_at hE (((decide_eq_false (by omega)).symm.trans (pv_0 (by omega)).symm).trans hprv.symm) | exact prvR_at hE ((pw_1 hn0 (by omega) hx90 (by assumption) (by assumption)).trans hprv.symm) | exact prvR_at hE ((pw_1n hn0 (by omega) hx90 (.inl (by assumption))).trans hprv.symm) | exact prvR_at hE ((pw_1n hn0 (by omega) hx90 (.inr (by assumption))).trans hprv.symm) | exact prvR_at hE ((pw_2 hn0 (by omega) hxX hxY hkX (by assumption) (by assumption) (by assumption)).trans hprv.symm) | exact prvR_at hE ((pw_2n hn0 (by omega) hxX hxY hkX (fun h => by first | exact absurd h.1 (by assumption) | exact absurd h.2.1 (by assumption) | exact absurd h.2.2 (by assumption))).trans hprv.symm) | exact prvR_at hE ((hce.symm).trans hprv.symm) | exact prvR_at hE (((rel_cn hre hx156 (.inl (by simpa using (show (!(othr x156 z).isSome) = true by assumption)))).symm).trans hprv.symm) | exact prvR_at hE (((rel_cn hre hx156 (.inr (.inr (by assumption)))).symm).trans hprv.symm) | exact prvR_at hE (((rel_cn hre hx156 (.inr (.inl ⟨by assumption, (by simpa using (show (!(othr x156 z).isSome) = false by assumption))⟩))).symm).trans hprv.symm)
         ·have g33p := g33
          refine XO.guardF rfl rfl (g33) rfl rfl ?_; refine XO.guardF rfl rfl (g33) rfl rfl ?_; refine XO.pickT rfl (g33) rfl rfl ?_; refine XO.move rfl rfl ?_; refine XO.guardF rfl rfl (rfl) rfl rfl ?_; refine XO.guardF rfl rfl (rfl) rfl rfl ?_; refine XO.guardF rfl rfl (rfl) rfl rfl ?_; refine XO.pickT rfl (rfl) rfl rfl ?_; refine XO.nil ?_; refine XC.seq2 ?_; refine XC.condT rfl (rfl) ?_; refine XC.seq ?_; refine XC.region ?_; refine XO.assign rfl rfl ?_; refine XO.assign rfl rfl ?_; refine XO.nil ?_; refine XC.seq2 ?_; refine XC.ret ?_; refine seqX_ret ?_; refine blockR ?_; refine seqX_ret ?_; refine loopX_ret ?_; refine blockR ?_; refine seqX_ret ?_; refine ⟨rfl, _, [], rfl, (by repeat (first | exact List.Sublist.refl _ | apply List.Sublist.cons)), RetR.mk ?_⟩
          first | (rw [prvR, if_neg (by assumption)]; rfl) | exact prvR_at hE (prv_none (List.mem_of_getElem? hx47) (isSome_no (by simpa using (show (!(findN (cntF l day time) x47).isSome) = true by assumption)))) | exact prvR_at hE (((decide_eq_decide.2 (by omega)).trans (pv_0 (by omega)).symm).trans hprv.symm) | exact prvR_at hE (((decide_eq_false (by omega)).symm.trans (pv_0 (by omega)).symm).trans hprv.symm) | exact prvR_at hE ((pw_1 hn0 (by omega) hx90 (by assumption) (by assumption)).trans hprv.symm) | exact prvR_at hE ((pw_1n hn0 (by omega) hx90 (.inl (by assumption))).trans hprv.symm) | exact prvR_at hE ((pw_1n hn0 (by omega) hx90 (.inr (by assumption))).trans hprv.symm) | exact prvR_at hE ((pw_2 hn0 (by omega) hxX hxY hkX (by assumption) (by assumption) (by assumption)).trans hprv.symm) | exact prvR_at hE ((pw_2n hn0 (by omega) hxX hxY hkX (fun h => by first | exact absurd h.1 (by assumption) | exact absurd h.2.1 (by assumption) | exact absurd h.2.2 (by assumption))).trans hprv.symm) | exact prvR_at hE ((hce.symm).trans hprv.symm) | exact prvR_at hE (((rel_cn hre hx156 (.inl (by simpa using (show (!(othr x156 z).isSome) = true by assumption)))).symm).trans hprv.symm) | exact prvR_at hE (((rel_cn hre hx156 (.inr (.inr (by assumption)))).symm).trans hprv.symm) | exact prvR_at hE (((rel_cn hre hx156 (.inr (.inl ⟨by assumption, (by simpa using (show (!(othr x156 z).isSome) = false by assumption))⟩))).symm).trans hprv.symm)
        ·have hce := rel_ce hre (by omega)
         refine XC.exit ?_; refine seqX_exit ?_; refine loopX_exit ?_; refine blockHit rfl ?_; refine XC.seq2 ?_; refine XC.seq ?_; refine XC.region ?_; refine XO.move rfl rfl ?_; refine XO.move rfl rfl ?_; refine XO.eql rfl rfl rfl ?_; refine XO.assign rfl rfl ?_; refine XO.assign rfl rfl ?_; refine XO.nil ?_; refine XC.seq2 ?_; refine XC.ret ?_; refine ⟨rfl, _, [], rfl, (by repeat (first | exact List.Sublist.refl _ | apply List.Sublist.cons)), RetR.mk ?_⟩
         first | (rw [prvR, if_neg (by assumption)]; rfl) | exact prvR_at hE (prv_none (List.mem_of_getElem? hx47) (isSome_no (by simpa using (show (!(findN (cntF l day time) x47).isSome) = true by assumption)))) | exact prvR_at hE (((decide_eq_decide.2 (by omega)).trans (pv_0 (by omega)).symm).trans hprv.symm) | exact prvR_at hE (((decide_eq_false (by omega)).symm.trans (pv_0 (by omega)).symm).trans hprv.symm) | exact prvR_at hE ((pw_1 hn0 (by omega) hx90 (by assumption) (by assumption)).trans hprv.symm) | exact prvR_at hE ((pw_1n hn0 (by omega) hx90 (.inl (by assumption))).trans hprv.symm) | exact prvR_at hE ((pw_1n hn0 (by omega) hx90 (.inr (by assumption))).trans hprv.symm) | exact prvR_at hE ((pw_2 hn0 (by omega) hxX hxY hkX (by assumption) (by assumption) (by assumption)).trans hprv.symm) | exact prvR_at hE ((pw_2n hn0 (by omega) hxX hxY hkX (fun h => by first | exact absurd h.1 (by assumption) | exact absurd h.2.1 (by assumption) | exact absurd h.2.2 (by assumption))).trans hprv.symm) | exact prvR_at hE ((hce.symm).trans hprv.symm) | exact prvR_at hE (((rel_cn hre hx156 (.inl (by simpa using (show (!(othr x156 z).isSome) = true by assumption)))).symm).trans hprv.symm) | exact prvR_at hE (((rel_cn hre hx156 (.inr (.inr (by assumption)))).symm).trans hprv.symm) | exact prvR_at hE (((rel_cn hre hx156 (.inr (.inl ⟨by assumption, (by simpa using (show (!(othr x156 z).isSome) = false by assumption))⟩))).symm).trans hprv.symm)
      ·have g20p := of_decide_eq_false g20
       refine XO.guardF rfl rfl (g20) rfl rfl ?_; refine XO.guardF rfl rfl (g20) rfl rfl ?_; refine XO.guardF rfl rfl (g20) rfl rfl ?_; refine XO.guardF rfl rfl (g20) rfl rfl ?_; refine XO.pickF rfl (g20) rfl rfl ?_; refine XO.assign rfl rfl ?_; refine XO.nil ?_; refine XC.seq2 ?_; refine XC.condF rfl (rfl) ?_; refine XC.skip ?_; refine blockN ?_; refine XC.seq2 ?_; refine XC.seq ?_; refine XC.region ?_; refine XO.makeMap rfl (fun bm => ?_); refine XO.move rfl rfl ?_; refine XO.mapIns 0 rfl rfl rfl rfl (MapI.nil .i64) Try.underlying62 Try.underlying3 rfl ?_
       intro es cl hM
       replace hM : MapI .i64 es (bV [x]) := hM
       have hre := pw_3 hn0 (by omega) (fun h => by first | (have := h.1; omega) | (obtain ⟨_, q, hq, hk⟩ := h; rw [hx115] at hq; cases hq; omega))
       refine XO.move rfl rfl ?_; refine XO.move rfl rfl ?_; refine XO.assign rfl rfl ?_; refine XO.assign rfl rfl ?_; refine XO.nil ?_; refine XC.seq2 ?_; refine XC.seq ?_; refine XC.seq ?_; refine XC.region ?_; refine XO.move rfl rfl ?_; refine XO.lenS (ts := #[]) rfl Try.underlying22 rfl ?_; refine XO.move rfl rfl ?_; refine XO.nil ?_; refine XC.seq2 ?_; refine XC.block ?_; refine XC.keep [25, 154, 2, 24, 152, 153] rfl ?_; refine XC.loop (base := [(2, _), (24, _), (152, _), (153, _)]) (fun ζ : Nat × (Array MapEntry) × (Nat) × (List Int) × (Int) => [(25, .int .i64 ζ.2.2.2.2), (154, .int .i64 (ζ.1 : Nat))]) (fun ζ Hl own => ζ.1 ≤ ks.length ∧ (bm, .obj (.map ζ.2.1 ζ.2.2.1)) :: rest = own ∧ (MapI .i64 ζ.2.1 (bV ζ.2.2.2.1)) ∧ (prvB ks x y = relF y (ks.drop (ζ.1)) ζ.2.2.2.1 ζ.2.2.2.2)) (fun ζ => ks.length - ζ.1) (0, es, cl, [x], x) (prov_cons (rfl) (prov_cons (rfl) (prov_cons (rfl) (prov_cons (rfl) (prov_cons (rfl) (prov_cons (rfl) prov_nil)))))) (by repeat (first | exact List.Sublist.refl _ | apply List.Sublist.cons_cons | apply List.Sublist.cons)) ⟨Nat.zero_le _, rfl, hM, hre⟩ ?_; rintro ⟨i, es, cl, met, z⟩ Hl1 _ hle1 ⟨hki, rfl, hM, hre⟩; replace hs := hs.mono hle1; replace hp := hp.mono hle1; replace hC := hC.mono hle1; replace hsQ10 := hsQ10.mono hle1; replace hle0 := hle0.trans hle1
       try dsimp only at hki hM hre ⊢
       refine XC.seq ?_; refine XC.region ?_; refine XO.lss rfl rfl rfl ?_; refine XO.nil ?_; refine XC.seq2 ?_; refine XC.seq ?_; refine XC.cond rfl (fun c6_37 => ?_) (fun c6_37 => ?_)
       ·refine XC.skip ?_; refine XC.seq2 ?_; refine XC.seq ?_; refine XC.block ?_; refine XC.seq ?_; refine XC.region ?_; refine XO.indexN rfl hsQ10 rfl Try.underlying22 ty_41 (by omega) rfl ?_; rintro eb156 eo156 _ x156 hx156 rfl hp156; refine XO.loadH rfl (by assumption) ty_41 rfl rfl rfl ?_; refine XO.alloc ze_41 rfl (fun b27 => ?_); refine XO.storeO 0 rfl rfl rfl rfl ty_41 rfl rfl rfl rfl rfl ?_; refine XO.nil ?_; refine XC.seq2 ?_; refine XC.seq ?_; refine XC.region ?_; refine XO.loadO 0 rfl rfl ty_41 rfl rfl rfl ?_; refine XO.move rfl rfl ?_; refine XO.callV rfl (other_fn x156 z _) rfl ?_; refine XO.move rfl rfl ?_; refine XO.extract rfl rfl rfl ?_; refine XO.extract rfl rfl rfl ?_; refine XO.assign rfl rfl ?_; refine XO.assign rfl rfl ?_; refine XO.nil ?_; refine XC.seq2 ?_; refine XC.seq ?_; refine XC.seq ?_; refine XC.region ?_; refine XO.move rfl rfl ?_; refine XO.notB rfl rfl ?_; refine XO.move rfl rfl ?_; refine XO.guardC rfl rfl rfl rfl (fun g40 => ?_) (fun g40 => ?_)
        ·have g40p := g40
         refine XO.move rfl rfl ?_; refine XO.guardT rfl rfl (g40) rfl ?_; refine XO.move rfl rfl ?_; refine XO.guardT rfl rfl (g40) rfl ?_; refine XO.mapGet1 1 rfl rfl rfl hM Try.underlying62 Try.underlying3 zv_4 rfl (mget_b _ _) ?_; refine XO.pickF rfl (g40) rfl rfl ?_; refine XO.move rfl rfl ?_; refine XO.guardC rfl rfl rfl rfl (fun g41 => ?_) (fun g41 => ?_)
         ·have g41p := of_decide_eq_false g41
          refine XO.fieldAddr rfl fa_41_1 rfl ?_; refine XO.guardT rfl rfl (g41) rfl ?_; refine XO.loadO 0 rfl rfl ty_3 rfl rfl rfl ?_; refine XO.guardT rfl rfl (g41) rfl ?_; refine XO.neq rfl rfl rfl ?_; refine XO.pickF rfl (g41) rfl rfl ?_; refine XO.nil ?_; refine XC.seq2 ?_; refine XC.cond rfl (fun c7_42 => ?_) (fun c7_42 => ?_)
          ·refine XC.seq ?_; refine XC.region ?_; refine XO.assign rfl rfl ?_; refine XO.assign rfl rfl ?_; refine XO.nil ?_; refine XC.seq2 ?_; refine XC.ret ?_; refine seqX_ret ?_; refine blockR ?_; refine seqX_ret ?_; refine loopX_ret ?_; refine blockR ?_; refine seqX_ret ?_; refine ⟨rfl, _, [], rfl, (by repeat (first | exact List.Sublist.refl _ | apply List.Sublist.cons)), RetR.mk ?_⟩
           first | (rw [prvR, if_neg (by assumption)]; rfl) | exact prvR_at hE (prv_none (List.mem_of_getElem? hx47) (isSome_no (by simpa using (show (!(findN (cntF l day time) x47).isSome) = true by assumption)))) | exact prvR_at hE (((decide_eq_decide.2 (by omega)).trans (pv_0 (by omega)).symm).trans hprv.symm) | exact prvR_at hE (((decide_eq_false (by omega)).symm.trans (pv_0 (by omega)).symm).trans hprv.symm) | exact prvR_at hE ((pw_1 hn0 (by omega) hx90 (by assumption) (by assumption)).trans hprv.symm) | exact prvR_at hE ((pw_1n hn0 (by omega) hx90 (.inl (by assumption))).trans hprv.symm) | exact prvR_at hE ((pw_1n hn0 (by omega) hx90 (.inr (by assumption))).trans hprv.symm) | exact prvR_at hE ((pw_2 hn0 (by omega) hxX hxY hkX (by assumption) (by assumption) (by assumption)).trans hprv.symm) | exact prvR_at hE ((pw_2n hn0 (by omega) hxX hxY hkX (fun h => by first | exact absurd h.1 (by assumption) | exact absurd h.2.1 (by assumption) | exact absurd h.2.2 (by assumption))).trans hprv.symm) | exact prvR_at hE ((hce.symm).trans hprv.symm) | exact prvR_at hE (((rel_cn hre hx156 (.inl (by simpa using (show (!(othr x156 z).isSome) = true by assumption)))).symm).trans hprv.symm) | exact prvR_at hE (((rel_cn hre hx156 (.inr (.inr (by assumption)))).symm).trans hprv.symm) | exact prvR_at hE (((rel_cn hre hx156 (.inr (.inl ⟨by assumption, (by simpa using (show (!(othr x156 z).isSome) = false by assumption))⟩))).symm).trans hprv.symm)
          ·refine XC.skip ?_; refine XC.seq2 ?_; refine XC.region ?_; refine XO.move rfl rfl ?_; refine XO.move rfl rfl ?_; refine XO.move rfl rfl ?_; refine XO.mapSet 1 rfl rfl rfl rfl hM Try.underlying62 Try.underlying3 rfl ?_
           intro es2 cl2 hM2
           rw [mset_b (by assumption)] at hM2
           refine XO.assign rfl rfl ?_; refine XO.nil ?_; refine blockN ?_; refine XC.seq2 ?_; refine XC.region ?_; refine XO.add rfl rfl (wrap_i64 (by omega) (by omega)) rfl ?_; refine XO.move rfl rfl ?_; refine XO.nil ?_; refine loop_next ((i + 1, es2, cl2, met ++ [(othr x156 z).getD 0], ((othr x156 z).getD 0))) (by show ks.length - (i + 1) < ks.length - i; omega) (prov_cons (rfl) (prov_cons (rfl) (prov_cons (rfl) (prov_cons (rfl) (prov_cons (rfl) (prov_cons (rfl) prov_nil)))))) (⟨by show i + 1 ≤ ks.length; omega, rfl, hM2, rel_cy hre hx156 (by simpa using (show (!(othr x156 z).isSome) = false by assumption)) (by assumption) (by assumption)⟩) (by repeat (first | exact List.Sublist.refl _ | apply List.Sublist.cons_cons | apply List.Sublist.cons)) (hle1)
         ·have g41p := of_decide_eq_true g41
          refine XO.guardF rfl rfl (g41) rfl rfl ?_; refine XO.guardF rfl rfl (g41) rfl rfl ?_; refine XO.pickT rfl (g41) rfl rfl ?_; refine XO.nil ?_; refine XC.seq2 ?_; refine XC.condT rfl (rfl) ?_; refine XC.seq ?_; refine XC.region ?_; refine XO.assign rfl rfl ?_; refine XO.assign rfl rfl ?_; refine XO.nil ?_; refine XC.seq2 ?_; refine XC.ret ?_; refine seqX_ret ?_; refine blockR ?_; refine seqX_ret ?_; refine loopX_ret ?_; refine blockR ?_; refine seqX_ret ?_; refine ⟨rfl, _, [], rfl, (by repeat (first | exact List.Sublist.refl _ | apply List.Sublist.cons)), RetR.mk ?_⟩
          first | (rw [prvR, if_neg (by assumption)]; rfl) | exact prvR_at hE (prv_none (List.mem_of_getElem? hx47) (isSome_no (by simpa using (show (!(findN (cntF l day time) x47).isSome) = true by assumption)))) | exact prvR_at hE (((decide_eq_decide.2 (by omega)).trans (pv_0 (by omega)).symm).trans hprv.symm) | exact prvR_at hE (((decide_eq_false (by omega)).symm.trans (pv_0 (by omega)).symm).trans hprv.symm) | exact prvR_at hE ((pw_1 hn0 (by omega) hx90 (by assumption) (by assumption)).trans hprv.symm) | exact prvR_at hE ((pw_1n hn0 (by omega) hx90 (.inl (by assumption))).trans hprv.symm) | exact prvR_at hE ((pw_1n hn0 (by omega) hx90 (.inr (by assumption))).trans hprv.symm) | exact prvR_at hE ((pw_2 hn0 (by omega) hxX hxY hkX (by assumption) (by assumption) (by assumption)).trans hprv.symm) | exact prvR_at hE ((pw_2n hn0 (by omega) hxX hxY hkX (fun h => by first | exact absurd h.1 (by assumption) | exact absurd h.2.1 (by assumption) | exact absurd h.2.2 (by assumption))).trans hprv.symm) | exact prvR_at hE ((hce.symm).trans hprv.symm) | exact prvR_at hE (((rel_cn hre hx156 (.inl (by simpa using (show (!(othr x156 z).isSome) = true by assumption)))).symm).trans hprv.symm) | exact prvR_at hE (((rel_cn hre hx156 (.inr (.inr (by assumption)))).symm).trans hprv.symm) | exact prvR_at hE (((rel_cn hre hx156 (.inr (.inl ⟨by assumption, (by simpa using (show (!(othr x156 z).isSome) = false by assumption))⟩))).symm).trans hprv.symm)
        ·have g40p := g40
         refine XO.guardF rfl rfl (g40) rfl rfl ?_; refine XO.guardF rfl rfl (g40) rfl rfl ?_; refine XO.pickT rfl (g40) rfl rfl ?_; refine XO.move rfl rfl ?_; refine XO.guardF rfl rfl (rfl) rfl rfl ?_; refine XO.guardF rfl rfl (rfl) rfl rfl ?_; refine XO.guardF rfl rfl (rfl) rfl rfl ?_; refine XO.pickT rfl (rfl) rfl rfl ?_; refine XO.nil ?_; refine XC.seq2 ?_; refine XC.condT rfl (rfl) ?_; refine XC.seq ?_; refine XC.region ?_; refine XO.assign rfl rfl ?_; refine XO.assign rfl rfl ?_; refine XO.nil ?_; refine XC.seq2 ?_; refine XC.ret ?_; refine seqX_ret ?_; refine blockR ?_; refine seqX_ret ?_; refine loopX_ret ?_; refine blockR ?_; refine seqX_ret ?_; refine ⟨rfl, _, [], rfl, (by repeat (first | exact List.Sublist.refl _ | apply List.Sublist.cons)), RetR.mk ?_⟩
         first | (rw [prvR, if_neg (by assumption)]; rfl) | exact prvR_at hE (prv_none (List.mem_of_getElem? hx47) (isSome_no (by simpa using (show (!(findN (cntF l day time) x47).isSome) = true by assumption)))) | exact prvR_at hE (((decide_eq_decide.2 (by omega)).trans (pv_0 (by omega)).symm).trans hprv.symm) | exact prvR_at hE (((decide_eq_false (by omega)).symm.trans (pv_0 (by omega)).symm).trans hprv.symm) | exact prvR_at hE ((pw_1 hn0 (by omega) hx90 (by assumption) (by assumption)).trans hprv.symm) | exact prvR_at hE ((pw_1n hn0 (by omega) hx90 (.inl (by assumption))).trans hprv.symm) | exact prvR_at hE ((pw_1n hn0 (by omega) hx90 (.inr (by assumption))).trans hprv.symm) | exact prvR_at hE ((pw_2 hn0 (by omega) hxX hxY hkX (by assumption) (by assumption) (by assumption)).trans hprv.symm) | exact prvR_at hE ((pw_2n hn0 (by omega) hxX hxY hkX (fun h => by first | exact absurd h.1 (by assumption) | exact absurd h.2.1 (by assumption) | exact absurd h.2.2 (by assumption))).trans hprv.symm) | exact prvR_at hE ((hce.symm).trans hprv.symm) | exact prvR_at hE (((rel_cn hre hx156 (.inl (by simpa using (show (!(othr x156 z).isSome) = true by assumption)))).symm).trans hprv.symm) | exact prvR_at hE (((rel_cn hre hx156 (.inr (.inr (by assumption)))).symm).trans hprv.symm) | exact prvR_at hE (((rel_cn hre hx156 (.inr (.inl ⟨by assumption, (by simpa using (show (!(othr x156 z).isSome) = false by assumption))⟩))).symm).trans hprv.symm)
       ·have hce := rel_ce hre (by omega)
        refine XC.exit ?_; refine seqX_exit ?_; refine loopX_exit ?_; refine blockHit rfl ?_; refine XC.seq2 ?_; refine XC.seq ?_; refine XC.region ?_; refine XO.move rfl rfl ?_; refine XO.move rfl rfl ?_; refine XO.eql rfl rfl rfl ?_; refine XO.assign rfl rfl ?_; refine XO.assign rfl rfl ?_; refine XO.nil ?_; refine XC.seq2 ?_; refine XC.ret ?_; refine ⟨rfl, _, [], rfl, (by repeat (first | exact List.Sublist.refl _ | apply List.Sublist.cons)), RetR.mk ?_⟩
        first | (rw [prvR, if_neg (by assumption)]; rfl) | exact prvR_at hE (prv_none (List.mem_of_getElem? hx47) (isSome_no (by simpa using (show (!(findN (cntF l day time) x47).isSome) = true by assumption)))) | exact prvR_at hE (((decide_eq_decide.2 (by omega)).trans (pv_0 (by omega)).symm).trans hprv.symm) | exact prvR_at hE (((decide_eq_false (by omega)).symm.trans (pv_0 (by omega)).symm).trans hprv.symm) | exact prvR_at hE ((pw_1 hn0 (by omega) hx90 (by assumption) (by assumption)).trans hprv.symm) | exact prvR_at hE ((pw_1n hn0 (by omega) hx90 (.inl (by assumption))).trans hprv.symm) | exact prvR_at hE ((pw_1n hn0 (by omega) hx90 (.inr (by assumption))).trans hprv.symm) | exact prvR_at hE ((pw_2 hn0 (by omega) hxX hxY hkX (by assumption) (by assumption) (by assumption)).trans hprv.symm) | exact prvR_at hE ((pw_2n hn0 (by omega) hxX hxY hkX (fun h => by first | exact absurd h.1 (by assumption) | exact absurd h.2.1 (by assumption) | exact absurd h.2.2 (by assumption))).trans hprv.symm) | exact prvR_at hE ((hce.symm).trans hprv.symm) | exact prvR_at hE (((rel_cn hre hx156 (.inl (by simpa using (show (!(othr x156 z).isSome) = true by assumption)))).symm).trans hprv.symm) | exact prvR_at hE (((rel_cn hre hx156 (.inr (.inr (by assumption)))).symm).trans hprv.symm) | exact prvR_at hE (((rel_cn hre hx156 (.inr (.inl ⟨by assumption, (by simpa using (show (!(othr x156 z).isSome) = false by assumption))⟩))).symm).trans hprv.symm)
   ·have g11p := of_decide_eq_true g11
    refine XO.guardF rfl rfl (g11) rfl rfl ?_; refine XO.guardF rfl rfl (g11) rfl rfl ?_; refine XO.pickT rfl (g11) rfl rfl ?_; refine XO.assign rfl rfl ?_; refine XO.nil ?_; refine XC.seq2 ?_; refine XC.condT rfl (rfl) ?_; refine XC.seq ?_; refine XC.region ?_; refine XO.move rfl rfl ?_; refine XO.lenS (ts := #[]) rfl Try.underlying22 rfl ?_; refine XO.eql rfl rfl rfl ?_; refine XO.move rfl rfl ?_; refine XO.guardC rfl rfl rfl rfl (fun g43 => ?_) (fun g43 => ?_)
    ·have g43p := of_decide_eq_true g43
     refine XO.move rfl rfl ?_; refine XO.guardT rfl rfl (g43) rfl ?_; refine XO.move rfl rfl ?_; refine XO.guardT rfl rfl (g43) rfl ?_; refine XO.eql rfl rfl rfl ?_; refine XO.pickT rfl (g43) rfl rfl ?_; refine XO.assign rfl rfl ?_; refine XO.assign rfl rfl ?_; refine XO.nil ?_; refine XC.seq2 ?_; refine XC.ret ?_; refine blockR ?_; refine seqX_ret ?_; refine ⟨rfl, _, [], rfl, (by repeat (first | exact List.Sublist.refl _ | apply List.Sublist.cons)), RetR.mk ?_⟩
     first | (rw [prvR, if_neg (by assumption)]; rfl) | exact prvR_at hE (prv_none (List.mem_of_getElem? hx47) (isSome_no (by simpa using (show (!(findN (cntF l day time) x47).isSome) = true by assumption)))) | exact prvR_at hE (((decide_eq_decide.2 (by omega)).trans (pv_0 (by omega)).symm).trans hprv.symm) | exact prvR_at hE (((decide_eq_false (by omega)).symm.trans (pv_0 (by omega)).symm).trans hprv.symm) | exact prvR_at hE ((pw_1 hn0 (by omega) hx90 (by assumption) (by assumption)).trans hprv.symm) | exact prvR_at hE ((pw_1n hn0 (by omega) hx90 (.inl (by assumption))).trans hprv.symm) | exact prvR_at hE ((pw_1n hn0 (by omega) hx90 (.inr (by assumption))).trans hprv.symm) | exact prvR_at hE ((pw_2 hn0 (by omega) hxX hxY hkX (by assumption) (by assumption) (by assumption)).trans hprv.symm) | exact prvR_at hE ((pw_2n hn0 (by omega) hxX hxY hkX (fun h => by first | exact absurd h.1 (by assumption) | exact absurd h.2.1 (by assumption) | exact absurd h.2.2 (by assumption))).trans hprv.symm) | exact prvR_at hE ((hce.symm).trans hprv.symm) | exact prvR_at hE (((rel_cn hre hx156 (.inl (by simpa using (show (!(othr x156 z).isSome) = true by assumption)))).symm).trans hprv.symm) | exact prvR_at hE (((rel_cn hre hx156 (.inr (.inr (by assumption)))).symm).trans hprv.symm) | exact prvR_at hE (((rel_cn hre hx156 (.inr (.inl ⟨by assumption, (by simpa using (show (!(othr x156 z).isSome) = false by assumption))⟩))).symm).trans hprv.symm)
    ·have g43p := of_decide_eq_false g43
     refine XO.guardF rfl rfl (g43) rfl rfl ?_; refine XO.guardF rfl rfl (g43) rfl rfl ?_; refine XO.pickF rfl (g43) rfl rfl ?_; refine XO.assign rfl rfl ?_; refine XO.assign rfl rfl ?_; refine XO.nil ?_; refine XC.seq2 ?_; refine XC.ret ?_; refine blockR ?_; refine seqX_ret ?_; refine ⟨rfl, _, [], rfl, (by repeat (first | exact List.Sublist.refl _ | apply List.Sublist.cons)), RetR.mk ?_⟩
     first | (rw [prvR, if_neg (by assumption)]; rfl) | exact prvR_at hE (prv_none (List.mem_of_getElem? hx47) (isSome_no (by simpa using (show (!(findN (cntF l day time) x47).isSome) = true by assumption)))) | exact prvR_at hE (((decide_eq_decide.2 (by omega)).trans (pv_0 (by omega)).symm).trans hprv.symm) | exact prvR_at hE (((decide_eq_false (by omega)).symm.trans (pv_0 (by omega)).symm).trans hprv.symm) | exact prvR_at hE ((pw_1 hn0 (by omega) hx90 (by assumption) (by assumption)).trans hprv.symm) | exact prvR_at hE ((pw_1n hn0 (by omega) hx90 (.inl (by assumption))).trans hprv.symm) | exact prvR_at hE ((pw_1n hn0 (by omega) hx90 (.inr (by assumption))).trans hprv.symm) | exact prvR_at hE ((pw_2 hn0 (by omega) hxX hxY hkX (by assumption) (by assumption) (by assumption)).trans hprv.symm) | exact prvR_at hE ((pw_2n hn0 (by omega) hxX hxY hkX (fun h => by first | exact absurd h.1 (by assumption) | exact absurd h.2.1 (by assumption) | exact absurd h.2.2 (by assumption))).trans hprv.symm) | exact prvR_at hE ((hce.symm).trans hprv.symm) | exact prvR_at hE (((rel_cn hre hx156 (.inl (by simpa using (show (!(othr x156 z).isSome) = true by assumption)))).symm).trans hprv.symm) | exact prvR_at hE (((rel_cn hre hx156 (.inr (.inr (by assumption)))).symm).trans hprv.symm) | exact prvR_at hE (((rel_cn hre hx156 (.inr (.inl ⟨by assumption, (by simpa using (show (!(othr x156 z).isSome) = false by assumption))⟩))).symm).trans hprv.symm)

end Go.Proofs

/- Conflicts: the examples with which the statements begin, in plain Lean. -/
set_option autoImplicit false
set_option linter.unusedVariables false
set_option linter.unusedSimpArgs false
namespace Go.Proofs
open Go.XL
theorem tabP_mk {l : Fs} {es js : List Int} {day time : Int} {b d : Bool} (hc : chkF l = 0) (h1 : es.length ≤ 4096) (h2 : js.length ≤ 256) (hb : b = false) (hE : b = true ↔ ∃ x ∈ es, ¬ idP x) (hd : d = false) (hJ : d = true ↔ ∃ x ∈ js, ¬ idP x) (he : errC [] 0 0 day time = 0) : tabP l es js day time :=
 ⟨⟨h1, h2, (err_nil hc).symm.trans he⟩, fun y hy => Decidable.not_not.1 fun h => Bool.noConfusion (hb.symm.trans (hE.2 ⟨y, hy, h⟩)), fun y hy => Decidable.not_not.1 fun h => Bool.noConfusion (hd.symm.trans (hJ.2 ⟨y, hy, h⟩))⟩
theorem tabP_e {l : Fs} {es js : List Int} {day time : Int} {b : Bool} (hb : b = true) (hE : b = true ↔ ∃ x ∈ es, ¬ idP x) : ¬ tabP l es js day time := fun h => by
 obtain ⟨x, hx, hn⟩ := hE.1 hb; exact hn (h.2.1 x hx)
theorem tabP_j {l : Fs} {es js : List Int} {day time : Int} {b : Bool} (hb : b = true) (hE : b = true ↔ ∃ x ∈ js, ¬ idP x) : ¬ tabP l es js day time := fun h => by
 obtain ⟨x, hx, hn⟩ := hE.1 hb; exact hn (h.2.2 x hx)
theorem tabP_d {l : Fs} {es js : List Int} {day time : Int} (hc : chkF l = 0) (he : errC [] 0 0 day time ≠ 0) : ¬ tabP l es js day time := fun h => he ((err_nil hc).trans h.1.2.2)
def sl27 : Fs := [⟨4, 3, 3, 2, 0, 2097152, 0, 2097152⟩, ⟨5, 1, 1, 9, 0, 2097152, 0, 2097152⟩, ⟨6, 1, 8, 9, 0, 2097152, 0, 2097152⟩, ⟨7, 3, 1, 2, 0, 2097152, 0, 2097152⟩, ⟨8, 4, 4, 1, 0, 10, 0, 2097152⟩]
theorem sA : cnfC sl27 1 3 5 5 = some [7, 4] ∧ errC sl27 1 3 5 5 = 0 := ⟨by kernel_rfl, by kernel_rfl⟩
theorem sB : prvR sl27 1 3 5 5 [7, 4] = true := by kernel_rfl
theorem sC : prvR sl27 1 3 5 5 [4, 7] = false := by kernel_rfl
theorem sD : cnfC sl27 8 1 5 5 = some [6, 5] ∧ errC sl27 8 1 5 5 = 0 := ⟨by kernel_rfl, by kernel_rfl⟩
theorem sE : cnfC sl27 1 4 20 5 = some [8] ∧ errC sl27 1 4 20 5 = 0 := ⟨by kernel_rfl, by kernel_rfl⟩
theorem sF : cnfC [] 5 5 0 0 = some [] ∧ errC [] 5 5 0 0 = 0 := ⟨by kernel_rfl, by kernel_rfl⟩
theorem sG : cnfC [] 5 6 0 0 = none ∧ errC [] 5 6 0 0 = 0 := ⟨by kernel_rfl, by kernel_rfl⟩
theorem sH : cnfC [] 5 (-1) 0 0 = none ∧ errC [] 5 (-1) 0 0 = 1 := ⟨by kernel_rfl, by kernel_rfl⟩
theorem sI : tabC sl27 [1, 7] [3, 8] 5 5 = [[true, true], [false, false]] ∧ tabE sl27 [1, 7] [3, 8] 5 5 = 0 := ⟨by kernel_rfl, by kernel_rfl⟩
theorem sJ : tabC [] [-1] [] 5 5 = [] ∧ tabE [] [-1] [] 5 5 = 1 := ⟨by kernel_rfl, by kernel_rfl⟩
theorem sK : chkF sl27 = 0 := by kernel_rfl
theorem sL : chkF [⟨1, 2, 3, 3, 0, 2097152, 0, 2097152⟩] = 270 := by kernel_rfl
theorem sM : chkF [⟨1, 1, 1, 1, 0, 0, 0, 2097152⟩] = 270 := by kernel_rfl
end Go.Proofs

/- The walks of the functions of conflicts: what each of them computes, at any input. -/
set_option autoImplicit false
set_option linter.unusedVariables false
set_option linter.unusedSimpArgs false
namespace Go.Proofs
open Go.XL



set_option maxRecDepth 100000 in
set_option maxHeartbeats 1600000 in
theorem ptable_fn (a aE aJ : Option Addr) (c cE cJ : Nat) (l : Fs) (es js : List Int) (day time : Int) (H : Hp) (hs : SlR faR H a c l) (hes : SlR (intR .i64) H aE cE es) (hjs : SlR (intR .i64) H aJ cJ js) (hl : l.length < 9223372036854775808) (hel : es.length < 9223372036854775808) (hjl : js.length < 9223372036854775808) : FnC Try.prog 19 #[.slice a l.length c, .slice aE es.length cE, .slice aJ js.length cJ, .int .i64 day, .int .i64 time] H [] (RetR (fun v H2 _ => TabV l es js day time H2 v)) := by
 refine FnC.intro (args := [.slice a l.length c, .slice aE es.length cE, .slice aJ js.length cJ, .int .i64 day, .int .i64 time]) Try.func19 rfl rfl Try.ntmps19 rfl rfl rfl fun G rest => ?_
 refine XC.seq ?_; refine XC.region ?_; refine XO.assign rfl rfl ?_; refine XO.assign rfl rfl ?_; refine XO.nil ?_; refine XC.seq2 ?_; refine XC.seq ?_; refine XC.seq ?_; refine XC.region ?_; refine XO.move rfl rfl ?_; refine XO.callV rfl (check_fn _ _ l _ hs hl) rfl ?_; refine XO.assign rfl rfl ?_; refine XO.nil ?_; refine XC.seq2 ?_; refine XC.seq ?_; refine XC.region ?_; refine XO.move rfl rfl ?_; refine XO.neq rfl rfl rfl ?_; refine XO.nil ?_; refine XC.seq2 ?_; refine XC.cond rfl (fun c0_2 => ?_) (fun c0_2 => ?_)
 ·refine XC.seq ?_; refine XC.region ?_; refine XO.move rfl rfl ?_; refine XO.assign rfl rfl ?_; refine XO.assign rfl rfl ?_; refine XO.nil ?_; refine XC.seq2 ?_; refine XC.ret ?_; refine seqX_ret ?_; refine ⟨rfl, _, [], rfl, (by repeat (first | exact List.Sublist.refl _ | apply List.Sublist.cons)), RetR.mk ?_⟩
  first | exact TabV.no (tabE_chk (by omega)) (by omega) | exact TabV.no (tabE_1 hck (fun h => by first | (have := h.1.1; omega) | (have := h.1.2.1; omega) | exact tabP_e (by assumption) hbE h | exact tabP_j (by assumption) hbJ h | exact tabP_d hck (by assumption) h)) (by decide) | exact TabV.yes hE (by assumption)
 ·have hck : chkF l = 0 := by omega
  have hlx := (chkF_0 hck).1
  have hcx := cntF_len l day time
  refine XC.skip ?_; refine XC.seq2 ?_; refine XC.seq ?_; refine XC.region ?_; refine XO.assign rfl rfl ?_; refine XO.nil ?_; refine XC.seq2 ?_; refine XC.seq ?_; refine XC.seq ?_; refine XC.region ?_; refine XO.move rfl rfl ?_; refine XO.lenS (ts := #[]) rfl Try.underlying25 rfl ?_; refine XO.gtr rfl rfl rfl ?_; refine XO.move rfl rfl ?_; refine XO.guardC rfl rfl rfl rfl (fun g3 => ?_) (fun g3 => ?_)
  ·have g3p := of_decide_eq_false g3
   refine XO.move rfl rfl ?_; refine XO.guardT rfl rfl (g3) rfl ?_; refine XO.lenS (ts := #[]) rfl Try.underlying25 rfl ?_; refine XO.guardT rfl rfl (g3) rfl ?_; refine XO.gtr rfl rfl rfl ?_; refine XO.pickF rfl (g3) rfl rfl ?_; refine XO.move rfl rfl ?_; refine XO.guardC rfl rfl rfl rfl (fun g4 => ?_) (fun g4 => ?_)
   ·have g4p := of_decide_eq_false g4
    refine XO.move rfl rfl ?_; refine XO.guardT rfl rfl (g4) rfl ?_; refine XO.move rfl rfl ?_; refine XO.guardT rfl rfl (g4) rfl ?_; refine XO.callK rfl (containsF_fn _ _ es (.func (.func 38) #[] #[]) (fun x => ¬ idP x) _ hes hel (fun x _ => odd_v x _)) rfl ?_; rintro _ ⟨bE, rfl, hbE⟩; refine XO.pickF rfl (g4) rfl rfl ?_; refine XO.move rfl rfl ?_; refine XO.guardC rfl rfl rfl rfl (fun g6 => ?_) (fun g6 => ?_)
    ·have g6p := g6
     refine XO.move rfl rfl ?_; refine XO.guardT rfl rfl (g6) rfl ?_; refine XO.move rfl rfl ?_; refine XO.guardT rfl rfl (g6) rfl ?_; refine XO.callK rfl (containsF_fn _ _ js (.func (.func 38) #[] #[]) (fun x => ¬ idP x) _ hjs hjl (fun x _ => odd_v x _)) rfl ?_; rintro _ ⟨bJ, rfl, hbJ⟩; refine XO.pickF rfl (g6) rfl rfl ?_; refine XO.move rfl rfl ?_; refine XO.guardC rfl rfl rfl rfl (fun g8 => ?_) (fun g8 => ?_)
     ·have g8p := g8
      refine XO.move rfl rfl ?_; refine XO.guardT rfl rfl (g8) rfl ?_; refine XO.move rfl rfl ?_; refine XO.guardT rfl rfl (g8) rfl ?_; refine XO.callV rfl (err_fn none 0 [] _ (SlR.nil0 _ _) (by decide) 0 0 day time) rfl ?_; refine XO.guardT rfl rfl (g8) rfl ?_; refine XO.neq rfl rfl rfl ?_; refine XO.pickF rfl (g8) rfl rfl ?_; refine XO.nil ?_; refine XC.seq2 ?_; refine XC.cond rfl (fun c1_10 => ?_) (fun c1_10 => ?_)
      ·refine XC.seq ?_; refine XC.region ?_; refine XO.assign rfl rfl ?_; refine XO.assign rfl rfl ?_; refine XO.nil ?_; refine XC.seq2 ?_; refine XC.ret ?_; refine seqX_ret ?_; refine ⟨rfl, _, [], rfl, (by repeat (first | exact List.Sublist.refl _ | apply List.Sublist.cons)), RetR.mk ?_⟩
       first | exact TabV.no (tabE_chk (by omega)) (by omega) | exact TabV.no (tabE_1 hck (fun h => by first | (have := h.1.1; omega) | (have := h.1.2.1; omega) | exact tabP_e (by assumption) hbE h | exact tabP_j (by assumption) hbJ h | exact tabP_d hck (by assumption) h)) (by decide) | exact TabV.yes hE (by assumption)
      ·have hP : tabP l es js day time := tabP_mk hck (by omega) (by omega) (by assumption) hbE (by assumption) hbJ (by omega)
       have hE := tabE_0 hck hP
       have hesl := hP.1.1
       have hjsl := hP.1.2.1
       refine XC.skip ?_; refine XC.seq2 ?_; refine XC.seq ?_; refine XC.region ?_; refine XO.move rfl rfl ?_; refine XO.move rfl rfl ?_; refine XO.move rfl rfl ?_; refine XO.callH rfl (counting_fn _ _ l _ hs hl (by omega) day time) rfl ?_; rintro _ HC hleC ⟨aC, cC, rfl, hC⟩; replace hs := hs.mono hleC; replace hes := hes.mono hleC; replace hjs := hjs.mono hleC; refine XO.alloc ze_51 rfl (fun b13 => ?_); refine XO.storeO 0 rfl rfl rfl rfl ty_51 rfl rfl rfl rfl rfl ?_; refine XO.nil ?_; refine XC.seq2 ?_; refine XC.seq ?_; refine XC.seq ?_; refine XC.region ?_; refine XO.move rfl rfl ?_; refine XO.lenS (ts := #[]) rfl Try.underlying25 rfl ?_; refine XO.move rfl rfl ?_; refine XO.nil ?_; refine XC.seq2 ?_; refine XC.block ?_; refine XC.keep [10, 56, 2, 13, 54, 55] rfl ?_; refine XC.open0 0 ?_; refine XC.loop (base := [(2, _), (13, _), (54, _), (55, _)]) (fun ζ : Nat × ((Nat × SObj) × Option Addr × Nat) => [(10, .slice ζ.2.2.1 ((es.take (ζ.1)).map (fun a => (js).map (fun b => (cnfP (cntF l day time) a b).isSome))).length ζ.2.2.2), (56, .int .i64 (ζ.1 : Nat))]) (fun ζ Hl own => ζ.1 ≤ es.length ∧ ζ.2.1 :: (b13, .cells 51 [.slice aC (cntF l day time).length cC]) :: rest = own ∧ Acc (slR boolR) 45 Hl ζ.2.1 ζ.2.2.1 ζ.2.2.2 ((es.take (ζ.1)).map (fun a => (js).map (fun b => (cnfP (cntF l day time) a b).isSome)))) (fun ζ => es.length - ζ.1) (0, ((0, .nothing), none, 0)) (prov_cons (rfl) (prov_cons (rfl) (prov_cons (rfl) (prov_cons (rfl) (prov_cons (rfl) (prov_cons (rfl) prov_nil)))))) (by repeat (first | exact List.Sublist.refl _ | apply List.Sublist.cons_cons | apply List.Sublist.cons)) ⟨Nat.zero_le _, rfl, Acc.nil _ _ _ _⟩ ?_; rintro ⟨i, ⟨pw, aw, cw⟩⟩ Hl0 _ hle0 ⟨hki, rfl, haccw⟩; replace hs := hs.mono hle0; replace hes := hes.mono hle0; replace hjs := hjs.mono hle0; replace hC := hC.mono hle0
       try dsimp only at hki haccw ⊢
       refine XC.seq ?_; refine XC.region ?_; refine XO.lss rfl rfl rfl ?_; refine XO.nil ?_; refine XC.seq2 ?_; refine XC.seq ?_; refine XC.cond rfl (fun c2_12 => ?_) (fun c2_12 => ?_)
       ·refine XC.skip ?_; refine XC.seq2 ?_; refine XC.seq ?_; refine XC.block ?_; refine XC.seq ?_; refine XC.region ?_; refine XO.indexN rfl hes rfl Try.underlying25 ty_3 (by omega) rfl ?_; rintro eb58 eo58 _ x58 hx58 rfl hp58; refine XO.loadH rfl (by assumption) ty_3 rfl rfl rfl ?_; refine XO.assign rfl rfl ?_; refine XO.nil ?_; refine XC.seq2 ?_; refine XC.seq ?_; refine XC.region ?_; refine XO.assign rfl rfl ?_; refine XO.nil ?_; refine XC.seq2 ?_; refine XC.seq ?_; refine XC.seq ?_; refine XC.region ?_; refine XO.move rfl rfl ?_; refine XO.lenS (ts := #[]) rfl Try.underlying25 rfl ?_; refine XO.move rfl rfl ?_; refine XO.nil ?_; refine XC.seq2 ?_; refine XC.block ?_; refine XC.keep [16, 62, 2, 10, 13, 15, 54, 55, 56, 60, 61] rfl ?_; refine XC.open0 0 ?_; refine XC.loop (base := [(2, _), (10, _), (13, _), (15, _), (54, _), (55, _), (56, _), (60, _), (61, _)]) (fun ζ : Nat × ((Nat × SObj) × Option Addr × Nat) => [(16, .slice ζ.2.2.1 ((js.take (ζ.1)).map (fun b => (cnfP (cntF l day time) x58 b).isSome)).length ζ.2.2.2), (62, .int .i64 (ζ.1 : Nat))]) (fun ζ Hl own => ζ.1 ≤ js.length ∧ ζ.2.1 :: pw :: (b13, .cells 51 [.slice aC (cntF l day time).length cC]) :: rest = own ∧ Acc boolR 4 Hl ζ.2.1 ζ.2.2.1 ζ.2.2.2 ((js.take (ζ.1)).map (fun b => (cnfP (cntF l day time) x58 b).isSome))) (fun ζ => js.length - ζ.1) (0, ((0, .nothing), none, 0)) (prov_cons (rfl) (prov_cons (rfl) (prov_cons (rfl) (prov_cons (rfl) (prov_cons (rfl) (prov_cons (rfl) (prov_cons (rfl) (prov_cons (rfl) (prov_cons (rfl) (prov_cons (rfl) (prov_cons (rfl) prov_nil))))))))))) (by repeat (first | exact List.Sublist.refl _ | apply List.Sublist.cons_cons | apply List.Sublist.cons)) ⟨Nat.zero_le _, rfl, Acc.nil _ _ _ _⟩ ?_; rintro ⟨j, ⟨pq, aq, cq⟩⟩ Hl1 _ hle1 ⟨hkj, rfl, haccq⟩; replace hs := hs.mono hle1; replace hes := hes.mono hle1; replace hjs := hjs.mono hle1; replace hC := hC.mono hle1; replace haccw := haccw.mono hle1; replace hp58 := hp58.mono hle1; replace hle0 := hle0.trans hle1
        try dsimp only at hkj haccq ⊢
        refine XC.seq ?_; refine XC.region ?_; refine XO.lss rfl rfl rfl ?_; refine XO.nil ?_; refine XC.seq2 ?_; refine XC.seq ?_; refine XC.cond rfl (fun c3_14 => ?_) (fun c3_14 => ?_)
        ·refine XC.skip ?_; refine XC.seq2 ?_; refine XC.seq ?_; refine XC.block ?_; refine XC.seq ?_; refine XC.region ?_; refine XO.indexN rfl hjs rfl Try.underlying25 ty_3 (by omega) rfl ?_; rintro eb64 eo64 _ x64 hx64 rfl hp64; refine XO.loadH rfl (by assumption) ty_3 rfl rfl rfl ?_; refine XO.assign rfl rfl ?_; refine XO.nil ?_; refine XC.seq2 ?_; refine XC.seq ?_; refine XC.region ?_; refine XO.loadO 2 rfl rfl ty_51 rfl rfl rfl ?_; refine XO.move rfl rfl ?_; refine XO.move rfl rfl ?_; refine XO.callH rfl (conflict_fn _ _ (cntF l day time) _ hC (by omega) x58 x64) rfl ?_; rintro _ HR70 hleR70 ⟨aR70, cR70, rfl, hR70⟩; replace hs := hs.mono hleR70; replace hes := hes.mono hleR70; replace hjs := hjs.mono hleR70; replace hC := hC.mono hleR70; replace haccw := haccw.mono hleR70; replace hp58 := hp58.mono hleR70; replace haccq := haccq.mono hleR70; replace hp64 := hp64.mono hleR70; replace hle0 := hle0.trans hleR70; replace hle1 := hle1.trans hleR70; refine XO.move rfl rfl ?_; refine XO.extract rfl rfl rfl ?_; refine XO.extract rfl rfl rfl ?_; refine XO.assign rfl rfl ?_; refine XO.assign rfl rfl ?_; refine XO.nil ?_; refine XC.seq2 ?_; refine XC.region ?_; refine XO.move rfl rfl ?_; refine XO.move rfl rfl ?_; refine XO.buildSlice rfl Try.underlying45 ty_4 ze_4 rfl rfl rfl (fun b75 => ?_); refine XO.publish 0 rfl rfl rfl (fun HP75 oP75 hleP75 hbP75 hoP75 => ?_)
         have hsl75 := SlR.lit (ρ := boolR) (l := [(cnfP (cntF l day time) x58 x64).isSome]) hbP75 hoP75 (RowsR.one1 rfl)
         replace hs := hs.mono hleP75; replace hes := hes.mono hleP75; replace hjs := hjs.mono hleP75; replace hC := hC.mono hleP75; replace haccw := haccw.mono hleP75; replace hp58 := hp58.mono hleP75; replace haccq := haccq.mono hleP75; replace hp64 := hp64.mono hleP75; replace hR70 := hR70.mono hleP75; replace hle0 := hle0.trans hleP75; replace hle1 := hle1.trans hleP75; refine XO.appendA 0 rfl rfl haccq rfl rfl hsl75 rfl Try.underlying45 ty_4 ze_4 rfl by_4 (by simp; omega) rfl (fun p76 a76 c76 hacc76 => ?_); refine XO.assign rfl rfl ?_; refine XO.nil ?_; refine blockN ?_; refine XC.seq2 ?_; refine XC.region ?_; refine XO.add rfl rfl (wrap_i64 (by omega) (by omega)) rfl ?_; refine XO.move rfl rfl ?_; refine XO.nil ?_; refine loop_next ((j + 1, (p76, a76, c76))) (by show js.length - (j + 1) < js.length - j; omega) (prov_cons (by first | rfl | (rw [map_take_snoc hx64]; rfl)) (prov_cons (rfl) (prov_cons (rfl) (prov_cons (rfl) (prov_cons (rfl) (prov_cons (rfl) (prov_cons (rfl) (prov_cons (rfl) (prov_cons (rfl) (prov_cons (rfl) (prov_cons (rfl) prov_nil))))))))))) (⟨by show j + 1 ≤ js.length; omega, rfl, by first | (exact hacc76) | (rw [map_take_snoc hx64]; exact hacc76)⟩) (by repeat (first | exact List.Sublist.refl _ | apply List.Sublist.cons_cons | apply List.Sublist.cons)) (hle1)
        ·obtain rfl : j = js.length := by omega
         rw [List.take_length] at haccq ⊢
         refine XC.exit ?_; refine seqX_exit ?_; refine loopX_exit ?_; refine blockHit rfl ?_; refine XC.seq2 ?_; refine XC.region ?_; refine XO.move rfl rfl ?_; refine XO.publishA 0 rfl haccq rfl (fun HQ18 hleQ18 hsQ18 => ?_); replace hs := hs.mono hleQ18; replace hes := hes.mono hleQ18; replace hjs := hjs.mono hleQ18; replace hC := hC.mono hleQ18; replace haccw := haccw.mono hleQ18; replace hp58 := hp58.mono hleQ18; replace hle0 := hle0.trans hleQ18; replace hle1 := hle1.trans hleQ18; refine XO.move rfl rfl ?_; refine XO.buildSlice rfl Try.underlying34 ty_45 ze_45 rfl rfl rfl (fun b80 => ?_); refine XO.publish 0 rfl rfl rfl (fun HP80 oP80 hleP80 hbP80 hoP80 => ?_); replace hs := hs.mono hleP80; replace hes := hes.mono hleP80; replace hjs := hjs.mono hleP80; replace hC := hC.mono hleP80; replace haccw := haccw.mono hleP80; replace hp58 := hp58.mono hleP80; replace hsQ18 := hsQ18.mono hleP80; replace hle0 := hle0.trans hleP80; replace hle1 := hle1.trans hleP80
         have hsl80 := SlR.lit (ρ := (slR boolR)) (l := [(js).map (fun b => (cnfP (cntF l day time) x58 b).isSome)]) hbP80 hoP80 (RowsR.one1 ⟨_, _, rfl, hsQ18⟩)
         refine XO.appendA 0 rfl rfl haccw rfl rfl hsl80 rfl Try.underlying34 ty_45 ze_45 rfl by_45 (by simp; omega) rfl (fun p81 a81 c81 hacc81 => ?_); refine XO.assign rfl rfl ?_; refine XO.nil ?_; refine blockN ?_; refine XC.seq2 ?_; refine XC.region ?_; refine XO.add rfl rfl (wrap_i64 (by omega) (by omega)) rfl ?_; refine XO.move rfl rfl ?_; refine XO.nil ?_; refine loop_next ((i + 1, (p81, a81, c81))) (by show es.length - (i + 1) < es.length - i; omega) (prov_cons (by first | rfl | (rw [map_take_snoc hx58]; rfl)) (prov_cons (rfl) (prov_cons (rfl) (prov_cons (rfl) (prov_cons (rfl) (prov_cons (rfl) prov_nil)))))) (⟨by show i + 1 ≤ es.length; omega, rfl, by first | (exact hacc81) | (rw [map_take_snoc hx58]; exact hacc81)⟩) (by repeat (first | exact List.Sublist.refl _ | apply List.Sublist.cons_cons | apply List.Sublist.cons)) (hle0)
       ·obtain rfl : i = es.length := by omega
        rw [List.take_length] at haccw ⊢
        refine XC.exit ?_; refine seqX_exit ?_; refine loopX_exit ?_; refine blockHit rfl ?_; refine XC.seq2 ?_; refine XC.seq ?_; refine XC.region ?_; refine XO.move rfl rfl ?_; refine XO.assign rfl rfl ?_; refine XO.assign rfl rfl ?_; refine XO.nil ?_; refine XC.seq2 ?_; refine XC.publishA 0 rfl haccw rfl (fun HQ20 hleQ20 hsQ20 => ?_); replace hs := hs.mono hleQ20; replace hes := hes.mono hleQ20; replace hjs := hjs.mono hleQ20; replace hC := hC.mono hleQ20; replace hle0 := hle0.trans hleQ20; refine XC.ret ?_; refine ⟨rfl, _, [], rfl, (by repeat (first | exact List.Sublist.refl _ | apply List.Sublist.cons)), RetR.mk ?_⟩
        first | exact TabV.no (tabE_chk (by omega)) (by omega) | exact TabV.no (tabE_1 hck (fun h => by first | (have := h.1.1; omega) | (have := h.1.2.1; omega) | exact tabP_e (by assumption) hbE h | exact tabP_j (by assumption) hbJ h | exact tabP_d hck (by assumption) h)) (by decide) | exact TabV.yes hE (by assumption)
     ·have g8p := g8
      refine XO.guardF rfl rfl (g8) rfl rfl ?_; refine XO.guardF rfl rfl (g8) rfl rfl ?_; refine XO.guardF rfl rfl (g8) rfl rfl ?_; refine XO.pickT rfl (g8) rfl rfl ?_; refine XO.nil ?_; refine XC.seq2 ?_; refine XC.condT rfl (rfl) ?_; refine XC.seq ?_; refine XC.region ?_; refine XO.assign rfl rfl ?_; refine XO.assign rfl rfl ?_; refine XO.nil ?_; refine XC.seq2 ?_; refine XC.ret ?_; refine seqX_ret ?_; refine ⟨rfl, _, [], rfl, (by repeat (first | exact List.Sublist.refl _ | apply List.Sublist.cons)), RetR.mk ?_⟩
      first | exact TabV.no (tabE_chk (by omega)) (by omega) | exact TabV.no (tabE_1 hck (fun h => by first | (have := h.1.1; omega) | (have := h.1.2.1; omega) | exact tabP_e (by assumption) hbE h | exact tabP_j (by assumption) hbJ h | exact tabP_d hck (by assumption) h)) (by decide) | exact TabV.yes hE (by assumption)
    ·have g6p := g6
     refine XO.guardF rfl rfl (g6) rfl rfl ?_; refine XO.guardF rfl rfl (g6) rfl rfl ?_; refine XO.pickT rfl (g6) rfl rfl ?_; refine XO.move rfl rfl ?_; refine XO.guardF rfl rfl (rfl) rfl rfl ?_; refine XO.guardF rfl rfl (rfl) rfl rfl ?_; refine XO.guardF rfl rfl (rfl) rfl rfl ?_; refine XO.guardF rfl rfl (rfl) rfl rfl ?_; refine XO.pickT rfl (rfl) rfl rfl ?_; refine XO.nil ?_; refine XC.seq2 ?_; refine XC.condT rfl (rfl) ?_; refine XC.seq ?_; refine XC.region ?_; refine XO.assign rfl rfl ?_; refine XO.assign rfl rfl ?_; refine XO.nil ?_; refine XC.seq2 ?_; refine XC.ret ?_; refine seqX_ret ?_; refine ⟨rfl, _, [], rfl, (by repeat (first | exact List.Sublist.refl _ | apply List.Sublist.cons)), RetR.mk ?_⟩
     first | exact TabV.no (tabE_chk (by omega)) (by omega) | exact TabV.no (tabE_1 hck (fun h => by first | (have := h.1.1; omega) | (have := h.1.2.1; omega) | exact tabP_e (by assumption) hbE h | exact tabP_j (by assumption) hbJ h | exact tabP_d hck (by assumption) h)) (by decide) | exact TabV.yes hE (by assumption)
   ·have g4p := of_decide_eq_true g4
    refine XO.guardF rfl rfl (g4) rfl rfl ?_; refine XO.guardF rfl rfl (g4) rfl rfl ?_; refine XO.pickT rfl (g4) rfl rfl ?_; refine XO.move rfl rfl ?_; refine XO.guardF rfl rfl (rfl) rfl rfl ?_; refine XO.guardF rfl rfl (rfl) rfl rfl ?_; refine XO.guardF rfl rfl (rfl) rfl rfl ?_; refine XO.pickT rfl (rfl) rfl rfl ?_; refine XO.move rfl rfl ?_; refine XO.guardF rfl rfl (rfl) rfl rfl ?_; refine XO.guardF rfl rfl (rfl) rfl rfl ?_; refine XO.guardF rfl rfl (rfl) rfl rfl ?_; refine XO.guardF rfl rfl (rfl) rfl rfl ?_; refine XO.pickT rfl (rfl) rfl rfl ?_; refine XO.nil ?_; refine XC.seq2 ?_; refine XC.condT rfl (rfl) ?_; refine XC.seq ?_; refine XC.region ?_; refine XO.assign rfl rfl ?_; refine XO.assign rfl rfl ?_; refine XO.nil ?_; refine XC.seq2 ?_; refine XC.ret ?_; refine seqX_ret ?_; refine ⟨rfl, _, [], rfl, (by repeat (first | exact List.Sublist.refl _ | apply List.Sublist.cons)), RetR.mk ?_⟩
    first | exact TabV.no (tabE_chk (by omega)) (by omega) | exact TabV.no (tabE_1 hck (fun h => by first | (have := h.1.1; omega) | (have := h.1.2.1; omega) | exact tabP_e (by assumption) hbE h | exact tabP_j (by assumption) hbJ h | exact tabP_d hck (by assumption) h)) (by decide) | exact TabV.yes hE (by assumption)
  ·have g3p := of_decide_eq_true g3
   refine XO.guardF rfl rfl (g3) rfl rfl ?_; refine XO.guardF rfl rfl (g3) rfl rfl ?_; refine XO.pickT rfl (g3) rfl rfl ?_; refine XO.move rfl rfl ?_; refine XO.guardF rfl rfl (rfl) rfl rfl ?_; refine XO.guardF rfl rfl (rfl) rfl rfl ?_; refine XO.guardF rfl rfl (rfl) rfl rfl ?_; refine XO.pickT rfl (rfl) rfl rfl ?_; refine XO.move rfl rfl ?_; refine XO.guardF rfl rfl (rfl) rfl rfl ?_; refine XO.guardF rfl rfl (rfl) rfl rfl ?_; refine XO.guardF rfl rfl (rfl) rfl rfl ?_; refine XO.pickT rfl (rfl) rfl rfl ?_; refine XO.move rfl rfl ?_; refine XO.guardF rfl rfl (rfl) rfl rfl ?_; refine XO.guardF rfl rfl (rfl) rfl rfl ?_; refine XO.guardF rfl rfl (rfl) rfl rfl ?_; refine XO.guardF rfl rfl (rfl) rfl rfl ?_; refine XO.pickT rfl (rfl) rfl rfl ?_; refine XO.nil ?_; refine XC.seq2 ?_; refine XC.condT rfl (rfl) ?_; refine XC.seq ?_; refine XC.region ?_; refine XO.assign rfl rfl ?_; refine XO.assign rfl rfl ?_; refine XO.nil ?_; refine XC.seq2 ?_; refine XC.ret ?_; refine seqX_ret ?_; refine ⟨rfl, _, [], rfl, (by repeat (first | exact List.Sublist.refl _ | apply List.Sublist.cons)), RetR.mk ?_⟩
   first | exact TabV.no (tabE_chk (by omega)) (by omega) | exact TabV.no (tabE_1 hck (fun h => by first | (have := h.1.1; omega) | (have := h.1.2.1; omega) | exact tabP_e (by assumption) hbE h | exact tabP_j (by assumption) hbJ h | exact tabP_d hck (by assumption) h)) (by decide) | exact TabV.yes hE (by assumption)

set_option maxRecDepth 100000 in
set_option maxHeartbeats 1600000 in
theorem sane27 (H : Hp) : FnC Try.prog 10 #[] H [] (RetR (fun v _ _ => v = .bool true)) := by
 refine FnC.intro (args := []) Try.func10 rfl rfl Try.ntmps10 rfl rfl rfl fun G rest => ?_
 refine XC.seq ?_; refine XC.region ?_; refine XO.assign rfl rfl ?_; refine XO.nil ?_; refine XC.seq2 ?_; refine XC.seq ?_; refine XC.region ?_; refine XO.callV rfl (fact_fn _ _ _ _ _) rfl ?_; refine XO.callV rfl (fact_fn _ _ _ _ _) rfl ?_; refine XO.callV rfl (fact_fn _ _ _ _ _) rfl ?_; refine XO.callV rfl (fact_fn _ _ _ _ _) rfl ?_; refine XO.callV rfl (fact_fn _ _ _ _ _) rfl ?_; refine XO.buildRow (ρ := faR) (l := [⟨4, 3, 3, 2, 0, 2097152, 0, 2097152⟩, ⟨5, 1, 1, 9, 0, 2097152, 0, 2097152⟩, ⟨6, 1, 8, 9, 0, 2097152, 0, 2097152⟩, ⟨7, 3, 1, 2, 0, 2097152, 0, 2097152⟩, ⟨8, 4, 4, 1, 0, 2097152, 0, 2097152⟩]) rfl Try.underlying22 ty_41 ze_41 rfl rfl rfl (RowsR.cons1 (cs := [_, _, _, _, _, _, _, _]) rfl (RowsR.cons1 (cs := [_, _, _, _, _, _, _, _]) rfl (RowsR.cons1 (cs := [_, _, _, _, _, _, _, _]) rfl (RowsR.cons1 (cs := [_, _, _, _, _, _, _, _]) rfl (RowsR.one1 rfl))))) rfl (fun p34 a34 c34 hacc34 => ?_); refine XO.assign rfl rfl ?_; refine XO.nil ?_; refine XC.seq2 ?_; refine XC.seq ?_; refine XC.region ?_; refine XO.move rfl rfl ?_
 have haddr34 := hacc34.addr (by simp)
 subst haddr34
 refine XO.indexE rfl rfl Try.underlying22 ty_41 (by omega) (by simp) rfl ?_; refine XO.fieldAddr rfl fa_41_5 rfl ?_; refine XO.storeAF (ρ := faR) (k := (4 : Int).toNat) (u := ⟨8, 4, 4, 1, 0, 10, 0, 2097152⟩) 0 rfl rfl rfl hacc34 rfl rfl rfl rfl (fun c1 h => by cases h; exact ⟨_, rfl, rfl⟩) ty_3 rfl (fun pA haccA => ?_); replace haccA : XL.Acc faR 41 _ pA _ _ sl27 := haccA; refine XO.nil ?_; refine XC.seq2 ?_; refine XC.seq ?_; refine XC.region ?_; refine XO.publishA 0 rfl haccA rfl (fun HQ7 hleQ7 hsQ7 => ?_); refine XO.move rfl rfl ?_; refine XO.callH rfl (conf_fn _ _ sl27 _ hsQ7 (by decide) 1 3 5 5) rfl ?_; rintro _ HN40 hleN40 hM40
 unfold CnfU at hM40
 rw [sA.1, sA.2] at hM40
 obtain ⟨aN40, cN40, rfl, hN40⟩ := hM40; replace hsQ7 := hsQ7.mono hleN40; refine XO.move rfl rfl ?_; refine XO.extract rfl rfl rfl ?_; refine XO.extract rfl rfl rfl ?_; refine XO.extract rfl rfl rfl ?_; refine XO.assign rfl rfl ?_; refine XO.assign rfl rfl ?_; refine XO.assign rfl rfl ?_; refine XO.nil ?_; refine XC.seq2 ?_; refine XC.seq ?_; refine XC.region ?_; refine XO.move rfl rfl ?_; refine XO.buildSlice rfl Try.underlying25 ty_3 ze_3 rfl rfl rfl (fun b46 => ?_); refine XO.publish 0 rfl rfl rfl (fun HP46 oP46 hleP46 hbP46 hoP46 => ?_)
 have hsl46 := SlR.lit (ρ := (intR .i64)) (l := [7, 4]) hbP46 hoP46 (RowsR.cons1 (cs := [_]) rfl (RowsR.one1 rfl))
 replace hsQ7 := hsQ7.mono hleP46; replace hN40 := hN40.mono hleP46
 have hcall9 := progproves_fn _ _ _ _ sl27 [7, 4] 1 3 5 5 _ hsQ7 hsl46 (by decide) (by decide)
 rw [sB, sA.2] at hcall9
 refine XO.callV rfl hcall9 rfl ?_; refine XO.move rfl rfl ?_; refine XO.extract rfl rfl rfl ?_; refine XO.extract rfl rfl rfl ?_; refine XO.assign rfl rfl ?_; refine XO.assign rfl rfl ?_; refine XO.nil ?_; refine XC.seq2 ?_; refine XC.seq ?_; refine XC.region ?_; refine XO.move rfl rfl ?_; refine XO.buildSlice rfl Try.underlying25 ty_3 ze_3 rfl rfl rfl (fun b52 => ?_); refine XO.publish 0 rfl rfl rfl (fun HP52 oP52 hleP52 hbP52 hoP52 => ?_)
 have hsl52 := SlR.lit (ρ := (intR .i64)) (l := [4, 7]) hbP52 hoP52 (RowsR.cons1 (cs := [_]) rfl (RowsR.one1 rfl))
 replace hsQ7 := hsQ7.mono hleP52; replace hN40 := hN40.mono hleP52; replace hsl46 := hsl46.mono hleP52
 have hcall10 := progproves_fn _ _ _ _ sl27 [4, 7] 1 3 5 5 _ hsQ7 hsl52 (by decide) (by decide)
 rw [sC, sA.2] at hcall10
 refine XO.callV rfl hcall10 rfl ?_; refine XO.move rfl rfl ?_; refine XO.extract rfl rfl rfl ?_; refine XO.extract rfl rfl rfl ?_; refine XO.assign rfl rfl ?_; refine XO.assign rfl rfl ?_; refine XO.nil ?_; refine XC.seq2 ?_; refine XC.seq ?_; refine XC.region ?_; refine XO.move rfl rfl ?_; refine XO.callH rfl (conf_fn _ _ sl27 _ hsQ7 (by decide) 8 1 5 5) rfl ?_; rintro _ HN58 hleN58 hM58
 unfold CnfU at hM58
 rw [sD.1, sD.2] at hM58
 obtain ⟨aN58, cN58, rfl, hN58⟩ := hM58; replace hsQ7 := hsQ7.mono hleN58; replace hN40 := hN40.mono hleN58; replace hsl46 := hsl46.mono hleN58; replace hsl52 := hsl52.mono hleN58; refine XO.move rfl rfl ?_; refine XO.extract rfl rfl rfl ?_; refine XO.extract rfl rfl rfl ?_; refine XO.extract rfl rfl rfl ?_; refine XO.assign rfl rfl ?_; refine XO.assign rfl rfl ?_; refine XO.assign rfl rfl ?_; refine XO.nil ?_; refine XC.seq2 ?_; refine XC.seq ?_; refine XC.region ?_; refine XO.move rfl rfl ?_; refine XO.callH rfl (conf_fn _ _ sl27 _ hsQ7 (by decide) 1 4 20 5) rfl ?_; rintro _ HN64 hleN64 hM64
 unfold CnfU at hM64
 rw [sE.1, sE.2] at hM64
 obtain ⟨aN64, cN64, rfl, hN64⟩ := hM64; replace hsQ7 := hsQ7.mono hleN64; replace hN40 := hN40.mono hleN64; replace hsl46 := hsl46.mono hleN64; replace hsl52 := hsl52.mono hleN64; replace hN58 := hN58.mono hleN64; refine XO.move rfl rfl ?_; refine XO.extract rfl rfl rfl ?_; refine XO.extract rfl rfl rfl ?_; refine XO.extract rfl rfl rfl ?_; refine XO.assign rfl rfl ?_; refine XO.assign rfl rfl ?_; refine XO.assign rfl rfl ?_; refine XO.nil ?_; refine XC.seq2 ?_; refine XC.seq ?_; refine XC.region ?_; refine XO.callH rfl (conf_fn _ _ [] _ (SlR.nil0 _ _) (by decide) 5 5 0 0) rfl ?_; rintro _ HN69 hleN69 hM69
 unfold CnfU at hM69
 rw [sF.1, sF.2] at hM69
 obtain ⟨aN69, cN69, rfl, hN69⟩ := hM69; replace hsQ7 := hsQ7.mono hleN69; replace hN40 := hN40.mono hleN69; replace hsl46 := hsl46.mono hleN69; replace hsl52 := hsl52.mono hleN69; replace hN58 := hN58.mono hleN69; replace hN64 := hN64.mono hleN69; refine XO.move rfl rfl ?_; refine XO.extract rfl rfl rfl ?_; refine XO.extract rfl rfl rfl ?_; refine XO.extract rfl rfl rfl ?_; refine XO.assign rfl rfl ?_; refine XO.assign rfl rfl ?_; refine XO.assign rfl rfl ?_; refine XO.nil ?_; refine XC.seq2 ?_; refine XC.seq ?_; refine XC.region ?_; refine XO.callH rfl (conf_fn _ _ [] _ (SlR.nil0 _ _) (by decide) 5 6 0 0) rfl ?_; rintro _ HN74 hleN74 hM74
 unfold CnfU at hM74
 rw [sG.1, sG.2] at hM74
 obtain ⟨aN74, cN74, rfl, hN74⟩ := hM74; replace hsQ7 := hsQ7.mono hleN74; replace hN40 := hN40.mono hleN74; replace hsl46 := hsl46.mono hleN74; replace hsl52 := hsl52.mono hleN74; replace hN58 := hN58.mono hleN74; replace hN64 := hN64.mono hleN74; replace hN69 := hN69.mono hleN74; refine XO.move rfl rfl ?_; refine XO.extract rfl rfl rfl ?_; refine XO.extract rfl rfl rfl ?_; refine XO.extract rfl rfl rfl ?_; refine XO.assign rfl rfl ?_; refine XO.assign rfl rfl ?_; refine XO.assign rfl rfl ?_; refine XO.nil ?_; refine XC.seq2 ?_; refine XC.seq ?_; refine XC.region ?_; refine XO.callH rfl (conf_fn _ _ [] _ (SlR.nil0 _ _) (by decide) 5 (-1) 0 0) rfl ?_; rintro _ HN79 hleN79 hM79
 unfold CnfU at hM79
 rw [sH.1, sH.2] at hM79
 obtain ⟨aN79, cN79, rfl, hN79⟩ := hM79; replace hsQ7 := hsQ7.mono hleN79; replace hN40 := hN40.mono hleN79; replace hsl46 := hsl46.mono hleN79; replace hsl52 := hsl52.mono hleN79; replace hN58 := hN58.mono hleN79; replace hN64 := hN64.mono hleN79; replace hN69 := hN69.mono hleN79; replace hN74 := hN74.mono hleN79; refine XO.move rfl rfl ?_; refine XO.extract rfl rfl rfl ?_; refine XO.extract rfl rfl rfl ?_; refine XO.extract rfl rfl rfl ?_; refine XO.assign rfl rfl ?_; refine XO.assign rfl rfl ?_; refine XO.assign rfl rfl ?_; refine XO.nil ?_; refine XC.seq2 ?_; refine XC.seq ?_; refine XC.region ?_; refine XO.move rfl rfl ?_; refine XO.buildSlice rfl Try.underlying25 ty_3 ze_3 rfl rfl rfl (fun b85 => ?_); refine XO.publish 0 rfl rfl rfl (fun HP85 oP85 hleP85 hbP85 hoP85 => ?_)
 have hsl85 := SlR.lit (ρ := (intR .i64)) (l := [1, 7]) hbP85 hoP85 (RowsR.cons1 (cs := [_]) rfl (RowsR.one1 rfl))
 replace hsQ7 := hsQ7.mono hleP85; replace hN40 := hN40.mono hleP85; replace hsl46 := hsl46.mono hleP85; replace hsl52 := hsl52.mono hleP85; replace hN58 := hN58.mono hleP85; replace hN64 := hN64.mono hleP85; replace hN69 := hN69.mono hleP85; replace hN74 := hN74.mono hleP85; replace hN79 := hN79.mono hleP85; refine XO.buildSlice rfl Try.underlying25 ty_3 ze_3 rfl rfl rfl (fun b86 => ?_); refine XO.publish 0 rfl rfl rfl (fun HP86 oP86 hleP86 hbP86 hoP86 => ?_)
 have hsl86 := SlR.lit (ρ := (intR .i64)) (l := [3, 8]) hbP86 hoP86 (RowsR.cons1 (cs := [_]) rfl (RowsR.one1 rfl))
 replace hsQ7 := hsQ7.mono hleP86; replace hN40 := hN40.mono hleP86; replace hsl46 := hsl46.mono hleP86; replace hsl52 := hsl52.mono hleP86; replace hN58 := hN58.mono hleP86; replace hN64 := hN64.mono hleP86; replace hN69 := hN69.mono hleP86; replace hN74 := hN74.mono hleP86; replace hN79 := hN79.mono hleP86; replace hsl85 := hsl85.mono hleP86; refine XO.callH rfl (ptable_fn _ _ _ _ _ _ sl27 [1, 7] [3, 8] 5 5 _ hsQ7 hsl85 hsl86 (by decide) (by decide) (by decide)) rfl ?_; rintro _ HN87 hleN87 hM87
 unfold TabV at hM87
 rw [sI.1, sI.2] at hM87
 obtain ⟨aN87, cN87, rfl, hN87⟩ := hM87; replace hsQ7 := hsQ7.mono hleN87; replace hN40 := hN40.mono hleN87; replace hsl46 := hsl46.mono hleN87; replace hsl52 := hsl52.mono hleN87; replace hN58 := hN58.mono hleN87; replace hN64 := hN64.mono hleN87; replace hN69 := hN69.mono hleN87; replace hN74 := hN74.mono hleN87; replace hN79 := hN79.mono hleN87; replace hsl85 := hsl85.mono hleN87; replace hsl86 := hsl86.mono hleN87; refine XO.move rfl rfl ?_; refine XO.extract rfl rfl rfl ?_; refine XO.extract rfl rfl rfl ?_; refine XO.assign rfl rfl ?_; refine XO.assign rfl rfl ?_; refine XO.nil ?_; refine XC.seq2 ?_; refine XC.seq ?_; refine XC.region ?_; refine XO.buildSlice rfl Try.underlying25 ty_3 ze_3 rfl rfl rfl (fun b91 => ?_); refine XO.publish 0 rfl rfl rfl (fun HP91 oP91 hleP91 hbP91 hoP91 => ?_)
 have hsl91 := SlR.lit (ρ := (intR .i64)) (l := [-1]) hbP91 hoP91 (RowsR.one1 rfl)
 replace hsQ7 := hsQ7.mono hleP91; replace hN40 := hN40.mono hleP91; replace hsl46 := hsl46.mono hleP91; replace hsl52 := hsl52.mono hleP91; replace hN58 := hN58.mono hleP91; replace hN64 := hN64.mono hleP91; replace hN69 := hN69.mono hleP91; replace hN74 := hN74.mono hleP91; replace hN79 := hN79.mono hleP91; replace hsl85 := hsl85.mono hleP91; replace hsl86 := hsl86.mono hleP91; replace hN87 := hN87.mono hleP91; refine XO.callH rfl (ptable_fn _ _ _ _ _ _ [] [-1] [] 5 5 _ (SlR.nil0 _ _) hsl91 (SlR.nil0 _ _) (by decide) (by decide) (by decide)) rfl ?_; rintro _ HN92 hleN92 hM92
 unfold TabV at hM92
 rw [sJ.1, sJ.2] at hM92
 obtain ⟨aN92, cN92, rfl, hN92⟩ := hM92; replace hsQ7 := hsQ7.mono hleN92; replace hN40 := hN40.mono hleN92; replace hsl46 := hsl46.mono hleN92; replace hsl52 := hsl52.mono hleN92; replace hN58 := hN58.mono hleN92; replace hN64 := hN64.mono hleN92; replace hN69 := hN69.mono hleN92; replace hN74 := hN74.mono hleN92; replace hN79 := hN79.mono hleN92; replace hsl85 := hsl85.mono hleN92; replace hsl86 := hsl86.mono hleN92; replace hN87 := hN87.mono hleN92; replace hsl91 := hsl91.mono hleN92; refine XO.move rfl rfl ?_; refine XO.extract rfl rfl rfl ?_; refine XO.extract rfl rfl rfl ?_; refine XO.assign rfl rfl ?_; refine XO.assign rfl rfl ?_; refine XO.nil ?_; refine XC.seq2 ?_; refine XC.seq ?_; refine XC.seq ?_; refine XC.region ?_; refine XO.move rfl rfl ?_; refine XO.neq rfl rfl rfl ?_; refine XO.move rfl rfl ?_; refine XO.guardT rfl rfl (decide_eq_false (fun h => h rfl)) rfl ?_; refine XO.move rfl rfl ?_; refine XO.guardT rfl rfl (decide_eq_false (fun h => h rfl)) rfl ?_; refine XO.neq rfl rfl rfl ?_; refine XO.pickF rfl (decide_eq_false (fun h => h rfl)) rfl rfl ?_; refine XO.move rfl rfl ?_; refine XO.guardT rfl rfl (decide_eq_false (fun h => h rfl)) rfl ?_; refine XO.move rfl rfl ?_; refine XO.guardT rfl rfl (decide_eq_false (fun h => h rfl)) rfl ?_; refine XO.neq rfl rfl rfl ?_; refine XO.pickF rfl (decide_eq_false (fun h => h rfl)) rfl rfl ?_; refine XO.move rfl rfl ?_; refine XO.guardT rfl rfl (decide_eq_false (fun h => h rfl)) rfl ?_; refine XO.move rfl rfl ?_; refine XO.guardT rfl rfl (decide_eq_false (fun h => h rfl)) rfl ?_; refine XO.neq rfl rfl rfl ?_; refine XO.pickF rfl (decide_eq_false (fun h => h rfl)) rfl rfl ?_; refine XO.move rfl rfl ?_; refine XO.guardT rfl rfl (decide_eq_false (fun h => h rfl)) rfl ?_; refine XO.move rfl rfl ?_; refine XO.guardT rfl rfl (decide_eq_false (fun h => h rfl)) rfl ?_; refine XO.neq rfl rfl rfl ?_; refine XO.pickF rfl (decide_eq_false (fun h => h rfl)) rfl rfl ?_; refine XO.move rfl rfl ?_; refine XO.guardT rfl rfl (decide_eq_false (fun h => h rfl)) rfl ?_; refine XO.move rfl rfl ?_; refine XO.guardT rfl rfl (decide_eq_false (fun h => h rfl)) rfl ?_; refine XO.neq rfl rfl rfl ?_; refine XO.pickF rfl (decide_eq_false (fun h => h rfl)) rfl rfl ?_; refine XO.move rfl rfl ?_; refine XO.guardT rfl rfl (decide_eq_false (fun h => h rfl)) rfl ?_; refine XO.move rfl rfl ?_; refine XO.guardT rfl rfl (decide_eq_false (fun h => h rfl)) rfl ?_; refine XO.neq rfl rfl rfl ?_; refine XO.pickF rfl (decide_eq_false (fun h => h rfl)) rfl rfl ?_; refine XO.move rfl rfl ?_; refine XO.guardT rfl rfl (decide_eq_false (fun h => h rfl)) rfl ?_; refine XO.move rfl rfl ?_; refine XO.guardT rfl rfl (decide_eq_false (fun h => h rfl)) rfl ?_; refine XO.neq rfl rfl rfl ?_; refine XO.pickF rfl (decide_eq_false (fun h => h rfl)) rfl rfl ?_; refine XO.move rfl rfl ?_; refine XO.guardT rfl rfl (decide_eq_false (fun h => h rfl)) rfl ?_; refine XO.move rfl rfl ?_; refine XO.guardT rfl rfl (decide_eq_false (fun h => h rfl)) rfl ?_; refine XO.neq rfl rfl rfl ?_; refine XO.pickF rfl (decide_eq_false (fun h => h rfl)) rfl rfl ?_; refine XO.move rfl rfl ?_; refine XO.guardT rfl rfl (decide_eq_false (fun h => h rfl)) rfl ?_; refine XO.move rfl rfl ?_; refine XO.guardT rfl rfl (decide_eq_false (fun h => h rfl)) rfl ?_; refine XO.neq rfl rfl rfl ?_; refine XO.pickF rfl (decide_eq_false (fun h => h rfl)) rfl rfl ?_; refine XO.nil ?_; refine XC.seq2 ?_; refine XC.condF rfl (decide_eq_false (fun h => h rfl)) ?_; refine XC.skip ?_; refine XC.seq2 ?_; refine XC.seq ?_; refine XC.seq ?_; refine XC.region ?_; refine XO.move rfl rfl ?_; refine XO.notB rfl rfl ?_; refine XO.move rfl rfl ?_; refine XO.guardT rfl rfl (rfl) rfl ?_; refine XO.move rfl rfl ?_; refine XO.guardT rfl rfl (rfl) rfl ?_; refine XO.notB rfl rfl ?_; refine XO.pickF rfl (rfl) rfl rfl ?_; refine XO.move rfl rfl ?_; refine XO.guardT rfl rfl (rfl) rfl ?_; refine XO.move rfl rfl ?_; refine XO.pickF rfl (rfl) rfl rfl ?_; refine XO.move rfl rfl ?_; refine XO.guardT rfl rfl (rfl) rfl ?_; refine XO.move rfl rfl ?_; refine XO.guardT rfl rfl (rfl) rfl ?_; refine XO.notB rfl rfl ?_; refine XO.pickF rfl (rfl) rfl rfl ?_; refine XO.move rfl rfl ?_; refine XO.guardT rfl rfl (rfl) rfl ?_; refine XO.move rfl rfl ?_; refine XO.guardT rfl rfl (rfl) rfl ?_; refine XO.notB rfl rfl ?_; refine XO.pickF rfl (rfl) rfl rfl ?_; refine XO.move rfl rfl ?_; refine XO.guardT rfl rfl (rfl) rfl ?_; refine XO.move rfl rfl ?_; refine XO.guardT rfl rfl (rfl) rfl ?_; refine XO.notB rfl rfl ?_; refine XO.pickF rfl (rfl) rfl rfl ?_; refine XO.move rfl rfl ?_; refine XO.guardT rfl rfl (rfl) rfl ?_; refine XO.move rfl rfl ?_; refine XO.pickF rfl (rfl) rfl rfl ?_; refine XO.move rfl rfl ?_; refine XO.guardT rfl rfl (rfl) rfl ?_; refine XO.move rfl rfl ?_; refine XO.guardT rfl rfl (rfl) rfl ?_; refine XO.lenS (ts := #[]) rfl Try.underlying25 rfl ?_; refine XO.guardT rfl rfl (rfl) rfl ?_; refine XO.neq rfl rfl rfl ?_; refine XO.pickF rfl (rfl) rfl rfl ?_; refine XO.nil ?_; refine XC.seq2 ?_; refine XC.condF rfl (decide_eq_false (fun h => h rfl)) ?_; refine XC.skip ?_; refine XC.seq2 ?_; refine XC.seq ?_; refine XC.region ?_; refine XO.callV rfl (fact_fn _ _ _ _ _) rfl ?_; refine XO.alloc ze_41 rfl (fun b28 => ?_); refine XO.storeO 0 rfl rfl rfl rfl ty_41 rfl rfl rfl rfl rfl ?_; refine XO.nil ?_; refine XC.seq2 ?_; refine XC.seq ?_; refine XC.region ?_; refine XO.fieldAddr rfl fa_41_5 rfl ?_; refine XO.storeO 0 rfl rfl rfl rfl ty_3 rfl rfl rfl rfl rfl ?_; refine XO.nil ?_; refine XC.seq2 ?_; refine XC.seq ?_; refine XC.region ?_; refine XO.move rfl rfl ?_; refine XO.buildSlice rfl Try.underlying25 ty_3 ze_3 rfl rfl rfl (fun b165 => ?_); refine XO.publish 0 rfl rfl rfl (fun HP165 oP165 hleP165 hbP165 hoP165 => ?_)
 have hsl165 := SlR.lit (ρ := (intR .i64)) (l := [7, 4]) hbP165 hoP165 (RowsR.cons1 (cs := [_]) rfl (RowsR.one1 rfl))
 replace hsQ7 := hsQ7.mono hleP165; replace hN40 := hN40.mono hleP165; replace hsl46 := hsl46.mono hleP165; replace hsl52 := hsl52.mono hleP165; replace hN58 := hN58.mono hleP165; replace hN64 := hN64.mono hleP165; replace hN69 := hN69.mono hleP165; replace hN74 := hN74.mono hleP165; replace hN79 := hN79.mono hleP165; replace hsl85 := hsl85.mono hleP165; replace hsl86 := hsl86.mono hleP165; replace hN87 := hN87.mono hleP165; replace hsl91 := hsl91.mono hleP165; replace hN92 := hN92.mono hleP165; refine XO.callV rfl (same_fn _ _ _ _ [7, 4] [7, 4] _ hN40 hsl165 (by decide) (by decide)) rfl ?_; refine XO.move rfl rfl ?_; refine XO.guardT rfl rfl (decide_eq_true rfl) rfl ?_; refine XO.move rfl rfl ?_; refine XO.guardT rfl rfl (decide_eq_true rfl) rfl ?_; refine XO.buildSlice rfl Try.underlying25 ty_3 ze_3 rfl rfl rfl (fun b169 => ?_); refine XO.publish 0 rfl rfl rfl (fun HP169 oP169 hleP169 hbP169 hoP169 => ?_)
 have hsl169 := SlR.lit (ρ := (intR .i64)) (l := [6, 5]) hbP169 hoP169 (RowsR.cons1 (cs := [_]) rfl (RowsR.one1 rfl))
 replace hsQ7 := hsQ7.mono hleP169; replace hN40 := hN40.mono hleP169; replace hsl46 := hsl46.mono hleP169; replace hsl52 := hsl52.mono hleP169; replace hN58 := hN58.mono hleP169; replace hN64 := hN64.mono hleP169; replace hN69 := hN69.mono hleP169; replace hN74 := hN74.mono hleP169; replace hN79 := hN79.mono hleP169; replace hsl85 := hsl85.mono hleP169; replace hsl86 := hsl86.mono hleP169; replace hN87 := hN87.mono hleP169; replace hsl91 := hsl91.mono hleP169; replace hN92 := hN92.mono hleP169; replace hsl165 := hsl165.mono hleP169; refine XO.guardT rfl rfl (decide_eq_true rfl) rfl ?_; refine XO.callV rfl (same_fn _ _ _ _ [6, 5] [6, 5] _ hN58 hsl169 (by decide) (by decide)) rfl ?_; refine XO.pickT rfl (decide_eq_true rfl) rfl rfl ?_; refine XO.move rfl rfl ?_; refine XO.guardT rfl rfl (decide_eq_true rfl) rfl ?_; refine XO.move rfl rfl ?_; refine XO.guardT rfl rfl (decide_eq_true rfl) rfl ?_; refine XO.buildSlice rfl Try.underlying25 ty_3 ze_3 rfl rfl rfl (fun b174 => ?_); refine XO.publish 0 rfl rfl rfl (fun HP174 oP174 hleP174 hbP174 hoP174 => ?_)
 have hsl174 := SlR.lit (ρ := (intR .i64)) (l := [8]) hbP174 hoP174 (RowsR.one1 rfl)
 replace hsQ7 := hsQ7.mono hleP174; replace hN40 := hN40.mono hleP174; replace hsl46 := hsl46.mono hleP174; replace hsl52 := hsl52.mono hleP174; replace hN58 := hN58.mono hleP174; replace hN64 := hN64.mono hleP174; replace hN69 := hN69.mono hleP174; replace hN74 := hN74.mono hleP174; replace hN79 := hN79.mono hleP174; replace hsl85 := hsl85.mono hleP174; replace hsl86 := hsl86.mono hleP174; replace hN87 := hN87.mono hleP174; replace hsl91 := hsl91.mono hleP174; replace hN92 := hN92.mono hleP174; replace hsl165 := hsl165.mono hleP174; replace hsl169 := hsl169.mono hleP174; refine XO.guardT rfl rfl (decide_eq_true rfl) rfl ?_; refine XO.callV rfl (same_fn _ _ _ _ [8] [8] _ hN64 hsl174 (by decide) (by decide)) rfl ?_; refine XO.pickT rfl (decide_eq_true rfl) rfl rfl ?_; refine XO.move rfl rfl ?_; refine XO.guardT rfl rfl (decide_eq_true rfl) rfl ?_; refine XO.move rfl rfl ?_; refine XO.guardT rfl rfl (decide_eq_true rfl) rfl ?_; refine XO.buildSlice rfl Try.underlying45 ty_4 ze_4 rfl rfl rfl (fun b179 => ?_); refine XO.publish 0 rfl rfl rfl (fun HP179 oP179 hleP179 hbP179 hoP179 => ?_)
 have hsl179 := SlR.lit (ρ := boolR) (l := [true, true]) hbP179 hoP179 (RowsR.cons1 (cs := [_]) rfl (RowsR.one1 rfl))
 replace hsQ7 := hsQ7.mono hleP179; replace hN40 := hN40.mono hleP179; replace hsl46 := hsl46.mono hleP179; replace hsl52 := hsl52.mono hleP179; replace hN58 := hN58.mono hleP179; replace hN64 := hN64.mono hleP179; replace hN69 := hN69.mono hleP179; replace hN74 := hN74.mono hleP179; replace hN79 := hN79.mono hleP179; replace hsl85 := hsl85.mono hleP179; replace hsl86 := hsl86.mono hleP179; replace hN87 := hN87.mono hleP179; replace hsl91 := hsl91.mono hleP179; replace hN92 := hN92.mono hleP179; replace hsl165 := hsl165.mono hleP179; replace hsl169 := hsl169.mono hleP179; replace hsl174 := hsl174.mono hleP179; refine XO.guardT rfl rfl (decide_eq_true rfl) rfl ?_; refine XO.buildSlice rfl Try.underlying45 ty_4 ze_4 rfl rfl rfl (fun b180 => ?_); refine XO.publish 0 rfl rfl rfl (fun HP180 oP180 hleP180 hbP180 hoP180 => ?_)
 have hsl180 := SlR.lit (ρ := boolR) (l := [false, false]) hbP180 hoP180 (RowsR.cons1 (cs := [_]) rfl (RowsR.one1 rfl))
 replace hsQ7 := hsQ7.mono hleP180; replace hN40 := hN40.mono hleP180; replace hsl46 := hsl46.mono hleP180; replace hsl52 := hsl52.mono hleP180; replace hN58 := hN58.mono hleP180; replace hN64 := hN64.mono hleP180; replace hN69 := hN69.mono hleP180; replace hN74 := hN74.mono hleP180; replace hN79 := hN79.mono hleP180; replace hsl85 := hsl85.mono hleP180; replace hsl86 := hsl86.mono hleP180; replace hN87 := hN87.mono hleP180; replace hsl91 := hsl91.mono hleP180; replace hN92 := hN92.mono hleP180; replace hsl165 := hsl165.mono hleP180; replace hsl169 := hsl169.mono hleP180; replace hsl174 := hsl174.mono hleP180; replace hsl179 := hsl179.mono hleP180; refine XO.guardT rfl rfl (decide_eq_true rfl) rfl ?_; refine XO.buildSlice rfl Try.underlying34 ty_45 ze_45 rfl rfl rfl (fun b181 => ?_); refine XO.publish 0 rfl rfl rfl (fun HP181 oP181 hleP181 hbP181 hoP181 => ?_); replace hsQ7 := hsQ7.mono hleP181; replace hN40 := hN40.mono hleP181; replace hsl46 := hsl46.mono hleP181; replace hsl52 := hsl52.mono hleP181; replace hN58 := hN58.mono hleP181; replace hN64 := hN64.mono hleP181; replace hN69 := hN69.mono hleP181; replace hN74 := hN74.mono hleP181; replace hN79 := hN79.mono hleP181; replace hsl85 := hsl85.mono hleP181; replace hsl86 := hsl86.mono hleP181; replace hN87 := hN87.mono hleP181; replace hsl91 := hsl91.mono hleP181; replace hN92 := hN92.mono hleP181; replace hsl165 := hsl165.mono hleP181; replace hsl169 := hsl169.mono hleP181; replace hsl174 := hsl174.mono hleP181; replace hsl179 := hsl179.mono hleP181; replace hsl180 := hsl180.mono hleP181
 have hsl181 := SlR.lit (ρ := (slR boolR)) (l := [[true, true], [false, false]]) hbP181 hoP181 (RowsR.cons1 (cs := [_]) ⟨_, _, rfl, hsl179⟩ (RowsR.one1 ⟨_, _, rfl, hsl180⟩))
 refine XO.guardT rfl rfl (decide_eq_true rfl) rfl ?_; refine XO.callV rfl (sameT_fn _ _ _ _ [[true, true], [false, false]] [[true, true], [false, false]] _ hN87 hsl181 (by decide) (by simp)) rfl ?_; refine XO.pickT rfl (decide_eq_true rfl) rfl rfl ?_; refine XO.move rfl rfl ?_; refine XO.guardT rfl rfl (decide_eq_true rfl) rfl ?_; refine XO.move rfl rfl ?_; refine XO.guardT rfl rfl (decide_eq_true rfl) rfl ?_; refine XO.callV rfl (check_fn _ _ sl27 _ hsQ7 (by decide)) rfl ?_; refine XO.guardT rfl rfl (decide_eq_true rfl) rfl ?_; refine XO.eql rfl rfl rfl ?_; refine XO.pickT rfl (decide_eq_true rfl) rfl rfl ?_; refine XO.move rfl rfl ?_; refine XO.guardT rfl rfl (decide_eq_true sK) rfl ?_; refine XO.callV rfl (fact_fn _ _ _ _ _) rfl ?_; refine XO.guardT rfl rfl (decide_eq_true sK) rfl ?_; refine XO.buildSlice rfl Try.underlying22 ty_41 ze_41 rfl rfl rfl (fun b191 => ?_); refine XO.publish 0 rfl rfl rfl (fun HP191 oP191 hleP191 hbP191 hoP191 => ?_)
 have hsl191 := SlR.lit (ρ := faR) (l := [⟨1, 2, 3, 3, 0, 2097152, 0, 2097152⟩]) hbP191 hoP191 (RowsR.one1 rfl)
 replace hsQ7 := hsQ7.mono hleP191; replace hN40 := hN40.mono hleP191; replace hsl46 := hsl46.mono hleP191; replace hsl52 := hsl52.mono hleP191; replace hN58 := hN58.mono hleP191; replace hN64 := hN64.mono hleP191; replace hN69 := hN69.mono hleP191; replace hN74 := hN74.mono hleP191; replace hN79 := hN79.mono hleP191; replace hsl85 := hsl85.mono hleP191; replace hsl86 := hsl86.mono hleP191; replace hN87 := hN87.mono hleP191; replace hsl91 := hsl91.mono hleP191; replace hN92 := hN92.mono hleP191; replace hsl165 := hsl165.mono hleP191; replace hsl169 := hsl169.mono hleP191; replace hsl174 := hsl174.mono hleP191; replace hsl179 := hsl179.mono hleP191; replace hsl180 := hsl180.mono hleP191; replace hsl181 := hsl181.mono hleP191; refine XO.guardT rfl rfl (decide_eq_true sK) rfl ?_; refine XO.callV rfl (check_fn _ _ [⟨1, 2, 3, 3, 0, 2097152, 0, 2097152⟩] _ hsl191 (by decide)) rfl ?_; refine XO.guardT rfl rfl (decide_eq_true sK) rfl ?_; refine XO.eql rfl rfl rfl ?_; refine XO.pickT rfl (decide_eq_true sK) rfl rfl ?_; refine XO.move rfl rfl ?_; refine XO.guardT rfl rfl (decide_eq_true sL) rfl ?_; refine XO.loadO 0 rfl rfl ty_41 rfl rfl rfl ?_; refine XO.guardT rfl rfl (decide_eq_true sL) rfl ?_; refine XO.buildSlice rfl Try.underlying22 ty_41 ze_41 rfl rfl rfl (fun b197 => ?_); refine XO.publish 0 rfl rfl rfl (fun HP197 oP197 hleP197 hbP197 hoP197 => ?_)
 have hsl197 := SlR.lit (ρ := faR) (l := [⟨1, 1, 1, 1, 0, 0, 0, 2097152⟩]) hbP197 hoP197 (RowsR.one1 rfl)
 replace hsQ7 := hsQ7.mono hleP197; replace hN40 := hN40.mono hleP197; replace hsl46 := hsl46.mono hleP197; replace hsl52 := hsl52.mono hleP197; replace hN58 := hN58.mono hleP197; replace hN64 := hN64.mono hleP197; replace hN69 := hN69.mono hleP197; replace hN74 := hN74.mono hleP197; replace hN79 := hN79.mono hleP197; replace hsl85 := hsl85.mono hleP197; replace hsl86 := hsl86.mono hleP197; replace hN87 := hN87.mono hleP197; replace hsl91 := hsl91.mono hleP197; replace hN92 := hN92.mono hleP197; replace hsl165 := hsl165.mono hleP197; replace hsl169 := hsl169.mono hleP197; replace hsl174 := hsl174.mono hleP197; replace hsl179 := hsl179.mono hleP197; replace hsl180 := hsl180.mono hleP197; replace hsl181 := hsl181.mono hleP197; replace hsl191 := hsl191.mono hleP197; refine XO.guardT rfl rfl (decide_eq_true sL) rfl ?_; refine XO.callV rfl (check_fn _ _ [⟨1, 1, 1, 1, 0, 0, 0, 2097152⟩] _ hsl197 (by decide)) rfl ?_; refine XO.guardT rfl rfl (decide_eq_true sL) rfl ?_; refine XO.eql rfl rfl rfl ?_; refine XO.pickT rfl (decide_eq_true sL) rfl rfl ?_; refine XO.assign rfl rfl ?_; refine XO.nil ?_; refine XC.seq2 ?_; refine XC.ret ?_; refine ⟨rfl, _, [], rfl, (by repeat (first | exact List.Sublist.refl _ | apply List.Sublist.cons)), RetR.mk ?_⟩
 exact congrArg Value.bool (decide_eq_true sM)

end Go.Proofs

/- Conflicts: the order of paths, and what proves, in plain Lean. -/
set_option autoImplicit false
set_option linter.unusedVariables false
set_option linter.unusedSimpArgs false
namespace Go.Proofs
open Go.XL
theorem sgn_anti (a b : Int) : sgn b a = - sgn a b := by unfold sgn; split <;> split <;> (try split) <;> (try split) <;> omega
theorem sgn_neg {a b : Int} : sgn a b < 0 ↔ a < b := by unfold sgn; split <;> (try split) <;> omega
theorem sgn_le {a b : Int} : sgn a b ≤ 0 ↔ a ≤ b := by unfold sgn; split <;> (try split) <;> omega
theorem cmp_anti : ∀ a b : List Int, cmpL b a = - cmpL a b
  | [], [] => rfl
  | [], _ :: _ => rfl
  | _ :: _, [] => rfl
  | x :: a, y :: b => by
    have h := sgn_anti x y
    rw [cmpL, cmpL]
    by_cases h0 : sgn x y = 0
    · rw [if_pos h0, if_pos (by omega)]; exact cmp_anti a b
    · rw [if_neg h0, if_neg (by omega)]; exact h
theorem cmp_0 : ∀ {a b : List Int}, cmpL a b = 0 ↔ a = b
  | [], [] => by simp [cmpL]
  | [], _ :: _ => by simp [cmpL]
  | _ :: _, [] => by simp [cmpL]
  | x :: a, y :: b => by
    rw [cmpL]
    by_cases h0 : sgn x y = 0
    · rw [if_pos h0, cmp_0, sgn_0.1 h0]; simp
    · rw [if_neg h0]
      exact ⟨fun h => absurd h h0, fun h => absurd (sgn_0.2 (List.cons.inj h).1) h0⟩
theorem cmp_trans : ∀ {a b c : List Int}, cmpL a b ≤ 0 → cmpL b c ≤ 0 → cmpL a c ≤ 0
  | [], b, [], _, _ => by simp [cmpL]
  | [], b, _ :: _, _, _ => by simp [cmpL]
  | _ :: _, [], c, h, _ => by simp [cmpL] at h
  | _ :: _, _ :: _, [], _, h => by simp [cmpL] at h
  | x :: a, y :: b, z :: c, h1, h2 => by
    rw [cmpL] at h1 h2 ⊢
    by_cases e1 : sgn x y = 0
    · rw [if_pos e1] at h1
      obtain rfl := sgn_0.1 e1
      by_cases e2 : sgn x z = 0
      · rw [if_pos e2] at h2 ⊢; exact cmp_trans h1 h2
      · rw [if_neg e2] at h2 ⊢; exact h2
    · rw [if_neg e1] at h1
      by_cases e2 : sgn y z = 0
      · obtain rfl := sgn_0.1 e2
        rw [if_neg e1]; exact h1
      · rw [if_neg e2] at h2
        have := sgn_le.1 h1; have := sgn_le.1 h2
        have : ¬ x = y := fun e => e1 (sgn_0.2 e)
        rw [if_neg (fun e => by have := sgn_0.1 e; omega)]
        exact sgn_le.2 (by omega)
theorem ord_anti (a b : List Int) : ordL b a = - ordL a b := by
 unfold ordL
 have h := sgn_anti a.length b.length
 by_cases h0 : sgn a.length b.length = 0
 ·rw [if_pos h0, if_pos (by omega)]; exact cmp_anti a b
 ·rw [if_neg h0, if_neg (by omega)]; exact h
theorem ord_0 {a b : List Int} : ordL a b = 0 ↔ a = b := by
 unfold ordL
 by_cases h0 : sgn a.length b.length = 0
 ·rw [if_pos h0]; exact cmp_0
 ·rw [if_neg h0]; exact ⟨fun h => absurd h h0, fun h => absurd (sgn_0.2 (by rw [h])) h0⟩
theorem ord_trans {a b c : List Int} (h1 : ordL a b ≤ 0) (h2 : ordL b c ≤ 0) : ordL a c ≤ 0 := by
 unfold ordL at *
 by_cases e1 : sgn a.length b.length = 0
 ·rw [if_pos e1] at h1
  have := sgn_0.1 e1
  by_cases e2 : sgn b.length c.length = 0
  ·rw [if_pos e2] at h2
   rw [if_pos (by rw [this]; exact e2)]; exact cmp_trans h1 h2
  ·rw [if_neg e2] at h2
   rw [if_neg (by rw [this]; exact e2), this]; exact h2
 ·rw [if_neg e1] at h1
  have h3 := sgn_le.1 h1
  have h4 : ¬ (a.length : Int) = b.length := fun e => e1 (sgn_0.2 e)
  have h5 : (b.length : Int) ≤ c.length := by
   by_cases e2 : sgn b.length c.length = 0
   ·exact Int.le_of_eq (sgn_0.1 e2)
   ·rw [if_neg e2] at h2; exact sgn_le.1 h2
  rw [if_neg (fun e => by have := sgn_0.1 e; omega)]
  exact sgn_le.2 (by omega)
theorem ord_nlt {a b : List Int} : ¬ ordL a b < 0 ↔ ordL b a ≤ 0 := by have := ord_anti a b; omega
theorem ord_short {a b : List Int} (h : a.length < b.length) : ordL a b < 0 := by
 unfold ordL; rw [if_neg (fun e => by have := sgn_0.1 e; omega)]; exact sgn_neg.2 (by omega)
theorem ord_same {a b : List Int} (h : a.length = b.length) : ordL a b = cmpL a b := by unfold ordL; rw [if_pos (sgn_0.2 (by rw [h]))]
theorem bef_cmp : ∀ {l m : List Int}, l.length = m.length → (befR l m = true ↔ cmpL l m < 0)
  | [], [], _ => by simp [befR, cmpL]
  | x :: l, y :: m, h => by
    rw [befR, cmpL]
    by_cases e : x = y
    · rw [if_pos e, if_pos (sgn_0.2 e)]; exact bef_cmp (by simpa using h)
    · rw [if_neg e, if_neg (fun h0 => e (sgn_0.1 h0)), sgn_neg]; simp
theorem bef_ord {l m : List Int} : befL l m = true ↔ ordL l m < 0 := by
 by_cases h : l.length = m.length
 ·rw [befL_eq h, ord_same h]; exact bef_cmp h
 ·rw [befL_ne h]
  unfold ordL
  rw [if_neg (fun e => h (by have := sgn_0.1 e; omega)), sgn_neg]; simp
theorem lst_best : ∀ {xs : List (List Int)} {q : List Int}, lstO xs = some q → ∀ p ∈ xs, ordL q p ≤ 0 := by
  have key : ∀ (xs : List (List Int)) (o : Option (List Int)) (q : List Int), xs.foldl lstS o = some q → (∀ r, o = some r → ordL q r ≤ 0) ∧ ∀ p ∈ xs, ordL q p ≤ 0 := by
    intro xs
    induction xs with
    | nil => intro o q h; exact ⟨fun r hr => by rw [List.foldl_nil] at h; rw [h] at hr; cases hr; exact Int.le_of_eq (ord_0.2 rfl), fun p hp => by cases hp⟩
    | cons z t ih =>
      intro o q h
      obtain ⟨h1, h2⟩ := ih _ _ h
      have h3 : ordL q z ≤ 0 ∧ ∀ r, o = some r → ordL q r ≤ 0 := by
        by_cases hc : o.isSome = false ∨ ordL z (o.getD []) < 0
        · have h4 := h1 z (lst_y hc)
          refine ⟨h4, fun r hr => ?_⟩
          subst hr
          rcases hc with hc | hc
          · cases hc
          · exact ord_trans h4 (by have : ordL z r < 0 := hc; omega)
        · have ho : o.isSome = true := by
            cases o with
            | none => exact absurd (.inl rfl) hc
            | some r => rfl
          have hn : ¬ ordL z (o.getD []) < 0 := fun e => hc (.inr e)
          rw [lst_n ho hn] at h1
          obtain ⟨r, hr⟩ := Option.isSome_iff_exists.1 ho
          subst hr
          have h5 := h1 r rfl
          exact ⟨ord_trans h5 (ord_nlt.1 hn), h1⟩
      exact ⟨h3.2, fun p hp => by
        rcases List.mem_cons.1 hp with rfl | hp
        · exact h3.1
        · exact h2 p hp⟩
  intro xs q h
  exact (key xs none q h).2
theorem lst_none {xs : List (List Int)} (h : lstO xs = none) : xs = [] := by
  cases xs with
  | nil => rfl
  | cons z t =>
    exfalso
    have key : ∀ (xs : List (List Int)) (o : Option (List Int)), o.isSome = true → (xs.foldl lstS o).isSome = true := by
      intro xs
      induction xs with
      | nil => intro o h; exact h
      | cons z t ih => intro o h; refine ih _ ?_; unfold lstS; split
                       · rfl
                       · exact h
    have := key t (lstS none z) rfl
    have h2 : (z :: t).foldl lstS none = t.foldl lstS (lstS none z) := rfl
    rw [lstO, h2] at h
    rw [h] at this; cases this
-- facts and their numbers
theorem find_mem {X : Fs} (hr : riseP X) {f : Fa} (h : f ∈ X) : findN X f.No = some f := by
 obtain ⟨i, hi⟩ := List.getElem?_of_mem h
 exact bin_some (k := i) (fun q x hq hx => hr.get hq hx hi) hi rfl
theorem find_some {X : Fs} {n : Int} {f : Fa} (h : findN X n = some f) : f ∈ X ∧ f.No = n := by
 unfold findN at h
 exact ⟨List.mem_of_find?_eq_some h, by simpa using List.find?_some h⟩
theorem allS_iff {X : Fs} (hr : riseP X) : ∀ {p : List Int} {fs : Fs}, allS (findN X) p = some fs ↔ p = fs.map Fa.No ∧ ∀ f ∈ fs, f ∈ X
  | [], [] => by simp [allS]
  | [], f :: t => by simp [allS]
  | n :: p, fs => by
    rw [allS]
    cases hn : findN X n with
    | none =>
      simp only
      refine Iff.intro (fun h => by cases h) ?_
      rintro ⟨h1, h2⟩
      cases fs with
      | nil => simp at h1
      | cons f t =>
        simp only [List.map_cons, List.cons.injEq] at h1
        have := find_mem hr (h2 f List.mem_cons_self)
        rw [← h1.1, hn] at this; cases this
    | some g =>
      simp only
      cases ha : allS (findN X) p with
      | none =>
        simp only
        refine Iff.intro (fun h => by cases h) ?_
        rintro ⟨h1, h2⟩
        cases fs with
        | nil => simp at h1
        | cons f t =>
          simp only [List.map_cons, List.cons.injEq] at h1
          have := (allS_iff hr (p := p) (fs := t)).2 ⟨h1.2, fun f hf => h2 f (List.mem_cons_of_mem _ hf)⟩
          rw [ha] at this; cases this
      | some z =>
        simp only [Option.some.injEq]
        obtain ⟨h3, h4⟩ := (allS_iff hr).1 ha
        obtain ⟨h5, h6⟩ := find_some hn
        constructor
        · rintro rfl
          exact ⟨by rw [List.map_cons, ← h3, h6], fun f hf => (List.mem_cons.1 hf).elim (fun e => by rw [e]; exact h5) (h4 f)⟩
        · rintro ⟨h1, h2⟩
          cases fs with
          | nil => simp at h1
          | cons f t =>
            simp only [List.map_cons, List.cons.injEq] at h1
            have e1 := find_mem hr (h2 f List.mem_cons_self)
            rw [← h1.1, hn] at e1
            have e2 := (allS_iff hr (p := p) (fs := t)).2 ⟨h1.2, fun f hf => h2 f (List.mem_cons_of_mem _ hf)⟩
            rw [ha] at e2
            cases e1; cases e2; rfl
theorem prv_iff {X : Fs} (hr : riseP X) {a b : Int} {p : List Int} : prvF X a b p = true ↔ ∃ fs, p = fs.map Fa.No ∧ (∀ f ∈ fs, f ∈ X) ∧ prvB fs a b = true := by
  unfold prvF
  constructor
  · intro h
    cases ha : allS (findN X) p with
    | none => rw [ha] at h; cases h
    | some fs =>
      rw [ha] at h
      obtain ⟨h1, h2⟩ := (allS_iff hr).1 ha
      exact ⟨fs, h1, h2, h⟩
  · rintro ⟨fs, h1, h2, h3⟩
    rw [(allS_iff hr).2 ⟨h1, h2⟩]; exact h3
theorem oth_sym {f : Fa} {z w : Int} (h : othr f z = some w) : othr f w = some z := by
 unfold othr at h ⊢
 split at h
 ·rename_i h1
  cases h
  by_cases h2 : f.B = f.A
  ·rw [if_pos h2, h1, h2]
  ·rw [if_neg h2, if_pos rfl, h1]
 ·rename_i h1
  split at h
  ·rename_i h2
   cases h
   rw [if_pos rfl, h2]
  ·cases h
theorem oth_of {f : Fa} {z : Int} (h : ¬ (f.A ≠ z ∧ f.B ≠ z)) : othr f z = some (nxt f z) := by
 unfold othr nxt
 by_cases h1 : f.A = z
 ·rw [if_pos h1.symm, if_pos h1]
 ·have h2 : f.B = z := Decidable.not_not.1 fun e => h ⟨h1, e⟩
  rw [if_neg (fun e => h1 e.symm), if_pos h2.symm, if_neg h1]
theorem join_oth {f : Fa} {a b : Int} (h : a ≠ b) : joinP f a b ↔ othr f a = some b := by
 unfold othr
 constructor
 ·rintro (⟨h1, h2⟩ | ⟨h1, h2⟩)
  ·rw [if_pos h1.symm, h2]
  ·rw [if_neg (fun e => h (by rw [e, h1])), if_pos h2.symm, h1]
 ·intro h3
  split at h3
  ·rename_i h1; cases h3; exact .inl ⟨h1.symm, rfl⟩
  ·split at h3
   ·rename_i h2; cases h3; exact .inr ⟨rfl, h2.symm⟩
   ·cases h3
/-- facts of relatives that lead from z to b -/
def ch : Fs → Int → Int → Prop
 | [], z, b => z = b
 | f :: t, z, b => f.K = 3 ∧ ∃ w, othr f z = some w ∧ ch t w b
theorem rel_cases {b z : Int} {f : Fa} {t : Fs} {met : List Int} : relF b (f :: t) met z = true ↔ f.K = 3 ∧ ∃ w, othr f z = some w ∧ w ∉ met ∧ relF b t (met ++ [w]) w = true := by
 rw [relF]
 constructor
 ·intro h
  split at h
  ·cases h
  ·rename_i hn
   have h1 : f.K = 3 := Decidable.not_not.1 fun e => hn (.inl e)
   have h2 : ¬ (f.A ≠ z ∧ f.B ≠ z) := fun e => hn (.inr (.inl e))
   exact ⟨h1, _, oth_of h2, fun e => hn (.inr (.inr e)), h⟩
 ·rintro ⟨h1, w, h2, h3, h4⟩
  have h5 := oth_nxt (f := f) (z := z) (by rw [h2]; rfl)
  rw [h2] at h5
  have h6 : w = nxt f z := h5.1
  rw [if_neg]
  ·rw [← h6]; exact h4
  ·rintro (e | e | e)
   ·exact e h1
   ·exact h5.2 e
   ·exact h3 (by rw [h6]; exact e)
theorem rel_ch {b : Int} : ∀ {fs : Fs} {met : List Int} {z : Int}, relF b fs met z = true → ch fs z b
  | [], met, z, h => by rw [relF] at h; exact (show z = b from of_decide_eq_true h)
  | f :: t, met, z, h => by
    obtain ⟨h1, w, h2, _, h4⟩ := rel_cases.1 h
    exact ⟨h1, w, h2, rel_ch h4⟩
theorem prvB_iff {fs : Fs} {a b : Int} (h : a ≠ b) : prvB fs a b = true ↔ (∃ f, fs = [f] ∧ f.K ≠ 1 ∧ othr f a = some b) ∨ (∃ f g, fs = [f, g] ∧ f.K = 1 ∧ g.K = 1 ∧ f.A = a ∧ g.A = b ∧ f.B = g.B) ∨ (2 ≤ fs.length ∧ relF b fs [a] a = true) := by
  match fs with
  | [] =>
    rw [pv_0 (.inl rfl)]
    simp [h]
  | [f] =>
    rw [pv_1 (x := f) (by simp [h]) rfl rfl, decide_eq_true_iff, join_oth h]
    simp
  | [f, g] =>
    by_cases hk : f.K = 1 ∧ g.K = 1
    · rw [pv_2 (x := f) (y := g) (by simp [h]) rfl rfl rfl hk, decide_eq_true_iff]
      constructor
      · rintro ⟨h1, h2, h3⟩; exact .inr (.inl ⟨f, g, rfl, hk.1, hk.2, h1, h2, h3⟩)
      · rintro (⟨_, h1, _⟩ | ⟨f', g', h1, _, _, h2⟩ | ⟨_, h1⟩)
        · simp at h1
        · simp only [List.cons.injEq, and_true] at h1
          obtain ⟨rfl, rfl⟩ := h1
          exact h2
        · have := (rel_cases.1 h1).1
          rw [hk.1] at this; cases this
    · rw [← pv_3 (by simp [h]) (by simp) (fun e => hk (by simpa using e.2))]
      constructor
      · intro h1; exact .inr (.inr ⟨by simp, h1⟩)
      · rintro (⟨_, h1, _⟩ | ⟨f', g', h1, h2, h3, _⟩ | ⟨_, h1⟩)
        · simp at h1
        · simp only [List.cons.injEq, and_true] at h1
          obtain ⟨rfl, rfl⟩ := h1
          exact absurd ⟨h2, h3⟩ hk
        · exact h1
  | f :: g :: k :: t =>
    rw [← pv_3 (by simp [h]) (by simp) (fun e => by have := e.1; simp at this)]
    constructor
    · intro h1; exact .inr (.inr ⟨by simp, h1⟩)
    · rintro (⟨_, h1, _⟩ | ⟨f', g', h1, _⟩ | ⟨_, h1⟩)
      · simp at h1
      · simp at h1
      · exact h1
end Go.Proofs

/- Conflicts: the distances are right, and the chain of relatives is the first of the shortest, in plain Lean. -/
set_option autoImplicit false
set_option linter.unusedVariables false
set_option linter.unusedSimpArgs false
namespace Go.Proofs
open Go.XL
theorem dget_iff {m : Ds} (hn : (m.map Prod.fst).Nodup) {x : Int} {n : Nat} : dget m x = some n ↔ (x, n) ∈ m := by
 constructor
 ·exact dget_mem
 ·intro h
  obtain ⟨i, hi⟩ := List.getElem?_of_mem h
  exact dget_key hn hi
/-- what the search keeps while it is at the i-th person, w, at distance n -/
structure BI (X : Fs) (b : Int) (m : Ds) (c : Nat) : Prop where
 back : ∀ z k, (z, k) ∈ m → (k = 0 ∧ z = b) ∨ ∃ j w f, k = j + 1 ∧ (w, j) ∈ m ∧ f ∈ X ∧ f.K = 3 ∧ othr f w = some z
 top : ∀ p ∈ m, p.2 ≤ c
 sort : m.Pairwise fun p q => p.2 ≤ q.2
/-- the neighbours of w are met, at most one further -/
def NB (X : Fs) (m : Ds) (w : Int) (n : Nat) : Prop := ∀ f ∈ X, ∀ z, f.K = 3 → othr f w = some z → ∃ k, (z, k) ∈ m ∧ k ≤ n + 1
theorem BI.add {X : Fs} {b w : Int} {n : Nat} {m : Ds} {f : Fa} (h : BI X b m (n + 1)) (hf : f ∈ X) (hw : (w, n) ∈ m) : BI X b (addE w n m f) (n + 1) := by
 by_cases hc : ((othr f w).isSome = true ∧ f.K = 3) ∧ dget m ((othr f w).getD 0) = none
 ·rw [addE_y hc.1.1 hc.1.2 hc.2]
  refine ⟨fun z k hz => ?_, fun p hp => ?_, ?_⟩
  ·rcases List.mem_append.1 hz with hz | hz
   ·rcases h.back z k hz with h1 | ⟨j, v, g, h1, h2, h3⟩
    ·exact .inl h1
    ·exact .inr ⟨j, v, g, h1, List.mem_append_left _ h2, h3⟩
   ·simp only [List.mem_singleton, Prod.mk.injEq] at hz
    exact .inr ⟨n, w, f, hz.2, List.mem_append_left _ hw, hf, hc.1.2, by rw [hz.1]; exact getD_some hc.1.1⟩
  ·rcases List.mem_append.1 hp with hp | hp
   ·exact h.top p hp
   ·simp only [List.mem_singleton] at hp; subst hp; exact Nat.le_refl _
  ·refine List.pairwise_append.2 ⟨h.sort, List.pairwise_singleton _ _, fun p hp q hq => ?_⟩
   simp only [List.mem_singleton] at hq; subst hq
   exact h.top p hp
 ·rw [addE_n hc]; exact h
theorem addE_nb {w : Int} {n : Nat} {m : Ds} {f : Fa} {z : Int} (ht : ∀ p ∈ m, p.2 ≤ n + 1) (hk : f.K = 3) (ho : othr f w = some z) : ∃ k, (z, k) ∈ addE w n m f ∧ k ≤ n + 1 := by
  have e1 : (othr f w).getD 0 = z := by rw [ho]; rfl
  cases hd : dget m z with
  | none =>
    rw [addE_y (by rw [ho]; rfl) hk (by rw [e1]; exact hd), e1]
    exact ⟨n + 1, by simp, Nat.le_refl _⟩
  | some k =>
    rw [addE_n (fun h => by rw [e1, hd] at h; cases h.2)]
    exact ⟨k, dget_mem hd, ht _ (dget_mem hd)⟩
theorem addE_sub {w : Int} {n : Nat} {m : Ds} {f : Fa} {p : Int × Nat} (h : p ∈ m) : p ∈ addE w n m f := by
 obtain ⟨t, ht⟩ := addE_pre w n m f
 rw [ht]; exact List.mem_append_left _ h
theorem addN_sub {w : Int} {n : Nat} {l : Fs} {m : Ds} {p : Int × Nat} (h : p ∈ m) : p ∈ addN l w n m := by
 obtain ⟨t, ht⟩ := addN_pre w n l m
 rw [ht]; exact List.mem_append_left _ h
theorem BI.addN {X : Fs} {b w : Int} {n : Nat} : ∀ {l : Fs} {m : Ds}, (∀ f ∈ l, f ∈ X) → BI X b m (n + 1) → (w, n) ∈ m → BI X b (addN l w n m) (n + 1) ∧ ∀ f ∈ l, ∀ z, f.K = 3 → othr f w = some z → ∃ k, (z, k) ∈ Go.Proofs.addN l w n m ∧ k ≤ n + 1
  | [], m, hl, h, hw => ⟨h, fun f hf => by cases hf⟩
  | f :: l, m, hl, h, hw => by
    have h1 := h.add (hl f List.mem_cons_self) hw
    obtain ⟨h2, h3⟩ := BI.addN (l := l) (fun g hg => hl g (List.mem_cons_of_mem _ hg)) h1 (addE_sub hw)
    have e : Go.Proofs.addN (f :: l) w n m = Go.Proofs.addN l w n (addE w n m f) := rfl
    rw [e]
    refine ⟨h2, fun g hg z hk ho => ?_⟩
    rcases List.mem_cons.1 hg with rfl | hg
    · obtain ⟨k, h4, h5⟩ := addE_nb h.top hk ho
      exact ⟨k, addN_sub h4, h5⟩
    · exact h3 g hg z hk ho
/-- the whole search -/
structure BW (X : Fs) (b : Int) (i : Nat) (m : Ds) : Prop where
 start : (b, 0) ∈ m
 back : ∀ z k, (z, k) ∈ m → (k = 0 ∧ z = b) ∨ ∃ j w f, k = j + 1 ∧ (w, j) ∈ m ∧ f ∈ X ∧ f.K = 3 ∧ othr f w = some z
 sort : m.Pairwise fun p q => p.2 ≤ q.2
 near : ∀ q, m[i]? = some q → ∀ p ∈ m, p.2 ≤ q.2 + 1
 nb : ∀ j p, j < i → m[j]? = some p → NB X m p.1 p.2
theorem BW.step {X : Fs} {b w : Int} {n i : Nat} {m : Ds} (h : BW X b i m) (hq : m[i]? = some (w, n)) : BW X b (i + 1) (addN X w n m) := by
 have hw : (w, n) ∈ m := List.mem_of_getElem? hq
 have hb : BI X b m (n + 1) := ⟨h.back, h.near _ hq, h.sort⟩
 obtain ⟨h1, h2⟩ := hb.addN (fun f hf => hf) hw; refine ⟨addN_sub h.start, h1.back, h1.sort, fun q hq2 p hp => ?_, fun j p hj hp => ?_⟩
 ·have h3 := h1.top p hp
  have h4 : n ≤ q.2 := by
   obtain ⟨l1, e1⟩ := List.getElem?_eq_some_iff.1 hq2
   have h5 := addN_get (l := X) (z := w) (n := n) hq
   obtain ⟨l2, e2⟩ := List.getElem?_eq_some_iff.1 h5
   have := List.pairwise_iff_getElem.1 h1.sort i (i + 1) l2 l1 (by omega)
   rw [e1, e2] at this; exact this
  omega
 ·rcases Nat.lt_or_ge j i with hji | hji
  ·have hjm : ∃ q, m[j]? = some q := ⟨_, List.getElem?_eq_getElem (by have := (List.getElem?_eq_some_iff.1 hq).1; omega)⟩
   obtain ⟨q, hqj⟩ := hjm
   have := addN_get (l := X) (z := w) (n := n) hqj
   rw [hp] at this; cases this
   intro f hf z hk ho
   obtain ⟨k, h3, h4⟩ := h.nb j p hji hqj f hf z hk ho
   exact ⟨k, addN_sub h3, h4⟩
  ·have : j = i := by omega
   subst this
   have h3 := addN_get (l := X) (z := w) (n := n) hq
   rw [hp] at h3; cases h3
   exact h2
theorem BW.fin {X : Fs} {b : Int} : ∀ {fuel i : Nat} {m : Ds}, BW X b i m → KD X b m → 2 * X.length + 2 ≤ i + fuel → BW X b (bfs X fuel i m).length (bfs X fuel i m)
  | 0, i, m, h, hk, hf => by
    have hl := hk.len
    exact ⟨h.start, h.back, h.sort, fun q hq => (by rw [List.getElem?_eq_none (Nat.le_refl _)] at hq; cases hq), fun j p hj hp => h.nb j p (by have : (bfs X 0 i m).length = m.length := rfl; omega) hp⟩
  | fuel + 1, i, m, h, hk, hf => by
    cases hq : m[i]? with
    | none =>
      have hi : m.length ≤ i := List.getElem?_eq_none_iff.1 hq
      rw [bfs_end hi]
      exact ⟨h.start, h.back, h.sort, fun q hq => (by rw [List.getElem?_eq_none (Nat.le_refl _)] at hq; cases hq), fun j p hj hp => h.nb j p (by omega) hp⟩
    | some q =>
      obtain ⟨w, n⟩ := q
      rw [bfs_s hq]
      have hk2 := hk.addN hq X.length (Nat.le_refl _)
      rw [List.take_length] at hk2
      exact BW.fin (h.step hq) hk2 (by omega)
theorem near_BW (X : Fs) (b : Int) : BW X b (nearL X b).length (nearL X b) := by
 refine BW.fin ⟨by simp, fun z k h => ?_, by simp, fun q hq p hp => ?_, fun j p hj => absurd hj (by omega)⟩ (KD.start X b) (by omega)
 ·simp only [List.mem_singleton, Prod.mk.injEq] at h; exact .inl ⟨h.2, h.1⟩
 ·simp only [List.mem_singleton] at hp; subst hp; omega
section
variable {X : Fs} {b : Int}
theorem near_0 : dget (nearL X b) b = some 0 := (dget_iff (near_KD X b).nd).2 (near_BW X b).start
theorem near_back {z : Int} {k : Nat} (h : dget (nearL X b) z = some k) : (k = 0 ∧ z = b) ∨ ∃ j w f, k = j + 1 ∧ dget (nearL X b) w = some j ∧ f ∈ X ∧ f.K = 3 ∧ othr f z = some w := by
 rcases (near_BW X b).back z k (dget_mem h) with h1 | ⟨j, w, f, h1, h2, h3, h4, h5⟩
 ·exact .inl h1
 ·exact .inr ⟨j, w, f, h1, (dget_iff (near_KD X b).nd).2 h2, h3, h4, oth_sym h5⟩
theorem near_nb {f : Fa} {z w : Int} {n : Nat} (hf : f ∈ X) (hk : f.K = 3) (ho : othr f z = some w) (h : dget (nearL X b) w = some n) : ∃ k, dget (nearL X b) z = some k ∧ k ≤ n + 1 := by
 obtain ⟨j, hj⟩ := List.getElem?_of_mem (dget_mem h); obtain ⟨k, h1, h2⟩ := (near_BW X b).nb j _ (List.getElem?_eq_some_iff.1 hj).1 hj f hf z hk (oth_sym ho)
 exact ⟨k, (dget_iff (near_KD X b).nd).2 h1, h2⟩
theorem ch_near : ∀ {fs : Fs} {z : Int}, (∀ f ∈ fs, f ∈ X) → ch fs z b → ∃ k, dget (nearL X b) z = some k ∧ k ≤ fs.length
  | [], z, hX, h => by
    have h : z = b := h
    subst h; exact ⟨0, near_0, Nat.le_refl _⟩
  | f :: t, z, hX, h => by
    obtain ⟨h1, w, h2, h3⟩ := h
    obtain ⟨n, h4, h5⟩ := ch_near (fun g hg => hX g (List.mem_cons_of_mem _ hg)) h3
    obtain ⟨k, h6, h7⟩ := near_nb (hX f List.mem_cons_self) h1 h2 h4
    exact ⟨k, h6, by rw [List.length_cons]; omega⟩
theorem okG_iff {n : Nat} {z : Int} {f : Fa} : okG (nearL X b) n z f ↔ f.K = 3 ∧ ∃ w, othr f z = some w ∧ dget (nearL X b) w = some n := by
 unfold okG
 constructor
 ·rintro ⟨⟨⟨h1, h2⟩, h3⟩, h4⟩; refine ⟨h3, _, getD_some (d := 0) h1, ?_⟩
  have := getD_some (d := 0) h2
  rw [this]; congr 1; omega
 ·rintro ⟨h1, w, h2, h3⟩
  have e : (othr f z).getD 0 = w := by rw [h2]; rfl
  rw [e, h3]
  exact ⟨⟨⟨by rw [h2]; rfl, rfl⟩, h1⟩, rfl⟩
/-- the chain that is walked is one, and nobody is met twice -/
theorem relG_ok : ∀ (n : Nat) (z : Int) (met : List Int), dget (nearL X b) z = some n → (∀ y ∈ met, ∃ m, dget (nearL X b) y = some m ∧ n ≤ m) → ∃ fs : Fs, relG X (nearL X b) n z = fs.map Fa.No ∧ (∀ f ∈ fs, f ∈ X) ∧ fs.length = n ∧ relF b fs met z = true
  | 0, z, met, h, hm => by
    rcases near_back h with ⟨_, h1⟩ | ⟨j, _, _, h1, _⟩
    · exact ⟨[], rfl, fun f hf => (by cases hf), rfl, by rw [relF]; exact decide_eq_true h1⟩
    · omega
  | n + 1, z, met, h, hm => by
    rcases near_back h with ⟨h1, _⟩ | ⟨j, w, f, h1, h2, h3, h4, h5⟩
    · omega
    · obtain rfl : n = j := by omega
      cases hf : X.find? (fun f => decide (okG (nearL X b) n z f)) with
      | none =>
        have := List.find?_eq_none.1 hf f h3
        exact absurd (okG_iff.2 ⟨h4, w, h5, h2⟩) (by simpa using this)
      | some g =>
        have hg : okG (nearL X b) n z g := by simpa using List.find?_some hf
        obtain ⟨k1, v, k2, k3⟩ := okG_iff.1 hg
        have hvm : v ∉ met := fun hv => by
          obtain ⟨m, h6, h7⟩ := hm v hv
          rw [k3] at h6; cases h6; omega
        obtain ⟨t, h6, h7, h8, h9⟩ := relG_ok n v (met ++ [v]) k3 (fun y hy => by
          rcases List.mem_append.1 hy with hy | hy
          · obtain ⟨m, h6, h7⟩ := hm y hy; exact ⟨m, h6, by omega⟩
          · simp only [List.mem_singleton] at hy; subst hy; exact ⟨n, k3, Nat.le_refl _⟩)
        refine ⟨g :: t, ?_, fun q hq => ?_, by rw [List.length_cons, h8], rel_cases.2 ⟨k1, v, k2, hvm, h9⟩⟩
        · rw [relG, hf]
          have e : (othr g z).getD 0 = v := by rw [k2]; rfl
          simp only [e, h6, List.map_cons]
        · rcases List.mem_cons.1 hq with rfl | hq
          · exact List.mem_of_find?_eq_some hf
          · exact h7 q hq
/-- no chain of that length comes before it -/
theorem relG_first (hr : riseP X) : ∀ {n : Nat} {fs : Fs} {z : Int}, (∀ f ∈ fs, f ∈ X) → ch fs z b → fs.length = n → dget (nearL X b) z = some n → cmpL (relG X (nearL X b) n z) (fs.map Fa.No) ≤ 0
  | 0, fs, z, hX, hc, hl, hd => by
    obtain rfl := List.length_eq_zero_iff.1 hl
    simp [relG, cmpL]
  | n + 1, fs, z, hX, hc, hl, hd => by
    match fs, hl with
    | f :: t, hl =>
      have hl2 : t.length = n := by simpa using hl
      obtain ⟨h1, w, h2, h3⟩ := hc
      have hft := hX f List.mem_cons_self
      obtain ⟨m, h4, h5⟩ := ch_near (fun g hg => hX g (List.mem_cons_of_mem _ hg)) h3
      obtain ⟨k, h6, h7⟩ := near_nb hft h1 h2 h4
      rw [hd] at h6; cases h6
      obtain rfl : m = n := by omega
      have hok : okG (nearL X b) m z f := okG_iff.2 ⟨h1, w, h2, h4⟩
      cases hf : X.find? (fun f => decide (okG (nearL X b) m z f)) with
      | none => exact absurd hok (by simpa using List.find?_eq_none.1 hf f hft)
      | some g =>
        have hg : okG (nearL X b) m z g := by simpa using List.find?_some hf
        rw [relG, hf]
        simp only [List.map_cons]
        rw [cmpL]
        by_cases he : g = f
        · subst he
          rw [if_pos (sgn_0.2 rfl)]
          have e : (othr g z).getD 0 = w := by rw [h2]; rfl
          rw [e]
          exact relG_first hr (fun q hq => hX q (List.mem_cons_of_mem _ hq)) h3 hl2 h4
        · have hlt : g.No < f.No := by
            obtain ⟨pre, post, hsp, hpre⟩ := List.find?_eq_some_iff_append.1 hf |>.2
            rw [hsp] at hft hr
            have hp := List.pairwise_append.1 hr
            rcases List.mem_append.1 hft with hq | hq
            · have := hpre f hq
              simp at this
              exact absurd hok this
            · rcases List.mem_cons.1 hq with hq | hq
              · exact absurd hq.symm he
              · exact (List.pairwise_cons.1 hp.2.1).1 f hq
          rw [if_neg (fun e => by have := sgn_0.1 e; omega)]
          exact sgn_le.2 (by omega)
end
end Go.Proofs

/- Conflicts: the program's answer and the reference's are both the first path that proves, in plain Lean. -/
set_option autoImplicit false
set_option linter.unusedVariables false
set_option linter.unusedSimpArgs false
namespace Go.Proofs
open Go.XL
/-- the first path that proves, or none does -/
def IsFirst (X : Fs) (a b : Int) (o : Option (List Int)) : Prop := match o with
 | none => ∀ p, prvF X a b p = false
 | some q => prvF X a b q = true ∧ ∀ p, prvF X a b p = true → ordL q p ≤ 0
theorem IsFirst.eq {X : Fs} {a b : Int} {o o' : Option (List Int)} (h : IsFirst X a b o) (h' : IsFirst X a b o') : o = o' := by
  cases o with
  | none =>
    cases o' with
    | none => rfl
    | some q => have := h q; rw [h'.1] at this; cases this
  | some r =>
    cases o' with
    | none => have := h' r; rw [h.1] at this; cases this
    | some q =>
      have h1 := h.2 q h'.1
      have h2 := h'.2 r h.1
      have h3 := ord_anti r q
      rw [ord_0.1 (show ordL r q = 0 by omega)]
section
variable {X : Fs} {a b : Int}
theorem prv_self {p : List Int} : prvF X a a p = true ↔ p = [] := by
  unfold prvF
  cases h : allS (findN X) p with
  | none =>
    simp only
    refine Iff.intro (fun e => by cases e) (fun e => ?_)
    subst e; simp [allS] at h
  | some fs =>
    simp only
    rw [pv_0 (.inr rfl), decide_eq_true_iff]
    have := allS_len h
    constructor
    · intro e; exact List.length_eq_zero_iff.1 (by omega)
    · intro e; subst e; exact ⟨by simpa using this, rfl⟩
theorem paths_iff {p : List Int} : p ∈ pathsL X a b ↔ (∃ f ∈ X, f.K ≠ 1 ∧ othr f a = some b ∧ p = [f.No]) ∨ (∃ f ∈ X, ∃ g ∈ X, f.K = 1 ∧ g.K = 1 ∧ f.A = a ∧ g.A = b ∧ f.B = g.B ∧ p = [f.No, g.No]) := by
 unfold pathsL
 rw [List.mem_flatMap]
 constructor
 ·rintro ⟨f, hf, hp⟩
  by_cases hk : f.K = 1
  ·rw [pathE_club hk, List.mem_flatMap] at hp
   obtain ⟨g, hg, hp⟩ := hp
   unfold clubG at hp
   split at hp
   ·rename_i hc
    simp only [List.mem_singleton] at hp
    exact .inr ⟨f, hf, g, hg, hk, hc.1.1.2, hc.1.1.1, hc.1.2, hc.2.symm, hp⟩
   ·cases hp
  ·by_cases ho : oneP a b f
   ·rw [pathE_one hk ho] at hp
    simp only [List.mem_singleton] at hp
    exact .inl ⟨f, hf, hk, by rw [getD_some (d := 0) ho.1, ho.2], hp⟩
   ·rw [pathE_no hk ho] at hp; cases hp
 ·rintro (⟨f, hf, hk, ho, rfl⟩ | ⟨f, hf, g, hg, h1, h2, h3, h4, h5, rfl⟩)
  ·exact ⟨f, hf, by rw [pathE_one hk ⟨by rw [ho]; rfl, by rw [ho]; rfl⟩]; simp⟩
  ·exact ⟨f, hf, by rw [pathE_club h1, List.mem_flatMap]; exact ⟨g, hg, by rw [clubG_y ⟨⟨⟨h3, h2⟩, h4⟩, h5.symm⟩]; simp⟩⟩
theorem paths_prv (hr : riseP X) (h : a ≠ b) {p : List Int} (hp : p ∈ pathsL X a b) : prvF X a b p = true := by
 rw [prv_iff hr]
 rcases paths_iff.1 hp with ⟨f, hf, hk, ho, rfl⟩ | ⟨f, hf, g, hg, h1, h2, h3, h4, h5, rfl⟩
 ·exact ⟨[f], rfl, fun q hq => by simp only [List.mem_singleton] at hq; subst hq; exact hf, (prvB_iff h).2 (.inl ⟨f, rfl, hk, ho⟩)⟩
 ·refine ⟨[f, g], rfl, fun q hq => ?_, (prvB_iff h).2 (.inr (.inl ⟨f, g, rfl, h1, h2, h3, h4, h5⟩))⟩
  simp only [List.mem_cons, List.not_mem_nil, or_false] at hq
  rcases hq with rfl | rfl <;> assumption
theorem relP_prv (hr : riseP X) (h : a ≠ b) {r : List Int} (hp : relP X a b = some r) : prvF X a b r = true := by
  unfold relP at hp
  split at hp
  · rename_i hs
    have hd := getD_some (d := 0) hs
    cases hp
    obtain ⟨fs, h1, h2, h3, h4⟩ := relG_ok _ a [a] hd (fun y hy => by simp only [List.mem_singleton] at hy; subst hy; exact ⟨_, hd, Nat.le_refl _⟩)
    rw [h1, prv_iff hr]
    refine ⟨fs, rfl, h2, (prvB_iff h).2 ?_⟩
    match fs, h3, h4 with
    | [], h3, h4 => rw [relF] at h4; exact absurd (of_decide_eq_true h4) h
    | [f], h3, h4 =>
      obtain ⟨k1, w, k2, _, k3⟩ := rel_cases.1 h4
      rw [relF] at k3
      refine .inl ⟨f, rfl, by omega, ?_⟩
      rw [k2, of_decide_eq_true k3]
    | f :: g :: t, h3, h4 => exact .inr (.inr ⟨by simp, h4⟩)
  · cases hp
theorem prv_cases (hr : riseP X) (h : a ≠ b) {p : List Int} (hp : prvF X a b p = true) : p ∈ pathsL X a b ∨ ∃ fs : Fs, p = fs.map Fa.No ∧ (∀ f ∈ fs, f ∈ X) ∧ ch fs a b := by
 obtain ⟨fs, h1, h2, h3⟩ := (prv_iff hr).1 hp
 rcases (prvB_iff h).1 h3 with ⟨f, rfl, hk, ho⟩ | ⟨f, g, rfl, k1, k2, k3, k4, k5⟩ | ⟨_, h4⟩
 ·exact .inl (paths_iff.2 (.inl ⟨f, h2 f (by simp), hk, ho, h1⟩))
 ·exact .inl (paths_iff.2 (.inr ⟨f, h2 f (by simp), g, h2 g (by simp), k1, k2, k3, k4, k5, h1⟩))
 ·exact .inr ⟨fs, h1, h2, rel_ch h4⟩
theorem ch_rel (hr : riseP X) {fs : Fs} (hX : ∀ f ∈ fs, f ∈ X) (hc : ch fs a b) : ∃ r, relP X a b = some r ∧ ordL r (fs.map Fa.No) ≤ 0 := by
 obtain ⟨k, hk, hl⟩ := ch_near hX hc
 have he : relP X a b = some (relG X (nearL X b) k a) := by unfold relP; rw [hk]; rfl
 refine ⟨_, he, ?_⟩; obtain ⟨gs, h1, _, h3, _⟩ := relG_ok k a [] hk (fun y hy => by cases hy)
 rcases Nat.lt_or_ge k fs.length with h4 | h4
 ·have : ordL (relG X (nearL X b) k a) (fs.map Fa.No) < 0 := ord_short (by rw [h1, List.length_map, List.length_map, h3]; exact h4)
  omega
 ·obtain rfl : k = fs.length := by omega
  rw [ord_same (by rw [h1, List.length_map, List.length_map, h3])]
  exact relG_first hr hX hc rfl hk
theorem first_P (hr : riseP X) : IsFirst X a b (cnfP X a b) := by
  by_cases h : a = b
  · subst h
    rw [cnfP_0 rfl]
    exact ⟨prv_self.2 rfl, fun p hp => by rw [prv_self.1 hp]; exact Int.le_of_eq (ord_0.2 rfl)⟩
  · by_cases hb : bestP X a b
    · rw [cnfP_1 h hb]
      have hs := getD_some (d := []) hb.1
      refine ⟨relP_prv hr h hs, fun p hp => ?_⟩
      rcases prv_cases hr h hp with h1 | ⟨fs, rfl, h2, h3⟩
      · cases hl : lstO (pathsL X a b) with
        | none => rw [lst_none hl] at h1; cases h1
        | some q =>
          have h4 := lst_best hl p h1
          rcases hb.2 with h5 | h5
          · rw [hl] at h5; cases h5
          · rw [hl] at h5
            exact ord_trans (by have : ordL ((relP X a b).getD []) q < 0 := h5; omega) h4
      · obtain ⟨r, h4, h5⟩ := ch_rel hr h2 h3
        rw [h4]; exact h5
    · rw [cnfP_2 h hb]
      cases hl : lstO (pathsL X a b) with
      | none =>
        intro p
        cases hp : prvF X a b p with
        | false => rfl
        | true =>
          rcases prv_cases hr h hp with h1 | ⟨fs, rfl, h2, h3⟩
          · rw [lst_none hl] at h1; cases h1
          · obtain ⟨r, h4, h5⟩ := ch_rel hr h2 h3
            exact absurd ⟨by rw [h4]; rfl, .inl (by rw [hl]; rfl)⟩ hb
      | some q =>
        refine ⟨paths_prv hr h (lst_mem hl), fun p hp => ?_⟩
        rcases prv_cases hr h hp with h1 | ⟨fs, rfl, h2, h3⟩
        · exact lst_best hl p h1
        · obtain ⟨r, h4, h5⟩ := ch_rel hr h2 h3
          have h6 : ¬ ordL r q < 0 := fun e => hb ⟨by rw [h4]; rfl, .inr (by rw [h4, hl]; exact e)⟩
          exact ord_trans (ord_nlt.1 h6) h5
-- the reference
theorem oth_two {f : Fa} {z w : Int} (h : othr f z = some w) : (f.A = z ∧ f.B = w) ∨ (f.A = w ∧ f.B = z) := by
 unfold othr at h
 split at h
 ·rename_i h1; cases h; exact .inl ⟨h1.symm, rfl⟩
 ·split at h
  ·rename_i h2; cases h; exact .inr ⟨rfl, h2.symm⟩
  ·cases h
theorem rel_nodup : ∀ {fs : Fs} {met : List Int} {z : Int}, relF b fs met z = true → z ∈ met → fs.Nodup ∧ (∀ f ∈ fs, ¬ (f.A ∈ met ∧ f.B ∈ met)) ∧ ∀ f ∈ fs, f.K = 3
  | [], met, z, h, hz => ⟨List.nodup_nil, fun f hf => (by cases hf), fun f hf => (by cases hf)⟩
  | f :: t, met, z, h, hz => by
    obtain ⟨h1, w, h2, h3, h4⟩ := rel_cases.1 h
    obtain ⟨h5, h6, h7⟩ := rel_nodup h4 (by simp)
    have h8 := oth_two h2
    have h9 : f.A ∈ met ++ [w] ∧ f.B ∈ met ++ [w] := by
      rcases h8 with ⟨e1, e2⟩ | ⟨e1, e2⟩
      · exact ⟨by rw [e1]; exact List.mem_append_left _ hz, by rw [e2]; simp⟩
      · exact ⟨by rw [e1]; simp, by rw [e2]; exact List.mem_append_left _ hz⟩
    refine ⟨List.nodup_cons.2 ⟨fun hf => h6 f hf h9, h5⟩, fun g hg hm => ?_, fun g hg => ?_⟩
    · rcases List.mem_cons.1 hg with rfl | hg
      · rcases h8 with ⟨e1, e2⟩ | ⟨e1, e2⟩
        · exact h3 (by rw [← e2]; exact hm.2)
        · exact h3 (by rw [← e1]; exact hm.1)
      · exact h6 g hg ⟨List.mem_append_left _ hm.1, List.mem_append_left _ hm.2⟩
    · rcases List.mem_cons.1 hg with rfl | hg
      · exact h1
      · exact h7 g hg
theorem len_sub : ∀ {l m : Fs}, l.Nodup → (∀ f ∈ l, f ∈ m) → l.length ≤ m.length
  | [], m, _, _ => Nat.zero_le _
  | f :: t, m, hn, hs => by
    rw [List.nodup_cons] at hn
    have hf := hs f List.mem_cons_self
    have := len_sub (l := t) (m := m.erase f) hn.2 (fun g hg => (List.mem_erase_of_ne (fun e => hn.1 (by rw [← e]; exact hg))).2 (hs g (List.mem_cons_of_mem _ hg)))
    rw [List.length_erase_of_mem hf] at this
    have := List.length_pos_of_mem hf
    rw [List.length_cons]; omega
theorem prv_len (hr : riseP X) {p : List Int} (hp : prvF X a b p = true) : p.length ≤ X.length := by
 by_cases h : a = b
 ·subst h; rw [prv_self.1 hp]; exact Nat.zero_le _
 ·obtain ⟨fs, h1, h2, h3⟩ := (prv_iff hr).1 hp
  rw [h1, List.length_map]
  refine len_sub ?_ h2
  rcases (prvB_iff h).1 h3 with ⟨f, rfl, _⟩ | ⟨f, g, rfl, k1, k2, k3, k4, k5⟩ | ⟨_, h4⟩
  ·simp
  ·rw [List.nodup_cons]
   refine ⟨fun e => h ?_, by simp⟩
   simp only [List.mem_singleton] at e
   rw [← k3, ← k4, e]
  ·exact (rel_nodup h4 (by simp)).1
theorem nos_inj (hr : riseP X) {f g : Fa} (hf : f ∈ X) (hg : g ∈ X) (h : f.No = g.No) : f = g := by
 have h1 := find_mem hr hf
 rw [h, find_mem hr hg] at h1
 cases h1; rfl
theorem prv_skip (hr : riseP X) {p s : List Int} {f : Fa} (hf : f ∈ X) (hp : prvF X a b (p ++ f.No :: s) = true) (hl : 2 < (p ++ f.No :: s).length) : ¬ (f.K ≠ 3 ∨ f.No ∈ p) := by
  by_cases h : a = b
  · subst h; exact absurd (prv_self.1 hp) (by simp)
  · obtain ⟨fs, h1, h2, h3⟩ := (prv_iff hr).1 hp
    have hfl : fs.length = (p ++ f.No :: s).length := by rw [h1, List.length_map]
    have h4 : relF b fs [a] a = true := by
      rcases (prvB_iff h).1 h3 with ⟨f, rfl, _⟩ | ⟨f, g, rfl, _⟩ | ⟨_, h4⟩
      · simp at hfl hl; omega
      · rw [← hfl] at hl; simp at hl
      · exact h4
    obtain ⟨h5, _, h7⟩ := rel_nodup h4 (by simp)
    have hno : (fs.map Fa.No).Nodup := by
      have : ∀ {l : Fs}, l.Nodup → (∀ f ∈ l, f ∈ X) → (l.map Fa.No).Nodup := by
        intro l
        induction l with
        | nil => intro _ _; simp
        | cons g t ih =>
          intro hn hs
          rw [List.nodup_cons] at hn
          rw [List.map_cons, List.nodup_cons]
          refine ⟨fun e => ?_, ih hn.2 fun q hq => hs q (List.mem_cons_of_mem _ hq)⟩
          obtain ⟨q, hq, e⟩ := List.mem_map.1 e
          exact hn.1 (by rw [← nos_inj hr (hs q (List.mem_cons_of_mem _ hq)) (hs g List.mem_cons_self) e]; exact hq)
      exact this h5 h2
    rw [← h1] at hno
    rintro (e | e)
    · have : f.No ∈ fs.map Fa.No := by rw [← h1]; simp
      obtain ⟨g, hg, e2⟩ := List.mem_map.1 this
      have := nos_inj hr (h2 g hg) hf e2
      subst this
      exact e (h7 g hg)
    · exact (List.nodup_append.1 hno).2.2 _ e _ List.mem_cons_self rfl
theorem ext_sound {many : Nat} : ∀ {d : Nat} {p : List Int}, (extF X a b many d p).2 = true → ∃ s, (extF X a b many d p).1 = p ++ s ∧ s.length = d ∧ prvF X a b (extF X a b many d p).1 = true
  | 0, p, h => ⟨[], by simp [extF], rfl, h⟩
  | d + 1, p, h => by
    rw [ext_s] at h ⊢
    cases hs : X.findSome? (extG X a b many d p) with
    | none => rw [hs] at h; cases h
    | some q =>
      simp only
      obtain ⟨f, hf, hq⟩ := List.exists_of_findSome?_eq_some hs
      unfold extG at hq
      split at hq
      · cases hq
      · split at hq
        · rename_i h1
          cases hq
          obtain ⟨s, h2, h3, h4⟩ := ext_sound h1
          exact ⟨f.No :: s, by rw [h2]; simp, by rw [List.length_cons, h3], h4⟩
        · cases hq
theorem ext_first (hr : riseP X) {many : Nat} : ∀ {d : Nat} {p s : List Int}, p.length + d = many → s.length = d → prvF X a b (p ++ s) = true → ∃ s', extF X a b many d p = (p ++ s', true) ∧ cmpL s' s ≤ 0
  | 0, p, s, hm, hl, hp => by
    obtain rfl := List.length_eq_zero_iff.1 hl
    rw [List.append_nil] at hp
    exact ⟨[], by rw [extF, hp, List.append_nil], by simp [cmpL]⟩
  | d + 1, p, s, hm, hl, hp => by
    match s, hl with
    | n :: s, hl =>
      have hl2 : s.length = d := by simpa using hl
      obtain ⟨f, hf, rfl⟩ : ∃ f ∈ X, f.No = n := by
        obtain ⟨fs, h1, h2, _⟩ := (prv_iff hr).1 hp
        have : n ∈ fs.map Fa.No := by rw [← h1]; simp
        obtain ⟨f, hf, e⟩ := List.mem_map.1 this
        exact ⟨f, h2 f hf, e⟩
      have hsk : ¬ (2 < many ∧ (f.K ≠ 3 ∨ f.No ∈ p)) := fun e => prv_skip hr hf hp (by rw [List.length_append, List.length_cons]; have := e.1; omega) e.2
      obtain ⟨s1, h1, h2⟩ := ext_first hr (many := many) (d := d) (p := p ++ [f.No]) (s := s) (by simp; omega) hl2 (by rw [List.append_assoc]; exact hp)
      have hfg : extG X a b many d p f = some (p ++ [f.No] ++ s1) := by rw [extG_y hsk (by rw [h1]), h1]
      cases hs : X.findSome? (extG X a b many d p) with
      | none => rw [List.findSome?_eq_none_iff.1 hs f hf] at hfg; cases hfg
      | some q =>
        obtain ⟨l1, g, l2, hX, hg, hn⟩ := List.findSome?_eq_some_iff.1 hs
        rw [ext_s, hs]
        have hg0 := hg
        unfold extG at hg
        split at hg
        · cases hg
        · split at hg
          · rename_i h3
            cases hg
            obtain ⟨s2, h4, h5, _⟩ := ext_sound h3
            refine ⟨g.No :: s2, by rw [h4]; simp, ?_⟩
            rw [cmpL]
            by_cases he : g = f
            · subst he
              rw [if_pos (sgn_0.2 rfl)]
              rw [hfg, h4] at hg0
              have := List.append_cancel_left (Option.some.inj hg0)
              rw [← this]; exact h2
            · have hlt : g.No < f.No := by
                rw [hX] at hf hr
                have hpw := List.pairwise_append.1 hr
                rcases List.mem_append.1 hf with hq | hq
                · rw [hn f hq] at hfg; cases hfg
                · rcases List.mem_cons.1 hq with hq | hq
                  · exact absurd hq.symm he
                  · exact (List.pairwise_cons.1 hpw.2.1).1 f hq
              rw [if_neg (fun e => by have := sgn_0.1 e; omega)]
              exact sgn_le.2 (by omega)
          · cases hg
theorem first_R (hr : riseP X) : IsFirst X a b (srcF X a b) := by
  have hit : ∀ p, prvF X a b p = true → ∃ s, tryF X a b p.length = some s ∧ cmpL s p ≤ 0 := by
    intro p hp
    obtain ⟨s, h1, h2⟩ := ext_first hr (many := p.length) (d := p.length) (p := []) (s := p) (by simp) rfl hp
    refine ⟨s, ?_, h2⟩
    unfold tryF
    rw [h1]; simp
  unfold srcF
  cases hs : (List.range (X.length + 1)).findSome? (tryF X a b) with
  | none =>
    intro p
    cases hp : prvF X a b p with
    | false => rfl
    | true =>
      obtain ⟨s, h1, _⟩ := hit p hp
      rw [List.findSome?_eq_none_iff.1 hs p.length (List.mem_range.2 (by have := prv_len hr hp; omega))] at h1
      cases h1
  | some q =>
    obtain ⟨l1, m, l2, hR, hm, hn⟩ := List.findSome?_eq_some_iff.1 hs
    have hq : (extF X a b m m []).2 = true ∧ (extF X a b m m []).1 = q := by
      unfold tryF at hm
      split at hm
      · rename_i h1; cases hm; exact ⟨h1, rfl⟩
      · cases hm
    obtain ⟨s, h1, h2, h3⟩ := ext_sound hq.1
    rw [hq.2] at h1 h3
    rw [List.nil_append] at h1
    subst h1
    refine ⟨h3, fun p hp => ?_⟩
    obtain ⟨s, h4, h5⟩ := hit p hp
    rcases Nat.lt_trichotomy p.length m with h6 | h6 | h6
    · have hmem : p.length ∈ List.range (X.length + 1) := List.mem_range.2 (by have := prv_len hr hp; omega)
      have hpw : (List.range (X.length + 1)).Pairwise (· < ·) := List.pairwise_lt_range
      rw [hR] at hmem hpw
      rcases List.mem_append.1 hmem with h7 | h7
      · rw [hn _ h7] at h4; cases h4
      · rcases List.mem_cons.1 h7 with h7 | h7
        · omega
        · have := (List.pairwise_cons.1 (List.pairwise_append.1 hpw).2.1).1 _ h7
          omega
    · rw [h6, hm] at h4
      cases h4
      rw [ord_same (by omega)]; exact h5
    · have : ordL q p < 0 := ord_short (by omega)
      omega
theorem src_eq (hr : riseP X) : srcF X a b = cnfP X a b := (first_R hr).eq (first_P hr)
end
end Go.Proofs
