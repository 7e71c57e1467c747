/- The law SharesHidden: it returns true, whatever the input, and what it was handed reads as before. No condition. -/
import Derived.Test.YtdiknopliedddaaRaO2
import Derived.Test.YtdiknopliedddaaRaY
import Derived.Test.YtdiknopliedddaaXLn
import Derived.Test.YtdiknopliedddaaRows
import Derived.WalkKit
import Derived.ProofKit
import Derived.OpenShut
import Derived.ShutString
import Derived.ChangeOld
import Derived.Below
set_option autoImplicit false
set_option linter.unusedVariables false
set_option linter.unusedSimpArgs false
namespace Go.Proofs.Ytdiknopliedddaa
open Go.XL



set_option maxRecDepth 100000 in
set_option maxHeartbeats 1600000 in
theorem sharesHidden_fn (s t : Int) (a : Option Addr) (c : Nat) (l : List Int) (n bits : Int) (H : Hp) (hs : SlR (intR .i64) H a c l) : FnC Try.prog 11 #[.int .i64 s, .int .i64 t, .slice a l.length c, .int .i64 n, .int .u32 bits] H [] (RetR fun v _ _ => v = .bool true) := by
  refine FnC.intro (args := [.int .i64 s, .int .i64 t, .slice a l.length c, .int .i64 n, .int .u32 bits]) Try.func11 rfl rfl Try.ntmps11 rfl rfl rfl fun G rest => ?_
  refine XC.seq ?_
  refine XC.region ?_
  refine XO.assign rfl rfl ?_
  refine XO.nil ?_
  refine XC.seq2 ?_
  refine XC.seq ?_
  refine XC.seq ?_
  refine XC.region ?_
  refine XO.callV rfl (sane33 _) rfl ?_
  refine XO.notB rfl rfl ?_
  refine XO.nil ?_
  refine XC.seq2 ?_
  refine XC.condF rfl (rfl) ?_
  refine XC.skip ?_
  refine XC.seq2 ?_
  refine XC.seq ?_
  refine XC.region ?_
  refine XO.move rfl rfl ?_
  refine XO.move rfl rfl ?_
  refine XO.move rfl rfl ?_
  refine XO.callH rfl (deal_fn _ _ _ _ _ _ hs) rfl ?_
  rintro _ HD27 hleD27 ⟨aD27, cD27, rfl, hsD27⟩
  replace hs := hs.mono hleD27
  refine XO.move rfl rfl ?_
  refine XO.extract rfl rfl rfl ?_
  refine XO.extract rfl rfl rfl ?_
  refine XO.assign rfl rfl ?_
  refine XO.assign rfl rfl ?_
  refine XO.nil ?_
  refine XC.seq2 ?_
  refine XC.seq ?_
  refine XC.seq ?_
  refine XC.region ?_
  refine XO.move rfl rfl ?_
  refine XO.neq rfl rfl rfl ?_
  refine XO.move rfl rfl ?_
  refine XO.guardC rfl rfl rfl rfl (fun g3 => ?_) (fun g3 => ?_)
  · have g3p := of_decide_eq_false g3
    refine XO.move rfl rfl ?_
    refine XO.guardT rfl rfl (g3) rfl ?_
    refine XO.lss rfl rfl rfl ?_
    refine XO.pickF rfl (g3) rfl rfl ?_
    refine XO.move rfl rfl ?_
    refine XO.guardC rfl rfl rfl rfl (fun g4 => ?_) (fun g4 => ?_)
    · have g4p := of_decide_eq_false g4
      refine XO.move rfl rfl ?_
      refine XO.guardT rfl rfl (g4) rfl ?_
      refine XO.geq rfl rfl rfl ?_
      refine XO.pickF rfl (g4) rfl rfl ?_
      refine XO.nil ?_
      refine XC.seq2 ?_
      refine XC.cond rfl (fun c1_5 => ?_) (fun c1_5 => ?_)
      · refine XC.seq ?_
        refine XC.region ?_
        refine XO.assign rfl rfl ?_
        refine XO.nil ?_
        refine XC.seq2 ?_
        refine XC.ret ?_
        refine seqX_ret ?_
        refine ⟨rfl, _, [], rfl, (by repeat (first | exact List.Sublist.refl _ | apply List.Sublist.cons)), RetR.mk ?_⟩
        rfl
      · have hE : dealE s l n = 0 := by omega
        have hDB := dealE_ok hE
        obtain ⟨m, rfl⟩ : ∃ m : Nat, n = m := ⟨n.toNat, by unfold DB at hDB; omega⟩
        have e2 := (deal_ok hDB).2
        unfold DB at hDB
        refine XC.skip ?_
        refine XC.seq2 ?_
        refine XC.seq ?_
        refine XC.seq ?_
        refine XC.region ?_
        refine XO.move rfl rfl ?_
        refine XO.lss rfl rfl rfl ?_
        refine XO.move rfl rfl ?_
        refine XO.guardT rfl rfl (decide_eq_false (by omega)) rfl ?_
        refine XO.move rfl rfl ?_
        refine XO.guardT rfl rfl (decide_eq_false (by omega)) rfl ?_
        refine XO.gtr rfl rfl rfl ?_
        refine XO.pickF rfl (decide_eq_false (by omega)) rfl rfl ?_
        refine XO.move rfl rfl ?_
        refine XO.guardT rfl rfl (decide_eq_false (by omega)) rfl ?_
        refine XO.move rfl rfl ?_
        refine XO.guardT rfl rfl (decide_eq_false (by omega)) rfl ?_
        refine XO.lenS (ts := #[]) rfl Try.underlying42 rfl ?_
        refine XO.guardT rfl rfl (decide_eq_false (by omega)) rfl ?_
        refine XO.move rfl rfl ?_
        refine XO.guardT rfl rfl (decide_eq_false (by omega)) rfl ?_
        refine XO.neq rfl rfl rfl ?_
        refine XO.pickF rfl (decide_eq_false (by omega)) rfl rfl ?_
        refine XO.nil ?_
        refine XC.seq2 ?_
        refine XC.condF rfl (decide_eq_false (by rw [e2, dealL_len]; omega)) ?_
        refine XC.skip ?_
        refine XC.seq2 ?_
        refine XC.seq ?_
        refine XC.region ?_
        refine XO.move rfl rfl ?_
        refine XO.move rfl rfl ?_
        refine XO.move rfl rfl ?_
        refine XO.lenS (ts := #[]) rfl Try.underlying29 rfl ?_
        refine XO.callH rfl (picked_fn _ _ _ _ _ _ _ hsD27 (by rw [e2, dealL_len]; omega)) rfl ?_
        rintro _ HP hleP ⟨xP, aP, cP, rfl, hsP, hPick, hPm⟩
        rw [e2] at hPick
        have hmem : ∀ p ∈ xP, ∃ q : Nat, q < m ∧ p = ⟨(q : Int) + 1, valP ((q : Int) + 1) (s :: l) 0 1⟩ := fun p hp => dealL_mem (pick_mem hPick p hp)
        have hrange : ∀ p ∈ xP, 1 ≤ p.X ∧ p.X ≤ m := fun p hp => by obtain ⟨q, hq, rfl⟩ := hmem p hp; exact ⟨by show 1 ≤ (q : Int) + 1; omega, by show (q : Int) + 1 ≤ m; omega⟩
        replace hs := hs.mono hleP
        replace hsD27 := hsD27.mono hleP
        refine XO.assign rfl rfl ?_
        refine XO.nil ?_
        refine XC.seq2 ?_
        refine XC.seq ?_
        refine XC.region ?_
        refine XO.assign rfl rfl ?_
        refine XO.nil ?_
        refine XC.seq2 ?_
        refine XC.seq ?_
        refine XC.seq ?_
        refine XC.region ?_
        refine XO.move rfl rfl ?_
        refine XO.lenS (ts := #[]) rfl Try.underlying42 rfl ?_
        refine XO.move rfl rfl ?_
        refine XO.nil ?_
        refine XC.seq2 ?_
        refine XC.block ?_
        refine XC.keep [14, 59, 0, 1, 2, 3, 13, 57, 58] rfl ?_
        refine XC.open0 0 ?_
        refine XC.loop (base := [(0, _), (1, _), (2, _), (3, _), (13, _), (57, _), (58, _)]) (fun ζ : Nat × ((Nat × SObj) × Option Addr × Nat) => [(14, .slice ζ.2.2.1 ((xP.take (ζ.1)).map Pt.X).length ζ.2.2.2), (59, .int .i64 (ζ.1 : Nat))]) (fun ζ Hl own => ζ.1 ≤ xP.length ∧ ζ.2.1 :: rest = own ∧ Acc (intR .i64) 3 Hl ζ.2.1 ζ.2.2.1 ζ.2.2.2 ((xP.take (ζ.1)).map Pt.X)) (fun ζ => xP.length - ζ.1) (0, ((0, .nothing), none, 0)) (prov_cons (rfl) (prov_cons (rfl) (prov_cons (rfl) (prov_cons (rfl) (prov_cons (rfl) (prov_cons (rfl) (prov_cons (rfl) (prov_cons (rfl) (prov_cons (rfl) prov_nil))))))))) (by repeat (first | exact List.Sublist.refl _ | apply List.Sublist.cons_cons | apply List.Sublist.cons)) ⟨Nat.zero_le _, rfl, Acc.nil _ _ _ _⟩ ?_
        rintro ⟨k, ⟨po, ao, co⟩⟩ Hl0 _ hle0 ⟨hkk, rfl, hacco⟩
        replace hs := hs.mono hle0
        replace hsD27 := hsD27.mono hle0
        replace hsP := hsP.mono hle0
        try dsimp only at hkk hacco ⊢
        refine XC.seq ?_
        refine XC.region ?_
        refine XO.lss rfl rfl rfl ?_
        refine XO.nil ?_
        refine XC.seq2 ?_
        refine XC.seq ?_
        refine XC.cond rfl (fun c3_7 => ?_) (fun c3_7 => ?_)
        · refine XC.skip ?_
          refine XC.seq2 ?_
          refine XC.seq ?_
          refine XC.block ?_
          refine XC.seq ?_
          refine XC.region ?_
          refine XO.indexN rfl hsP rfl Try.underlying42 ty_52 (by omega) rfl ?_
          rintro eb61 eo61 _ x61 hx61 rfl hp61
          have hr61 := hrange x61 (List.mem_of_getElem? hx61)
          refine XO.loadH rfl (by assumption) ty_52 rfl rfl rfl ?_
          refine XO.alloc ze_52 rfl (fun b16 => ?_)
          refine XO.storeO 0 rfl rfl rfl rfl ty_52 rfl rfl rfl rfl rfl ?_
          refine XO.nil ?_
          refine XC.seq2 ?_
          refine XC.seq ?_
          refine XC.seq ?_
          refine XC.region ?_
          refine XO.fieldAddr rfl fa_52_0 rfl ?_
          refine XO.loadO 0 rfl rfl ty_3 rfl rfl rfl ?_
          refine XO.lss rfl rfl rfl ?_
          refine XO.move rfl rfl ?_
          refine XO.guardT rfl rfl (decide_eq_false (by omega)) rfl ?_
          refine XO.fieldAddr rfl fa_52_0 rfl ?_
          refine XO.guardT rfl rfl (decide_eq_false (by omega)) rfl ?_
          refine XO.loadO 0 rfl rfl ty_3 rfl rfl rfl ?_
          refine XO.guardT rfl rfl (decide_eq_false (by omega)) rfl ?_
          refine XO.move rfl rfl ?_
          refine XO.guardT rfl rfl (decide_eq_false (by omega)) rfl ?_
          refine XO.gtr rfl rfl rfl ?_
          refine XO.pickF rfl (decide_eq_false (by omega)) rfl rfl ?_
          refine XO.nil ?_
          refine XC.seq2 ?_
          refine XC.condF rfl (decide_eq_false (by omega)) ?_
          refine XC.skip ?_
          refine XC.seq2 ?_
          refine XC.region ?_
          refine XO.move rfl rfl ?_
          refine XO.fieldAddr rfl fa_52_0 rfl ?_
          refine XO.loadO 0 rfl rfl ty_3 rfl rfl rfl ?_
          refine XO.buildSlice rfl Try.underlying29 ty_3 ze_3 rfl rfl rfl (fun b75 => ?_)
          refine XO.publish 0 rfl rfl rfl (fun HP75 oP75 hleP75 hbP75 hoP75 => ?_)
          have hsl75 := SlR.lit (ρ := (intR .i64)) (l := [_]) hbP75 hoP75 (RowsR.one1 rfl)
          replace hs := hs.mono hleP75
          replace hsD27 := hsD27.mono hleP75
          replace hsP := hsP.mono hleP75
          replace hacco := hacco.mono hleP75
          replace hp61 := hp61.mono hleP75
          replace hle0 := hle0.trans hleP75
          refine XO.appendA 1 rfl rfl hacco rfl rfl hsl75 rfl Try.underlying29 ty_3 ze_3 rfl by_3 (by simp only [List.length_map, List.length_take, List.length_singleton]; omega) rfl (fun p76 a76 c76 hacc76 => ?_)
          refine XO.assign rfl rfl ?_
          refine XO.nil ?_
          refine blockN ?_
          refine XC.seq2 ?_
          refine XC.region ?_
          refine XO.add rfl rfl (wrap_i64 (by omega) (by omega)) rfl ?_
          refine XO.move rfl rfl ?_
          refine XO.nil ?_
          refine loop_next ((k + 1, (p76, a76, c76))) (by show xP.length - (k + 1) < xP.length - k; omega) (prov_cons (by first | rfl | (rw [map_take_snoc hx61]; rfl)) (prov_cons (rfl) (prov_cons (rfl) (prov_cons (rfl) (prov_cons (rfl) (prov_cons (rfl) (prov_cons (rfl) (prov_cons (rfl) (prov_cons (rfl) prov_nil))))))))) (⟨by show k + 1 ≤ xP.length; omega, rfl, by first | (exact hacc76) | (rw [map_take_snoc hx61]; exact hacc76)⟩) (by repeat (first | exact List.Sublist.refl _ | apply List.Sublist.cons_cons | apply List.Sublist.cons)) (hle0)
        · obtain rfl : k = xP.length := by omega
          simp only [List.take_length] at hacco ⊢
          refine XC.exit ?_
          refine seqX_exit ?_
          refine loopX_exit ?_
          refine blockHit rfl ?_
          refine XC.seq2 ?_
          refine XC.seq ?_
          refine XC.region ?_
          refine XO.move rfl rfl ?_
          refine XO.move rfl rfl ?_
          refine XO.move rfl rfl ?_
          refine XO.move rfl rfl ?_
          refine XO.move rfl rfl ?_
          refine XO.publishA 0 rfl hacco rfl (fun HQ11 hleQ11 hsQ11 => ?_)
          replace hs := hs.mono hleQ11
          replace hsD27 := hsD27.mono hleQ11
          replace hsP := hsP.mono hleQ11
          replace hle0 := hle0.trans hleQ11
          refine XO.callH rfl (other_fn _ _ _ _ _ _ _ _ _ hs hsQ11 (by omega) (by rw [List.length_map]; omega) (by omega) (by omega)) rfl ?_
          rintro _ HO hleO ⟨aO, cO, rfl, hsO⟩
          replace hs := hs.mono hleO
          replace hsD27 := hsD27.mono hleO
          replace hsP := hsP.mono hleO
          replace hsQ11 := hsQ11.mono hleO
          replace hle0 := hle0.trans hleO
          refine XO.move rfl rfl ?_
          refine XO.callH rfl (deal_fn _ _ _ _ _ _ hsO) rfl ?_
          rintro _ HD86 hleD86 ⟨aD86, cD86, rfl, hsD86⟩
          replace hs := hs.mono hleD86
          replace hsD27 := hsD27.mono hleD86
          replace hsP := hsP.mono hleD86
          replace hsQ11 := hsQ11.mono hleD86
          replace hsO := hsO.mono hleD86
          replace hle0 := hle0.trans hleD86
          obtain ⟨e3, e4⟩ := deal_ok (s := t) (more := othL s t l (xP.map Pt.X)) (n := m) (by unfold DB; rw [oth_len]; omega)
          have hlenY : (dealR t (othL s t l (xP.map Pt.X)) (m : Int)).length = m := by rw [e4, dealL_len]
          refine XO.move rfl rfl ?_
          refine XO.extract rfl rfl rfl ?_
          refine XO.extract rfl rfl rfl ?_
          refine XO.assign rfl rfl ?_
          refine XO.assign rfl rfl ?_
          refine XO.nil ?_
          refine XC.seq2 ?_
          refine XC.seq ?_
          refine XC.seq ?_
          refine XC.region ?_
          refine XO.move rfl rfl ?_
          refine XO.neq rfl rfl rfl ?_
          refine XO.move rfl rfl ?_
          refine XO.guardT rfl rfl (decide_eq_false (by rw [e3]; simp)) rfl ?_
          refine XO.move rfl rfl ?_
          refine XO.guardT rfl rfl (decide_eq_false (by rw [e3]; simp)) rfl ?_
          refine XO.lenS (ts := #[]) rfl Try.underlying42 rfl ?_
          refine XO.guardT rfl rfl (decide_eq_false (by rw [e3]; simp)) rfl ?_
          refine XO.move rfl rfl ?_
          refine XO.guardT rfl rfl (decide_eq_false (by rw [e3]; simp)) rfl ?_
          refine XO.neq rfl rfl rfl ?_
          refine XO.pickF rfl (decide_eq_false (by rw [e3]; simp)) rfl rfl ?_
          refine XO.nil ?_
          refine XC.seq2 ?_
          refine XC.condF rfl (decide_eq_false (by rw [e4, dealL_len]; omega)) ?_
          refine XC.skip ?_
          refine XC.seq2 ?_
          refine XC.seq ?_
          refine XC.seq ?_
          refine XC.region ?_
          refine XO.move rfl rfl ?_
          refine XO.lenS (ts := #[]) rfl Try.underlying42 rfl ?_
          refine XO.move rfl rfl ?_
          refine XO.nil ?_
          refine XC.seq2 ?_
          refine XC.block ?_
          refine XC.keep [99, 17, 97, 98] rfl ?_
          refine XC.loop (base := [(17, _), (97, _), (98, _)]) (fun ζ : Nat => [(99, .int .i64 (ζ : Nat))]) (fun ζ Hl own => ζ ≤ xP.length ∧ rest = own) (fun ζ => xP.length - ζ) 0 (prov_cons (rfl) (prov_cons (rfl) (prov_cons (rfl) (prov_cons (rfl) prov_nil)))) (by repeat (first | exact List.Sublist.refl _ | apply List.Sublist.cons_cons | apply List.Sublist.cons)) ⟨Nat.zero_le _, rfl⟩ ?_
          rintro k Hl1 _ hle1 ⟨hkk, rfl⟩
          replace hs := hs.mono hle1
          replace hsD27 := hsD27.mono hle1
          replace hsP := hsP.mono hle1
          replace hsQ11 := hsQ11.mono hle1
          replace hsO := hsO.mono hle1
          replace hsD86 := hsD86.mono hle1
          replace hle0 := hle0.trans hle1
          try dsimp only at ⊢
          refine XC.seq ?_
          refine XC.region ?_
          refine XO.lss rfl rfl rfl ?_
          refine XO.nil ?_
          refine XC.seq2 ?_
          refine XC.seq ?_
          refine XC.cond rfl (fun c6_13 => ?_) (fun c6_13 => ?_)
          · refine XC.skip ?_
            refine XC.seq2 ?_
            refine XC.seq ?_
            refine XC.block ?_
            refine XC.seq ?_
            refine XC.region ?_
            refine XO.indexN rfl hsP rfl Try.underlying42 ty_52 (by omega) rfl ?_
            rintro eb101 eo101 _ x101 hx101 rfl hp101
            obtain ⟨q, hq, hxq⟩ := hmem x101 (List.mem_of_getElem? hx101)
            have hr101 := hrange x101 (List.mem_of_getElem? hx101)
            have hX : x101.X = (q : Int) + 1 := by rw [hxq]
            refine XO.loadH rfl (by assumption) ty_52 rfl rfl rfl ?_
            refine XO.alloc ze_52 rfl (fun b20 => ?_)
            refine XO.storeO 0 rfl rfl rfl rfl ty_52 rfl rfl rfl rfl rfl ?_
            refine XO.nil ?_
            refine XC.seq2 ?_
            refine XC.seq ?_
            refine XC.keep [17, 20, 97, 98, 99] rfl ?_
            obtain ⟨bEY, oEY, rfl⟩ := hsD86.addr (by omega)
            obtain ⟨_, xY, hxY, rfl, hpY⟩ := hsD86.elem (q) (by omega)
            have hq' : (x101.X - 1).toNat = q := by omega
            rw [← hq'] at hpY
            have hYv : xY = ⟨(q : Int) + 1, valP ((q : Int) + 1) (t :: othL s t l (xP.map Pt.X)) 0 1⟩ := Option.some.inj (hxY.symm.trans (by rw [e4]; exact dealL_get hq))
            have hsame : xY.X = x101.X ∧ xY.Y = x101.Y := by
              rw [hYv, hxq]
              refine ⟨rfl, ?_⟩
              show valP _ _ _ _ = valP _ _ _ _
              rw [valP_eq, valP_eq]
              exact other_val (by rw [List.length_map]; omega) (fun p hp => by obtain ⟨y, hy, rfl⟩ := List.mem_map.1 hp; have := hrange y hy; omega) (List.mem_map.2 ⟨x101, List.mem_of_getElem? hx101, hX⟩)
            apply XC.draw 7 [eqF _, eqF _, eqF _, eqF _, eqF _, eqF _, eqF _] follows (by kernel_rfl) (by kernel_rfl) ⟨eqF_mono _, eqF_mono _, eqF_mono _, eqF_mono _, eqF_mono _, eqF_mono _, eqF_mono _, trivial⟩ ?steps15 ?tail15
            case steps15 =>
              refine stepsK_cons rfl ?_ ?_
              · intro X
                refine withPreds_nil rfl ?_
                refine XO.move rfl rfl ?_
                refine XO.nil ?_
                exact stepQ_ok rfl (rfl)
              refine stepsK_cons rfl ?_ ?_
              · intro X
                refine withPreds_nil rfl ?_
                refine XO.fieldAddr rfl fa_52_0 rfl ?_
                refine XO.nil ?_
                exact stepQ_ok rfl (rfl)
              refine stepsK_cons rfl ?_ ?_
              · intro X
                refine withPreds_cons rfl rfl ?_
                rintro _ rfl
                refine withPreds_nil rfl ?_
                refine XO.loadO 0 rfl rfl ty_3 rfl rfl rfl ?_
                refine XO.nil ?_
                exact stepQ_ok rfl (rfl)
              refine stepsK_cons rfl ?_ ?_
              · intro X
                refine withPreds_cons rfl rfl ?_
                rintro _ rfl
                refine withPreds_nil rfl ?_
                refine XO.sub rfl rfl (wrap_i64 (by omega) (by omega)) rfl ?_
                refine XO.nil ?_
                exact stepQ_ok rfl (rfl)
              refine stepsK_cons rfl ?_ ?_
              · intro X
                refine withPreds_cons rfl rfl ?_
                rintro _ rfl
                refine withPreds_cons rfl rfl ?_
                rintro _ rfl
                refine withPreds_nil rfl ?_
                refine XO.indexE rfl rfl Try.underlying42 ty_52 (by omega) (by omega) rfl ?_
                refine XO.nil ?_
                exact stepQ_ok rfl (rfl)
              refine stepsK_cons rfl ?_ ?_
              · intro X
                refine withPreds_cons rfl rfl ?_
                rintro _ rfl
                refine withPreds_nil rfl ?_
                refine XO.loadH rfl (by assumption) ty_52 rfl rfl rfl ?_
                refine XO.nil ?_
                exact stepQ_ok rfl (rfl)
              refine stepsK_cons rfl ?_ ?_
              · intro X
                refine withPreds_nil rfl ?_
                refine XO.loadO 0 rfl rfl ty_52 rfl rfl rfl ?_
                refine XO.nil ?_
                exact stepQ_ok rfl (rfl)
              exact stepsD_end rfl
            case tail15 =>
              refine withPreds_cons rfl rfl ?_
              rintro _ rfl
              refine withPreds_cons rfl rfl ?_
              rintro _ rfl
              refine withPreds_cons rfl rfl ?_
              rintro _ rfl
              refine withPreds_cons rfl rfl ?_
              rintro _ rfl
              refine withPreds_cons rfl rfl ?_
              rintro _ rfl
              refine withPreds_cons rfl rfl ?_
              rintro _ rfl
              refine withPreds_cons rfl rfl ?_
              rintro _ rfl
              refine withPreds_nil rfl ?_
              refine XO.neqS2 (f0 := _) (f1 := _) rfl rfl Try.underlying52 (by kernel_rfl) (by kernel_rfl) Try.underlying3 Try.underlying3 ⟨rfl, rfl, by decide, by decide⟩ rfl ?_
              refine XO.nil ?_
              refine XC.seq2 ?_
              refine XC.condF rfl (decide_eq_false (fun h => h hsame)) ?_
              refine XC.skip ?_
              refine blockN ?_
              refine XC.seq2 ?_
              refine XC.region ?_
              refine XO.add rfl rfl (wrap_i64 (by omega) (by omega)) rfl ?_
              refine XO.move rfl rfl ?_
              refine XO.nil ?_
              refine loop_next (k + 1) (by show xP.length - (k + 1) < xP.length - k; omega) (prov_cons (rfl) (prov_cons (rfl) (prov_cons (rfl) (prov_cons (rfl) prov_nil)))) (⟨by show k + 1 ≤ xP.length; omega, rfl⟩) (by repeat (first | exact List.Sublist.refl _ | apply List.Sublist.cons_cons | apply List.Sublist.cons)) (hle1)
          · obtain rfl : k = xP.length := by omega
            refine XC.exit ?_
            refine seqX_exit ?_
            refine loopX_exit ?_
            refine blockHit rfl ?_
            refine XC.seq2 ?_
            refine XC.seq ?_
            refine XC.region ?_
            refine XO.assign rfl rfl ?_
            refine XO.nil ?_
            refine XC.seq2 ?_
            refine XC.ret ?_
            refine ⟨rfl, _, [], rfl, (by repeat (first | exact List.Sublist.refl _ | apply List.Sublist.cons)), RetR.mk ?_⟩
            rfl
    · have g4p := of_decide_eq_true g4
      refine XO.guardF rfl rfl (g4) rfl rfl ?_
      refine XO.pickT rfl (g4) rfl rfl ?_
      refine XO.nil ?_
      refine XC.seq2 ?_
      refine XC.condT rfl (rfl) ?_
      refine XC.seq ?_
      refine XC.region ?_
      refine XO.assign rfl rfl ?_
      refine XO.nil ?_
      refine XC.seq2 ?_
      refine XC.ret ?_
      refine seqX_ret ?_
      refine ⟨rfl, _, [], rfl, (by repeat (first | exact List.Sublist.refl _ | apply List.Sublist.cons)), RetR.mk ?_⟩
      rfl
  · have g3p := of_decide_eq_true g3
    refine XO.guardF rfl rfl (g3) rfl rfl ?_
    refine XO.pickT rfl (g3) rfl rfl ?_
    refine XO.move rfl rfl ?_
    refine XO.guardF rfl rfl (rfl) rfl rfl ?_
    refine XO.guardF rfl rfl (rfl) rfl rfl ?_
    refine XO.pickT rfl (rfl) rfl rfl ?_
    refine XO.nil ?_
    refine XC.seq2 ?_
    refine XC.condT rfl (rfl) ?_
    refine XC.seq ?_
    refine XC.region ?_
    refine XO.assign rfl rfl ?_
    refine XO.nil ?_
    refine XC.seq2 ?_
    refine XC.ret ?_
    refine seqX_ret ?_
    refine ⟨rfl, _, [], rfl, (by repeat (first | exact List.Sublist.refl _ | apply List.Sublist.cons)), RetR.mk ?_⟩
    rfl

namespace sharesHidden
open Go.ChangeShapes Go.WideShapes Go.ChangeAt Go.RowKit
open Go.ChangeMaps (open_string shut_string)
theorem own : ownKnob Try.prog.godebug = none := by kernel_rfl
theorem laidOut : laidOutB Try.prog = true := by kernel_rfl
set_option maxRecDepth 100000 in
theorem lifted (os : Os) (started : os.Started) (H : Type) (enc : TypeId × Value → H) :
    ReturnsInHanded {} Try.checked os 11 .any (Rows.sharesHiddenSpec.pre6 enc Try.prog Try.f11 Rows.sharesHiddenRow.domain false) (Rows.sharesHiddenSpec.post enc Try.prog Try.f11 false true false false) := by
  refine returnsInHanded_of_change (C := Try.checked) own started (by kernel_rfl) Try.func11
    (ChangeSpec.witness6 (enc := enc) (C := Try.checked) false ⟨#[], #[.int .i64 0, .int .i64 0, .slice none 0 0, .int .i64 0, .int .u32 0], []⟩ 8 (by kernel_rfl) (by kernel_rfl) (by kernel_rfl) (by kernel_rfl)) ?_
  intro W base args ds gs before hval0 hW hcnd _
  have hval : ∀ (j : Nat) t v, Try.f11.params[j]? = some t → args[j]? = some v → Value.okWide Try.prog W .any base t v := hval0
  have hW' := hW
  obtain ⟨p, q, hA0, hV, rfl, hfz, hnd⟩ := hW
  have hA : DataW.TrodAll enc Try.prog W 0 (fun _ => true) true Try.f11.params.toList args.toList ds p := hA0
  rw [Try.params11] at hA hval
  obtain ⟨v0, vs0, d0, ds0, p0, q0, hargs, rfl, rfl, h0, r0⟩ := trodAll_cons hA
  obtain ⟨v1, vs1, d1, ds1, p1, q1, rfl, rfl, rfl, h1, r1⟩ := trodAll_cons r0
  obtain ⟨v2, vs2, d2, ds2, p2, q2, rfl, rfl, rfl, h2, r2⟩ := trodAll_cons r1
  obtain ⟨v3, vs3, d3, ds3, p3, q3, rfl, rfl, rfl, h3, r3⟩ := trodAll_cons r2
  obtain ⟨v4, vs4, d4, ds4, p4, q4, rfl, rfl, rfl, h4, r4⟩ := trodAll_cons r3
  obtain ⟨rfl, rfl, rfl⟩ := trodAll_nil r4
  obtain rfl : args = #[v0, v1, v2, v3, v4] := by cases args; simp_all
  obtain ⟨rfl, rfl⟩ := trodVars_none hV
  obtain ⟨a0, rfl, rfl, rfl, w0⟩ := open_int Try.underlying3 (hval 0 3 v0 rfl rfl) h0
  obtain ⟨a1, rfl, rfl, rfl, w1⟩ := open_int Try.underlying3 (hval 1 3 v1 rfl rfl) h1
  obtain ⟨a2, len2, cap2, rfl⟩ := okWide_slice Try.underlying29 (hval 2 29 v2 rfl rfl)
  have k2 := h2
  have lt2 : ∀ x ∈ p2, x.block < W.heap.size := by obtain ⟨m, hm⟩ := k2; exact DataW.trod_lt m _ _ _ hm
  obtain ⟨fuel2, hf2⟩ := h2
  obtain ⟨l2, ⟨aa2, cc2, hcs2, hs2⟩, hw2⟩ := opens_ints enc W 0 _ _ fuel2 _ _ hf2
  simp [Value.cells] at hcs2
  obtain ⟨rfl, rfl, rfl⟩ := hcs2
  obtain ⟨a3, rfl, rfl, rfl, w3⟩ := open_int Try.underlying3 (hval 3 3 v3 rfl rfl) h3
  obtain ⟨a4, rfl, rfl, rfl, w4⟩ := open_int Try.underlying48 (hval 4 48 v4 rfl rfl) h4
  clear hA0 hval0
  refine (sharesHidden_fn a0 a1 _ _ _ a3 a4 (hpOf W) hs2).below.mono fun e W' ⟨he, bel⟩ => ?_
  subst he
  exact ⟨_, rfl, _, _, _, [], _, [], hW', trodAll_mk1 (shut_bool Try.underlying4 _), (trodAll_cons_mk (shut_int Try.underlying3 w0) (trodAll_cons_mk (shut_int Try.underlying3 w1) (trodAll_cons_mk (Below.trod laidOut (by kernel_rfl) (of_decide_eq_true (by kernel_rfl)) k2 bel lt2) (trodAll_cons_mk (shut_int Try.underlying3 w3) (trodAll_cons_mk (shut_int Try.underlying48 w4) trodAll_mk0))))), rfl, bel.frame _, fun h => by cases h⟩
theorem over : Rows.sharesHiddenRow.holds Try.pinned (OpenSpec.ofChange Rows.sharesHiddenSpec) :=
  OpenClaim.holds_of_wide 11 Try.f11 rfl rfl rfl rfl rfl rfl rfl ⟨rfl, rfl, rfl, rfl, rfl⟩ rfl rfl rfl rfl rfl (by kernel_rfl) Try.func11 (by kernel_rfl)
    (of_decide_eq_true (by kernel_rfl)) (by unfold Func.isWrapper; first | (rw [if_pos (by decide +kernel)]; kernel_rfl) | (rw [if_neg (by decide +kernel)]; exact ⟨rfl, rfl⟩))
    (fun os started H enc _ => lifted os started H enc)
/-- The given statement. -/
theorem proved : Rows.SharesHiddenSaid := over
#print axioms proved
end sharesHidden
end Go.Proofs.Ytdiknopliedddaa
