/- The law SharesSum: it returns true, whatever the input, and what it was handed reads as before. No condition. -/
import Derived.Test.YtdiknopliedddaaRaO2
import Derived.Test.YtdiknopliedddaaRaY
import Derived.Test.YtdiknopliedddaaXLn
import Derived.Test.YtdiknopliedddaaRows
import Derived.WalkKit
import Derived.ProofKit
import Derived.OpenShut
import Derived.ShutString
import Derived.ChangeOld
import Derived.Below
set_option autoImplicit false
set_option linter.unusedVariables false
set_option linter.unusedSimpArgs false
namespace Go.Proofs.Ytdiknopliedddaa
open Go.XL



set_option maxRecDepth 100000 in
set_option maxHeartbeats 1600000 in
theorem sharesSum_fn (a b : Int) (a2 : Option Addr) (c2 : Nat) (l2 : List Int) (a3 : Option Addr) (c3 : Nat) (l3 : List Int) (n : Int) (H : Hp) (hs2 : SlR (intR .i64) H a2 c2 l2) (hs3 : SlR (intR .i64) H a3 c3 l3) : FnC Try.prog 13 #[.int .i64 a, .int .i64 b, .slice a2 l2.length c2, .slice a3 l3.length c3, .int .i64 n] H [] (RetR fun v _ _ => v = .bool true) := by
  refine FnC.intro (args := [.int .i64 a, .int .i64 b, .slice a2 l2.length c2, .slice a3 l3.length c3, .int .i64 n]) Try.func13 rfl rfl Try.ntmps13 rfl rfl rfl fun G rest => ?_
  refine XC.seq ?_
  refine XC.region ?_
  refine XO.assign rfl rfl ?_
  refine XO.nil ?_
  refine XC.seq2 ?_
  refine XC.seq ?_
  refine XC.seq ?_
  refine XC.region ?_
  refine XO.callV rfl (sane33 _) rfl ?_
  refine XO.notB rfl rfl ?_
  refine XO.nil ?_
  refine XC.seq2 ?_
  refine XC.condF rfl (rfl) ?_
  refine XC.skip ?_
  refine XC.seq2 ?_
  refine XC.seq ?_
  refine XC.region ?_
  refine XO.move rfl rfl ?_
  refine XO.move rfl rfl ?_
  refine XO.move rfl rfl ?_
  refine XO.callH rfl (deal_fn _ _ _ _ _ _ hs2) rfl ?_
  rintro _ HD30 hleD30 ⟨aD30, cD30, rfl, hsD30⟩
  replace hs2 := hs2.mono hleD30
  replace hs3 := hs3.mono hleD30
  refine XO.move rfl rfl ?_
  refine XO.extract rfl rfl rfl ?_
  refine XO.extract rfl rfl rfl ?_
  refine XO.assign rfl rfl ?_
  refine XO.assign rfl rfl ?_
  refine XO.nil ?_
  refine XC.seq2 ?_
  refine XC.seq ?_
  refine XC.region ?_
  refine XO.move rfl rfl ?_
  refine XO.move rfl rfl ?_
  refine XO.move rfl rfl ?_
  refine XO.callH rfl (deal_fn _ _ _ _ _ _ hs3) rfl ?_
  rintro _ HD37 hleD37 ⟨aD37, cD37, rfl, hsD37⟩
  replace hs2 := hs2.mono hleD37
  replace hs3 := hs3.mono hleD37
  replace hsD30 := hsD30.mono hleD37
  refine XO.move rfl rfl ?_
  refine XO.extract rfl rfl rfl ?_
  refine XO.extract rfl rfl rfl ?_
  refine XO.assign rfl rfl ?_
  refine XO.assign rfl rfl ?_
  refine XO.nil ?_
  refine XC.seq2 ?_
  refine XC.seq ?_
  refine XC.seq ?_
  refine XC.region ?_
  refine XO.move rfl rfl ?_
  refine XO.neq rfl rfl rfl ?_
  refine XO.move rfl rfl ?_
  refine XO.guardC rfl rfl rfl rfl (fun g4 => ?_) (fun g4 => ?_)
  · have g4p := of_decide_eq_false g4
    refine XO.move rfl rfl ?_
    refine XO.guardT rfl rfl (g4) rfl ?_
    refine XO.neq rfl rfl rfl ?_
    refine XO.pickF rfl (g4) rfl rfl ?_
    refine XO.nil ?_
    refine XC.seq2 ?_
    refine XC.cond rfl (fun c1_5 => ?_) (fun c1_5 => ?_)
    · refine XC.seq ?_
      refine XC.region ?_
      refine XO.assign rfl rfl ?_
      refine XO.nil ?_
      refine XC.seq2 ?_
      refine XC.ret ?_
      refine seqX_ret ?_
      refine ⟨rfl, _, [], rfl, (by repeat (first | exact List.Sublist.refl _ | apply List.Sublist.cons)), RetR.mk ?_⟩
      first | rfl | exact congrArg Value.bool (by rw [hrec]; simp)
    · have hE : dealE a l2 n = 0 := by omega
      have hDB := dealE_ok hE
      have hE2 : dealE b l3 n = 0 := by omega
      have hDB2 := dealE_ok hE2
      obtain ⟨m, rfl⟩ : ∃ m : Nat, n = m := ⟨n.toNat, by unfold DB at hDB; omega⟩
      have e2 := (deal_ok hDB).2
      have e3 := (deal_ok hDB2).2
      unfold DB at hDB hDB2
      have hlx : (dealR a l2 (m : Int)).length = m := by rw [e2, dealL_len]
      have hly : (dealR b l3 (m : Int)).length = m := by rw [e3, dealL_len]
      have hrg := rng (a + b)
      obtain ⟨e5, e6⟩ := deal_ok (s := (a + b) % 1073741789) (more := bothL l2 l3) (n := m) (by unfold DB; rw [bothL_len]; omega)
      have hrec : recV (dealL ((a + b) % 1073741789 :: bothL l2 l3) m) = ((a + b) % 1073741789, 0) := enough (s := (a + b) % 1073741789) (more := bothL l2 l3) (n := m) (turned := false) (k := m) (by omega) (by omega) (by omega) ⟨_, by rw [List.take_of_length_le (by rw [dealL_len]; omega)]; exact List.Sublist.refl _, by simp⟩ (by rw [dealL_len, bothL_len]; omega)
      refine XC.skip ?_
      refine XC.seq2 ?_
      refine XC.seq ?_
      refine XC.seq ?_
      refine XC.region ?_
      refine XO.move rfl rfl ?_
      refine XO.lenS (ts := #[]) rfl Try.underlying42 rfl ?_
      refine XO.move rfl rfl ?_
      refine XO.neq rfl rfl rfl ?_
      refine XO.move rfl rfl ?_
      refine XO.guardT rfl rfl (decide_eq_false (by omega)) rfl ?_
      refine XO.move rfl rfl ?_
      refine XO.guardT rfl rfl (decide_eq_false (by omega)) rfl ?_
      refine XO.lenS (ts := #[]) rfl Try.underlying42 rfl ?_
      refine XO.guardT rfl rfl (decide_eq_false (by omega)) rfl ?_
      refine XO.move rfl rfl ?_
      refine XO.guardT rfl rfl (decide_eq_false (by omega)) rfl ?_
      refine XO.neq rfl rfl rfl ?_
      refine XO.pickF rfl (decide_eq_false (by omega)) rfl rfl ?_
      refine XO.nil ?_
      refine XC.seq2 ?_
      refine XC.condF rfl (decide_eq_false (by omega)) ?_
      refine XC.skip ?_
      refine XC.seq2 ?_
      refine XC.seq ?_
      refine XC.region ?_
      refine XO.assign rfl rfl ?_
      refine XO.nil ?_
      refine XC.seq2 ?_
      refine XC.seq ?_
      refine XC.seq ?_
      refine XC.region ?_
      refine XO.move rfl rfl ?_
      refine XO.lenS (ts := #[]) rfl Try.underlying29 rfl ?_
      refine XO.move rfl rfl ?_
      refine XO.lenS (ts := #[]) rfl Try.underlying29 rfl ?_
      refine XO.maxI (c := ((max l2.length l3.length : Nat) : Int)) rfl rfl (by split <;> omega) rfl ?_
      refine XO.move rfl rfl ?_
      refine XO.nil ?_
      refine XC.seq2 ?_
      refine XC.block ?_
      refine XC.keep [15, 61, 0, 1, 2, 3, 4, 11, 13, 60] rfl ?_
      refine XC.open0 0 ?_
      refine XC.loop (base := [(0, _), (1, _), (2, _), (3, _), (4, _), (11, _), (13, _), (60, _)]) (fun ζ : Nat × ((Nat × SObj) × Option Addr × Nat) => [(15, .slice ζ.2.2.1 ((bothL l2 l3).take (ζ.1)).length ζ.2.2.2), (61, .int .i64 (ζ.1 : Nat))]) (fun ζ Hl own => ζ.1 ≤ max l2.length l3.length ∧ ζ.2.1 :: rest = own ∧ Acc (intR .i64) 3 Hl ζ.2.1 ζ.2.2.1 ζ.2.2.2 ((bothL l2 l3).take (ζ.1))) (fun ζ => max l2.length l3.length - ζ.1) (0, ((0, .nothing), none, 0)) (prov_cons (rfl) (prov_cons (rfl) (prov_cons (rfl) (prov_cons (rfl) (prov_cons (rfl) (prov_cons (rfl) (prov_cons (rfl) (prov_cons (rfl) (prov_cons (rfl) (prov_cons (rfl) prov_nil)))))))))) (by repeat (first | exact List.Sublist.refl _ | apply List.Sublist.cons_cons | apply List.Sublist.cons)) ⟨Nat.zero_le _, rfl, Acc.nil _ _ _ _⟩ ?_
      rintro ⟨k, ⟨po, ao, co⟩⟩ Hl0 _ hle0 ⟨hkk, rfl, hacco⟩
      replace hs2 := hs2.mono hle0
      replace hs3 := hs3.mono hle0
      replace hsD30 := hsD30.mono hle0
      replace hsD37 := hsD37.mono hle0
      try dsimp only at hkk hacco ⊢
      refine XC.seq ?_
      refine XC.region ?_
      refine XO.lss rfl rfl rfl ?_
      refine XO.nil ?_
      refine XC.seq2 ?_
      refine XC.seq ?_
      refine XC.cond rfl (fun c3_7 => ?_) (fun c3_7 => ?_)
      · refine XC.skip ?_
        refine XC.seq2 ?_
        refine XC.seq ?_
        refine XC.block ?_
        refine XC.seq ?_
        refine XC.region ?_
        refine XO.move rfl rfl ?_
        refine XO.assign rfl rfl ?_
        refine XO.nil ?_
        refine XC.seq2 ?_
        refine XC.seq ?_
        refine XC.region ?_
        refine XO.assign rfl rfl ?_
        refine XO.nil ?_
        refine XC.seq2 ?_
        refine XC.seq ?_
        refine XC.seq ?_
        refine XC.region ?_
        refine XO.move rfl rfl ?_
        refine XO.move rfl rfl ?_
        refine XO.lenS (ts := #[]) rfl Try.underlying29 rfl ?_
        refine XO.lss rfl rfl rfl ?_
        refine XO.nil ?_
        refine XC.seq2 ?_
        refine XC.cond rfl (fun c4_8 => ?_) (fun c4_8 => ?_)
        · refine XC.region ?_
          refine XO.move rfl rfl ?_
          refine XO.move rfl rfl ?_
          refine XO.indexN rfl hs2 rfl Try.underlying29 ty_3 (by omega) rfl ?_
          rintro eb70 eo70 _ x70 hx70 rfl hp70
          refine XO.loadH rfl (by assumption) ty_3 rfl rfl rfl ?_
          refine XO.callV rfl (mod_fn _ _) rfl ?_
          refine XO.assign rfl rfl ?_
          refine XO.nil ?_
          refine XC.seq2 ?_
          refine XC.seq ?_
          refine XC.seq ?_
          refine XC.region ?_
          refine XO.move rfl rfl ?_
          refine XO.move rfl rfl ?_
          refine XO.lenS (ts := #[]) rfl Try.underlying29 rfl ?_
          refine XO.lss rfl rfl rfl ?_
          refine XO.nil ?_
          refine XC.seq2 ?_
          refine XC.cond rfl (fun c5_11 => ?_) (fun c5_11 => ?_)
          · refine XC.region ?_
            refine XO.move rfl rfl ?_
            refine XO.move rfl rfl ?_
            refine XO.move rfl rfl ?_
            refine XO.indexN rfl hs3 rfl Try.underlying29 ty_3 (by omega) rfl ?_
            rintro eb80 eo80 _ x80 hx80 rfl hp80
            refine XO.loadH rfl (by assumption) ty_3 rfl rfl rfl ?_
            refine XO.callV rfl (add_fn _ _ _) rfl ?_
            refine XO.assign rfl rfl ?_
            refine XO.nil ?_
            refine XC.seq2 ?_
            refine XC.region ?_
            refine XO.move rfl rfl ?_
            refine XO.move rfl rfl ?_
            refine XO.buildSlice rfl Try.underlying29 ty_3 ze_3 rfl rfl rfl (fun b85 => ?_)
            refine XO.publish 0 rfl rfl rfl (fun HP85 oP85 hleP85 hbP85 hoP85 => ?_)
            have hsl85 := SlR.lit (ρ := (intR .i64)) (l := [_]) hbP85 hoP85 (RowsR.one1 rfl)
            replace hs2 := hs2.mono hleP85
            replace hs3 := hs3.mono hleP85
            replace hsD30 := hsD30.mono hleP85
            replace hsD37 := hsD37.mono hleP85
            replace hacco := hacco.mono hleP85
            replace hp70 := hp70.mono hleP85
            replace hp80 := hp80.mono hleP85
            replace hle0 := hle0.trans hleP85
            refine XO.appendA 0 rfl rfl hacco rfl rfl hsl85 rfl Try.underlying29 ty_3 ze_3 rfl by_3 (by simp only [List.length_take, List.length_singleton, bothL_len]; omega) rfl (fun p86 a86 c86 hacc86 => ?_)
            refine XO.assign rfl rfl ?_
            refine XO.nil ?_
            refine blockN ?_
            refine XC.seq2 ?_
            refine XC.region ?_
            refine XO.add rfl rfl (wrap_i64 (by omega) (by omega)) rfl ?_
            refine XO.move rfl rfl ?_
            refine XO.nil ?_
            refine loop_next ((k + 1, (p86, a86, c86))) (by show max l2.length l3.length - (k + 1) < max l2.length l3.length - k; omega) (prov_cons (by first | rfl | (rw [take_snoc (both_tt hx70 hx80)]; rfl) | (rw [take_snoc (both_tf hx70 (by omega))]; rfl) | (rw [take_snoc (both_ft (by omega) hx80)]; rfl) | (exfalso; omega)) (prov_cons (rfl) (prov_cons (rfl) (prov_cons (rfl) (prov_cons (rfl) (prov_cons (rfl) (prov_cons (rfl) (prov_cons (rfl) (prov_cons (rfl) (prov_cons (rfl) prov_nil)))))))))) (⟨by show k + 1 ≤ max l2.length l3.length; omega, rfl, by first | (exact hacc86) | (rw [take_snoc (both_tt hx70 hx80)]; exact hacc86) | (rw [take_snoc (both_tf hx70 (by omega))]; exact hacc86) | (rw [take_snoc (both_ft (by omega) hx80)]; exact hacc86) | (exfalso; omega)⟩) (by repeat (first | exact List.Sublist.refl _ | apply List.Sublist.cons_cons | apply List.Sublist.cons)) (hle0)
          · refine XC.skip ?_
            refine XC.seq2 ?_
            refine XC.region ?_
            refine XO.move rfl rfl ?_
            refine XO.move rfl rfl ?_
            refine XO.buildSlice rfl Try.underlying29 ty_3 ze_3 rfl rfl rfl (fun b85 => ?_)
            refine XO.publish 0 rfl rfl rfl (fun HP85 oP85 hleP85 hbP85 hoP85 => ?_)
            have hsl85 := SlR.lit (ρ := (intR .i64)) (l := [_]) hbP85 hoP85 (RowsR.one1 rfl)
            replace hs2 := hs2.mono hleP85
            replace hs3 := hs3.mono hleP85
            replace hsD30 := hsD30.mono hleP85
            replace hsD37 := hsD37.mono hleP85
            replace hacco := hacco.mono hleP85
            replace hp70 := hp70.mono hleP85
            replace hle0 := hle0.trans hleP85
            refine XO.appendA 0 rfl rfl hacco rfl rfl hsl85 rfl Try.underlying29 ty_3 ze_3 rfl by_3 (by simp only [List.length_take, List.length_singleton, bothL_len]; omega) rfl (fun p86 a86 c86 hacc86 => ?_)
            refine XO.assign rfl rfl ?_
            refine XO.nil ?_
            refine blockN ?_
            refine XC.seq2 ?_
            refine XC.region ?_
            refine XO.add rfl rfl (wrap_i64 (by omega) (by omega)) rfl ?_
            refine XO.move rfl rfl ?_
            refine XO.nil ?_
            refine loop_next ((k + 1, (p86, a86, c86))) (by show max l2.length l3.length - (k + 1) < max l2.length l3.length - k; omega) (prov_cons (by first | rfl | (rw [take_snoc (both_tt hx70 hx80)]; rfl) | (rw [take_snoc (both_tf hx70 (by omega))]; rfl) | (rw [take_snoc (both_ft (by omega) hx80)]; rfl) | (exfalso; omega)) (prov_cons (rfl) (prov_cons (rfl) (prov_cons (rfl) (prov_cons (rfl) (prov_cons (rfl) (prov_cons (rfl) (prov_cons (rfl) (prov_cons (rfl) (prov_cons (rfl) prov_nil)))))))))) (⟨by show k + 1 ≤ max l2.length l3.length; omega, rfl, by first | (exact hacc86) | (rw [take_snoc (both_tt hx70 hx80)]; exact hacc86) | (rw [take_snoc (both_tf hx70 (by omega))]; exact hacc86) | (rw [take_snoc (both_ft (by omega) hx80)]; exact hacc86) | (exfalso; omega)⟩) (by repeat (first | exact List.Sublist.refl _ | apply List.Sublist.cons_cons | apply List.Sublist.cons)) (hle0)
        · refine XC.skip ?_
          refine XC.seq2 ?_
          refine XC.seq ?_
          refine XC.seq ?_
          refine XC.region ?_
          refine XO.move rfl rfl ?_
          refine XO.move rfl rfl ?_
          refine XO.lenS (ts := #[]) rfl Try.underlying29 rfl ?_
          refine XO.lss rfl rfl rfl ?_
          refine XO.nil ?_
          refine XC.seq2 ?_
          refine XC.cond rfl (fun c5_16 => ?_) (fun c5_16 => ?_)
          · refine XC.region ?_
            refine XO.move rfl rfl ?_
            refine XO.move rfl rfl ?_
            refine XO.move rfl rfl ?_
            refine XO.indexN rfl hs3 rfl Try.underlying29 ty_3 (by omega) rfl ?_
            rintro eb80 eo80 _ x80 hx80 rfl hp80
            refine XO.loadH rfl (by assumption) ty_3 rfl rfl rfl ?_
            refine XO.callV rfl (add_fn _ _ _) rfl ?_
            refine XO.assign rfl rfl ?_
            refine XO.nil ?_
            refine XC.seq2 ?_
            refine XC.region ?_
            refine XO.move rfl rfl ?_
            refine XO.move rfl rfl ?_
            refine XO.buildSlice rfl Try.underlying29 ty_3 ze_3 rfl rfl rfl (fun b85 => ?_)
            refine XO.publish 0 rfl rfl rfl (fun HP85 oP85 hleP85 hbP85 hoP85 => ?_)
            have hsl85 := SlR.lit (ρ := (intR .i64)) (l := [_]) hbP85 hoP85 (RowsR.one1 rfl)
            replace hs2 := hs2.mono hleP85
            replace hs3 := hs3.mono hleP85
            replace hsD30 := hsD30.mono hleP85
            replace hsD37 := hsD37.mono hleP85
            replace hacco := hacco.mono hleP85
            replace hp80 := hp80.mono hleP85
            replace hle0 := hle0.trans hleP85
            refine XO.appendA 0 rfl rfl hacco rfl rfl hsl85 rfl Try.underlying29 ty_3 ze_3 rfl by_3 (by simp only [List.length_take, List.length_singleton, bothL_len]; omega) rfl (fun p86 a86 c86 hacc86 => ?_)
            refine XO.assign rfl rfl ?_
            refine XO.nil ?_
            refine blockN ?_
            refine XC.seq2 ?_
            refine XC.region ?_
            refine XO.add rfl rfl (wrap_i64 (by omega) (by omega)) rfl ?_
            refine XO.move rfl rfl ?_
            refine XO.nil ?_
            refine loop_next ((k + 1, (p86, a86, c86))) (by show max l2.length l3.length - (k + 1) < max l2.length l3.length - k; omega) (prov_cons (by first | rfl | (rw [take_snoc (both_tt hx70 hx80)]; rfl) | (rw [take_snoc (both_tf hx70 (by omega))]; rfl) | (rw [take_snoc (both_ft (by omega) hx80)]; rfl) | (exfalso; omega)) (prov_cons (rfl) (prov_cons (rfl) (prov_cons (rfl) (prov_cons (rfl) (prov_cons (rfl) (prov_cons (rfl) (prov_cons (rfl) (prov_cons (rfl) (prov_cons (rfl) prov_nil)))))))))) (⟨by show k + 1 ≤ max l2.length l3.length; omega, rfl, by first | (exact hacc86) | (rw [take_snoc (both_tt hx70 hx80)]; exact hacc86) | (rw [take_snoc (both_tf hx70 (by omega))]; exact hacc86) | (rw [take_snoc (both_ft (by omega) hx80)]; exact hacc86) | (exfalso; omega)⟩) (by repeat (first | exact List.Sublist.refl _ | apply List.Sublist.cons_cons | apply List.Sublist.cons)) (hle0)
          · refine XC.skip ?_
            refine XC.seq2 ?_
            refine XC.region ?_
            refine XO.move rfl rfl ?_
            refine XO.move rfl rfl ?_
            refine XO.buildSlice rfl Try.underlying29 ty_3 ze_3 rfl rfl rfl (fun b85 => ?_)
            refine XO.publish 0 rfl rfl rfl (fun HP85 oP85 hleP85 hbP85 hoP85 => ?_)
            have hsl85 := SlR.lit (ρ := (intR .i64)) (l := [_]) hbP85 hoP85 (RowsR.one1 rfl)
            replace hs2 := hs2.mono hleP85
            replace hs3 := hs3.mono hleP85
            replace hsD30 := hsD30.mono hleP85
            replace hsD37 := hsD37.mono hleP85
            replace hacco := hacco.mono hleP85
            replace hle0 := hle0.trans hleP85
            refine XO.appendA 0 rfl rfl hacco rfl rfl hsl85 rfl Try.underlying29 ty_3 ze_3 rfl by_3 (by simp only [List.length_take, List.length_singleton, bothL_len]; omega) rfl (fun p86 a86 c86 hacc86 => ?_)
            refine XO.assign rfl rfl ?_
            refine XO.nil ?_
            refine blockN ?_
            refine XC.seq2 ?_
            refine XC.region ?_
            refine XO.add rfl rfl (wrap_i64 (by omega) (by omega)) rfl ?_
            refine XO.move rfl rfl ?_
            refine XO.nil ?_
            refine loop_next ((k + 1, (p86, a86, c86))) (by show max l2.length l3.length - (k + 1) < max l2.length l3.length - k; omega) (prov_cons (by first | rfl | (rw [take_snoc (both_tt hx70 hx80)]; rfl) | (rw [take_snoc (both_tf hx70 (by omega))]; rfl) | (rw [take_snoc (both_ft (by omega) hx80)]; rfl) | (exfalso; omega)) (prov_cons (rfl) (prov_cons (rfl) (prov_cons (rfl) (prov_cons (rfl) (prov_cons (rfl) (prov_cons (rfl) (prov_cons (rfl) (prov_cons (rfl) (prov_cons (rfl) prov_nil)))))))))) (⟨by show k + 1 ≤ max l2.length l3.length; omega, rfl, by first | (exact hacc86) | (rw [take_snoc (both_tt hx70 hx80)]; exact hacc86) | (rw [take_snoc (both_tf hx70 (by omega))]; exact hacc86) | (rw [take_snoc (both_ft (by omega) hx80)]; exact hacc86) | (exfalso; omega)⟩) (by repeat (first | exact List.Sublist.refl _ | apply List.Sublist.cons_cons | apply List.Sublist.cons)) (hle0)
      · obtain rfl : k = max l2.length l3.length := by omega
        rw [List.take_of_length_le (by rw [bothL_len]; omega)] at hacco ⊢
        refine XC.exit ?_
        refine seqX_exit ?_
        refine loopX_exit ?_
        refine blockHit rfl ?_
        refine XC.seq2 ?_
        refine XC.seq ?_
        refine XC.region ?_
        refine XO.publishA 0 rfl hacco rfl (fun HQ21 hleQ21 hsQ21 => ?_)
        replace hs2 := hs2.mono hleQ21
        replace hs3 := hs3.mono hleQ21
        replace hsD30 := hsD30.mono hleQ21
        replace hsD37 := hsD37.mono hleQ21
        replace hle0 := hle0.trans hleQ21
        refine XO.assign rfl rfl ?_
        refine XO.nil ?_
        refine XC.seq2 ?_
        refine XC.seq ?_
        refine XC.seq ?_
        refine XC.region ?_
        refine XO.move rfl rfl ?_
        refine XO.lenS (ts := #[]) rfl Try.underlying42 rfl ?_
        refine XO.move rfl rfl ?_
        refine XO.nil ?_
        refine XC.seq2 ?_
        refine XC.block ?_
        refine XC.keep [18, 90, 0, 1, 4, 11, 13, 15, 89] rfl ?_
        refine XC.open0 0 ?_
        refine XC.loop (base := [(0, _), (1, _), (4, _), (11, _), (13, _), (15, _), (89, _)]) (fun ζ : Nat × ((Nat × SObj) × Option Addr × Nat) => [(18, .slice ζ.2.2.1 (dealL ((a + b) % 1073741789 :: bothL l2 l3) (ζ.1)).length ζ.2.2.2), (90, .int .i64 (ζ.1 : Nat))]) (fun ζ Hl own => ζ.1 ≤ m ∧ ζ.2.1 :: rest = own ∧ Acc ptR 52 Hl ζ.2.1 ζ.2.2.1 ζ.2.2.2 (dealL ((a + b) % 1073741789 :: bothL l2 l3) (ζ.1))) (fun ζ => m - ζ.1) (0, ((0, .nothing), none, 0)) (prov_cons (rfl) (prov_cons (rfl) (prov_cons (rfl) (prov_cons (rfl) (prov_cons (rfl) (prov_cons (rfl) (prov_cons (rfl) (prov_cons (rfl) (prov_cons (rfl) prov_nil))))))))) (by repeat (first | exact List.Sublist.refl _ | apply List.Sublist.cons_cons | apply List.Sublist.cons)) ⟨Nat.zero_le _, rfl, Acc.nil _ _ _ _⟩ ?_
        rintro ⟨k, ⟨pu, au, cu⟩⟩ Hl1 _ hle1 ⟨hkk, rfl, haccu⟩
        replace hs2 := hs2.mono hle1
        replace hs3 := hs3.mono hle1
        replace hsD30 := hsD30.mono hle1
        replace hsD37 := hsD37.mono hle1
        replace hsQ21 := hsQ21.mono hle1
        replace hle0 := hle0.trans hle1
        try dsimp only at hkk haccu ⊢
        refine XC.seq ?_
        refine XC.region ?_
        refine XO.lss rfl rfl rfl ?_
        refine XO.nil ?_
        refine XC.seq2 ?_
        refine XC.seq ?_
        refine XC.cond rfl (fun c6_22 => ?_) (fun c6_22 => ?_)
        · refine XC.skip ?_
          refine XC.seq2 ?_
          refine XC.seq ?_
          refine XC.block ?_
          refine XC.seq ?_
          refine XC.region ?_
          refine XO.move rfl rfl ?_
          refine XO.assign rfl rfl ?_
          refine XO.nil ?_
          refine XC.seq2 ?_
          refine XC.keep [0, 1, 4, 11, 13, 15, 18, 19, 89, 90] rfl ?_
          obtain ⟨bE1, oE1, rfl⟩ := hsD30.addr (by omega)
          obtain ⟨_, x1, hx1, rfl, hp1⟩ := hsD30.elem (k) (by omega)
          obtain ⟨bE2, oE2, rfl⟩ := hsD37.addr (by omega)
          obtain ⟨_, x2, hx2, rfl, hp2⟩ := hsD37.elem (k) (by omega)
          have hx1v : x1 = ⟨(k : Int) + 1, valP ((k : Int) + 1) (a :: l2) 0 1⟩ := Option.some.inj (hx1.symm.trans (by rw [e2]; exact dealL_get (by omega)))
          have hx2v : x2 = ⟨(k : Int) + 1, valP ((k : Int) + 1) (b :: l3) 0 1⟩ := Option.some.inj (hx2.symm.trans (by rw [e3]; exact dealL_get (by omega)))
          apply XC.drawG (fun _ => True) trivial 19 [eqF _, eqF _, eqF _, eqF _, eqF _, eqF _, eqF _, eqF _, eqF _, eqF _, eqF _, eqF _, eqF _, eqF _, eqF _, eqF _, eqF _, eqF _, slF ptR [⟨x1.X, (x1.Y + x2.Y) % 1073741789⟩]] follows (by kernel_rfl) (by kernel_rfl) ⟨eqF_mono _, eqF_mono _, eqF_mono _, eqF_mono _, eqF_mono _, eqF_mono _, eqF_mono _, eqF_mono _, eqF_mono _, eqF_mono _, eqF_mono _, eqF_mono _, eqF_mono _, eqF_mono _, eqF_mono _, eqF_mono _, eqF_mono _, eqF_mono _, slF_mono _ _, trivial⟩ ?steps23 ?tail23
          case steps23 =>
            refine stepsD_cons rfl ?_ ?_
            · intro X HD hleD _
              replace hs2 := hs2.mono hleD
              replace hs3 := hs3.mono hleD
              replace hsD30 := hsD30.mono hleD
              replace hsD37 := hsD37.mono hleD
              replace hsQ21 := hsQ21.mono hleD
              replace haccu := haccu.mono hleD
              replace hp1 := hp1.mono hleD
              replace hp2 := hp2.mono hleD
              replace hle0 := hle0.trans hleD
              replace hle1 := hle1.trans hleD
              refine withPreds_nil rfl ?_
              refine XO.move rfl rfl ?_
              refine XO.nil ?_
              exact stepQ_ok trivial (rfl)
            refine stepsD_cons rfl ?_ ?_
            · intro X HD hleD _
              replace hs2 := hs2.mono hleD
              replace hs3 := hs3.mono hleD
              replace hsD30 := hsD30.mono hleD
              replace hsD37 := hsD37.mono hleD
              replace hsQ21 := hsQ21.mono hleD
              replace haccu := haccu.mono hleD
              replace hp1 := hp1.mono hleD
              replace hp2 := hp2.mono hleD
              replace hle0 := hle0.trans hleD
              replace hle1 := hle1.trans hleD
              refine withPreds_nil rfl ?_
              refine XO.move rfl rfl ?_
              refine XO.nil ?_
              exact stepQ_ok trivial (rfl)
            refine stepsD_cons rfl ?_ ?_
            · intro X HD hleD _
              replace hs2 := hs2.mono hleD
              replace hs3 := hs3.mono hleD
              replace hsD30 := hsD30.mono hleD
              replace hsD37 := hsD37.mono hleD
              replace hsQ21 := hsQ21.mono hleD
              replace haccu := haccu.mono hleD
              replace hp1 := hp1.mono hleD
              replace hp2 := hp2.mono hleD
              replace hle0 := hle0.trans hleD
              replace hle1 := hle1.trans hleD
              refine withPreds_nil rfl ?_
              refine XO.move rfl rfl ?_
              refine XO.nil ?_
              exact stepQ_ok trivial (rfl)
            refine stepsD_cons rfl ?_ ?_
            · intro X HD hleD _
              replace hs2 := hs2.mono hleD
              replace hs3 := hs3.mono hleD
              replace hsD30 := hsD30.mono hleD
              replace hsD37 := hsD37.mono hleD
              replace hsQ21 := hsQ21.mono hleD
              replace haccu := haccu.mono hleD
              replace hp1 := hp1.mono hleD
              replace hp2 := hp2.mono hleD
              replace hle0 := hle0.trans hleD
              replace hle1 := hle1.trans hleD
              refine withPreds_cons rfl rfl ?_
              rintro _ rfl
              refine withPreds_cons rfl rfl ?_
              rintro _ rfl
              refine withPreds_nil rfl ?_
              refine XO.indexE rfl rfl Try.underlying42 ty_52 (by omega) (by omega) rfl ?_
              refine XO.nil ?_
              exact stepQ_ok trivial (rfl)
            refine stepsD_cons rfl ?_ ?_
            · intro X HD hleD _
              replace hs2 := hs2.mono hleD
              replace hs3 := hs3.mono hleD
              replace hsD30 := hsD30.mono hleD
              replace hsD37 := hsD37.mono hleD
              replace hsQ21 := hsQ21.mono hleD
              replace haccu := haccu.mono hleD
              replace hp1 := hp1.mono hleD
              replace hp2 := hp2.mono hleD
              replace hle0 := hle0.trans hleD
              replace hle1 := hle1.trans hleD
              refine withPreds_cons rfl rfl ?_
              rintro _ rfl
              refine withPreds_nil rfl ?_
              refine XO.fieldAddr rfl fa_52_0 rfl ?_
              refine XO.nil ?_
              exact stepQ_ok trivial (rfl)
            refine stepsD_cons rfl ?_ ?_
            · intro X HD hleD _
              replace hs2 := hs2.mono hleD
              replace hs3 := hs3.mono hleD
              replace hsD30 := hsD30.mono hleD
              replace hsD37 := hsD37.mono hleD
              replace hsQ21 := hsQ21.mono hleD
              replace haccu := haccu.mono hleD
              replace hp1 := hp1.mono hleD
              replace hp2 := hp2.mono hleD
              replace hle0 := hle0.trans hleD
              replace hle1 := hle1.trans hleD
              refine withPreds_cons rfl rfl ?_
              rintro _ rfl
              refine withPreds_nil rfl ?_
              refine XO.loadHF rfl (by assumption) ty_3 rfl rfl rfl ?_
              refine XO.nil ?_
              exact stepQ_ok trivial (rfl)
            refine stepsD_cons rfl ?_ ?_
            · intro X HD hleD _
              replace hs2 := hs2.mono hleD
              replace hs3 := hs3.mono hleD
              replace hsD30 := hsD30.mono hleD
              replace hsD37 := hsD37.mono hleD
              replace hsQ21 := hsQ21.mono hleD
              replace haccu := haccu.mono hleD
              replace hp1 := hp1.mono hleD
              replace hp2 := hp2.mono hleD
              replace hle0 := hle0.trans hleD
              replace hle1 := hle1.trans hleD
              refine withPreds_nil rfl ?_
              refine XO.move rfl rfl ?_
              refine XO.nil ?_
              exact stepQ_ok trivial (rfl)
            refine stepsD_cons rfl ?_ ?_
            · intro X HD hleD _
              replace hs2 := hs2.mono hleD
              replace hs3 := hs3.mono hleD
              replace hsD30 := hsD30.mono hleD
              replace hsD37 := hsD37.mono hleD
              replace hsQ21 := hsQ21.mono hleD
              replace haccu := haccu.mono hleD
              replace hp1 := hp1.mono hleD
              replace hp2 := hp2.mono hleD
              replace hle0 := hle0.trans hleD
              replace hle1 := hle1.trans hleD
              refine withPreds_nil rfl ?_
              refine XO.move rfl rfl ?_
              refine XO.nil ?_
              exact stepQ_ok trivial (rfl)
            refine stepsD_cons rfl ?_ ?_
            · intro X HD hleD _
              replace hs2 := hs2.mono hleD
              replace hs3 := hs3.mono hleD
              replace hsD30 := hsD30.mono hleD
              replace hsD37 := hsD37.mono hleD
              replace hsQ21 := hsQ21.mono hleD
              replace haccu := haccu.mono hleD
              replace hp1 := hp1.mono hleD
              replace hp2 := hp2.mono hleD
              replace hle0 := hle0.trans hleD
              replace hle1 := hle1.trans hleD
              refine withPreds_cons rfl rfl ?_
              rintro _ rfl
              refine withPreds_cons rfl rfl ?_
              rintro _ rfl
              refine withPreds_nil rfl ?_
              refine XO.indexE rfl rfl Try.underlying42 ty_52 (by omega) (by omega) rfl ?_
              refine XO.nil ?_
              exact stepQ_ok trivial (rfl)
            refine stepsD_cons rfl ?_ ?_
            · intro X HD hleD _
              replace hs2 := hs2.mono hleD
              replace hs3 := hs3.mono hleD
              replace hsD30 := hsD30.mono hleD
              replace hsD37 := hsD37.mono hleD
              replace hsQ21 := hsQ21.mono hleD
              replace haccu := haccu.mono hleD
              replace hp1 := hp1.mono hleD
              replace hp2 := hp2.mono hleD
              replace hle0 := hle0.trans hleD
              replace hle1 := hle1.trans hleD
              refine withPreds_cons rfl rfl ?_
              rintro _ rfl
              refine withPreds_nil rfl ?_
              refine XO.fieldAddr rfl fa_52_1 rfl ?_
              refine XO.nil ?_
              exact stepQ_ok trivial (rfl)
            refine stepsD_cons rfl ?_ ?_
            · intro X HD hleD _
              replace hs2 := hs2.mono hleD
              replace hs3 := hs3.mono hleD
              replace hsD30 := hsD30.mono hleD
              replace hsD37 := hsD37.mono hleD
              replace hsQ21 := hsQ21.mono hleD
              replace haccu := haccu.mono hleD
              replace hp1 := hp1.mono hleD
              replace hp2 := hp2.mono hleD
              replace hle0 := hle0.trans hleD
              replace hle1 := hle1.trans hleD
              refine withPreds_cons rfl rfl ?_
              rintro _ rfl
              refine withPreds_nil rfl ?_
              refine XO.loadHF rfl (by assumption) ty_3 rfl rfl rfl ?_
              refine XO.nil ?_
              exact stepQ_ok trivial (rfl)
            refine stepsD_cons rfl ?_ ?_
            · intro X HD hleD _
              replace hs2 := hs2.mono hleD
              replace hs3 := hs3.mono hleD
              replace hsD30 := hsD30.mono hleD
              replace hsD37 := hsD37.mono hleD
              replace hsQ21 := hsQ21.mono hleD
              replace haccu := haccu.mono hleD
              replace hp1 := hp1.mono hleD
              replace hp2 := hp2.mono hleD
              replace hle0 := hle0.trans hleD
              replace hle1 := hle1.trans hleD
              refine withPreds_nil rfl ?_
              refine XO.move rfl rfl ?_
              refine XO.nil ?_
              exact stepQ_ok trivial (rfl)
            refine stepsD_cons rfl ?_ ?_
            · intro X HD hleD _
              replace hs2 := hs2.mono hleD
              replace hs3 := hs3.mono hleD
              replace hsD30 := hsD30.mono hleD
              replace hsD37 := hsD37.mono hleD
              replace hsQ21 := hsQ21.mono hleD
              replace haccu := haccu.mono hleD
              replace hp1 := hp1.mono hleD
              replace hp2 := hp2.mono hleD
              replace hle0 := hle0.trans hleD
              replace hle1 := hle1.trans hleD
              refine withPreds_nil rfl ?_
              refine XO.move rfl rfl ?_
              refine XO.nil ?_
              exact stepQ_ok trivial (rfl)
            refine stepsD_cons rfl ?_ ?_
            · intro X HD hleD _
              replace hs2 := hs2.mono hleD
              replace hs3 := hs3.mono hleD
              replace hsD30 := hsD30.mono hleD
              replace hsD37 := hsD37.mono hleD
              replace hsQ21 := hsQ21.mono hleD
              replace haccu := haccu.mono hleD
              replace hp1 := hp1.mono hleD
              replace hp2 := hp2.mono hleD
              replace hle0 := hle0.trans hleD
              replace hle1 := hle1.trans hleD
              refine withPreds_cons rfl rfl ?_
              rintro _ rfl
              refine withPreds_cons rfl rfl ?_
              rintro _ rfl
              refine withPreds_nil rfl ?_
              refine XO.indexE rfl rfl Try.underlying42 ty_52 (by omega) (by omega) rfl ?_
              refine XO.nil ?_
              exact stepQ_ok trivial (rfl)
            refine stepsD_cons rfl ?_ ?_
            · intro X HD hleD _
              replace hs2 := hs2.mono hleD
              replace hs3 := hs3.mono hleD
              replace hsD30 := hsD30.mono hleD
              replace hsD37 := hsD37.mono hleD
              replace hsQ21 := hsQ21.mono hleD
              replace haccu := haccu.mono hleD
              replace hp1 := hp1.mono hleD
              replace hp2 := hp2.mono hleD
              replace hle0 := hle0.trans hleD
              replace hle1 := hle1.trans hleD
              refine withPreds_cons rfl rfl ?_
              rintro _ rfl
              refine withPreds_nil rfl ?_
              refine XO.fieldAddr rfl fa_52_1 rfl ?_
              refine XO.nil ?_
              exact stepQ_ok trivial (rfl)
            refine stepsD_cons rfl ?_ ?_
            · intro X HD hleD _
              replace hs2 := hs2.mono hleD
              replace hs3 := hs3.mono hleD
              replace hsD30 := hsD30.mono hleD
              replace hsD37 := hsD37.mono hleD
              replace hsQ21 := hsQ21.mono hleD
              replace haccu := haccu.mono hleD
              replace hp1 := hp1.mono hleD
              replace hp2 := hp2.mono hleD
              replace hle0 := hle0.trans hleD
              replace hle1 := hle1.trans hleD
              refine withPreds_cons rfl rfl ?_
              rintro _ rfl
              refine withPreds_nil rfl ?_
              refine XO.loadHF rfl (by assumption) ty_3 rfl rfl rfl ?_
              refine XO.nil ?_
              exact stepQ_ok trivial (rfl)
            refine stepsD_cons rfl ?_ ?_
            · intro X HD hleD _
              replace hs2 := hs2.mono hleD
              replace hs3 := hs3.mono hleD
              replace hsD30 := hsD30.mono hleD
              replace hsD37 := hsD37.mono hleD
              replace hsQ21 := hsQ21.mono hleD
              replace haccu := haccu.mono hleD
              replace hp1 := hp1.mono hleD
              replace hp2 := hp2.mono hleD
              replace hle0 := hle0.trans hleD
              replace hle1 := hle1.trans hleD
              refine withPreds_cons rfl rfl ?_
              rintro _ rfl
              refine withPreds_cons rfl rfl ?_
              rintro _ rfl
              refine withPreds_nil rfl ?_
              refine XO.callV rfl (add_fn _ _ _) rfl ?_
              refine XO.nil ?_
              exact stepQ_ok trivial (rfl)
            refine stepsD_cons rfl ?_ ?_
            · intro X HD hleD _
              replace hs2 := hs2.mono hleD
              replace hs3 := hs3.mono hleD
              replace hsD30 := hsD30.mono hleD
              replace hsD37 := hsD37.mono hleD
              replace hsQ21 := hsQ21.mono hleD
              replace haccu := haccu.mono hleD
              replace hp1 := hp1.mono hleD
              replace hp2 := hp2.mono hleD
              replace hle0 := hle0.trans hleD
              replace hle1 := hle1.trans hleD
              refine withPreds_cons rfl rfl ?_
              rintro _ rfl
              refine withPreds_cons rfl rfl ?_
              rintro _ rfl
              refine withPreds_nil rfl ?_
              refine XO.build bk_52 bf_52 ze_52 rfl rfl rfl ?_
              refine XO.nil ?_
              exact stepQ_ok trivial (rfl)
            refine stepsD_cons rfl ?_ ?_
            · intro X HD hleD _
              replace hs2 := hs2.mono hleD
              replace hs3 := hs3.mono hleD
              replace hsD30 := hsD30.mono hleD
              replace hsD37 := hsD37.mono hleD
              replace hsQ21 := hsQ21.mono hleD
              replace haccu := haccu.mono hleD
              replace hp1 := hp1.mono hleD
              replace hp2 := hp2.mono hleD
              replace hle0 := hle0.trans hleD
              replace hle1 := hle1.trans hleD
              refine withPreds_cons rfl rfl ?_
              rintro _ rfl
              refine withPreds_nil rfl ?_
              refine XO.buildSlice rfl Try.underlying42 ty_52 ze_52 rfl rfl rfl (fun b111 => ?_)
              refine XO.publish 0 rfl rfl rfl (fun HP111 oP111 hleP111 hbP111 hoP111 => ?_)
              have hsl111 := SlR.lit (ρ := ptR) (l := [⟨x1.X, (x1.Y + x2.Y) % 1073741789⟩]) hbP111 hoP111 (RowsR.one1 rfl)
              replace hs2 := hs2.mono hleP111
              replace hs3 := hs3.mono hleP111
              replace hsD30 := hsD30.mono hleP111
              replace hsD37 := hsD37.mono hleP111
              replace hsQ21 := hsQ21.mono hleP111
              replace haccu := haccu.mono hleP111
              replace hp1 := hp1.mono hleP111
              replace hp2 := hp2.mono hleP111
              replace hle0 := hle0.trans hleP111
              replace hle1 := hle1.trans hleP111
              refine XO.nil ?_
              exact stepQ_ok trivial (⟨_, rfl, hsl111⟩)
            exact stepsD_end rfl
          case tail23 =>
            intro HD hleD _
            replace hs2 := hs2.mono hleD
            replace hs3 := hs3.mono hleD
            replace hsD30 := hsD30.mono hleD
            replace hsD37 := hsD37.mono hleD
            replace hsQ21 := hsQ21.mono hleD
            replace haccu := haccu.mono hleD
            replace hp1 := hp1.mono hleD
            replace hp2 := hp2.mono hleD
            replace hle0 := hle0.trans hleD
            replace hle1 := hle1.trans hleD
            refine withPreds_cons rfl rfl ?_
            rintro _ rfl
            refine withPreds_cons rfl rfl ?_
            rintro _ rfl
            refine withPreds_cons rfl rfl ?_
            rintro _ rfl
            refine withPreds_cons rfl rfl ?_
            rintro _ rfl
            refine withPreds_cons rfl rfl ?_
            rintro _ rfl
            refine withPreds_cons rfl rfl ?_
            rintro _ rfl
            refine withPreds_cons rfl rfl ?_
            rintro _ rfl
            refine withPreds_cons rfl rfl ?_
            rintro _ rfl
            refine withPreds_cons rfl rfl ?_
            rintro _ rfl
            refine withPreds_cons rfl rfl ?_
            rintro _ rfl
            refine withPreds_cons rfl rfl ?_
            rintro _ rfl
            refine withPreds_cons rfl rfl ?_
            rintro _ rfl
            refine withPreds_cons rfl rfl ?_
            rintro _ rfl
            refine withPreds_cons rfl rfl ?_
            rintro _ rfl
            refine withPreds_cons rfl rfl ?_
            rintro _ rfl
            refine withPreds_cons rfl rfl ?_
            rintro _ rfl
            refine withPreds_cons rfl rfl ?_
            rintro _ rfl
            refine withPreds_cons rfl rfl ?_
            rintro _ rfl
            refine withPreds_cons rfl rfl ?_
            rintro _ ⟨bs111, rfl, hsl111⟩
            refine withPreds_nil rfl ?_
            refine XO.appendA 0 rfl rfl haccu rfl rfl hsl111 rfl Try.underlying42 ty_52 ze_52 rfl by_52 (by rw [dealL_len]; simp; omega) rfl (fun p112 a112 c112 hacc112 => ?_)
            refine XO.assign rfl rfl ?_
            refine XO.nil ?_
            refine blockN ?_
            refine XC.seq2 ?_
            refine XC.region ?_
            refine XO.add rfl rfl (wrap_i64 (by omega) (by omega)) rfl ?_
            refine XO.move rfl rfl ?_
            refine XO.nil ?_
            refine loop_next ((k + 1, (p112, a112, c112))) (by show m - (k + 1) < m - k; omega) (prov_cons (by first | rfl | (rw [sum_snoc hx1v hx2v]; rfl)) (prov_cons (rfl) (prov_cons (rfl) (prov_cons (rfl) (prov_cons (rfl) (prov_cons (rfl) (prov_cons (rfl) (prov_cons (rfl) (prov_cons (rfl) prov_nil))))))))) (⟨by show k + 1 ≤ m; omega, rfl, by first | (exact hacc112) | (rw [sum_snoc hx1v hx2v]; exact hacc112)⟩) (by repeat (first | exact List.Sublist.refl _ | apply List.Sublist.cons_cons | apply List.Sublist.cons)) (hle1)
        · obtain rfl : k = m := by omega
          refine XC.exit ?_
          refine seqX_exit ?_
          refine loopX_exit ?_
          refine blockHit rfl ?_
          refine XC.seq2 ?_
          refine XC.seq ?_
          refine XC.region ?_
          refine XO.move rfl rfl ?_
          refine XO.move rfl rfl ?_
          refine XO.callV rfl (add_fn _ _ _) rfl ?_
          refine XO.move rfl rfl ?_
          refine XO.move rfl rfl ?_
          refine XO.callH rfl (deal_fn _ _ _ _ _ _ hsQ21) rfl ?_
          rintro _ HD120 hleD120 ⟨aD120, cD120, rfl, hsD120⟩
          replace hs2 := hs2.mono hleD120
          replace hs3 := hs3.mono hleD120
          replace hsD30 := hsD30.mono hleD120
          replace hsD37 := hsD37.mono hleD120
          replace hsQ21 := hsQ21.mono hleD120
          replace haccu := haccu.mono hleD120
          replace hle0 := hle0.trans hleD120
          replace hle1 := hle1.trans hleD120
          refine XO.move rfl rfl ?_
          refine XO.extract rfl rfl rfl ?_
          refine XO.extract rfl rfl rfl ?_
          refine XO.assign rfl rfl ?_
          refine XO.assign rfl rfl ?_
          refine XO.nil ?_
          refine XC.seq2 ?_
          refine XC.seq ?_
          refine XC.region ?_
          refine XO.move rfl rfl ?_
          refine XO.publishA 0 rfl haccu rfl (fun HQ32 hleQ32 hsQ32 => ?_)
          replace hs2 := hs2.mono hleQ32
          replace hs3 := hs3.mono hleQ32
          replace hsD30 := hsD30.mono hleQ32
          replace hsD37 := hsD37.mono hleQ32
          replace hsQ21 := hsQ21.mono hleQ32
          replace hsD120 := hsD120.mono hleQ32
          replace hle0 := hle0.trans hleQ32
          replace hle1 := hle1.trans hleQ32
          refine XO.callV rfl (recover_fn _ _ _ _ hsQ32 (by rw [dealL_len]; omega)) rfl ?_
          refine XO.move rfl rfl ?_
          refine XO.extract rfl rfl rfl ?_
          refine XO.extract rfl rfl rfl ?_
          refine XO.assign rfl rfl ?_
          refine XO.assign rfl rfl ?_
          refine XO.nil ?_
          refine XC.seq2 ?_
          refine XC.seq ?_
          refine XC.region ?_
          refine XO.move rfl rfl ?_
          refine XO.eql rfl rfl rfl ?_
          refine XO.move rfl rfl ?_
          refine XO.guardT rfl rfl (by rw [e5]; rfl) rfl ?_
          refine XO.move rfl rfl ?_
          refine XO.guardT rfl rfl (by rw [e5]; rfl) rfl ?_
          refine XO.eql rfl rfl rfl ?_
          refine XO.pickT rfl (by rw [e5]; rfl) rfl rfl ?_
          refine XO.move rfl rfl ?_
          refine XO.guardT rfl rfl (by rw [hrec]; rfl) rfl ?_
          refine XO.move rfl rfl ?_
          refine XO.guardT rfl rfl (by rw [hrec]; rfl) rfl ?_
          refine XO.move rfl rfl ?_
          refine XO.guardT rfl rfl (by rw [hrec]; rfl) rfl ?_
          refine XO.callK rfl (same_fn _ _ _ _ _ _ _ hsD120 hsQ32 (by rw [e6, dealL_len]; omega)) rfl ?_
          rintro _ ⟨bS137, rfl, hS137⟩
          refine XO.pickT rfl (by rw [hrec]; rfl) rfl rfl ?_
          refine XO.move rfl rfl ?_
          refine XO.guardT rfl rfl (hS137.2 e6) rfl ?_
          refine XO.move rfl rfl ?_
          refine XO.guardT rfl rfl (hS137.2 e6) rfl ?_
          refine XO.move rfl rfl ?_
          refine XO.guardT rfl rfl (hS137.2 e6) rfl ?_
          refine XO.move rfl rfl ?_
          refine XO.guardT rfl rfl (hS137.2 e6) rfl ?_
          refine XO.callV rfl (add_fn _ _ _) rfl ?_
          refine XO.guardT rfl rfl (hS137.2 e6) rfl ?_
          refine XO.eql rfl rfl rfl ?_
          refine XO.pickT rfl (hS137.2 e6) rfl rfl ?_
          refine XO.assign rfl rfl ?_
          refine XO.nil ?_
          refine XC.seq2 ?_
          refine XC.ret ?_
          refine ⟨rfl, _, [], rfl, (by repeat (first | exact List.Sublist.refl _ | apply List.Sublist.cons)), RetR.mk ?_⟩
          first | rfl | exact congrArg Value.bool (by rw [hrec]; simp)
  · have g4p := of_decide_eq_true g4
    refine XO.guardF rfl rfl (g4) rfl rfl ?_
    refine XO.pickT rfl (g4) rfl rfl ?_
    refine XO.nil ?_
    refine XC.seq2 ?_
    refine XC.condT rfl (rfl) ?_
    refine XC.seq ?_
    refine XC.region ?_
    refine XO.assign rfl rfl ?_
    refine XO.nil ?_
    refine XC.seq2 ?_
    refine XC.ret ?_
    refine seqX_ret ?_
    refine ⟨rfl, _, [], rfl, (by repeat (first | exact List.Sublist.refl _ | apply List.Sublist.cons)), RetR.mk ?_⟩
    first | rfl | exact congrArg Value.bool (by rw [hrec]; simp)

namespace sharesSum
open Go.ChangeShapes Go.WideShapes Go.ChangeAt Go.RowKit
open Go.ChangeMaps (open_string shut_string)
theorem own : ownKnob Try.prog.godebug = none := by kernel_rfl
theorem laidOut : laidOutB Try.prog = true := by kernel_rfl
set_option maxRecDepth 100000 in
theorem lifted (os : Os) (started : os.Started) (H : Type) (enc : TypeId × Value → H) :
    ReturnsInHanded {} Try.checked os 13 .any (Rows.sharesSumSpec.pre6 enc Try.prog Try.f13 Rows.sharesSumRow.domain false) (Rows.sharesSumSpec.post enc Try.prog Try.f13 false true false false) := by
  refine returnsInHanded_of_change (C := Try.checked) own started (by kernel_rfl) Try.func13
    (ChangeSpec.witness6 (enc := enc) (C := Try.checked) false ⟨#[], #[.int .i64 0, .int .i64 0, .slice none 0 0, .slice none 0 0, .int .i64 0], []⟩ 8 (by kernel_rfl) (by kernel_rfl) (by kernel_rfl) (by kernel_rfl)) ?_
  intro W base args ds gs before hval0 hW hcnd _
  have hval : ∀ (j : Nat) t v, Try.f13.params[j]? = some t → args[j]? = some v → Value.okWide Try.prog W .any base t v := hval0
  have hW' := hW
  obtain ⟨p, q, hA0, hV, rfl, hfz, hnd⟩ := hW
  have hA : DataW.TrodAll enc Try.prog W 0 (fun _ => true) true Try.f13.params.toList args.toList ds p := hA0
  rw [Try.params13] at hA hval
  obtain ⟨v0, vs0, d0, ds0, p0, q0, hargs, rfl, rfl, h0, r0⟩ := trodAll_cons hA
  obtain ⟨v1, vs1, d1, ds1, p1, q1, rfl, rfl, rfl, h1, r1⟩ := trodAll_cons r0
  obtain ⟨v2, vs2, d2, ds2, p2, q2, rfl, rfl, rfl, h2, r2⟩ := trodAll_cons r1
  obtain ⟨v3, vs3, d3, ds3, p3, q3, rfl, rfl, rfl, h3, r3⟩ := trodAll_cons r2
  obtain ⟨v4, vs4, d4, ds4, p4, q4, rfl, rfl, rfl, h4, r4⟩ := trodAll_cons r3
  obtain ⟨rfl, rfl, rfl⟩ := trodAll_nil r4
  obtain rfl : args = #[v0, v1, v2, v3, v4] := by cases args; simp_all
  obtain ⟨rfl, rfl⟩ := trodVars_none hV
  obtain ⟨a0, rfl, rfl, rfl, w0⟩ := open_int Try.underlying3 (hval 0 3 v0 rfl rfl) h0
  obtain ⟨a1, rfl, rfl, rfl, w1⟩ := open_int Try.underlying3 (hval 1 3 v1 rfl rfl) h1
  obtain ⟨a2, len2, cap2, rfl⟩ := okWide_slice Try.underlying29 (hval 2 29 v2 rfl rfl)
  have k2 := h2
  have lt2 : ∀ x ∈ p2, x.block < W.heap.size := by obtain ⟨m, hm⟩ := k2; exact DataW.trod_lt m _ _ _ hm
  obtain ⟨fuel2, hf2⟩ := h2
  obtain ⟨l2, ⟨aa2, cc2, hcs2, hs2⟩, hw2⟩ := opens_ints enc W 0 _ _ fuel2 _ _ hf2
  simp [Value.cells] at hcs2
  obtain ⟨rfl, rfl, rfl⟩ := hcs2
  obtain ⟨a3, len3, cap3, rfl⟩ := okWide_slice Try.underlying29 (hval 3 29 v3 rfl rfl)
  have k3 := h3
  have lt3 : ∀ x ∈ p3, x.block < W.heap.size := by obtain ⟨m, hm⟩ := k3; exact DataW.trod_lt m _ _ _ hm
  obtain ⟨fuel3, hf3⟩ := h3
  obtain ⟨l3, ⟨aa3, cc3, hcs3, hs3⟩, hw3⟩ := opens_ints enc W 0 _ _ fuel3 _ _ hf3
  simp [Value.cells] at hcs3
  obtain ⟨rfl, rfl, rfl⟩ := hcs3
  obtain ⟨a4, rfl, rfl, rfl, w4⟩ := open_int Try.underlying3 (hval 4 3 v4 rfl rfl) h4
  clear hA0 hval0
  refine (sharesSum_fn a0 a1 _ _ _ _ _ _ a4 (hpOf W) hs2 hs3).below.mono fun e W' ⟨he, bel⟩ => ?_
  subst he
  exact ⟨_, rfl, _, _, _, [], _, [], hW', trodAll_mk1 (shut_bool Try.underlying4 _), (trodAll_cons_mk (shut_int Try.underlying3 w0) (trodAll_cons_mk (shut_int Try.underlying3 w1) (trodAll_cons_mk (Below.trod laidOut (by kernel_rfl) (of_decide_eq_true (by kernel_rfl)) k2 bel lt2) (trodAll_cons_mk (Below.trod laidOut (by kernel_rfl) (of_decide_eq_true (by kernel_rfl)) k3 bel lt3) (trodAll_cons_mk (shut_int Try.underlying3 w4) trodAll_mk0))))), rfl, bel.frame _, fun h => by cases h⟩
theorem over : Rows.sharesSumRow.holds Try.pinned (OpenSpec.ofChange Rows.sharesSumSpec) :=
  OpenClaim.holds_of_wide 13 Try.f13 rfl rfl rfl rfl rfl rfl rfl ⟨rfl, rfl, rfl, rfl, rfl⟩ rfl rfl rfl rfl rfl (by kernel_rfl) Try.func13 (by kernel_rfl)
    (of_decide_eq_true (by kernel_rfl)) (by unfold Func.isWrapper; first | (rw [if_pos (by decide +kernel)]; kernel_rfl) | (rw [if_neg (by decide +kernel)]; exact ⟨rfl, rfl⟩))
    (fun os started H enc _ => lifted os started H enc)
/-- The given statement. -/
theorem proved : Rows.SharesSumSaid := over
#print axioms proved
end sharesSum
end Go.Proofs.Ytdiknopliedddaa
