/- The law FieldSums: it returns true, whatever the input, and what it was handed reads as before. No condition. -/
import Derived.Test.YtdiknopliedddaaRaO
import Derived.Test.YtdiknopliedddaaRaW
import Derived.Test.YtdiknopliedddaaRaQ
import Derived.Test.YtdiknopliedddaaXLn
import Derived.Test.YtdiknopliedddaaRows
import Derived.WalkKit
import Derived.ProofKit
import Derived.OpenShut
import Derived.ShutString
import Derived.ChangeOld
import Derived.Below
set_option autoImplicit false
set_option linter.unusedVariables false
set_option linter.unusedSimpArgs false
namespace Go.Proofs.Ytdiknopliedddaa
open Go.XL

theorem by_3 : Nat.ble (Try.prog.bytesOf 3) 4096 = true := by kernel_rfl

set_option maxRecDepth 100000 in
theorem fieldSums_fn (a0 : Option Addr) (c0 : Nat) (l0 : List Int) (a1 : Option Addr) (c1 : Nat) (l1 : List Int) (m t : Int) (H : Hp) (hs0 : SlR (intR .i64) H a0 c0 l0) (hs1 : SlR (intR .i64) H a1 c1 l1) : FnC Try.prog 8 #[.slice a0 l0.length c0, .slice a1 l1.length c1, .int .i64 m, .int .i64 t] H [] (RetR fun v _ _ => v = .bool true) := by
  refine FnC.intro (args := [.slice a0 l0.length c0, .slice a1 l1.length c1, .int .i64 m, .int .i64 t]) Try.func8 rfl rfl Try.ntmps8 rfl rfl rfl fun G rest => ?_
  refine XC.seq ?_
  refine XC.region ?_
  refine XO.assign rfl rfl ?_
  refine XO.nil ?_
  refine XC.seq2 ?_
  refine XC.seq ?_
  refine XC.seq ?_
  refine XC.region ?_
  refine XO.callV rfl (sane12 _) rfl ?_
  refine XO.notB rfl rfl ?_
  refine XO.nil ?_
  refine XC.seq2 ?_
  refine XC.condF rfl (rfl) ?_
  refine XC.skip ?_
  refine XC.seq2 ?_
  refine XC.seq ?_
  refine XC.seq ?_
  refine XC.region ?_
  refine XO.move rfl rfl ?_
  refine XO.lenS (ts := #[]) rfl Try.underlying29 rfl ?_
  refine XO.gtr rfl rfl rfl ?_
  refine XO.move rfl rfl ?_
  refine XO.guardC rfl rfl rfl rfl (fun g2 => ?_) (fun g2 => ?_)
  · have g2p := of_decide_eq_false g2
    refine XO.move rfl rfl ?_
    refine XO.guardT rfl rfl (g2) rfl ?_
    refine XO.lenS (ts := #[]) rfl Try.underlying29 rfl ?_
    refine XO.guardT rfl rfl (g2) rfl ?_
    refine XO.gtr rfl rfl rfl ?_
    refine XO.pickF rfl (g2) rfl rfl ?_
    refine XO.nil ?_
    refine XC.seq2 ?_
    refine XC.cond rfl (fun c1_3 => ?_) (fun c1_3 => ?_)
    · refine XC.seq ?_
      refine XC.region ?_
      refine XO.assign rfl rfl ?_
      refine XO.nil ?_
      refine XC.seq2 ?_
      refine XC.ret ?_
      refine seqX_ret ?_
      refine ⟨rfl, _, [], rfl, (by repeat (first | exact List.Sublist.refl _ | apply List.Sublist.cons)), RetR.mk ?_⟩
      first | rfl | exact congrArg Value.bool (decide_eq_true (mul_val _ _ _ _))
    · refine XC.skip ?_
      refine XC.seq2 ?_
      refine XC.seq ?_
      refine XC.region ?_
      refine XO.assign rfl rfl ?_
      refine XO.assign rfl rfl ?_
      refine XO.nil ?_
      refine XC.seq2 ?_
      refine XC.seq ?_
      refine XC.seq ?_
      refine XC.region ?_
      refine XO.move rfl rfl ?_
      refine XO.lenS (ts := #[]) rfl Try.underlying29 rfl ?_
      refine XO.move rfl rfl ?_
      refine XO.lenS (ts := #[]) rfl Try.underlying29 rfl ?_
      refine XO.maxI (c := ((max l0.length l1.length : Nat) : Int)) rfl rfl (by split <;> omega) rfl ?_
      refine XO.move rfl rfl ?_
      refine XO.nil ?_
      refine XC.seq2 ?_
      refine XC.block ?_
      refine XC.keep [9, 10, 28, 0, 1, 2, 3, 27] rfl ?_
      refine XC.open0 0 ?_
      refine XC.open0 0 ?_
      refine XC.loop (base := [(0, _), (1, _), (2, _), (3, _), (27, _)]) (fun s : Nat × ((Nat × SObj) × Option Addr × Nat) × ((Nat × SObj) × Option Addr × Nat) => [(9, .slice s.2.1.2.1 (sumL l0 l1 s.1).length s.2.1.2.2), (10, .slice s.2.2.2.1 (mulL m l0 s.1).length s.2.2.2.2), (28, .int .i64 (s.1 : Nat))]) (fun s Hl own => s.1 ≤ max l0.length l1.length ∧ Le H Hl ∧ s.2.1.1 :: s.2.2.1 :: rest = own ∧ Acc (intR .i64) 3 Hl s.2.1.1 s.2.1.2.1 s.2.1.2.2 (sumL l0 l1 s.1) ∧ Acc (intR .i64) 3 Hl s.2.2.1 s.2.2.2.1 s.2.2.2.2 (mulL m l0 s.1)) (fun s => max l0.length l1.length - s.1) (0, ((0, .nothing), none, 0), ((0, .nothing), none, 0)) (prov_cons (rfl) (prov_cons (rfl) (prov_cons (rfl) (prov_cons (rfl) (prov_cons (rfl) (prov_cons (rfl) (prov_cons (rfl) (prov_cons (rfl) prov_nil)))))))) (List.Sublist.refl _) ⟨Nat.zero_le _, Le.refl _, rfl, Acc.nil _ _ _ _, Acc.nil _ _ _ _⟩ ?_
      rintro ⟨k, ⟨ps, as_, cs⟩, ⟨pm, am, cm⟩⟩ Hl _ hle ⟨hk, hH, rfl, hsa, hm⟩
      replace hs0 := hs0.mono hH
      replace hs1 := hs1.mono hH
      simp only at hk hsa hm ⊢
      refine XC.seq ?_
      refine XC.region ?_
      refine XO.lss rfl rfl rfl ?_
      refine XO.nil ?_
      refine XC.seq2 ?_
      refine XC.seq ?_
      refine XC.cond rfl (fun c2_5 => ?_) (fun c2_5 => ?_)
      · refine XC.skip ?_
        refine XC.seq2 ?_
        refine XC.seq ?_
        refine XC.block ?_
        refine XC.seq ?_
        refine XC.region ?_
        refine XO.move rfl rfl ?_
        refine XO.assign rfl rfl ?_
        refine XO.nil ?_
        refine XC.seq2 ?_
        refine XC.seq ?_
        refine XC.region ?_
        refine XO.assign rfl rfl ?_
        refine XO.nil ?_
        refine XC.seq2 ?_
        refine XC.seq ?_
        refine XC.seq ?_
        refine XC.region ?_
        refine XO.move rfl rfl ?_
        refine XO.move rfl rfl ?_
        refine XO.lenS (ts := #[]) rfl Try.underlying29 rfl ?_
        refine XO.lss rfl rfl rfl ?_
        refine XO.nil ?_
        refine XC.seq2 ?_
        refine XC.cond rfl (fun c3_6 => ?_) (fun c3_6 => ?_)
        · refine XC.seq ?_
          refine XC.region ?_
          refine XO.move rfl rfl ?_
          refine XO.move rfl rfl ?_
          refine XO.indexN rfl (by assumption) rfl Try.underlying29 ty_3 (by omega) rfl ?_
          rintro eb eo _ x0 hx0 rfl hp0
          refine XO.loadH rfl (by assumption) ty_3 rfl rfl rfl ?_
          refine XO.assign rfl rfl ?_
          refine XO.nil ?_
          refine XC.seq2 ?_
          refine XC.region ?_
          refine XO.move rfl rfl ?_
          refine XO.move rfl rfl ?_
          refine XO.move rfl rfl ?_
          refine XO.move rfl rfl ?_
          refine XO.indexN rfl (by assumption) rfl Try.underlying29 ty_3 (by omega) rfl ?_
          rintro eb2 eo2 _ xm hxm rfl hpm
          refine XO.loadH rfl (by assumption) ty_3 rfl rfl rfl ?_
          refine XO.callV rfl (mul_fn _ _ _) rfl ?_
          refine XO.buildSlice rfl Try.underlying29 ty_3 ze_3 rfl rfl rfl (fun b46 => ?_)
          refine XO.publish 0 rfl rfl rfl (fun HP oP hleP hbP hoP => ?_)
          have hsl := SlR.ints hbP hoP (l := [_]) rfl
          replace hm := hm.mono hleP
          replace hsa := hsa.mono hleP
          replace hs0 := hs0.mono hleP
          replace hs1 := hs1.mono hleP
          replace hH := hH.trans hleP
          refine XO.appendA 1 rfl rfl hm rfl rfl hsl rfl Try.underlying29 ty_3 ze_3 rfl by_3 (by rw [mulL_len]; simp; omega) rfl (fun pm am cm hm => ?_)
          refine XO.assign rfl rfl ?_
          refine XO.nil ?_
          refine XC.seq2 ?_
          refine XC.seq ?_
          refine XC.seq ?_
          refine XC.region ?_
          refine XO.move rfl rfl ?_
          refine XO.move rfl rfl ?_
          refine XO.lenS (ts := #[]) rfl Try.underlying29 rfl ?_
          refine XO.lss rfl rfl rfl ?_
          refine XO.nil ?_
          refine XC.seq2 ?_
          refine XC.cond rfl (fun c4_11 => ?_) (fun c4_11 => ?_)
          · refine XC.region ?_
            refine XO.move rfl rfl ?_
            refine XO.move rfl rfl ?_
            refine XO.move rfl rfl ?_
            refine XO.indexN rfl (by assumption) rfl Try.underlying29 ty_3 (by omega) rfl ?_
            rintro eb3 eo3 _ x1 hx1 rfl hp1
            refine XO.loadH rfl (by assumption) ty_3 rfl rfl rfl ?_
            refine XO.callV rfl (add_fn _ _ _) rfl ?_
            refine XO.assign rfl rfl ?_
            refine XO.nil ?_
            refine XC.seq2 ?_
            refine XC.region ?_
            refine XO.move rfl rfl ?_
            refine XO.move rfl rfl ?_
            refine XO.buildSlice rfl Try.underlying29 ty_3 ze_3 rfl rfl rfl (fun b60 => ?_)
            refine XO.publish 0 rfl rfl rfl (fun HP oP hleP hbP hoP => ?_)
            have hsl := SlR.ints hbP hoP (l := [_]) rfl
            replace hm := hm.mono hleP
            replace hsa := hsa.mono hleP
            replace hs0 := hs0.mono hleP
            replace hs1 := hs1.mono hleP
            replace hH := hH.trans hleP
            refine XO.appendA 0 rfl rfl hsa rfl rfl hsl rfl Try.underlying29 ty_3 ze_3 rfl by_3 (by rw [sumL_len]; simp; omega) rfl (fun ps as_ cs hsa => ?_)
            refine XO.assign rfl rfl ?_
            refine XO.nil ?_
            refine blockN ?_
            refine XC.seq2 ?_
            refine XC.region ?_
            refine XO.add rfl rfl (wrap_i64 (by omega) (by omega)) rfl ?_
            refine XO.move rfl rfl ?_
            refine XO.nil ?_
            refine loop_next ((k + 1, (ps, as_, cs), (pm, am, cm))) (by show max l0.length l1.length - (k + 1) < max l0.length l1.length - k; omega) (prov_cons (by first | (exfalso; omega) | (rw [sumL_succ (zip_tt hx0 hx1)]; rfl) | (rw [sumL_succ (zip_tf hx0 (by omega))]; rfl) | (rw [sumL_succ (zip_ft (by omega) hx1)]; rfl)) (prov_cons (by first | (rw [mulL_succ hxm]; rfl) | (rw [mulL_stay (by omega)]; rfl)) (prov_cons (rfl) (prov_cons (rfl) (prov_cons (rfl) (prov_cons (rfl) (prov_cons (rfl) (prov_cons (rfl) prov_nil)))))))) (⟨by show k + 1 ≤ _; omega, hH, rfl, by first | (exfalso; omega) | (rw [sumL_succ (zip_tt hx0 hx1)]; exact hsa) | (rw [sumL_succ (zip_tf hx0 (by omega))]; exact hsa) | (rw [sumL_succ (zip_ft (by omega) hx1)]; exact hsa), by first | (rw [mulL_succ hxm]; exact hm) | (rw [mulL_stay (by omega)]; exact hm)⟩) (by repeat (first | exact List.Sublist.refl _ | apply List.Sublist.cons)) hH
          · refine XC.skip ?_
            refine XC.seq2 ?_
            refine XC.region ?_
            refine XO.move rfl rfl ?_
            refine XO.move rfl rfl ?_
            refine XO.buildSlice rfl Try.underlying29 ty_3 ze_3 rfl rfl rfl (fun b60 => ?_)
            refine XO.publish 0 rfl rfl rfl (fun HP oP hleP hbP hoP => ?_)
            have hsl := SlR.ints hbP hoP (l := [_]) rfl
            replace hm := hm.mono hleP
            replace hsa := hsa.mono hleP
            replace hs0 := hs0.mono hleP
            replace hs1 := hs1.mono hleP
            replace hH := hH.trans hleP
            refine XO.appendA 0 rfl rfl hsa rfl rfl hsl rfl Try.underlying29 ty_3 ze_3 rfl by_3 (by rw [sumL_len]; simp; omega) rfl (fun ps as_ cs hsa => ?_)
            refine XO.assign rfl rfl ?_
            refine XO.nil ?_
            refine blockN ?_
            refine XC.seq2 ?_
            refine XC.region ?_
            refine XO.add rfl rfl (wrap_i64 (by omega) (by omega)) rfl ?_
            refine XO.move rfl rfl ?_
            refine XO.nil ?_
            refine loop_next ((k + 1, (ps, as_, cs), (pm, am, cm))) (by show max l0.length l1.length - (k + 1) < max l0.length l1.length - k; omega) (prov_cons (by first | (exfalso; omega) | (rw [sumL_succ (zip_tt hx0 hx1)]; rfl) | (rw [sumL_succ (zip_tf hx0 (by omega))]; rfl) | (rw [sumL_succ (zip_ft (by omega) hx1)]; rfl)) (prov_cons (by first | (rw [mulL_succ hxm]; rfl) | (rw [mulL_stay (by omega)]; rfl)) (prov_cons (rfl) (prov_cons (rfl) (prov_cons (rfl) (prov_cons (rfl) (prov_cons (rfl) (prov_cons (rfl) prov_nil)))))))) (⟨by show k + 1 ≤ _; omega, hH, rfl, by first | (exfalso; omega) | (rw [sumL_succ (zip_tt hx0 hx1)]; exact hsa) | (rw [sumL_succ (zip_tf hx0 (by omega))]; exact hsa) | (rw [sumL_succ (zip_ft (by omega) hx1)]; exact hsa), by first | (rw [mulL_succ hxm]; exact hm) | (rw [mulL_stay (by omega)]; exact hm)⟩) (by repeat (first | exact List.Sublist.refl _ | apply List.Sublist.cons)) hH
        · refine XC.skip ?_
          refine XC.seq2 ?_
          refine XC.seq ?_
          refine XC.seq ?_
          refine XC.region ?_
          refine XO.move rfl rfl ?_
          refine XO.move rfl rfl ?_
          refine XO.lenS (ts := #[]) rfl Try.underlying29 rfl ?_
          refine XO.lss rfl rfl rfl ?_
          refine XO.nil ?_
          refine XC.seq2 ?_
          refine XC.cond rfl (fun c4_16 => ?_) (fun c4_16 => ?_)
          · refine XC.region ?_
            refine XO.move rfl rfl ?_
            refine XO.move rfl rfl ?_
            refine XO.move rfl rfl ?_
            refine XO.indexN rfl (by assumption) rfl Try.underlying29 ty_3 (by omega) rfl ?_
            rintro eb3 eo3 _ x1 hx1 rfl hp1
            refine XO.loadH rfl (by assumption) ty_3 rfl rfl rfl ?_
            refine XO.callV rfl (add_fn _ _ _) rfl ?_
            refine XO.assign rfl rfl ?_
            refine XO.nil ?_
            refine XC.seq2 ?_
            refine XC.region ?_
            refine XO.move rfl rfl ?_
            refine XO.move rfl rfl ?_
            refine XO.buildSlice rfl Try.underlying29 ty_3 ze_3 rfl rfl rfl (fun b60 => ?_)
            refine XO.publish 0 rfl rfl rfl (fun HP oP hleP hbP hoP => ?_)
            have hsl := SlR.ints hbP hoP (l := [_]) rfl
            replace hm := hm.mono hleP
            replace hsa := hsa.mono hleP
            replace hs0 := hs0.mono hleP
            replace hs1 := hs1.mono hleP
            replace hH := hH.trans hleP
            refine XO.appendA 0 rfl rfl hsa rfl rfl hsl rfl Try.underlying29 ty_3 ze_3 rfl by_3 (by rw [sumL_len]; simp; omega) rfl (fun ps as_ cs hsa => ?_)
            refine XO.assign rfl rfl ?_
            refine XO.nil ?_
            refine blockN ?_
            refine XC.seq2 ?_
            refine XC.region ?_
            refine XO.add rfl rfl (wrap_i64 (by omega) (by omega)) rfl ?_
            refine XO.move rfl rfl ?_
            refine XO.nil ?_
            refine loop_next ((k + 1, (ps, as_, cs), (pm, am, cm))) (by show max l0.length l1.length - (k + 1) < max l0.length l1.length - k; omega) (prov_cons (by first | (exfalso; omega) | (rw [sumL_succ (zip_tt hx0 hx1)]; rfl) | (rw [sumL_succ (zip_tf hx0 (by omega))]; rfl) | (rw [sumL_succ (zip_ft (by omega) hx1)]; rfl)) (prov_cons (by first | (rw [mulL_succ hxm]; rfl) | (rw [mulL_stay (by omega)]; rfl)) (prov_cons (rfl) (prov_cons (rfl) (prov_cons (rfl) (prov_cons (rfl) (prov_cons (rfl) (prov_cons (rfl) prov_nil)))))))) (⟨by show k + 1 ≤ _; omega, hH, rfl, by first | (exfalso; omega) | (rw [sumL_succ (zip_tt hx0 hx1)]; exact hsa) | (rw [sumL_succ (zip_tf hx0 (by omega))]; exact hsa) | (rw [sumL_succ (zip_ft (by omega) hx1)]; exact hsa), by first | (rw [mulL_succ hxm]; exact hm) | (rw [mulL_stay (by omega)]; exact hm)⟩) (by repeat (first | exact List.Sublist.refl _ | apply List.Sublist.cons)) hH
          · refine XC.skip ?_
            refine XC.seq2 ?_
            refine XC.region ?_
            refine XO.move rfl rfl ?_
            refine XO.move rfl rfl ?_
            refine XO.buildSlice rfl Try.underlying29 ty_3 ze_3 rfl rfl rfl (fun b60 => ?_)
            refine XO.publish 0 rfl rfl rfl (fun HP oP hleP hbP hoP => ?_)
            have hsl := SlR.ints hbP hoP (l := [_]) rfl
            replace hm := hm.mono hleP
            replace hsa := hsa.mono hleP
            replace hs0 := hs0.mono hleP
            replace hs1 := hs1.mono hleP
            replace hH := hH.trans hleP
            refine XO.appendA 0 rfl rfl hsa rfl rfl hsl rfl Try.underlying29 ty_3 ze_3 rfl by_3 (by rw [sumL_len]; simp; omega) rfl (fun ps as_ cs hsa => ?_)
            refine XO.assign rfl rfl ?_
            refine XO.nil ?_
            refine blockN ?_
            refine XC.seq2 ?_
            refine XC.region ?_
            refine XO.add rfl rfl (wrap_i64 (by omega) (by omega)) rfl ?_
            refine XO.move rfl rfl ?_
            refine XO.nil ?_
            refine loop_next ((k + 1, (ps, as_, cs), (pm, am, cm))) (by show max l0.length l1.length - (k + 1) < max l0.length l1.length - k; omega) (prov_cons (by first | (exfalso; omega) | (rw [sumL_succ (zip_tt hx0 hx1)]; rfl) | (rw [sumL_succ (zip_tf hx0 (by omega))]; rfl) | (rw [sumL_succ (zip_ft (by omega) hx1)]; rfl)) (prov_cons (by first | (rw [mulL_succ hxm]; rfl) | (rw [mulL_stay (by omega)]; rfl)) (prov_cons (rfl) (prov_cons (rfl) (prov_cons (rfl) (prov_cons (rfl) (prov_cons (rfl) (prov_cons (rfl) prov_nil)))))))) (⟨by show k + 1 ≤ _; omega, hH, rfl, by first | (exfalso; omega) | (rw [sumL_succ (zip_tt hx0 hx1)]; exact hsa) | (rw [sumL_succ (zip_tf hx0 (by omega))]; exact hsa) | (rw [sumL_succ (zip_ft (by omega) hx1)]; exact hsa), by first | (rw [mulL_succ hxm]; exact hm) | (rw [mulL_stay (by omega)]; exact hm)⟩) (by repeat (first | exact List.Sublist.refl _ | apply List.Sublist.cons)) hH
      · obtain rfl : k = max l0.length l1.length := by omega
        refine XC.publishA 0 rfl hsa rfl (fun HQ hleQ hsA => ?_)
        replace hm := hm.mono hleQ
        refine XC.publishA 0 rfl hm rfl (fun HR hleR hsM => ?_)
        replace hsA := hsA.mono hleR
        replace hs0 := (hs0.mono hleQ).mono hleR
        replace hs1 := (hs1.mono hleQ).mono hleR
        refine XC.exit ?_
        refine seqX_exit ?_
        refine loopX_exit ?_
        refine blockHit rfl ?_
        refine XC.seq2 ?_
        refine XC.seq ?_
        refine XC.region ?_
        refine XO.move rfl rfl ?_
        refine XO.move rfl rfl ?_
        refine XO.callV rfl (value_fn _ _ (sumL l0 l1 (max l0.length l1.length)) _ _ hsA (by first | omega | (rw [sumL_len]; omega) | (rw [mulL_len]; omega))) rfl ?_
        refine XO.move rfl rfl ?_
        refine XO.move rfl rfl ?_
        refine XO.callV rfl (value_fn _ _ l0 _ _ hs0 (by first | omega | (rw [sumL_len]; omega) | (rw [mulL_len]; omega))) rfl ?_
        refine XO.move rfl rfl ?_
        refine XO.move rfl rfl ?_
        refine XO.callV rfl (value_fn _ _ l1 _ _ hs1 (by first | omega | (rw [sumL_len]; omega) | (rw [mulL_len]; omega))) rfl ?_
        refine XO.callV rfl (add_fn _ _ _) rfl ?_
        refine XO.eql rfl rfl rfl ?_
        refine XO.move rfl rfl ?_
        refine XO.guardT rfl rfl (decide_eq_true (sum_val _ _ _)) rfl ?_
        refine XO.move rfl rfl ?_
        refine XO.guardT rfl rfl (decide_eq_true (sum_val _ _ _)) rfl ?_
        refine XO.move rfl rfl ?_
        refine XO.guardT rfl rfl (decide_eq_true (sum_val _ _ _)) rfl ?_
        refine XO.callV rfl (value_fn _ _ (mulL m l0 (max l0.length l1.length)) _ _ hsM (by first | omega | (rw [sumL_len]; omega) | (rw [mulL_len]; omega))) rfl ?_
        refine XO.guardT rfl rfl (decide_eq_true (sum_val _ _ _)) rfl ?_
        refine XO.move rfl rfl ?_
        refine XO.guardT rfl rfl (decide_eq_true (sum_val _ _ _)) rfl ?_
        refine XO.move rfl rfl ?_
        refine XO.guardT rfl rfl (decide_eq_true (sum_val _ _ _)) rfl ?_
        refine XO.move rfl rfl ?_
        refine XO.guardT rfl rfl (decide_eq_true (sum_val _ _ _)) rfl ?_
        refine XO.callV rfl (value_fn _ _ l0 _ _ hs0 (by first | omega | (rw [sumL_len]; omega) | (rw [mulL_len]; omega))) rfl ?_
        refine XO.guardT rfl rfl (decide_eq_true (sum_val _ _ _)) rfl ?_
        refine XO.callV rfl (mul_fn _ _ _) rfl ?_
        refine XO.guardT rfl rfl (decide_eq_true (sum_val _ _ _)) rfl ?_
        refine XO.eql rfl rfl rfl ?_
        refine XO.pickT rfl (decide_eq_true (sum_val _ _ _)) rfl rfl ?_
        refine XO.assign rfl rfl ?_
        refine XO.nil ?_
        refine XC.seq2 ?_
        refine XC.ret ?_
        refine ⟨rfl, _, [], rfl, (by repeat (first | exact List.Sublist.refl _ | apply List.Sublist.cons)), RetR.mk ?_⟩
        first | rfl | exact congrArg Value.bool (decide_eq_true (mul_val _ _ _ _))
  · have g2p := of_decide_eq_true g2
    refine XO.guardF rfl rfl (g2) rfl rfl ?_
    refine XO.guardF rfl rfl (g2) rfl rfl ?_
    refine XO.pickT rfl (g2) rfl rfl ?_
    refine XO.nil ?_
    refine XC.seq2 ?_
    refine XC.condT rfl (rfl) ?_
    refine XC.seq ?_
    refine XC.region ?_
    refine XO.assign rfl rfl ?_
    refine XO.nil ?_
    refine XC.seq2 ?_
    refine XC.ret ?_
    refine seqX_ret ?_
    refine ⟨rfl, _, [], rfl, (by repeat (first | exact List.Sublist.refl _ | apply List.Sublist.cons)), RetR.mk ?_⟩
    first | rfl | exact congrArg Value.bool (decide_eq_true (mul_val _ _ _ _))

namespace fieldSums
open Go.ChangeShapes Go.WideShapes Go.ChangeAt Go.RowKit
open Go.ChangeMaps (open_string shut_string)
theorem own : ownKnob Try.prog.godebug = none := by kernel_rfl
theorem laidOut : laidOutB Try.prog = true := by kernel_rfl
set_option maxRecDepth 100000 in
theorem lifted (os : Os) (started : os.Started) (H : Type) (enc : TypeId × Value → H) :
    ReturnsInHanded {} Try.checked os 8 .any (Rows.fieldSumsSpec.pre6 enc Try.prog Try.f8 Rows.fieldSumsRow.domain false) (Rows.fieldSumsSpec.post enc Try.prog Try.f8 false true false false) := by
  refine returnsInHanded_of_change (C := Try.checked) own started (by kernel_rfl) Try.func8
    (ChangeSpec.witness6 (enc := enc) (C := Try.checked) false ⟨#[], #[.slice none 0 0, .slice none 0 0, .int .i64 0, .int .i64 0], []⟩ 8 (by kernel_rfl) (by kernel_rfl) (by kernel_rfl) (by kernel_rfl)) ?_
  intro W base args ds gs before hval0 hW hcnd _
  have hval : ∀ (j : Nat) t v, Try.f8.params[j]? = some t → args[j]? = some v → Value.okWide Try.prog W .any base t v := hval0
  have hW' := hW
  obtain ⟨p, q, hA0, hV, rfl, hfz, hnd⟩ := hW
  have hA : DataW.TrodAll enc Try.prog W 0 (fun _ => true) true Try.f8.params.toList args.toList ds p := hA0
  rw [Try.params8] at hA hval
  obtain ⟨v0, vs0, d0, ds0, p0, q0, hargs, rfl, rfl, h0, r0⟩ := trodAll_cons hA
  obtain ⟨v1, vs1, d1, ds1, p1, q1, rfl, rfl, rfl, h1, r1⟩ := trodAll_cons r0
  obtain ⟨v2, vs2, d2, ds2, p2, q2, rfl, rfl, rfl, h2, r2⟩ := trodAll_cons r1
  obtain ⟨v3, vs3, d3, ds3, p3, q3, rfl, rfl, rfl, h3, r3⟩ := trodAll_cons r2
  obtain ⟨rfl, rfl, rfl⟩ := trodAll_nil r3
  obtain rfl : args = #[v0, v1, v2, v3] := by cases args; simp_all
  obtain ⟨rfl, rfl⟩ := trodVars_none hV
  obtain ⟨a0, len0, cap0, rfl⟩ := okWide_slice Try.underlying29 (hval 0 29 v0 rfl rfl)
  have k0 := h0
  have lt0 : ∀ x ∈ p0, x.block < W.heap.size := by obtain ⟨m, hm⟩ := k0; exact DataW.trod_lt m _ _ _ hm
  obtain ⟨fuel0, hf0⟩ := h0
  obtain ⟨l0, ⟨aa0, cc0, hcs0, hs0⟩, hw0⟩ := opens_ints enc W 0 _ _ fuel0 _ _ hf0
  simp [Value.cells] at hcs0
  obtain ⟨rfl, rfl, rfl⟩ := hcs0
  obtain ⟨a1, len1, cap1, rfl⟩ := okWide_slice Try.underlying29 (hval 1 29 v1 rfl rfl)
  have k1 := h1
  have lt1 : ∀ x ∈ p1, x.block < W.heap.size := by obtain ⟨m, hm⟩ := k1; exact DataW.trod_lt m _ _ _ hm
  obtain ⟨fuel1, hf1⟩ := h1
  obtain ⟨l1, ⟨aa1, cc1, hcs1, hs1⟩, hw1⟩ := opens_ints enc W 0 _ _ fuel1 _ _ hf1
  simp [Value.cells] at hcs1
  obtain ⟨rfl, rfl, rfl⟩ := hcs1
  obtain ⟨a2, rfl, rfl, rfl, w2⟩ := open_int Try.underlying3 (hval 2 3 v2 rfl rfl) h2
  obtain ⟨a3, rfl, rfl, rfl, w3⟩ := open_int Try.underlying3 (hval 3 3 v3 rfl rfl) h3
  clear hA0 hval0
  refine (fieldSums_fn _ _ _ _ _ _ a2 a3 (hpOf W) hs0 hs1).below.mono fun e W' ⟨he, bel⟩ => ?_
  subst he
  exact ⟨_, rfl, _, _, _, [], _, [], hW', trodAll_mk1 (shut_bool Try.underlying4 _), (trodAll_cons_mk (Below.trod laidOut (by kernel_rfl) (of_decide_eq_true (by kernel_rfl)) k0 bel lt0) (trodAll_cons_mk (Below.trod laidOut (by kernel_rfl) (of_decide_eq_true (by kernel_rfl)) k1 bel lt1) (trodAll_cons_mk (shut_int Try.underlying3 w2) (trodAll_cons_mk (shut_int Try.underlying3 w3) trodAll_mk0)))), rfl, bel.frame _, fun h => by cases h⟩
theorem over : Rows.fieldSumsRow.holds Try.pinned (OpenSpec.ofChange Rows.fieldSumsSpec) :=
  OpenClaim.holds_of_wide 8 Try.f8 rfl rfl rfl rfl rfl rfl rfl ⟨rfl, rfl, rfl, rfl, rfl⟩ rfl rfl rfl rfl rfl (by kernel_rfl) Try.func8 (by kernel_rfl)
    (of_decide_eq_true (by kernel_rfl)) (by unfold Func.isWrapper; first | (rw [if_pos (by decide +kernel)]; kernel_rfl) | (rw [if_neg (by decide +kernel)]; exact ⟨rfl, rfl⟩))
    (fun os started H enc _ => lifted os started H enc)
/-- The given statement. -/
theorem proved : Rows.FieldSumsSaid := over
#print axioms proved
end fieldSums
end Go.Proofs.Ytdiknopliedddaa
