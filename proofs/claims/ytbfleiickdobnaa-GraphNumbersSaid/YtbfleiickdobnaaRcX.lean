/- The walks of the functions of the graph: what each of them computes, at any input. -/
import Derived.Test.YtbfleiickdobnaaRcW
set_option autoImplicit false
set_option linter.unusedVariables false
set_option linter.unusedSimpArgs false
namespace Go.Proofs
open Go.XL

theorem eg_41 : Try.prog.eqGuardType Try.prog.depth 41 = false := by kernel_rfl
theorem ty_41 : tyF Try.prog 41 2 true = true := by kernel_rfl

theorem rcheck_fn (a : Option Addr) (c : Nat) (m : Tb) (H : Hp) (hs : SlR tbR H a c m) (hl : m.length < 9223372036854775808) : FnC Try.prog 17 #[.slice a m.length c] H [] (RetR (fun v _ _ => v = .int .i64 (chkG m))) := by
  refine FnC.intro (args := [.slice a m.length c]) Try.func17 rfl rfl Try.ntmps17 rfl rfl rfl fun G rest => ?_
  refine XC.seq ?_
  refine XC.region ?_
  refine XO.assign rfl rfl ?_
  refine XO.nil ?_
  refine XC.seq2 ?_
  refine XC.seq ?_
  refine XC.seq ?_
  refine XC.region ?_
  refine XO.move rfl rfl ?_
  refine XO.lenS (ts := #[]) rfl Try.underlying22 rfl ?_
  refine XO.gtr rfl rfl rfl ?_
  refine XO.nil ?_
  refine XC.seq2 ?_
  refine XC.cond rfl (fun c0_1 => ?_) (fun c0_1 => ?_)
  · refine XC.seq ?_
    refine XC.region ?_
    refine XO.assign rfl rfl ?_
    refine XO.nil ?_
    refine XC.seq2 ?_
    refine XC.ret ?_
    refine seqX_ret ?_
    refine ⟨rfl, _, [], rfl, (by repeat (first | exact List.Sublist.refl _ | apply List.Sublist.cons)), RetR.mk ?_⟩
    exact congrArg (Value.int .i64) (chk_2 (Or.inl (by omega))).symm
  · refine XC.skip ?_
    refine XC.seq2 ?_
    refine XC.seq ?_
    refine XC.seq ?_
    refine XC.region ?_
    refine XO.assign rfl rfl ?_
    refine XO.nil ?_
    refine XC.seq2 ?_
    refine XC.block ?_
    refine XC.keep [3, 0] rfl ?_
    refine XC.loop (base := [(0, _)]) (fun ζ : Nat => [(3, .int .i64 (ζ : Nat))]) (fun ζ Hl own => ζ ≤ m.length ∧ rest = own ∧ (∀ y ∈ m.take ζ, ¬ (16 < y.length))) (fun ζ => m.length - ζ) 0 (prov_cons (rfl) (prov_cons (rfl) prov_nil)) (by repeat (first | exact List.Sublist.refl _ | apply List.Sublist.cons_cons | apply List.Sublist.cons)) ⟨Nat.zero_le _, rfl, by simp⟩ ?_
    rintro k Hl0 _ hle0 ⟨hkk, rfl, hno⟩
    replace hs := hs.mono hle0
    try dsimp only at ⊢
    refine XC.seq ?_
    refine XC.seq ?_
    refine XC.region ?_
    refine XO.move rfl rfl ?_
    refine XO.move rfl rfl ?_
    refine XO.lenS (ts := #[]) rfl Try.underlying22 rfl ?_
    refine XO.lss rfl rfl rfl ?_
    refine XO.nil ?_
    refine XC.seq2 ?_
    refine XC.cond rfl (fun c1_2 => ?_) (fun c1_2 => ?_)
    · refine XC.skip ?_
      refine XC.seq2 ?_
      refine XC.seq ?_
      refine XC.block ?_
      refine XC.seq ?_
      refine XC.region ?_
      refine XO.move rfl rfl ?_
      refine XO.move rfl rfl ?_
      refine XO.indexN rfl hs rfl Try.underlying22 ty_40 (by omega) rfl ?_
      rintro eb16 eo16 _ x16 hx16 ⟨ax16, cx16, rfl, hd16⟩ hp16
      refine XO.loadH rfl (by assumption) ty_40 rfl rfl rfl ?_
      refine XO.lenS (ts := #[]) rfl Try.underlying40 rfl ?_
      refine XO.gtr rfl rfl rfl ?_
      refine XO.nil ?_
      refine XC.seq2 ?_
      refine XC.cond rfl (fun c2_4 => ?_) (fun c2_4 => ?_)
      · refine XC.seq ?_
        refine XC.region ?_
        refine XO.assign rfl rfl ?_
        refine XO.nil ?_
        refine XC.seq2 ?_
        refine XC.ret ?_
        refine blockR ?_
        refine seqX_ret ?_
        refine loopX_ret ?_
        refine blockR ?_
        refine seqX_ret ?_
        refine ⟨rfl, _, [], rfl, (by repeat (first | exact List.Sublist.refl _ | apply List.Sublist.cons)), RetR.mk ?_⟩
        exact congrArg (Value.int .i64) (chk_2 (Or.inr ⟨_, List.mem_of_getElem? hx16, by omega⟩)).symm
      · refine XC.skip ?_
        refine blockN ?_
        refine XC.seq2 ?_
        refine XC.region ?_
        refine XO.move rfl rfl ?_
        refine XO.add rfl rfl (wrap_i64 (by omega) (by omega)) rfl ?_
        refine XO.assign rfl rfl ?_
        refine XO.nil ?_
        refine loop_next (k + 1) (by show m.length - (k + 1) < m.length - k; omega) (prov_cons (rfl) (prov_cons (rfl) prov_nil)) (⟨by show k + 1 ≤ m.length; omega, rfl, all_snoc hno hx16 (by omega)⟩) (by repeat (first | exact List.Sublist.refl _ | apply List.Sublist.cons_cons | apply List.Sublist.cons)) (hle0)
    · obtain rfl : k = m.length := by omega
      rw [List.take_length] at hno
      refine XC.exit ?_
      refine seqX_exit ?_
      refine loopX_exit ?_
      refine blockHit rfl ?_
      refine XC.seq2 ?_
      refine XC.seq ?_
      refine XC.seq ?_
      refine XC.region ?_
      refine XO.assign rfl rfl ?_
      refine XO.nil ?_
      refine XC.seq2 ?_
      refine XC.block ?_
      refine XC.keep [4, 0] rfl ?_
      refine XC.loop (base := [(0, _)]) (fun ζ : Nat => [(4, .int .i64 (ζ : Nat))]) (fun ζ Hl own => ζ ≤ m.length ∧ rest = own ∧ (∀ y ∈ m.take ζ, ¬ (y.length ≠ wideM m))) (fun ζ => m.length - ζ) 0 (prov_cons (rfl) (prov_cons (rfl) prov_nil)) (by repeat (first | exact List.Sublist.refl _ | apply List.Sublist.cons_cons | apply List.Sublist.cons)) ⟨Nat.zero_le _, rfl, by simp⟩ ?_
      rintro j Hl1 _ hle1 ⟨hkj, rfl, hev⟩
      replace hs := hs.mono hle1
      replace hle0 := hle0.trans hle1
      try dsimp only at ⊢
      refine XC.seq ?_
      refine XC.seq ?_
      refine XC.region ?_
      refine XO.move rfl rfl ?_
      refine XO.move rfl rfl ?_
      refine XO.lenS (ts := #[]) rfl Try.underlying22 rfl ?_
      refine XO.lss rfl rfl rfl ?_
      refine XO.nil ?_
      refine XC.seq2 ?_
      refine XC.cond rfl (fun c3_5 => ?_) (fun c3_5 => ?_)
      · refine XC.skip ?_
        refine XC.seq2 ?_
        refine XC.seq ?_
        refine XC.block ?_
        refine XC.seq ?_
        refine XC.keep [0, 4] rfl ?_
        obtain ⟨bEX, oEX, rfl⟩ := hs.addr (by omega)
        obtain ⟨_, xX, hxX, ⟨axX, cxX, rfl, hdX⟩, hpX⟩ := hs.elem (j) (by omega)
        obtain ⟨_, xZ, hxZ, ⟨axZ, cxZ, rfl, hdZ⟩, hpZ⟩ := hs.elem (0) (by omega)
        apply XC.draw 9 [eqF _, eqF _, eqF _, eqF _, eqF _, eqF _, eqF _, eqF _, eqF _] follows (by kernel_rfl) (by kernel_rfl) ⟨eqF_mono _, eqF_mono _, eqF_mono _, eqF_mono _, eqF_mono _, eqF_mono _, eqF_mono _, eqF_mono _, eqF_mono _, trivial⟩ ?steps6 ?tail6
        case steps6 =>
          refine stepsK_cons rfl ?_ ?_
          · intro X
            refine withPreds_nil rfl ?_
            refine XO.move rfl rfl ?_
            refine XO.nil ?_
            exact stepQ_ok rfl (rfl)
          refine stepsK_cons rfl ?_ ?_
          · intro X
            refine withPreds_nil rfl ?_
            refine XO.move rfl rfl ?_
            refine XO.nil ?_
            exact stepQ_ok rfl (rfl)
          refine stepsK_cons rfl ?_ ?_
          · intro X
            refine withPreds_cons rfl rfl ?_
            rintro _ rfl
            refine withPreds_cons rfl rfl ?_
            rintro _ rfl
            refine withPreds_nil rfl ?_
            refine XO.indexE rfl rfl Try.underlying22 ty_40 (by omega) (by omega) rfl ?_
            refine XO.nil ?_
            exact stepQ_ok rfl (rfl)
          refine stepsK_cons rfl ?_ ?_
          · intro X
            refine withPreds_cons rfl rfl ?_
            rintro _ rfl
            refine withPreds_nil rfl ?_
            refine XO.loadH rfl (by assumption) ty_40 rfl rfl rfl ?_
            refine XO.nil ?_
            exact stepQ_ok rfl (rfl)
          refine stepsK_cons rfl ?_ ?_
          · intro X
            refine withPreds_cons rfl rfl ?_
            rintro _ rfl
            refine withPreds_nil rfl ?_
            refine XO.lenS (ts := #[]) rfl Try.underlying40 rfl ?_
            refine XO.nil ?_
            exact stepQ_ok rfl (rfl)
          refine stepsK_cons rfl ?_ ?_
          · intro X
            refine withPreds_nil rfl ?_
            refine XO.move rfl rfl ?_
            refine XO.nil ?_
            exact stepQ_ok rfl (rfl)
          refine stepsK_cons rfl ?_ ?_
          · intro X
            refine withPreds_cons rfl rfl ?_
            rintro _ rfl
            refine withPreds_nil rfl ?_
            refine XO.indexE rfl rfl Try.underlying22 ty_40 (by omega) (by omega) rfl ?_
            refine XO.nil ?_
            exact stepQ_ok rfl (rfl)
          refine stepsK_cons rfl ?_ ?_
          · intro X
            refine withPreds_cons rfl rfl ?_
            rintro _ rfl
            refine withPreds_nil rfl ?_
            refine XO.loadH rfl (by assumption) ty_40 rfl rfl rfl ?_
            refine XO.nil ?_
            exact stepQ_ok rfl (rfl)
          refine stepsK_cons rfl ?_ ?_
          · intro X
            refine withPreds_cons rfl rfl ?_
            rintro _ rfl
            refine withPreds_nil rfl ?_
            refine XO.lenS (ts := #[]) rfl Try.underlying40 rfl ?_
            refine XO.nil ?_
            exact stepQ_ok rfl (rfl)
          exact stepsD_end rfl
        case tail6 =>
          refine withPreds_cons rfl rfl ?_
          rintro _ rfl
          refine withPreds_cons rfl rfl ?_
          rintro _ rfl
          refine withPreds_cons rfl rfl ?_
          rintro _ rfl
          refine withPreds_cons rfl rfl ?_
          rintro _ rfl
          refine withPreds_cons rfl rfl ?_
          rintro _ rfl
          refine withPreds_cons rfl rfl ?_
          rintro _ rfl
          refine withPreds_cons rfl rfl ?_
          rintro _ rfl
          refine withPreds_cons rfl rfl ?_
          rintro _ rfl
          refine withPreds_cons rfl rfl ?_
          rintro _ rfl
          refine withPreds_nil rfl ?_
          refine XO.neq rfl rfl rfl ?_
          refine XO.nil ?_
          refine XC.seq2 ?_
          refine XC.cond rfl (fun c4_9 => ?_) (fun c4_9 => ?_)
          · refine XC.seq ?_
            refine XC.region ?_
            refine XO.assign rfl rfl ?_
            refine XO.nil ?_
            refine XC.seq2 ?_
            refine XC.ret ?_
            refine blockR ?_
            refine seqX_ret ?_
            refine loopX_ret ?_
            refine blockR ?_
            refine seqX_ret ?_
            refine ⟨rfl, _, [], rfl, (by repeat (first | exact List.Sublist.refl _ | apply List.Sublist.cons)), RetR.mk ?_⟩
            exact congrArg (Value.int .i64) (chk_370 (fun h => by rcases h with h | ⟨r, hr, h⟩; omega; exact hno r hr h) ⟨_, List.mem_of_getElem? hxX, by rw [wide_cons hxZ]; omega⟩).symm
          · refine XC.skip ?_
            refine blockN ?_
            refine XC.seq2 ?_
            refine XC.region ?_
            refine XO.move rfl rfl ?_
            refine XO.add rfl rfl (wrap_i64 (by omega) (by omega)) rfl ?_
            refine XO.assign rfl rfl ?_
            refine XO.nil ?_
            refine loop_next (j + 1) (by show m.length - (j + 1) < m.length - j; omega) (prov_cons (rfl) (prov_cons (rfl) prov_nil)) (⟨by show j + 1 ≤ m.length; omega, rfl, all_snoc hev hxX (by rw [wide_cons hxZ]; omega)⟩) (by repeat (first | exact List.Sublist.refl _ | apply List.Sublist.cons_cons | apply List.Sublist.cons)) (hle1)
      · obtain rfl : j = m.length := by omega
        rw [List.take_length] at hev
        refine XC.exit ?_
        refine seqX_exit ?_
        refine loopX_exit ?_
        refine blockHit rfl ?_
        refine XC.seq2 ?_
        refine XC.seq ?_
        refine XC.region ?_
        refine XO.assign rfl rfl ?_
        refine XO.nil ?_
        refine XC.seq2 ?_
        refine XC.ret ?_
        refine ⟨rfl, _, [], rfl, (by repeat (first | exact List.Sublist.refl _ | apply List.Sublist.cons)), RetR.mk ?_⟩
        exact congrArg (Value.int .i64) (chk_0 (fun h => by rcases h with h | ⟨r, hr, h⟩; omega; exact hno r hr h) (fun ⟨r, hr, h⟩ => hev r hr h)).symm

theorem few_fn (a : Option Addr) (c : Nat) (m : Tb) (H : Hp) (hs : SlR tbR H a c m) (hl : m.length < 9223372036854775808) : FnC Try.prog 11 #[.slice a m.length c] H [] (RetR (fun v _ _ => v = .bool (decide (fewG m)))) := by
  refine FnC.intro (args := [.slice a m.length c]) Try.func11 rfl rfl Try.ntmps11 rfl rfl rfl fun G rest => ?_
  refine XC.seq ?_
  refine XC.region ?_
  refine XO.assign rfl rfl ?_
  refine XO.nil ?_
  refine XC.seq2 ?_
  refine XC.seq ?_
  refine XC.seq ?_
  refine XC.region ?_
  refine XO.move rfl rfl ?_
  refine XO.lenS (ts := #[]) rfl Try.underlying22 rfl ?_
  refine XO.gtr rfl rfl rfl ?_
  refine XO.move rfl rfl ?_
  refine XO.guardC rfl rfl rfl rfl (fun g1 => ?_) (fun g1 => ?_)
  · have g1p := of_decide_eq_true g1
    refine XO.move rfl rfl ?_
    refine XO.guardT rfl rfl (g1) rfl ?_
    refine XO.lenS (ts := #[]) rfl Try.underlying22 rfl ?_
    refine XO.guardT rfl rfl (g1) rfl ?_
    refine XO.leq rfl rfl rfl ?_
    refine XO.pickT rfl (g1) rfl rfl ?_
    refine XO.move rfl rfl ?_
    refine XO.guardC rfl rfl rfl rfl (fun g2 => ?_) (fun g2 => ?_)
    · have g2p := of_decide_eq_false g2
      refine XO.move rfl rfl ?_
      refine XO.guardT rfl rfl (g2) rfl ?_
      refine XO.lenS (ts := #[]) rfl Try.underlying22 rfl ?_
      refine XO.guardT rfl rfl (g2) rfl ?_
      refine XO.gtr rfl rfl rfl ?_
      refine XO.pickF rfl (g2) rfl rfl ?_
      refine XO.nil ?_
      refine XC.seq2 ?_
      refine XC.cond rfl (fun c0_3 => ?_) (fun c0_3 => ?_)
      · refine XC.seq ?_
        refine XC.region ?_
        refine XO.assign rfl rfl ?_
        refine XO.nil ?_
        refine XC.seq2 ?_
        refine XC.ret ?_
        refine seqX_ret ?_
        refine ⟨rfl, _, [], rfl, (by repeat (first | exact List.Sublist.refl _ | apply List.Sublist.cons)), RetR.mk ?_⟩
        first | exact congrArg Value.bool (decide_eq_false (fun h => h.1 (by omega))).symm | exact congrArg Value.bool (decide_eq_false (fun h => h.2 _ (List.mem_of_getElem? hx25) (by omega))).symm | exact congrArg Value.bool (decide_eq_true (show fewG m from ⟨by omega, hok⟩)).symm
      · refine XC.skip ?_
        refine XC.seq2 ?_
        refine XC.seq ?_
        refine XC.seq ?_
        refine XC.region ?_
        refine XO.assign rfl rfl ?_
        refine XO.nil ?_
        refine XC.seq2 ?_
        refine XC.block ?_
        refine XC.keep [3, 0] rfl ?_
        refine XC.loop (base := [(0, _)]) (fun ζ : Nat => [(3, .int .i64 (ζ : Nat))]) (fun ζ Hl own => ζ ≤ m.length ∧ rest = own ∧ (∀ r ∈ m.take ζ, ¬ (8 < r.length ∧ r.length ≤ 16 ∨ 30 < r.length))) (fun ζ => m.length - ζ) 0 (prov_cons (rfl) (prov_cons (rfl) prov_nil)) (by repeat (first | exact List.Sublist.refl _ | apply List.Sublist.cons_cons | apply List.Sublist.cons)) ⟨Nat.zero_le _, rfl, by simp⟩ ?_
        rintro k Hl0 _ hle0 ⟨hkk, rfl, hok⟩
        replace hs := hs.mono hle0
        try dsimp only at ⊢
        refine XC.seq ?_
        refine XC.seq ?_
        refine XC.region ?_
        refine XO.move rfl rfl ?_
        refine XO.move rfl rfl ?_
        refine XO.lenS (ts := #[]) rfl Try.underlying22 rfl ?_
        refine XO.lss rfl rfl rfl ?_
        refine XO.nil ?_
        refine XC.seq2 ?_
        refine XC.cond rfl (fun c1_4 => ?_) (fun c1_4 => ?_)
        · refine XC.skip ?_
          refine XC.seq2 ?_
          refine XC.seq ?_
          refine XC.block ?_
          refine XC.seq ?_
          refine XC.region ?_
          refine XO.move rfl rfl ?_
          refine XO.move rfl rfl ?_
          refine XO.indexN rfl hs rfl Try.underlying22 ty_40 (by omega) rfl ?_
          rintro eb25 eo25 _ x25 hx25 ⟨ax25, cx25, rfl, hd25⟩ hp25
          refine XO.loadH rfl (by assumption) ty_40 rfl rfl rfl ?_
          refine XO.lenS (ts := #[]) rfl Try.underlying40 rfl ?_
          refine XO.gtr rfl rfl rfl ?_
          refine XO.move rfl rfl ?_
          refine XO.guardC rfl rfl rfl rfl (fun g6 => ?_) (fun g6 => ?_)
          · have g6p := of_decide_eq_true g6
            refine XO.move rfl rfl ?_
            refine XO.guardT rfl rfl (g6) rfl ?_
            refine XO.move rfl rfl ?_
            refine XO.guardT rfl rfl (g6) rfl ?_
            refine XO.indexN rfl hs rfl Try.underlying22 ty_40 (by omega) rfl ?_
            rintro eb32 eo32 _ x32 hx32 ⟨ax32, cx32, rfl, hd32⟩ hp32
            obtain rfl := Option.some.inj (hx25.symm.trans hx32)
            refine XO.guardT rfl rfl (g6) rfl ?_
            refine XO.loadH rfl (by assumption) ty_40 rfl rfl rfl ?_
            refine XO.guardT rfl rfl (g6) rfl ?_
            refine XO.lenS (ts := #[]) rfl Try.underlying40 rfl ?_
            refine XO.guardT rfl rfl (g6) rfl ?_
            refine XO.leq rfl rfl rfl ?_
            refine XO.pickT rfl (g6) rfl rfl ?_
            refine XO.move rfl rfl ?_
            refine XO.guardC rfl rfl rfl rfl (fun g8 => ?_) (fun g8 => ?_)
            · have g8p := of_decide_eq_false g8
              refine XO.move rfl rfl ?_
              refine XO.guardT rfl rfl (g8) rfl ?_
              refine XO.move rfl rfl ?_
              refine XO.guardT rfl rfl (g8) rfl ?_
              refine XO.indexN rfl hs rfl Try.underlying22 ty_40 (by omega) rfl ?_
              rintro eb40 eo40 _ x40 hx40 ⟨ax40, cx40, rfl, hd40⟩ hp40
              obtain rfl := Option.some.inj (hx25.symm.trans hx40)
              refine XO.guardT rfl rfl (g8) rfl ?_
              refine XO.loadH rfl (by assumption) ty_40 rfl rfl rfl ?_
              refine XO.guardT rfl rfl (g8) rfl ?_
              refine XO.lenS (ts := #[]) rfl Try.underlying40 rfl ?_
              refine XO.guardT rfl rfl (g8) rfl ?_
              refine XO.gtr rfl rfl rfl ?_
              refine XO.pickF rfl (g8) rfl rfl ?_
              refine XO.nil ?_
              refine XC.seq2 ?_
              refine XC.cond rfl (fun c2_10 => ?_) (fun c2_10 => ?_)
              · refine XC.seq ?_
                refine XC.region ?_
                refine XO.assign rfl rfl ?_
                refine XO.nil ?_
                refine XC.seq2 ?_
                refine XC.ret ?_
                refine blockR ?_
                refine seqX_ret ?_
                refine loopX_ret ?_
                refine blockR ?_
                refine seqX_ret ?_
                refine ⟨rfl, _, [], rfl, (by repeat (first | exact List.Sublist.refl _ | apply List.Sublist.cons)), RetR.mk ?_⟩
                first | exact congrArg Value.bool (decide_eq_false (fun h => h.1 (by omega))).symm | exact congrArg Value.bool (decide_eq_false (fun h => h.2 _ (List.mem_of_getElem? hx25) (by omega))).symm | exact congrArg Value.bool (decide_eq_true (show fewG m from ⟨by omega, hok⟩)).symm
              · refine XC.skip ?_
                refine blockN ?_
                refine XC.seq2 ?_
                refine XC.region ?_
                refine XO.move rfl rfl ?_
                refine XO.add rfl rfl (wrap_i64 (by omega) (by omega)) rfl ?_
                refine XO.assign rfl rfl ?_
                refine XO.nil ?_
                refine loop_next (k + 1) (by show m.length - (k + 1) < m.length - k; omega) (prov_cons (rfl) (prov_cons (rfl) prov_nil)) (⟨by show k + 1 ≤ m.length; omega, rfl, all_snoc hok hx25 (by omega)⟩) (by repeat (first | exact List.Sublist.refl _ | apply List.Sublist.cons_cons | apply List.Sublist.cons)) (hle0)
            · have g8p := of_decide_eq_true g8
              refine XO.guardF rfl rfl (g8) rfl rfl ?_
              refine XO.guardF rfl rfl (g8) rfl rfl ?_
              refine XO.guardF rfl rfl (g8) rfl rfl ?_
              refine XO.guardF rfl rfl (g8) rfl rfl ?_
              refine XO.guardF rfl rfl (g8) rfl rfl ?_
              refine XO.pickT rfl (g8) rfl rfl ?_
              refine XO.nil ?_
              refine XC.seq2 ?_
              refine XC.condT rfl (rfl) ?_
              refine XC.seq ?_
              refine XC.region ?_
              refine XO.assign rfl rfl ?_
              refine XO.nil ?_
              refine XC.seq2 ?_
              refine XC.ret ?_
              refine blockR ?_
              refine seqX_ret ?_
              refine loopX_ret ?_
              refine blockR ?_
              refine seqX_ret ?_
              refine ⟨rfl, _, [], rfl, (by repeat (first | exact List.Sublist.refl _ | apply List.Sublist.cons)), RetR.mk ?_⟩
              first | exact congrArg Value.bool (decide_eq_false (fun h => h.1 (by omega))).symm | exact congrArg Value.bool (decide_eq_false (fun h => h.2 _ (List.mem_of_getElem? hx25) (by omega))).symm | exact congrArg Value.bool (decide_eq_true (show fewG m from ⟨by omega, hok⟩)).symm
          · have g6p := of_decide_eq_false g6
            refine XO.guardF rfl rfl (g6) rfl rfl ?_
            refine XO.guardF rfl rfl (g6) rfl rfl ?_
            refine XO.guardF rfl rfl (g6) rfl rfl ?_
            refine XO.guardF rfl rfl (g6) rfl rfl ?_
            refine XO.guardF rfl rfl (g6) rfl rfl ?_
            refine XO.pickF rfl (g6) rfl rfl ?_
            refine XO.move rfl rfl ?_
            refine XO.guardT rfl rfl (rfl) rfl ?_
            refine XO.move rfl rfl ?_
            refine XO.guardT rfl rfl (rfl) rfl ?_
            refine XO.move rfl rfl ?_
            refine XO.guardT rfl rfl (rfl) rfl ?_
            refine XO.indexN rfl hs rfl Try.underlying22 ty_40 (by omega) rfl ?_
            rintro eb40 eo40 _ x40 hx40 ⟨ax40, cx40, rfl, hd40⟩ hp40
            obtain rfl := Option.some.inj (hx25.symm.trans hx40)
            refine XO.guardT rfl rfl (rfl) rfl ?_
            refine XO.loadH rfl (by assumption) ty_40 rfl rfl rfl ?_
            refine XO.guardT rfl rfl (rfl) rfl ?_
            refine XO.lenS (ts := #[]) rfl Try.underlying40 rfl ?_
            refine XO.guardT rfl rfl (rfl) rfl ?_
            refine XO.gtr rfl rfl rfl ?_
            refine XO.pickF rfl (rfl) rfl rfl ?_
            refine XO.nil ?_
            refine XC.seq2 ?_
            refine XC.cond rfl (fun c2_12 => ?_) (fun c2_12 => ?_)
            · refine XC.seq ?_
              refine XC.region ?_
              refine XO.assign rfl rfl ?_
              refine XO.nil ?_
              refine XC.seq2 ?_
              refine XC.ret ?_
              refine blockR ?_
              refine seqX_ret ?_
              refine loopX_ret ?_
              refine blockR ?_
              refine seqX_ret ?_
              refine ⟨rfl, _, [], rfl, (by repeat (first | exact List.Sublist.refl _ | apply List.Sublist.cons)), RetR.mk ?_⟩
              first | exact congrArg Value.bool (decide_eq_false (fun h => h.1 (by omega))).symm | exact congrArg Value.bool (decide_eq_false (fun h => h.2 _ (List.mem_of_getElem? hx25) (by omega))).symm | exact congrArg Value.bool (decide_eq_true (show fewG m from ⟨by omega, hok⟩)).symm
            · refine XC.skip ?_
              refine blockN ?_
              refine XC.seq2 ?_
              refine XC.region ?_
              refine XO.move rfl rfl ?_
              refine XO.add rfl rfl (wrap_i64 (by omega) (by omega)) rfl ?_
              refine XO.assign rfl rfl ?_
              refine XO.nil ?_
              refine loop_next (k + 1) (by show m.length - (k + 1) < m.length - k; omega) (prov_cons (rfl) (prov_cons (rfl) prov_nil)) (⟨by show k + 1 ≤ m.length; omega, rfl, all_snoc hok hx25 (by omega)⟩) (by repeat (first | exact List.Sublist.refl _ | apply List.Sublist.cons_cons | apply List.Sublist.cons)) (hle0)
        · obtain rfl : k = m.length := by omega
          rw [List.take_length] at hok
          refine XC.exit ?_
          refine seqX_exit ?_
          refine loopX_exit ?_
          refine blockHit rfl ?_
          refine XC.seq2 ?_
          refine XC.seq ?_
          refine XC.region ?_
          refine XO.assign rfl rfl ?_
          refine XO.nil ?_
          refine XC.seq2 ?_
          refine XC.ret ?_
          refine ⟨rfl, _, [], rfl, (by repeat (first | exact List.Sublist.refl _ | apply List.Sublist.cons)), RetR.mk ?_⟩
          first | exact congrArg Value.bool (decide_eq_false (fun h => h.1 (by omega))).symm | exact congrArg Value.bool (decide_eq_false (fun h => h.2 _ (List.mem_of_getElem? hx25) (by omega))).symm | exact congrArg Value.bool (decide_eq_true (show fewG m from ⟨by omega, hok⟩)).symm
    · have g2p := of_decide_eq_true g2
      refine XO.guardF rfl rfl (g2) rfl rfl ?_
      refine XO.guardF rfl rfl (g2) rfl rfl ?_
      refine XO.pickT rfl (g2) rfl rfl ?_
      refine XO.nil ?_
      refine XC.seq2 ?_
      refine XC.condT rfl (rfl) ?_
      refine XC.seq ?_
      refine XC.region ?_
      refine XO.assign rfl rfl ?_
      refine XO.nil ?_
      refine XC.seq2 ?_
      refine XC.ret ?_
      refine seqX_ret ?_
      refine ⟨rfl, _, [], rfl, (by repeat (first | exact List.Sublist.refl _ | apply List.Sublist.cons)), RetR.mk ?_⟩
      first | exact congrArg Value.bool (decide_eq_false (fun h => h.1 (by omega))).symm | exact congrArg Value.bool (decide_eq_false (fun h => h.2 _ (List.mem_of_getElem? hx25) (by omega))).symm | exact congrArg Value.bool (decide_eq_true (show fewG m from ⟨by omega, hok⟩)).symm
  · have g1p := of_decide_eq_false g1
    refine XO.guardF rfl rfl (g1) rfl rfl ?_
    refine XO.guardF rfl rfl (g1) rfl rfl ?_
    refine XO.pickF rfl (g1) rfl rfl ?_
    refine XO.move rfl rfl ?_
    refine XO.guardT rfl rfl (rfl) rfl ?_
    refine XO.move rfl rfl ?_
    refine XO.guardT rfl rfl (rfl) rfl ?_
    refine XO.lenS (ts := #[]) rfl Try.underlying22 rfl ?_
    refine XO.guardT rfl rfl (rfl) rfl ?_
    refine XO.gtr rfl rfl rfl ?_
    refine XO.pickF rfl (rfl) rfl rfl ?_
    refine XO.nil ?_
    refine XC.seq2 ?_
    refine XC.cond rfl (fun c0_13 => ?_) (fun c0_13 => ?_)
    · refine XC.seq ?_
      refine XC.region ?_
      refine XO.assign rfl rfl ?_
      refine XO.nil ?_
      refine XC.seq2 ?_
      refine XC.ret ?_
      refine seqX_ret ?_
      refine ⟨rfl, _, [], rfl, (by repeat (first | exact List.Sublist.refl _ | apply List.Sublist.cons)), RetR.mk ?_⟩
      first | exact congrArg Value.bool (decide_eq_false (fun h => h.1 (by omega))).symm | exact congrArg Value.bool (decide_eq_false (fun h => h.2 _ (List.mem_of_getElem? hx25) (by omega))).symm | exact congrArg Value.bool (decide_eq_true (show fewG m from ⟨by omega, hok⟩)).symm
    · refine XC.skip ?_
      refine XC.seq2 ?_
      refine XC.seq ?_
      refine XC.seq ?_
      refine XC.region ?_
      refine XO.assign rfl rfl ?_
      refine XO.nil ?_
      refine XC.seq2 ?_
      refine XC.block ?_
      refine XC.keep [3, 0] rfl ?_
      refine XC.loop (base := [(0, _)]) (fun ζ : Nat => [(3, .int .i64 (ζ : Nat))]) (fun ζ Hl own => ζ ≤ m.length ∧ rest = own ∧ (∀ r ∈ m.take ζ, ¬ (8 < r.length ∧ r.length ≤ 16 ∨ 30 < r.length))) (fun ζ => m.length - ζ) 0 (prov_cons (rfl) (prov_cons (rfl) prov_nil)) (by repeat (first | exact List.Sublist.refl _ | apply List.Sublist.cons_cons | apply List.Sublist.cons)) ⟨Nat.zero_le _, rfl, by simp⟩ ?_
      rintro k Hl0 _ hle0 ⟨hkk, rfl, hok⟩
      replace hs := hs.mono hle0
      try dsimp only at ⊢
      refine XC.seq ?_
      refine XC.seq ?_
      refine XC.region ?_
      refine XO.move rfl rfl ?_
      refine XO.move rfl rfl ?_
      refine XO.lenS (ts := #[]) rfl Try.underlying22 rfl ?_
      refine XO.lss rfl rfl rfl ?_
      refine XO.nil ?_
      refine XC.seq2 ?_
      refine XC.cond rfl (fun c1_14 => ?_) (fun c1_14 => ?_)
      · refine XC.skip ?_
        refine XC.seq2 ?_
        refine XC.seq ?_
        refine XC.block ?_
        refine XC.seq ?_
        refine XC.region ?_
        refine XO.move rfl rfl ?_
        refine XO.move rfl rfl ?_
        refine XO.indexN rfl hs rfl Try.underlying22 ty_40 (by omega) rfl ?_
        rintro eb25 eo25 _ x25 hx25 ⟨ax25, cx25, rfl, hd25⟩ hp25
        refine XO.loadH rfl (by assumption) ty_40 rfl rfl rfl ?_
        refine XO.lenS (ts := #[]) rfl Try.underlying40 rfl ?_
        refine XO.gtr rfl rfl rfl ?_
        refine XO.move rfl rfl ?_
        refine XO.guardC rfl rfl rfl rfl (fun g16 => ?_) (fun g16 => ?_)
        · have g16p := of_decide_eq_true g16
          refine XO.move rfl rfl ?_
          refine XO.guardT rfl rfl (g16) rfl ?_
          refine XO.move rfl rfl ?_
          refine XO.guardT rfl rfl (g16) rfl ?_
          refine XO.indexN rfl hs rfl Try.underlying22 ty_40 (by omega) rfl ?_
          rintro eb32 eo32 _ x32 hx32 ⟨ax32, cx32, rfl, hd32⟩ hp32
          obtain rfl := Option.some.inj (hx25.symm.trans hx32)
          refine XO.guardT rfl rfl (g16) rfl ?_
          refine XO.loadH rfl (by assumption) ty_40 rfl rfl rfl ?_
          refine XO.guardT rfl rfl (g16) rfl ?_
          refine XO.lenS (ts := #[]) rfl Try.underlying40 rfl ?_
          refine XO.guardT rfl rfl (g16) rfl ?_
          refine XO.leq rfl rfl rfl ?_
          refine XO.pickT rfl (g16) rfl rfl ?_
          refine XO.move rfl rfl ?_
          refine XO.guardC rfl rfl rfl rfl (fun g18 => ?_) (fun g18 => ?_)
          · have g18p := of_decide_eq_false g18
            refine XO.move rfl rfl ?_
            refine XO.guardT rfl rfl (g18) rfl ?_
            refine XO.move rfl rfl ?_
            refine XO.guardT rfl rfl (g18) rfl ?_
            refine XO.indexN rfl hs rfl Try.underlying22 ty_40 (by omega) rfl ?_
            rintro eb40 eo40 _ x40 hx40 ⟨ax40, cx40, rfl, hd40⟩ hp40
            obtain rfl := Option.some.inj (hx25.symm.trans hx40)
            refine XO.guardT rfl rfl (g18) rfl ?_
            refine XO.loadH rfl (by assumption) ty_40 rfl rfl rfl ?_
            refine XO.guardT rfl rfl (g18) rfl ?_
            refine XO.lenS (ts := #[]) rfl Try.underlying40 rfl ?_
            refine XO.guardT rfl rfl (g18) rfl ?_
            refine XO.gtr rfl rfl rfl ?_
            refine XO.pickF rfl (g18) rfl rfl ?_
            refine XO.nil ?_
            refine XC.seq2 ?_
            refine XC.cond rfl (fun c2_20 => ?_) (fun c2_20 => ?_)
            · refine XC.seq ?_
              refine XC.region ?_
              refine XO.assign rfl rfl ?_
              refine XO.nil ?_
              refine XC.seq2 ?_
              refine XC.ret ?_
              refine blockR ?_
              refine seqX_ret ?_
              refine loopX_ret ?_
              refine blockR ?_
              refine seqX_ret ?_
              refine ⟨rfl, _, [], rfl, (by repeat (first | exact List.Sublist.refl _ | apply List.Sublist.cons)), RetR.mk ?_⟩
              first | exact congrArg Value.bool (decide_eq_false (fun h => h.1 (by omega))).symm | exact congrArg Value.bool (decide_eq_false (fun h => h.2 _ (List.mem_of_getElem? hx25) (by omega))).symm | exact congrArg Value.bool (decide_eq_true (show fewG m from ⟨by omega, hok⟩)).symm
            · refine XC.skip ?_
              refine blockN ?_
              refine XC.seq2 ?_
              refine XC.region ?_
              refine XO.move rfl rfl ?_
              refine XO.add rfl rfl (wrap_i64 (by omega) (by omega)) rfl ?_
              refine XO.assign rfl rfl ?_
              refine XO.nil ?_
              refine loop_next (k + 1) (by show m.length - (k + 1) < m.length - k; omega) (prov_cons (rfl) (prov_cons (rfl) prov_nil)) (⟨by show k + 1 ≤ m.length; omega, rfl, all_snoc hok hx25 (by omega)⟩) (by repeat (first | exact List.Sublist.refl _ | apply List.Sublist.cons_cons | apply List.Sublist.cons)) (hle0)
          · have g18p := of_decide_eq_true g18
            refine XO.guardF rfl rfl (g18) rfl rfl ?_
            refine XO.guardF rfl rfl (g18) rfl rfl ?_
            refine XO.guardF rfl rfl (g18) rfl rfl ?_
            refine XO.guardF rfl rfl (g18) rfl rfl ?_
            refine XO.guardF rfl rfl (g18) rfl rfl ?_
            refine XO.pickT rfl (g18) rfl rfl ?_
            refine XO.nil ?_
            refine XC.seq2 ?_
            refine XC.condT rfl (rfl) ?_
            refine XC.seq ?_
            refine XC.region ?_
            refine XO.assign rfl rfl ?_
            refine XO.nil ?_
            refine XC.seq2 ?_
            refine XC.ret ?_
            refine blockR ?_
            refine seqX_ret ?_
            refine loopX_ret ?_
            refine blockR ?_
            refine seqX_ret ?_
            refine ⟨rfl, _, [], rfl, (by repeat (first | exact List.Sublist.refl _ | apply List.Sublist.cons)), RetR.mk ?_⟩
            first | exact congrArg Value.bool (decide_eq_false (fun h => h.1 (by omega))).symm | exact congrArg Value.bool (decide_eq_false (fun h => h.2 _ (List.mem_of_getElem? hx25) (by omega))).symm | exact congrArg Value.bool (decide_eq_true (show fewG m from ⟨by omega, hok⟩)).symm
        · have g16p := of_decide_eq_false g16
          refine XO.guardF rfl rfl (g16) rfl rfl ?_
          refine XO.guardF rfl rfl (g16) rfl rfl ?_
          refine XO.guardF rfl rfl (g16) rfl rfl ?_
          refine XO.guardF rfl rfl (g16) rfl rfl ?_
          refine XO.guardF rfl rfl (g16) rfl rfl ?_
          refine XO.pickF rfl (g16) rfl rfl ?_
          refine XO.move rfl rfl ?_
          refine XO.guardT rfl rfl (rfl) rfl ?_
          refine XO.move rfl rfl ?_
          refine XO.guardT rfl rfl (rfl) rfl ?_
          refine XO.move rfl rfl ?_
          refine XO.guardT rfl rfl (rfl) rfl ?_
          refine XO.indexN rfl hs rfl Try.underlying22 ty_40 (by omega) rfl ?_
          rintro eb40 eo40 _ x40 hx40 ⟨ax40, cx40, rfl, hd40⟩ hp40
          obtain rfl := Option.some.inj (hx25.symm.trans hx40)
          refine XO.guardT rfl rfl (rfl) rfl ?_
          refine XO.loadH rfl (by assumption) ty_40 rfl rfl rfl ?_
          refine XO.guardT rfl rfl (rfl) rfl ?_
          refine XO.lenS (ts := #[]) rfl Try.underlying40 rfl ?_
          refine XO.guardT rfl rfl (rfl) rfl ?_
          refine XO.gtr rfl rfl rfl ?_
          refine XO.pickF rfl (rfl) rfl rfl ?_
          refine XO.nil ?_
          refine XC.seq2 ?_
          refine XC.cond rfl (fun c2_22 => ?_) (fun c2_22 => ?_)
          · refine XC.seq ?_
            refine XC.region ?_
            refine XO.assign rfl rfl ?_
            refine XO.nil ?_
            refine XC.seq2 ?_
            refine XC.ret ?_
            refine blockR ?_
            refine seqX_ret ?_
            refine loopX_ret ?_
            refine blockR ?_
            refine seqX_ret ?_
            refine ⟨rfl, _, [], rfl, (by repeat (first | exact List.Sublist.refl _ | apply List.Sublist.cons)), RetR.mk ?_⟩
            first | exact congrArg Value.bool (decide_eq_false (fun h => h.1 (by omega))).symm | exact congrArg Value.bool (decide_eq_false (fun h => h.2 _ (List.mem_of_getElem? hx25) (by omega))).symm | exact congrArg Value.bool (decide_eq_true (show fewG m from ⟨by omega, hok⟩)).symm
          · refine XC.skip ?_
            refine blockN ?_
            refine XC.seq2 ?_
            refine XC.region ?_
            refine XO.move rfl rfl ?_
            refine XO.add rfl rfl (wrap_i64 (by omega) (by omega)) rfl ?_
            refine XO.assign rfl rfl ?_
            refine XO.nil ?_
            refine loop_next (k + 1) (by show m.length - (k + 1) < m.length - k; omega) (prov_cons (rfl) (prov_cons (rfl) prov_nil)) (⟨by show k + 1 ≤ m.length; omega, rfl, all_snoc hok hx25 (by omega)⟩) (by repeat (first | exact List.Sublist.refl _ | apply List.Sublist.cons_cons | apply List.Sublist.cons)) (hle0)
      · obtain rfl : k = m.length := by omega
        rw [List.take_length] at hok
        refine XC.exit ?_
        refine seqX_exit ?_
        refine loopX_exit ?_
        refine blockHit rfl ?_
        refine XC.seq2 ?_
        refine XC.seq ?_
        refine XC.region ?_
        refine XO.assign rfl rfl ?_
        refine XO.nil ?_
        refine XC.seq2 ?_
        refine XC.ret ?_
        refine ⟨rfl, _, [], rfl, (by repeat (first | exact List.Sublist.refl _ | apply List.Sublist.cons)), RetR.mk ?_⟩
        first | exact congrArg Value.bool (decide_eq_false (fun h => h.1 (by omega))).symm | exact congrArg Value.bool (decide_eq_false (fun h => h.2 _ (List.mem_of_getElem? hx25) (by omega))).symm | exact congrArg Value.bool (decide_eq_true (show fewG m from ⟨by omega, hok⟩)).symm

theorem has_fn (a : Option Addr) (c : Nat) (l : List Int) (H : Hp) (hs : SlR (intR .i64) H a c l) (hl : l.length < 9223372036854775808) (x : Int) : FnC Try.prog 25 #[.slice a l.length c, .int .i64 x] H [] (RetR (fun v _ _ => v = .bool (decide (x ∈ l)))) := by
  refine FnC.intro (args := [.slice a l.length c, .int .i64 x]) Try.func25 rfl rfl Try.ntmps25 rfl rfl rfl fun G rest => ?_
  refine XC.seq ?_
  refine XC.region ?_
  refine XO.assign rfl rfl ?_
  refine XO.nil ?_
  refine XC.seq2 ?_
  refine XC.seq ?_
  refine XC.seq ?_
  refine XC.region ?_
  refine XO.assign rfl rfl ?_
  refine XO.nil ?_
  refine XC.seq2 ?_
  refine XC.block ?_
  refine XC.keep [5, 0, 1] rfl ?_
  refine XC.loop (base := [(0, _), (1, _)]) (fun ζ : Nat => [(5, .int .i64 (ζ : Nat))]) (fun ζ Hl own => ζ ≤ l.length ∧ rest = own ∧ (∀ y ∈ l.take ζ, ¬ (y = x))) (fun ζ => l.length - ζ) 0 (prov_cons (rfl) (prov_cons (rfl) (prov_cons (rfl) prov_nil))) (by repeat (first | exact List.Sublist.refl _ | apply List.Sublist.cons_cons | apply List.Sublist.cons)) ⟨Nat.zero_le _, rfl, by simp⟩ ?_
  rintro k Hl0 _ hle0 ⟨hkk, rfl, hno⟩
  replace hs := hs.mono hle0
  try dsimp only at ⊢
  refine XC.seq ?_
  refine XC.seq ?_
  refine XC.region ?_
  refine XO.move rfl rfl ?_
  refine XO.move rfl rfl ?_
  refine XO.lenS (ts := #[]) rfl Try.underlying29 rfl ?_
  refine XO.lss rfl rfl rfl ?_
  refine XO.nil ?_
  refine XC.seq2 ?_
  refine XC.cond rfl (fun c0_1 => ?_) (fun c0_1 => ?_)
  · refine XC.skip ?_
    refine XC.seq2 ?_
    refine XC.seq ?_
    refine XC.block ?_
    refine XC.seq ?_
    refine XC.region ?_
    refine XO.move rfl rfl ?_
    refine XO.move rfl rfl ?_
    refine XO.indexN rfl hs rfl Try.underlying29 ty_3 (by omega) rfl ?_
    rintro eb14 eo14 _ x14 hx14 rfl hp14
    refine XO.loadH rfl (by assumption) ty_3 rfl rfl rfl ?_
    refine XO.move rfl rfl ?_
    refine XO.eql rfl rfl rfl ?_
    refine XO.nil ?_
    refine XC.seq2 ?_
    refine XC.cond rfl (fun c1_3 => ?_) (fun c1_3 => ?_)
    · refine XC.seq ?_
      refine XC.region ?_
      refine XO.assign rfl rfl ?_
      refine XO.nil ?_
      refine XC.seq2 ?_
      refine XC.ret ?_
      refine blockR ?_
      refine seqX_ret ?_
      refine loopX_ret ?_
      refine blockR ?_
      refine seqX_ret ?_
      refine ⟨rfl, _, [], rfl, (by repeat (first | exact List.Sublist.refl _ | apply List.Sublist.cons)), RetR.mk ?_⟩
      exact congrArg Value.bool (decide_eq_true ((show x14 = x by omega) ▸ List.mem_of_getElem? hx14)).symm
    · refine XC.skip ?_
      refine blockN ?_
      refine XC.seq2 ?_
      refine XC.region ?_
      refine XO.move rfl rfl ?_
      refine XO.add rfl rfl (wrap_i64 (by omega) (by omega)) rfl ?_
      refine XO.assign rfl rfl ?_
      refine XO.nil ?_
      refine loop_next (k + 1) (by show l.length - (k + 1) < l.length - k; omega) (prov_cons (rfl) (prov_cons (rfl) (prov_cons (rfl) prov_nil))) (⟨by show k + 1 ≤ l.length; omega, rfl, all_snoc hno hx14 (by omega)⟩) (by repeat (first | exact List.Sublist.refl _ | apply List.Sublist.cons_cons | apply List.Sublist.cons)) (hle0)
  · obtain rfl : k = l.length := by omega
    rw [List.take_length] at hno
    refine XC.exit ?_
    refine seqX_exit ?_
    refine loopX_exit ?_
    refine blockHit rfl ?_
    refine XC.seq2 ?_
    refine XC.seq ?_
    refine XC.region ?_
    refine XO.assign rfl rfl ?_
    refine XO.nil ?_
    refine XC.seq2 ?_
    refine XC.ret ?_
    refine ⟨rfl, _, [], rfl, (by repeat (first | exact List.Sublist.refl _ | apply List.Sublist.cons)), RetR.mk ?_⟩
    exact congrArg Value.bool (decide_eq_false (fun h => hno x h rfl)).symm

theorem sameInts_fn (a b : Option Addr) (c d : Nat) (l l2 : List Int) (H : Hp) (hs : SlR (intR .i64) H a c l) (ht : SlR (intR .i64) H b d l2) (hl : l.length < 9223372036854775808) : FnC Try.prog 19 #[.slice a l.length c, .slice b l2.length d] H [] (RetR (fun v _ _ => v = .bool (decide (l = l2)))) := by
  refine FnC.intro (args := [.slice a l.length c, .slice b l2.length d]) Try.func19 rfl rfl Try.ntmps19 rfl rfl rfl fun G rest => ?_
  refine XC.seq ?_
  refine XC.region ?_
  refine XO.assign rfl rfl ?_
  refine XO.nil ?_
  refine XC.seq2 ?_
  refine XC.seq ?_
  refine XC.seq ?_
  refine XC.region ?_
  refine XO.move rfl rfl ?_
  refine XO.lenS (ts := #[]) rfl Try.underlying29 rfl ?_
  refine XO.move rfl rfl ?_
  refine XO.lenS (ts := #[]) rfl Try.underlying29 rfl ?_
  refine XO.neq rfl rfl rfl ?_
  refine XO.nil ?_
  refine XC.seq2 ?_
  refine XC.cond rfl (fun c0_1 => ?_) (fun c0_1 => ?_)
  · refine XC.seq ?_
    refine XC.region ?_
    refine XO.assign rfl rfl ?_
    refine XO.nil ?_
    refine XC.seq2 ?_
    refine XC.ret ?_
    refine seqX_ret ?_
    refine ⟨rfl, _, [], rfl, (by repeat (first | exact List.Sublist.refl _ | apply List.Sublist.cons)), RetR.mk ?_⟩
    exact congrArg Value.bool (decide_eq_false (fun h => by have := congrArg List.length h; omega)).symm
  · refine XC.skip ?_
    refine XC.seq2 ?_
    refine XC.seq ?_
    refine XC.seq ?_
    refine XC.region ?_
    refine XO.assign rfl rfl ?_
    refine XO.nil ?_
    refine XC.seq2 ?_
    refine XC.block ?_
    refine XC.keep [5, 0, 1] rfl ?_
    refine XC.loop (base := [(0, _), (1, _)]) (fun ζ : Nat => [(5, .int .i64 (ζ : Nat))]) (fun ζ Hl own => ζ ≤ l.length ∧ rest = own ∧ (l.take ζ = l2.take ζ)) (fun ζ => l.length - ζ) 0 (prov_cons (rfl) (prov_cons (rfl) (prov_cons (rfl) prov_nil))) (by repeat (first | exact List.Sublist.refl _ | apply List.Sublist.cons_cons | apply List.Sublist.cons)) ⟨Nat.zero_le _, rfl, by simp⟩ ?_
    rintro k Hl0 _ hle0 ⟨hkk, rfl, heq⟩
    replace hs := hs.mono hle0
    replace ht := ht.mono hle0
    try dsimp only at ⊢
    refine XC.seq ?_
    refine XC.seq ?_
    refine XC.region ?_
    refine XO.move rfl rfl ?_
    refine XO.move rfl rfl ?_
    refine XO.lenS (ts := #[]) rfl Try.underlying29 rfl ?_
    refine XO.lss rfl rfl rfl ?_
    refine XO.nil ?_
    refine XC.seq2 ?_
    refine XC.cond rfl (fun c1_2 => ?_) (fun c1_2 => ?_)
    · refine XC.skip ?_
      refine XC.seq2 ?_
      refine XC.seq ?_
      refine XC.block ?_
      refine XC.seq ?_
      refine XC.keep [0, 1, 5] rfl ?_
      obtain ⟨bEX, oEX, rfl⟩ := hs.addr (by omega)
      obtain ⟨_, xX, hxX, rfl, hpX⟩ := hs.elem (k) (by omega)
      obtain ⟨bEY, oEY, rfl⟩ := ht.addr (by omega)
      obtain ⟨_, xY, hxY, rfl, hpY⟩ := ht.elem (k) (by omega)
      apply XC.draw 8 [eqF _, eqF _, eqF _, eqF _, eqF _, eqF _, eqF _, eqF _] follows (by kernel_rfl) (by kernel_rfl) ⟨eqF_mono _, eqF_mono _, eqF_mono _, eqF_mono _, eqF_mono _, eqF_mono _, eqF_mono _, eqF_mono _, trivial⟩ ?steps3 ?tail3
      case steps3 =>
        refine stepsK_cons rfl ?_ ?_
        · intro X
          refine withPreds_nil rfl ?_
          refine XO.move rfl rfl ?_
          refine XO.nil ?_
          exact stepQ_ok rfl (rfl)
        refine stepsK_cons rfl ?_ ?_
        · intro X
          refine withPreds_nil rfl ?_
          refine XO.move rfl rfl ?_
          refine XO.nil ?_
          exact stepQ_ok rfl (rfl)
        refine stepsK_cons rfl ?_ ?_
        · intro X
          refine withPreds_cons rfl rfl ?_
          rintro _ rfl
          refine withPreds_cons rfl rfl ?_
          rintro _ rfl
          refine withPreds_nil rfl ?_
          refine XO.indexE rfl rfl Try.underlying29 ty_3 (by omega) (by omega) rfl ?_
          refine XO.nil ?_
          exact stepQ_ok rfl (rfl)
        refine stepsK_cons rfl ?_ ?_
        · intro X
          refine withPreds_cons rfl rfl ?_
          rintro _ rfl
          refine withPreds_nil rfl ?_
          refine XO.loadH rfl (by assumption) ty_3 rfl rfl rfl ?_
          refine XO.nil ?_
          exact stepQ_ok rfl (rfl)
        refine stepsK_cons rfl ?_ ?_
        · intro X
          refine withPreds_nil rfl ?_
          refine XO.move rfl rfl ?_
          refine XO.nil ?_
          exact stepQ_ok rfl (rfl)
        refine stepsK_cons rfl ?_ ?_
        · intro X
          refine withPreds_nil rfl ?_
          refine XO.move rfl rfl ?_
          refine XO.nil ?_
          exact stepQ_ok rfl (rfl)
        refine stepsK_cons rfl ?_ ?_
        · intro X
          refine withPreds_cons rfl rfl ?_
          rintro _ rfl
          refine withPreds_cons rfl rfl ?_
          rintro _ rfl
          refine withPreds_nil rfl ?_
          refine XO.indexE rfl rfl Try.underlying29 ty_3 (by omega) (by omega) rfl ?_
          refine XO.nil ?_
          exact stepQ_ok rfl (rfl)
        refine stepsK_cons rfl ?_ ?_
        · intro X
          refine withPreds_cons rfl rfl ?_
          rintro _ rfl
          refine withPreds_nil rfl ?_
          refine XO.loadH rfl (by assumption) ty_3 rfl rfl rfl ?_
          refine XO.nil ?_
          exact stepQ_ok rfl (rfl)
        exact stepsD_end rfl
      case tail3 =>
        refine withPreds_cons rfl rfl ?_
        rintro _ rfl
        refine withPreds_cons rfl rfl ?_
        rintro _ rfl
        refine withPreds_cons rfl rfl ?_
        rintro _ rfl
        refine withPreds_cons rfl rfl ?_
        rintro _ rfl
        refine withPreds_cons rfl rfl ?_
        rintro _ rfl
        refine withPreds_cons rfl rfl ?_
        rintro _ rfl
        refine withPreds_cons rfl rfl ?_
        rintro _ rfl
        refine withPreds_cons rfl rfl ?_
        rintro _ rfl
        refine withPreds_nil rfl ?_
        refine XO.neq rfl rfl rfl ?_
        refine XO.nil ?_
        refine XC.seq2 ?_
        refine XC.cond rfl (fun c2_6 => ?_) (fun c2_6 => ?_)
        · refine XC.seq ?_
          refine XC.region ?_
          refine XO.assign rfl rfl ?_
          refine XO.nil ?_
          refine XC.seq2 ?_
          refine XC.ret ?_
          refine blockR ?_
          refine seqX_ret ?_
          refine loopX_ret ?_
          refine blockR ?_
          refine seqX_ret ?_
          refine ⟨rfl, _, [], rfl, (by repeat (first | exact List.Sublist.refl _ | apply List.Sublist.cons)), RetR.mk ?_⟩
          exact congrArg Value.bool (decide_eq_false (fun h => by subst h; exact absurd (Option.some.inj (hxX.symm.trans hxY)) (by assumption))).symm
        · refine XC.skip ?_
          refine blockN ?_
          refine XC.seq2 ?_
          refine XC.region ?_
          refine XO.move rfl rfl ?_
          refine XO.add rfl rfl (wrap_i64 (by omega) (by omega)) rfl ?_
          refine XO.assign rfl rfl ?_
          refine XO.nil ?_
          refine loop_next (k + 1) (by show l.length - (k + 1) < l.length - k; omega) (prov_cons (rfl) (prov_cons (rfl) (prov_cons (rfl) prov_nil))) (⟨by show k + 1 ≤ l.length; omega, rfl, by rw [take_snoc hxX, take_snoc hxY, heq, show xX = xY from Decidable.not_not.1 (by assumption)]⟩) (by repeat (first | exact List.Sublist.refl _ | apply List.Sublist.cons_cons | apply List.Sublist.cons)) (hle0)
    · obtain rfl : k = l.length := by omega
      rw [List.take_length] at heq
      refine XC.exit ?_
      refine seqX_exit ?_
      refine loopX_exit ?_
      refine blockHit rfl ?_
      refine XC.seq2 ?_
      refine XC.seq ?_
      refine XC.region ?_
      refine XO.assign rfl rfl ?_
      refine XO.nil ?_
      refine XC.seq2 ?_
      refine XC.ret ?_
      refine ⟨rfl, _, [], rfl, (by repeat (first | exact List.Sublist.refl _ | apply List.Sublist.cons)), RetR.mk ?_⟩
      exact congrArg Value.bool (decide_eq_true (heq.trans (List.take_of_length_le (by omega)))).symm

theorem same_fn (a b : Option Addr) (c d : Nat) (l l2 : List (Int × Int)) (H : Hp) (hs : SlR pairR H a c l) (ht : SlR pairR H b d l2) (hl : l.length < 9223372036854775808) : FnC Try.prog 18 #[.slice a l.length c, .slice b l2.length d] H [] (RetR (fun v _ _ => v = .bool (decide (l = l2)))) := by
  refine FnC.intro (args := [.slice a l.length c, .slice b l2.length d]) Try.func18 rfl rfl Try.ntmps18 rfl rfl rfl fun G rest => ?_
  refine XC.seq ?_
  refine XC.region ?_
  refine XO.assign rfl rfl ?_
  refine XO.nil ?_
  refine XC.seq2 ?_
  refine XC.seq ?_
  refine XC.seq ?_
  refine XC.region ?_
  refine XO.move rfl rfl ?_
  refine XO.lenS (ts := #[]) rfl Try.underlying25 rfl ?_
  refine XO.move rfl rfl ?_
  refine XO.lenS (ts := #[]) rfl Try.underlying25 rfl ?_
  refine XO.neq rfl rfl rfl ?_
  refine XO.nil ?_
  refine XC.seq2 ?_
  refine XC.cond rfl (fun c0_1 => ?_) (fun c0_1 => ?_)
  · refine XC.seq ?_
    refine XC.region ?_
    refine XO.assign rfl rfl ?_
    refine XO.nil ?_
    refine XC.seq2 ?_
    refine XC.ret ?_
    refine seqX_ret ?_
    refine ⟨rfl, _, [], rfl, (by repeat (first | exact List.Sublist.refl _ | apply List.Sublist.cons)), RetR.mk ?_⟩
    exact congrArg Value.bool (decide_eq_false (fun h => by have := congrArg List.length h; omega)).symm
  · refine XC.skip ?_
    refine XC.seq2 ?_
    refine XC.seq ?_
    refine XC.seq ?_
    refine XC.region ?_
    refine XO.assign rfl rfl ?_
    refine XO.nil ?_
    refine XC.seq2 ?_
    refine XC.block ?_
    refine XC.keep [5, 0, 1] rfl ?_
    refine XC.loop (base := [(0, _), (1, _)]) (fun ζ : Nat => [(5, .int .i64 (ζ : Nat))]) (fun ζ Hl own => ζ ≤ l.length ∧ rest = own ∧ (l.take ζ = l2.take ζ)) (fun ζ => l.length - ζ) 0 (prov_cons (rfl) (prov_cons (rfl) (prov_cons (rfl) prov_nil))) (by repeat (first | exact List.Sublist.refl _ | apply List.Sublist.cons_cons | apply List.Sublist.cons)) ⟨Nat.zero_le _, rfl, by simp⟩ ?_
    rintro k Hl0 _ hle0 ⟨hkk, rfl, heq⟩
    replace hs := hs.mono hle0
    replace ht := ht.mono hle0
    try dsimp only at ⊢
    refine XC.seq ?_
    refine XC.seq ?_
    refine XC.region ?_
    refine XO.move rfl rfl ?_
    refine XO.move rfl rfl ?_
    refine XO.lenS (ts := #[]) rfl Try.underlying25 rfl ?_
    refine XO.lss rfl rfl rfl ?_
    refine XO.nil ?_
    refine XC.seq2 ?_
    refine XC.cond rfl (fun c1_2 => ?_) (fun c1_2 => ?_)
    · refine XC.skip ?_
      refine XC.seq2 ?_
      refine XC.seq ?_
      refine XC.block ?_
      refine XC.seq ?_
      refine XC.keep [0, 1, 5] rfl ?_
      obtain ⟨bEX, oEX, rfl⟩ := hs.addr (by omega)
      obtain ⟨_, xX, hxX, rfl, hpX⟩ := hs.elem (k) (by omega)
      obtain ⟨bEY, oEY, rfl⟩ := ht.addr (by omega)
      obtain ⟨_, xY, hxY, rfl, hpY⟩ := ht.elem (k) (by omega)
      apply XC.draw 8 [eqF _, eqF _, eqF _, eqF _, eqF _, eqF _, eqF _, eqF _] follows (by kernel_rfl) (by kernel_rfl) ⟨eqF_mono _, eqF_mono _, eqF_mono _, eqF_mono _, eqF_mono _, eqF_mono _, eqF_mono _, eqF_mono _, trivial⟩ ?steps3 ?tail3
      case steps3 =>
        refine stepsK_cons rfl ?_ ?_
        · intro X
          refine withPreds_nil rfl ?_
          refine XO.move rfl rfl ?_
          refine XO.nil ?_
          exact stepQ_ok rfl (rfl)
        refine stepsK_cons rfl ?_ ?_
        · intro X
          refine withPreds_nil rfl ?_
          refine XO.move rfl rfl ?_
          refine XO.nil ?_
          exact stepQ_ok rfl (rfl)
        refine stepsK_cons rfl ?_ ?_
        · intro X
          refine withPreds_cons rfl rfl ?_
          rintro _ rfl
          refine withPreds_cons rfl rfl ?_
          rintro _ rfl
          refine withPreds_nil rfl ?_
          refine XO.indexE rfl rfl Try.underlying25 ty_41 (by omega) (by omega) rfl ?_
          refine XO.nil ?_
          exact stepQ_ok rfl (rfl)
        refine stepsK_cons rfl ?_ ?_
        · intro X
          refine withPreds_cons rfl rfl ?_
          rintro _ rfl
          refine withPreds_nil rfl ?_
          refine XO.loadH rfl (by assumption) ty_41 rfl rfl rfl ?_
          refine XO.nil ?_
          exact stepQ_ok rfl (rfl)
        refine stepsK_cons rfl ?_ ?_
        · intro X
          refine withPreds_nil rfl ?_
          refine XO.move rfl rfl ?_
          refine XO.nil ?_
          exact stepQ_ok rfl (rfl)
        refine stepsK_cons rfl ?_ ?_
        · intro X
          refine withPreds_nil rfl ?_
          refine XO.move rfl rfl ?_
          refine XO.nil ?_
          exact stepQ_ok rfl (rfl)
        refine stepsK_cons rfl ?_ ?_
        · intro X
          refine withPreds_cons rfl rfl ?_
          rintro _ rfl
          refine withPreds_cons rfl rfl ?_
          rintro _ rfl
          refine withPreds_nil rfl ?_
          refine XO.indexE rfl rfl Try.underlying25 ty_41 (by omega) (by omega) rfl ?_
          refine XO.nil ?_
          exact stepQ_ok rfl (rfl)
        refine stepsK_cons rfl ?_ ?_
        · intro X
          refine withPreds_cons rfl rfl ?_
          rintro _ rfl
          refine withPreds_nil rfl ?_
          refine XO.loadH rfl (by assumption) ty_41 rfl rfl rfl ?_
          refine XO.nil ?_
          exact stepQ_ok rfl (rfl)
        exact stepsD_end rfl
      case tail3 =>
        refine withPreds_cons rfl rfl ?_
        rintro _ rfl
        refine withPreds_cons rfl rfl ?_
        rintro _ rfl
        refine withPreds_cons rfl rfl ?_
        rintro _ rfl
        refine withPreds_cons rfl rfl ?_
        rintro _ rfl
        refine withPreds_cons rfl rfl ?_
        rintro _ rfl
        refine withPreds_cons rfl rfl ?_
        rintro _ rfl
        refine withPreds_cons rfl rfl ?_
        rintro _ rfl
        refine withPreds_cons rfl rfl ?_
        rintro _ rfl
        refine withPreds_nil rfl ?_
        refine XO.neqA2 rfl rfl Try.underlying41 eg_41 Try.underlying3 ty_3 rfl ?_
        refine XO.nil ?_
        refine XC.seq2 ?_
        refine XC.cond rfl (fun c2_6 => ?_) (fun c2_6 => ?_)
        · refine XC.seq ?_
          refine XC.region ?_
          refine XO.assign rfl rfl ?_
          refine XO.nil ?_
          refine XC.seq2 ?_
          refine XC.ret ?_
          refine blockR ?_
          refine seqX_ret ?_
          refine loopX_ret ?_
          refine blockR ?_
          refine seqX_ret ?_
          refine ⟨rfl, _, [], rfl, (by repeat (first | exact List.Sublist.refl _ | apply List.Sublist.cons)), RetR.mk ?_⟩
          exact congrArg Value.bool (decide_eq_false (fun h => by subst h; exact absurd (Option.some.inj (hxX.symm.trans hxY)) (by assumption))).symm
        · refine XC.skip ?_
          refine blockN ?_
          refine XC.seq2 ?_
          refine XC.region ?_
          refine XO.move rfl rfl ?_
          refine XO.add rfl rfl (wrap_i64 (by omega) (by omega)) rfl ?_
          refine XO.assign rfl rfl ?_
          refine XO.nil ?_
          refine loop_next (k + 1) (by show l.length - (k + 1) < l.length - k; omega) (prov_cons (rfl) (prov_cons (rfl) (prov_cons (rfl) prov_nil))) (⟨by show k + 1 ≤ l.length; omega, rfl, by rw [take_snoc hxX, take_snoc hxY, heq, show xX = xY from Decidable.not_not.1 (by assumption)]⟩) (by repeat (first | exact List.Sublist.refl _ | apply List.Sublist.cons_cons | apply List.Sublist.cons)) (hle0)
    · obtain rfl : k = l.length := by omega
      rw [List.take_length] at heq
      refine XC.exit ?_
      refine seqX_exit ?_
      refine loopX_exit ?_
      refine blockHit rfl ?_
      refine XC.seq2 ?_
      refine XC.seq ?_
      refine XC.region ?_
      refine XO.assign rfl rfl ?_
      refine XO.nil ?_
      refine XC.seq2 ?_
      refine XC.ret ?_
      refine ⟨rfl, _, [], rfl, (by repeat (first | exact List.Sublist.refl _ | apply List.Sublist.cons)), RetR.mk ?_⟩
      exact congrArg Value.bool (decide_eq_true (heq.trans (List.take_of_length_le (by omega)))).symm

end Go.Proofs
