/- The walks of the functions of the shares: what each of them computes, at any input. -/
import Derived.Test.YtdiknopliedddaaXLp
import Derived.Test.YtdiknopliedddaaRaW
import Derived.Test.YtdiknopliedddaaRaS
set_option autoImplicit false
set_option linter.unusedVariables false
set_option linter.unusedSimpArgs false
namespace Go.Proofs
open Go.XL

theorem fa_52_0 : fieldF Try.prog 52 0 = some 0 := by kernel_rfl
theorem fa_52_1 : fieldF Try.prog 52 1 = some 1 := by kernel_rfl
theorem ty_52 : tyF Try.prog 52 2 true = true := by kernel_rfl

theorem same_fn (a0 : Option Addr) (c0 : Nat) (l0 : List Pt) (a1 : Option Addr) (c1 : Nat) (l1 : List Pt) (H : Hp) (hs0 : SlR ptR H a0 c0 l0) (hs1 : SlR ptR H a1 c1 l1) (hl : l0.length < 4611686018427387904) : FnC Try.prog 35 #[.slice a0 l0.length c0, .slice a1 l1.length c1] H [] (RetR fun v _ _ => ∃ b : Bool, v = .bool b ∧ (b = true ↔ l0 = l1)) := by
  refine FnC.intro (args := [.slice a0 l0.length c0, .slice a1 l1.length c1]) Try.func35 rfl rfl Try.ntmps35 rfl rfl rfl fun G rest => ?_
  refine XC.seq ?_
  refine XC.region ?_
  refine XO.assign rfl rfl ?_
  refine XO.nil ?_
  refine XC.seq2 ?_
  refine XC.seq ?_
  refine XC.seq ?_
  refine XC.region ?_
  refine XO.move rfl rfl ?_
  refine XO.lenS (ts := #[]) rfl Try.underlying42 rfl ?_
  refine XO.move rfl rfl ?_
  refine XO.lenS (ts := #[]) rfl Try.underlying42 rfl ?_
  refine XO.neq rfl rfl rfl ?_
  refine XO.nil ?_
  refine XC.seq2 ?_
  refine XC.cond rfl (fun c0_1 => ?_) (fun c0_1 => ?_)
  · refine XC.seq ?_
    refine XC.region ?_
    refine XO.assign rfl rfl ?_
    refine XO.nil ?_
    refine XC.seq2 ?_
    refine XC.ret ?_
    refine seqX_ret ?_
    refine ⟨rfl, _, [], rfl, (by repeat (first | exact List.Sublist.refl _ | apply List.Sublist.cons)), RetR.mk ?_⟩
    exact ⟨false, rfl, by simp; intro h; subst h; omega⟩
  · have hlen : l0.length = l1.length := by omega
    refine XC.skip ?_
    refine XC.seq2 ?_
    refine XC.seq ?_
    refine XC.seq ?_
    refine XC.region ?_
    refine XO.assign rfl rfl ?_
    refine XO.nil ?_
    refine XC.seq2 ?_
    refine XC.block ?_
    refine XC.keep [5, 0, 1] rfl ?_
    refine XC.loop (base := [(0, _), (1, _)]) (fun k : Nat => [(5, .int .i64 (k : Nat))]) (fun k Hl own => k ≤ l0.length ∧ rest = own ∧ H = Hl ∧ (∀ (j : Nat) x y, j < k → l0[j]? = some x → l1[j]? = some y → x.X = y.X ∧ x.Y = y.Y)) (fun k => l0.length - k) 0 (prov_cons (rfl) (prov_cons (rfl) (prov_cons (rfl) prov_nil))) (List.Sublist.refl _) ⟨Nat.zero_le _, rfl, rfl, fun j x y h => absurd h (Nat.not_lt_zero _)⟩ ?_
    rintro k Hl _ hle ⟨hk, rfl, rfl, hsame⟩
    refine XC.seq ?_
    refine XC.seq ?_
    refine XC.region ?_
    refine XO.move rfl rfl ?_
    refine XO.move rfl rfl ?_
    refine XO.lenS (ts := #[]) rfl Try.underlying42 rfl ?_
    refine XO.lss rfl rfl rfl ?_
    refine XO.nil ?_
    refine XC.seq2 ?_
    refine XC.cond rfl (fun c1_2 => ?_) (fun c1_2 => ?_)
    · refine XC.skip ?_
      refine XC.seq2 ?_
      refine XC.seq ?_
      refine XC.block ?_
      refine XC.seq ?_
      refine XC.keep [0, 1, 5] rfl ?_
      obtain ⟨b0, o0, rfl⟩ := hs0.addr (by omega)
      obtain ⟨_, x1, hx1, rfl, hp1⟩ := hs0.elem k (by omega)
      obtain ⟨b2, o2, rfl⟩ := hs1.addr (by omega)
      obtain ⟨_, x2, hx2, rfl, hp2⟩ := hs1.elem k (by omega)
      apply XC.draw 9 [eqF _, eqF _, eqF _, eqF _, eqF _, eqF _, eqF _, eqF _, eqF _] follows (by kernel_rfl) (by kernel_rfl) ⟨eqF_mono _, eqF_mono _, eqF_mono _, eqF_mono _, eqF_mono _, eqF_mono _, eqF_mono _, eqF_mono _, eqF_mono _, trivial⟩ ?steps3 ?tail3
      case steps3 =>
        refine stepsK_cons rfl ?_ ?_
        · intro X
          refine withPreds_nil rfl ?_
          refine XO.move rfl rfl ?_
          refine XO.nil ?_
          exact stepQ_ok rfl (rfl)
        refine stepsK_cons rfl ?_ ?_
        · intro X
          refine withPreds_nil rfl ?_
          refine XO.move rfl rfl ?_
          refine XO.nil ?_
          exact stepQ_ok rfl (rfl)
        refine stepsK_cons rfl ?_ ?_
        · intro X
          refine withPreds_cons rfl rfl ?_
          rintro _ rfl
          refine withPreds_cons rfl rfl ?_
          rintro _ rfl
          refine withPreds_nil rfl ?_
          refine XO.indexE rfl rfl Try.underlying42 ty_52 (by omega) (by omega) rfl ?_
          refine XO.nil ?_
          exact stepQ_ok rfl (rfl)
        refine stepsK_cons rfl ?_ ?_
        · intro X
          refine withPreds_cons rfl rfl ?_
          rintro _ rfl
          refine withPreds_nil rfl ?_
          refine XO.loadH rfl (by assumption) ty_52 rfl rfl rfl ?_
          refine XO.nil ?_
          exact stepQ_ok rfl (rfl)
        refine stepsK_cons rfl ?_ ?_
        · intro X
          refine withPreds_nil rfl ?_
          refine XO.move rfl rfl ?_
          refine XO.nil ?_
          exact stepQ_ok rfl (rfl)
        refine stepsK_cons rfl ?_ ?_
        · intro X
          refine withPreds_nil rfl ?_
          refine XO.move rfl rfl ?_
          refine XO.nil ?_
          exact stepQ_ok rfl (rfl)
        refine stepsK_cons rfl ?_ ?_
        · intro X
          refine withPreds_cons rfl rfl ?_
          rintro _ rfl
          refine withPreds_cons rfl rfl ?_
          rintro _ rfl
          refine withPreds_nil rfl ?_
          refine XO.indexE rfl rfl Try.underlying42 ty_52 (by omega) (by omega) rfl ?_
          refine XO.nil ?_
          exact stepQ_ok rfl (rfl)
        refine stepsK_cons rfl ?_ ?_
        · intro X
          refine withPreds_cons rfl rfl ?_
          rintro _ rfl
          refine withPreds_nil rfl ?_
          refine XO.loadH rfl (by assumption) ty_52 rfl rfl rfl ?_
          refine XO.nil ?_
          exact stepQ_ok rfl (rfl)
        refine stepsK_cons rfl ?_ ?_
        · intro X
          refine withPreds_cons rfl rfl ?_
          rintro _ rfl
          refine withPreds_cons rfl rfl ?_
          rintro _ rfl
          refine withPreds_nil rfl ?_
          refine XO.neqS2 (f0 := _) (f1 := _) rfl rfl Try.underlying52 (by kernel_rfl) (by kernel_rfl) Try.underlying3 Try.underlying3 ⟨rfl, rfl, by decide, by decide⟩ rfl ?_
          refine XO.nil ?_
          exact stepQ_ok rfl (rfl)
        exact stepsD_end rfl
      case tail3 =>
        refine withPreds_cons rfl rfl ?_
        rintro _ rfl
        refine withPreds_cons rfl rfl ?_
        rintro _ rfl
        refine withPreds_cons rfl rfl ?_
        rintro _ rfl
        refine withPreds_cons rfl rfl ?_
        rintro _ rfl
        refine withPreds_cons rfl rfl ?_
        rintro _ rfl
        refine withPreds_cons rfl rfl ?_
        rintro _ rfl
        refine withPreds_cons rfl rfl ?_
        rintro _ rfl
        refine withPreds_cons rfl rfl ?_
        rintro _ rfl
        refine withPreds_cons rfl rfl ?_
        rintro _ rfl
        refine withPreds_nil rfl ?_
        refine XO.nil ?_
        refine XC.seq2 ?_
        refine XC.cond rfl (fun c2_7 => ?_) (fun c2_7 => ?_)
        · refine XC.seq ?_
          refine XC.region ?_
          refine XO.assign rfl rfl ?_
          refine XO.nil ?_
          refine XC.seq2 ?_
          refine XC.ret ?_
          refine blockR ?_
          refine seqX_ret ?_
          refine loopX_ret ?_
          refine blockR ?_
          refine seqX_ret ?_
          refine ⟨rfl, _, [], rfl, (by repeat (first | exact List.Sublist.refl _ | apply List.Sublist.cons)), RetR.mk ?_⟩
          exact ⟨false, rfl, by simp; rintro rfl; rw [hx1] at hx2; cases hx2; simp_all⟩
        · refine XC.skip ?_
          refine blockN ?_
          refine XC.seq2 ?_
          refine XC.region ?_
          refine XO.move rfl rfl ?_
          refine XO.add rfl rfl (wrap_i64 (by omega) (by omega)) rfl ?_
          refine XO.assign rfl rfl ?_
          refine XO.nil ?_
          refine loop_next (k + 1) (by omega) (prov_cons (rfl) (prov_cons (rfl) (prov_cons (rfl) prov_nil))) (⟨by omega, rfl, rfl, fun j x y hj hx hy => by
                rcases Nat.lt_or_ge j k with h | h
                · exact hsame j x y h hx hy
                · obtain rfl : j = k := by omega
                  rw [hx1] at hx; rw [hx2] at hy; cases hx; cases hy; exact Decidable.not_not.1 (by assumption)⟩) (by repeat (first | exact List.Sublist.refl _ | apply List.Sublist.cons)) hle
    · refine XC.exit ?_
      refine seqX_exit ?_
      refine loopX_exit ?_
      refine blockHit rfl ?_
      refine XC.seq2 ?_
      refine XC.seq ?_
      refine XC.region ?_
      refine XO.assign rfl rfl ?_
      refine XO.nil ?_
      refine XC.seq2 ?_
      refine XC.ret ?_
      refine ⟨rfl, _, [], rfl, (by repeat (first | exact List.Sublist.refl _ | apply List.Sublist.cons)), RetR.mk ?_⟩
      exact ⟨true, rfl, by simp; exact pts_eq hlen fun j x y hj => hsame j x y (by omega)⟩

set_option maxRecDepth 100000 in
set_option maxHeartbeats 1600000 in
theorem rformed_fn (a0 : Option Addr) (c0 : Nat) (l0 : List Pt) (H : Hp) (hs0 : SlR ptR H a0 c0 l0) (hl : l0.length < 4611686018427387904) : FnC Try.prog 44 #[.slice a0 l0.length c0] H [] (RetR fun v _ _ => ∃ b : Bool, v = .bool b ∧ (b = true ↔ Fm l0)) := by
  refine FnC.intro (args := [.slice a0 l0.length c0]) Try.func44 rfl rfl Try.ntmps44 rfl rfl rfl fun G rest => ?_
  refine XC.seq ?_
  refine XC.region ?_
  refine XO.assign rfl rfl ?_
  refine XO.nil ?_
  refine XC.seq2 ?_
  refine XC.seq ?_
  refine XC.seq ?_
  refine XC.region ?_
  refine XO.move rfl rfl ?_
  refine XO.lenS (ts := #[]) rfl Try.underlying42 rfl ?_
  refine XO.lss rfl rfl rfl ?_
  refine XO.move rfl rfl ?_
  refine XO.guardC rfl rfl rfl rfl (fun g1 => ?_) (fun g1 => ?_)
  · have g1p := of_decide_eq_false g1
    refine XO.move rfl rfl ?_
    refine XO.guardT rfl rfl (g1) rfl ?_
    refine XO.lenS (ts := #[]) rfl Try.underlying42 rfl ?_
    refine XO.guardT rfl rfl (g1) rfl ?_
    refine XO.gtr rfl rfl rfl ?_
    refine XO.pickF rfl (g1) rfl rfl ?_
    refine XO.nil ?_
    refine XC.seq2 ?_
    refine XC.cond rfl (fun c0_2 => ?_) (fun c0_2 => ?_)
    · refine XC.seq ?_
      refine XC.region ?_
      refine XO.assign rfl rfl ?_
      refine XO.nil ?_
      refine XC.seq2 ?_
      refine XC.ret ?_
      refine seqX_ret ?_
      refine ⟨rfl, _, [], rfl, (by repeat (first | exact List.Sublist.refl _ | apply List.Sublist.cons)), RetR.mk ?_⟩
      exact ⟨false, rfl, by simp only [Bool.false_eq_true, false_iff]; intro hF; have := hF.2.1; omega⟩
    · refine XC.skip ?_
      refine XC.seq2 ?_
      refine XC.seq ?_
      refine XC.seq ?_
      refine XC.region ?_
      refine XO.assign rfl rfl ?_
      refine XO.nil ?_
      refine XC.seq2 ?_
      refine XC.block ?_
      refine XC.keep [3, 0] rfl ?_
      refine XC.loop (base := [(0, _)]) (fun i : Nat => [(3, .int .i64 (i : Nat))]) (fun i Hl own => i ≤ l0.length ∧ rest = own ∧ H = Hl ∧ (∀ (j : Nat) x, j < i → l0[j]? = some x → okPt x) ∧ (∀ (j j2 : Nat) x y, j2 < j → j < i → l0[j]? = some x → l0[j2]? = some y → y.X ≠ x.X)) (fun i => l0.length - i) 0 (prov_cons (rfl) (prov_cons (rfl) prov_nil)) (List.Sublist.refl _) ⟨Nat.zero_le _, rfl, rfl, fun j x h => absurd h (Nat.not_lt_zero _), fun j j2 x y _ h => absurd h (Nat.not_lt_zero _)⟩ ?_
      rintro i Hl _ hle ⟨hi, rfl, rfl, hok, hdf⟩
      refine XC.seq ?_
      refine XC.seq ?_
      refine XC.region ?_
      refine XO.move rfl rfl ?_
      refine XO.move rfl rfl ?_
      refine XO.lenS (ts := #[]) rfl Try.underlying42 rfl ?_
      refine XO.lss rfl rfl rfl ?_
      refine XO.nil ?_
      refine XC.seq2 ?_
      refine XC.cond rfl (fun c1_3 => ?_) (fun c1_3 => ?_)
      · refine XC.skip ?_
        refine XC.seq2 ?_
        refine XC.seq ?_
        refine XC.block ?_
        refine XC.seq ?_
        refine XC.seq ?_
        refine XC.region ?_
        refine XO.move rfl rfl ?_
        refine XO.move rfl rfl ?_
        refine XO.indexN rfl (by assumption) rfl Try.underlying42 ty_52 (by omega) rfl ?_
        rintro ea oa _ xA hxA rfl hpA
        refine XO.fieldAddr rfl fa_52_0 rfl ?_
        refine XO.loadHF rfl (by assumption) ty_3 rfl rfl rfl ?_
        refine XO.lss rfl rfl rfl ?_
        refine XO.move rfl rfl ?_
        refine XO.guardC rfl rfl rfl rfl (fun g5 => ?_) (fun g5 => ?_)
        · have g5p := of_decide_eq_false g5
          refine XO.move rfl rfl ?_
          refine XO.guardT rfl rfl (g5) rfl ?_
          refine XO.move rfl rfl ?_
          refine XO.guardT rfl rfl (g5) rfl ?_
          refine XO.indexN rfl (by assumption) rfl Try.underlying42 ty_52 (by omega) rfl ?_
          rintro eb2 ob2 _ xB hxB rfl hpB
          obtain rfl : xA = xB := Option.some.inj (hxA.symm.trans hxB)
          refine XO.guardT rfl rfl (g5) rfl ?_
          refine XO.fieldAddr rfl fa_52_0 rfl ?_
          refine XO.guardT rfl rfl (g5) rfl ?_
          refine XO.loadHF rfl (by assumption) ty_3 rfl rfl rfl ?_
          refine XO.guardT rfl rfl (g5) rfl ?_
          refine XO.gtr rfl rfl rfl ?_
          refine XO.pickF rfl (g5) rfl rfl ?_
          refine XO.move rfl rfl ?_
          refine XO.guardC rfl rfl rfl rfl (fun g7 => ?_) (fun g7 => ?_)
          · have g7p := of_decide_eq_false g7
            refine XO.move rfl rfl ?_
            refine XO.guardT rfl rfl (g7) rfl ?_
            refine XO.move rfl rfl ?_
            refine XO.guardT rfl rfl (g7) rfl ?_
            refine XO.indexN rfl (by assumption) rfl Try.underlying42 ty_52 (by omega) rfl ?_
            rintro ec oc _ xC hxC rfl hpC
            obtain rfl : xA = xC := Option.some.inj (hxA.symm.trans hxC)
            refine XO.guardT rfl rfl (g7) rfl ?_
            refine XO.fieldAddr rfl fa_52_1 rfl ?_
            refine XO.guardT rfl rfl (g7) rfl ?_
            refine XO.loadHF rfl (by assumption) ty_3 rfl rfl rfl ?_
            refine XO.guardT rfl rfl (g7) rfl ?_
            refine XO.lss rfl rfl rfl ?_
            refine XO.pickF rfl (g7) rfl rfl ?_
            refine XO.move rfl rfl ?_
            refine XO.guardC rfl rfl rfl rfl (fun g9 => ?_) (fun g9 => ?_)
            · have g9p := of_decide_eq_false g9
              refine XO.move rfl rfl ?_
              refine XO.guardT rfl rfl (g9) rfl ?_
              refine XO.move rfl rfl ?_
              refine XO.guardT rfl rfl (g9) rfl ?_
              refine XO.indexN rfl (by assumption) rfl Try.underlying42 ty_52 (by omega) rfl ?_
              rintro ed od _ xD hxD rfl hpD
              obtain rfl : xA = xD := Option.some.inj (hxA.symm.trans hxD)
              refine XO.guardT rfl rfl (g9) rfl ?_
              refine XO.fieldAddr rfl fa_52_1 rfl ?_
              refine XO.guardT rfl rfl (g9) rfl ?_
              refine XO.loadHF rfl (by assumption) ty_3 rfl rfl rfl ?_
              refine XO.guardT rfl rfl (g9) rfl ?_
              refine XO.geq rfl rfl rfl ?_
              refine XO.pickF rfl (g9) rfl rfl ?_
              refine XO.nil ?_
              refine XC.seq2 ?_
              refine XC.cond rfl (fun c2_11 => ?_) (fun c2_11 => ?_)
              · refine XC.seq ?_
                refine XC.region ?_
                refine XO.assign rfl rfl ?_
                refine XO.nil ?_
                refine XC.seq2 ?_
                refine XC.ret ?_
                refine seqX_ret ?_
                refine blockR ?_
                refine seqX_ret ?_
                refine loopX_ret ?_
                refine blockR ?_
                refine seqX_ret ?_
                refine ⟨rfl, _, [], rfl, (by repeat (first | exact List.Sublist.refl _ | apply List.Sublist.cons)), RetR.mk ?_⟩
                exact ⟨false, rfl, by simp only [Bool.false_eq_true, false_iff]; intro hF; exact fm_bad hxA (fun h => by unfold okPt at h; omega) hF⟩
              · have hokA : okPt xA := ⟨by omega, by omega, by omega, by omega⟩
                refine XC.skip ?_
                refine XC.seq2 ?_
                refine XC.seq ?_
                refine XC.region ?_
                refine XO.assign rfl rfl ?_
                refine XO.nil ?_
                refine XC.seq2 ?_
                refine XC.block ?_
                refine XC.keep [4, 0, 3] rfl ?_
                refine XC.loop (base := [(0, _), (3, _)]) (fun k : Nat => [(4, .int .i64 (k : Nat))]) (fun k Hl own => k ≤ i ∧ rest = own ∧ H = Hl ∧ (∀ (j : Nat) y, j < k → l0[j]? = some y → y.X ≠ xA.X)) (fun k => i - k) 0 (prov_cons (rfl) (prov_cons (rfl) (prov_cons (rfl) prov_nil))) (List.Sublist.refl _) ⟨Nat.zero_le _, rfl, rfl, fun j y h => absurd h (Nat.not_lt_zero _)⟩ ?_
                rintro k Hl _ hle ⟨hk, rfl, rfl, hdk⟩
                refine XC.seq ?_
                refine XC.seq ?_
                refine XC.region ?_
                refine XO.move rfl rfl ?_
                refine XO.move rfl rfl ?_
                refine XO.lss rfl rfl rfl ?_
                refine XO.nil ?_
                refine XC.seq2 ?_
                refine XC.cond rfl (fun c3_12 => ?_) (fun c3_12 => ?_)
                · refine XC.skip ?_
                  refine XC.seq2 ?_
                  refine XC.seq ?_
                  refine XC.block ?_
                  refine XC.seq ?_
                  refine XC.keep [0, 3, 4] rfl ?_
                  obtain ⟨b0, o0, rfl⟩ := hs0.addr (by omega)
                  obtain ⟨_, x1, hx1, rfl, hp1⟩ := hs0.elem k (by omega)
                  obtain ⟨_, x2, hx2, rfl, hp2⟩ := hs0.elem i (by omega)
                  apply XC.draw 11 [eqF _, eqF _, eqF _, eqF _, eqF _, eqF _, eqF _, eqF _, eqF _, eqF _, eqF _] follows (by kernel_rfl) (by kernel_rfl) ⟨eqF_mono _, eqF_mono _, eqF_mono _, eqF_mono _, eqF_mono _, eqF_mono _, eqF_mono _, eqF_mono _, eqF_mono _, eqF_mono _, eqF_mono _, trivial⟩ ?steps13 ?tail13
                  case steps13 =>
                    refine stepsK_cons rfl ?_ ?_
                    · intro X
                      refine withPreds_nil rfl ?_
                      refine XO.move rfl rfl ?_
                      refine XO.nil ?_
                      exact stepQ_ok rfl (rfl)
                    refine stepsK_cons rfl ?_ ?_
                    · intro X
                      refine withPreds_nil rfl ?_
                      refine XO.move rfl rfl ?_
                      refine XO.nil ?_
                      exact stepQ_ok rfl (rfl)
                    refine stepsK_cons rfl ?_ ?_
                    · intro X
                      refine withPreds_cons rfl rfl ?_
                      rintro _ rfl
                      refine withPreds_cons rfl rfl ?_
                      rintro _ rfl
                      refine withPreds_nil rfl ?_
                      refine XO.indexE rfl rfl Try.underlying42 ty_52 (by omega) (by omega) rfl ?_
                      refine XO.nil ?_
                      exact stepQ_ok rfl (rfl)
                    refine stepsK_cons rfl ?_ ?_
                    · intro X
                      refine withPreds_cons rfl rfl ?_
                      rintro _ rfl
                      refine withPreds_nil rfl ?_
                      refine XO.fieldAddr rfl fa_52_0 rfl ?_
                      refine XO.nil ?_
                      exact stepQ_ok rfl (rfl)
                    refine stepsK_cons rfl ?_ ?_
                    · intro X
                      refine withPreds_cons rfl rfl ?_
                      rintro _ rfl
                      refine withPreds_nil rfl ?_
                      refine XO.loadHF rfl (by assumption) ty_3 rfl rfl rfl ?_
                      refine XO.nil ?_
                      exact stepQ_ok rfl (rfl)
                    refine stepsK_cons rfl ?_ ?_
                    · intro X
                      refine withPreds_nil rfl ?_
                      refine XO.move rfl rfl ?_
                      refine XO.nil ?_
                      exact stepQ_ok rfl (rfl)
                    refine stepsK_cons rfl ?_ ?_
                    · intro X
                      refine withPreds_nil rfl ?_
                      refine XO.move rfl rfl ?_
                      refine XO.nil ?_
                      exact stepQ_ok rfl (rfl)
                    refine stepsK_cons rfl ?_ ?_
                    · intro X
                      refine withPreds_cons rfl rfl ?_
                      rintro _ rfl
                      refine withPreds_cons rfl rfl ?_
                      rintro _ rfl
                      refine withPreds_nil rfl ?_
                      refine XO.indexE rfl rfl Try.underlying42 ty_52 (by omega) (by omega) rfl ?_
                      refine XO.nil ?_
                      exact stepQ_ok rfl (rfl)
                    refine stepsK_cons rfl ?_ ?_
                    · intro X
                      refine withPreds_cons rfl rfl ?_
                      rintro _ rfl
                      refine withPreds_nil rfl ?_
                      refine XO.fieldAddr rfl fa_52_0 rfl ?_
                      refine XO.nil ?_
                      exact stepQ_ok rfl (rfl)
                    refine stepsK_cons rfl ?_ ?_
                    · intro X
                      refine withPreds_cons rfl rfl ?_
                      rintro _ rfl
                      refine withPreds_nil rfl ?_
                      refine XO.loadHF rfl (by assumption) ty_3 rfl rfl rfl ?_
                      refine XO.nil ?_
                      exact stepQ_ok rfl (rfl)
                    refine stepsK_cons rfl ?_ ?_
                    · intro X
                      refine withPreds_cons rfl rfl ?_
                      rintro _ rfl
                      refine withPreds_cons rfl rfl ?_
                      rintro _ rfl
                      refine withPreds_nil rfl ?_
                      refine XO.eql rfl rfl rfl ?_
                      refine XO.nil ?_
                      exact stepQ_ok rfl (rfl)
                    exact stepsD_end rfl
                  case tail13 =>
                    refine withPreds_cons rfl rfl ?_
                    rintro _ rfl
                    refine withPreds_cons rfl rfl ?_
                    rintro _ rfl
                    refine withPreds_cons rfl rfl ?_
                    rintro _ rfl
                    refine withPreds_cons rfl rfl ?_
                    rintro _ rfl
                    refine withPreds_cons rfl rfl ?_
                    rintro _ rfl
                    refine withPreds_cons rfl rfl ?_
                    rintro _ rfl
                    refine withPreds_cons rfl rfl ?_
                    rintro _ rfl
                    refine withPreds_cons rfl rfl ?_
                    rintro _ rfl
                    refine withPreds_cons rfl rfl ?_
                    rintro _ rfl
                    refine withPreds_cons rfl rfl ?_
                    rintro _ rfl
                    refine withPreds_cons rfl rfl ?_
                    rintro _ rfl
                    refine withPreds_nil rfl ?_
                    refine XO.nil ?_
                    refine XC.seq2 ?_
                    refine XC.cond rfl (fun c4_16 => ?_) (fun c4_16 => ?_)
                    · refine XC.seq ?_
                      refine XC.region ?_
                      refine XO.assign rfl rfl ?_
                      refine XO.nil ?_
                      refine XC.seq2 ?_
                      refine XC.ret ?_
                      refine blockR ?_
                      refine seqX_ret ?_
                      refine loopX_ret ?_
                      refine blockR ?_
                      refine blockR ?_
                      refine seqX_ret ?_
                      refine loopX_ret ?_
                      refine blockR ?_
                      refine seqX_ret ?_
                      refine ⟨rfl, _, [], rfl, (by repeat (first | exact List.Sublist.refl _ | apply List.Sublist.cons)), RetR.mk ?_⟩
                      exact ⟨false, rfl, by simp only [Bool.false_eq_true, false_iff]; intro hF; exact fm_dup (show k < i by omega) hx2 hx1 (by assumption) hF⟩
                    · refine XC.skip ?_
                      refine blockN ?_
                      refine XC.seq2 ?_
                      refine XC.region ?_
                      refine XO.move rfl rfl ?_
                      refine XO.add rfl rfl (wrap_i64 (by omega) (by omega)) rfl ?_
                      refine XO.assign rfl rfl ?_
                      refine XO.nil ?_
                      refine loop_next (k + 1) (by omega) (prov_cons (rfl) (prov_cons (rfl) (prov_cons (rfl) prov_nil))) (⟨by omega, rfl, rfl, fun j y hj hy => by
                            rcases Nat.lt_or_ge j k with h | h
                            · exact hdk j y h hy
                            · obtain rfl : j = k := by omega
                              rw [hx1] at hy; cases hy; obtain rfl : xA = x2 := Option.some.inj (hxA.symm.trans hx2); assumption⟩) (by repeat (first | exact List.Sublist.refl _ | apply List.Sublist.cons)) hle
                · obtain rfl : i = k := by omega
                  refine XC.exit ?_
                  refine seqX_exit ?_
                  refine loopX_exit ?_
                  refine blockHit rfl ?_
                  refine blockN ?_
                  refine XC.seq2 ?_
                  refine XC.region ?_
                  refine XO.move rfl rfl ?_
                  refine XO.add rfl rfl (wrap_i64 (by omega) (by omega)) rfl ?_
                  refine XO.assign rfl rfl ?_
                  refine XO.nil ?_
                  refine loop_next (i + 1) (by omega) (prov_cons (rfl) (prov_cons (rfl) prov_nil)) (⟨by omega, rfl, rfl, fun j x hj hx => by
                        rcases Nat.lt_or_ge j i with h | h
                        · exact hok j x h hx
                        · obtain rfl : j = i := by omega
                          rw [hxA] at hx; cases hx; exact hokA, fun j j2 x y h12 hj hx hy => by
                        rcases Nat.lt_or_ge j i with h | h
                        · exact hdf j j2 x y h12 h hx hy
                        · obtain rfl : j = i := by omega
                          rw [hxA] at hx; cases hx; exact hdk j2 y h12 hy⟩) (by repeat (first | exact List.Sublist.refl _ | apply List.Sublist.cons)) hle
            · have g9p := of_decide_eq_true g9
              refine XO.guardF rfl rfl (g9) rfl rfl ?_
              refine XO.guardF rfl rfl (g9) rfl rfl ?_
              refine XO.guardF rfl rfl (g9) rfl rfl ?_
              refine XO.guardF rfl rfl (g9) rfl rfl ?_
              refine XO.guardF rfl rfl (g9) rfl rfl ?_
              refine XO.pickT rfl (g9) rfl rfl ?_
              refine XO.nil ?_
              refine XC.seq2 ?_
              refine XC.condT rfl (rfl) ?_
              refine XC.seq ?_
              refine XC.region ?_
              refine XO.assign rfl rfl ?_
              refine XO.nil ?_
              refine XC.seq2 ?_
              refine XC.ret ?_
              refine seqX_ret ?_
              refine blockR ?_
              refine seqX_ret ?_
              refine loopX_ret ?_
              refine blockR ?_
              refine seqX_ret ?_
              refine ⟨rfl, _, [], rfl, (by repeat (first | exact List.Sublist.refl _ | apply List.Sublist.cons)), RetR.mk ?_⟩
              exact ⟨false, rfl, by simp only [Bool.false_eq_true, false_iff]; intro hF; exact fm_bad hxA (fun h => by unfold okPt at h; omega) hF⟩
          · have g7p := of_decide_eq_true g7
            refine XO.guardF rfl rfl (g7) rfl rfl ?_
            refine XO.guardF rfl rfl (g7) rfl rfl ?_
            refine XO.guardF rfl rfl (g7) rfl rfl ?_
            refine XO.guardF rfl rfl (g7) rfl rfl ?_
            refine XO.guardF rfl rfl (g7) rfl rfl ?_
            refine XO.pickT rfl (g7) rfl rfl ?_
            refine XO.move rfl rfl ?_
            refine XO.guardF rfl rfl (rfl) rfl rfl ?_
            refine XO.guardF rfl rfl (rfl) rfl rfl ?_
            refine XO.guardF rfl rfl (rfl) rfl rfl ?_
            refine XO.guardF rfl rfl (rfl) rfl rfl ?_
            refine XO.guardF rfl rfl (rfl) rfl rfl ?_
            refine XO.guardF rfl rfl (rfl) rfl rfl ?_
            refine XO.pickT rfl (rfl) rfl rfl ?_
            refine XO.nil ?_
            refine XC.seq2 ?_
            refine XC.condT rfl (rfl) ?_
            refine XC.seq ?_
            refine XC.region ?_
            refine XO.assign rfl rfl ?_
            refine XO.nil ?_
            refine XC.seq2 ?_
            refine XC.ret ?_
            refine seqX_ret ?_
            refine blockR ?_
            refine seqX_ret ?_
            refine loopX_ret ?_
            refine blockR ?_
            refine seqX_ret ?_
            refine ⟨rfl, _, [], rfl, (by repeat (first | exact List.Sublist.refl _ | apply List.Sublist.cons)), RetR.mk ?_⟩
            exact ⟨false, rfl, by simp only [Bool.false_eq_true, false_iff]; intro hF; exact fm_bad hxA (fun h => by unfold okPt at h; omega) hF⟩
        · have g5p := of_decide_eq_true g5
          refine XO.guardF rfl rfl (g5) rfl rfl ?_
          refine XO.guardF rfl rfl (g5) rfl rfl ?_
          refine XO.guardF rfl rfl (g5) rfl rfl ?_
          refine XO.guardF rfl rfl (g5) rfl rfl ?_
          refine XO.guardF rfl rfl (g5) rfl rfl ?_
          refine XO.pickT rfl (g5) rfl rfl ?_
          refine XO.move rfl rfl ?_
          refine XO.guardF rfl rfl (rfl) rfl rfl ?_
          refine XO.guardF rfl rfl (rfl) rfl rfl ?_
          refine XO.guardF rfl rfl (rfl) rfl rfl ?_
          refine XO.guardF rfl rfl (rfl) rfl rfl ?_
          refine XO.guardF rfl rfl (rfl) rfl rfl ?_
          refine XO.guardF rfl rfl (rfl) rfl rfl ?_
          refine XO.pickT rfl (rfl) rfl rfl ?_
          refine XO.move rfl rfl ?_
          refine XO.guardF rfl rfl (rfl) rfl rfl ?_
          refine XO.guardF rfl rfl (rfl) rfl rfl ?_
          refine XO.guardF rfl rfl (rfl) rfl rfl ?_
          refine XO.guardF rfl rfl (rfl) rfl rfl ?_
          refine XO.guardF rfl rfl (rfl) rfl rfl ?_
          refine XO.guardF rfl rfl (rfl) rfl rfl ?_
          refine XO.pickT rfl (rfl) rfl rfl ?_
          refine XO.nil ?_
          refine XC.seq2 ?_
          refine XC.condT rfl (rfl) ?_
          refine XC.seq ?_
          refine XC.region ?_
          refine XO.assign rfl rfl ?_
          refine XO.nil ?_
          refine XC.seq2 ?_
          refine XC.ret ?_
          refine seqX_ret ?_
          refine blockR ?_
          refine seqX_ret ?_
          refine loopX_ret ?_
          refine blockR ?_
          refine seqX_ret ?_
          refine ⟨rfl, _, [], rfl, (by repeat (first | exact List.Sublist.refl _ | apply List.Sublist.cons)), RetR.mk ?_⟩
          exact ⟨false, rfl, by simp only [Bool.false_eq_true, false_iff]; intro hF; exact fm_bad hxA (fun h => by unfold okPt at h; omega) hF⟩
      · obtain rfl : i = l0.length := by omega
        refine XC.exit ?_
        refine seqX_exit ?_
        refine loopX_exit ?_
        refine blockHit rfl ?_
        refine XC.seq2 ?_
        refine XC.seq ?_
        refine XC.region ?_
        refine XO.assign rfl rfl ?_
        refine XO.nil ?_
        refine XC.seq2 ?_
        refine XC.ret ?_
        refine ⟨rfl, _, [], rfl, (by repeat (first | exact List.Sublist.refl _ | apply List.Sublist.cons)), RetR.mk ?_⟩
        exact ⟨true, rfl, by simp only [true_iff]; exact fm_ok (by omega) (by omega) hok hdf⟩
  · have g1p := of_decide_eq_true g1
    refine XO.guardF rfl rfl (g1) rfl rfl ?_
    refine XO.guardF rfl rfl (g1) rfl rfl ?_
    refine XO.pickT rfl (g1) rfl rfl ?_
    refine XO.nil ?_
    refine XC.seq2 ?_
    refine XC.condT rfl (rfl) ?_
    refine XC.seq ?_
    refine XC.region ?_
    refine XO.assign rfl rfl ?_
    refine XO.nil ?_
    refine XC.seq2 ?_
    refine XC.ret ?_
    refine seqX_ret ?_
    refine ⟨rfl, _, [], rfl, (by repeat (first | exact List.Sublist.refl _ | apply List.Sublist.cons)), RetR.mk ?_⟩
    exact ⟨false, rfl, by simp only [Bool.false_eq_true, false_iff]; intro hF; have := hF.1; omega⟩

end Go.Proofs
