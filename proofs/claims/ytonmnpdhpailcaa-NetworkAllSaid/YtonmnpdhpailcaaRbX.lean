/- The walks of the functions of the links: what each of them computes, at any input. -/
import Derived.Test.YtonmnpdhpailcaaRbW
set_option autoImplicit false
set_option linter.unusedVariables false
set_option linter.unusedSimpArgs false
namespace Go.Proofs
open Go.XL

theorem bf_25 : structF Try.prog 25 = some [(0, 1), (1, 1)] := by kernel_rfl
theorem bk_25 : structK Try.prog 25 = true := by kernel_rfl
theorem by_28 : Nat.ble (Try.prog.bytesOf 28) 4096 = true := by kernel_rfl
theorem eg_55 : Try.prog.eqGuardType Try.prog.depth 55 = false := by kernel_rfl
theorem ty_25 : tyF Try.prog 25 2 true = true := by kernel_rfl
theorem ze_25 : zeroC Try.prog 25 = some [.slice none 0 0, .slice none 0 0] := by kernel_rfl
theorem ze_28 : zeroC Try.prog 28 = some [.int .i64 0, .int .i64 0, .slice none 0 0] := by kernel_rfl

theorem rpacket_fn (p : Pk) (ad : Option Addr) (cd : Nat) (H : Hp) : FnC Try.prog 29 #[.agg ⟨[.int .i64 p.From, .int .i64 p.To, .slice ad p.Data.length cd]⟩] H [] (RetR fun v _ _ => v = .bool (decide (pkOk p))) := by
  refine FnC.intro (args := [.agg ⟨[.int .i64 p.From, .int .i64 p.To, .slice ad p.Data.length cd]⟩]) Try.func29 rfl rfl Try.ntmps29 rfl rfl rfl fun G rest => ?_
  refine XC.seq ?_
  refine XC.region ?_
  refine XO.box rfl rfl rfl (fun b1 => ?_)
  refine XO.assign rfl rfl ?_
  refine XO.nil ?_
  refine XC.seq2 ?_
  refine XC.seq ?_
  refine XC.region ?_
  refine XO.fieldAddr rfl fa_28_0 rfl ?_
  refine XO.loadO 0 rfl rfl ty_3 rfl rfl rfl ?_
  refine XO.callV rfl (site_fn _ _) rfl ?_
  refine XO.move rfl rfl ?_
  refine XO.guardC rfl rfl rfl rfl (fun g2 => ?_) (fun g2 => ?_)
  · have g2p := of_decide_eq_true g2
    refine XO.fieldAddr rfl fa_28_1 rfl ?_
    refine XO.guardT rfl rfl (g2) rfl ?_
    refine XO.loadO 0 rfl rfl ty_3 rfl rfl rfl ?_
    refine XO.guardT rfl rfl (g2) rfl ?_
    refine XO.callV rfl (site_fn _ _) rfl ?_
    refine XO.pickT rfl (g2) rfl rfl ?_
    refine XO.move rfl rfl ?_
    refine XO.guardC rfl rfl rfl rfl (fun g4 => ?_) (fun g4 => ?_)
    · have g4p := of_decide_eq_true g4
      refine XO.fieldAddr rfl fa_28_0 rfl ?_
      refine XO.guardT rfl rfl (g4) rfl ?_
      refine XO.loadO 0 rfl rfl ty_3 rfl rfl rfl ?_
      refine XO.guardT rfl rfl (g4) rfl ?_
      refine XO.fieldAddr rfl fa_28_1 rfl ?_
      refine XO.guardT rfl rfl (g4) rfl ?_
      refine XO.loadO 0 rfl rfl ty_3 rfl rfl rfl ?_
      refine XO.guardT rfl rfl (g4) rfl ?_
      refine XO.neq rfl rfl rfl ?_
      refine XO.pickT rfl (g4) rfl rfl ?_
      refine XO.move rfl rfl ?_
      refine XO.guardC rfl rfl rfl rfl (fun g5 => ?_) (fun g5 => ?_)
      · have g5p := of_decide_eq_true g5
        refine XO.fieldAddr rfl fa_28_2 rfl ?_
        refine XO.guardT rfl rfl (g5) rfl ?_
        refine XO.loadO 0 rfl rfl ty_26 rfl rfl rfl ?_
        refine XO.guardT rfl rfl (g5) rfl ?_
        refine XO.lenS (ts := #[]) rfl Try.underlying26 rfl ?_
        refine XO.guardT rfl rfl (g5) rfl ?_
        refine XO.leq rfl rfl rfl ?_
        refine XO.pickT rfl (g5) rfl rfl ?_
        refine XO.assign rfl rfl ?_
        refine XO.nil ?_
        refine XC.seq2 ?_
        refine XC.ret ?_
        refine ⟨rfl, _, [], rfl, (by repeat (first | exact List.Sublist.refl _ | apply List.Sublist.cons)), RetR.mk ?_⟩
        exact congrArg Value.bool (by first | (rw [decide_eq_decide]; simp only [pkOk]; omega) | (exact (decide_eq_false (by simp only [pkOk]; omega)).symm))
      · have g5p := of_decide_eq_false g5
        refine XO.guardF rfl rfl (g5) rfl rfl ?_
        refine XO.guardF rfl rfl (g5) rfl rfl ?_
        refine XO.guardF rfl rfl (g5) rfl rfl ?_
        refine XO.pickF rfl (g5) rfl rfl ?_
        refine XO.assign rfl rfl ?_
        refine XO.nil ?_
        refine XC.seq2 ?_
        refine XC.ret ?_
        refine ⟨rfl, _, [], rfl, (by repeat (first | exact List.Sublist.refl _ | apply List.Sublist.cons)), RetR.mk ?_⟩
        exact congrArg Value.bool (by first | (rw [decide_eq_decide]; simp only [pkOk]; omega) | (exact (decide_eq_false (by simp only [pkOk]; omega)).symm))
    · have g4p := of_decide_eq_false g4
      refine XO.guardF rfl rfl (g4) rfl rfl ?_
      refine XO.guardF rfl rfl (g4) rfl rfl ?_
      refine XO.guardF rfl rfl (g4) rfl rfl ?_
      refine XO.guardF rfl rfl (g4) rfl rfl ?_
      refine XO.pickF rfl (g4) rfl rfl ?_
      refine XO.move rfl rfl ?_
      refine XO.guardF rfl rfl (rfl) rfl rfl ?_
      refine XO.guardF rfl rfl (rfl) rfl rfl ?_
      refine XO.guardF rfl rfl (rfl) rfl rfl ?_
      refine XO.guardF rfl rfl (rfl) rfl rfl ?_
      refine XO.pickF rfl (rfl) rfl rfl ?_
      refine XO.assign rfl rfl ?_
      refine XO.nil ?_
      refine XC.seq2 ?_
      refine XC.ret ?_
      refine ⟨rfl, _, [], rfl, (by repeat (first | exact List.Sublist.refl _ | apply List.Sublist.cons)), RetR.mk ?_⟩
      exact congrArg Value.bool (by first | (rw [decide_eq_decide]; simp only [pkOk]; omega) | (exact (decide_eq_false (by simp only [pkOk]; omega)).symm))
  · have g2p := of_decide_eq_false g2
    refine XO.guardF rfl rfl (g2) rfl rfl ?_
    refine XO.guardF rfl rfl (g2) rfl rfl ?_
    refine XO.pickF rfl (g2) rfl rfl ?_
    refine XO.move rfl rfl ?_
    refine XO.guardF rfl rfl (rfl) rfl rfl ?_
    refine XO.guardF rfl rfl (rfl) rfl rfl ?_
    refine XO.guardF rfl rfl (rfl) rfl rfl ?_
    refine XO.guardF rfl rfl (rfl) rfl rfl ?_
    refine XO.guardF rfl rfl (rfl) rfl rfl ?_
    refine XO.pickF rfl (rfl) rfl rfl ?_
    refine XO.move rfl rfl ?_
    refine XO.guardF rfl rfl (rfl) rfl rfl ?_
    refine XO.guardF rfl rfl (rfl) rfl rfl ?_
    refine XO.guardF rfl rfl (rfl) rfl rfl ?_
    refine XO.guardF rfl rfl (rfl) rfl rfl ?_
    refine XO.pickF rfl (rfl) rfl rfl ?_
    refine XO.assign rfl rfl ?_
    refine XO.nil ?_
    refine XC.seq2 ?_
    refine XC.ret ?_
    refine ⟨rfl, _, [], rfl, (by repeat (first | exact List.Sublist.refl _ | apply List.Sublist.cons)), RetR.mk ?_⟩
    exact congrArg Value.bool (by first | (rw [decide_eq_decide]; simp only [pkOk]; omega) | (exact (decide_eq_false (by simp only [pkOk]; omega)).symm))

set_option maxRecDepth 100000 in
set_option maxHeartbeats 1600000 in
theorem rcheck_fn (aq ap : Option Addr) (cq cp : Nat) (n : Nt) (H : Hp) (hq : SlR pkR H aq cq n.q) (hp : SlR pairR H ap cp n.ap) (hlq : n.q.length < 4611686018427387904) (hlp : n.ap.length < 4611686018427387904) : FnC Try.prog 14 #[.agg ⟨[.slice aq n.q.length cq, .slice ap n.ap.length cp]⟩] H [] (RetR fun v _ _ => v = .int .i64 (chkE n)) := by
  refine FnC.intro (args := [.agg ⟨[.slice aq n.q.length cq, .slice ap n.ap.length cp]⟩]) Try.func14 rfl rfl Try.ntmps14 rfl rfl rfl fun G rest => ?_
  refine XC.seq ?_
  refine XC.region ?_
  refine XO.box rfl rfl rfl (fun b1 => ?_)
  refine XO.assign rfl rfl ?_
  refine XO.nil ?_
  refine XC.seq2 ?_
  refine XC.seq ?_
  refine XC.seq ?_
  refine XC.region ?_
  refine XO.fieldAddr rfl fa_25_0 rfl ?_
  refine XO.loadO 0 rfl rfl ty_22 rfl rfl rfl ?_
  refine XO.lenS (ts := #[]) rfl Try.underlying22 rfl ?_
  refine XO.gtr rfl rfl rfl ?_
  refine XO.nil ?_
  refine XC.seq2 ?_
  refine XC.cond rfl (fun c0_1 => ?_) (fun c0_1 => ?_)
  · refine XC.seq ?_
    refine XC.region ?_
    refine XO.assign rfl rfl ?_
    refine XO.nil ?_
    refine XC.seq2 ?_
    refine XC.ret ?_
    refine seqX_ret ?_
    refine ⟨rfl, _, [], rfl, (by repeat (first | exact List.Sublist.refl _ | apply List.Sublist.cons)), RetR.mk ?_⟩
    first | exact congrArg (Value.int .i64) (chk_ok ⟨by omega, hpk, hap⟩).symm | exact congrArg (Value.int .i64) (chk_bad (fun h => by first | exact ap_bad2 hx34 (by omega) hxP (by unfold lexLt; omega) h.2.2 | exact ap_bad1 hx34 (by unfold linkOk; omega) h.2.2 | (have := h.1; omega) | exact absurd (h.2.1 x20 (List.mem_of_getElem? hx20)) (by assumption))).symm
  · refine XC.skip ?_
    refine XC.seq2 ?_
    refine XC.seq ?_
    refine XC.seq ?_
    refine XC.region ?_
    refine XO.assign rfl rfl ?_
    refine XO.nil ?_
    refine XC.seq2 ?_
    refine XC.block ?_
    refine XC.keep [3, 1] rfl ?_
    refine XC.loop (base := [(1, _)]) (fun ζ : Nat => [(3, .int .i64 (ζ : Nat))]) (fun ζ Hl own => ζ ≤ n.q.length ∧ (b1, .cells 25 [.slice aq n.q.length cq, .slice ap n.ap.length cp]) :: rest = own ∧ (∀ p ∈ n.q.take ζ, pkOk p)) (fun ζ => n.q.length - ζ) 0 (prov_cons (rfl) (prov_cons (rfl) prov_nil)) (by repeat (first | exact List.Sublist.refl _ | apply List.Sublist.cons_cons | apply List.Sublist.cons)) ⟨Nat.zero_le _, rfl, by simp⟩ ?_
    rintro k Hl0 _ hle0 ⟨hkk, rfl, hpk⟩
    replace hq := hq.mono hle0
    replace hp := hp.mono hle0
    try dsimp only at ⊢
    refine XC.seq ?_
    refine XC.seq ?_
    refine XC.region ?_
    refine XO.move rfl rfl ?_
    refine XO.fieldAddr rfl fa_25_0 rfl ?_
    refine XO.loadO 0 rfl rfl ty_22 rfl rfl rfl ?_
    refine XO.lenS (ts := #[]) rfl Try.underlying22 rfl ?_
    refine XO.lss rfl rfl rfl ?_
    refine XO.nil ?_
    refine XC.seq2 ?_
    refine XC.cond rfl (fun c1_2 => ?_) (fun c1_2 => ?_)
    · refine XC.skip ?_
      refine XC.seq2 ?_
      refine XC.seq ?_
      refine XC.block ?_
      refine XC.seq ?_
      refine XC.region ?_
      refine XO.fieldAddr rfl fa_25_0 rfl ?_
      refine XO.loadO 0 rfl rfl ty_22 rfl rfl rfl ?_
      refine XO.move rfl rfl ?_
      refine XO.indexN rfl (by assumption) rfl Try.underlying22 ty_28 (by omega) rfl ?_
      rintro eb20 eo20 _ x20 hx20 ⟨ax20, cx20, rfl, hd20⟩ hp20
      refine XO.loadH rfl (by assumption) ty_28 rfl rfl rfl ?_
      refine XO.callV rfl (rpacket_fn x20 _ _ _) rfl ?_
      refine XO.not rfl rfl ?_
      refine XO.nil ?_
      refine XC.seq2 ?_
      refine XC.cond rfl (fun c2_5 => ?_) (fun c2_5 => ?_)
      · refine XC.seq ?_
        refine XC.region ?_
        refine XO.assign rfl rfl ?_
        refine XO.nil ?_
        refine XC.seq2 ?_
        refine XC.ret ?_
        refine blockR ?_
        refine seqX_ret ?_
        refine loopX_ret ?_
        refine blockR ?_
        refine seqX_ret ?_
        refine ⟨rfl, _, [], rfl, (by repeat (first | exact List.Sublist.refl _ | apply List.Sublist.cons)), RetR.mk ?_⟩
        first | exact congrArg (Value.int .i64) (chk_ok ⟨by omega, hpk, hap⟩).symm | exact congrArg (Value.int .i64) (chk_bad (fun h => by first | exact ap_bad2 hx34 (by omega) hxP (by unfold lexLt; omega) h.2.2 | exact ap_bad1 hx34 (by unfold linkOk; omega) h.2.2 | (have := h.1; omega) | exact absurd (h.2.1 x20 (List.mem_of_getElem? hx20)) (by assumption))).symm
      · refine XC.skip ?_
        refine blockN ?_
        refine XC.seq2 ?_
        refine XC.region ?_
        refine XO.move rfl rfl ?_
        refine XO.add rfl rfl (wrap_i64 (by omega) (by omega)) rfl ?_
        refine XO.assign rfl rfl ?_
        refine XO.nil ?_
        refine loop_next (k + 1) (by show n.q.length - (k + 1) < n.q.length - k; omega) (prov_cons (rfl) (prov_cons (rfl) prov_nil)) (⟨by show k + 1 ≤ n.q.length; omega, rfl, by rw [take_snoc hx20]; intro p hp; rcases List.mem_append.1 hp with h | h; exact hpk p h; simp at h; subst h; exact Decidable.not_not.1 (by assumption)⟩) (by repeat (first | exact List.Sublist.refl _ | apply List.Sublist.cons_cons | apply List.Sublist.cons)) (hle0)
    · obtain rfl : k = n.q.length := by omega
      rw [List.take_length] at hpk
      refine XC.exit ?_
      refine seqX_exit ?_
      refine loopX_exit ?_
      refine blockHit rfl ?_
      refine XC.seq2 ?_
      refine XC.seq ?_
      refine XC.seq ?_
      refine XC.region ?_
      refine XO.assign rfl rfl ?_
      refine XO.nil ?_
      refine XC.seq2 ?_
      refine XC.block ?_
      refine XC.keep [4, 1] rfl ?_
      refine XC.loop (base := [(1, _)]) (fun ζ : Nat => [(4, .int .i64 (ζ : Nat))]) (fun ζ Hl own => ζ ≤ n.ap.length ∧ (b1, .cells 25 [.slice aq n.q.length cq, .slice ap n.ap.length cp]) :: rest = own ∧ (apOk (n.ap.take ζ))) (fun ζ => n.ap.length - ζ) 0 (prov_cons (rfl) (prov_cons (rfl) prov_nil)) (by repeat (first | exact List.Sublist.refl _ | apply List.Sublist.cons_cons | apply List.Sublist.cons)) ⟨Nat.zero_le _, rfl, ⟨by simp, by simp⟩⟩ ?_
      rintro k Hl1 _ hle1 ⟨hkk, rfl, hap⟩
      replace hq := hq.mono hle1
      replace hp := hp.mono hle1
      replace hle0 := hle0.trans hle1
      try dsimp only at ⊢
      refine XC.seq ?_
      refine XC.seq ?_
      refine XC.region ?_
      refine XO.move rfl rfl ?_
      refine XO.fieldAddr rfl fa_25_1 rfl ?_
      refine XO.loadO 0 rfl rfl ty_23 rfl rfl rfl ?_
      refine XO.lenS (ts := #[]) rfl Try.underlying23 rfl ?_
      refine XO.lss rfl rfl rfl ?_
      refine XO.nil ?_
      refine XC.seq2 ?_
      refine XC.cond rfl (fun c3_6 => ?_) (fun c3_6 => ?_)
      · refine XC.skip ?_
        refine XC.seq2 ?_
        refine XC.seq ?_
        refine XC.block ?_
        refine XC.seq ?_
        refine XC.region ?_
        refine XO.fieldAddr rfl fa_25_1 rfl ?_
        refine XO.loadO 0 rfl rfl ty_23 rfl rfl rfl ?_
        refine XO.move rfl rfl ?_
        refine XO.indexN rfl (by assumption) rfl Try.underlying23 ty_55 (by omega) rfl ?_
        rintro eb34 eo34 _ x34 hx34 rfl hp34
        refine XO.loadH rfl (by assumption) ty_55 rfl rfl rfl ?_
        refine XO.alloc ze_55 rfl (fun b5 => ?_)
        refine XO.storeO 0 rfl rfl rfl rfl ty_55 rfl rfl rfl rfl rfl ?_
        refine XO.nil ?_
        refine XC.seq2 ?_
        refine XC.seq ?_
        refine XC.seq ?_
        refine XC.region ?_
        refine XO.indexArr rfl rfl Try.underlying55 ty_3 (by first | decide | omega) (by first | decide | omega) rfl ?_
        refine XO.loadO 0 rfl rfl ty_3 rfl rfl rfl ?_
        refine XO.callV rfl (site_fn _ _) rfl ?_
        refine XO.not rfl rfl ?_
        refine XO.move rfl rfl ?_
        refine XO.guardC rfl rfl rfl rfl (fun g9 => ?_) (fun g9 => ?_)
        · have g9p := of_decide_eq_false g9
          refine XO.indexArr rfl rfl Try.underlying55 ty_3 (by first | decide | omega) (by first | decide | omega) rfl ?_
          refine XO.guardT rfl rfl (g9) rfl ?_
          refine XO.loadO 0 rfl rfl ty_3 rfl rfl rfl ?_
          refine XO.guardT rfl rfl (g9) rfl ?_
          refine XO.callV rfl (site_fn _ _) rfl ?_
          refine XO.guardT rfl rfl (g9) rfl ?_
          refine XO.not rfl rfl ?_
          refine XO.pickF rfl (g9) rfl rfl ?_
          refine XO.move rfl rfl ?_
          refine XO.guardC rfl rfl rfl rfl (fun g11 => ?_) (fun g11 => ?_)
          · have g11p := of_decide_eq_false g11
            refine XO.indexArr rfl rfl Try.underlying55 ty_3 (by first | decide | omega) (by first | decide | omega) rfl ?_
            refine XO.guardT rfl rfl (g11) rfl ?_
            refine XO.loadO 0 rfl rfl ty_3 rfl rfl rfl ?_
            refine XO.guardT rfl rfl (g11) rfl ?_
            refine XO.indexArr rfl rfl Try.underlying55 ty_3 (by first | decide | omega) (by first | decide | omega) rfl ?_
            refine XO.guardT rfl rfl (g11) rfl ?_
            refine XO.loadO 0 rfl rfl ty_3 rfl rfl rfl ?_
            refine XO.guardT rfl rfl (g11) rfl ?_
            refine XO.geq rfl rfl rfl ?_
            refine XO.pickF rfl (g11) rfl rfl ?_
            refine XO.nil ?_
            refine XC.seq2 ?_
            refine XC.cond rfl (fun c4_12 => ?_) (fun c4_12 => ?_)
            · refine XC.seq ?_
              refine XC.region ?_
              refine XO.assign rfl rfl ?_
              refine XO.nil ?_
              refine XC.seq2 ?_
              refine XC.ret ?_
              refine seqX_ret ?_
              refine blockR ?_
              refine seqX_ret ?_
              refine loopX_ret ?_
              refine blockR ?_
              refine seqX_ret ?_
              refine ⟨rfl, _, [], rfl, (by repeat (first | exact List.Sublist.refl _ | apply List.Sublist.cons)), RetR.mk ?_⟩
              first | exact congrArg (Value.int .i64) (chk_ok ⟨by omega, hpk, hap⟩).symm | exact congrArg (Value.int .i64) (chk_bad (fun h => by first | exact ap_bad2 hx34 (by omega) hxP (by unfold lexLt; omega) h.2.2 | exact ap_bad1 hx34 (by unfold linkOk; omega) h.2.2 | (have := h.1; omega) | exact absurd (h.2.1 x20 (List.mem_of_getElem? hx20)) (by assumption))).symm
            · refine XC.skip ?_
              refine XC.seq2 ?_
              refine XC.seq ?_
              obtain ⟨bEP, oEP, rfl⟩ := hp.addr (by omega)
              obtain ⟨_, xP, hxP, rfl, hpP⟩ := hp.elem (k - 1) (by omega)
              have hk1 : ((k : Int) - 1).toNat = k - 1 := by omega
              rw [← hk1] at hpP
              by_cases hK0 : (0 : Int) < (k : Nat)
              · skip
                by_cases hLT : x34.1 < xP.1
                · skip
                  refine XC.keep [1, 4, 5] rfl ?_
                  apply XC.drawH (fun _ => True) trivial [] (by decide) (fun _ _ _ _ => True) (fun _ _ _ _ _ _ h => h) 34 [eqF _, eqF _, eqF _, eqF _, eqF _, eqF _, eqF _, eqF _, eqF _, eqF _, eqF _, eqF _, eqF _, eqF _, eqF _, eqF _, eqF _, eqF _, eqF _, eqF _, eqF _, eqF _, eqF _, eqF _, eqF _, eqF _, eqF _, eqF _, eqF _, eqF _, eqF _, eqF _, eqF _, eqF _] follows (by kernel_rfl) ⟨eqF_mono _, eqF_mono _, eqF_mono _, eqF_mono _, eqF_mono _, eqF_mono _, eqF_mono _, eqF_mono _, eqF_mono _, eqF_mono _, eqF_mono _, eqF_mono _, eqF_mono _, eqF_mono _, eqF_mono _, eqF_mono _, eqF_mono _, eqF_mono _, eqF_mono _, eqF_mono _, eqF_mono _, eqF_mono _, eqF_mono _, eqF_mono _, eqF_mono _, eqF_mono _, eqF_mono _, eqF_mono _, eqF_mono _, eqF_mono _, eqF_mono _, eqF_mono _, eqF_mono _, eqF_mono _, trivial⟩ (by decide) ?steps13 ?tail13
                  case steps13 =>
                    refine stepsH_cons rfl ?_ ?_
                    · intro X ext HD hleD _
                      replace hq := hq.mono hleD
                      replace hp := hp.mono hleD
                      replace hp34 := hp34.mono hleD
                      replace hpP := hpP.mono hleD
                      replace hle0 := hle0.trans hleD
                      replace hle1 := hle1.trans hleD
                      refine withP_nil rfl ?_
                      refine XO.move rfl rfl ?_
                      refine XO.nil ?_
                      exact stepQN_ok rfl trivial (rfl)
                    refine stepsH_cons rfl ?_ ?_
                    · intro X ext HD hleD _
                      replace hq := hq.mono hleD
                      replace hp := hp.mono hleD
                      replace hp34 := hp34.mono hleD
                      replace hpP := hpP.mono hleD
                      replace hle0 := hle0.trans hleD
                      replace hle1 := hle1.trans hleD
                      refine withP_cons rfl rfl ?_
                      rintro _ rfl
                      refine withP_nil rfl ?_
                      refine XO.gtr rfl rfl rfl ?_
                      refine XO.nil ?_
                      exact stepQN_ok rfl trivial (rfl)
                    refine stepsH_cons rfl ?_ ?_
                    · intro X ext HD hleD _
                      replace hq := hq.mono hleD
                      replace hp := hp.mono hleD
                      replace hp34 := hp34.mono hleD
                      replace hpP := hpP.mono hleD
                      replace hle0 := hle0.trans hleD
                      replace hle1 := hle1.trans hleD
                      refine withP_cons rfl rfl ?_
                      rintro _ rfl
                      refine withP_nil rfl ?_
                      refine XO.move rfl rfl ?_
                      refine XO.nil ?_
                      exact stepQN_ok rfl trivial (rfl)
                    refine stepsH_cons rfl ?_ ?_
                    · intro X ext HD hleD _
                      replace hq := hq.mono hleD
                      replace hp := hp.mono hleD
                      replace hp34 := hp34.mono hleD
                      replace hpP := hpP.mono hleD
                      replace hle0 := hle0.trans hleD
                      replace hle1 := hle1.trans hleD
                      refine withP_cons rfl rfl ?_
                      rintro _ rfl
                      refine withP_nil rfl ?_
                      refine XO.guardT rfl rfl (decide_eq_true hK0) rfl ?_
                      refine XO.indexArr rfl rfl Try.underlying55 ty_3 (by first | decide | omega) (by first | decide | omega) rfl ?_
                      refine XO.nil ?_
                      exact stepQN_ok rfl trivial (rfl)
                    refine stepsH_cons rfl ?_ ?_
                    · intro X ext HD hleD _
                      replace hq := hq.mono hleD
                      replace hp := hp.mono hleD
                      replace hp34 := hp34.mono hleD
                      replace hpP := hpP.mono hleD
                      replace hle0 := hle0.trans hleD
                      replace hle1 := hle1.trans hleD
                      refine withP_cons rfl rfl ?_
                      rintro _ rfl
                      refine withP_cons rfl rfl ?_
                      rintro _ rfl
                      refine withP_nil rfl ?_
                      refine XO.guardT rfl rfl (decide_eq_true hK0) rfl ?_
                      refine XO.loadO 0 rfl rfl ty_3 rfl rfl rfl ?_
                      refine XO.nil ?_
                      exact stepQN_ok rfl trivial (rfl)
                    refine stepsH_cons rfl ?_ ?_
                    · intro X ext HD hleD _
                      replace hq := hq.mono hleD
                      replace hp := hp.mono hleD
                      replace hp34 := hp34.mono hleD
                      replace hpP := hpP.mono hleD
                      replace hle0 := hle0.trans hleD
                      replace hle1 := hle1.trans hleD
                      refine withP_cons rfl rfl ?_
                      rintro _ rfl
                      refine withP_nil rfl ?_
                      refine XO.guardT rfl rfl (decide_eq_true hK0) rfl ?_
                      refine XO.fieldAddr rfl fa_25_1 rfl ?_
                      refine XO.nil ?_
                      exact stepQN_ok rfl trivial (rfl)
                    refine stepsH_cons rfl ?_ ?_
                    · intro X ext HD hleD _
                      replace hq := hq.mono hleD
                      replace hp := hp.mono hleD
                      replace hp34 := hp34.mono hleD
                      replace hpP := hpP.mono hleD
                      replace hle0 := hle0.trans hleD
                      replace hle1 := hle1.trans hleD
                      refine withP_cons rfl rfl ?_
                      rintro _ rfl
                      refine withP_cons rfl rfl ?_
                      rintro _ rfl
                      refine withP_nil rfl ?_
                      refine XO.guardT rfl rfl (decide_eq_true hK0) rfl ?_
                      refine XO.loadO 1 rfl rfl ty_23 rfl rfl rfl ?_
                      refine XO.nil ?_
                      exact stepQN_ok rfl trivial (rfl)
                    refine stepsH_cons rfl ?_ ?_
                    · intro X ext HD hleD _
                      replace hq := hq.mono hleD
                      replace hp := hp.mono hleD
                      replace hp34 := hp34.mono hleD
                      replace hpP := hpP.mono hleD
                      replace hle0 := hle0.trans hleD
                      replace hle1 := hle1.trans hleD
                      refine withP_cons rfl rfl ?_
                      rintro _ rfl
                      refine withP_nil rfl ?_
                      refine XO.guardT rfl rfl (decide_eq_true hK0) rfl ?_
                      refine XO.move rfl rfl ?_
                      refine XO.nil ?_
                      exact stepQN_ok rfl trivial (rfl)
                    refine stepsH_cons rfl ?_ ?_
                    · intro X ext HD hleD _
                      replace hq := hq.mono hleD
                      replace hp := hp.mono hleD
                      replace hp34 := hp34.mono hleD
                      replace hpP := hpP.mono hleD
                      replace hle0 := hle0.trans hleD
                      replace hle1 := hle1.trans hleD
                      refine withP_cons rfl rfl ?_
                      rintro _ rfl
                      refine withP_cons rfl rfl ?_
                      rintro _ rfl
                      refine withP_nil rfl ?_
                      refine XO.guardT rfl rfl (decide_eq_true hK0) rfl ?_
                      refine XO.sub rfl rfl (wrap_i64 (by omega) (by omega)) rfl ?_
                      refine XO.nil ?_
                      exact stepQN_ok rfl trivial (rfl)
                    refine stepsH_cons rfl ?_ ?_
                    · intro X ext HD hleD _
                      replace hq := hq.mono hleD
                      replace hp := hp.mono hleD
                      replace hp34 := hp34.mono hleD
                      replace hpP := hpP.mono hleD
                      replace hle0 := hle0.trans hleD
                      replace hle1 := hle1.trans hleD
                      refine withP_cons rfl rfl ?_
                      rintro _ rfl
                      refine withP_cons rfl rfl ?_
                      rintro _ rfl
                      refine withP_cons rfl rfl ?_
                      rintro _ rfl
                      refine withP_nil rfl ?_
                      refine XO.guardT rfl rfl (decide_eq_true hK0) rfl ?_
                      refine XO.indexE rfl rfl Try.underlying23 ty_55 (by omega) (by omega) rfl ?_
                      refine XO.nil ?_
                      exact stepQN_ok rfl trivial (rfl)
                    refine stepsH_cons rfl ?_ ?_
                    · intro X ext HD hleD _
                      replace hq := hq.mono hleD
                      replace hp := hp.mono hleD
                      replace hp34 := hp34.mono hleD
                      replace hpP := hpP.mono hleD
                      replace hle0 := hle0.trans hleD
                      replace hle1 := hle1.trans hleD
                      refine withP_cons rfl rfl ?_
                      rintro _ rfl
                      refine withP_cons rfl rfl ?_
                      rintro _ rfl
                      refine withP_nil rfl ?_
                      refine XO.guardT rfl rfl (decide_eq_true hK0) rfl ?_
                      refine XO.indexArr rfl rfl Try.underlying55 ty_3 (by first | decide | omega) (by first | decide | omega) rfl ?_
                      refine XO.nil ?_
                      exact stepQN_ok rfl trivial (rfl)
                    refine stepsH_cons rfl ?_ ?_
                    · intro X ext HD hleD _
                      replace hq := hq.mono hleD
                      replace hp := hp.mono hleD
                      replace hp34 := hp34.mono hleD
                      replace hpP := hpP.mono hleD
                      replace hle0 := hle0.trans hleD
                      replace hle1 := hle1.trans hleD
                      refine withP_cons rfl rfl ?_
                      rintro _ rfl
                      refine withP_cons rfl rfl ?_
                      rintro _ rfl
                      refine withP_nil rfl ?_
                      refine XO.guardT rfl rfl (decide_eq_true hK0) rfl ?_
                      refine XO.loadHF rfl (by assumption) ty_3 rfl rfl rfl ?_
                      refine XO.nil ?_
                      exact stepQN_ok rfl trivial (rfl)
                    refine stepsH_cons rfl ?_ ?_
                    · intro X ext HD hleD _
                      replace hq := hq.mono hleD
                      replace hp := hp.mono hleD
                      replace hp34 := hp34.mono hleD
                      replace hpP := hpP.mono hleD
                      replace hle0 := hle0.trans hleD
                      replace hle1 := hle1.trans hleD
                      refine withP_cons rfl rfl ?_
                      rintro _ rfl
                      refine withP_cons rfl rfl ?_
                      rintro _ rfl
                      refine withP_cons rfl rfl ?_
                      rintro _ rfl
                      refine withP_nil rfl ?_
                      refine XO.guardT rfl rfl (decide_eq_true hK0) rfl ?_
                      refine XO.lss rfl rfl rfl ?_
                      refine XO.nil ?_
                      exact stepQN_ok rfl trivial (rfl)
                    refine stepsH_cons rfl ?_ ?_
                    · intro X ext HD hleD _
                      replace hq := hq.mono hleD
                      replace hp := hp.mono hleD
                      replace hp34 := hp34.mono hleD
                      replace hpP := hpP.mono hleD
                      replace hle0 := hle0.trans hleD
                      replace hle1 := hle1.trans hleD
                      refine withP_cons rfl rfl ?_
                      rintro _ rfl
                      refine withP_cons rfl rfl ?_
                      rintro _ rfl
                      refine withP_nil rfl ?_
                      refine XO.guardT rfl rfl (decide_eq_true hK0) rfl ?_
                      refine XO.move rfl rfl ?_
                      refine XO.nil ?_
                      exact stepQN_ok rfl trivial (rfl)
                    refine stepsH_cons rfl ?_ ?_
                    · intro X ext HD hleD _
                      replace hq := hq.mono hleD
                      replace hp := hp.mono hleD
                      replace hp34 := hp34.mono hleD
                      replace hpP := hpP.mono hleD
                      replace hle0 := hle0.trans hleD
                      replace hle1 := hle1.trans hleD
                      refine withP_cons rfl rfl ?_
                      rintro _ rfl
                      refine withP_nil rfl ?_
                      refine XO.guardF rfl rfl (decide_eq_true hLT) rfl rfl ?_
                      refine XO.nil ?_
                      exact stepQN_ok rfl trivial (rfl)
                    refine stepsH_cons rfl ?_ ?_
                    · intro X ext HD hleD _
                      replace hq := hq.mono hleD
                      replace hp := hp.mono hleD
                      replace hp34 := hp34.mono hleD
                      replace hpP := hpP.mono hleD
                      replace hle0 := hle0.trans hleD
                      replace hle1 := hle1.trans hleD
                      refine withP_cons rfl rfl ?_
                      rintro _ rfl
                      refine withP_cons rfl rfl ?_
                      rintro _ rfl
                      refine withP_nil rfl ?_
                      refine XO.guardF rfl rfl (decide_eq_true hLT) rfl rfl ?_
                      refine XO.nil ?_
                      exact stepQN_ok rfl trivial (rfl)
                    refine stepsH_cons rfl ?_ ?_
                    · intro X ext HD hleD _
                      replace hq := hq.mono hleD
                      replace hp := hp.mono hleD
                      replace hp34 := hp34.mono hleD
                      replace hpP := hpP.mono hleD
                      replace hle0 := hle0.trans hleD
                      replace hle1 := hle1.trans hleD
                      refine withP_cons rfl rfl ?_
                      rintro _ rfl
                      refine withP_nil rfl ?_
                      refine XO.guardF rfl rfl (decide_eq_true hLT) rfl rfl ?_
                      refine XO.nil ?_
                      exact stepQN_ok rfl trivial (rfl)
                    refine stepsH_cons rfl ?_ ?_
                    · intro X ext HD hleD _
                      replace hq := hq.mono hleD
                      replace hp := hp.mono hleD
                      replace hp34 := hp34.mono hleD
                      replace hpP := hpP.mono hleD
                      replace hle0 := hle0.trans hleD
                      replace hle1 := hle1.trans hleD
                      refine withP_cons rfl rfl ?_
                      rintro _ rfl
                      refine withP_cons rfl rfl ?_
                      rintro _ rfl
                      refine withP_nil rfl ?_
                      refine XO.guardF rfl rfl (decide_eq_true hLT) rfl rfl ?_
                      refine XO.nil ?_
                      exact stepQN_ok rfl trivial (rfl)
                    refine stepsH_cons rfl ?_ ?_
                    · intro X ext HD hleD _
                      replace hq := hq.mono hleD
                      replace hp := hp.mono hleD
                      replace hp34 := hp34.mono hleD
                      replace hpP := hpP.mono hleD
                      replace hle0 := hle0.trans hleD
                      replace hle1 := hle1.trans hleD
                      refine withP_cons rfl rfl ?_
                      rintro _ rfl
                      refine withP_nil rfl ?_
                      refine XO.guardF rfl rfl (decide_eq_true hLT) rfl rfl ?_
                      refine XO.nil ?_
                      exact stepQN_ok rfl trivial (rfl)
                    refine stepsH_cons rfl ?_ ?_
                    · intro X ext HD hleD _
                      replace hq := hq.mono hleD
                      replace hp := hp.mono hleD
                      replace hp34 := hp34.mono hleD
                      replace hpP := hpP.mono hleD
                      replace hle0 := hle0.trans hleD
                      replace hle1 := hle1.trans hleD
                      refine withP_cons rfl rfl ?_
                      rintro _ rfl
                      refine withP_cons rfl rfl ?_
                      rintro _ rfl
                      refine withP_nil rfl ?_
                      refine XO.guardF rfl rfl (decide_eq_true hLT) rfl rfl ?_
                      refine XO.nil ?_
                      exact stepQN_ok rfl trivial (rfl)
                    refine stepsH_cons rfl ?_ ?_
                    · intro X ext HD hleD _
                      replace hq := hq.mono hleD
                      replace hp := hp.mono hleD
                      replace hp34 := hp34.mono hleD
                      replace hpP := hpP.mono hleD
                      replace hle0 := hle0.trans hleD
                      replace hle1 := hle1.trans hleD
                      refine withP_cons rfl rfl ?_
                      rintro _ rfl
                      refine withP_cons rfl rfl ?_
                      rintro _ rfl
                      refine withP_cons rfl rfl ?_
                      rintro _ rfl
                      refine withP_nil rfl ?_
                      refine XO.guardF rfl rfl (decide_eq_true hLT) rfl rfl ?_
                      refine XO.nil ?_
                      exact stepQN_ok rfl trivial (rfl)
                    refine stepsH_cons rfl ?_ ?_
                    · intro X ext HD hleD _
                      replace hq := hq.mono hleD
                      replace hp := hp.mono hleD
                      replace hp34 := hp34.mono hleD
                      replace hpP := hpP.mono hleD
                      replace hle0 := hle0.trans hleD
                      replace hle1 := hle1.trans hleD
                      refine withP_cons rfl rfl ?_
                      rintro _ rfl
                      refine withP_cons rfl rfl ?_
                      rintro _ rfl
                      refine withP_nil rfl ?_
                      refine XO.guardF rfl rfl (decide_eq_true hLT) rfl rfl ?_
                      refine XO.nil ?_
                      exact stepQN_ok rfl trivial (rfl)
                    refine stepsH_cons rfl ?_ ?_
                    · intro X ext HD hleD _
                      replace hq := hq.mono hleD
                      replace hp := hp.mono hleD
                      replace hp34 := hp34.mono hleD
                      replace hpP := hpP.mono hleD
                      replace hle0 := hle0.trans hleD
                      replace hle1 := hle1.trans hleD
                      refine withP_cons rfl rfl ?_
                      rintro _ rfl
                      refine withP_cons rfl rfl ?_
                      rintro _ rfl
                      refine withP_nil rfl ?_
                      refine XO.guardF rfl rfl (decide_eq_true hLT) rfl rfl ?_
                      refine XO.nil ?_
                      exact stepQN_ok rfl trivial (rfl)
                    refine stepsH_cons rfl ?_ ?_
                    · intro X ext HD hleD _
                      replace hq := hq.mono hleD
                      replace hp := hp.mono hleD
                      replace hp34 := hp34.mono hleD
                      replace hpP := hpP.mono hleD
                      replace hle0 := hle0.trans hleD
                      replace hle1 := hle1.trans hleD
                      refine withP_cons rfl rfl ?_
                      rintro _ rfl
                      refine withP_cons rfl rfl ?_
                      rintro _ rfl
                      refine withP_cons rfl rfl ?_
                      rintro _ rfl
                      refine withP_nil rfl ?_
                      refine XO.guardF rfl rfl (decide_eq_true hLT) rfl rfl ?_
                      refine XO.nil ?_
                      exact stepQN_ok rfl trivial (rfl)
                    refine stepsH_cons rfl ?_ ?_
                    · intro X ext HD hleD _
                      replace hq := hq.mono hleD
                      replace hp := hp.mono hleD
                      replace hp34 := hp34.mono hleD
                      replace hpP := hpP.mono hleD
                      replace hle0 := hle0.trans hleD
                      replace hle1 := hle1.trans hleD
                      refine withP_cons rfl rfl ?_
                      rintro _ rfl
                      refine withP_cons rfl rfl ?_
                      rintro _ rfl
                      refine withP_nil rfl ?_
                      refine XO.guardF rfl rfl (decide_eq_true hLT) rfl rfl ?_
                      refine XO.nil ?_
                      exact stepQN_ok rfl trivial (rfl)
                    refine stepsH_cons rfl ?_ ?_
                    · intro X ext HD hleD _
                      replace hq := hq.mono hleD
                      replace hp := hp.mono hleD
                      replace hp34 := hp34.mono hleD
                      replace hpP := hpP.mono hleD
                      replace hle0 := hle0.trans hleD
                      replace hle1 := hle1.trans hleD
                      refine withP_cons rfl rfl ?_
                      rintro _ rfl
                      refine withP_nil rfl ?_
                      refine XO.guardU rfl rfl rfl rfl ?_
                      refine XO.nil ?_
                      exact stepQN_ok rfl trivial (rfl)
                    refine stepsH_cons rfl ?_ ?_
                    · intro X ext HD hleD _
                      replace hq := hq.mono hleD
                      replace hp := hp.mono hleD
                      replace hp34 := hp34.mono hleD
                      replace hpP := hpP.mono hleD
                      replace hle0 := hle0.trans hleD
                      replace hle1 := hle1.trans hleD
                      refine withP_cons rfl rfl ?_
                      rintro _ rfl
                      refine withP_cons rfl rfl ?_
                      rintro _ rfl
                      refine withP_nil rfl ?_
                      refine XO.guardU rfl rfl rfl rfl ?_
                      refine XO.nil ?_
                      exact stepQN_ok rfl trivial (rfl)
                    refine stepsH_cons rfl ?_ ?_
                    · intro X ext HD hleD _
                      replace hq := hq.mono hleD
                      replace hp := hp.mono hleD
                      replace hp34 := hp34.mono hleD
                      replace hpP := hpP.mono hleD
                      replace hle0 := hle0.trans hleD
                      replace hle1 := hle1.trans hleD
                      refine withP_cons rfl rfl ?_
                      rintro _ rfl
                      refine withP_nil rfl ?_
                      refine XO.guardU rfl rfl rfl rfl ?_
                      refine XO.nil ?_
                      exact stepQN_ok rfl trivial (rfl)
                    refine stepsH_cons rfl ?_ ?_
                    · intro X ext HD hleD _
                      replace hq := hq.mono hleD
                      replace hp := hp.mono hleD
                      replace hp34 := hp34.mono hleD
                      replace hpP := hpP.mono hleD
                      replace hle0 := hle0.trans hleD
                      replace hle1 := hle1.trans hleD
                      refine withP_cons rfl rfl ?_
                      rintro _ rfl
                      refine withP_cons rfl rfl ?_
                      rintro _ rfl
                      refine withP_nil rfl ?_
                      refine XO.guardU rfl rfl rfl rfl ?_
                      refine XO.nil ?_
                      exact stepQN_ok rfl trivial (rfl)
                    refine stepsH_cons rfl ?_ ?_
                    · intro X ext HD hleD _
                      replace hq := hq.mono hleD
                      replace hp := hp.mono hleD
                      replace hp34 := hp34.mono hleD
                      replace hpP := hpP.mono hleD
                      replace hle0 := hle0.trans hleD
                      replace hle1 := hle1.trans hleD
                      refine withP_cons rfl rfl ?_
                      rintro _ rfl
                      refine withP_nil rfl ?_
                      refine XO.guardU rfl rfl rfl rfl ?_
                      refine XO.nil ?_
                      exact stepQN_ok rfl trivial (rfl)
                    refine stepsH_cons rfl ?_ ?_
                    · intro X ext HD hleD _
                      replace hq := hq.mono hleD
                      replace hp := hp.mono hleD
                      replace hp34 := hp34.mono hleD
                      replace hpP := hpP.mono hleD
                      replace hle0 := hle0.trans hleD
                      replace hle1 := hle1.trans hleD
                      refine withP_cons rfl rfl ?_
                      rintro _ rfl
                      refine withP_cons rfl rfl ?_
                      rintro _ rfl
                      refine withP_nil rfl ?_
                      refine XO.guardU rfl rfl rfl rfl ?_
                      refine XO.nil ?_
                      exact stepQN_ok rfl trivial (rfl)
                    refine stepsH_cons rfl ?_ ?_
                    · intro X ext HD hleD _
                      replace hq := hq.mono hleD
                      replace hp := hp.mono hleD
                      replace hp34 := hp34.mono hleD
                      replace hpP := hpP.mono hleD
                      replace hle0 := hle0.trans hleD
                      replace hle1 := hle1.trans hleD
                      refine withP_cons rfl rfl ?_
                      rintro _ rfl
                      refine withP_cons rfl rfl ?_
                      rintro _ rfl
                      refine withP_cons rfl rfl ?_
                      rintro _ rfl
                      refine withP_nil rfl ?_
                      refine XO.guardU rfl rfl rfl rfl ?_
                      refine XO.nil ?_
                      exact stepQN_ok rfl trivial (rfl)
                    refine stepsH_cons rfl ?_ ?_
                    · intro X ext HD hleD _
                      replace hq := hq.mono hleD
                      replace hp := hp.mono hleD
                      replace hp34 := hp34.mono hleD
                      replace hpP := hpP.mono hleD
                      replace hle0 := hle0.trans hleD
                      replace hle1 := hle1.trans hleD
                      refine withP_cons rfl rfl ?_
                      rintro _ rfl
                      refine withP_cons rfl rfl ?_
                      rintro _ rfl
                      refine withP_nil rfl ?_
                      refine XO.guardU rfl rfl rfl rfl ?_
                      refine XO.nil ?_
                      exact stepQN_ok rfl trivial (rfl)
                    refine stepsH_cons rfl ?_ ?_
                    · intro X ext HD hleD _
                      replace hq := hq.mono hleD
                      replace hp := hp.mono hleD
                      replace hp34 := hp34.mono hleD
                      replace hpP := hpP.mono hleD
                      replace hle0 := hle0.trans hleD
                      replace hle1 := hle1.trans hleD
                      refine withP_cons rfl rfl ?_
                      rintro _ rfl
                      refine withP_cons rfl rfl ?_
                      rintro _ rfl
                      refine withP_nil rfl ?_
                      refine XO.guardU rfl rfl rfl rfl ?_
                      refine XO.nil ?_
                      exact stepQN_ok rfl trivial (rfl)
                    exact stepsH_end rfl
                  case tail13 =>
                    intro HD hleD _
                    replace hq := hq.mono hleD
                    replace hp := hp.mono hleD
                    replace hp34 := hp34.mono hleD
                    replace hpP := hpP.mono hleD
                    replace hle0 := hle0.trans hleD
                    replace hle1 := hle1.trans hleD
                    refine withP_cons rfl rfl ?_
                    rintro _ rfl
                    refine withP_cons rfl rfl ?_
                    rintro _ rfl
                    refine withP_cons rfl rfl ?_
                    rintro _ rfl
                    refine withP_cons rfl rfl ?_
                    rintro _ rfl
                    refine withP_cons rfl rfl ?_
                    rintro _ rfl
                    refine withP_cons rfl rfl ?_
                    rintro _ rfl
                    refine withP_cons rfl rfl ?_
                    rintro _ rfl
                    refine withP_cons rfl rfl ?_
                    rintro _ rfl
                    refine withP_cons rfl rfl ?_
                    rintro _ rfl
                    refine withP_cons rfl rfl ?_
                    rintro _ rfl
                    refine withP_cons rfl rfl ?_
                    rintro _ rfl
                    refine withP_cons rfl rfl ?_
                    rintro _ rfl
                    refine withP_cons rfl rfl ?_
                    rintro _ rfl
                    refine withP_cons rfl rfl ?_
                    rintro _ rfl
                    refine withP_cons rfl rfl ?_
                    rintro _ rfl
                    refine withP_cons rfl rfl ?_
                    rintro _ rfl
                    refine withP_cons rfl rfl ?_
                    rintro _ rfl
                    refine withP_cons rfl rfl ?_
                    rintro _ rfl
                    refine withP_cons rfl rfl ?_
                    rintro _ rfl
                    refine withP_cons rfl rfl ?_
                    rintro _ rfl
                    refine withP_cons rfl rfl ?_
                    rintro _ rfl
                    refine withP_cons rfl rfl ?_
                    rintro _ rfl
                    refine withP_cons rfl rfl ?_
                    rintro _ rfl
                    refine withP_cons rfl rfl ?_
                    rintro _ rfl
                    refine withP_cons rfl rfl ?_
                    rintro _ rfl
                    refine withP_cons rfl rfl ?_
                    rintro _ rfl
                    refine withP_cons rfl rfl ?_
                    rintro _ rfl
                    refine withP_cons rfl rfl ?_
                    rintro _ rfl
                    refine withP_cons rfl rfl ?_
                    rintro _ rfl
                    refine withP_cons rfl rfl ?_
                    rintro _ rfl
                    refine withP_cons rfl rfl ?_
                    rintro _ rfl
                    refine withP_cons rfl rfl ?_
                    rintro _ rfl
                    refine withP_cons rfl rfl ?_
                    rintro _ rfl
                    refine withP_cons rfl rfl ?_
                    rintro _ rfl
                    refine withP_nil rfl ?_
                    refine withEnts_nil ?_
                    refine XO.guardU rfl rfl rfl rfl ?_
                    refine XO.guardF rfl rfl (decide_eq_true hLT) rfl rfl ?_
                    refine XO.guardT rfl rfl (decide_eq_true hK0) rfl ?_
                    refine XO.pickT rfl (decide_eq_true hLT) rfl rfl ?_
                    refine XO.pickT rfl (decide_eq_true hK0) rfl rfl ?_
                    refine XO.nil ?_
                    refine XC.seq2 ?_
                    refine XC.condT rfl (rfl) ?_
                    refine XC.seq ?_
                    refine XC.region ?_
                    refine XO.assign rfl rfl ?_
                    refine XO.nil ?_
                    refine XC.seq2 ?_
                    refine XC.ret ?_
                    refine blockR ?_
                    refine seqX_ret ?_
                    refine loopX_ret ?_
                    refine blockR ?_
                    refine seqX_ret ?_
                    refine ⟨rfl, _, [], rfl, (by repeat (first | exact List.Sublist.refl _ | apply List.Sublist.cons)), RetR.mk ?_⟩
                    first | exact congrArg (Value.int .i64) (chk_ok ⟨by omega, hpk, hap⟩).symm | exact congrArg (Value.int .i64) (chk_bad (fun h => by first | exact ap_bad2 hx34 (by omega) hxP (by unfold lexLt; omega) h.2.2 | exact ap_bad1 hx34 (by unfold linkOk; omega) h.2.2 | (have := h.1; omega) | exact absurd (h.2.1 x20 (List.mem_of_getElem? hx20)) (by assumption))).symm
                · skip
                  by_cases hEQ : x34.1 = xP.1
                  · skip
                    refine XC.keep [1, 4, 5] rfl ?_
                    apply XC.drawH (fun _ => True) trivial [] (by decide) (fun _ _ _ _ => True) (fun _ _ _ _ _ _ h => h) 34 [eqF _, eqF _, eqF _, eqF _, eqF _, eqF _, eqF _, eqF _, eqF _, eqF _, eqF _, eqF _, eqF _, eqF _, eqF _, eqF _, eqF _, eqF _, eqF _, eqF _, eqF _, eqF _, eqF _, eqF _, eqF _, eqF _, eqF _, eqF _, eqF _, eqF _, eqF _, eqF _, eqF _, eqF _] follows (by kernel_rfl) ⟨eqF_mono _, eqF_mono _, eqF_mono _, eqF_mono _, eqF_mono _, eqF_mono _, eqF_mono _, eqF_mono _, eqF_mono _, eqF_mono _, eqF_mono _, eqF_mono _, eqF_mono _, eqF_mono _, eqF_mono _, eqF_mono _, eqF_mono _, eqF_mono _, eqF_mono _, eqF_mono _, eqF_mono _, eqF_mono _, eqF_mono _, eqF_mono _, eqF_mono _, eqF_mono _, eqF_mono _, eqF_mono _, eqF_mono _, eqF_mono _, eqF_mono _, eqF_mono _, eqF_mono _, eqF_mono _, trivial⟩ (by decide) ?steps15 ?tail15
                    case steps15 =>
                      refine stepsH_cons rfl ?_ ?_
                      · intro X ext HD hleD _
                        replace hq := hq.mono hleD
                        replace hp := hp.mono hleD
                        replace hp34 := hp34.mono hleD
                        replace hpP := hpP.mono hleD
                        replace hle0 := hle0.trans hleD
                        replace hle1 := hle1.trans hleD
                        refine withP_nil rfl ?_
                        refine XO.move rfl rfl ?_
                        refine XO.nil ?_
                        exact stepQN_ok rfl trivial (rfl)
                      refine stepsH_cons rfl ?_ ?_
                      · intro X ext HD hleD _
                        replace hq := hq.mono hleD
                        replace hp := hp.mono hleD
                        replace hp34 := hp34.mono hleD
                        replace hpP := hpP.mono hleD
                        replace hle0 := hle0.trans hleD
                        replace hle1 := hle1.trans hleD
                        refine withP_cons rfl rfl ?_
                        rintro _ rfl
                        refine withP_nil rfl ?_
                        refine XO.gtr rfl rfl rfl ?_
                        refine XO.nil ?_
                        exact stepQN_ok rfl trivial (rfl)
                      refine stepsH_cons rfl ?_ ?_
                      · intro X ext HD hleD _
                        replace hq := hq.mono hleD
                        replace hp := hp.mono hleD
                        replace hp34 := hp34.mono hleD
                        replace hpP := hpP.mono hleD
                        replace hle0 := hle0.trans hleD
                        replace hle1 := hle1.trans hleD
                        refine withP_cons rfl rfl ?_
                        rintro _ rfl
                        refine withP_nil rfl ?_
                        refine XO.move rfl rfl ?_
                        refine XO.nil ?_
                        exact stepQN_ok rfl trivial (rfl)
                      refine stepsH_cons rfl ?_ ?_
                      · intro X ext HD hleD _
                        replace hq := hq.mono hleD
                        replace hp := hp.mono hleD
                        replace hp34 := hp34.mono hleD
                        replace hpP := hpP.mono hleD
                        replace hle0 := hle0.trans hleD
                        replace hle1 := hle1.trans hleD
                        refine withP_cons rfl rfl ?_
                        rintro _ rfl
                        refine withP_nil rfl ?_
                        refine XO.guardT rfl rfl (decide_eq_true hK0) rfl ?_
                        refine XO.indexArr rfl rfl Try.underlying55 ty_3 (by first | decide | omega) (by first | decide | omega) rfl ?_
                        refine XO.nil ?_
                        exact stepQN_ok rfl trivial (rfl)
                      refine stepsH_cons rfl ?_ ?_
                      · intro X ext HD hleD _
                        replace hq := hq.mono hleD
                        replace hp := hp.mono hleD
                        replace hp34 := hp34.mono hleD
                        replace hpP := hpP.mono hleD
                        replace hle0 := hle0.trans hleD
                        replace hle1 := hle1.trans hleD
                        refine withP_cons rfl rfl ?_
                        rintro _ rfl
                        refine withP_cons rfl rfl ?_
                        rintro _ rfl
                        refine withP_nil rfl ?_
                        refine XO.guardT rfl rfl (decide_eq_true hK0) rfl ?_
                        refine XO.loadO 0 rfl rfl ty_3 rfl rfl rfl ?_
                        refine XO.nil ?_
                        exact stepQN_ok rfl trivial (rfl)
                      refine stepsH_cons rfl ?_ ?_
                      · intro X ext HD hleD _
                        replace hq := hq.mono hleD
                        replace hp := hp.mono hleD
                        replace hp34 := hp34.mono hleD
                        replace hpP := hpP.mono hleD
                        replace hle0 := hle0.trans hleD
                        replace hle1 := hle1.trans hleD
                        refine withP_cons rfl rfl ?_
                        rintro _ rfl
                        refine withP_nil rfl ?_
                        refine XO.guardT rfl rfl (decide_eq_true hK0) rfl ?_
                        refine XO.fieldAddr rfl fa_25_1 rfl ?_
                        refine XO.nil ?_
                        exact stepQN_ok rfl trivial (rfl)
                      refine stepsH_cons rfl ?_ ?_
                      · intro X ext HD hleD _
                        replace hq := hq.mono hleD
                        replace hp := hp.mono hleD
                        replace hp34 := hp34.mono hleD
                        replace hpP := hpP.mono hleD
                        replace hle0 := hle0.trans hleD
                        replace hle1 := hle1.trans hleD
                        refine withP_cons rfl rfl ?_
                        rintro _ rfl
                        refine withP_cons rfl rfl ?_
                        rintro _ rfl
                        refine withP_nil rfl ?_
                        refine XO.guardT rfl rfl (decide_eq_true hK0) rfl ?_
                        refine XO.loadO 1 rfl rfl ty_23 rfl rfl rfl ?_
                        refine XO.nil ?_
                        exact stepQN_ok rfl trivial (rfl)
                      refine stepsH_cons rfl ?_ ?_
                      · intro X ext HD hleD _
                        replace hq := hq.mono hleD
                        replace hp := hp.mono hleD
                        replace hp34 := hp34.mono hleD
                        replace hpP := hpP.mono hleD
                        replace hle0 := hle0.trans hleD
                        replace hle1 := hle1.trans hleD
                        refine withP_cons rfl rfl ?_
                        rintro _ rfl
                        refine withP_nil rfl ?_
                        refine XO.guardT rfl rfl (decide_eq_true hK0) rfl ?_
                        refine XO.move rfl rfl ?_
                        refine XO.nil ?_
                        exact stepQN_ok rfl trivial (rfl)
                      refine stepsH_cons rfl ?_ ?_
                      · intro X ext HD hleD _
                        replace hq := hq.mono hleD
                        replace hp := hp.mono hleD
                        replace hp34 := hp34.mono hleD
                        replace hpP := hpP.mono hleD
                        replace hle0 := hle0.trans hleD
                        replace hle1 := hle1.trans hleD
                        refine withP_cons rfl rfl ?_
                        rintro _ rfl
                        refine withP_cons rfl rfl ?_
                        rintro _ rfl
                        refine withP_nil rfl ?_
                        refine XO.guardT rfl rfl (decide_eq_true hK0) rfl ?_
                        refine XO.sub rfl rfl (wrap_i64 (by omega) (by omega)) rfl ?_
                        refine XO.nil ?_
                        exact stepQN_ok rfl trivial (rfl)
                      refine stepsH_cons rfl ?_ ?_
                      · intro X ext HD hleD _
                        replace hq := hq.mono hleD
                        replace hp := hp.mono hleD
                        replace hp34 := hp34.mono hleD
                        replace hpP := hpP.mono hleD
                        replace hle0 := hle0.trans hleD
                        replace hle1 := hle1.trans hleD
                        refine withP_cons rfl rfl ?_
                        rintro _ rfl
                        refine withP_cons rfl rfl ?_
                        rintro _ rfl
                        refine withP_cons rfl rfl ?_
                        rintro _ rfl
                        refine withP_nil rfl ?_
                        refine XO.guardT rfl rfl (decide_eq_true hK0) rfl ?_
                        refine XO.indexE rfl rfl Try.underlying23 ty_55 (by omega) (by omega) rfl ?_
                        refine XO.nil ?_
                        exact stepQN_ok rfl trivial (rfl)
                      refine stepsH_cons rfl ?_ ?_
                      · intro X ext HD hleD _
                        replace hq := hq.mono hleD
                        replace hp := hp.mono hleD
                        replace hp34 := hp34.mono hleD
                        replace hpP := hpP.mono hleD
                        replace hle0 := hle0.trans hleD
                        replace hle1 := hle1.trans hleD
                        refine withP_cons rfl rfl ?_
                        rintro _ rfl
                        refine withP_cons rfl rfl ?_
                        rintro _ rfl
                        refine withP_nil rfl ?_
                        refine XO.guardT rfl rfl (decide_eq_true hK0) rfl ?_
                        refine XO.indexArr rfl rfl Try.underlying55 ty_3 (by first | decide | omega) (by first | decide | omega) rfl ?_
                        refine XO.nil ?_
                        exact stepQN_ok rfl trivial (rfl)
                      refine stepsH_cons rfl ?_ ?_
                      · intro X ext HD hleD _
                        replace hq := hq.mono hleD
                        replace hp := hp.mono hleD
                        replace hp34 := hp34.mono hleD
                        replace hpP := hpP.mono hleD
                        replace hle0 := hle0.trans hleD
                        replace hle1 := hle1.trans hleD
                        refine withP_cons rfl rfl ?_
                        rintro _ rfl
                        refine withP_cons rfl rfl ?_
                        rintro _ rfl
                        refine withP_nil rfl ?_
                        refine XO.guardT rfl rfl (decide_eq_true hK0) rfl ?_
                        refine XO.loadHF rfl (by assumption) ty_3 rfl rfl rfl ?_
                        refine XO.nil ?_
                        exact stepQN_ok rfl trivial (rfl)
                      refine stepsH_cons rfl ?_ ?_
                      · intro X ext HD hleD _
                        replace hq := hq.mono hleD
                        replace hp := hp.mono hleD
                        replace hp34 := hp34.mono hleD
                        replace hpP := hpP.mono hleD
                        replace hle0 := hle0.trans hleD
                        replace hle1 := hle1.trans hleD
                        refine withP_cons rfl rfl ?_
                        rintro _ rfl
                        refine withP_cons rfl rfl ?_
                        rintro _ rfl
                        refine withP_cons rfl rfl ?_
                        rintro _ rfl
                        refine withP_nil rfl ?_
                        refine XO.guardT rfl rfl (decide_eq_true hK0) rfl ?_
                        refine XO.lss rfl rfl rfl ?_
                        refine XO.nil ?_
                        exact stepQN_ok rfl trivial (rfl)
                      refine stepsH_cons rfl ?_ ?_
                      · intro X ext HD hleD _
                        replace hq := hq.mono hleD
                        replace hp := hp.mono hleD
                        replace hp34 := hp34.mono hleD
                        replace hpP := hpP.mono hleD
                        replace hle0 := hle0.trans hleD
                        replace hle1 := hle1.trans hleD
                        refine withP_cons rfl rfl ?_
                        rintro _ rfl
                        refine withP_cons rfl rfl ?_
                        rintro _ rfl
                        refine withP_nil rfl ?_
                        refine XO.guardT rfl rfl (decide_eq_true hK0) rfl ?_
                        refine XO.move rfl rfl ?_
                        refine XO.nil ?_
                        exact stepQN_ok rfl trivial (rfl)
                      refine stepsH_cons rfl ?_ ?_
                      · intro X ext HD hleD _
                        replace hq := hq.mono hleD
                        replace hp := hp.mono hleD
                        replace hp34 := hp34.mono hleD
                        replace hpP := hpP.mono hleD
                        replace hle0 := hle0.trans hleD
                        replace hle1 := hle1.trans hleD
                        refine withP_cons rfl rfl ?_
                        rintro _ rfl
                        refine withP_nil rfl ?_
                        refine XO.guardT rfl rfl (decide_eq_false hLT) rfl ?_
                        refine XO.indexArr rfl rfl Try.underlying55 ty_3 (by first | decide | omega) (by first | decide | omega) rfl ?_
                        refine XO.nil ?_
                        exact stepQN_ok rfl trivial (rfl)
                      refine stepsH_cons rfl ?_ ?_
                      · intro X ext HD hleD _
                        replace hq := hq.mono hleD
                        replace hp := hp.mono hleD
                        replace hp34 := hp34.mono hleD
                        replace hpP := hpP.mono hleD
                        replace hle0 := hle0.trans hleD
                        replace hle1 := hle1.trans hleD
                        refine withP_cons rfl rfl ?_
                        rintro _ rfl
                        refine withP_cons rfl rfl ?_
                        rintro _ rfl
                        refine withP_nil rfl ?_
                        refine XO.guardT rfl rfl (decide_eq_false hLT) rfl ?_
                        refine XO.loadO 0 rfl rfl ty_3 rfl rfl rfl ?_
                        refine XO.nil ?_
                        exact stepQN_ok rfl trivial (rfl)
                      refine stepsH_cons rfl ?_ ?_
                      · intro X ext HD hleD _
                        replace hq := hq.mono hleD
                        replace hp := hp.mono hleD
                        replace hp34 := hp34.mono hleD
                        replace hpP := hpP.mono hleD
                        replace hle0 := hle0.trans hleD
                        replace hle1 := hle1.trans hleD
                        refine withP_cons rfl rfl ?_
                        rintro _ rfl
                        refine withP_nil rfl ?_
                        refine XO.guardT rfl rfl (decide_eq_false hLT) rfl ?_
                        refine XO.fieldAddr rfl fa_25_1 rfl ?_
                        refine XO.nil ?_
                        exact stepQN_ok rfl trivial (rfl)
                      refine stepsH_cons rfl ?_ ?_
                      · intro X ext HD hleD _
                        replace hq := hq.mono hleD
                        replace hp := hp.mono hleD
                        replace hp34 := hp34.mono hleD
                        replace hpP := hpP.mono hleD
                        replace hle0 := hle0.trans hleD
                        replace hle1 := hle1.trans hleD
                        refine withP_cons rfl rfl ?_
                        rintro _ rfl
                        refine withP_cons rfl rfl ?_
                        rintro _ rfl
                        refine withP_nil rfl ?_
                        refine XO.guardT rfl rfl (decide_eq_false hLT) rfl ?_
                        refine XO.loadO 1 rfl rfl ty_23 rfl rfl rfl ?_
                        refine XO.nil ?_
                        exact stepQN_ok rfl trivial (rfl)
                      refine stepsH_cons rfl ?_ ?_
                      · intro X ext HD hleD _
                        replace hq := hq.mono hleD
                        replace hp := hp.mono hleD
                        replace hp34 := hp34.mono hleD
                        replace hpP := hpP.mono hleD
                        replace hle0 := hle0.trans hleD
                        replace hle1 := hle1.trans hleD
                        refine withP_cons rfl rfl ?_
                        rintro _ rfl
                        refine withP_nil rfl ?_
                        refine XO.guardT rfl rfl (decide_eq_false hLT) rfl ?_
                        refine XO.move rfl rfl ?_
                        refine XO.nil ?_
                        exact stepQN_ok rfl trivial (rfl)
                      refine stepsH_cons rfl ?_ ?_
                      · intro X ext HD hleD _
                        replace hq := hq.mono hleD
                        replace hp := hp.mono hleD
                        replace hp34 := hp34.mono hleD
                        replace hpP := hpP.mono hleD
                        replace hle0 := hle0.trans hleD
                        replace hle1 := hle1.trans hleD
                        refine withP_cons rfl rfl ?_
                        rintro _ rfl
                        refine withP_cons rfl rfl ?_
                        rintro _ rfl
                        refine withP_nil rfl ?_
                        refine XO.guardT rfl rfl (decide_eq_false hLT) rfl ?_
                        refine XO.sub rfl rfl (wrap_i64 (by omega) (by omega)) rfl ?_
                        refine XO.nil ?_
                        exact stepQN_ok rfl trivial (rfl)
                      refine stepsH_cons rfl ?_ ?_
                      · intro X ext HD hleD _
                        replace hq := hq.mono hleD
                        replace hp := hp.mono hleD
                        replace hp34 := hp34.mono hleD
                        replace hpP := hpP.mono hleD
                        replace hle0 := hle0.trans hleD
                        replace hle1 := hle1.trans hleD
                        refine withP_cons rfl rfl ?_
                        rintro _ rfl
                        refine withP_cons rfl rfl ?_
                        rintro _ rfl
                        refine withP_cons rfl rfl ?_
                        rintro _ rfl
                        refine withP_nil rfl ?_
                        refine XO.guardT rfl rfl (decide_eq_false hLT) rfl ?_
                        refine XO.indexE rfl rfl Try.underlying23 ty_55 (by omega) (by omega) rfl ?_
                        refine XO.nil ?_
                        exact stepQN_ok rfl trivial (rfl)
                      refine stepsH_cons rfl ?_ ?_
                      · intro X ext HD hleD _
                        replace hq := hq.mono hleD
                        replace hp := hp.mono hleD
                        replace hp34 := hp34.mono hleD
                        replace hpP := hpP.mono hleD
                        replace hle0 := hle0.trans hleD
                        replace hle1 := hle1.trans hleD
                        refine withP_cons rfl rfl ?_
                        rintro _ rfl
                        refine withP_cons rfl rfl ?_
                        rintro _ rfl
                        refine withP_nil rfl ?_
                        refine XO.guardT rfl rfl (decide_eq_false hLT) rfl ?_
                        refine XO.indexArr rfl rfl Try.underlying55 ty_3 (by first | decide | omega) (by first | decide | omega) rfl ?_
                        refine XO.nil ?_
                        exact stepQN_ok rfl trivial (rfl)
                      refine stepsH_cons rfl ?_ ?_
                      · intro X ext HD hleD _
                        replace hq := hq.mono hleD
                        replace hp := hp.mono hleD
                        replace hp34 := hp34.mono hleD
                        replace hpP := hpP.mono hleD
                        replace hle0 := hle0.trans hleD
                        replace hle1 := hle1.trans hleD
                        refine withP_cons rfl rfl ?_
                        rintro _ rfl
                        refine withP_cons rfl rfl ?_
                        rintro _ rfl
                        refine withP_nil rfl ?_
                        refine XO.guardT rfl rfl (decide_eq_false hLT) rfl ?_
                        refine XO.loadHF rfl (by assumption) ty_3 rfl rfl rfl ?_
                        refine XO.nil ?_
                        exact stepQN_ok rfl trivial (rfl)
                      refine stepsH_cons rfl ?_ ?_
                      · intro X ext HD hleD _
                        replace hq := hq.mono hleD
                        replace hp := hp.mono hleD
                        replace hp34 := hp34.mono hleD
                        replace hpP := hpP.mono hleD
                        replace hle0 := hle0.trans hleD
                        replace hle1 := hle1.trans hleD
                        refine withP_cons rfl rfl ?_
                        rintro _ rfl
                        refine withP_cons rfl rfl ?_
                        rintro _ rfl
                        refine withP_cons rfl rfl ?_
                        rintro _ rfl
                        refine withP_nil rfl ?_
                        refine XO.guardT rfl rfl (decide_eq_false hLT) rfl ?_
                        refine XO.eql rfl rfl rfl ?_
                        refine XO.nil ?_
                        exact stepQN_ok rfl trivial (rfl)
                      refine stepsH_cons rfl ?_ ?_
                      · intro X ext HD hleD _
                        replace hq := hq.mono hleD
                        replace hp := hp.mono hleD
                        replace hp34 := hp34.mono hleD
                        replace hpP := hpP.mono hleD
                        replace hle0 := hle0.trans hleD
                        replace hle1 := hle1.trans hleD
                        refine withP_cons rfl rfl ?_
                        rintro _ rfl
                        refine withP_cons rfl rfl ?_
                        rintro _ rfl
                        refine withP_nil rfl ?_
                        refine XO.guardT rfl rfl (decide_eq_false hLT) rfl ?_
                        refine XO.move rfl rfl ?_
                        refine XO.nil ?_
                        exact stepQN_ok rfl trivial (rfl)
                      refine stepsH_cons rfl ?_ ?_
                      · intro X ext HD hleD _
                        replace hq := hq.mono hleD
                        replace hp := hp.mono hleD
                        replace hp34 := hp34.mono hleD
                        replace hpP := hpP.mono hleD
                        replace hle0 := hle0.trans hleD
                        replace hle1 := hle1.trans hleD
                        refine withP_cons rfl rfl ?_
                        rintro _ rfl
                        refine withP_nil rfl ?_
                        refine XO.guardT rfl rfl (decide_eq_true hEQ) rfl ?_
                        refine XO.indexArr rfl rfl Try.underlying55 ty_3 (by first | decide | omega) (by first | decide | omega) rfl ?_
                        refine XO.nil ?_
                        exact stepQN_ok rfl trivial (rfl)
                      refine stepsH_cons rfl ?_ ?_
                      · intro X ext HD hleD _
                        replace hq := hq.mono hleD
                        replace hp := hp.mono hleD
                        replace hp34 := hp34.mono hleD
                        replace hpP := hpP.mono hleD
                        replace hle0 := hle0.trans hleD
                        replace hle1 := hle1.trans hleD
                        refine withP_cons rfl rfl ?_
                        rintro _ rfl
                        refine withP_cons rfl rfl ?_
                        rintro _ rfl
                        refine withP_nil rfl ?_
                        refine XO.guardT rfl rfl (decide_eq_true hEQ) rfl ?_
                        refine XO.loadO 0 rfl rfl ty_3 rfl rfl rfl ?_
                        refine XO.nil ?_
                        exact stepQN_ok rfl trivial (rfl)
                      refine stepsH_cons rfl ?_ ?_
                      · intro X ext HD hleD _
                        replace hq := hq.mono hleD
                        replace hp := hp.mono hleD
                        replace hp34 := hp34.mono hleD
                        replace hpP := hpP.mono hleD
                        replace hle0 := hle0.trans hleD
                        replace hle1 := hle1.trans hleD
                        refine withP_cons rfl rfl ?_
                        rintro _ rfl
                        refine withP_nil rfl ?_
                        refine XO.guardT rfl rfl (decide_eq_true hEQ) rfl ?_
                        refine XO.fieldAddr rfl fa_25_1 rfl ?_
                        refine XO.nil ?_
                        exact stepQN_ok rfl trivial (rfl)
                      refine stepsH_cons rfl ?_ ?_
                      · intro X ext HD hleD _
                        replace hq := hq.mono hleD
                        replace hp := hp.mono hleD
                        replace hp34 := hp34.mono hleD
                        replace hpP := hpP.mono hleD
                        replace hle0 := hle0.trans hleD
                        replace hle1 := hle1.trans hleD
                        refine withP_cons rfl rfl ?_
                        rintro _ rfl
                        refine withP_cons rfl rfl ?_
                        rintro _ rfl
                        refine withP_nil rfl ?_
                        refine XO.guardT rfl rfl (decide_eq_true hEQ) rfl ?_
                        refine XO.loadO 1 rfl rfl ty_23 rfl rfl rfl ?_
                        refine XO.nil ?_
                        exact stepQN_ok rfl trivial (rfl)
                      refine stepsH_cons rfl ?_ ?_
                      · intro X ext HD hleD _
                        replace hq := hq.mono hleD
                        replace hp := hp.mono hleD
                        replace hp34 := hp34.mono hleD
                        replace hpP := hpP.mono hleD
                        replace hle0 := hle0.trans hleD
                        replace hle1 := hle1.trans hleD
                        refine withP_cons rfl rfl ?_
                        rintro _ rfl
                        refine withP_nil rfl ?_
                        refine XO.guardT rfl rfl (decide_eq_true hEQ) rfl ?_
                        refine XO.move rfl rfl ?_
                        refine XO.nil ?_
                        exact stepQN_ok rfl trivial (rfl)
                      refine stepsH_cons rfl ?_ ?_
                      · intro X ext HD hleD _
                        replace hq := hq.mono hleD
                        replace hp := hp.mono hleD
                        replace hp34 := hp34.mono hleD
                        replace hpP := hpP.mono hleD
                        replace hle0 := hle0.trans hleD
                        replace hle1 := hle1.trans hleD
                        refine withP_cons rfl rfl ?_
                        rintro _ rfl
                        refine withP_cons rfl rfl ?_
                        rintro _ rfl
                        refine withP_nil rfl ?_
                        refine XO.guardT rfl rfl (decide_eq_true hEQ) rfl ?_
                        refine XO.sub rfl rfl (wrap_i64 (by omega) (by omega)) rfl ?_
                        refine XO.nil ?_
                        exact stepQN_ok rfl trivial (rfl)
                      refine stepsH_cons rfl ?_ ?_
                      · intro X ext HD hleD _
                        replace hq := hq.mono hleD
                        replace hp := hp.mono hleD
                        replace hp34 := hp34.mono hleD
                        replace hpP := hpP.mono hleD
                        replace hle0 := hle0.trans hleD
                        replace hle1 := hle1.trans hleD
                        refine withP_cons rfl rfl ?_
                        rintro _ rfl
                        refine withP_cons rfl rfl ?_
                        rintro _ rfl
                        refine withP_cons rfl rfl ?_
                        rintro _ rfl
                        refine withP_nil rfl ?_
                        refine XO.guardT rfl rfl (decide_eq_true hEQ) rfl ?_
                        refine XO.indexE rfl rfl Try.underlying23 ty_55 (by omega) (by omega) rfl ?_
                        refine XO.nil ?_
                        exact stepQN_ok rfl trivial (rfl)
                      refine stepsH_cons rfl ?_ ?_
                      · intro X ext HD hleD _
                        replace hq := hq.mono hleD
                        replace hp := hp.mono hleD
                        replace hp34 := hp34.mono hleD
                        replace hpP := hpP.mono hleD
                        replace hle0 := hle0.trans hleD
                        replace hle1 := hle1.trans hleD
                        refine withP_cons rfl rfl ?_
                        rintro _ rfl
                        refine withP_cons rfl rfl ?_
                        rintro _ rfl
                        refine withP_nil rfl ?_
                        refine XO.guardT rfl rfl (decide_eq_true hEQ) rfl ?_
                        refine XO.indexArr rfl rfl Try.underlying55 ty_3 (by first | decide | omega) (by first | decide | omega) rfl ?_
                        refine XO.nil ?_
                        exact stepQN_ok rfl trivial (rfl)
                      refine stepsH_cons rfl ?_ ?_
                      · intro X ext HD hleD _
                        replace hq := hq.mono hleD
                        replace hp := hp.mono hleD
                        replace hp34 := hp34.mono hleD
                        replace hpP := hpP.mono hleD
                        replace hle0 := hle0.trans hleD
                        replace hle1 := hle1.trans hleD
                        refine withP_cons rfl rfl ?_
                        rintro _ rfl
                        refine withP_cons rfl rfl ?_
                        rintro _ rfl
                        refine withP_nil rfl ?_
                        refine XO.guardT rfl rfl (decide_eq_true hEQ) rfl ?_
                        refine XO.loadHF rfl (by assumption) ty_3 rfl rfl rfl ?_
                        refine XO.nil ?_
                        exact stepQN_ok rfl trivial (rfl)
                      exact stepsH_end rfl
                    case tail15 =>
                      intro HD hleD _
                      replace hq := hq.mono hleD
                      replace hp := hp.mono hleD
                      replace hp34 := hp34.mono hleD
                      replace hpP := hpP.mono hleD
                      replace hle0 := hle0.trans hleD
                      replace hle1 := hle1.trans hleD
                      refine withP_cons rfl rfl ?_
                      rintro _ rfl
                      refine withP_cons rfl rfl ?_
                      rintro _ rfl
                      refine withP_cons rfl rfl ?_
                      rintro _ rfl
                      refine withP_cons rfl rfl ?_
                      rintro _ rfl
                      refine withP_cons rfl rfl ?_
                      rintro _ rfl
                      refine withP_cons rfl rfl ?_
                      rintro _ rfl
                      refine withP_cons rfl rfl ?_
                      rintro _ rfl
                      refine withP_cons rfl rfl ?_
                      rintro _ rfl
                      refine withP_cons rfl rfl ?_
                      rintro _ rfl
                      refine withP_cons rfl rfl ?_
                      rintro _ rfl
                      refine withP_cons rfl rfl ?_
                      rintro _ rfl
                      refine withP_cons rfl rfl ?_
                      rintro _ rfl
                      refine withP_cons rfl rfl ?_
                      rintro _ rfl
                      refine withP_cons rfl rfl ?_
                      rintro _ rfl
                      refine withP_cons rfl rfl ?_
                      rintro _ rfl
                      refine withP_cons rfl rfl ?_
                      rintro _ rfl
                      refine withP_cons rfl rfl ?_
                      rintro _ rfl
                      refine withP_cons rfl rfl ?_
                      rintro _ rfl
                      refine withP_cons rfl rfl ?_
                      rintro _ rfl
                      refine withP_cons rfl rfl ?_
                      rintro _ rfl
                      refine withP_cons rfl rfl ?_
                      rintro _ rfl
                      refine withP_cons rfl rfl ?_
                      rintro _ rfl
                      refine withP_cons rfl rfl ?_
                      rintro _ rfl
                      refine withP_cons rfl rfl ?_
                      rintro _ rfl
                      refine withP_cons rfl rfl ?_
                      rintro _ rfl
                      refine withP_cons rfl rfl ?_
                      rintro _ rfl
                      refine withP_cons rfl rfl ?_
                      rintro _ rfl
                      refine withP_cons rfl rfl ?_
                      rintro _ rfl
                      refine withP_cons rfl rfl ?_
                      rintro _ rfl
                      refine withP_cons rfl rfl ?_
                      rintro _ rfl
                      refine withP_cons rfl rfl ?_
                      rintro _ rfl
                      refine withP_cons rfl rfl ?_
                      rintro _ rfl
                      refine withP_cons rfl rfl ?_
                      rintro _ rfl
                      refine withP_cons rfl rfl ?_
                      rintro _ rfl
                      refine withP_nil rfl ?_
                      refine withEnts_nil ?_
                      refine XO.guardT rfl rfl (decide_eq_true hEQ) rfl ?_
                      refine XO.leq rfl rfl rfl ?_
                      refine XO.guardT rfl rfl (decide_eq_false hLT) rfl ?_
                      refine XO.pickT rfl (decide_eq_true hEQ) rfl rfl ?_
                      refine XO.guardT rfl rfl (decide_eq_true hK0) rfl ?_
                      refine XO.pickF rfl (decide_eq_false hLT) rfl rfl ?_
                      refine XO.pickT rfl (decide_eq_true hK0) rfl rfl ?_
                      refine XO.nil ?_
                      refine XC.seq2 ?_
                      refine XC.cond rfl (fun c5_19 => ?_) (fun c5_19 => ?_)
                      · refine XC.seq ?_
                        refine XC.region ?_
                        refine XO.assign rfl rfl ?_
                        refine XO.nil ?_
                        refine XC.seq2 ?_
                        refine XC.ret ?_
                        refine blockR ?_
                        refine seqX_ret ?_
                        refine loopX_ret ?_
                        refine blockR ?_
                        refine seqX_ret ?_
                        refine ⟨rfl, _, [], rfl, (by repeat (first | exact List.Sublist.refl _ | apply List.Sublist.cons)), RetR.mk ?_⟩
                        first | exact congrArg (Value.int .i64) (chk_ok ⟨by omega, hpk, hap⟩).symm | exact congrArg (Value.int .i64) (chk_bad (fun h => by first | exact ap_bad2 hx34 (by omega) hxP (by unfold lexLt; omega) h.2.2 | exact ap_bad1 hx34 (by unfold linkOk; omega) h.2.2 | (have := h.1; omega) | exact absurd (h.2.1 x20 (List.mem_of_getElem? hx20)) (by assumption))).symm
                      · refine XC.skip ?_
                        refine blockN ?_
                        refine XC.seq2 ?_
                        refine XC.region ?_
                        refine XO.move rfl rfl ?_
                        refine XO.add rfl rfl (wrap_i64 (by omega) (by omega)) rfl ?_
                        refine XO.assign rfl rfl ?_
                        refine XO.nil ?_
                        refine loop_next (k + 1) (by show n.ap.length - (k + 1) < n.ap.length - k; omega) (prov_cons (rfl) (prov_cons (rfl) prov_nil)) (⟨by show k + 1 ≤ n.ap.length; omega, rfl, by first | exact ap_snoc hap hx34 (by unfold linkOk; omega) (fun y hk hy => by obtain rfl := Option.some.inj (hxP.symm.trans hy); unfold lexLt; omega) | exact ap_snoc hap hx34 (by unfold linkOk; omega) (fun y hk hy => by omega)⟩) (by repeat (first | exact List.Sublist.refl _ | apply List.Sublist.cons_cons | apply List.Sublist.cons)) (hle1)
                  · skip
                    refine XC.keep [1, 4, 5] rfl ?_
                    apply XC.drawH (fun _ => True) trivial [] (by decide) (fun _ _ _ _ => True) (fun _ _ _ _ _ _ h => h) 34 [eqF _, eqF _, eqF _, eqF _, eqF _, eqF _, eqF _, eqF _, eqF _, eqF _, eqF _, eqF _, eqF _, eqF _, eqF _, eqF _, eqF _, eqF _, eqF _, eqF _, eqF _, eqF _, eqF _, eqF _, eqF _, eqF _, eqF _, eqF _, eqF _, eqF _, eqF _, eqF _, eqF _, eqF _] follows (by kernel_rfl) ⟨eqF_mono _, eqF_mono _, eqF_mono _, eqF_mono _, eqF_mono _, eqF_mono _, eqF_mono _, eqF_mono _, eqF_mono _, eqF_mono _, eqF_mono _, eqF_mono _, eqF_mono _, eqF_mono _, eqF_mono _, eqF_mono _, eqF_mono _, eqF_mono _, eqF_mono _, eqF_mono _, eqF_mono _, eqF_mono _, eqF_mono _, eqF_mono _, eqF_mono _, eqF_mono _, eqF_mono _, eqF_mono _, eqF_mono _, eqF_mono _, eqF_mono _, eqF_mono _, eqF_mono _, eqF_mono _, trivial⟩ (by decide) ?steps20 ?tail20
                    case steps20 =>
                      refine stepsH_cons rfl ?_ ?_
                      · intro X ext HD hleD _
                        replace hq := hq.mono hleD
                        replace hp := hp.mono hleD
                        replace hp34 := hp34.mono hleD
                        replace hpP := hpP.mono hleD
                        replace hle0 := hle0.trans hleD
                        replace hle1 := hle1.trans hleD
                        refine withP_nil rfl ?_
                        refine XO.move rfl rfl ?_
                        refine XO.nil ?_
                        exact stepQN_ok rfl trivial (rfl)
                      refine stepsH_cons rfl ?_ ?_
                      · intro X ext HD hleD _
                        replace hq := hq.mono hleD
                        replace hp := hp.mono hleD
                        replace hp34 := hp34.mono hleD
                        replace hpP := hpP.mono hleD
                        replace hle0 := hle0.trans hleD
                        replace hle1 := hle1.trans hleD
                        refine withP_cons rfl rfl ?_
                        rintro _ rfl
                        refine withP_nil rfl ?_
                        refine XO.gtr rfl rfl rfl ?_
                        refine XO.nil ?_
                        exact stepQN_ok rfl trivial (rfl)
                      refine stepsH_cons rfl ?_ ?_
                      · intro X ext HD hleD _
                        replace hq := hq.mono hleD
                        replace hp := hp.mono hleD
                        replace hp34 := hp34.mono hleD
                        replace hpP := hpP.mono hleD
                        replace hle0 := hle0.trans hleD
                        replace hle1 := hle1.trans hleD
                        refine withP_cons rfl rfl ?_
                        rintro _ rfl
                        refine withP_nil rfl ?_
                        refine XO.move rfl rfl ?_
                        refine XO.nil ?_
                        exact stepQN_ok rfl trivial (rfl)
                      refine stepsH_cons rfl ?_ ?_
                      · intro X ext HD hleD _
                        replace hq := hq.mono hleD
                        replace hp := hp.mono hleD
                        replace hp34 := hp34.mono hleD
                        replace hpP := hpP.mono hleD
                        replace hle0 := hle0.trans hleD
                        replace hle1 := hle1.trans hleD
                        refine withP_cons rfl rfl ?_
                        rintro _ rfl
                        refine withP_nil rfl ?_
                        refine XO.guardT rfl rfl (decide_eq_true hK0) rfl ?_
                        refine XO.indexArr rfl rfl Try.underlying55 ty_3 (by first | decide | omega) (by first | decide | omega) rfl ?_
                        refine XO.nil ?_
                        exact stepQN_ok rfl trivial (rfl)
                      refine stepsH_cons rfl ?_ ?_
                      · intro X ext HD hleD _
                        replace hq := hq.mono hleD
                        replace hp := hp.mono hleD
                        replace hp34 := hp34.mono hleD
                        replace hpP := hpP.mono hleD
                        replace hle0 := hle0.trans hleD
                        replace hle1 := hle1.trans hleD
                        refine withP_cons rfl rfl ?_
                        rintro _ rfl
                        refine withP_cons rfl rfl ?_
                        rintro _ rfl
                        refine withP_nil rfl ?_
                        refine XO.guardT rfl rfl (decide_eq_true hK0) rfl ?_
                        refine XO.loadO 0 rfl rfl ty_3 rfl rfl rfl ?_
                        refine XO.nil ?_
                        exact stepQN_ok rfl trivial (rfl)
                      refine stepsH_cons rfl ?_ ?_
                      · intro X ext HD hleD _
                        replace hq := hq.mono hleD
                        replace hp := hp.mono hleD
                        replace hp34 := hp34.mono hleD
                        replace hpP := hpP.mono hleD
                        replace hle0 := hle0.trans hleD
                        replace hle1 := hle1.trans hleD
                        refine withP_cons rfl rfl ?_
                        rintro _ rfl
                        refine withP_nil rfl ?_
                        refine XO.guardT rfl rfl (decide_eq_true hK0) rfl ?_
                        refine XO.fieldAddr rfl fa_25_1 rfl ?_
                        refine XO.nil ?_
                        exact stepQN_ok rfl trivial (rfl)
                      refine stepsH_cons rfl ?_ ?_
                      · intro X ext HD hleD _
                        replace hq := hq.mono hleD
                        replace hp := hp.mono hleD
                        replace hp34 := hp34.mono hleD
                        replace hpP := hpP.mono hleD
                        replace hle0 := hle0.trans hleD
                        replace hle1 := hle1.trans hleD
                        refine withP_cons rfl rfl ?_
                        rintro _ rfl
                        refine withP_cons rfl rfl ?_
                        rintro _ rfl
                        refine withP_nil rfl ?_
                        refine XO.guardT rfl rfl (decide_eq_true hK0) rfl ?_
                        refine XO.loadO 1 rfl rfl ty_23 rfl rfl rfl ?_
                        refine XO.nil ?_
                        exact stepQN_ok rfl trivial (rfl)
                      refine stepsH_cons rfl ?_ ?_
                      · intro X ext HD hleD _
                        replace hq := hq.mono hleD
                        replace hp := hp.mono hleD
                        replace hp34 := hp34.mono hleD
                        replace hpP := hpP.mono hleD
                        replace hle0 := hle0.trans hleD
                        replace hle1 := hle1.trans hleD
                        refine withP_cons rfl rfl ?_
                        rintro _ rfl
                        refine withP_nil rfl ?_
                        refine XO.guardT rfl rfl (decide_eq_true hK0) rfl ?_
                        refine XO.move rfl rfl ?_
                        refine XO.nil ?_
                        exact stepQN_ok rfl trivial (rfl)
                      refine stepsH_cons rfl ?_ ?_
                      · intro X ext HD hleD _
                        replace hq := hq.mono hleD
                        replace hp := hp.mono hleD
                        replace hp34 := hp34.mono hleD
                        replace hpP := hpP.mono hleD
                        replace hle0 := hle0.trans hleD
                        replace hle1 := hle1.trans hleD
                        refine withP_cons rfl rfl ?_
                        rintro _ rfl
                        refine withP_cons rfl rfl ?_
                        rintro _ rfl
                        refine withP_nil rfl ?_
                        refine XO.guardT rfl rfl (decide_eq_true hK0) rfl ?_
                        refine XO.sub rfl rfl (wrap_i64 (by omega) (by omega)) rfl ?_
                        refine XO.nil ?_
                        exact stepQN_ok rfl trivial (rfl)
                      refine stepsH_cons rfl ?_ ?_
                      · intro X ext HD hleD _
                        replace hq := hq.mono hleD
                        replace hp := hp.mono hleD
                        replace hp34 := hp34.mono hleD
                        replace hpP := hpP.mono hleD
                        replace hle0 := hle0.trans hleD
                        replace hle1 := hle1.trans hleD
                        refine withP_cons rfl rfl ?_
                        rintro _ rfl
                        refine withP_cons rfl rfl ?_
                        rintro _ rfl
                        refine withP_cons rfl rfl ?_
                        rintro _ rfl
                        refine withP_nil rfl ?_
                        refine XO.guardT rfl rfl (decide_eq_true hK0) rfl ?_
                        refine XO.indexE rfl rfl Try.underlying23 ty_55 (by omega) (by omega) rfl ?_
                        refine XO.nil ?_
                        exact stepQN_ok rfl trivial (rfl)
                      refine stepsH_cons rfl ?_ ?_
                      · intro X ext HD hleD _
                        replace hq := hq.mono hleD
                        replace hp := hp.mono hleD
                        replace hp34 := hp34.mono hleD
                        replace hpP := hpP.mono hleD
                        replace hle0 := hle0.trans hleD
                        replace hle1 := hle1.trans hleD
                        refine withP_cons rfl rfl ?_
                        rintro _ rfl
                        refine withP_cons rfl rfl ?_
                        rintro _ rfl
                        refine withP_nil rfl ?_
                        refine XO.guardT rfl rfl (decide_eq_true hK0) rfl ?_
                        refine XO.indexArr rfl rfl Try.underlying55 ty_3 (by first | decide | omega) (by first | decide | omega) rfl ?_
                        refine XO.nil ?_
                        exact stepQN_ok rfl trivial (rfl)
                      refine stepsH_cons rfl ?_ ?_
                      · intro X ext HD hleD _
                        replace hq := hq.mono hleD
                        replace hp := hp.mono hleD
                        replace hp34 := hp34.mono hleD
                        replace hpP := hpP.mono hleD
                        replace hle0 := hle0.trans hleD
                        replace hle1 := hle1.trans hleD
                        refine withP_cons rfl rfl ?_
                        rintro _ rfl
                        refine withP_cons rfl rfl ?_
                        rintro _ rfl
                        refine withP_nil rfl ?_
                        refine XO.guardT rfl rfl (decide_eq_true hK0) rfl ?_
                        refine XO.loadHF rfl (by assumption) ty_3 rfl rfl rfl ?_
                        refine XO.nil ?_
                        exact stepQN_ok rfl trivial (rfl)
                      refine stepsH_cons rfl ?_ ?_
                      · intro X ext HD hleD _
                        replace hq := hq.mono hleD
                        replace hp := hp.mono hleD
                        replace hp34 := hp34.mono hleD
                        replace hpP := hpP.mono hleD
                        replace hle0 := hle0.trans hleD
                        replace hle1 := hle1.trans hleD
                        refine withP_cons rfl rfl ?_
                        rintro _ rfl
                        refine withP_cons rfl rfl ?_
                        rintro _ rfl
                        refine withP_cons rfl rfl ?_
                        rintro _ rfl
                        refine withP_nil rfl ?_
                        refine XO.guardT rfl rfl (decide_eq_true hK0) rfl ?_
                        refine XO.lss rfl rfl rfl ?_
                        refine XO.nil ?_
                        exact stepQN_ok rfl trivial (rfl)
                      refine stepsH_cons rfl ?_ ?_
                      · intro X ext HD hleD _
                        replace hq := hq.mono hleD
                        replace hp := hp.mono hleD
                        replace hp34 := hp34.mono hleD
                        replace hpP := hpP.mono hleD
                        replace hle0 := hle0.trans hleD
                        replace hle1 := hle1.trans hleD
                        refine withP_cons rfl rfl ?_
                        rintro _ rfl
                        refine withP_cons rfl rfl ?_
                        rintro _ rfl
                        refine withP_nil rfl ?_
                        refine XO.guardT rfl rfl (decide_eq_true hK0) rfl ?_
                        refine XO.move rfl rfl ?_
                        refine XO.nil ?_
                        exact stepQN_ok rfl trivial (rfl)
                      refine stepsH_cons rfl ?_ ?_
                      · intro X ext HD hleD _
                        replace hq := hq.mono hleD
                        replace hp := hp.mono hleD
                        replace hp34 := hp34.mono hleD
                        replace hpP := hpP.mono hleD
                        replace hle0 := hle0.trans hleD
                        replace hle1 := hle1.trans hleD
                        refine withP_cons rfl rfl ?_
                        rintro _ rfl
                        refine withP_nil rfl ?_
                        refine XO.guardT rfl rfl (decide_eq_false hLT) rfl ?_
                        refine XO.indexArr rfl rfl Try.underlying55 ty_3 (by first | decide | omega) (by first | decide | omega) rfl ?_
                        refine XO.nil ?_
                        exact stepQN_ok rfl trivial (rfl)
                      refine stepsH_cons rfl ?_ ?_
                      · intro X ext HD hleD _
                        replace hq := hq.mono hleD
                        replace hp := hp.mono hleD
                        replace hp34 := hp34.mono hleD
                        replace hpP := hpP.mono hleD
                        replace hle0 := hle0.trans hleD
                        replace hle1 := hle1.trans hleD
                        refine withP_cons rfl rfl ?_
                        rintro _ rfl
                        refine withP_cons rfl rfl ?_
                        rintro _ rfl
                        refine withP_nil rfl ?_
                        refine XO.guardT rfl rfl (decide_eq_false hLT) rfl ?_
                        refine XO.loadO 0 rfl rfl ty_3 rfl rfl rfl ?_
                        refine XO.nil ?_
                        exact stepQN_ok rfl trivial (rfl)
                      refine stepsH_cons rfl ?_ ?_
                      · intro X ext HD hleD _
                        replace hq := hq.mono hleD
                        replace hp := hp.mono hleD
                        replace hp34 := hp34.mono hleD
                        replace hpP := hpP.mono hleD
                        replace hle0 := hle0.trans hleD
                        replace hle1 := hle1.trans hleD
                        refine withP_cons rfl rfl ?_
                        rintro _ rfl
                        refine withP_nil rfl ?_
                        refine XO.guardT rfl rfl (decide_eq_false hLT) rfl ?_
                        refine XO.fieldAddr rfl fa_25_1 rfl ?_
                        refine XO.nil ?_
                        exact stepQN_ok rfl trivial (rfl)
                      refine stepsH_cons rfl ?_ ?_
                      · intro X ext HD hleD _
                        replace hq := hq.mono hleD
                        replace hp := hp.mono hleD
                        replace hp34 := hp34.mono hleD
                        replace hpP := hpP.mono hleD
                        replace hle0 := hle0.trans hleD
                        replace hle1 := hle1.trans hleD
                        refine withP_cons rfl rfl ?_
                        rintro _ rfl
                        refine withP_cons rfl rfl ?_
                        rintro _ rfl
                        refine withP_nil rfl ?_
                        refine XO.guardT rfl rfl (decide_eq_false hLT) rfl ?_
                        refine XO.loadO 1 rfl rfl ty_23 rfl rfl rfl ?_
                        refine XO.nil ?_
                        exact stepQN_ok rfl trivial (rfl)
                      refine stepsH_cons rfl ?_ ?_
                      · intro X ext HD hleD _
                        replace hq := hq.mono hleD
                        replace hp := hp.mono hleD
                        replace hp34 := hp34.mono hleD
                        replace hpP := hpP.mono hleD
                        replace hle0 := hle0.trans hleD
                        replace hle1 := hle1.trans hleD
                        refine withP_cons rfl rfl ?_
                        rintro _ rfl
                        refine withP_nil rfl ?_
                        refine XO.guardT rfl rfl (decide_eq_false hLT) rfl ?_
                        refine XO.move rfl rfl ?_
                        refine XO.nil ?_
                        exact stepQN_ok rfl trivial (rfl)
                      refine stepsH_cons rfl ?_ ?_
                      · intro X ext HD hleD _
                        replace hq := hq.mono hleD
                        replace hp := hp.mono hleD
                        replace hp34 := hp34.mono hleD
                        replace hpP := hpP.mono hleD
                        replace hle0 := hle0.trans hleD
                        replace hle1 := hle1.trans hleD
                        refine withP_cons rfl rfl ?_
                        rintro _ rfl
                        refine withP_cons rfl rfl ?_
                        rintro _ rfl
                        refine withP_nil rfl ?_
                        refine XO.guardT rfl rfl (decide_eq_false hLT) rfl ?_
                        refine XO.sub rfl rfl (wrap_i64 (by omega) (by omega)) rfl ?_
                        refine XO.nil ?_
                        exact stepQN_ok rfl trivial (rfl)
                      refine stepsH_cons rfl ?_ ?_
                      · intro X ext HD hleD _
                        replace hq := hq.mono hleD
                        replace hp := hp.mono hleD
                        replace hp34 := hp34.mono hleD
                        replace hpP := hpP.mono hleD
                        replace hle0 := hle0.trans hleD
                        replace hle1 := hle1.trans hleD
                        refine withP_cons rfl rfl ?_
                        rintro _ rfl
                        refine withP_cons rfl rfl ?_
                        rintro _ rfl
                        refine withP_cons rfl rfl ?_
                        rintro _ rfl
                        refine withP_nil rfl ?_
                        refine XO.guardT rfl rfl (decide_eq_false hLT) rfl ?_
                        refine XO.indexE rfl rfl Try.underlying23 ty_55 (by omega) (by omega) rfl ?_
                        refine XO.nil ?_
                        exact stepQN_ok rfl trivial (rfl)
                      refine stepsH_cons rfl ?_ ?_
                      · intro X ext HD hleD _
                        replace hq := hq.mono hleD
                        replace hp := hp.mono hleD
                        replace hp34 := hp34.mono hleD
                        replace hpP := hpP.mono hleD
                        replace hle0 := hle0.trans hleD
                        replace hle1 := hle1.trans hleD
                        refine withP_cons rfl rfl ?_
                        rintro _ rfl
                        refine withP_cons rfl rfl ?_
                        rintro _ rfl
                        refine withP_nil rfl ?_
                        refine XO.guardT rfl rfl (decide_eq_false hLT) rfl ?_
                        refine XO.indexArr rfl rfl Try.underlying55 ty_3 (by first | decide | omega) (by first | decide | omega) rfl ?_
                        refine XO.nil ?_
                        exact stepQN_ok rfl trivial (rfl)
                      refine stepsH_cons rfl ?_ ?_
                      · intro X ext HD hleD _
                        replace hq := hq.mono hleD
                        replace hp := hp.mono hleD
                        replace hp34 := hp34.mono hleD
                        replace hpP := hpP.mono hleD
                        replace hle0 := hle0.trans hleD
                        replace hle1 := hle1.trans hleD
                        refine withP_cons rfl rfl ?_
                        rintro _ rfl
                        refine withP_cons rfl rfl ?_
                        rintro _ rfl
                        refine withP_nil rfl ?_
                        refine XO.guardT rfl rfl (decide_eq_false hLT) rfl ?_
                        refine XO.loadHF rfl (by assumption) ty_3 rfl rfl rfl ?_
                        refine XO.nil ?_
                        exact stepQN_ok rfl trivial (rfl)
                      refine stepsH_cons rfl ?_ ?_
                      · intro X ext HD hleD _
                        replace hq := hq.mono hleD
                        replace hp := hp.mono hleD
                        replace hp34 := hp34.mono hleD
                        replace hpP := hpP.mono hleD
                        replace hle0 := hle0.trans hleD
                        replace hle1 := hle1.trans hleD
                        refine withP_cons rfl rfl ?_
                        rintro _ rfl
                        refine withP_cons rfl rfl ?_
                        rintro _ rfl
                        refine withP_cons rfl rfl ?_
                        rintro _ rfl
                        refine withP_nil rfl ?_
                        refine XO.guardT rfl rfl (decide_eq_false hLT) rfl ?_
                        refine XO.eql rfl rfl rfl ?_
                        refine XO.nil ?_
                        exact stepQN_ok rfl trivial (rfl)
                      refine stepsH_cons rfl ?_ ?_
                      · intro X ext HD hleD _
                        replace hq := hq.mono hleD
                        replace hp := hp.mono hleD
                        replace hp34 := hp34.mono hleD
                        replace hpP := hpP.mono hleD
                        replace hle0 := hle0.trans hleD
                        replace hle1 := hle1.trans hleD
                        refine withP_cons rfl rfl ?_
                        rintro _ rfl
                        refine withP_cons rfl rfl ?_
                        rintro _ rfl
                        refine withP_nil rfl ?_
                        refine XO.guardT rfl rfl (decide_eq_false hLT) rfl ?_
                        refine XO.move rfl rfl ?_
                        refine XO.nil ?_
                        exact stepQN_ok rfl trivial (rfl)
                      refine stepsH_cons rfl ?_ ?_
                      · intro X ext HD hleD _
                        replace hq := hq.mono hleD
                        replace hp := hp.mono hleD
                        replace hp34 := hp34.mono hleD
                        replace hpP := hpP.mono hleD
                        replace hle0 := hle0.trans hleD
                        replace hle1 := hle1.trans hleD
                        refine withP_cons rfl rfl ?_
                        rintro _ rfl
                        refine withP_nil rfl ?_
                        refine XO.guardF rfl rfl (decide_eq_false hEQ) rfl rfl ?_
                        refine XO.nil ?_
                        exact stepQN_ok rfl trivial (rfl)
                      refine stepsH_cons rfl ?_ ?_
                      · intro X ext HD hleD _
                        replace hq := hq.mono hleD
                        replace hp := hp.mono hleD
                        replace hp34 := hp34.mono hleD
                        replace hpP := hpP.mono hleD
                        replace hle0 := hle0.trans hleD
                        replace hle1 := hle1.trans hleD
                        refine withP_cons rfl rfl ?_
                        rintro _ rfl
                        refine withP_cons rfl rfl ?_
                        rintro _ rfl
                        refine withP_nil rfl ?_
                        refine XO.guardF rfl rfl (decide_eq_false hEQ) rfl rfl ?_
                        refine XO.nil ?_
                        exact stepQN_ok rfl trivial (rfl)
                      refine stepsH_cons rfl ?_ ?_
                      · intro X ext HD hleD _
                        replace hq := hq.mono hleD
                        replace hp := hp.mono hleD
                        replace hp34 := hp34.mono hleD
                        replace hpP := hpP.mono hleD
                        replace hle0 := hle0.trans hleD
                        replace hle1 := hle1.trans hleD
                        refine withP_cons rfl rfl ?_
                        rintro _ rfl
                        refine withP_nil rfl ?_
                        refine XO.guardF rfl rfl (decide_eq_false hEQ) rfl rfl ?_
                        refine XO.nil ?_
                        exact stepQN_ok rfl trivial (rfl)
                      refine stepsH_cons rfl ?_ ?_
                      · intro X ext HD hleD _
                        replace hq := hq.mono hleD
                        replace hp := hp.mono hleD
                        replace hp34 := hp34.mono hleD
                        replace hpP := hpP.mono hleD
                        replace hle0 := hle0.trans hleD
                        replace hle1 := hle1.trans hleD
                        refine withP_cons rfl rfl ?_
                        rintro _ rfl
                        refine withP_cons rfl rfl ?_
                        rintro _ rfl
                        refine withP_nil rfl ?_
                        refine XO.guardF rfl rfl (decide_eq_false hEQ) rfl rfl ?_
                        refine XO.nil ?_
                        exact stepQN_ok rfl trivial (rfl)
                      refine stepsH_cons rfl ?_ ?_
                      · intro X ext HD hleD _
                        replace hq := hq.mono hleD
                        replace hp := hp.mono hleD
                        replace hp34 := hp34.mono hleD
                        replace hpP := hpP.mono hleD
                        replace hle0 := hle0.trans hleD
                        replace hle1 := hle1.trans hleD
                        refine withP_cons rfl rfl ?_
                        rintro _ rfl
                        refine withP_nil rfl ?_
                        refine XO.guardF rfl rfl (decide_eq_false hEQ) rfl rfl ?_
                        refine XO.nil ?_
                        exact stepQN_ok rfl trivial (rfl)
                      refine stepsH_cons rfl ?_ ?_
                      · intro X ext HD hleD _
                        replace hq := hq.mono hleD
                        replace hp := hp.mono hleD
                        replace hp34 := hp34.mono hleD
                        replace hpP := hpP.mono hleD
                        replace hle0 := hle0.trans hleD
                        replace hle1 := hle1.trans hleD
                        refine withP_cons rfl rfl ?_
                        rintro _ rfl
                        refine withP_cons rfl rfl ?_
                        rintro _ rfl
                        refine withP_nil rfl ?_
                        refine XO.guardF rfl rfl (decide_eq_false hEQ) rfl rfl ?_
                        refine XO.nil ?_
                        exact stepQN_ok rfl trivial (rfl)
                      refine stepsH_cons rfl ?_ ?_
                      · intro X ext HD hleD _
                        replace hq := hq.mono hleD
                        replace hp := hp.mono hleD
                        replace hp34 := hp34.mono hleD
                        replace hpP := hpP.mono hleD
                        replace hle0 := hle0.trans hleD
                        replace hle1 := hle1.trans hleD
                        refine withP_cons rfl rfl ?_
                        rintro _ rfl
                        refine withP_cons rfl rfl ?_
                        rintro _ rfl
                        refine withP_cons rfl rfl ?_
                        rintro _ rfl
                        refine withP_nil rfl ?_
                        refine XO.guardF rfl rfl (decide_eq_false hEQ) rfl rfl ?_
                        refine XO.nil ?_
                        exact stepQN_ok rfl trivial (rfl)
                      refine stepsH_cons rfl ?_ ?_
                      · intro X ext HD hleD _
                        replace hq := hq.mono hleD
                        replace hp := hp.mono hleD
                        replace hp34 := hp34.mono hleD
                        replace hpP := hpP.mono hleD
                        replace hle0 := hle0.trans hleD
                        replace hle1 := hle1.trans hleD
                        refine withP_cons rfl rfl ?_
                        rintro _ rfl
                        refine withP_cons rfl rfl ?_
                        rintro _ rfl
                        refine withP_nil rfl ?_
                        refine XO.guardF rfl rfl (decide_eq_false hEQ) rfl rfl ?_
                        refine XO.nil ?_
                        exact stepQN_ok rfl trivial (rfl)
                      refine stepsH_cons rfl ?_ ?_
                      · intro X ext HD hleD _
                        replace hq := hq.mono hleD
                        replace hp := hp.mono hleD
                        replace hp34 := hp34.mono hleD
                        replace hpP := hpP.mono hleD
                        replace hle0 := hle0.trans hleD
                        replace hle1 := hle1.trans hleD
                        refine withP_cons rfl rfl ?_
                        rintro _ rfl
                        refine withP_cons rfl rfl ?_
                        rintro _ rfl
                        refine withP_nil rfl ?_
                        refine XO.guardF rfl rfl (decide_eq_false hEQ) rfl rfl ?_
                        refine XO.nil ?_
                        exact stepQN_ok rfl trivial (rfl)
                      exact stepsH_end rfl
                    case tail20 =>
                      intro HD hleD _
                      replace hq := hq.mono hleD
                      replace hp := hp.mono hleD
                      replace hp34 := hp34.mono hleD
                      replace hpP := hpP.mono hleD
                      replace hle0 := hle0.trans hleD
                      replace hle1 := hle1.trans hleD
                      refine withP_cons rfl rfl ?_
                      rintro _ rfl
                      refine withP_cons rfl rfl ?_
                      rintro _ rfl
                      refine withP_cons rfl rfl ?_
                      rintro _ rfl
                      refine withP_cons rfl rfl ?_
                      rintro _ rfl
                      refine withP_cons rfl rfl ?_
                      rintro _ rfl
                      refine withP_cons rfl rfl ?_
                      rintro _ rfl
                      refine withP_cons rfl rfl ?_
                      rintro _ rfl
                      refine withP_cons rfl rfl ?_
                      rintro _ rfl
                      refine withP_cons rfl rfl ?_
                      rintro _ rfl
                      refine withP_cons rfl rfl ?_
                      rintro _ rfl
                      refine withP_cons rfl rfl ?_
                      rintro _ rfl
                      refine withP_cons rfl rfl ?_
                      rintro _ rfl
                      refine withP_cons rfl rfl ?_
                      rintro _ rfl
                      refine withP_cons rfl rfl ?_
                      rintro _ rfl
                      refine withP_cons rfl rfl ?_
                      rintro _ rfl
                      refine withP_cons rfl rfl ?_
                      rintro _ rfl
                      refine withP_cons rfl rfl ?_
                      rintro _ rfl
                      refine withP_cons rfl rfl ?_
                      rintro _ rfl
                      refine withP_cons rfl rfl ?_
                      rintro _ rfl
                      refine withP_cons rfl rfl ?_
                      rintro _ rfl
                      refine withP_cons rfl rfl ?_
                      rintro _ rfl
                      refine withP_cons rfl rfl ?_
                      rintro _ rfl
                      refine withP_cons rfl rfl ?_
                      rintro _ rfl
                      refine withP_cons rfl rfl ?_
                      rintro _ rfl
                      refine withP_cons rfl rfl ?_
                      rintro _ rfl
                      refine withP_cons rfl rfl ?_
                      rintro _ rfl
                      refine withP_cons rfl rfl ?_
                      rintro _ rfl
                      refine withP_cons rfl rfl ?_
                      rintro _ rfl
                      refine withP_cons rfl rfl ?_
                      rintro _ rfl
                      refine withP_cons rfl rfl ?_
                      rintro _ rfl
                      refine withP_cons rfl rfl ?_
                      rintro _ rfl
                      refine withP_cons rfl rfl ?_
                      rintro _ rfl
                      refine withP_cons rfl rfl ?_
                      rintro _ rfl
                      refine withP_cons rfl rfl ?_
                      rintro _ rfl
                      refine withP_nil rfl ?_
                      refine withEnts_nil ?_
                      refine XO.guardF rfl rfl (decide_eq_false hEQ) rfl rfl ?_
                      refine XO.guardT rfl rfl (decide_eq_false hLT) rfl ?_
                      refine XO.pickF rfl (decide_eq_false hEQ) rfl rfl ?_
                      refine XO.guardT rfl rfl (decide_eq_true hK0) rfl ?_
                      refine XO.pickF rfl (decide_eq_false hLT) rfl rfl ?_
                      refine XO.pickT rfl (decide_eq_true hK0) rfl rfl ?_
                      refine XO.nil ?_
                      refine XC.seq2 ?_
                      refine XC.condF rfl (rfl) ?_
                      refine XC.skip ?_
                      refine blockN ?_
                      refine XC.seq2 ?_
                      refine XC.region ?_
                      refine XO.move rfl rfl ?_
                      refine XO.add rfl rfl (wrap_i64 (by omega) (by omega)) rfl ?_
                      refine XO.assign rfl rfl ?_
                      refine XO.nil ?_
                      refine loop_next (k + 1) (by show n.ap.length - (k + 1) < n.ap.length - k; omega) (prov_cons (rfl) (prov_cons (rfl) prov_nil)) (⟨by show k + 1 ≤ n.ap.length; omega, rfl, by first | exact ap_snoc hap hx34 (by unfold linkOk; omega) (fun y hk hy => by obtain rfl := Option.some.inj (hxP.symm.trans hy); unfold lexLt; omega) | exact ap_snoc hap hx34 (by unfold linkOk; omega) (fun y hk hy => by omega)⟩) (by repeat (first | exact List.Sublist.refl _ | apply List.Sublist.cons_cons | apply List.Sublist.cons)) (hle1)
              · skip
                refine XC.keep [1, 4, 5] rfl ?_
                apply XC.drawH (fun _ => True) trivial [] (by decide) (fun _ _ _ _ => True) (fun _ _ _ _ _ _ h => h) 34 [eqF _, eqF _, eqF _, eqF _, eqF _, eqF _, eqF _, eqF _, eqF _, eqF _, eqF _, eqF _, eqF _, eqF _, eqF _, eqF _, eqF _, eqF _, eqF _, eqF _, eqF _, eqF _, eqF _, eqF _, eqF _, eqF _, eqF _, eqF _, eqF _, eqF _, eqF _, eqF _, eqF _, eqF _] follows (by kernel_rfl) ⟨eqF_mono _, eqF_mono _, eqF_mono _, eqF_mono _, eqF_mono _, eqF_mono _, eqF_mono _, eqF_mono _, eqF_mono _, eqF_mono _, eqF_mono _, eqF_mono _, eqF_mono _, eqF_mono _, eqF_mono _, eqF_mono _, eqF_mono _, eqF_mono _, eqF_mono _, eqF_mono _, eqF_mono _, eqF_mono _, eqF_mono _, eqF_mono _, eqF_mono _, eqF_mono _, eqF_mono _, eqF_mono _, eqF_mono _, eqF_mono _, eqF_mono _, eqF_mono _, eqF_mono _, eqF_mono _, trivial⟩ (by decide) ?steps23 ?tail23
                case steps23 =>
                  refine stepsH_cons rfl ?_ ?_
                  · intro X ext HD hleD _
                    replace hq := hq.mono hleD
                    replace hp := hp.mono hleD
                    replace hp34 := hp34.mono hleD
                    replace hpP := hpP.mono hleD
                    replace hle0 := hle0.trans hleD
                    replace hle1 := hle1.trans hleD
                    refine withP_nil rfl ?_
                    refine XO.move rfl rfl ?_
                    refine XO.nil ?_
                    exact stepQN_ok rfl trivial (rfl)
                  refine stepsH_cons rfl ?_ ?_
                  · intro X ext HD hleD _
                    replace hq := hq.mono hleD
                    replace hp := hp.mono hleD
                    replace hp34 := hp34.mono hleD
                    replace hpP := hpP.mono hleD
                    replace hle0 := hle0.trans hleD
                    replace hle1 := hle1.trans hleD
                    refine withP_cons rfl rfl ?_
                    rintro _ rfl
                    refine withP_nil rfl ?_
                    refine XO.gtr rfl rfl rfl ?_
                    refine XO.nil ?_
                    exact stepQN_ok rfl trivial (rfl)
                  refine stepsH_cons rfl ?_ ?_
                  · intro X ext HD hleD _
                    replace hq := hq.mono hleD
                    replace hp := hp.mono hleD
                    replace hp34 := hp34.mono hleD
                    replace hpP := hpP.mono hleD
                    replace hle0 := hle0.trans hleD
                    replace hle1 := hle1.trans hleD
                    refine withP_cons rfl rfl ?_
                    rintro _ rfl
                    refine withP_nil rfl ?_
                    refine XO.move rfl rfl ?_
                    refine XO.nil ?_
                    exact stepQN_ok rfl trivial (rfl)
                  refine stepsH_cons rfl ?_ ?_
                  · intro X ext HD hleD _
                    replace hq := hq.mono hleD
                    replace hp := hp.mono hleD
                    replace hp34 := hp34.mono hleD
                    replace hpP := hpP.mono hleD
                    replace hle0 := hle0.trans hleD
                    replace hle1 := hle1.trans hleD
                    refine withP_cons rfl rfl ?_
                    rintro _ rfl
                    refine withP_nil rfl ?_
                    refine XO.guardF rfl rfl (decide_eq_false hK0) rfl rfl ?_
                    refine XO.nil ?_
                    exact stepQN_ok rfl trivial (rfl)
                  refine stepsH_cons rfl ?_ ?_
                  · intro X ext HD hleD _
                    replace hq := hq.mono hleD
                    replace hp := hp.mono hleD
                    replace hp34 := hp34.mono hleD
                    replace hpP := hpP.mono hleD
                    replace hle0 := hle0.trans hleD
                    replace hle1 := hle1.trans hleD
                    refine withP_cons rfl rfl ?_
                    rintro _ rfl
                    refine withP_cons rfl rfl ?_
                    rintro _ rfl
                    refine withP_nil rfl ?_
                    refine XO.guardF rfl rfl (decide_eq_false hK0) rfl rfl ?_
                    refine XO.nil ?_
                    exact stepQN_ok rfl trivial (rfl)
                  refine stepsH_cons rfl ?_ ?_
                  · intro X ext HD hleD _
                    replace hq := hq.mono hleD
                    replace hp := hp.mono hleD
                    replace hp34 := hp34.mono hleD
                    replace hpP := hpP.mono hleD
                    replace hle0 := hle0.trans hleD
                    replace hle1 := hle1.trans hleD
                    refine withP_cons rfl rfl ?_
                    rintro _ rfl
                    refine withP_nil rfl ?_
                    refine XO.guardF rfl rfl (decide_eq_false hK0) rfl rfl ?_
                    refine XO.nil ?_
                    exact stepQN_ok rfl trivial (rfl)
                  refine stepsH_cons rfl ?_ ?_
                  · intro X ext HD hleD _
                    replace hq := hq.mono hleD
                    replace hp := hp.mono hleD
                    replace hp34 := hp34.mono hleD
                    replace hpP := hpP.mono hleD
                    replace hle0 := hle0.trans hleD
                    replace hle1 := hle1.trans hleD
                    refine withP_cons rfl rfl ?_
                    rintro _ rfl
                    refine withP_cons rfl rfl ?_
                    rintro _ rfl
                    refine withP_nil rfl ?_
                    refine XO.guardF rfl rfl (decide_eq_false hK0) rfl rfl ?_
                    refine XO.nil ?_
                    exact stepQN_ok rfl trivial (rfl)
                  refine stepsH_cons rfl ?_ ?_
                  · intro X ext HD hleD _
                    replace hq := hq.mono hleD
                    replace hp := hp.mono hleD
                    replace hp34 := hp34.mono hleD
                    replace hpP := hpP.mono hleD
                    replace hle0 := hle0.trans hleD
                    replace hle1 := hle1.trans hleD
                    refine withP_cons rfl rfl ?_
                    rintro _ rfl
                    refine withP_nil rfl ?_
                    refine XO.guardF rfl rfl (decide_eq_false hK0) rfl rfl ?_
                    refine XO.nil ?_
                    exact stepQN_ok rfl trivial (rfl)
                  refine stepsH_cons rfl ?_ ?_
                  · intro X ext HD hleD _
                    replace hq := hq.mono hleD
                    replace hp := hp.mono hleD
                    replace hp34 := hp34.mono hleD
                    replace hpP := hpP.mono hleD
                    replace hle0 := hle0.trans hleD
                    replace hle1 := hle1.trans hleD
                    refine withP_cons rfl rfl ?_
                    rintro _ rfl
                    refine withP_cons rfl rfl ?_
                    rintro _ rfl
                    refine withP_nil rfl ?_
                    refine XO.guardF rfl rfl (decide_eq_false hK0) rfl rfl ?_
                    refine XO.nil ?_
                    exact stepQN_ok rfl trivial (rfl)
                  refine stepsH_cons rfl ?_ ?_
                  · intro X ext HD hleD _
                    replace hq := hq.mono hleD
                    replace hp := hp.mono hleD
                    replace hp34 := hp34.mono hleD
                    replace hpP := hpP.mono hleD
                    replace hle0 := hle0.trans hleD
                    replace hle1 := hle1.trans hleD
                    refine withP_cons rfl rfl ?_
                    rintro _ rfl
                    refine withP_cons rfl rfl ?_
                    rintro _ rfl
                    refine withP_cons rfl rfl ?_
                    rintro _ rfl
                    refine withP_nil rfl ?_
                    refine XO.guardF rfl rfl (decide_eq_false hK0) rfl rfl ?_
                    refine XO.nil ?_
                    exact stepQN_ok rfl trivial (rfl)
                  refine stepsH_cons rfl ?_ ?_
                  · intro X ext HD hleD _
                    replace hq := hq.mono hleD
                    replace hp := hp.mono hleD
                    replace hp34 := hp34.mono hleD
                    replace hpP := hpP.mono hleD
                    replace hle0 := hle0.trans hleD
                    replace hle1 := hle1.trans hleD
                    refine withP_cons rfl rfl ?_
                    rintro _ rfl
                    refine withP_cons rfl rfl ?_
                    rintro _ rfl
                    refine withP_nil rfl ?_
                    refine XO.guardF rfl rfl (decide_eq_false hK0) rfl rfl ?_
                    refine XO.nil ?_
                    exact stepQN_ok rfl trivial (rfl)
                  refine stepsH_cons rfl ?_ ?_
                  · intro X ext HD hleD _
                    replace hq := hq.mono hleD
                    replace hp := hp.mono hleD
                    replace hp34 := hp34.mono hleD
                    replace hpP := hpP.mono hleD
                    replace hle0 := hle0.trans hleD
                    replace hle1 := hle1.trans hleD
                    refine withP_cons rfl rfl ?_
                    rintro _ rfl
                    refine withP_cons rfl rfl ?_
                    rintro _ rfl
                    refine withP_nil rfl ?_
                    refine XO.guardF rfl rfl (decide_eq_false hK0) rfl rfl ?_
                    refine XO.nil ?_
                    exact stepQN_ok rfl trivial (rfl)
                  refine stepsH_cons rfl ?_ ?_
                  · intro X ext HD hleD _
                    replace hq := hq.mono hleD
                    replace hp := hp.mono hleD
                    replace hp34 := hp34.mono hleD
                    replace hpP := hpP.mono hleD
                    replace hle0 := hle0.trans hleD
                    replace hle1 := hle1.trans hleD
                    refine withP_cons rfl rfl ?_
                    rintro _ rfl
                    refine withP_cons rfl rfl ?_
                    rintro _ rfl
                    refine withP_cons rfl rfl ?_
                    rintro _ rfl
                    refine withP_nil rfl ?_
                    refine XO.guardF rfl rfl (decide_eq_false hK0) rfl rfl ?_
                    refine XO.nil ?_
                    exact stepQN_ok rfl trivial (rfl)
                  refine stepsH_cons rfl ?_ ?_
                  · intro X ext HD hleD _
                    replace hq := hq.mono hleD
                    replace hp := hp.mono hleD
                    replace hp34 := hp34.mono hleD
                    replace hpP := hpP.mono hleD
                    replace hle0 := hle0.trans hleD
                    replace hle1 := hle1.trans hleD
                    refine withP_cons rfl rfl ?_
                    rintro _ rfl
                    refine withP_cons rfl rfl ?_
                    rintro _ rfl
                    refine withP_nil rfl ?_
                    refine XO.guardF rfl rfl (decide_eq_false hK0) rfl rfl ?_
                    refine XO.nil ?_
                    exact stepQN_ok rfl trivial (rfl)
                  refine stepsH_cons rfl ?_ ?_
                  · intro X ext HD hleD _
                    replace hq := hq.mono hleD
                    replace hp := hp.mono hleD
                    replace hp34 := hp34.mono hleD
                    replace hpP := hpP.mono hleD
                    replace hle0 := hle0.trans hleD
                    replace hle1 := hle1.trans hleD
                    refine withP_cons rfl rfl ?_
                    rintro _ rfl
                    refine withP_nil rfl ?_
                    refine XO.guardU rfl rfl rfl rfl ?_
                    refine XO.nil ?_
                    exact stepQN_ok rfl trivial (rfl)
                  refine stepsH_cons rfl ?_ ?_
                  · intro X ext HD hleD _
                    replace hq := hq.mono hleD
                    replace hp := hp.mono hleD
                    replace hp34 := hp34.mono hleD
                    replace hpP := hpP.mono hleD
                    replace hle0 := hle0.trans hleD
                    replace hle1 := hle1.trans hleD
                    refine withP_cons rfl rfl ?_
                    rintro _ rfl
                    refine withP_cons rfl rfl ?_
                    rintro _ rfl
                    refine withP_nil rfl ?_
                    refine XO.guardU rfl rfl rfl rfl ?_
                    refine XO.nil ?_
                    exact stepQN_ok rfl trivial (rfl)
                  refine stepsH_cons rfl ?_ ?_
                  · intro X ext HD hleD _
                    replace hq := hq.mono hleD
                    replace hp := hp.mono hleD
                    replace hp34 := hp34.mono hleD
                    replace hpP := hpP.mono hleD
                    replace hle0 := hle0.trans hleD
                    replace hle1 := hle1.trans hleD
                    refine withP_cons rfl rfl ?_
                    rintro _ rfl
                    refine withP_nil rfl ?_
                    refine XO.guardU rfl rfl rfl rfl ?_
                    refine XO.nil ?_
                    exact stepQN_ok rfl trivial (rfl)
                  refine stepsH_cons rfl ?_ ?_
                  · intro X ext HD hleD _
                    replace hq := hq.mono hleD
                    replace hp := hp.mono hleD
                    replace hp34 := hp34.mono hleD
                    replace hpP := hpP.mono hleD
                    replace hle0 := hle0.trans hleD
                    replace hle1 := hle1.trans hleD
                    refine withP_cons rfl rfl ?_
                    rintro _ rfl
                    refine withP_cons rfl rfl ?_
                    rintro _ rfl
                    refine withP_nil rfl ?_
                    refine XO.guardU rfl rfl rfl rfl ?_
                    refine XO.nil ?_
                    exact stepQN_ok rfl trivial (rfl)
                  refine stepsH_cons rfl ?_ ?_
                  · intro X ext HD hleD _
                    replace hq := hq.mono hleD
                    replace hp := hp.mono hleD
                    replace hp34 := hp34.mono hleD
                    replace hpP := hpP.mono hleD
                    replace hle0 := hle0.trans hleD
                    replace hle1 := hle1.trans hleD
                    refine withP_cons rfl rfl ?_
                    rintro _ rfl
                    refine withP_nil rfl ?_
                    refine XO.guardU rfl rfl rfl rfl ?_
                    refine XO.nil ?_
                    exact stepQN_ok rfl trivial (rfl)
                  refine stepsH_cons rfl ?_ ?_
                  · intro X ext HD hleD _
                    replace hq := hq.mono hleD
                    replace hp := hp.mono hleD
                    replace hp34 := hp34.mono hleD
                    replace hpP := hpP.mono hleD
                    replace hle0 := hle0.trans hleD
                    replace hle1 := hle1.trans hleD
                    refine withP_cons rfl rfl ?_
                    rintro _ rfl
                    refine withP_cons rfl rfl ?_
                    rintro _ rfl
                    refine withP_nil rfl ?_
                    refine XO.guardU rfl rfl rfl rfl ?_
                    refine XO.nil ?_
                    exact stepQN_ok rfl trivial (rfl)
                  refine stepsH_cons rfl ?_ ?_
                  · intro X ext HD hleD _
                    replace hq := hq.mono hleD
                    replace hp := hp.mono hleD
                    replace hp34 := hp34.mono hleD
                    replace hpP := hpP.mono hleD
                    replace hle0 := hle0.trans hleD
                    replace hle1 := hle1.trans hleD
                    refine withP_cons rfl rfl ?_
                    rintro _ rfl
                    refine withP_cons rfl rfl ?_
                    rintro _ rfl
                    refine withP_cons rfl rfl ?_
                    rintro _ rfl
                    refine withP_nil rfl ?_
                    refine XO.guardU rfl rfl rfl rfl ?_
                    refine XO.nil ?_
                    exact stepQN_ok rfl trivial (rfl)
                  refine stepsH_cons rfl ?_ ?_
                  · intro X ext HD hleD _
                    replace hq := hq.mono hleD
                    replace hp := hp.mono hleD
                    replace hp34 := hp34.mono hleD
                    replace hpP := hpP.mono hleD
                    replace hle0 := hle0.trans hleD
                    replace hle1 := hle1.trans hleD
                    refine withP_cons rfl rfl ?_
                    rintro _ rfl
                    refine withP_cons rfl rfl ?_
                    rintro _ rfl
                    refine withP_nil rfl ?_
                    refine XO.guardU rfl rfl rfl rfl ?_
                    refine XO.nil ?_
                    exact stepQN_ok rfl trivial (rfl)
                  refine stepsH_cons rfl ?_ ?_
                  · intro X ext HD hleD _
                    replace hq := hq.mono hleD
                    replace hp := hp.mono hleD
                    replace hp34 := hp34.mono hleD
                    replace hpP := hpP.mono hleD
                    replace hle0 := hle0.trans hleD
                    replace hle1 := hle1.trans hleD
                    refine withP_cons rfl rfl ?_
                    rintro _ rfl
                    refine withP_cons rfl rfl ?_
                    rintro _ rfl
                    refine withP_nil rfl ?_
                    refine XO.guardU rfl rfl rfl rfl ?_
                    refine XO.nil ?_
                    exact stepQN_ok rfl trivial (rfl)
                  refine stepsH_cons rfl ?_ ?_
                  · intro X ext HD hleD _
                    replace hq := hq.mono hleD
                    replace hp := hp.mono hleD
                    replace hp34 := hp34.mono hleD
                    replace hpP := hpP.mono hleD
                    replace hle0 := hle0.trans hleD
                    replace hle1 := hle1.trans hleD
                    refine withP_cons rfl rfl ?_
                    rintro _ rfl
                    refine withP_cons rfl rfl ?_
                    rintro _ rfl
                    refine withP_cons rfl rfl ?_
                    rintro _ rfl
                    refine withP_nil rfl ?_
                    refine XO.guardU rfl rfl rfl rfl ?_
                    refine XO.nil ?_
                    exact stepQN_ok rfl trivial (rfl)
                  refine stepsH_cons rfl ?_ ?_
                  · intro X ext HD hleD _
                    replace hq := hq.mono hleD
                    replace hp := hp.mono hleD
                    replace hp34 := hp34.mono hleD
                    replace hpP := hpP.mono hleD
                    replace hle0 := hle0.trans hleD
                    replace hle1 := hle1.trans hleD
                    refine withP_cons rfl rfl ?_
                    rintro _ rfl
                    refine withP_cons rfl rfl ?_
                    rintro _ rfl
                    refine withP_nil rfl ?_
                    refine XO.guardU rfl rfl rfl rfl ?_
                    refine XO.nil ?_
                    exact stepQN_ok rfl trivial (rfl)
                  refine stepsH_cons rfl ?_ ?_
                  · intro X ext HD hleD _
                    replace hq := hq.mono hleD
                    replace hp := hp.mono hleD
                    replace hp34 := hp34.mono hleD
                    replace hpP := hpP.mono hleD
                    replace hle0 := hle0.trans hleD
                    replace hle1 := hle1.trans hleD
                    refine withP_cons rfl rfl ?_
                    rintro _ rfl
                    refine withP_nil rfl ?_
                    refine XO.guardU rfl rfl rfl rfl ?_
                    refine XO.nil ?_
                    exact stepQN_ok rfl trivial (rfl)
                  refine stepsH_cons rfl ?_ ?_
                  · intro X ext HD hleD _
                    replace hq := hq.mono hleD
                    replace hp := hp.mono hleD
                    replace hp34 := hp34.mono hleD
                    replace hpP := hpP.mono hleD
                    replace hle0 := hle0.trans hleD
                    replace hle1 := hle1.trans hleD
                    refine withP_cons rfl rfl ?_
                    rintro _ rfl
                    refine withP_cons rfl rfl ?_
                    rintro _ rfl
                    refine withP_nil rfl ?_
                    refine XO.guardU rfl rfl rfl rfl ?_
                    refine XO.nil ?_
                    exact stepQN_ok rfl trivial (rfl)
                  refine stepsH_cons rfl ?_ ?_
                  · intro X ext HD hleD _
                    replace hq := hq.mono hleD
                    replace hp := hp.mono hleD
                    replace hp34 := hp34.mono hleD
                    replace hpP := hpP.mono hleD
                    replace hle0 := hle0.trans hleD
                    replace hle1 := hle1.trans hleD
                    refine withP_cons rfl rfl ?_
                    rintro _ rfl
                    refine withP_nil rfl ?_
                    refine XO.guardU rfl rfl rfl rfl ?_
                    refine XO.nil ?_
                    exact stepQN_ok rfl trivial (rfl)
                  refine stepsH_cons rfl ?_ ?_
                  · intro X ext HD hleD _
                    replace hq := hq.mono hleD
                    replace hp := hp.mono hleD
                    replace hp34 := hp34.mono hleD
                    replace hpP := hpP.mono hleD
                    replace hle0 := hle0.trans hleD
                    replace hle1 := hle1.trans hleD
                    refine withP_cons rfl rfl ?_
                    rintro _ rfl
                    refine withP_cons rfl rfl ?_
                    rintro _ rfl
                    refine withP_nil rfl ?_
                    refine XO.guardU rfl rfl rfl rfl ?_
                    refine XO.nil ?_
                    exact stepQN_ok rfl trivial (rfl)
                  refine stepsH_cons rfl ?_ ?_
                  · intro X ext HD hleD _
                    replace hq := hq.mono hleD
                    replace hp := hp.mono hleD
                    replace hp34 := hp34.mono hleD
                    replace hpP := hpP.mono hleD
                    replace hle0 := hle0.trans hleD
                    replace hle1 := hle1.trans hleD
                    refine withP_cons rfl rfl ?_
                    rintro _ rfl
                    refine withP_nil rfl ?_
                    refine XO.guardU rfl rfl rfl rfl ?_
                    refine XO.nil ?_
                    exact stepQN_ok rfl trivial (rfl)
                  refine stepsH_cons rfl ?_ ?_
                  · intro X ext HD hleD _
                    replace hq := hq.mono hleD
                    replace hp := hp.mono hleD
                    replace hp34 := hp34.mono hleD
                    replace hpP := hpP.mono hleD
                    replace hle0 := hle0.trans hleD
                    replace hle1 := hle1.trans hleD
                    refine withP_cons rfl rfl ?_
                    rintro _ rfl
                    refine withP_cons rfl rfl ?_
                    rintro _ rfl
                    refine withP_nil rfl ?_
                    refine XO.guardU rfl rfl rfl rfl ?_
                    refine XO.nil ?_
                    exact stepQN_ok rfl trivial (rfl)
                  refine stepsH_cons rfl ?_ ?_
                  · intro X ext HD hleD _
                    replace hq := hq.mono hleD
                    replace hp := hp.mono hleD
                    replace hp34 := hp34.mono hleD
                    replace hpP := hpP.mono hleD
                    replace hle0 := hle0.trans hleD
                    replace hle1 := hle1.trans hleD
                    refine withP_cons rfl rfl ?_
                    rintro _ rfl
                    refine withP_cons rfl rfl ?_
                    rintro _ rfl
                    refine withP_cons rfl rfl ?_
                    rintro _ rfl
                    refine withP_nil rfl ?_
                    refine XO.guardU rfl rfl rfl rfl ?_
                    refine XO.nil ?_
                    exact stepQN_ok rfl trivial (rfl)
                  refine stepsH_cons rfl ?_ ?_
                  · intro X ext HD hleD _
                    replace hq := hq.mono hleD
                    replace hp := hp.mono hleD
                    replace hp34 := hp34.mono hleD
                    replace hpP := hpP.mono hleD
                    replace hle0 := hle0.trans hleD
                    replace hle1 := hle1.trans hleD
                    refine withP_cons rfl rfl ?_
                    rintro _ rfl
                    refine withP_cons rfl rfl ?_
                    rintro _ rfl
                    refine withP_nil rfl ?_
                    refine XO.guardU rfl rfl rfl rfl ?_
                    refine XO.nil ?_
                    exact stepQN_ok rfl trivial (rfl)
                  refine stepsH_cons rfl ?_ ?_
                  · intro X ext HD hleD _
                    replace hq := hq.mono hleD
                    replace hp := hp.mono hleD
                    replace hp34 := hp34.mono hleD
                    replace hpP := hpP.mono hleD
                    replace hle0 := hle0.trans hleD
                    replace hle1 := hle1.trans hleD
                    refine withP_cons rfl rfl ?_
                    rintro _ rfl
                    refine withP_cons rfl rfl ?_
                    rintro _ rfl
                    refine withP_nil rfl ?_
                    refine XO.guardU rfl rfl rfl rfl ?_
                    refine XO.nil ?_
                    exact stepQN_ok rfl trivial (rfl)
                  exact stepsH_end rfl
                case tail23 =>
                  intro HD hleD _
                  replace hq := hq.mono hleD
                  replace hp := hp.mono hleD
                  replace hp34 := hp34.mono hleD
                  replace hpP := hpP.mono hleD
                  replace hle0 := hle0.trans hleD
                  replace hle1 := hle1.trans hleD
                  refine withP_cons rfl rfl ?_
                  rintro _ rfl
                  refine withP_cons rfl rfl ?_
                  rintro _ rfl
                  refine withP_cons rfl rfl ?_
                  rintro _ rfl
                  refine withP_cons rfl rfl ?_
                  rintro _ rfl
                  refine withP_cons rfl rfl ?_
                  rintro _ rfl
                  refine withP_cons rfl rfl ?_
                  rintro _ rfl
                  refine withP_cons rfl rfl ?_
                  rintro _ rfl
                  refine withP_cons rfl rfl ?_
                  rintro _ rfl
                  refine withP_cons rfl rfl ?_
                  rintro _ rfl
                  refine withP_cons rfl rfl ?_
                  rintro _ rfl
                  refine withP_cons rfl rfl ?_
                  rintro _ rfl
                  refine withP_cons rfl rfl ?_
                  rintro _ rfl
                  refine withP_cons rfl rfl ?_
                  rintro _ rfl
                  refine withP_cons rfl rfl ?_
                  rintro _ rfl
                  refine withP_cons rfl rfl ?_
                  rintro _ rfl
                  refine withP_cons rfl rfl ?_
                  rintro _ rfl
                  refine withP_cons rfl rfl ?_
                  rintro _ rfl
                  refine withP_cons rfl rfl ?_
                  rintro _ rfl
                  refine withP_cons rfl rfl ?_
                  rintro _ rfl
                  refine withP_cons rfl rfl ?_
                  rintro _ rfl
                  refine withP_cons rfl rfl ?_
                  rintro _ rfl
                  refine withP_cons rfl rfl ?_
                  rintro _ rfl
                  refine withP_cons rfl rfl ?_
                  rintro _ rfl
                  refine withP_cons rfl rfl ?_
                  rintro _ rfl
                  refine withP_cons rfl rfl ?_
                  rintro _ rfl
                  refine withP_cons rfl rfl ?_
                  rintro _ rfl
                  refine withP_cons rfl rfl ?_
                  rintro _ rfl
                  refine withP_cons rfl rfl ?_
                  rintro _ rfl
                  refine withP_cons rfl rfl ?_
                  rintro _ rfl
                  refine withP_cons rfl rfl ?_
                  rintro _ rfl
                  refine withP_cons rfl rfl ?_
                  rintro _ rfl
                  refine withP_cons rfl rfl ?_
                  rintro _ rfl
                  refine withP_cons rfl rfl ?_
                  rintro _ rfl
                  refine withP_cons rfl rfl ?_
                  rintro _ rfl
                  refine withP_nil rfl ?_
                  refine withEnts_nil ?_
                  refine XO.guardU rfl rfl rfl rfl ?_
                  refine XO.guardU rfl rfl rfl rfl ?_
                  refine XO.guardF rfl rfl (decide_eq_false hK0) rfl rfl ?_
                  refine XO.pickF rfl (decide_eq_false hK0) rfl rfl ?_
                  refine XO.nil ?_
                  refine XC.seq2 ?_
                  refine XC.condF rfl (rfl) ?_
                  refine XC.skip ?_
                  refine blockN ?_
                  refine XC.seq2 ?_
                  refine XC.region ?_
                  refine XO.move rfl rfl ?_
                  refine XO.add rfl rfl (wrap_i64 (by omega) (by omega)) rfl ?_
                  refine XO.assign rfl rfl ?_
                  refine XO.nil ?_
                  refine loop_next (k + 1) (by show n.ap.length - (k + 1) < n.ap.length - k; omega) (prov_cons (rfl) (prov_cons (rfl) prov_nil)) (⟨by show k + 1 ≤ n.ap.length; omega, rfl, by first | exact ap_snoc hap hx34 (by unfold linkOk; omega) (fun y hk hy => by obtain rfl := Option.some.inj (hxP.symm.trans hy); unfold lexLt; omega) | exact ap_snoc hap hx34 (by unfold linkOk; omega) (fun y hk hy => by omega)⟩) (by repeat (first | exact List.Sublist.refl _ | apply List.Sublist.cons_cons | apply List.Sublist.cons)) (hle1)
          · have g11p := of_decide_eq_true g11
            refine XO.guardF rfl rfl (g11) rfl rfl ?_
            refine XO.guardF rfl rfl (g11) rfl rfl ?_
            refine XO.guardF rfl rfl (g11) rfl rfl ?_
            refine XO.guardF rfl rfl (g11) rfl rfl ?_
            refine XO.pickT rfl (g11) rfl rfl ?_
            refine XO.nil ?_
            refine XC.seq2 ?_
            refine XC.condT rfl (rfl) ?_
            refine XC.seq ?_
            refine XC.region ?_
            refine XO.assign rfl rfl ?_
            refine XO.nil ?_
            refine XC.seq2 ?_
            refine XC.ret ?_
            refine seqX_ret ?_
            refine blockR ?_
            refine seqX_ret ?_
            refine loopX_ret ?_
            refine blockR ?_
            refine seqX_ret ?_
            refine ⟨rfl, _, [], rfl, (by repeat (first | exact List.Sublist.refl _ | apply List.Sublist.cons)), RetR.mk ?_⟩
            first | exact congrArg (Value.int .i64) (chk_ok ⟨by omega, hpk, hap⟩).symm | exact congrArg (Value.int .i64) (chk_bad (fun h => by first | exact ap_bad2 hx34 (by omega) hxP (by unfold lexLt; omega) h.2.2 | exact ap_bad1 hx34 (by unfold linkOk; omega) h.2.2 | (have := h.1; omega) | exact absurd (h.2.1 x20 (List.mem_of_getElem? hx20)) (by assumption))).symm
        · have g9p := of_decide_eq_true g9
          refine XO.guardF rfl rfl (g9) rfl rfl ?_
          refine XO.guardF rfl rfl (g9) rfl rfl ?_
          refine XO.guardF rfl rfl (g9) rfl rfl ?_
          refine XO.pickT rfl (g9) rfl rfl ?_
          refine XO.move rfl rfl ?_
          refine XO.guardF rfl rfl (rfl) rfl rfl ?_
          refine XO.guardF rfl rfl (rfl) rfl rfl ?_
          refine XO.guardF rfl rfl (rfl) rfl rfl ?_
          refine XO.guardF rfl rfl (rfl) rfl rfl ?_
          refine XO.guardF rfl rfl (rfl) rfl rfl ?_
          refine XO.pickT rfl (rfl) rfl rfl ?_
          refine XO.nil ?_
          refine XC.seq2 ?_
          refine XC.condT rfl (rfl) ?_
          refine XC.seq ?_
          refine XC.region ?_
          refine XO.assign rfl rfl ?_
          refine XO.nil ?_
          refine XC.seq2 ?_
          refine XC.ret ?_
          refine seqX_ret ?_
          refine blockR ?_
          refine seqX_ret ?_
          refine loopX_ret ?_
          refine blockR ?_
          refine seqX_ret ?_
          refine ⟨rfl, _, [], rfl, (by repeat (first | exact List.Sublist.refl _ | apply List.Sublist.cons)), RetR.mk ?_⟩
          first | exact congrArg (Value.int .i64) (chk_ok ⟨by omega, hpk, hap⟩).symm | exact congrArg (Value.int .i64) (chk_bad (fun h => by first | exact ap_bad2 hx34 (by omega) hxP (by unfold lexLt; omega) h.2.2 | exact ap_bad1 hx34 (by unfold linkOk; omega) h.2.2 | (have := h.1; omega) | exact absurd (h.2.1 x20 (List.mem_of_getElem? hx20)) (by assumption))).symm
      · obtain rfl : k = n.ap.length := by omega
        rw [List.take_length] at hap
        refine XC.exit ?_
        refine seqX_exit ?_
        refine loopX_exit ?_
        refine blockHit rfl ?_
        refine XC.seq2 ?_
        refine XC.seq ?_
        refine XC.region ?_
        refine XO.assign rfl rfl ?_
        refine XO.nil ?_
        refine XC.seq2 ?_
        refine XC.ret ?_
        refine ⟨rfl, _, [], rfl, (by repeat (first | exact List.Sublist.refl _ | apply List.Sublist.cons)), RetR.mk ?_⟩
        first | exact congrArg (Value.int .i64) (chk_ok ⟨by omega, hpk, hap⟩).symm | exact congrArg (Value.int .i64) (chk_bad (fun h => by first | exact ap_bad2 hx34 (by omega) hxP (by unfold lexLt; omega) h.2.2 | exact ap_bad1 hx34 (by unfold linkOk; omega) h.2.2 | (have := h.1; omega) | exact absurd (h.2.1 x20 (List.mem_of_getElem? hx20)) (by assumption))).symm

theorem few_fn (aq ap : Option Addr) (cq cp : Nat) (n : Nt) (H : Hp) : FnC Try.prog 10 #[.agg ⟨[.slice aq n.q.length cq, .slice ap n.ap.length cp]⟩] H [] (RetR fun v _ _ => v = .bool (decide (n.q.length ≤ 40 ∧ n.ap.length ≤ 40))) := by
  refine FnC.intro (args := [.agg ⟨[.slice aq n.q.length cq, .slice ap n.ap.length cp]⟩]) Try.func10 rfl rfl Try.ntmps10 rfl rfl rfl fun G rest => ?_
  refine XC.seq ?_
  refine XC.region ?_
  refine XO.box rfl rfl rfl (fun b1 => ?_)
  refine XO.assign rfl rfl ?_
  refine XO.nil ?_
  refine XC.seq2 ?_
  refine XC.seq ?_
  refine XC.region ?_
  refine XO.fieldAddr rfl fa_25_0 rfl ?_
  refine XO.loadO 0 rfl rfl ty_22 rfl rfl rfl ?_
  refine XO.lenS (ts := #[]) rfl Try.underlying22 rfl ?_
  refine XO.leq rfl rfl rfl ?_
  refine XO.move rfl rfl ?_
  refine XO.guardC rfl rfl rfl rfl (fun g1 => ?_) (fun g1 => ?_)
  · have g1p := of_decide_eq_true g1
    refine XO.fieldAddr rfl fa_25_1 rfl ?_
    refine XO.guardT rfl rfl (g1) rfl ?_
    refine XO.loadO 0 rfl rfl ty_23 rfl rfl rfl ?_
    refine XO.guardT rfl rfl (g1) rfl ?_
    refine XO.lenS (ts := #[]) rfl Try.underlying23 rfl ?_
    refine XO.guardT rfl rfl (g1) rfl ?_
    refine XO.leq rfl rfl rfl ?_
    refine XO.pickT rfl (g1) rfl rfl ?_
    refine XO.assign rfl rfl ?_
    refine XO.nil ?_
    refine XC.seq2 ?_
    refine XC.ret ?_
    refine ⟨rfl, _, [], rfl, (by repeat (first | exact List.Sublist.refl _ | apply List.Sublist.cons)), RetR.mk ?_⟩
    exact congrArg Value.bool (by first | (rw [decide_eq_decide]; omega) | (exact (decide_eq_false (by omega)).symm))
  · have g1p := of_decide_eq_false g1
    refine XO.guardF rfl rfl (g1) rfl rfl ?_
    refine XO.guardF rfl rfl (g1) rfl rfl ?_
    refine XO.guardF rfl rfl (g1) rfl rfl ?_
    refine XO.pickF rfl (g1) rfl rfl ?_
    refine XO.assign rfl rfl ?_
    refine XO.nil ?_
    refine XC.seq2 ?_
    refine XC.ret ?_
    refine ⟨rfl, _, [], rfl, (by repeat (first | exact List.Sublist.refl _ | apply List.Sublist.cons)), RetR.mk ?_⟩
    exact congrArg Value.bool (by first | (rw [decide_eq_decide]; omega) | (exact (decide_eq_false (by omega)).symm))

theorem samep_fn (p p2 : Pk) (ad ae : Option Addr) (cd ce : Nat) (H : Hp) (hd : SlR u8R H ad cd p.Data) (he : SlR u8R H ae ce p2.Data) : FnC Try.prog 19 #[.agg ⟨[.int .i64 p.From, .int .i64 p.To, .slice ad p.Data.length cd]⟩, .agg ⟨[.int .i64 p2.From, .int .i64 p2.To, .slice ae p2.Data.length ce]⟩] H [] (RetR fun v _ _ => v = .bool (decide (p = p2))) := by
  refine FnC.intro (args := [.agg ⟨[.int .i64 p.From, .int .i64 p.To, .slice ad p.Data.length cd]⟩, .agg ⟨[.int .i64 p2.From, .int .i64 p2.To, .slice ae p2.Data.length ce]⟩]) Try.func19 rfl rfl Try.ntmps19 rfl rfl rfl fun G rest => ?_
  refine XC.seq ?_
  refine XC.region ?_
  refine XO.box rfl rfl rfl (fun b2 => ?_)
  refine XO.box rfl rfl rfl (fun b3 => ?_)
  refine XO.assign rfl rfl ?_
  refine XO.nil ?_
  refine XC.seq2 ?_
  refine XC.seq ?_
  refine XC.region ?_
  refine XO.fieldAddr rfl fa_28_0 rfl ?_
  refine XO.loadO 1 rfl rfl ty_3 rfl rfl rfl ?_
  refine XO.fieldAddr rfl fa_28_0 rfl ?_
  refine XO.loadO 0 rfl rfl ty_3 rfl rfl rfl ?_
  refine XO.eql rfl rfl rfl ?_
  refine XO.move rfl rfl ?_
  refine XO.guardC rfl rfl rfl rfl (fun g1 => ?_) (fun g1 => ?_)
  · have g1p := of_decide_eq_true g1
    refine XO.fieldAddr rfl fa_28_1 rfl ?_
    refine XO.guardT rfl rfl (g1) rfl ?_
    refine XO.loadO 1 rfl rfl ty_3 rfl rfl rfl ?_
    refine XO.guardT rfl rfl (g1) rfl ?_
    refine XO.fieldAddr rfl fa_28_1 rfl ?_
    refine XO.guardT rfl rfl (g1) rfl ?_
    refine XO.loadO 0 rfl rfl ty_3 rfl rfl rfl ?_
    refine XO.guardT rfl rfl (g1) rfl ?_
    refine XO.eql rfl rfl rfl ?_
    refine XO.pickT rfl (g1) rfl rfl ?_
    refine XO.move rfl rfl ?_
    refine XO.guardC rfl rfl rfl rfl (fun g2 => ?_) (fun g2 => ?_)
    · have g2p := of_decide_eq_true g2
      refine XO.fieldAddr rfl fa_28_2 rfl ?_
      refine XO.guardT rfl rfl (g2) rfl ?_
      refine XO.loadO 1 rfl rfl ty_26 rfl rfl rfl ?_
      refine XO.guardT rfl rfl (g2) rfl ?_
      refine XO.b2s rfl (by assumption) Try.underlying26 Try.underlying5 Try.underlying9 rfl ?_
      refine XO.guardT rfl rfl (g2) rfl ?_
      refine XO.fieldAddr rfl fa_28_2 rfl ?_
      refine XO.guardT rfl rfl (g2) rfl ?_
      refine XO.loadO 0 rfl rfl ty_26 rfl rfl rfl ?_
      refine XO.guardT rfl rfl (g2) rfl ?_
      refine XO.b2s rfl (by assumption) Try.underlying26 Try.underlying5 Try.underlying9 rfl ?_
      refine XO.guardT rfl rfl (g2) rfl ?_
      refine XO.eqlS rfl rfl rfl ?_
      refine XO.pickT rfl (g2) rfl rfl ?_
      refine XO.assign rfl rfl ?_
      refine XO.nil ?_
      refine XC.seq2 ?_
      refine XC.ret ?_
      refine ⟨rfl, _, [], rfl, (by repeat (first | exact List.Sublist.refl _ | apply List.Sublist.cons)), RetR.mk ?_⟩
      exact congrArg Value.bool (by first | (rw [decide_eq_decide]; cases p; cases p2; simp_all) | (exact (decide_eq_false (by rintro rfl; simp_all)).symm))
    · have g2p := of_decide_eq_false g2
      refine XO.guardF rfl rfl (g2) rfl rfl ?_
      refine XO.guardF rfl rfl (g2) rfl rfl ?_
      refine XO.guardF rfl rfl (g2) rfl rfl ?_
      refine XO.guardF rfl rfl (g2) rfl rfl ?_
      refine XO.guardF rfl rfl (g2) rfl rfl ?_
      refine XO.guardF rfl rfl (g2) rfl rfl ?_
      refine XO.pickF rfl (g2) rfl rfl ?_
      refine XO.assign rfl rfl ?_
      refine XO.nil ?_
      refine XC.seq2 ?_
      refine XC.ret ?_
      refine ⟨rfl, _, [], rfl, (by repeat (first | exact List.Sublist.refl _ | apply List.Sublist.cons)), RetR.mk ?_⟩
      exact congrArg Value.bool (by first | (rw [decide_eq_decide]; cases p; cases p2; simp_all) | (exact (decide_eq_false (by rintro rfl; simp_all)).symm))
  · have g1p := of_decide_eq_false g1
    refine XO.guardF rfl rfl (g1) rfl rfl ?_
    refine XO.guardF rfl rfl (g1) rfl rfl ?_
    refine XO.guardF rfl rfl (g1) rfl rfl ?_
    refine XO.guardF rfl rfl (g1) rfl rfl ?_
    refine XO.pickF rfl (g1) rfl rfl ?_
    refine XO.move rfl rfl ?_
    refine XO.guardF rfl rfl (rfl) rfl rfl ?_
    refine XO.guardF rfl rfl (rfl) rfl rfl ?_
    refine XO.guardF rfl rfl (rfl) rfl rfl ?_
    refine XO.guardF rfl rfl (rfl) rfl rfl ?_
    refine XO.guardF rfl rfl (rfl) rfl rfl ?_
    refine XO.guardF rfl rfl (rfl) rfl rfl ?_
    refine XO.guardF rfl rfl (rfl) rfl rfl ?_
    refine XO.pickF rfl (rfl) rfl rfl ?_
    refine XO.assign rfl rfl ?_
    refine XO.nil ?_
    refine XC.seq2 ?_
    refine XC.ret ?_
    refine ⟨rfl, _, [], rfl, (by repeat (first | exact List.Sublist.refl _ | apply List.Sublist.cons)), RetR.mk ?_⟩
    exact congrArg Value.bool (by first | (rw [decide_eq_decide]; cases p; cases p2; simp_all) | (exact (decide_eq_false (by rintro rfl; simp_all)).symm))

theorem same_fn (aq ap ar as_ : Option Addr) (cq cp cr cs_ : Nat) (n n2 : Nt) (H : Hp) (hq : SlR pkR H aq cq n.q) (hp : SlR pairR H ap cp n.ap) (hlq : n.q.length < 4611686018427387904) (hlp : n.ap.length < 4611686018427387904) (hr : SlR pkR H ar cr n2.q) (hs : SlR pairR H as_ cs_ n2.ap) : FnC Try.prog 15 #[.agg ⟨[.slice aq n.q.length cq, .slice ap n.ap.length cp]⟩, .agg ⟨[.slice ar n2.q.length cr, .slice as_ n2.ap.length cs_]⟩] H [] (RetR fun v _ _ => v = .bool (decide (n = n2))) := by
  refine FnC.intro (args := [.agg ⟨[.slice aq n.q.length cq, .slice ap n.ap.length cp]⟩, .agg ⟨[.slice ar n2.q.length cr, .slice as_ n2.ap.length cs_]⟩]) Try.func15 rfl rfl Try.ntmps15 rfl rfl rfl fun G rest => ?_
  refine XC.seq ?_
  refine XC.region ?_
  refine XO.box rfl rfl rfl (fun b2 => ?_)
  refine XO.box rfl rfl rfl (fun b3 => ?_)
  refine XO.assign rfl rfl ?_
  refine XO.nil ?_
  refine XC.seq2 ?_
  refine XC.seq ?_
  refine XC.seq ?_
  refine XC.region ?_
  refine XO.fieldAddr rfl fa_25_0 rfl ?_
  refine XO.loadO 1 rfl rfl ty_22 rfl rfl rfl ?_
  refine XO.lenS (ts := #[]) rfl Try.underlying22 rfl ?_
  refine XO.fieldAddr rfl fa_25_0 rfl ?_
  refine XO.loadO 0 rfl rfl ty_22 rfl rfl rfl ?_
  refine XO.lenS (ts := #[]) rfl Try.underlying22 rfl ?_
  refine XO.neq rfl rfl rfl ?_
  refine XO.move rfl rfl ?_
  refine XO.guardC rfl rfl rfl rfl (fun g1 => ?_) (fun g1 => ?_)
  · have g1p := of_decide_eq_false g1
    refine XO.fieldAddr rfl fa_25_1 rfl ?_
    refine XO.guardT rfl rfl (g1) rfl ?_
    refine XO.loadO 1 rfl rfl ty_23 rfl rfl rfl ?_
    refine XO.guardT rfl rfl (g1) rfl ?_
    refine XO.lenS (ts := #[]) rfl Try.underlying23 rfl ?_
    refine XO.guardT rfl rfl (g1) rfl ?_
    refine XO.fieldAddr rfl fa_25_1 rfl ?_
    refine XO.guardT rfl rfl (g1) rfl ?_
    refine XO.loadO 0 rfl rfl ty_23 rfl rfl rfl ?_
    refine XO.guardT rfl rfl (g1) rfl ?_
    refine XO.lenS (ts := #[]) rfl Try.underlying23 rfl ?_
    refine XO.guardT rfl rfl (g1) rfl ?_
    refine XO.neq rfl rfl rfl ?_
    refine XO.pickF rfl (g1) rfl rfl ?_
    refine XO.nil ?_
    refine XC.seq2 ?_
    refine XC.cond rfl (fun c0_2 => ?_) (fun c0_2 => ?_)
    · refine XC.seq ?_
      refine XC.region ?_
      refine XO.assign rfl rfl ?_
      refine XO.nil ?_
      refine XC.seq2 ?_
      refine XC.ret ?_
      refine seqX_ret ?_
      refine ⟨rfl, _, [], rfl, (by repeat (first | exact List.Sublist.refl _ | apply List.Sublist.cons)), RetR.mk ?_⟩
      first | exact congrArg Value.bool (decide_eq_true (by cases n; cases n2; simp_all)).symm | exact congrArg Value.bool (decide_eq_false (by rintro rfl; first | omega | (rw [hx1] at hx2; simp_all; done) | (rw [hx3] at hx4; simp_all; done))).symm
    · have hl1 : n.q.length = n2.q.length := by omega
      have hl2 : n.ap.length = n2.ap.length := by omega
      refine XC.skip ?_
      refine XC.seq2 ?_
      refine XC.seq ?_
      refine XC.seq ?_
      refine XC.region ?_
      refine XO.assign rfl rfl ?_
      refine XO.nil ?_
      refine XC.seq2 ?_
      refine XC.block ?_
      refine XC.keep [5, 2, 3] rfl ?_
      refine XC.loop (base := [(2, _), (3, _)]) (fun ζ : Nat => [(5, .int .i64 (ζ : Nat))]) (fun ζ Hl own => ζ ≤ n.q.length ∧ (b3, .cells 25 [.slice ar n2.q.length cr, .slice as_ n2.ap.length cs_]) :: (b2, .cells 25 [.slice aq n.q.length cq, .slice ap n.ap.length cp]) :: rest = own ∧ (n.q.take ζ = n2.q.take ζ)) (fun ζ => n.q.length - ζ) 0 (prov_cons (rfl) (prov_cons (rfl) (prov_cons (rfl) prov_nil))) (by repeat (first | exact List.Sublist.refl _ | apply List.Sublist.cons_cons | apply List.Sublist.cons)) ⟨Nat.zero_le _, rfl, rfl⟩ ?_
      rintro k Hl0 _ hle0 ⟨hkk, rfl, he⟩
      replace hq := hq.mono hle0
      replace hp := hp.mono hle0
      replace hr := hr.mono hle0
      replace hs := hs.mono hle0
      try dsimp only at ⊢
      refine XC.seq ?_
      refine XC.seq ?_
      refine XC.region ?_
      refine XO.move rfl rfl ?_
      refine XO.fieldAddr rfl fa_25_0 rfl ?_
      refine XO.loadO 1 rfl rfl ty_22 rfl rfl rfl ?_
      refine XO.lenS (ts := #[]) rfl Try.underlying22 rfl ?_
      refine XO.lss rfl rfl rfl ?_
      refine XO.nil ?_
      refine XC.seq2 ?_
      refine XC.cond rfl (fun c1_3 => ?_) (fun c1_3 => ?_)
      · refine XC.skip ?_
        refine XC.seq2 ?_
        refine XC.seq ?_
        refine XC.block ?_
        refine XC.seq ?_
        refine XC.keep [2, 3, 5] rfl ?_
        obtain ⟨bE1, oE1, rfl⟩ := hq.addr (by omega)
        obtain ⟨_, x1, hx1, ⟨ax1, cx1, rfl, hd1⟩, hp1⟩ := hq.elem (k) (by omega)
        obtain ⟨bE2, oE2, rfl⟩ := hr.addr (by omega)
        obtain ⟨_, x2, hx2, ⟨ax2, cx2, rfl, hd2⟩, hp2⟩ := hr.elem (k) (by omega)
        apply XC.draw 10 [eqF _, eqF _, eqF _, eqF _, eqF _, eqF _, eqF _, eqF _, eqF _, eqF _] follows (by kernel_rfl) (by kernel_rfl) ⟨eqF_mono _, eqF_mono _, eqF_mono _, eqF_mono _, eqF_mono _, eqF_mono _, eqF_mono _, eqF_mono _, eqF_mono _, eqF_mono _, trivial⟩ ?steps4 ?tail4
        case steps4 =>
          refine stepsK_cons rfl ?_ ?_
          · intro X
            refine withPreds_nil rfl ?_
            refine XO.fieldAddr rfl fa_25_0 rfl ?_
            refine XO.nil ?_
            exact stepQ_ok rfl (rfl)
          refine stepsK_cons rfl ?_ ?_
          · intro X
            refine withPreds_cons rfl rfl ?_
            rintro _ rfl
            refine withPreds_nil rfl ?_
            refine XO.loadO 1 rfl rfl ty_22 rfl rfl rfl ?_
            refine XO.nil ?_
            exact stepQ_ok rfl (rfl)
          refine stepsK_cons rfl ?_ ?_
          · intro X
            refine withPreds_nil rfl ?_
            refine XO.move rfl rfl ?_
            refine XO.nil ?_
            exact stepQ_ok rfl (rfl)
          refine stepsK_cons rfl ?_ ?_
          · intro X
            refine withPreds_cons rfl rfl ?_
            rintro _ rfl
            refine withPreds_cons rfl rfl ?_
            rintro _ rfl
            refine withPreds_nil rfl ?_
            refine XO.indexE rfl rfl Try.underlying22 ty_28 (by omega) (by omega) rfl ?_
            refine XO.nil ?_
            exact stepQ_ok rfl (rfl)
          refine stepsK_cons rfl ?_ ?_
          · intro X
            refine withPreds_cons rfl rfl ?_
            rintro _ rfl
            refine withPreds_nil rfl ?_
            refine XO.loadH rfl (by assumption) ty_28 rfl rfl rfl ?_
            refine XO.nil ?_
            exact stepQ_ok rfl (rfl)
          refine stepsK_cons rfl ?_ ?_
          · intro X
            refine withPreds_nil rfl ?_
            refine XO.fieldAddr rfl fa_25_0 rfl ?_
            refine XO.nil ?_
            exact stepQ_ok rfl (rfl)
          refine stepsK_cons rfl ?_ ?_
          · intro X
            refine withPreds_cons rfl rfl ?_
            rintro _ rfl
            refine withPreds_nil rfl ?_
            refine XO.loadO 0 rfl rfl ty_22 rfl rfl rfl ?_
            refine XO.nil ?_
            exact stepQ_ok rfl (rfl)
          refine stepsK_cons rfl ?_ ?_
          · intro X
            refine withPreds_nil rfl ?_
            refine XO.move rfl rfl ?_
            refine XO.nil ?_
            exact stepQ_ok rfl (rfl)
          refine stepsK_cons rfl ?_ ?_
          · intro X
            refine withPreds_cons rfl rfl ?_
            rintro _ rfl
            refine withPreds_cons rfl rfl ?_
            rintro _ rfl
            refine withPreds_nil rfl ?_
            refine XO.indexE rfl rfl Try.underlying22 ty_28 (by omega) (by omega) rfl ?_
            refine XO.nil ?_
            exact stepQ_ok rfl (rfl)
          refine stepsK_cons rfl ?_ ?_
          · intro X
            refine withPreds_cons rfl rfl ?_
            rintro _ rfl
            refine withPreds_nil rfl ?_
            refine XO.loadH rfl (by assumption) ty_28 rfl rfl rfl ?_
            refine XO.nil ?_
            exact stepQ_ok rfl (rfl)
          exact stepsD_end rfl
        case tail4 =>
          refine withPreds_cons rfl rfl ?_
          rintro _ rfl
          refine withPreds_cons rfl rfl ?_
          rintro _ rfl
          refine withPreds_cons rfl rfl ?_
          rintro _ rfl
          refine withPreds_cons rfl rfl ?_
          rintro _ rfl
          refine withPreds_cons rfl rfl ?_
          rintro _ rfl
          refine withPreds_cons rfl rfl ?_
          rintro _ rfl
          refine withPreds_cons rfl rfl ?_
          rintro _ rfl
          refine withPreds_cons rfl rfl ?_
          rintro _ rfl
          refine withPreds_cons rfl rfl ?_
          rintro _ rfl
          refine withPreds_cons rfl rfl ?_
          rintro _ rfl
          refine withPreds_nil rfl ?_
          refine XO.callV rfl (samep_fn _ _ _ _ _ _ _ (by assumption) (by assumption)) rfl ?_
          refine XO.not rfl rfl ?_
          refine XO.nil ?_
          refine XC.seq2 ?_
          refine XC.cond rfl (fun c2_8 => ?_) (fun c2_8 => ?_)
          · refine XC.seq ?_
            refine XC.region ?_
            refine XO.assign rfl rfl ?_
            refine XO.nil ?_
            refine XC.seq2 ?_
            refine XC.ret ?_
            refine blockR ?_
            refine seqX_ret ?_
            refine loopX_ret ?_
            refine blockR ?_
            refine seqX_ret ?_
            refine ⟨rfl, _, [], rfl, (by repeat (first | exact List.Sublist.refl _ | apply List.Sublist.cons)), RetR.mk ?_⟩
            first | exact congrArg Value.bool (decide_eq_true (by cases n; cases n2; simp_all)).symm | exact congrArg Value.bool (decide_eq_false (by rintro rfl; first | omega | (rw [hx1] at hx2; simp_all; done) | (rw [hx3] at hx4; simp_all; done))).symm
          · refine XC.skip ?_
            refine blockN ?_
            refine XC.seq2 ?_
            refine XC.region ?_
            refine XO.move rfl rfl ?_
            refine XO.add rfl rfl (wrap_i64 (by omega) (by omega)) rfl ?_
            refine XO.assign rfl rfl ?_
            refine XO.nil ?_
            refine loop_next (k + 1) (by show n.q.length - (k + 1) < n.q.length - k; omega) (prov_cons (rfl) (prov_cons (rfl) (prov_cons (rfl) prov_nil))) (⟨by show k + 1 ≤ n.q.length; omega, rfl, by rw [take_snoc hx1, take_snoc hx2, he]; simp only [List.append_cancel_left_eq, List.cons.injEq, and_true]; exact Decidable.not_not.1 (by assumption)⟩) (by repeat (first | exact List.Sublist.refl _ | apply List.Sublist.cons_cons | apply List.Sublist.cons)) (hle0)
      · obtain rfl : k = n.q.length := by omega
        rw [List.take_length, hl1, List.take_length] at he
        refine XC.exit ?_
        refine seqX_exit ?_
        refine loopX_exit ?_
        refine blockHit rfl ?_
        refine XC.seq2 ?_
        refine XC.seq ?_
        refine XC.seq ?_
        refine XC.region ?_
        refine XO.assign rfl rfl ?_
        refine XO.nil ?_
        refine XC.seq2 ?_
        refine XC.block ?_
        refine XC.keep [6, 2, 3] rfl ?_
        refine XC.loop (base := [(2, _), (3, _)]) (fun ζ : Nat => [(6, .int .i64 (ζ : Nat))]) (fun ζ Hl own => ζ ≤ n.ap.length ∧ (b3, .cells 25 [.slice ar n2.q.length cr, .slice as_ n2.ap.length cs_]) :: (b2, .cells 25 [.slice aq n.q.length cq, .slice ap n.ap.length cp]) :: rest = own ∧ (n.ap.take ζ = n2.ap.take ζ)) (fun ζ => n.ap.length - ζ) 0 (prov_cons (rfl) (prov_cons (rfl) (prov_cons (rfl) prov_nil))) (by repeat (first | exact List.Sublist.refl _ | apply List.Sublist.cons_cons | apply List.Sublist.cons)) ⟨Nat.zero_le _, rfl, rfl⟩ ?_
        rintro k Hl1 _ hle1 ⟨hkk, rfl, hf⟩
        replace hq := hq.mono hle1
        replace hp := hp.mono hle1
        replace hr := hr.mono hle1
        replace hs := hs.mono hle1
        replace hle0 := hle0.trans hle1
        try dsimp only at ⊢
        refine XC.seq ?_
        refine XC.seq ?_
        refine XC.region ?_
        refine XO.move rfl rfl ?_
        refine XO.fieldAddr rfl fa_25_1 rfl ?_
        refine XO.loadO 1 rfl rfl ty_23 rfl rfl rfl ?_
        refine XO.lenS (ts := #[]) rfl Try.underlying23 rfl ?_
        refine XO.lss rfl rfl rfl ?_
        refine XO.nil ?_
        refine XC.seq2 ?_
        refine XC.cond rfl (fun c3_9 => ?_) (fun c3_9 => ?_)
        · refine XC.skip ?_
          refine XC.seq2 ?_
          refine XC.seq ?_
          refine XC.block ?_
          refine XC.seq ?_
          refine XC.keep [2, 3, 6] rfl ?_
          obtain ⟨bE3, oE3, rfl⟩ := hp.addr (by omega)
          obtain ⟨_, x3, hx3, rfl, hp3⟩ := hp.elem (k) (by omega)
          obtain ⟨bE4, oE4, rfl⟩ := hs.addr (by omega)
          obtain ⟨_, x4, hx4, rfl, hp4⟩ := hs.elem (k) (by omega)
          apply XC.draw 10 [eqF _, eqF _, eqF _, eqF _, eqF _, eqF _, eqF _, eqF _, eqF _, eqF _] follows (by kernel_rfl) (by kernel_rfl) ⟨eqF_mono _, eqF_mono _, eqF_mono _, eqF_mono _, eqF_mono _, eqF_mono _, eqF_mono _, eqF_mono _, eqF_mono _, eqF_mono _, trivial⟩ ?steps10 ?tail10
          case steps10 =>
            refine stepsK_cons rfl ?_ ?_
            · intro X
              refine withPreds_nil rfl ?_
              refine XO.fieldAddr rfl fa_25_1 rfl ?_
              refine XO.nil ?_
              exact stepQ_ok rfl (rfl)
            refine stepsK_cons rfl ?_ ?_
            · intro X
              refine withPreds_cons rfl rfl ?_
              rintro _ rfl
              refine withPreds_nil rfl ?_
              refine XO.loadO 1 rfl rfl ty_23 rfl rfl rfl ?_
              refine XO.nil ?_
              exact stepQ_ok rfl (rfl)
            refine stepsK_cons rfl ?_ ?_
            · intro X
              refine withPreds_nil rfl ?_
              refine XO.move rfl rfl ?_
              refine XO.nil ?_
              exact stepQ_ok rfl (rfl)
            refine stepsK_cons rfl ?_ ?_
            · intro X
              refine withPreds_cons rfl rfl ?_
              rintro _ rfl
              refine withPreds_cons rfl rfl ?_
              rintro _ rfl
              refine withPreds_nil rfl ?_
              refine XO.indexE rfl rfl Try.underlying23 ty_55 (by omega) (by omega) rfl ?_
              refine XO.nil ?_
              exact stepQ_ok rfl (rfl)
            refine stepsK_cons rfl ?_ ?_
            · intro X
              refine withPreds_cons rfl rfl ?_
              rintro _ rfl
              refine withPreds_nil rfl ?_
              refine XO.loadH rfl (by assumption) ty_55 rfl rfl rfl ?_
              refine XO.nil ?_
              exact stepQ_ok rfl (rfl)
            refine stepsK_cons rfl ?_ ?_
            · intro X
              refine withPreds_nil rfl ?_
              refine XO.fieldAddr rfl fa_25_1 rfl ?_
              refine XO.nil ?_
              exact stepQ_ok rfl (rfl)
            refine stepsK_cons rfl ?_ ?_
            · intro X
              refine withPreds_cons rfl rfl ?_
              rintro _ rfl
              refine withPreds_nil rfl ?_
              refine XO.loadO 0 rfl rfl ty_23 rfl rfl rfl ?_
              refine XO.nil ?_
              exact stepQ_ok rfl (rfl)
            refine stepsK_cons rfl ?_ ?_
            · intro X
              refine withPreds_nil rfl ?_
              refine XO.move rfl rfl ?_
              refine XO.nil ?_
              exact stepQ_ok rfl (rfl)
            refine stepsK_cons rfl ?_ ?_
            · intro X
              refine withPreds_cons rfl rfl ?_
              rintro _ rfl
              refine withPreds_cons rfl rfl ?_
              rintro _ rfl
              refine withPreds_nil rfl ?_
              refine XO.indexE rfl rfl Try.underlying23 ty_55 (by omega) (by omega) rfl ?_
              refine XO.nil ?_
              exact stepQ_ok rfl (rfl)
            refine stepsK_cons rfl ?_ ?_
            · intro X
              refine withPreds_cons rfl rfl ?_
              rintro _ rfl
              refine withPreds_nil rfl ?_
              refine XO.loadH rfl (by assumption) ty_55 rfl rfl rfl ?_
              refine XO.nil ?_
              exact stepQ_ok rfl (rfl)
            exact stepsD_end rfl
          case tail10 =>
            refine withPreds_cons rfl rfl ?_
            rintro _ rfl
            refine withPreds_cons rfl rfl ?_
            rintro _ rfl
            refine withPreds_cons rfl rfl ?_
            rintro _ rfl
            refine withPreds_cons rfl rfl ?_
            rintro _ rfl
            refine withPreds_cons rfl rfl ?_
            rintro _ rfl
            refine withPreds_cons rfl rfl ?_
            rintro _ rfl
            refine withPreds_cons rfl rfl ?_
            rintro _ rfl
            refine withPreds_cons rfl rfl ?_
            rintro _ rfl
            refine withPreds_cons rfl rfl ?_
            rintro _ rfl
            refine withPreds_cons rfl rfl ?_
            rintro _ rfl
            refine withPreds_nil rfl ?_
            refine XO.neqA2 rfl rfl Try.underlying55 eg_55 Try.underlying3 ty_3 rfl ?_
            refine XO.nil ?_
            refine XC.seq2 ?_
            refine XC.cond rfl (fun c4_13 => ?_) (fun c4_13 => ?_)
            · refine XC.seq ?_
              refine XC.region ?_
              refine XO.assign rfl rfl ?_
              refine XO.nil ?_
              refine XC.seq2 ?_
              refine XC.ret ?_
              refine blockR ?_
              refine seqX_ret ?_
              refine loopX_ret ?_
              refine blockR ?_
              refine seqX_ret ?_
              refine ⟨rfl, _, [], rfl, (by repeat (first | exact List.Sublist.refl _ | apply List.Sublist.cons)), RetR.mk ?_⟩
              first | exact congrArg Value.bool (decide_eq_true (by cases n; cases n2; simp_all)).symm | exact congrArg Value.bool (decide_eq_false (by rintro rfl; first | omega | (rw [hx1] at hx2; simp_all; done) | (rw [hx3] at hx4; simp_all; done))).symm
            · refine XC.skip ?_
              refine blockN ?_
              refine XC.seq2 ?_
              refine XC.region ?_
              refine XO.move rfl rfl ?_
              refine XO.add rfl rfl (wrap_i64 (by omega) (by omega)) rfl ?_
              refine XO.assign rfl rfl ?_
              refine XO.nil ?_
              refine loop_next (k + 1) (by show n.ap.length - (k + 1) < n.ap.length - k; omega) (prov_cons (rfl) (prov_cons (rfl) (prov_cons (rfl) prov_nil))) (⟨by show k + 1 ≤ n.ap.length; omega, rfl, by rw [take_snoc hx3, take_snoc hx4, hf]; simp only [List.append_cancel_left_eq, List.cons.injEq, and_true]; exact Decidable.not_not.1 (by assumption)⟩) (by repeat (first | exact List.Sublist.refl _ | apply List.Sublist.cons_cons | apply List.Sublist.cons)) (hle1)
        · obtain rfl : k = n.ap.length := by omega
          rw [List.take_length, hl2, List.take_length] at hf
          refine XC.exit ?_
          refine seqX_exit ?_
          refine loopX_exit ?_
          refine blockHit rfl ?_
          refine XC.seq2 ?_
          refine XC.seq ?_
          refine XC.region ?_
          refine XO.assign rfl rfl ?_
          refine XO.nil ?_
          refine XC.seq2 ?_
          refine XC.ret ?_
          refine ⟨rfl, _, [], rfl, (by repeat (first | exact List.Sublist.refl _ | apply List.Sublist.cons)), RetR.mk ?_⟩
          first | exact congrArg Value.bool (decide_eq_true (by cases n; cases n2; simp_all)).symm | exact congrArg Value.bool (decide_eq_false (by rintro rfl; first | omega | (rw [hx1] at hx2; simp_all; done) | (rw [hx3] at hx4; simp_all; done))).symm
  · have g1p := of_decide_eq_true g1
    refine XO.guardF rfl rfl (g1) rfl rfl ?_
    refine XO.guardF rfl rfl (g1) rfl rfl ?_
    refine XO.guardF rfl rfl (g1) rfl rfl ?_
    refine XO.guardF rfl rfl (g1) rfl rfl ?_
    refine XO.guardF rfl rfl (g1) rfl rfl ?_
    refine XO.guardF rfl rfl (g1) rfl rfl ?_
    refine XO.pickT rfl (g1) rfl rfl ?_
    refine XO.nil ?_
    refine XC.seq2 ?_
    refine XC.condT rfl (rfl) ?_
    refine XC.seq ?_
    refine XC.region ?_
    refine XO.assign rfl rfl ?_
    refine XO.nil ?_
    refine XC.seq2 ?_
    refine XC.ret ?_
    refine seqX_ret ?_
    refine ⟨rfl, _, [], rfl, (by repeat (first | exact List.Sublist.refl _ | apply List.Sublist.cons)), RetR.mk ?_⟩
    first | exact congrArg Value.bool (decide_eq_true (by cases n; cases n2; simp_all)).symm | exact congrArg Value.bool (decide_eq_false (by rintro rfl; first | omega | (rw [hx1] at hx2; simp_all; done) | (rw [hx3] at hx4; simp_all; done))).symm

theorem new_fn (H : Hp) : FnC Try.prog 16 #[] H [] (RetR fun v _ _ => v = .agg ⟨[.slice none 0 0, .slice none 0 0]⟩) := by
  refine FnC.introC (args := []) Try.func16 rfl rfl Try.ntmps16 rfl rfl rfl fun G rest => ?_
  refine XC.seq ?_
  refine XC.region ?_
  refine XO.alloc ze_25 rfl (fun b0 => ?_)
  refine XO.nil ?_
  refine XC.seq2 ?_
  refine XC.seq ?_
  refine XC.region ?_
  refine XO.loadO 0 rfl rfl ty_25 rfl rfl rfl ?_
  refine XO.storeO 0 rfl rfl rfl rfl ty_25 rfl rfl rfl rfl rfl ?_
  refine XO.nil ?_
  refine XC.seq2 ?_
  refine XC.ret ?_
  refine ⟨rfl, _, [], (resC_cell 0 rfl rfl ty_25 rfl rfl resC_nil), (by repeat (first | exact List.Sublist.refl _ | apply List.Sublist.cons)), RetR.mk ?_⟩
  rfl

theorem rnew_fn (H : Hp) : FnC Try.prog 17 #[] H [] (RetR fun v _ _ => v = .agg ⟨[.slice none 0 0, .slice none 0 0]⟩) := by
  refine FnC.introC (args := []) Try.func17 rfl rfl Try.ntmps17 rfl rfl rfl fun G rest => ?_
  refine XC.seq ?_
  refine XC.region ?_
  refine XO.alloc ze_25 rfl (fun b0 => ?_)
  refine XO.nil ?_
  refine XC.seq2 ?_
  refine XC.seq ?_
  refine XC.region ?_
  refine XO.build bk_25 bf_25 ze_25 rfl rfl rfl ?_
  refine XO.storeO 0 rfl rfl rfl rfl ty_25 rfl rfl rfl rfl rfl ?_
  refine XO.nil ?_
  refine XC.seq2 ?_
  refine XC.ret ?_
  refine ⟨rfl, _, [], (resC_cell 0 rfl rfl ty_25 rfl rfl resC_nil), (by repeat (first | exact List.Sublist.refl _ | apply List.Sublist.cons)), RetR.mk ?_⟩
  rfl

theorem send_fn (aq ap : Option Addr) (cq cp : Nat) (n : Nt) (p : Pk) (ad : Option Addr) (cd : Nat) (H : Hp) (hq : SlR pkR H aq cq n.q) (hp : SlR pairR H ap cp n.ap) (hlq : n.q.length < 4611686018427387904) (hlp : n.ap.length < 4611686018427387904) (hd : SlR u8R H ad cd p.Data) : FnC Try.prog 11 #[.agg ⟨[.slice aq n.q.length cq, .slice ap n.ap.length cp]⟩, .agg ⟨[.int .i64 p.From, .int .i64 p.To, .slice ad p.Data.length cd]⟩] H [] (RetR fun v H _ => ∃ v1, v = .tuple #[v1, .int .i64 (sendV n p).2] ∧ NtV H v1 (sendV n p).1) := by
  refine FnC.introC (args := [.agg ⟨[.slice aq n.q.length cq, .slice ap n.ap.length cp]⟩, .agg ⟨[.int .i64 p.From, .int .i64 p.To, .slice ad p.Data.length cd]⟩]) Try.func11 rfl rfl Try.ntmps11 rfl rfl rfl fun G rest => ?_
  refine XC.seq ?_
  refine XC.region ?_
  refine XO.box rfl rfl rfl (fun b2 => ?_)
  refine XO.box rfl rfl rfl (fun b3 => ?_)
  refine XO.alloc ze_25 rfl (fun b4 => ?_)
  refine XO.assign rfl rfl ?_
  refine XO.nil ?_
  refine XC.seq2 ?_
  refine XC.seq ?_
  refine XC.seq ?_
  refine XC.region ?_
  refine XO.loadO 2 rfl rfl ty_25 rfl rfl rfl ?_
  refine XO.callV rfl (check_fn _ _ _ _ _ _ (by assumption) (by assumption) (by omega) (by omega)) rfl ?_
  refine XO.neq rfl rfl rfl ?_
  refine XO.move rfl rfl ?_
  refine XO.guardC rfl rfl rfl rfl (fun g2 => ?_) (fun g2 => ?_)
  · have g2p := of_decide_eq_false g2
    refine XO.loadO 1 rfl rfl ty_28 rfl rfl rfl ?_
    refine XO.guardT rfl rfl (g2) rfl ?_
    refine XO.callV rfl (packet_fn p _ _ _) rfl ?_
    refine XO.guardT rfl rfl (g2) rfl ?_
    refine XO.not rfl rfl ?_
    refine XO.pickF rfl (g2) rfl rfl ?_
    refine XO.nil ?_
    refine XC.seq2 ?_
    refine XC.cond rfl (fun c0_4 => ?_) (fun c0_4 => ?_)
    · refine XC.seq ?_
      refine XC.region ?_
      refine XO.loadO 0 rfl rfl ty_25 rfl rfl rfl ?_
      refine XO.storeO 0 rfl rfl rfl rfl ty_25 rfl rfl rfl rfl rfl ?_
      refine XO.assign rfl rfl ?_
      refine XO.nil ?_
      refine XC.seq2 ?_
      refine XC.ret ?_
      refine seqX_ret ?_
      refine ⟨rfl, _, [], (resC_cell 0 rfl rfl ty_25 rfl rfl (resC_tmp rfl resC_nil)), (by repeat (first | exact List.Sublist.refl _ | apply List.Sublist.cons)), RetR.mk ?_⟩
      rw [show sendV n p = (⟨[], []⟩, 60) from if_pos (fun h => absurd h.2 (by assumption))]
      exact ⟨_, rfl, NtV.nil _⟩
    · have hnet : netOk n := chk_eq.1 (by omega)
      have hok : pkOk p := Decidable.not_not.1 (by assumption)
      have hlen := hnet.1
      have hqle := hq.le
      refine XC.skip ?_
      refine XC.seq2 ?_
      refine XC.seq ?_
      refine XC.seq ?_
      refine XC.region ?_
      refine XO.fieldAddr rfl fa_25_0 rfl ?_
      refine XO.loadO 2 rfl rfl ty_22 rfl rfl rfl ?_
      refine XO.lenS (ts := #[]) rfl Try.underlying22 rfl ?_
      refine XO.eql rfl rfl rfl ?_
      refine XO.nil ?_
      refine XC.seq2 ?_
      refine XC.cond rfl (fun c1_5 => ?_) (fun c1_5 => ?_)
      · refine XC.seq ?_
        refine XC.region ?_
        refine XO.loadO 0 rfl rfl ty_25 rfl rfl rfl ?_
        refine XO.storeO 0 rfl rfl rfl rfl ty_25 rfl rfl rfl rfl rfl ?_
        refine XO.assign rfl rfl ?_
        refine XO.nil ?_
        refine XC.seq2 ?_
        refine XC.ret ?_
        refine seqX_ret ?_
        refine ⟨rfl, _, [], (resC_cell 0 rfl rfl ty_25 rfl rfl (resC_tmp rfl resC_nil)), (by repeat (first | exact List.Sublist.refl _ | apply List.Sublist.cons)), RetR.mk ?_⟩
        have hs : sendV n p = (⟨[], []⟩, 2) := by rw [sendV, if_neg (fun h => h ⟨hnet, hok⟩), if_pos (by omega)]
        rw [hs]
        exact ⟨_, rfl, NtV.nil _⟩
      · refine XC.skip ?_
        refine XC.seq2 ?_
        refine XC.seq ?_
        refine XC.keep [2, 3, 4] rfl ?_
        apply XC.drawG (fun _ => True) trivial 11 [eqF _, eqF _, eqF _, eqF _, eqF _, eqF _, eqF _, eqF _, slCap pkR n.q, eqF _, slF pkR [p]] follows (by kernel_rfl) (by kernel_rfl) ⟨eqF_mono _, eqF_mono _, eqF_mono _, eqF_mono _, eqF_mono _, eqF_mono _, eqF_mono _, eqF_mono _, slCap_mono _ _, eqF_mono _, slF_mono _ _, trivial⟩ ?steps6 ?tail6
        case steps6 =>
          refine stepsD_cons rfl ?_ ?_
          · intro X HD hleD _
            replace hq := hq.mono hleD
            replace hp := hp.mono hleD
            replace hd := hd.mono hleD
            refine withPreds_nil rfl ?_
            refine XO.fieldAddr rfl fa_25_0 rfl ?_
            refine XO.nil ?_
            exact stepQ_ok trivial (rfl)
          refine stepsD_cons rfl ?_ ?_
          · intro X HD hleD _
            replace hq := hq.mono hleD
            replace hp := hp.mono hleD
            replace hd := hd.mono hleD
            refine withPreds_cons rfl rfl ?_
            rintro _ rfl
            refine withPreds_nil rfl ?_
            refine XO.loadO 2 rfl rfl ty_22 rfl rfl rfl ?_
            refine XO.nil ?_
            exact stepQ_ok trivial (rfl)
          refine stepsD_cons rfl ?_ ?_
          · intro X HD hleD _
            replace hq := hq.mono hleD
            replace hp := hp.mono hleD
            replace hd := hd.mono hleD
            refine withPreds_nil rfl ?_
            refine XO.fieldAddr rfl fa_25_0 rfl ?_
            refine XO.nil ?_
            exact stepQ_ok trivial (rfl)
          refine stepsD_cons rfl ?_ ?_
          · intro X HD hleD _
            replace hq := hq.mono hleD
            replace hp := hp.mono hleD
            replace hd := hd.mono hleD
            refine withPreds_cons rfl rfl ?_
            rintro _ rfl
            refine withPreds_nil rfl ?_
            refine XO.loadO 2 rfl rfl ty_22 rfl rfl rfl ?_
            refine XO.nil ?_
            exact stepQ_ok trivial (rfl)
          refine stepsD_cons rfl ?_ ?_
          · intro X HD hleD _
            replace hq := hq.mono hleD
            replace hp := hp.mono hleD
            replace hd := hd.mono hleD
            refine withPreds_cons rfl rfl ?_
            rintro _ rfl
            refine withPreds_nil rfl ?_
            refine XO.lenS (ts := #[]) rfl Try.underlying22 rfl ?_
            refine XO.nil ?_
            exact stepQ_ok trivial (rfl)
          refine stepsD_cons rfl ?_ ?_
          · intro X HD hleD _
            replace hq := hq.mono hleD
            replace hp := hp.mono hleD
            replace hd := hd.mono hleD
            refine withPreds_nil rfl ?_
            refine XO.fieldAddr rfl fa_25_0 rfl ?_
            refine XO.nil ?_
            exact stepQ_ok trivial (rfl)
          refine stepsD_cons rfl ?_ ?_
          · intro X HD hleD _
            replace hq := hq.mono hleD
            replace hp := hp.mono hleD
            replace hd := hd.mono hleD
            refine withPreds_cons rfl rfl ?_
            rintro _ rfl
            refine withPreds_nil rfl ?_
            refine XO.loadO 2 rfl rfl ty_22 rfl rfl rfl ?_
            refine XO.nil ?_
            exact stepQ_ok trivial (rfl)
          refine stepsD_cons rfl ?_ ?_
          · intro X HD hleD _
            replace hq := hq.mono hleD
            replace hp := hp.mono hleD
            replace hd := hd.mono hleD
            refine withPreds_cons rfl rfl ?_
            rintro _ rfl
            refine withPreds_nil rfl ?_
            refine XO.lenS (ts := #[]) rfl Try.underlying22 rfl ?_
            refine XO.nil ?_
            exact stepQ_ok trivial (rfl)
          refine stepsD_cons rfl ?_ ?_
          · intro X HD hleD _
            replace hq := hq.mono hleD
            replace hp := hp.mono hleD
            replace hd := hd.mono hleD
            refine withPreds_cons rfl rfl ?_
            rintro _ rfl
            refine withPreds_cons rfl rfl ?_
            rintro _ rfl
            refine withPreds_cons rfl rfl ?_
            rintro _ rfl
            refine withPreds_nil rfl ?_
            refine XO.slice (lo' := 0) (hi' := (n.q.length : Int)) (m' := (n.q.length : Int)) rfl (by assumption) ev?_none (ev?_some rfl) (ev?_some rfl) (by simp) (by omega) (by omega) (by omega) (by omega) (by omega) Try.underlying22 ty_28 rfl (fun as28 ls28 hls28 hss28 => ?_)
            obtain rfl : ls28 = n.q := by first | (rw [hls28]; simp; done) | (rw [hls28]; simp; rw [List.take_of_length_le (by simp)])
            refine XO.nil ?_
            exact stepQ_ok trivial (⟨_, _, rfl, hss28, by simp⟩)
          refine stepsD_cons rfl ?_ ?_
          · intro X HD hleD _
            replace hq := hq.mono hleD
            replace hp := hp.mono hleD
            replace hd := hd.mono hleD
            refine withPreds_nil rfl ?_
            refine XO.loadO 1 rfl rfl ty_28 rfl rfl rfl ?_
            refine XO.nil ?_
            exact stepQ_ok trivial (rfl)
          refine stepsD_cons rfl ?_ ?_
          · intro X HD hleD _
            replace hq := hq.mono hleD
            replace hp := hp.mono hleD
            replace hd := hd.mono hleD
            refine withPreds_cons rfl rfl ?_
            rintro _ rfl
            refine withPreds_nil rfl ?_
            refine XO.buildSlice rfl Try.underlying22 ty_28 ze_28 rfl rfl rfl (fun b30 => ?_)
            refine XO.publish 0 rfl rfl rfl (fun HP30 oP30 hleP30 hbP30 hoP30 => ?_)
            replace hq := hq.mono hleP30
            replace hp := hp.mono hleP30
            replace hd := hd.mono hleP30
            have hsl30 := SlR.lit (ρ := pkR) (l := [p]) hbP30 hoP30 (RowsR.one1 ⟨_, _, rfl, hd⟩)
            refine XO.nil ?_
            exact stepQ_ok trivial (⟨_, rfl, hsl30⟩)
          exact stepsD_end rfl
        case tail6 =>
          intro HD hleD _
          replace hq := hq.mono hleD
          replace hp := hp.mono hleD
          replace hd := hd.mono hleD
          refine withPreds_cons rfl rfl ?_
          rintro _ rfl
          refine withPreds_cons rfl rfl ?_
          rintro _ rfl
          refine withPreds_cons rfl rfl ?_
          rintro _ rfl
          refine withPreds_cons rfl rfl ?_
          rintro _ rfl
          refine withPreds_cons rfl rfl ?_
          rintro _ rfl
          refine withPreds_cons rfl rfl ?_
          rintro _ rfl
          refine withPreds_cons rfl rfl ?_
          rintro _ rfl
          refine withPreds_cons rfl rfl ?_
          rintro _ rfl
          refine withPreds_cons rfl rfl ?_
          rintro _ ⟨a28, c28, rfl, hsl28, hcap28⟩
          refine withPreds_cons rfl rfl ?_
          rintro _ rfl
          refine withPreds_cons rfl rfl ?_
          rintro _ ⟨bs30, rfl, hsl30⟩
          refine withPreds_nil rfl ?_
          refine XO.appendP rfl hsl28 rfl rfl hsl30 rfl (by exact hcap28) Try.underlying22 ty_28 ze_28 rfl by_28 (by simp; omega) rfl (fun HA31 aA31 cA31 hleA31 hsA31 => ?_)
          replace hq := hq.mono hleA31
          replace hp := hp.mono hleA31
          replace hd := hd.mono hleA31
          replace hsl28 := hsl28.mono hleA31
          replace hsl30 := hsl30.mono hleA31
          refine XO.fieldAddr rfl fa_25_0 rfl ?_
          refine XO.storeO 2 rfl rfl rfl rfl ty_22 rfl rfl rfl rfl rfl ?_
          refine XO.nil ?_
          refine XC.seq2 ?_
          refine XC.seq ?_
          refine XC.region ?_
          refine XO.loadO 2 rfl rfl ty_25 rfl rfl rfl ?_
          refine XO.storeO 0 rfl rfl rfl rfl ty_25 rfl rfl rfl rfl rfl ?_
          refine XO.assign rfl rfl ?_
          refine XO.nil ?_
          refine XC.seq2 ?_
          refine XC.ret ?_
          refine ⟨rfl, _, [], (resC_cell 0 rfl rfl ty_25 rfl rfl (resC_tmp rfl resC_nil)), (by repeat (first | exact List.Sublist.refl _ | apply List.Sublist.cons)), RetR.mk ?_⟩
          have hs : sendV n p = (⟨n.q ++ [p], n.ap⟩, 0) := by rw [sendV, if_neg (fun h => h ⟨hnet, hok⟩), if_neg (by omega)]
          rw [hs]
          exact ⟨_, rfl, _, _, _, _, rfl, by assumption, by assumption⟩
  · have g2p := of_decide_eq_true g2
    refine XO.guardF rfl rfl (g2) rfl rfl ?_
    refine XO.guardF rfl rfl (g2) rfl rfl ?_
    refine XO.pickT rfl (g2) rfl rfl ?_
    refine XO.nil ?_
    refine XC.seq2 ?_
    refine XC.condT rfl (rfl) ?_
    refine XC.seq ?_
    refine XC.region ?_
    refine XO.loadO 0 rfl rfl ty_25 rfl rfl rfl ?_
    refine XO.storeO 0 rfl rfl rfl rfl ty_25 rfl rfl rfl rfl rfl ?_
    refine XO.assign rfl rfl ?_
    refine XO.nil ?_
    refine XC.seq2 ?_
    refine XC.ret ?_
    refine seqX_ret ?_
    refine ⟨rfl, _, [], (resC_cell 0 rfl rfl ty_25 rfl rfl (resC_tmp rfl resC_nil)), (by repeat (first | exact List.Sublist.refl _ | apply List.Sublist.cons)), RetR.mk ?_⟩
    rw [show sendV n p = (⟨[], []⟩, 60) from if_pos (fun h => absurd (chk_ok h.1) (by assumption))]
    exact ⟨_, rfl, NtV.nil _⟩

end Go.Proofs
