/- The walks of the functions of the graph: what each of them computes, at any input. -/
import Derived.Test.YtbfleiickdobnaaRcE
import Derived.Test.YtbfleiickdobnaaXMa
set_option autoImplicit false
set_option linter.unusedVariables false
set_option linter.unusedSimpArgs false
namespace Go.Proofs
open Go.XL



theorem small_fn (a : Option Addr) (c : Nat) (m : Tb) (H : Hp) (hs : SlR tbR H a c m) (hl : m.length < 9223372036854775808) : FnC Try.prog 22 #[.slice a m.length c] H [] (RetR (fun v _ _ => v = .bool (decide (smallG m)))) := by
  refine FnC.intro (args := [.slice a m.length c]) Try.func22 rfl rfl Try.ntmps22 rfl rfl rfl fun G rest => ?_
  refine XC.seq ?_
  refine XC.region ?_
  refine XO.assign rfl rfl ?_
  refine XO.nil ?_
  refine XC.seq2 ?_
  refine XC.seq ?_
  refine XC.region ?_
  refine XO.move rfl rfl ?_
  refine XO.lenS (ts := #[]) rfl Try.underlying22 rfl ?_
  refine XO.leq rfl rfl rfl ?_
  refine XO.move rfl rfl ?_
  refine XO.guardC rfl rfl rfl rfl (fun g1 => ?_) (fun g1 => ?_)
  · have g1p := of_decide_eq_true g1
    refine XO.move rfl rfl ?_
    refine XO.guardT rfl rfl (g1) rfl ?_
    refine XO.callV rfl (few_fn _ _ m _ hs hl) rfl ?_
    refine XO.pickT rfl (g1) rfl rfl ?_
    refine XO.move rfl rfl ?_
    refine XO.guardC rfl rfl rfl rfl (fun g3 => ?_) (fun g3 => ?_)
    · have g3p := of_decide_eq_true g3
      refine XO.move rfl rfl ?_
      refine XO.guardT rfl rfl (g3) rfl ?_
      refine XO.callV rfl (rcheck_fn _ _ m _ hs hl) rfl ?_
      refine XO.guardT rfl rfl (g3) rfl ?_
      refine XO.eql rfl rfl rfl ?_
      refine XO.pickT rfl (g3) rfl rfl ?_
      refine XO.move rfl rfl ?_
      refine XO.guardC rfl rfl rfl rfl (fun g5 => ?_) (fun g5 => ?_)
      · have g5p := of_decide_eq_true g5
        refine XO.move rfl rfl ?_
        refine XO.guardT rfl rfl (g5) rfl ?_
        refine XO.callV rfl (judges_fn _ _ m _ hs hl) rfl ?_
        refine XO.guardT rfl rfl (g5) rfl ?_
        refine XO.leq rfl rfl rfl ?_
        refine XO.pickT rfl (g5) rfl rfl ?_
        refine XO.assign rfl rfl ?_
        refine XO.nil ?_
        refine XC.seq2 ?_
        refine XC.ret ?_
        refine ⟨rfl, _, [], rfl, (by repeat (first | exact List.Sublist.refl _ | apply List.Sublist.cons)), RetR.mk ?_⟩
        first | exact congrArg Value.bool (decide_eq_decide.2 ⟨fun h => ⟨by omega, by assumption, by omega, by omega⟩, fun h => by have := h.2.2.2; omega⟩) | exact congrArg Value.bool (decide_eq_false (fun h => absurd h.1 (by omega))).symm | exact congrArg Value.bool (decide_eq_false (fun h => absurd h.2.1 (by assumption))).symm | exact congrArg Value.bool (decide_eq_false (fun h => absurd h.2.2.1 (by assumption))).symm
      · have g5p := of_decide_eq_false g5
        refine XO.guardF rfl rfl (g5) rfl rfl ?_
        refine XO.guardF rfl rfl (g5) rfl rfl ?_
        refine XO.pickF rfl (g5) rfl rfl ?_
        refine XO.assign rfl rfl ?_
        refine XO.nil ?_
        refine XC.seq2 ?_
        refine XC.ret ?_
        refine ⟨rfl, _, [], rfl, (by repeat (first | exact List.Sublist.refl _ | apply List.Sublist.cons)), RetR.mk ?_⟩
        first | exact congrArg Value.bool (decide_eq_decide.2 ⟨fun h => ⟨by omega, by assumption, by omega, by omega⟩, fun h => by have := h.2.2.2; omega⟩) | exact congrArg Value.bool (decide_eq_false (fun h => absurd h.1 (by omega))).symm | exact congrArg Value.bool (decide_eq_false (fun h => absurd h.2.1 (by assumption))).symm | exact congrArg Value.bool (decide_eq_false (fun h => absurd h.2.2.1 (by assumption))).symm
    · have g3p := of_decide_eq_false g3
      refine XO.guardF rfl rfl (g3) rfl rfl ?_
      refine XO.guardF rfl rfl (g3) rfl rfl ?_
      refine XO.pickF rfl (g3) rfl rfl ?_
      refine XO.move rfl rfl ?_
      refine XO.guardF rfl rfl (rfl) rfl rfl ?_
      refine XO.guardF rfl rfl (rfl) rfl rfl ?_
      refine XO.guardF rfl rfl (rfl) rfl rfl ?_
      refine XO.pickF rfl (rfl) rfl rfl ?_
      refine XO.assign rfl rfl ?_
      refine XO.nil ?_
      refine XC.seq2 ?_
      refine XC.ret ?_
      refine ⟨rfl, _, [], rfl, (by repeat (first | exact List.Sublist.refl _ | apply List.Sublist.cons)), RetR.mk ?_⟩
      first | exact congrArg Value.bool (decide_eq_decide.2 ⟨fun h => ⟨by omega, by assumption, by omega, by omega⟩, fun h => by have := h.2.2.2; omega⟩) | exact congrArg Value.bool (decide_eq_false (fun h => absurd h.1 (by omega))).symm | exact congrArg Value.bool (decide_eq_false (fun h => absurd h.2.1 (by assumption))).symm | exact congrArg Value.bool (decide_eq_false (fun h => absurd h.2.2.1 (by assumption))).symm
  · have g1p := of_decide_eq_false g1
    refine XO.guardF rfl rfl (g1) rfl rfl ?_
    refine XO.pickF rfl (g1) rfl rfl ?_
    refine XO.move rfl rfl ?_
    refine XO.guardF rfl rfl (rfl) rfl rfl ?_
    refine XO.guardF rfl rfl (rfl) rfl rfl ?_
    refine XO.guardF rfl rfl (rfl) rfl rfl ?_
    refine XO.pickF rfl (rfl) rfl rfl ?_
    refine XO.move rfl rfl ?_
    refine XO.guardF rfl rfl (rfl) rfl rfl ?_
    refine XO.guardF rfl rfl (rfl) rfl rfl ?_
    refine XO.guardF rfl rfl (rfl) rfl rfl ?_
    refine XO.pickF rfl (rfl) rfl rfl ?_
    refine XO.assign rfl rfl ?_
    refine XO.nil ?_
    refine XC.seq2 ?_
    refine XC.ret ?_
    refine ⟨rfl, _, [], rfl, (by repeat (first | exact List.Sublist.refl _ | apply List.Sublist.cons)), RetR.mk ?_⟩
    first | exact congrArg Value.bool (decide_eq_decide.2 ⟨fun h => ⟨by omega, by assumption, by omega, by omega⟩, fun h => by have := h.2.2.2; omega⟩) | exact congrArg Value.bool (decide_eq_false (fun h => absurd h.1 (by omega))).symm | exact congrArg Value.bool (decide_eq_false (fun h => absurd h.2.1 (by assumption))).symm | exact congrArg Value.bool (decide_eq_false (fun h => absurd h.2.2.1 (by assumption))).symm

theorem rising_fn (a : Option Addr) (c : Nat) (l : List Int) (n : Nat) (H : Hp) (hs : SlR (intR .i64) H a c l) (hl : l.length ≤ 1000) (hR : chkR l n) : FnC Try.prog 24 #[.slice a l.length c, .int .i64 (n : Nat)] H [] (RetR (fun v _ _ => v = .bool true)) := by
  refine FnC.intro (args := [.slice a l.length c, .int .i64 (n : Nat)]) Try.func24 rfl rfl Try.ntmps24 rfl rfl rfl fun G rest => ?_
  refine XC.seq ?_
  refine XC.region ?_
  refine XO.assign rfl rfl ?_
  refine XO.nil ?_
  refine XC.seq2 ?_
  refine XC.seq ?_
  refine XC.seq ?_
  refine XC.region ?_
  refine XO.move rfl rfl ?_
  refine XO.lenS (ts := #[]) rfl Try.underlying29 rfl ?_
  refine XO.move rfl rfl ?_
  refine XO.nil ?_
  refine XC.seq2 ?_
  refine XC.block ?_
  refine XC.keep [9, 0, 1, 7, 8] rfl ?_
  refine XC.loop (base := [(0, _), (1, _), (7, _), (8, _)]) (fun ζ : Nat => [(9, .int .i64 (ζ : Nat))]) (fun ζ Hl own => ζ ≤ l.length ∧ rest = own) (fun ζ => l.length - ζ) 0 (prov_cons (rfl) (prov_cons (rfl) (prov_cons (rfl) (prov_cons (rfl) (prov_cons (rfl) prov_nil))))) (by repeat (first | exact List.Sublist.refl _ | apply List.Sublist.cons_cons | apply List.Sublist.cons)) ⟨Nat.zero_le _, rfl⟩ ?_
  rintro k Hl0 _ hle0 ⟨hkk, rfl⟩
  replace hs := hs.mono hle0
  try dsimp only at ⊢
  refine XC.seq ?_
  refine XC.region ?_
  refine XO.lss rfl rfl rfl ?_
  refine XO.nil ?_
  refine XC.seq2 ?_
  refine XC.seq ?_
  refine XC.cond rfl (fun c0_1 => ?_) (fun c0_1 => ?_)
  · refine XC.skip ?_
    refine XC.seq2 ?_
    refine XC.seq ?_
    refine XC.block ?_
    refine XC.seq ?_
    refine XC.region ?_
    refine XO.move rfl rfl ?_
    refine XO.indexN rfl hs rfl Try.underlying29 ty_3 (by omega) rfl ?_
    rintro eb12 eo12 _ x12 hx12 rfl hp12
    refine XO.loadH rfl (by assumption) ty_3 rfl rfl rfl ?_
    refine XO.assign rfl rfl ?_
    refine XO.assign rfl rfl ?_
    refine XO.nil ?_
    refine XC.seq2 ?_
    refine XC.seq ?_
    refine XC.region ?_
    obtain ⟨r1, r2, r3⟩ := hR _ _ hx12
    refine XO.move rfl rfl ?_
    refine XO.lss rfl rfl rfl ?_
    refine XO.move rfl rfl ?_
    refine XO.guardT rfl rfl (decide_eq_false (by omega)) rfl ?_
    refine XO.move rfl rfl ?_
    refine XO.guardT rfl rfl (decide_eq_false (by omega)) rfl ?_
    refine XO.move rfl rfl ?_
    refine XO.guardT rfl rfl (decide_eq_false (by omega)) rfl ?_
    refine XO.geq rfl rfl rfl ?_
    refine XO.pickF rfl (decide_eq_false (by omega)) rfl rfl ?_
    refine XO.move rfl rfl ?_
    refine XO.guardT rfl rfl (decide_eq_false (by omega)) rfl ?_
    refine XO.move rfl rfl ?_
    refine XO.guardT rfl rfl (decide_eq_false (by omega)) rfl ?_
    refine XO.gtr rfl rfl rfl ?_
    refine XO.guardT rfl rfl (decide_eq_false (by omega)) rfl ?_
    refine XO.move rfl rfl ?_
    refine XO.guardC rfl rfl rfl rfl (fun g3 => ?_) (fun g3 => ?_)
    · have g3p := of_decide_eq_true g3
      refine XO.move rfl rfl ?_
      refine XO.guardT rfl rfl (g3) rfl ?_
      refine XO.move rfl rfl ?_
      refine XO.guardT rfl rfl (g3) rfl ?_
      refine XO.sub (c := ((k - 1 : Nat) : Int)) rfl rfl ((wrap_i64 (by omega) (by omega)).trans (by omega)) rfl ?_
      refine XO.guardT rfl rfl (g3) rfl ?_
      refine XO.indexN (i := k - 1) rfl hs rfl Try.underlying29 ty_3 (by omega) rfl ?_
      rintro eb28 eo28 _ x28 hx28 rfl hp28
      refine XO.guardT rfl rfl (g3) rfl ?_
      refine XO.loadH rfl (by assumption) ty_3 rfl rfl rfl ?_
      refine XO.guardT rfl rfl (g3) rfl ?_
      refine XO.move rfl rfl ?_
      refine XO.guardT rfl rfl (g3) rfl ?_
      refine XO.geq rfl rfl rfl ?_
      refine XO.guardT rfl rfl (decide_eq_false (by omega)) rfl ?_
      refine XO.pickT rfl (g3) rfl rfl ?_
      refine XO.pickF rfl (decide_eq_false (by omega)) rfl rfl ?_
      refine XO.nil ?_
      refine XC.seq2 ?_
      refine XC.condF rfl (decide_eq_false (by have := r3 _ (by omega) hx28; omega)) ?_
      refine XC.skip ?_
      refine blockN ?_
      refine XC.seq2 ?_
      refine XC.region ?_
      refine XO.add rfl rfl (wrap_i64 (by omega) (by omega)) rfl ?_
      refine XO.move rfl rfl ?_
      refine XO.nil ?_
      refine loop_next (k + 1) (by show l.length - (k + 1) < l.length - k; omega) (prov_cons (rfl) (prov_cons (rfl) (prov_cons (rfl) (prov_cons (rfl) (prov_cons (rfl) prov_nil))))) (⟨by show k + 1 ≤ l.length; omega, rfl⟩) (by repeat (first | exact List.Sublist.refl _ | apply List.Sublist.cons_cons | apply List.Sublist.cons)) (hle0)
    · have g3p := of_decide_eq_false g3
      refine XO.guardF rfl rfl (g3) rfl rfl ?_
      refine XO.guardF rfl rfl (g3) rfl rfl ?_
      refine XO.guardF rfl rfl (g3) rfl rfl ?_
      refine XO.guardF rfl rfl (g3) rfl rfl ?_
      refine XO.guardF rfl rfl (g3) rfl rfl ?_
      refine XO.guardF rfl rfl (g3) rfl rfl ?_
      refine XO.guardT rfl rfl (decide_eq_false (by omega)) rfl ?_
      refine XO.pickF rfl (g3) rfl rfl ?_
      refine XO.pickF rfl (decide_eq_false (by omega)) rfl rfl ?_
      refine XO.nil ?_
      refine XC.seq2 ?_
      refine XC.condF rfl (rfl) ?_
      refine XC.skip ?_
      refine blockN ?_
      refine XC.seq2 ?_
      refine XC.region ?_
      refine XO.add rfl rfl (wrap_i64 (by omega) (by omega)) rfl ?_
      refine XO.move rfl rfl ?_
      refine XO.nil ?_
      refine loop_next (k + 1) (by show l.length - (k + 1) < l.length - k; omega) (prov_cons (rfl) (prov_cons (rfl) (prov_cons (rfl) (prov_cons (rfl) (prov_cons (rfl) prov_nil))))) (⟨by show k + 1 ≤ l.length; omega, rfl⟩) (by repeat (first | exact List.Sublist.refl _ | apply List.Sublist.cons_cons | apply List.Sublist.cons)) (hle0)
  · refine XC.exit ?_
    refine seqX_exit ?_
    refine loopX_exit ?_
    refine blockHit rfl ?_
    refine XC.seq2 ?_
    refine XC.seq ?_
    refine XC.region ?_
    refine XO.assign rfl rfl ?_
    refine XO.nil ?_
    refine XC.seq2 ?_
    refine XC.ret ?_
    refine ⟨rfl, _, [], rfl, (by repeat (first | exact List.Sublist.refl _ | apply List.Sublist.cons)), RetR.mk ?_⟩
    rfl

end Go.Proofs
